/- What the functions compute, as functions on lists and numbers. Printed by a program from the code; nothing is claimed here. -/
import Derived.Test.YtnjpjmeoednfcaaM0
namespace Go.Proofs.Ytnjpjmeoednfcaa
open Go A
set_option linter.unusedVariables false

structure Piece where
  mk ::
  Name : ByteArray
  Size : Int
  Hart : Int
structure data_key where
  mk ::
  name : ByteArray
  hart : Int
structure data_piece where
  mk ::
  Piece : Piece
def data_key.beq (x y : data_key) : Bool := ((x.name.toList == y.name.toList) && (x.hart == y.hart))
theorem data_key.beq_eq {x y : data_key} (h : data_key.beq x y = true) : x = y := by
  obtain ⟨a1, a2⟩ := x
  obtain ⟨b3, b4⟩ := y
  unfold data_key.beq at h
  simp only [Bool.and_eq_true, beq_iff_eq, toList_iff] at h
  simp_all
theorem data_key.beq_refl (x : data_key) : data_key.beq x x = true := by
  unfold data_key.beq
  simp
def Piece.wf (x : Piece) : Prop := (x.Name.size ≤ maxLen) ∧ (inR .i64 x.Size) ∧ (inR .i64 x.Hart)
def law_lives (n : Nat) : Option Bool := some true
def law_light_L1 (n : Nat) (l : (List Piece)) (sa : Int) : Option (Int ⊕ (Unit ⊕ Unit)) :=
  if (decide (sa < (l.length : Int))) = true then
    if (decide (sa ≤ 40)) = true then
      (getI l sa).bind fun xa3 =>
      if (decide ((xa3.Name.size : Int) > 100)) = true then
        some (.inr (.inr ()))
      else
        some (.inl (addW .i64 sa 1))
    else
      some (.inr (.inl ()))
  else
    some (.inr (.inl ()))
def law_light (n : Nat) (l : (List Piece)) : Option Bool :=
  (iter (fun s => law_light_L1 n l s) n 0).bind fun t1 =>
  match t1 with
  | .inl w2 =>
    some (decide ((l.length : Int) ≤ 40))
  | .inr w2 =>
    some false
def data_piece_may (n : Nat) (p : data_piece) : Option Bool :=
  if (decide ((p.Piece.Name.size : Int) ≥ 1)) = true then
    if (decide ((p.Piece.Name.size : Int) ≤ 32)) = true then
      if (decide (p.Piece.Size ≥ 1)) = true then
        if (decide (p.Piece.Size ≤ 65536)) = true then
          if (decide (p.Piece.Hart ≥ (-1))) = true then
            some (decide (p.Piece.Hart < 8))
          else
            some false
        else
          some false
      else
        some false
    else
      some false
  else
    some false
def data_Check_L1 (n : Nat) (l : (List Piece)) (sa : (List (data_key × Int)) × Int × Int) : Option (((List (data_key × Int)) × Int × Int) ⊕ (Unit ⊕ Int)) :=
  if (decide (sa.2.1 < (l.length : Int))) = true then
    (getI l sa.2.1).bind fun xa2 =>
    (data_piece_may n (data_piece.mk xa2)).bind fun ya3 =>
    if (!ya3) = true then
      some (.inr (.inr 2))
    else
      if (((mget data_key.beq sa.1 (data_key.mk xa2.Name xa2.Hart)).getD 0) != 0) = true then
        some (.inr (.inr 8))
      else
        if (decide (sa.2.1 ≥ 1024)) = true then
          some (.inr (.inr 7))
        else
          if (decide ((addW .i64 sa.2.2 xa2.Size) > 65536)) = true then
            some (.inr (.inr 7))
          else
            some (.inl ((mput data_key.beq sa.1 (data_key.mk xa2.Name xa2.Hart) 1), (addW .i64 sa.2.1 1), (addW .i64 sa.2.2 xa2.Size)))
  else
    some (.inr (.inl ()))
def data_Check (n : Nat) (l : (List Piece)) : Option Int :=
  (iter (fun s => data_Check_L1 n l s) n (([] : (List (data_key × Int))), 0, 0)).bind fun t1 =>
  match t1 with
  | .inl w2 =>
    some 0
  | .inr w2 =>
    some w2
def data_piece_bytes (n : Nat) (p : data_piece) : Option Int :=
  some (mulW .u64 8 (IntKind.wrap .u64 p.Piece.Size))
def data_Part_L1 (n : Nat) (l : (List Piece)) (hart : Int) (sa : Int × Int × Int) : Option ((Int × Int × Int) ⊕ (Int × Int)) :=
  if (decide (sa.1 < (l.length : Int))) = true then
    (getI l sa.1).bind fun xa2 =>
    if (decide (xa2.Hart < hart)) = true then
      (data_piece_bytes n (data_piece.mk xa2)).bind fun ya4 =>
      if (decide (xa2.Hart ≤ hart)) = true then
        (data_piece_bytes n (data_piece.mk xa2)).bind fun ya6 =>
        some (.inl ((addW .i64 sa.1 1), (addW .u64 sa.2.1 ya4), (addW .u64 sa.2.2 ya6)))
      else
        some (.inl ((addW .i64 sa.1 1), (addW .u64 sa.2.1 ya4), sa.2.2))
    else
      if (decide (xa2.Hart ≤ hart)) = true then
        (data_piece_bytes n (data_piece.mk xa2)).bind fun ya5 =>
        some (.inl ((addW .i64 sa.1 1), sa.2.1, (addW .u64 sa.2.2 ya5)))
      else
        some (.inl ((addW .i64 sa.1 1), sa.2.1, sa.2.2))
  else
    some (.inr (sa.2.1, sa.2.2))
def data_Part (n : Nat) (l : (List Piece)) (hart : Int) : Option (Int × Int × Int) :=
  (data_Check n l).bind fun y1 =>
  if (y1 != 0) = true then
    some (0, 0, y1)
  else
    if (decide (hart < (-1))) = true then
      some (0, 0, 2)
    else
      if (decide (hart ≥ 8)) = true then
        some (0, 0, 2)
      else
        (iter (fun s => data_Part_L1 n l hart s) n (0, 1048576, 1048576)).bind fun t5 =>
        some (t5.1, t5.2, 0)
def data_Size_L1 (n : Nat) (l : (List Piece)) (sa : Int × Int) : Option ((Int × Int) ⊕ Int) :=
  if (decide (sa.1 < (l.length : Int))) = true then
    (getI l sa.1).bind fun xa2 =>
    some (.inl ((addW .i64 sa.1 1), (addW .i64 sa.2 xa2.Size)))
  else
    some (.inr sa.2)
def data_Size (n : Nat) (l : (List Piece)) : Option Int :=
  (data_Check n l).bind fun y1 =>
  if (y1 != 0) = true then
    some 0
  else
    (iter (fun s => data_Size_L1 n l s) n (0, 0)).bind fun t3 =>
    some t3
def kit_Pick (n : Nat) (n_ : Int) (m : Int) : Option Int :=
  if (decide (m < 1)) = true then
    some 0
  else
    grd (decide (IntKind.i64 = IntKind.i64) && !(m == 0)) <|
    if (decide ((remW .i64 n_ m) < 0)) = true then
      some (addW .i64 (remW .i64 n_ m) m)
    else
      some (remW .i64 n_ m)
def kit_Own_Piece_S (n : Nat) (l : (List Piece)) : Option Unit :=
  grd (Nat.ble (l.length * 32) 140737488355328) <|
  some ()
def law_DataParts_L1 (n : Nat) (l : (List Piece)) (a : Int) (a_ : Int) (sa : Int × Int) : Option ((Int × Int) ⊕ (Int ⊕ Unit)) :=
  if (decide (sa.2 < 8)) = true then
    (data_Part n l sa.2).bind fun ya2 =>
    if (ya2.2.2 != 0) = true then
      some (.inr (.inr ()))
    else
      if (ya2.1 != sa.1) = true then
        some (.inr (.inr ()))
      else
        if (decide (ya2.2.1 < ya2.1)) = true then
          some (.inr (.inr ()))
        else
          some (.inl (ya2.2.1, (addW .i64 sa.2 1)))
  else
    some (.inr (.inl sa.1))
def law_DataParts_L2 (n : Nat) (l : (List Piece)) (y11 : Int) (y12 : Int) (sa : Int) : Option (Int ⊕ (Unit ⊕ Unit)) :=
  if (decide (sa < 8)) = true then
    (data_Part n l sa).bind fun ya2 =>
    (data_Part n (l ++ ([(Piece.mk (ByteArray.mk #[111, 110, 101, 32, 109, 111, 114, 101, 32, 116, 104, 97, 116, 32, 104, 97, 115, 32, 110, 111, 32, 111, 116, 104, 101, 114, 32, 110, 97, 109, 101]) (addW .i64 1 y12) (subW .i64 y11 1))] : List Piece)) sa).bind fun ya3 =>
    if (decide (sa < (subW .i64 y11 1))) = true then
      if (ya2.1 != ya3.1) = true then
        some (.inr (.inr ()))
      else
        if (ya2.2.1 != ya3.2.1) = true then
          some (.inr (.inr ()))
        else
          if (sa == (subW .i64 y11 1)) = true then
            if (ya2.1 != ya3.1) = true then
              some (.inr (.inr ()))
            else
              if ((addW .u64 ya2.2.1 (mulW .u64 8 (IntKind.wrap .u64 (addW .i64 1 y12)))) != ya3.2.1) = true then
                some (.inr (.inr ()))
              else
                if (decide (sa > (subW .i64 y11 1))) = true then
                  if ((addW .u64 ya2.1 (mulW .u64 8 (IntKind.wrap .u64 (addW .i64 1 y12)))) != ya3.1) = true then
                    some (.inr (.inr ()))
                  else
                    if ((addW .u64 ya2.2.1 (mulW .u64 8 (IntKind.wrap .u64 (addW .i64 1 y12)))) != ya3.2.1) = true then
                      some (.inr (.inr ()))
                    else
                      some (.inl (addW .i64 sa 1))
                else
                  some (.inl (addW .i64 sa 1))
          else
            if (decide (sa > (subW .i64 y11 1))) = true then
              if ((addW .u64 ya2.1 (mulW .u64 8 (IntKind.wrap .u64 (addW .i64 1 y12)))) != ya3.1) = true then
                some (.inr (.inr ()))
              else
                if ((addW .u64 ya2.2.1 (mulW .u64 8 (IntKind.wrap .u64 (addW .i64 1 y12)))) != ya3.2.1) = true then
                  some (.inr (.inr ()))
                else
                  some (.inl (addW .i64 sa 1))
            else
              some (.inl (addW .i64 sa 1))
    else
      if (sa == (subW .i64 y11 1)) = true then
        if (ya2.1 != ya3.1) = true then
          some (.inr (.inr ()))
        else
          if ((addW .u64 ya2.2.1 (mulW .u64 8 (IntKind.wrap .u64 (addW .i64 1 y12)))) != ya3.2.1) = true then
            some (.inr (.inr ()))
          else
            if (decide (sa > (subW .i64 y11 1))) = true then
              if ((addW .u64 ya2.1 (mulW .u64 8 (IntKind.wrap .u64 (addW .i64 1 y12)))) != ya3.1) = true then
                some (.inr (.inr ()))
              else
                if ((addW .u64 ya2.2.1 (mulW .u64 8 (IntKind.wrap .u64 (addW .i64 1 y12)))) != ya3.2.1) = true then
                  some (.inr (.inr ()))
                else
                  some (.inl (addW .i64 sa 1))
            else
              some (.inl (addW .i64 sa 1))
      else
        if (decide (sa > (subW .i64 y11 1))) = true then
          if ((addW .u64 ya2.1 (mulW .u64 8 (IntKind.wrap .u64 (addW .i64 1 y12)))) != ya3.1) = true then
            some (.inr (.inr ()))
          else
            if ((addW .u64 ya2.2.1 (mulW .u64 8 (IntKind.wrap .u64 (addW .i64 1 y12)))) != ya3.2.1) = true then
              some (.inr (.inr ()))
            else
              some (.inl (addW .i64 sa 1))
        else
          some (.inl (addW .i64 sa 1))
  else
    some (.inr (.inl ()))
def law_DataParts (n : Nat) (l : (List Piece)) (a : Int) (a_ : Int) : Option Bool :=
  (law_lives n).bind fun y1 =>
  if (!y1) = true then
    some false
  else
    (law_light n l).bind fun y3 =>
    if (!y3) = true then
      some true
    else
      (data_Check n l).bind fun y5 =>
      if (y5 != 0) = true then
        some true
      else
        (iter (fun s => law_DataParts_L1 n l a a_ s) n (1048576, (-1))).bind fun t7 =>
        match t7 with
        | .inl w8 =>
          (data_Size n l).bind fun y9 =>
          if (w8 != (addW .u64 1048576 (mulW .u64 8 (IntKind.wrap .u64 y9)))) = true then
            some false
          else
            (kit_Pick n a 9).bind fun y11 =>
            (kit_Pick n a_ 50).bind fun y12 =>
            (kit_Own_Piece_S n l).bind fun y13 =>
            grd (Nat.ble ((l.length + 1) * 32) 140737488355328) <|
            (data_Check n (l ++ ([(Piece.mk (ByteArray.mk #[111, 110, 101, 32, 109, 111, 114, 101, 32, 116, 104, 97, 116, 32, 104, 97, 115, 32, 110, 111, 32, 111, 116, 104, 101, 114, 32, 110, 97, 109, 101]) (addW .i64 1 y12) (subW .i64 y11 1))] : List Piece))).bind fun y15 =>
            if (y15 != 0) = true then
              some true
            else
              (iter (fun s => law_DataParts_L2 n l y11 y12 s) n (-1)).bind fun t17 =>
              match t17 with
              | .inl w18 =>
                some true
              | .inr w18 =>
                some false
        | .inr w8 =>
          some false

end Go.Proofs.Ytnjpjmeoednfcaa
