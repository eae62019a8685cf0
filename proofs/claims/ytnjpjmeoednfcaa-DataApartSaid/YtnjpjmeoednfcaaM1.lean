/- What the functions compute, as functions on lists and numbers. Printed by a program from the code; nothing is claimed here. -/
import Derived.Test.YtnjpjmeoednfcaaM0
namespace Go.Proofs.Ytnjpjmeoednfcaa
open Go A
set_option linter.unusedVariables false

structure Piece where
  mk ::
  Name : ByteArray
  Size : Int
  Hart : Int
structure data_key where
  mk ::
  name : ByteArray
  hart : Int
structure data_piece where
  mk ::
  Piece : Piece
structure Seat where
  mk ::
  Piece : Piece
  Addr : Int
def Seat.beq (x y : Seat) : Bool := (((x.Piece.Name.toList == y.Piece.Name.toList) && ((x.Piece.Size == y.Piece.Size) && (x.Piece.Hart == y.Piece.Hart))) && (x.Addr == y.Addr))
theorem Seat.beq_eq {x y : Seat} (h : Seat.beq x y = true) : x = y := by
  obtain ⟨⟨a1, a2, a3⟩, a4⟩ := x
  obtain ⟨⟨b5, b6, b7⟩, b8⟩ := y
  unfold Seat.beq at h
  simp only [Bool.and_eq_true, beq_iff_eq, toList_iff] at h
  simp_all
theorem Seat.beq_refl (x : Seat) : Seat.beq x x = true := by
  unfold Seat.beq
  simp
def data_key.beq (x y : data_key) : Bool := ((x.name.toList == y.name.toList) && (x.hart == y.hart))
theorem data_key.beq_eq {x y : data_key} (h : data_key.beq x y = true) : x = y := by
  obtain ⟨a9, a10⟩ := x
  obtain ⟨b11, b12⟩ := y
  unfold data_key.beq at h
  simp only [Bool.and_eq_true, beq_iff_eq, toList_iff] at h
  simp_all
theorem data_key.beq_refl (x : data_key) : data_key.beq x x = true := by
  unfold data_key.beq
  simp
def Piece.wf (x : Piece) : Prop := (x.Name.size ≤ maxLen) ∧ (inR .i64 x.Size) ∧ (inR .i64 x.Hart)
def law_lives (n : Nat) : Option Bool := some true
def law_light_L1 (n : Nat) (l : (List Piece)) (sa : Int) : Option (Int ⊕ (Unit ⊕ Unit)) :=
  if (decide (sa < (l.length : Int))) = true then
    if (decide (sa ≤ 40)) = true then
      (getI l sa).bind fun xa3 =>
      if (decide ((xa3.Name.size : Int) > 100)) = true then
        some (.inr (.inr ()))
      else
        some (.inl (addW .i64 sa 1))
    else
      some (.inr (.inl ()))
  else
    some (.inr (.inl ()))
def law_light (n : Nat) (l : (List Piece)) : Option Bool :=
  (iter (fun s => law_light_L1 n l s) n 0).bind fun t1 =>
  match t1 with
  | .inl w2 =>
    some (decide ((l.length : Int) ≤ 40))
  | .inr w2 =>
    some false
def data_piece_may (n : Nat) (p : data_piece) : Option Bool :=
  if (decide ((p.Piece.Name.size : Int) ≥ 1)) = true then
    if (decide ((p.Piece.Name.size : Int) ≤ 32)) = true then
      if (decide (p.Piece.Size ≥ 1)) = true then
        if (decide (p.Piece.Size ≤ 65536)) = true then
          if (decide (p.Piece.Hart ≥ (-1))) = true then
            some (decide (p.Piece.Hart < 8))
          else
            some false
        else
          some false
      else
        some false
    else
      some false
  else
    some false
def data_Check_L1 (n : Nat) (l : (List Piece)) (sa : (List (data_key × Int)) × Int × Int) : Option (((List (data_key × Int)) × Int × Int) ⊕ (Unit ⊕ Int)) :=
  if (decide (sa.2.1 < (l.length : Int))) = true then
    (getI l sa.2.1).bind fun xa2 =>
    (data_piece_may n (data_piece.mk xa2)).bind fun ya3 =>
    if (!ya3) = true then
      some (.inr (.inr 2))
    else
      if (((mget data_key.beq sa.1 (data_key.mk xa2.Name xa2.Hart)).getD 0) != 0) = true then
        some (.inr (.inr 8))
      else
        if (decide (sa.2.1 ≥ 1024)) = true then
          some (.inr (.inr 7))
        else
          if (decide ((addW .i64 sa.2.2 xa2.Size) > 65536)) = true then
            some (.inr (.inr 7))
          else
            some (.inl ((mput data_key.beq sa.1 (data_key.mk xa2.Name xa2.Hart) 1), (addW .i64 sa.2.1 1), (addW .i64 sa.2.2 xa2.Size)))
  else
    some (.inr (.inl ()))
def data_Check (n : Nat) (l : (List Piece)) : Option Int :=
  (iter (fun s => data_Check_L1 n l s) n (([] : (List (data_key × Int))), 0, 0)).bind fun t1 =>
  match t1 with
  | .inl w2 =>
    some 0
  | .inr w2 =>
    some w2
def kit_Own_Piece_S (n : Nat) (l : (List Piece)) : Option Unit :=
  grd (Nat.ble (l.length * 32) 140737488355328) <|
  some ()
def slices_Clone_api_Piece_api_Piece_S (n : Nat) (s_ : Piece) (s__ : (List Piece)) : Option (List Piece) :=
  grd (Nat.ble ((s_ :: s__).length * 32) 140737488355328) <|
  some (s_ :: s__)
def data_piece_part (n : Nat) (p : data_piece) : Option Int :=
  some p.Piece.Hart
def cmp_isNaN_int (n : Nat) (x : Int) : Option Bool :=
  some (x != x)
def cmp_Compare_int (n : Nat) (x : Int) (y : Int) : Option Int :=
  (cmp_isNaN_int n x).bind fun y1 =>
  (cmp_isNaN_int n y).bind fun y2 =>
  if y1 = true then
    if y2 = true then
      some 0
    else
      some (-1)
  else
    if y2 = true then
      some 1
    else
      if (decide (x < y)) = true then
        some (-1)
      else
        if (decide (x > y)) = true then
          some 1
        else
          some 0
def data_Lay_1 (n : Nat) (a : Piece) (b : Piece) : Option Int :=
  (data_piece_part n (data_piece.mk a)).bind fun y1 =>
  (data_piece_part n (data_piece.mk b)).bind fun y2 =>
  (cmp_Compare_int n y1 y2).bind fun y3 =>
  some y3
def slices_insertionSortCmpFunc_Piece_S_L2 (n : Nat) (a : Int) (b : Int) (sb : (List Piece) × Int × Int) : Option (((List Piece) × Int × Int) ⊕ ((List Piece) × Int)) :=
  if (decide (sb.2.2 > a)) = true then
    (getI sb.1 sb.2.2).bind fun xb2 =>
    (getI sb.1 (subW .i64 sb.2.2 1)).bind fun xb3 =>
    (data_Lay_1 n xb2 xb3).bind fun yb4 =>
    if (decide (yb4 < 0)) = true then
      (getI (sb.1.set (sb.2.2).toNat xb3) (subW .i64 sb.2.2 1)).bind fun xb6 =>
      some (.inl (((sb.1.set (sb.2.2).toNat xb3).set ((subW .i64 sb.2.2 1)).toNat xb2), sb.2.1, (subW .i64 sb.2.2 1)))
    else
      some (.inr (sb.1, sb.2.1))
  else
    some (.inr (sb.1, sb.2.1))
def slices_insertionSortCmpFunc_Piece_S_L1 (n : Nat) (a : Int) (b : Int) (sa : (List Piece) × Int) : Option (((List Piece) × Int) ⊕ ((List Piece))) :=
  if (decide (sa.2 < b)) = true then
    (iter (fun s => slices_insertionSortCmpFunc_Piece_S_L2 n a b s) n (sa.1, sa.2, sa.2)).bind fun ta2 =>
    some (.inl (ta2.1, (addW .i64 ta2.2 1)))
  else
    some (.inr sa.1)
def slices_insertionSortCmpFunc_Piece_S (n : Nat) (a : Int) (b : Int) (ob : (List Piece)) : Option (List Piece) :=
  (iter (fun s => slices_insertionSortCmpFunc_Piece_S_L1 n a b s) n (ob, (addW .i64 a 1))).bind fun t1 =>
  some t1
def slices_swapRangeCmpFunc_Piece_S_L1 (n : Nat) (a : Int) (b : Int) (n_ : Int) (sa : (List Piece) × Int) : Option (((List Piece) × Int) ⊕ ((List Piece))) :=
  if (decide (sa.2 < n_)) = true then
    (getI sa.1 (addW .i64 b sa.2)).bind fun xa2 =>
    (getI sa.1 (addW .i64 a sa.2)).bind fun xa3 =>
    (getI (sa.1.set ((addW .i64 a sa.2)).toNat xa2) (addW .i64 b sa.2)).bind fun xa4 =>
    some (.inl (((sa.1.set ((addW .i64 a sa.2)).toNat xa2).set ((addW .i64 b sa.2)).toNat xa3), (addW .i64 sa.2 1)))
  else
    some (.inr sa.1)
def slices_swapRangeCmpFunc_Piece_S (n : Nat) (a : Int) (b : Int) (n_ : Int) (ob : (List Piece)) : Option (List Piece) :=
  (iter (fun s => slices_swapRangeCmpFunc_Piece_S_L1 n a b n_ s) n (ob, 0)).bind fun t1 =>
  some t1
def slices_rotateCmpFunc_Piece_S_L1 (n : Nat) (m : Int) (sa : (List Piece) × Int × Int) : Option (((List Piece) × Int × Int) ⊕ ((List Piece) × Int)) :=
  if (sa.2.1 != sa.2.2) = true then
    if (decide (sa.2.1 > sa.2.2)) = true then
      (slices_swapRangeCmpFunc_Piece_S n (subW .i64 m sa.2.1) m sa.2.2 sa.1).bind fun ya3 =>
      some (.inl (ya3, (subW .i64 sa.2.1 sa.2.2), sa.2.2))
    else
      (slices_swapRangeCmpFunc_Piece_S n (subW .i64 m sa.2.1) (subW .i64 (addW .i64 m sa.2.2) sa.2.1) sa.2.1 sa.1).bind fun ya3 =>
      some (.inl (ya3, sa.2.1, (subW .i64 sa.2.2 sa.2.1)))
  else
    some (.inr (sa.1, sa.2.1))
def slices_rotateCmpFunc_Piece_S (n : Nat) (a : Int) (m : Int) (b : Int) (ob : (List Piece)) : Option (List Piece) :=
  (iter (fun s => slices_rotateCmpFunc_Piece_S_L1 n m s) n (ob, (subW .i64 m a), (subW .i64 b m))).bind fun t1 =>
  (slices_swapRangeCmpFunc_Piece_S n (subW .i64 m t1.2) m t1.2 t1.1).bind fun y2 =>
  some y2
def slices_symMergeCmpFunc_Piece_S_L1 (n : Nat) (a : Int) (ob : (List Piece)) (sa : Int × Int) : Option ((Int × Int) ⊕ Int) :=
  if (decide (sa.1 < sa.2)) = true then
    (getI ob (IntKind.wrap .i64 (shrW .u64 (IntKind.wrap .u64 (addW .i64 sa.1 sa.2)) 1))).bind fun xa2 =>
    (getI ob a).bind fun xa3 =>
    (data_Lay_1 n xa2 xa3).bind fun ya4 =>
    if (decide (ya4 < 0)) = true then
      some (.inl ((addW .i64 (IntKind.wrap .i64 (shrW .u64 (IntKind.wrap .u64 (addW .i64 sa.1 sa.2)) 1)) 1), sa.2))
    else
      some (.inl (sa.1, (IntKind.wrap .i64 (shrW .u64 (IntKind.wrap .u64 (addW .i64 sa.1 sa.2)) 1))))
  else
    some (.inr sa.1)
def slices_symMergeCmpFunc_Piece_S_L2 (n : Nat) (t2 : Int) (sa : (List Piece) × Int) : Option (((List Piece) × Int) ⊕ ((List Piece))) :=
  if (decide (sa.2 < (subW .i64 t2 1))) = true then
    (getI sa.1 (addW .i64 sa.2 1)).bind fun xa2 =>
    (getI sa.1 sa.2).bind fun xa3 =>
    (getI (sa.1.set (sa.2).toNat xa2) (addW .i64 sa.2 1)).bind fun xa4 =>
    some (.inl (((sa.1.set (sa.2).toNat xa2).set ((addW .i64 sa.2 1)).toNat xa3), (addW .i64 sa.2 1)))
  else
    some (.inr sa.1)
def slices_symMergeCmpFunc_Piece_S_L3 (n : Nat) (a_ : Int) (ob : (List Piece)) (sa : Int × Int) : Option ((Int × Int) ⊕ Int) :=
  if (decide (sa.1 < sa.2)) = true then
    (getI ob a_).bind fun xa2 =>
    (getI ob (IntKind.wrap .i64 (shrW .u64 (IntKind.wrap .u64 (addW .i64 sa.1 sa.2)) 1))).bind fun xa3 =>
    (data_Lay_1 n xa2 xa3).bind fun ya4 =>
    if (!(decide (ya4 < 0))) = true then
      some (.inl ((addW .i64 (IntKind.wrap .i64 (shrW .u64 (IntKind.wrap .u64 (addW .i64 sa.1 sa.2)) 1)) 1), sa.2))
    else
      some (.inl (sa.1, (IntKind.wrap .i64 (shrW .u64 (IntKind.wrap .u64 (addW .i64 sa.1 sa.2)) 1))))
  else
    some (.inr sa.1)
def slices_symMergeCmpFunc_Piece_S_L4 (n : Nat) (t3 : Int) (sa : (List Piece) × Int) : Option (((List Piece) × Int) ⊕ ((List Piece))) :=
  if (decide (sa.2 > t3)) = true then
    (getI sa.1 (subW .i64 sa.2 1)).bind fun xa2 =>
    (getI sa.1 sa.2).bind fun xa3 =>
    (getI (sa.1.set (sa.2).toNat xa2) (subW .i64 sa.2 1)).bind fun xa4 =>
    some (.inl (((sa.1.set (sa.2).toNat xa2).set ((subW .i64 sa.2 1)).toNat xa3), (subW .i64 sa.2 1)))
  else
    some (.inr sa.1)
def slices_symMergeCmpFunc_Piece_S_L5 (n : Nat) (a : Int) (a_ : Int) (a__ : Int) (ob : (List Piece)) (sa : Int × Int) : Option ((Int × Int) ⊕ Int) :=
  if (decide (sa.1 < sa.2)) = true then
    (getI ob (subW .i64 (subW .i64 (addW .i64 (IntKind.wrap .i64 (shrW .u64 (IntKind.wrap .u64 (addW .i64 a a__)) 1)) a_) 1) (IntKind.wrap .i64 (shrW .u64 (IntKind.wrap .u64 (addW .i64 sa.1 sa.2)) 1)))).bind fun xa2 =>
    (getI ob (IntKind.wrap .i64 (shrW .u64 (IntKind.wrap .u64 (addW .i64 sa.1 sa.2)) 1))).bind fun xa3 =>
    (data_Lay_1 n xa2 xa3).bind fun ya4 =>
    if (!(decide (ya4 < 0))) = true then
      some (.inl ((addW .i64 (IntKind.wrap .i64 (shrW .u64 (IntKind.wrap .u64 (addW .i64 sa.1 sa.2)) 1)) 1), sa.2))
    else
      some (.inl (sa.1, (IntKind.wrap .i64 (shrW .u64 (IntKind.wrap .u64 (addW .i64 sa.1 sa.2)) 1))))
  else
    some (.inr sa.1)
def slices_symMergeCmpFunc_Piece_S : Nat → Int → Int → Int → (List Piece) → Option (List Piece)
  | 0, _, _, _, _ => none
  | n + 1, a, a_, a__, ob =>
  if ((subW .i64 a_ a) == 1) = true then
    (iter (fun s => slices_symMergeCmpFunc_Piece_S_L1 n a ob s) n (a_, a__)).bind fun t2 =>
    (iter (fun s => slices_symMergeCmpFunc_Piece_S_L2 n t2 s) n (ob, a)).bind fun t3 =>
    some t3
  else
    if ((subW .i64 a__ a_) == 1) = true then
      (iter (fun s => slices_symMergeCmpFunc_Piece_S_L3 n a_ ob s) n (a, a_)).bind fun t3 =>
      (iter (fun s => slices_symMergeCmpFunc_Piece_S_L4 n t3 s) n (ob, a_)).bind fun t4 =>
      some t4
    else
      if (decide (a_ > (IntKind.wrap .i64 (shrW .u64 (IntKind.wrap .u64 (addW .i64 a a__)) 1)))) = true then
        (iter (fun s => slices_symMergeCmpFunc_Piece_S_L5 n a a_ a__ ob s) n ((subW .i64 (addW .i64 (IntKind.wrap .i64 (shrW .u64 (IntKind.wrap .u64 (addW .i64 a a__)) 1)) a_) a__), (IntKind.wrap .i64 (shrW .u64 (IntKind.wrap .u64 (addW .i64 a a__)) 1)))).bind fun t4 =>
        if (decide (t4 < a_)) = true then
          if (decide (a_ < (subW .i64 (addW .i64 (IntKind.wrap .i64 (shrW .u64 (IntKind.wrap .u64 (addW .i64 a a__)) 1)) a_) t4))) = true then
            (slices_rotateCmpFunc_Piece_S n t4 a_ (subW .i64 (addW .i64 (IntKind.wrap .i64 (shrW .u64 (IntKind.wrap .u64 (addW .i64 a a__)) 1)) a_) t4) ob).bind fun y7 =>
            if (decide (a < t4)) = true then
              if (decide (t4 < (IntKind.wrap .i64 (shrW .u64 (IntKind.wrap .u64 (addW .i64 a a__)) 1)))) = true then
                (slices_symMergeCmpFunc_Piece_S n a t4 (IntKind.wrap .i64 (shrW .u64 (IntKind.wrap .u64 (addW .i64 a a__)) 1)) y7).bind fun y10 =>
                if (decide ((IntKind.wrap .i64 (shrW .u64 (IntKind.wrap .u64 (addW .i64 a a__)) 1)) < (subW .i64 (addW .i64 (IntKind.wrap .i64 (shrW .u64 (IntKind.wrap .u64 (addW .i64 a a__)) 1)) a_) t4))) = true then
                  if (decide ((subW .i64 (addW .i64 (IntKind.wrap .i64 (shrW .u64 (IntKind.wrap .u64 (addW .i64 a a__)) 1)) a_) t4) < a__)) = true then
                    (slices_symMergeCmpFunc_Piece_S n (IntKind.wrap .i64 (shrW .u64 (IntKind.wrap .u64 (addW .i64 a a__)) 1)) (subW .i64 (addW .i64 (IntKind.wrap .i64 (shrW .u64 (IntKind.wrap .u64 (addW .i64 a a__)) 1)) a_) t4) a__ y10).bind fun y13 =>
                    some y13
                  else
                    some y10
                else
                  some y10
              else
                if (decide ((IntKind.wrap .i64 (shrW .u64 (IntKind.wrap .u64 (addW .i64 a a__)) 1)) < (subW .i64 (addW .i64 (IntKind.wrap .i64 (shrW .u64 (IntKind.wrap .u64 (addW .i64 a a__)) 1)) a_) t4))) = true then
                  if (decide ((subW .i64 (addW .i64 (IntKind.wrap .i64 (shrW .u64 (IntKind.wrap .u64 (addW .i64 a a__)) 1)) a_) t4) < a__)) = true then
                    (slices_symMergeCmpFunc_Piece_S n (IntKind.wrap .i64 (shrW .u64 (IntKind.wrap .u64 (addW .i64 a a__)) 1)) (subW .i64 (addW .i64 (IntKind.wrap .i64 (shrW .u64 (IntKind.wrap .u64 (addW .i64 a a__)) 1)) a_) t4) a__ y7).bind fun y12 =>
                    some y12
                  else
                    some y7
                else
                  some y7
            else
              if (decide ((IntKind.wrap .i64 (shrW .u64 (IntKind.wrap .u64 (addW .i64 a a__)) 1)) < (subW .i64 (addW .i64 (IntKind.wrap .i64 (shrW .u64 (IntKind.wrap .u64 (addW .i64 a a__)) 1)) a_) t4))) = true then
                if (decide ((subW .i64 (addW .i64 (IntKind.wrap .i64 (shrW .u64 (IntKind.wrap .u64 (addW .i64 a a__)) 1)) a_) t4) < a__)) = true then
                  (slices_symMergeCmpFunc_Piece_S n (IntKind.wrap .i64 (shrW .u64 (IntKind.wrap .u64 (addW .i64 a a__)) 1)) (subW .i64 (addW .i64 (IntKind.wrap .i64 (shrW .u64 (IntKind.wrap .u64 (addW .i64 a a__)) 1)) a_) t4) a__ y7).bind fun y11 =>
                  some y11
                else
                  some y7
              else
                some y7
          else
            if (decide (a < t4)) = true then
              if (decide (t4 < (IntKind.wrap .i64 (shrW .u64 (IntKind.wrap .u64 (addW .i64 a a__)) 1)))) = true then
                (slices_symMergeCmpFunc_Piece_S n a t4 (IntKind.wrap .i64 (shrW .u64 (IntKind.wrap .u64 (addW .i64 a a__)) 1)) ob).bind fun y9 =>
                if (decide ((IntKind.wrap .i64 (shrW .u64 (IntKind.wrap .u64 (addW .i64 a a__)) 1)) < (subW .i64 (addW .i64 (IntKind.wrap .i64 (shrW .u64 (IntKind.wrap .u64 (addW .i64 a a__)) 1)) a_) t4))) = true then
                  if (decide ((subW .i64 (addW .i64 (IntKind.wrap .i64 (shrW .u64 (IntKind.wrap .u64 (addW .i64 a a__)) 1)) a_) t4) < a__)) = true then
                    (slices_symMergeCmpFunc_Piece_S n (IntKind.wrap .i64 (shrW .u64 (IntKind.wrap .u64 (addW .i64 a a__)) 1)) (subW .i64 (addW .i64 (IntKind.wrap .i64 (shrW .u64 (IntKind.wrap .u64 (addW .i64 a a__)) 1)) a_) t4) a__ y9).bind fun y12 =>
                    some y12
                  else
                    some y9
                else
                  some y9
              else
                if (decide ((IntKind.wrap .i64 (shrW .u64 (IntKind.wrap .u64 (addW .i64 a a__)) 1)) < (subW .i64 (addW .i64 (IntKind.wrap .i64 (shrW .u64 (IntKind.wrap .u64 (addW .i64 a a__)) 1)) a_) t4))) = true then
                  if (decide ((subW .i64 (addW .i64 (IntKind.wrap .i64 (shrW .u64 (IntKind.wrap .u64 (addW .i64 a a__)) 1)) a_) t4) < a__)) = true then
                    (slices_symMergeCmpFunc_Piece_S n (IntKind.wrap .i64 (shrW .u64 (IntKind.wrap .u64 (addW .i64 a a__)) 1)) (subW .i64 (addW .i64 (IntKind.wrap .i64 (shrW .u64 (IntKind.wrap .u64 (addW .i64 a a__)) 1)) a_) t4) a__ ob).bind fun y11 =>
                    some y11
                  else
                    some ob
                else
                  some ob
            else
              if (decide ((IntKind.wrap .i64 (shrW .u64 (IntKind.wrap .u64 (addW .i64 a a__)) 1)) < (subW .i64 (addW .i64 (IntKind.wrap .i64 (shrW .u64 (IntKind.wrap .u64 (addW .i64 a a__)) 1)) a_) t4))) = true then
                if (decide ((subW .i64 (addW .i64 (IntKind.wrap .i64 (shrW .u64 (IntKind.wrap .u64 (addW .i64 a a__)) 1)) a_) t4) < a__)) = true then
                  (slices_symMergeCmpFunc_Piece_S n (IntKind.wrap .i64 (shrW .u64 (IntKind.wrap .u64 (addW .i64 a a__)) 1)) (subW .i64 (addW .i64 (IntKind.wrap .i64 (shrW .u64 (IntKind.wrap .u64 (addW .i64 a a__)) 1)) a_) t4) a__ ob).bind fun y10 =>
                  some y10
                else
                  some ob
              else
                some ob
        else
          if (decide (a < t4)) = true then
            if (decide (t4 < (IntKind.wrap .i64 (shrW .u64 (IntKind.wrap .u64 (addW .i64 a a__)) 1)))) = true then
              (slices_symMergeCmpFunc_Piece_S n a t4 (IntKind.wrap .i64 (shrW .u64 (IntKind.wrap .u64 (addW .i64 a a__)) 1)) ob).bind fun y8 =>
              if (decide ((IntKind.wrap .i64 (shrW .u64 (IntKind.wrap .u64 (addW .i64 a a__)) 1)) < (subW .i64 (addW .i64 (IntKind.wrap .i64 (shrW .u64 (IntKind.wrap .u64 (addW .i64 a a__)) 1)) a_) t4))) = true then
                if (decide ((subW .i64 (addW .i64 (IntKind.wrap .i64 (shrW .u64 (IntKind.wrap .u64 (addW .i64 a a__)) 1)) a_) t4) < a__)) = true then
                  (slices_symMergeCmpFunc_Piece_S n (IntKind.wrap .i64 (shrW .u64 (IntKind.wrap .u64 (addW .i64 a a__)) 1)) (subW .i64 (addW .i64 (IntKind.wrap .i64 (shrW .u64 (IntKind.wrap .u64 (addW .i64 a a__)) 1)) a_) t4) a__ y8).bind fun y11 =>
                  some y11
                else
                  some y8
              else
                some y8
            else
              if (decide ((IntKind.wrap .i64 (shrW .u64 (IntKind.wrap .u64 (addW .i64 a a__)) 1)) < (subW .i64 (addW .i64 (IntKind.wrap .i64 (shrW .u64 (IntKind.wrap .u64 (addW .i64 a a__)) 1)) a_) t4))) = true then
                if (decide ((subW .i64 (addW .i64 (IntKind.wrap .i64 (shrW .u64 (IntKind.wrap .u64 (addW .i64 a a__)) 1)) a_) t4) < a__)) = true then
                  (slices_symMergeCmpFunc_Piece_S n (IntKind.wrap .i64 (shrW .u64 (IntKind.wrap .u64 (addW .i64 a a__)) 1)) (subW .i64 (addW .i64 (IntKind.wrap .i64 (shrW .u64 (IntKind.wrap .u64 (addW .i64 a a__)) 1)) a_) t4) a__ ob).bind fun y10 =>
                  some y10
                else
                  some ob
              else
                some ob
          else
            if (decide ((IntKind.wrap .i64 (shrW .u64 (IntKind.wrap .u64 (addW .i64 a a__)) 1)) < (subW .i64 (addW .i64 (IntKind.wrap .i64 (shrW .u64 (IntKind.wrap .u64 (addW .i64 a a__)) 1)) a_) t4))) = true then
              if (decide ((subW .i64 (addW .i64 (IntKind.wrap .i64 (shrW .u64 (IntKind.wrap .u64 (addW .i64 a a__)) 1)) a_) t4) < a__)) = true then
                (slices_symMergeCmpFunc_Piece_S n (IntKind.wrap .i64 (shrW .u64 (IntKind.wrap .u64 (addW .i64 a a__)) 1)) (subW .i64 (addW .i64 (IntKind.wrap .i64 (shrW .u64 (IntKind.wrap .u64 (addW .i64 a a__)) 1)) a_) t4) a__ ob).bind fun y9 =>
                some y9
              else
                some ob
            else
              some ob
      else
        (iter (fun s => slices_symMergeCmpFunc_Piece_S_L5 n a a_ a__ ob s) n (a, a_)).bind fun t4 =>
        if (decide (t4 < a_)) = true then
          if (decide (a_ < (subW .i64 (addW .i64 (IntKind.wrap .i64 (shrW .u64 (IntKind.wrap .u64 (addW .i64 a a__)) 1)) a_) t4))) = true then
            (slices_rotateCmpFunc_Piece_S n t4 a_ (subW .i64 (addW .i64 (IntKind.wrap .i64 (shrW .u64 (IntKind.wrap .u64 (addW .i64 a a__)) 1)) a_) t4) ob).bind fun y7 =>
            if (decide (a < t4)) = true then
              if (decide (t4 < (IntKind.wrap .i64 (shrW .u64 (IntKind.wrap .u64 (addW .i64 a a__)) 1)))) = true then
                (slices_symMergeCmpFunc_Piece_S n a t4 (IntKind.wrap .i64 (shrW .u64 (IntKind.wrap .u64 (addW .i64 a a__)) 1)) y7).bind fun y10 =>
                if (decide ((IntKind.wrap .i64 (shrW .u64 (IntKind.wrap .u64 (addW .i64 a a__)) 1)) < (subW .i64 (addW .i64 (IntKind.wrap .i64 (shrW .u64 (IntKind.wrap .u64 (addW .i64 a a__)) 1)) a_) t4))) = true then
                  if (decide ((subW .i64 (addW .i64 (IntKind.wrap .i64 (shrW .u64 (IntKind.wrap .u64 (addW .i64 a a__)) 1)) a_) t4) < a__)) = true then
                    (slices_symMergeCmpFunc_Piece_S n (IntKind.wrap .i64 (shrW .u64 (IntKind.wrap .u64 (addW .i64 a a__)) 1)) (subW .i64 (addW .i64 (IntKind.wrap .i64 (shrW .u64 (IntKind.wrap .u64 (addW .i64 a a__)) 1)) a_) t4) a__ y10).bind fun y13 =>
                    some y13
                  else
                    some y10
                else
                  some y10
              else
                if (decide ((IntKind.wrap .i64 (shrW .u64 (IntKind.wrap .u64 (addW .i64 a a__)) 1)) < (subW .i64 (addW .i64 (IntKind.wrap .i64 (shrW .u64 (IntKind.wrap .u64 (addW .i64 a a__)) 1)) a_) t4))) = true then
                  if (decide ((subW .i64 (addW .i64 (IntKind.wrap .i64 (shrW .u64 (IntKind.wrap .u64 (addW .i64 a a__)) 1)) a_) t4) < a__)) = true then
                    (slices_symMergeCmpFunc_Piece_S n (IntKind.wrap .i64 (shrW .u64 (IntKind.wrap .u64 (addW .i64 a a__)) 1)) (subW .i64 (addW .i64 (IntKind.wrap .i64 (shrW .u64 (IntKind.wrap .u64 (addW .i64 a a__)) 1)) a_) t4) a__ y7).bind fun y12 =>
                    some y12
                  else
                    some y7
                else
                  some y7
            else
              if (decide ((IntKind.wrap .i64 (shrW .u64 (IntKind.wrap .u64 (addW .i64 a a__)) 1)) < (subW .i64 (addW .i64 (IntKind.wrap .i64 (shrW .u64 (IntKind.wrap .u64 (addW .i64 a a__)) 1)) a_) t4))) = true then
                if (decide ((subW .i64 (addW .i64 (IntKind.wrap .i64 (shrW .u64 (IntKind.wrap .u64 (addW .i64 a a__)) 1)) a_) t4) < a__)) = true then
                  (slices_symMergeCmpFunc_Piece_S n (IntKind.wrap .i64 (shrW .u64 (IntKind.wrap .u64 (addW .i64 a a__)) 1)) (subW .i64 (addW .i64 (IntKind.wrap .i64 (shrW .u64 (IntKind.wrap .u64 (addW .i64 a a__)) 1)) a_) t4) a__ y7).bind fun y11 =>
                  some y11
                else
                  some y7
              else
                some y7
          else
            if (decide (a < t4)) = true then
              if (decide (t4 < (IntKind.wrap .i64 (shrW .u64 (IntKind.wrap .u64 (addW .i64 a a__)) 1)))) = true then
                (slices_symMergeCmpFunc_Piece_S n a t4 (IntKind.wrap .i64 (shrW .u64 (IntKind.wrap .u64 (addW .i64 a a__)) 1)) ob).bind fun y9 =>
                if (decide ((IntKind.wrap .i64 (shrW .u64 (IntKind.wrap .u64 (addW .i64 a a__)) 1)) < (subW .i64 (addW .i64 (IntKind.wrap .i64 (shrW .u64 (IntKind.wrap .u64 (addW .i64 a a__)) 1)) a_) t4))) = true then
                  if (decide ((subW .i64 (addW .i64 (IntKind.wrap .i64 (shrW .u64 (IntKind.wrap .u64 (addW .i64 a a__)) 1)) a_) t4) < a__)) = true then
                    (slices_symMergeCmpFunc_Piece_S n (IntKind.wrap .i64 (shrW .u64 (IntKind.wrap .u64 (addW .i64 a a__)) 1)) (subW .i64 (addW .i64 (IntKind.wrap .i64 (shrW .u64 (IntKind.wrap .u64 (addW .i64 a a__)) 1)) a_) t4) a__ y9).bind fun y12 =>
                    some y12
                  else
                    some y9
                else
                  some y9
              else
                if (decide ((IntKind.wrap .i64 (shrW .u64 (IntKind.wrap .u64 (addW .i64 a a__)) 1)) < (subW .i64 (addW .i64 (IntKind.wrap .i64 (shrW .u64 (IntKind.wrap .u64 (addW .i64 a a__)) 1)) a_) t4))) = true then
                  if (decide ((subW .i64 (addW .i64 (IntKind.wrap .i64 (shrW .u64 (IntKind.wrap .u64 (addW .i64 a a__)) 1)) a_) t4) < a__)) = true then
                    (slices_symMergeCmpFunc_Piece_S n (IntKind.wrap .i64 (shrW .u64 (IntKind.wrap .u64 (addW .i64 a a__)) 1)) (subW .i64 (addW .i64 (IntKind.wrap .i64 (shrW .u64 (IntKind.wrap .u64 (addW .i64 a a__)) 1)) a_) t4) a__ ob).bind fun y11 =>
                    some y11
                  else
                    some ob
                else
                  some ob
            else
              if (decide ((IntKind.wrap .i64 (shrW .u64 (IntKind.wrap .u64 (addW .i64 a a__)) 1)) < (subW .i64 (addW .i64 (IntKind.wrap .i64 (shrW .u64 (IntKind.wrap .u64 (addW .i64 a a__)) 1)) a_) t4))) = true then
                if (decide ((subW .i64 (addW .i64 (IntKind.wrap .i64 (shrW .u64 (IntKind.wrap .u64 (addW .i64 a a__)) 1)) a_) t4) < a__)) = true then
                  (slices_symMergeCmpFunc_Piece_S n (IntKind.wrap .i64 (shrW .u64 (IntKind.wrap .u64 (addW .i64 a a__)) 1)) (subW .i64 (addW .i64 (IntKind.wrap .i64 (shrW .u64 (IntKind.wrap .u64 (addW .i64 a a__)) 1)) a_) t4) a__ ob).bind fun y10 =>
                  some y10
                else
                  some ob
              else
                some ob
        else
          if (decide (a < t4)) = true then
            if (decide (t4 < (IntKind.wrap .i64 (shrW .u64 (IntKind.wrap .u64 (addW .i64 a a__)) 1)))) = true then
              (slices_symMergeCmpFunc_Piece_S n a t4 (IntKind.wrap .i64 (shrW .u64 (IntKind.wrap .u64 (addW .i64 a a__)) 1)) ob).bind fun y8 =>
              if (decide ((IntKind.wrap .i64 (shrW .u64 (IntKind.wrap .u64 (addW .i64 a a__)) 1)) < (subW .i64 (addW .i64 (IntKind.wrap .i64 (shrW .u64 (IntKind.wrap .u64 (addW .i64 a a__)) 1)) a_) t4))) = true then
                if (decide ((subW .i64 (addW .i64 (IntKind.wrap .i64 (shrW .u64 (IntKind.wrap .u64 (addW .i64 a a__)) 1)) a_) t4) < a__)) = true then
                  (slices_symMergeCmpFunc_Piece_S n (IntKind.wrap .i64 (shrW .u64 (IntKind.wrap .u64 (addW .i64 a a__)) 1)) (subW .i64 (addW .i64 (IntKind.wrap .i64 (shrW .u64 (IntKind.wrap .u64 (addW .i64 a a__)) 1)) a_) t4) a__ y8).bind fun y11 =>
                  some y11
                else
                  some y8
              else
                some y8
            else
              if (decide ((IntKind.wrap .i64 (shrW .u64 (IntKind.wrap .u64 (addW .i64 a a__)) 1)) < (subW .i64 (addW .i64 (IntKind.wrap .i64 (shrW .u64 (IntKind.wrap .u64 (addW .i64 a a__)) 1)) a_) t4))) = true then
                if (decide ((subW .i64 (addW .i64 (IntKind.wrap .i64 (shrW .u64 (IntKind.wrap .u64 (addW .i64 a a__)) 1)) a_) t4) < a__)) = true then
                  (slices_symMergeCmpFunc_Piece_S n (IntKind.wrap .i64 (shrW .u64 (IntKind.wrap .u64 (addW .i64 a a__)) 1)) (subW .i64 (addW .i64 (IntKind.wrap .i64 (shrW .u64 (IntKind.wrap .u64 (addW .i64 a a__)) 1)) a_) t4) a__ ob).bind fun y10 =>
                  some y10
                else
                  some ob
              else
                some ob
          else
            if (decide ((IntKind.wrap .i64 (shrW .u64 (IntKind.wrap .u64 (addW .i64 a a__)) 1)) < (subW .i64 (addW .i64 (IntKind.wrap .i64 (shrW .u64 (IntKind.wrap .u64 (addW .i64 a a__)) 1)) a_) t4))) = true then
              if (decide ((subW .i64 (addW .i64 (IntKind.wrap .i64 (shrW .u64 (IntKind.wrap .u64 (addW .i64 a a__)) 1)) a_) t4) < a__)) = true then
                (slices_symMergeCmpFunc_Piece_S n (IntKind.wrap .i64 (shrW .u64 (IntKind.wrap .u64 (addW .i64 a a__)) 1)) (subW .i64 (addW .i64 (IntKind.wrap .i64 (shrW .u64 (IntKind.wrap .u64 (addW .i64 a a__)) 1)) a_) t4) a__ ob).bind fun y9 =>
                some y9
              else
                some ob
            else
              some ob
def slices_stableCmpFunc_Piece_S_L1 (n : Nat) (n_ : Int) (sa : (List Piece) × Int × Int) : Option (((List Piece) × Int × Int) ⊕ ((List Piece) × Int)) :=
  if (decide (sa.2.2 ≤ n_)) = true then
    (slices_insertionSortCmpFunc_Piece_S n sa.2.1 sa.2.2 sa.1).bind fun ya2 =>
    some (.inl (ya2, sa.2.2, (addW .i64 sa.2.2 20)))
  else
    some (.inr (sa.1, sa.2.1))
def slices_stableCmpFunc_Piece_S_L3 (n : Nat) (n_ : Int) (sb : (List Piece) × Int × Int × Int) : Option (((List Piece) × Int × Int × Int) ⊕ ((List Piece) × Int × Int)) :=
  if (decide (sb.2.2.2 ≤ n_)) = true then
    (slices_symMergeCmpFunc_Piece_S n sb.2.2.1 (addW .i64 sb.2.2.1 sb.2.1) sb.2.2.2 sb.1).bind fun yb2 =>
    some (.inl (yb2, sb.2.1, sb.2.2.2, (addW .i64 sb.2.2.2 (mulW .i64 2 sb.2.1))))
  else
    some (.inr (sb.1, sb.2.1, sb.2.2.1))
def slices_stableCmpFunc_Piece_S_L2 (n : Nat) (n_ : Int) (sa : (List Piece) × Int) : Option (((List Piece) × Int) ⊕ ((List Piece))) :=
  if (decide (sa.2 < n_)) = true then
    (iter (fun s => slices_stableCmpFunc_Piece_S_L3 n n_ s) n (sa.1, sa.2, 0, (mulW .i64 2 sa.2))).bind fun ta2 =>
    if (decide ((addW .i64 ta2.2.2 ta2.2.1) < n_)) = true then
      (slices_symMergeCmpFunc_Piece_S n ta2.2.2 (addW .i64 ta2.2.2 ta2.2.1) n_ ta2.1).bind fun ya4 =>
      some (.inl (ya4, (mulW .i64 ta2.2.1 2)))
    else
      some (.inl (ta2.1, (mulW .i64 ta2.2.1 2)))
  else
    some (.inr sa.1)
def slices_stableCmpFunc_Piece_S (n : Nat) (n_ : Int) (ob : (List Piece)) : Option (List Piece) :=
  (iter (fun s => slices_stableCmpFunc_Piece_S_L1 n n_ s) n (ob, 0, 20)).bind fun t1 =>
  (slices_insertionSortCmpFunc_Piece_S n t1.2 n_ t1.1).bind fun y2 =>
  (iter (fun s => slices_stableCmpFunc_Piece_S_L2 n n_ s) n (y2, 20)).bind fun t3 =>
  some t3
def slices_SortStableFunc_api_Piece_api_Piece_S (n : Nat) (ob : (List Piece)) : Option (List Piece) :=
  (slices_stableCmpFunc_Piece_S n (ob.length : Int) ob).bind fun y1 =>
  some y1
def data_piece_bytes (n : Nat) (p : data_piece) : Option Int :=
  some (mulW .u64 8 (IntKind.wrap .u64 p.Piece.Size))
def data_Lay2_L1 (n : Nat) (y4 : (List Piece)) (sa : (List Seat) × Int × Int) : Option (((List Seat) × Int × Int) ⊕ ((List Seat))) :=
  if (decide (sa.2.1 < (y4.length : Int))) = true then
    (getI y4 sa.2.1).bind fun xa2 =>
    grd (Nat.ble ((sa.1.length + 1) * 40) 140737488355328) <|
    (data_piece_bytes n (data_piece.mk xa2)).bind fun ya4 =>
    some (.inl ((sa.1 ++ ([(Seat.mk xa2 sa.2.2)] : List Seat)), (addW .i64 sa.2.1 1), (addW .u64 sa.2.2 ya4)))
  else
    some (.inr sa.1)
def data_Lay2 (n : Nat) (l : Piece) (l_ : (List Piece)) : Option ((List Seat) × Int) :=
  (data_Check n (l :: l_)).bind fun y1 =>
  if (y1 != 0) = true then
    some (([] : List Seat), y1)
  else
    (slices_Clone_api_Piece_api_Piece_S n l l_).bind fun y3 =>
    (slices_SortStableFunc_api_Piece_api_Piece_S n y3).bind fun y4 =>
    (iter (fun s => data_Lay2_L1 n y4 s) n (([] : List Seat), 0, 1048576)).bind fun t5 =>
    some (t5, 0)

def data_Lay3_L1 (n : Nat) (sa : Unit) : Option (Unit ⊕ Unit) :=
  some (.inr ())
def data_Lay3 (n : Nat) : Option ((List Seat) × Int) :=
  (iter (fun s => data_Lay3_L1 n s) n ()).bind fun t1 =>
  some (([] : List Seat), 0)
def data_Lay (n : Nat) (l : List Piece) : Option (List Seat × Int) := match l with
  | [] => data_Lay3 n
  | x :: xs => data_Lay2 n x xs
def data_Part_L1 (n : Nat) (l : (List Piece)) (hart : Int) (sa : Int × Int × Int) : Option ((Int × Int × Int) ⊕ (Int × Int)) :=
  if (decide (sa.1 < (l.length : Int))) = true then
    (getI l sa.1).bind fun xa2 =>
    if (decide (xa2.Hart < hart)) = true then
      (data_piece_bytes n (data_piece.mk xa2)).bind fun ya4 =>
      if (decide (xa2.Hart ≤ hart)) = true then
        (data_piece_bytes n (data_piece.mk xa2)).bind fun ya6 =>
        some (.inl ((addW .i64 sa.1 1), (addW .u64 sa.2.1 ya4), (addW .u64 sa.2.2 ya6)))
      else
        some (.inl ((addW .i64 sa.1 1), (addW .u64 sa.2.1 ya4), sa.2.2))
    else
      if (decide (xa2.Hart ≤ hart)) = true then
        (data_piece_bytes n (data_piece.mk xa2)).bind fun ya5 =>
        some (.inl ((addW .i64 sa.1 1), sa.2.1, (addW .u64 sa.2.2 ya5)))
      else
        some (.inl ((addW .i64 sa.1 1), sa.2.1, sa.2.2))
  else
    some (.inr (sa.2.1, sa.2.2))
def data_Part (n : Nat) (l : (List Piece)) (hart : Int) : Option (Int × Int × Int) :=
  (data_Check n l).bind fun y1 =>
  if (y1 != 0) = true then
    some (0, 0, y1)
  else
    if (decide (hart < (-1))) = true then
      some (0, 0, 2)
    else
      if (decide (hart ≥ 8)) = true then
        some (0, 0, 2)
      else
        (iter (fun s => data_Part_L1 n l hart s) n (0, 1048576, 1048576)).bind fun t5 =>
        some (t5.1, t5.2, 0)
def kit_Pick (n : Nat) (n_ : Int) (m : Int) : Option Int :=
  if (decide (m < 1)) = true then
    some 0
  else
    grd (decide (IntKind.i64 = IntKind.i64) && !(m == 0)) <|
    if (decide ((remW .i64 n_ m) < 0)) = true then
      some (addW .i64 (remW .i64 n_ m) m)
    else
      some (remW .i64 n_ m)
def data_At_L1 (n : Nat) (l : (List Seat)) (addr : Int) (sa : Int) : Option (Int ⊕ (Unit ⊕ (ByteArray × Int × Int × Int × Int))) :=
  if (decide (sa < (l.length : Int))) = true then
    (getI l sa).bind fun xa2 =>
    if ((remW .u64 addr 8) == 0) = true then
      if (decide (xa2.Piece.Size > 0)) = true then
        if (decide (addr ≥ xa2.Addr)) = true then
          if (decide ((quoW .u64 (subW .u64 addr xa2.Addr) 8) < (IntKind.wrap .u64 xa2.Piece.Size))) = true then
            some (.inr (.inr (xa2.Piece.Name, xa2.Piece.Size, xa2.Piece.Hart, xa2.Addr, (IntKind.wrap .i64 (quoW .u64 (subW .u64 addr xa2.Addr) 8)))))
          else
            some (.inl (addW .i64 sa 1))
        else
          some (.inl (addW .i64 sa 1))
      else
        some (.inl (addW .i64 sa 1))
    else
      some (.inl (addW .i64 sa 1))
  else
    some (.inr (.inl ()))
def data_At (n : Nat) (l : (List Seat)) (addr : Int) : Option (Seat × Int × Int) :=
  (iter (fun s => data_At_L1 n l addr s) n 0).bind fun t1 =>
  match t1 with
  | .inl w2 =>
    some ((Seat.mk (Piece.mk ByteArray.empty 0 0) 0), 0, 6)
  | .inr w2 =>
    some ((Seat.mk (Piece.mk w2.1 w2.2.1 w2.2.2.1) w2.2.2.2.1), w2.2.2.2.2, 0)
def data_Find_1 (n : Nat) (s_ : Seat) (a : ByteArray) (a_ : Int) : Option Bool :=
  if (s_.Piece.Name.toList == a.toList) = true then
    some (s_.Piece.Hart == a_)
  else
    some false
def slices_IndexFunc_api_Seat_api_Seat_L1 (n : Nat) (s_ : (List Seat)) (f : ByteArray) (f_ : Int) (sa : Int) : Option (Int ⊕ (Unit ⊕ Int)) :=
  if (decide (sa < (s_.length : Int))) = true then
    (getI s_ sa).bind fun xa2 =>
    (data_Find_1 n xa2 f f_).bind fun ya3 =>
    if ya3 = true then
      some (.inr (.inr sa))
    else
      some (.inl (addW .i64 sa 1))
  else
    some (.inr (.inl ()))
def slices_IndexFunc_api_Seat_api_Seat (n : Nat) (s_ : (List Seat)) (f : ByteArray) (f_ : Int) : Option Int :=
  (iter (fun s => slices_IndexFunc_api_Seat_api_Seat_L1 n s_ f f_ s) n 0).bind fun t1 =>
  match t1 with
  | .inl w2 =>
    some (-1)
  | .inr w2 =>
    some w2
def data_Find (n : Nat) (l : (List Seat)) (name : ByteArray) (hart : Int) : Option (Seat × Int) :=
  (slices_IndexFunc_api_Seat_api_Seat n l name hart).bind fun y1 =>
  if (decide (y1 < 0)) = true then
    some ((Seat.mk (Piece.mk ByteArray.empty 0 0) 0), 6)
  else
    (getI l y1).bind fun x3 =>
    some (x3, 0)
def data_Size_L1 (n : Nat) (l : (List Piece)) (sa : Int × Int) : Option ((Int × Int) ⊕ Int) :=
  if (decide (sa.1 < (l.length : Int))) = true then
    (getI l sa.1).bind fun xa2 =>
    some (.inl ((addW .i64 sa.1 1), (addW .i64 sa.2 xa2.Size)))
  else
    some (.inr sa.2)
def data_Size (n : Nat) (l : (List Piece)) : Option Int :=
  (data_Check n l).bind fun y1 =>
  if (y1 != 0) = true then
    some 0
  else
    (iter (fun s => data_Size_L1 n l s) n (0, 0)).bind fun t3 =>
    some t3
def law_DataApart_L2 (n : Nat) (l : (List Piece)) (a : Int) (y8 : (List Seat) × Int) (sa : Int × Int) (xa2 : Seat) (ya3 : Int × Int × Int) (sb : Bool × Bool × (List Int) × Int) : Option ((Bool × Bool × (List Int) × Int) ⊕ ((Int × Bool × Bool × Bool × Int × Int) ⊕ Unit)) :=
  if (decide (sb.2.2.2 < 3)) = true then
    (getI sb.2.2.1 sb.2.2.2).bind fun xb2 =>
    (getI y8.1 sa.2).bind fun xb3 =>
    (data_At n y8.1 (addW .u64 xb3.Addr (mulW .u64 8 (IntKind.wrap .u64 xb2)))).bind fun yb4 =>
    if (yb4.2.2 != 0) = true then
      some (.inr (.inr ()))
    else
      if (!(Seat.beq yb4.1 xb3)) = true then
        some (.inr (.inr ()))
      else
        if (yb4.2.1 != xb2) = true then
          some (.inr (.inr ()))
        else
          some (.inl (sb.1, sb.2.1, sb.2.2.1, (addW .i64 sb.2.2.2 1)))
  else
    some (.inr (.inl (sa.2, (decide (sa.2 > 0)), sb.1, sb.2.1, sa.2, sa.2)))
def law_DataApart_L1 (n : Nat) (l : (List Piece)) (a : Int) (y8 : (List Seat) × Int) (sa : Int × Int) : Option ((Int × Int) ⊕ (Int ⊕ Unit)) :=
  if (decide (sa.2 < (y8.1.length : Int))) = true then
    (getI y8.1 sa.2).bind fun xa2 =>
    (data_Part n l xa2.Piece.Hart).bind fun ya3 =>
    if (xa2.Addr != sa.1) = true then
      some (.inr (.inr ()))
    else
      if (ya3.2.2 != 0) = true then
        some (.inr (.inr ()))
      else
        if (decide (xa2.Addr < ya3.1)) = true then
          some (.inr (.inr ()))
        else
          if (decide ((addW .u64 xa2.Addr (mulW .u64 8 (IntKind.wrap .u64 xa2.Piece.Size))) > ya3.2.1)) = true then
            some (.inr (.inr ()))
          else
            if (decide (sa.2 > 0)) = true then
              (getI y8.1 (subW .i64 sa.2 1)).bind fun xa9 =>
              if (decide (xa9.Piece.Hart > xa2.Piece.Hart)) = true then
                some (.inr (.inr ()))
              else
                (kit_Pick n a xa2.Piece.Size).bind fun ya11 =>
                (iter (fun s => law_DataApart_L2 n l a y8 sa xa2 ya3 s) n (true, (decide (xa9.Piece.Hart > xa2.Piece.Hart)), ([0, (subW .i64 xa2.Piece.Size 1), ya11] : List Int), 0)).bind fun ta12 =>
                match ta12 with
                | .inl wa13 =>
                  (getI y8.1 wa13.2.2.2.2.1).bind fun xa14 =>
                  (data_Find n y8.1 xa14.Piece.Name xa14.Piece.Hart).bind fun ya15 =>
                  if (ya15.2 != 0) = true then
                    some (.inr (.inr ()))
                  else
                    if (!(Seat.beq ya15.1 xa14)) = true then
                      some (.inr (.inr ()))
                    else
                      some (.inl ((addW .u64 xa2.Addr (mulW .u64 8 (IntKind.wrap .u64 xa2.Piece.Size))), (addW .i64 wa13.2.2.2.2.1 1)))
                | .inr wa13 =>
                  some (.inr (.inr ()))
            else
              (kit_Pick n a xa2.Piece.Size).bind fun ya9 =>
              (iter (fun s => law_DataApart_L2 n l a y8 sa xa2 ya3 s) n (false, false, ([0, (subW .i64 xa2.Piece.Size 1), ya9] : List Int), 0)).bind fun ta10 =>
              match ta10 with
              | .inl wa11 =>
                (getI y8.1 wa11.2.2.2.2.1).bind fun xa12 =>
                (data_Find n y8.1 xa12.Piece.Name xa12.Piece.Hart).bind fun ya13 =>
                if (ya13.2 != 0) = true then
                  some (.inr (.inr ()))
                else
                  if (!(Seat.beq ya13.1 xa12)) = true then
                    some (.inr (.inr ()))
                  else
                    some (.inl ((addW .u64 xa2.Addr (mulW .u64 8 (IntKind.wrap .u64 xa2.Piece.Size))), (addW .i64 wa11.2.2.2.2.1 1)))
              | .inr wa11 =>
                some (.inr (.inr ()))
  else
    some (.inr (.inl sa.1))
def law_DataApart (n : Nat) (l : (List Piece)) (a : Int) : Option Bool :=
  (law_lives n).bind fun y1 =>
  if (!y1) = true then
    some false
  else
    (law_light n l).bind fun y3 =>
    if (!y3) = true then
      some true
    else
      (data_Check n l).bind fun y5 =>
      if (y5 != 0) = true then
        some true
      else
        (kit_Own_Piece_S n l).bind fun y7 =>
        (data_Lay n l).bind fun y8 =>
        if (y8.2 != 0) = true then
          some false
        else
          if ((y8.1.length : Int) != (l.length : Int)) = true then
            some false
          else
            (iter (fun s => law_DataApart_L1 n l a y8 s) n (1048576, 0)).bind fun t11 =>
            match t11 with
            | .inl w12 =>
              (data_At n y8.1 w12).bind fun y13 =>
              if (y13.2.2 == 6) = true then
                (data_Size n l).bind fun y15 =>
                some (w12 == (addW .u64 1048576 (mulW .u64 8 (IntKind.wrap .u64 y15))))
              else
                some false
            | .inr w12 =>
              some false

end Go.Proofs.Ytnjpjmeoednfcaa
