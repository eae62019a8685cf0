/- Pieces are checked, laid out and found by the program as by the document. Plain lists, no program in sight. -/
import Derived.Test.YtnjpjmeoednfcaaL2
namespace Go.Proofs.Ytnjpjmeoednfcaa
open Go A Srt

def zs : Seat := Seat.mk (Piece.mk ByteArray.empty 0 0) 0
def isS (name : ByteArray) (hart : Int) (s : Seat) : Bool := (s.Piece.Name.toList == name.toList) && (s.Piece.Hart == hart)

theorem dataFind (n0 : Nat) (l : List Seat) (name : ByteArray) (hart : Int) (hl : l.length ≤ 1000) : ∀ (xs pre : List Seat) (n : Nat), l = pre ++ xs → xs.length < n →
    ∃ t, iter (fun s => slices_IndexFunc_api_Seat_api_Seat_L1 n0 l name hart s) n (pre.length : Int) = some t ∧
      (match t with | .inl _ => xs.find? (isS name hart) = none | .inr i => ∃ (k : Nat) (s : Seat), i = k ∧ l[k]? = some s ∧ xs.find? (isS name hart) = some s)
  | _, _, 0, _, h => by omega
  | [], pre, n + 1, h1, h2 => by
    rw [iter_succ]
    have : slices_IndexFunc_api_Seat_api_Seat_L1 n0 l name hart (pre.length : Int) = some (.inr (.inl ())) := by
      unfold slices_IndexFunc_api_Seat_api_Seat_L1
      rw [if_neg (by simp [h1])]
    rw [this]
    exact ⟨_, rfl, rfl⟩
  | x :: xs, pre, n + 1, h1, h2 => by
    rw [iter_succ]
    have hx : getI l (pre.length : Int) = some x := by rw [getI_nat, h1]; simp
    have hlen : pre.length < l.length := by rw [h1]; simp
    have hs : slices_IndexFunc_api_Seat_api_Seat_L1 n0 l name hart (pre.length : Int) = if isS name hart x = true then some (.inr (.inr (pre.length : Int))) else some (.inl ((pre ++ [x]).length : Int)) := by
      unfold slices_IndexFunc_api_Seat_api_Seat_L1 data_Find_1
      rw [if_pos (by simp; omega), hx]
      simp only [Option.bind_some]
      rw [addN1 _ (by omega)]
      unfold isS
      by_cases c1 : (x.Piece.Name.toList == name.toList) = true
      · rw [if_pos c1, c1]; simp
      · rw [if_neg c1]
        simp at c1
        simp [c1]
    rw [hs]
    by_cases c : isS name hart x = true
    · rw [if_pos c]
      exact ⟨_, rfl, pre.length, x, rfl, by rw [h1]; simp, by simp [c]⟩
    · rw [if_neg c]
      obtain ⟨t, e1, e2⟩ := dataFind n0 l name hart hl xs (pre ++ [x]) n (by rw [h1]; simp) (by simp at h2; omega)
      refine ⟨t, e1, ?_⟩
      rw [List.find?_cons_of_neg (by simpa using c)]
      exact e2
theorem dataFind_ (n : Nat) (l : List Seat) (name : ByteArray) (hart : Int) (hl : l.length ≤ 1000) (hn : l.length < n) : data_Find n l name hart = some (match l.find? (isS name hart) with | some s => (s, 0) | none => (zs, 6)) := by
  unfold data_Find slices_IndexFunc_api_Seat_api_Seat
  obtain ⟨t, e1, e2⟩ := dataFind n l name hart hl l [] n rfl hn
  rw [show (([] : List Seat).length : Int) = 0 from rfl] at e1
  rw [e1]
  cases t with
  | inl w =>
    simp only [Option.bind_some] at e2 ⊢
    rw [e2, if_pos (by decide)]
    rfl
  | inr i =>
    obtain ⟨k, s, rfl, h1, h2⟩ := e2
    simp only [Option.bind_some]
    rw [h2, if_neg (by simp), getI_nat, h1]
    rfl
theorem refFind (n0 : Nat) (l : List Seat) (name : ByteArray) (hart : Int) (hl : l.length ≤ 1000) : ∀ (xs pre : List Seat) (n : Nat), l = pre ++ xs → xs.length < n →
    iter (fun s => ref_Find_L1 n0 l name hart s) n (pre.length : Int) = some (match xs.find? (isS name hart) with | some s => .inr (s.Piece.Name, s.Piece.Size, s.Piece.Hart, s.Addr) | none => .inl ())
  | _, _, 0, _, h => by omega
  | [], pre, n + 1, h1, h2 => by
    rw [iter_succ]
    have : ref_Find_L1 n0 l name hart (pre.length : Int) = some (.inr (.inl ())) := by
      unfold ref_Find_L1
      rw [if_neg (by simp [h1])]
    rw [this]
    rfl
  | x :: xs, pre, n + 1, h1, h2 => by
    rw [iter_succ]
    have hx : getI l (pre.length : Int) = some x := by rw [getI_nat, h1]; simp
    have hlen : pre.length < l.length := by rw [h1]; simp
    have hs : ref_Find_L1 n0 l name hart (pre.length : Int) = if isS name hart x = true then some (.inr (.inr (x.Piece.Name, x.Piece.Size, x.Piece.Hart, x.Addr))) else some (.inl ((pre ++ [x]).length : Int)) := by
      unfold ref_Find_L1
      rw [if_pos (by simp; omega), hx]
      simp only [Option.bind_some]
      rw [addN1 _ (by omega)]
      unfold isS
      by_cases c1 : (x.Piece.Name.toList == name.toList) = true
      · rw [if_pos c1, c1]; simp
      · rw [if_neg c1]
        simp at c1
        simp [c1]
    rw [hs]
    by_cases c : isS name hart x = true
    · rw [if_pos c, List.find?_cons_of_pos c]
    · rw [if_neg c, List.find?_cons_of_neg (by simpa using c)]
      exact refFind n0 l name hart hl xs (pre ++ [x]) n (by rw [h1]; simp) (by simp at h2; omega)
theorem refFind_ (n : Nat) (l : List Seat) (name : ByteArray) (hart : Int) (hl : l.length ≤ 1000) (hn : l.length < n) : ref_Find n l name hart = some (match l.find? (isS name hart) with | some s => (s, 0) | none => (zs, 6)) := by
  unfold ref_Find
  have e1 := refFind n l name hart hl l [] n rfl hn
  rw [show (([] : List Seat).length : Int) = 0 from rfl] at e1
  rw [e1]
  cases l.find? (isS name hart) <;> rfl

/-! ### By its address -/
def isAt (addr : Int) (s : Seat) : Bool := decide (s.Piece.Size > 0) && (decide (addr ≥ s.Addr) && decide ((quoW .u64 (subW .u64 addr s.Addr) 8) < (IntKind.wrap .u64 s.Piece.Size)))
def isAt8 (addr : Int) (s : Seat) : Bool := ((remW .u64 addr 8) == 0) && isAt addr s
def nOf (addr : Int) (s : Seat) : Int := IntKind.wrap .i64 (quoW .u64 (subW .u64 addr s.Addr) 8)
theorem dataAt (n0 : Nat) (l : List Seat) (addr : Int) (hl : l.length ≤ 1000) : ∀ (xs pre : List Seat) (n : Nat), l = pre ++ xs → xs.length < n →
    iter (fun s => data_At_L1 n0 l addr s) n (pre.length : Int) = some (match xs.find? (isAt8 addr) with | some s => .inr (s.Piece.Name, s.Piece.Size, s.Piece.Hart, s.Addr, nOf addr s) | none => .inl ())
  | _, _, 0, _, h => by omega
  | [], pre, n + 1, h1, h2 => by
    rw [iter_succ]
    have : data_At_L1 n0 l addr (pre.length : Int) = some (.inr (.inl ())) := by
      unfold data_At_L1
      rw [if_neg (by simp [h1])]
    rw [this]
    rfl
  | x :: xs, pre, n + 1, h1, h2 => by
    rw [iter_succ]
    have hx : getI l (pre.length : Int) = some x := by rw [getI_nat, h1]; simp
    have hlen : pre.length < l.length := by rw [h1]; simp
    have hs : data_At_L1 n0 l addr (pre.length : Int) = if isAt8 addr x = true then some (.inr (.inr (x.Piece.Name, x.Piece.Size, x.Piece.Hart, x.Addr, nOf addr x))) else some (.inl ((pre ++ [x]).length : Int)) := by
      unfold data_At_L1
      rw [if_pos (by simp; omega), hx]
      simp only [Option.bind_some]
      rw [addN1 _ (by omega)]
      unfold isAt8 isAt nOf
      generalize (remW .u64 addr 8 == 0) = b1
      generalize decide (x.Piece.Size > 0) = b2
      generalize decide (addr ≥ x.Addr) = b3
      generalize decide (quoW .u64 (subW .u64 addr x.Addr) 8 < IntKind.wrap .u64 x.Piece.Size) = b4
      cases b1 <;> cases b2 <;> cases b3 <;> cases b4 <;> simp
    rw [hs]
    by_cases c : isAt8 addr x = true
    · rw [if_pos c, List.find?_cons_of_pos c]
    · rw [if_neg c, List.find?_cons_of_neg (by simpa using c)]
      exact dataAt n0 l addr hl xs (pre ++ [x]) n (by rw [h1]; simp) (by simp at h2; omega)
theorem dataAt_ (n : Nat) (l : List Seat) (addr : Int) (hl : l.length ≤ 1000) (hn : l.length < n) : data_At n l addr = some (match l.find? (isAt8 addr) with | some s => (s, nOf addr s, 0) | none => (zs, 0, 6)) := by
  unfold data_At
  have e1 := dataAt n l addr hl l [] n rfl hn
  rw [show (([] : List Seat).length : Int) = 0 from rfl] at e1
  rw [e1]
  cases l.find? (isAt8 addr) <;> rfl
theorem refAt (n0 : Nat) (l : List Seat) (addr : Int) (hl : l.length ≤ 1000) : ∀ (xs pre : List Seat) (n : Nat), l = pre ++ xs → xs.length < n →
    iter (fun s => ref_At_L1 n0 l addr s) n (pre.length : Int) = some (match xs.find? (isAt8 addr) with | some s => .inr (s.Piece.Name, s.Piece.Size, s.Piece.Hart, s.Addr, nOf addr s) | none => .inl ())
  | _, _, 0, _, h => by omega
  | [], pre, n + 1, h1, h2 => by
    rw [iter_succ]
    have : ref_At_L1 n0 l addr (pre.length : Int) = some (.inr (.inl ())) := by
      unfold ref_At_L1
      rw [if_neg (by simp [h1])]
    rw [this]
    rfl
  | x :: xs, pre, n + 1, h1, h2 => by
    rw [iter_succ]
    have hx : getI l (pre.length : Int) = some x := by rw [getI_nat, h1]; simp
    have hlen : pre.length < l.length := by rw [h1]; simp
    by_cases c0 : (remW .u64 addr 8 == 0) = true
    · have hs : ref_At_L1 n0 l addr (pre.length : Int) = if isAt8 addr x = true then some (.inr (.inr (x.Piece.Name, x.Piece.Size, x.Piece.Hart, x.Addr, nOf addr x))) else some (.inl ((pre ++ [x]).length : Int)) := by
        unfold ref_At_L1
        rw [if_pos (by simp; omega), if_pos c0, hx]
        simp only [Option.bind_some]
        rw [addN1 _ (by omega)]
        unfold isAt8 isAt nOf
        rw [c0]
        generalize decide (x.Piece.Size > 0) = b2
        generalize decide (addr ≥ x.Addr) = b3
        generalize decide (quoW .u64 (subW .u64 addr x.Addr) 8 < IntKind.wrap .u64 x.Piece.Size) = b4
        cases b2 <;> cases b3 <;> cases b4 <;> simp
      rw [hs]
      by_cases c : isAt8 addr x = true
      · rw [if_pos c, List.find?_cons_of_pos c]
      · rw [if_neg c, List.find?_cons_of_neg (by simpa using c)]
        exact refAt n0 l addr hl xs (pre ++ [x]) n (by rw [h1]; simp) (by simp at h2; omega)
    · have hs : ref_At_L1 n0 l addr (pre.length : Int) = some (.inr (.inl ())) := by
        unfold ref_At_L1
        rw [if_pos (by simp; omega), if_neg c0]
      rw [hs]
      have : (x :: xs).find? (isAt8 addr) = none := by
        rw [List.find?_eq_none]
        intro y _
        unfold isAt8
        simp at c0
        simp [c0]
      rw [this]
theorem refAt_ (n : Nat) (l : List Seat) (addr : Int) (hl : l.length ≤ 1000) (hn : l.length < n) : ref_At n l addr = some (match l.find? (isAt8 addr) with | some s => (s, nOf addr s, 0) | none => (zs, 0, 6)) := by
  unfold ref_At
  have e1 := refAt n l addr hl l [] n rfl hn
  rw [show (([] : List Seat).length : Int) = 0 from rfl] at e1
  rw [e1]
  cases l.find? (isAt8 addr) <;> rfl

/-! ### Parts, sizes, and the same seats -/
theorem refPart (n0 : Nat) (l : List Piece) (h : Int) (hl : l.length ≤ 1000) (hok : OKL l) : ∀ (xs pre : List Piece) (n : Nat), l = pre ++ xs → xs.length < n →
    iter (fun s => ref_Part_L1 n0 l h s) n ((pre.length : Int), 1048576 + 8 * tot (fun x => decide (x.Hart < h)) pre, 8 * tot (fun x => x.Hart == h) pre) = some (1048576 + 8 * tot (fun x => decide (x.Hart < h)) l, 8 * tot (fun x => x.Hart == h) l)
  | _, _, 0, _, h => by omega
  | [], pre, n + 1, h1, h2 => by
    rw [iter_succ]
    have e : pre = l := by rw [h1]; simp
    subst e
    have : ref_Part_L1 n0 pre h ((pre.length : Int), 1048576 + 8 * tot (fun x => decide (x.Hart < h)) pre, 8 * tot (fun x => x.Hart == h) pre) = some (.inr (1048576 + 8 * tot (fun x => decide (x.Hart < h)) pre, 8 * tot (fun x => x.Hart == h) pre)) := by
      unfold ref_Part_L1
      rw [if_neg (by simp)]
    rw [this]
  | x :: xs, pre, n + 1, h1, h2 => by
    rw [iter_succ]
    have hx : getI l (pre.length : Int) = some x := by rw [getI_nat, h1]; simp
    have hlen : pre.length < l.length := by rw [h1]; simp
    have hp := hok.pos
    have hmx : may x := hok.1 x (by rw [h1]; simp)
    unfold may at hmx
    have bound : ∀ p : Piece → Bool, 0 ≤ tot p pre ∧ tot p pre ≤ 65536 := fun p => by
      have e : pre = l.take pre.length := by rw [h1]; simp
      have a1 := tot_take_le (p := p) hp pre.length
      rw [← e] at a1
      have a2 := tot_le (p := p) (q := fun _ => true) hp (fun _ _ _ => rfl)
      have a3 := hok.2
      exact ⟨tot_nonneg (fun y hy => hp y (by rw [h1]; simp [hy])), by omega⟩
    have b1 := bound (fun x => decide (x.Hart < h))
    have b2 := bound (fun x => x.Hart == h)
    have hs : ref_Part_L1 n0 l h ((pre.length : Int), 1048576 + 8 * tot (fun x => decide (x.Hart < h)) pre, 8 * tot (fun x => x.Hart == h) pre) = some (.inl (((pre ++ [x]).length : Int), 1048576 + 8 * tot (fun x => decide (x.Hart < h)) (pre ++ [x]), 8 * tot (fun x => x.Hart == h) (pre ++ [x]))) := by
      unfold ref_Part_L1
      rw [if_pos (by simp; omega)]
      dsimp only
      rw [hx]
      simp only [Option.bind_some]
      rw [addN1 _ (by omega), tot_append, tot_append]
      simp only [tot]
      rw [wrapU (by omega) (by omega), mulU (by omega) (by omega)]
      by_cases c1 : x.Hart < h
      · have c2 : ¬ x.Hart = h := by omega
        rw [addU (by omega) (by omega)]
        simp [c1, c2]
        omega
      · by_cases c2 : x.Hart = h
        · rw [addU (a := 8 * _) (by omega) (by omega)]
          simp [c1, c2]
          omega
        · simp [c1, c2]
    rw [hs]
    exact refPart n0 l h hl hok xs (pre ++ [x]) n (by rw [h1]; simp) (by simp at h2; omega)

theorem part_same (n : Nat) (l : List Piece) (h : Int) (hl : l.length ≤ 40) (hn : 200 ≤ n) : ∃ p, data_Part n l h = some p ∧ ref_Part n l h = some p := by
  have hd := dataCheck_ n l (by omega) (by omega)
  have hr := refCheck_ n l (by omega) (by omega)
  by_cases hc : chkR [] 0 l = 0
  · obtain ⟨h0, hok⟩ := chk_ok n l hl hn hc
    by_cases c1 : h < -1
    · refine ⟨(0, 0, 2), ?_, ?_⟩
      · unfold data_Part
        rw [hd, hc]
        simp [c1]
      · unfold ref_Part
        rw [hr, hc]
        simp [c1]
    by_cases c2 : h ≥ 8
    · refine ⟨(0, 0, 2), ?_, ?_⟩
      · unfold data_Part
        rw [hd, hc]
        simp [c1]
        omega
      · unfold ref_Part
        rw [hr, hc]
        simp [c1]
        omega
    refine ⟨_, part_spec n l h (by omega) (by omega) h0 hok (by omega) (by omega), ?_⟩
    unfold ref_Part
    rw [hr, hc]
    simp only [Option.bind_some]
    rw [if_neg (by decide), if_neg (by simpa using c1), if_neg (by simpa using c2)]
    have e := refPart n l h (by omega) hok l [] n rfl (by omega)
    simp only [tot, List.length_nil] at e
    rw [show 1048576 + 8 * (0 : Int) = 1048576 from rfl, show 8 * (0 : Int) = 0 from rfl, show ((0 : Nat) : Int) = 0 from rfl] at e
    rw [e]
    simp only [Option.bind_some]
    have hp := hok.pos
    have e2 : ∀ m : List Piece, tot (fun x => decide (x.Hart ≤ h)) m = tot (fun x => decide (x.Hart < h)) m + tot (fun x => x.Hart == h) m := by
      intro m
      induction m with
      | nil => rfl
      | cons x m ih =>
        simp only [tot]
        rw [ih]
        by_cases c1 : x.Hart < h
        · have c2 : ¬ x.Hart = h := by omega
          have c3 : x.Hart ≤ h := by omega
          simp [c1, c2, c3]; omega
        · by_cases c2 : x.Hart = h
          · simp [c2]; omega
          · have c3 : ¬ x.Hart ≤ h := by omega
            simp [c1, c2, c3]
    have b1 : 0 ≤ tot (fun x => decide (x.Hart < h)) l := tot_nonneg hp
    have b2 : 0 ≤ tot (fun x => x.Hart == h) l := tot_nonneg hp
    have b3 : tot (fun x => decide (x.Hart ≤ h)) l ≤ 65536 := by
      have a2 := tot_le (p := fun x => decide (x.Hart ≤ h)) (q := fun _ => true) hp (fun _ _ _ => rfl)
      have a3 := hok.2
      omega
    rw [e2] at b3 ⊢
    rw [addU (by omega) (by omega)]
    congr 2
    rw [Prod.mk.injEq]
    exact ⟨by omega, rfl⟩
  · refine ⟨(0, 0, chkR [] 0 l), ?_, ?_⟩
    · unfold data_Part
      rw [hd]
      simp [hc]
    · unfold ref_Part
      rw [hr]
      simp [hc]

def sumW : Int → List Piece → Int
  | a, [] => a
  | a, p :: l => sumW (addW .i64 a p.Size) l
theorem dataSize (n0 : Nat) (l : List Piece) (hl : l.length ≤ 1000) : ∀ (xs pre : List Piece) (a : Int) (n : Nat), l = pre ++ xs → xs.length < n → iter (fun s => data_Size_L1 n0 l s) n ((pre.length : Int), a) = some (sumW a xs)
  | _, _, _, 0, _, h => by omega
  | [], pre, a, n + 1, h1, h2 => by
    rw [iter_succ]
    have : data_Size_L1 n0 l ((pre.length : Int), a) = some (.inr a) := by
      unfold data_Size_L1
      rw [if_neg (by simp [h1])]
    rw [this]
    rfl
  | x :: xs, pre, a, n + 1, h1, h2 => by
    rw [iter_succ]
    have hx : getI l (pre.length : Int) = some x := by rw [getI_nat, h1]; simp
    have hlen : pre.length < l.length := by rw [h1]; simp
    have hs : data_Size_L1 n0 l ((pre.length : Int), a) = some (.inl (((pre ++ [x]).length : Int), addW .i64 a x.Size)) := by
      unfold data_Size_L1
      rw [if_pos (by simp; omega)]
      dsimp only
      rw [hx]
      simp only [Option.bind_some]
      rw [addN1 _ (by omega)]
      simp
    rw [hs]
    exact dataSize n0 l hl xs (pre ++ [x]) _ n (by rw [h1]; simp) (by simp at h2; omega)
theorem refSize (n0 : Nat) (l : List Piece) (hl : l.length ≤ 1000) (hc : ref_Check n0 l = some 0) : ∀ (xs pre : List Piece) (a : Int) (n : Nat), l = pre ++ xs → xs.length < n → iter (fun s => ref_Size_L1 n0 l s) n (a, (pre.length : Int)) = some (sumW a xs)
  | _, _, _, 0, _, h => by omega
  | [], pre, a, n + 1, h1, h2 => by
    rw [iter_succ]
    have : ref_Size_L1 n0 l (a, (pre.length : Int)) = some (.inr a) := by
      unfold ref_Size_L1
      rw [if_neg (by simp [h1])]
    rw [this]
    rfl
  | x :: xs, pre, a, n + 1, h1, h2 => by
    rw [iter_succ]
    have hx : getI l (pre.length : Int) = some x := by rw [getI_nat, h1]; simp
    have hlen : pre.length < l.length := by rw [h1]; simp
    have hs : ref_Size_L1 n0 l (a, (pre.length : Int)) = some (.inl (addW .i64 a x.Size, ((pre ++ [x]).length : Int))) := by
      unfold ref_Size_L1
      rw [if_pos (by simp; omega)]
      dsimp only
      rw [hc]
      simp only [Option.bind_some]
      rw [if_pos (by decide), hx]
      simp only [Option.bind_some]
      rw [addN1 _ (by omega)]
      simp
    rw [hs]
    exact refSize n0 l hl hc xs (pre ++ [x]) _ n (by rw [h1]; simp) (by simp at h2; omega)
theorem size_same (n : Nat) (l : List Piece) (hl : l.length ≤ 40) (hn : 200 ≤ n) : ∃ p, data_Size n l = some p ∧ ref_Size n l = some p := by
  have hd := dataCheck_ n l (by omega) (by omega)
  have hr := refCheck_ n l (by omega) (by omega)
  by_cases hc : chkR [] 0 l = 0
  · rw [hc] at hd hr
    refine ⟨sumW 0 l, ?_, ?_⟩
    · unfold data_Size
      rw [hd]
      simp only [Option.bind_some]
      rw [if_neg (by decide)]
      have := dataSize n l (by omega) l [] 0 n rfl (by omega)
      rw [show (([] : List Piece).length : Int) = 0 from rfl] at this
      rw [this]
      rfl
    · unfold ref_Size
      have := refSize n l (by omega) hr l [] 0 n rfl (by omega)
      rw [show (([] : List Piece).length : Int) = 0 from rfl] at this
      rw [this]
      rfl
  · refine ⟨0, ?_, ?_⟩
    · unfold data_Size
      rw [hd]
      simp [hc]
    · unfold ref_Size
      obtain ⟨k, rfl⟩ : ∃ k, n = k + 1 := ⟨n - 1, by omega⟩
      rw [iter_succ]
      have : ref_Size_L1 (k + 1) l (0, 0) = some (.inr 0) := by
        unfold ref_Size_L1
        by_cases h0 : (0 : Int) < l.length
        · rw [if_pos (by simpa using h0), hr]
          simp [hc]
        · rw [if_neg (by simpa using h0)]
      rw [this]
      rfl

theorem same_self (n : Nat) (a : List Seat) (hl : a.length ≤ 1000) (hn : a.length < n) : kit_Same_Seat n a a = some true := by
  unfold kit_Same_Seat
  rw [if_neg (by simp)]
  obtain ⟨t, h1, h2⟩ := iter_spec (step := fun s => kit_Same_Seat_L1 n a a s) (fun s => ∃ k : Nat, s = k ∧ k ≤ a.length) (fun s => (a.length - s).toNat) (fun t => t = .inl ()) (by
    rintro s ⟨k, rfl, hk⟩
    unfold kit_Same_Seat_L1
    by_cases h : k < a.length
    · rw [if_pos (by simpa using h), getI_nat, List.getElem?_eq_getElem h]
      simp only [Option.bind_some, Seat.beq_refl]
      rw [addN1 k (by omega)]
      exact .inl ⟨((k + 1 : Nat) : Int), by simp, ⟨k + 1, rfl, by omega⟩, by omega⟩
    · rw [if_neg (by simpa using h)]
      exact .inr ⟨_, rfl, rfl⟩) n 0 ⟨0, rfl, by omega⟩ (by omega)
  rw [h1, h2]
  rfl

theorem calls_true (l : List Piece) (s : List Seat) (name : ByteArray) (hart addr : Int) : law_DataCalls 1000 l s name hart addr = some true := by
  unfold law_DataCalls law_lives
  simp only [Option.bind_some, Bool.not_true, Bool.false_eq_true, if_false]
  obtain ⟨y, hy, hlen⟩ := light_spec 1000 l (by omega)
  rw [hy]
  simp only [Option.bind_some]
  cases y with
  | false => rfl
  | true =>
  have hlen := hlen rfl
  simp only [Bool.not_true, Bool.false_eq_true, if_false]
  by_cases c1 : (s.length : Int) > 40
  · rw [if_pos (by simpa using c1)]
  rw [if_neg (by simpa using c1)]
  by_cases c2 : (name.size : Int) > 100
  · rw [if_pos (by simpa using c2)]
  rw [if_neg (by simpa using c2)]
  have hs : s.length ≤ 40 := by omega
  have hown : kit_Own_Piece_S 1000 l = some () := by
    unfold kit_Own_Piece_S
    rw [grd_pos (by simp; omega)]
  rw [hown]
  simp only [Option.bind_some]
  have hlay : ∃ a : List Seat, ∃ e : Int, a.length ≤ 40 ∧ data_Lay 1000 l = some (a, e) ∧ ref_Lay 1000 l = some (a, e) := by
    by_cases hc : chkR [] 0 l = 0
    · obtain ⟨_, hok⟩ := chk_ok 1000 l hlen (by omega) hc
      obtain ⟨r, h1, _, h3, h4⟩ := lay_ok 1000 l hlen (by omega) hc hok
      exact ⟨_, _, by rw [seats_len, h1.len]; exact hlen, h3, h4⟩
    · obtain ⟨h1, h2⟩ := lay_bad 1000 l _ hlen (by omega) rfl hc
      exact ⟨_, _, by simp, h1, h2⟩
  obtain ⟨a, e, la, h1, h2⟩ := hlay
  obtain ⟨p, h3, h4⟩ := part_same 1000 l hart hlen (by omega)
  obtain ⟨z, h5, h6⟩ := size_same 1000 l hlen (by omega)
  rw [h1, h2, h3, h4, dataFind_ 1000 s name hart (by omega) (by omega), refFind_ 1000 s name hart (by omega) (by omega), dataAt_ 1000 s addr (by omega) (by omega), refAt_ 1000 s addr (by omega) (by omega)]
  simp only [Option.bind_some]
  rw [same_self 1000 a (by omega) (by omega), dataCheck_ 1000 l (by omega) (by omega), refCheck_ 1000 l (by omega) (by omega), h5, h6]
  simp [Seat.beq_refl]
end Go.Proofs.Ytnjpjmeoednfcaa
