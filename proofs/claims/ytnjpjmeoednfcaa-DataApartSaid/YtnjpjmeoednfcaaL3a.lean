/- Seats are found by the program. Plain lists, no program in sight. -/
import Derived.Test.YtnjpjmeoednfcaaL2a
namespace Go.Proofs.Ytnjpjmeoednfcaa
open Go A Srt

def zs : Seat := Seat.mk (Piece.mk ByteArray.empty 0 0) 0
def isS (name : ByteArray) (hart : Int) (s : Seat) : Bool := (s.Piece.Name.toList == name.toList) && (s.Piece.Hart == hart)

theorem dataFind (n0 : Nat) (l : List Seat) (name : ByteArray) (hart : Int) (hl : l.length ≤ 1000) : ∀ (xs pre : List Seat) (n : Nat), l = pre ++ xs → xs.length < n →
    ∃ t, iter (fun s => slices_IndexFunc_api_Seat_api_Seat_L1 n0 l name hart s) n (pre.length : Int) = some t ∧
      (match t with | .inl _ => xs.find? (isS name hart) = none | .inr i => ∃ (k : Nat) (s : Seat), i = k ∧ l[k]? = some s ∧ xs.find? (isS name hart) = some s)
  | _, _, 0, _, h => by omega
  | [], pre, n + 1, h1, h2 => by
    rw [iter_succ]
    have : slices_IndexFunc_api_Seat_api_Seat_L1 n0 l name hart (pre.length : Int) = some (.inr (.inl ())) := by
      unfold slices_IndexFunc_api_Seat_api_Seat_L1
      rw [if_neg (by simp [h1])]
    rw [this]
    exact ⟨_, rfl, rfl⟩
  | x :: xs, pre, n + 1, h1, h2 => by
    rw [iter_succ]
    have hx : getI l (pre.length : Int) = some x := by rw [getI_nat, h1]; simp
    have hlen : pre.length < l.length := by rw [h1]; simp
    have hs : slices_IndexFunc_api_Seat_api_Seat_L1 n0 l name hart (pre.length : Int) = if isS name hart x = true then some (.inr (.inr (pre.length : Int))) else some (.inl ((pre ++ [x]).length : Int)) := by
      unfold slices_IndexFunc_api_Seat_api_Seat_L1 data_Find_1
      rw [if_pos (by simp; omega), hx]
      simp only [Option.bind_some]
      rw [addN1 _ (by omega)]
      unfold isS
      by_cases c1 : (x.Piece.Name.toList == name.toList) = true
      · rw [if_pos c1, c1]; simp
      · rw [if_neg c1]
        simp at c1
        simp [c1]
    rw [hs]
    by_cases c : isS name hart x = true
    · rw [if_pos c]
      exact ⟨_, rfl, pre.length, x, rfl, by rw [h1]; simp, by simp [c]⟩
    · rw [if_neg c]
      obtain ⟨t, e1, e2⟩ := dataFind n0 l name hart hl xs (pre ++ [x]) n (by rw [h1]; simp) (by simp at h2; omega)
      refine ⟨t, e1, ?_⟩
      rw [List.find?_cons_of_neg (by simpa using c)]
      exact e2
theorem dataFind_ (n : Nat) (l : List Seat) (name : ByteArray) (hart : Int) (hl : l.length ≤ 1000) (hn : l.length < n) : data_Find n l name hart = some (match l.find? (isS name hart) with | some s => (s, 0) | none => (zs, 6)) := by
  unfold data_Find slices_IndexFunc_api_Seat_api_Seat
  obtain ⟨t, e1, e2⟩ := dataFind n l name hart hl l [] n rfl hn
  rw [show (([] : List Seat).length : Int) = 0 from rfl] at e1
  rw [e1]
  cases t with
  | inl w =>
    simp only [Option.bind_some] at e2 ⊢
    rw [e2, if_pos (by decide)]
    rfl
  | inr i =>
    obtain ⟨k, s, rfl, h1, h2⟩ := e2
    simp only [Option.bind_some]
    rw [h2, if_neg (by simp), getI_nat, h1]
    rfl
def isAt (addr : Int) (s : Seat) : Bool := decide (s.Piece.Size > 0) && (decide (addr ≥ s.Addr) && decide ((quoW .u64 (subW .u64 addr s.Addr) 8) < (IntKind.wrap .u64 s.Piece.Size)))
def isAt8 (addr : Int) (s : Seat) : Bool := ((remW .u64 addr 8) == 0) && isAt addr s
def nOf (addr : Int) (s : Seat) : Int := IntKind.wrap .i64 (quoW .u64 (subW .u64 addr s.Addr) 8)
theorem dataAt (n0 : Nat) (l : List Seat) (addr : Int) (hl : l.length ≤ 1000) : ∀ (xs pre : List Seat) (n : Nat), l = pre ++ xs → xs.length < n →
    iter (fun s => data_At_L1 n0 l addr s) n (pre.length : Int) = some (match xs.find? (isAt8 addr) with | some s => .inr (s.Piece.Name, s.Piece.Size, s.Piece.Hart, s.Addr, nOf addr s) | none => .inl ())
  | _, _, 0, _, h => by omega
  | [], pre, n + 1, h1, h2 => by
    rw [iter_succ]
    have : data_At_L1 n0 l addr (pre.length : Int) = some (.inr (.inl ())) := by
      unfold data_At_L1
      rw [if_neg (by simp [h1])]
    rw [this]
    rfl
  | x :: xs, pre, n + 1, h1, h2 => by
    rw [iter_succ]
    have hx : getI l (pre.length : Int) = some x := by rw [getI_nat, h1]; simp
    have hlen : pre.length < l.length := by rw [h1]; simp
    have hs : data_At_L1 n0 l addr (pre.length : Int) = if isAt8 addr x = true then some (.inr (.inr (x.Piece.Name, x.Piece.Size, x.Piece.Hart, x.Addr, nOf addr x))) else some (.inl ((pre ++ [x]).length : Int)) := by
      unfold data_At_L1
      rw [if_pos (by simp; omega), hx]
      simp only [Option.bind_some]
      rw [addN1 _ (by omega)]
      unfold isAt8 isAt nOf
      generalize (remW .u64 addr 8 == 0) = b1
      generalize decide (x.Piece.Size > 0) = b2
      generalize decide (addr ≥ x.Addr) = b3
      generalize decide (quoW .u64 (subW .u64 addr x.Addr) 8 < IntKind.wrap .u64 x.Piece.Size) = b4
      cases b1 <;> cases b2 <;> cases b3 <;> cases b4 <;> simp
    rw [hs]
    by_cases c : isAt8 addr x = true
    · rw [if_pos c, List.find?_cons_of_pos c]
    · rw [if_neg c, List.find?_cons_of_neg (by simpa using c)]
      exact dataAt n0 l addr hl xs (pre ++ [x]) n (by rw [h1]; simp) (by simp at h2; omega)
theorem dataAt_ (n : Nat) (l : List Seat) (addr : Int) (hl : l.length ≤ 1000) (hn : l.length < n) : data_At n l addr = some (match l.find? (isAt8 addr) with | some s => (s, nOf addr s, 0) | none => (zs, 0, 6)) := by
  unfold data_At
  have e1 := dataAt n l addr hl l [] n rfl hn
  rw [show (([] : List Seat).length : Int) = 0 from rfl] at e1
  rw [e1]
  cases l.find? (isAt8 addr) <;> rfl
end Go.Proofs.Ytnjpjmeoednfcaa
