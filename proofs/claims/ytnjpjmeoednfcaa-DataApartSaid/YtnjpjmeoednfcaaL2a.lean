/- Pieces: checked and laid out, by the program. Plain lists, no program in sight. -/
import Derived.Test.YtnjpjmeoednfcaaL0
import Derived.Test.YtnjpjmeoednfcaaS4
namespace Go.Proofs.Ytnjpjmeoednfcaa
open Go A Srt


/-! ### Maps -/
theorem mget_mput {κ β : Type} {beq : κ → κ → Bool} (hb : ∀ a b, beq a b = true ↔ a = b) : ∀ (l : List (κ × β)) (k : κ) (v : β) (k' : κ), mget beq (mput beq l k v) k' = if beq k' k = true then some v else mget beq l k'
  | [], k, v, k' => by unfold mput mget mget; split <;> rfl
  | e :: l, k, v, k' => by
    unfold mput
    by_cases h : beq k e.1 = true
    · rw [if_pos h]
      have he := (hb k e.1).1 h
      unfold mget
      dsimp only
      by_cases h2 : beq k' k = true
      · rw [if_pos h2, if_pos h2]
      · rw [if_neg h2, if_neg h2, if_neg (by rw [← he]; exact h2)]
    · rw [if_neg h]
      unfold mget
      rw [mget_mput hb l k v k']
      by_cases h2 : beq k' e.1 = true
      · rw [if_pos h2, if_pos h2]
        have h3 := (hb _ _).1 h2
        rw [if_neg (fun h4 => h ((hb _ _).2 (((hb _ _).1 h4).symm.trans h3)))]
      · rw [if_neg h2, if_neg h2]
theorem key_iff (a b : data_key) : data_key.beq a b = true ↔ a = b := ⟨data_key.beq_eq, fun h => by rw [h]; exact data_key.beq_refl b⟩

/-! ### Checked -/
def mayB (x : Piece) : Bool := (data_piece_may 0 (data_piece.mk x)).getD false
theorem mayB_spec (n : Nat) (x : Piece) : data_piece_may n (data_piece.mk x) = some (mayB x) := by
  obtain ⟨b, hb, _⟩ := may_spec n x
  have : data_piece_may 0 (data_piece.mk x) = data_piece_may n (data_piece.mk x) := rfl
  unfold mayB
  rw [this, hb]
  rfl
def sameK (p x : Piece) : Bool := (p.Name.toList == x.Name.toList) && (p.Hart == x.Hart)
theorem sameK_iff {p x : Piece} : sameK p x = true ↔ data_key.mk x.Name x.Hart = data_key.mk p.Name p.Hart := by
  unfold sameK
  rw [Bool.and_eq_true, beq_iff_eq, beq_iff_eq]
  constructor
  · rintro ⟨h1, h2⟩
    rw [toList_inj h1, h2]
  · intro h
    injection h with h1 h2
    rw [h1, h2]
    exact ⟨rfl, rfl⟩
def chkR : List Piece → Int → List Piece → Int
  | _, _, [] => 0
  | pre, m, x :: xs => if mayB x = false then 2 else if pre.any (fun p => sameK p x) = true then 8 else if 1024 ≤ pre.length then 7 else if 65536 < addW .i64 m x.Size then 7 else chkR (pre ++ [x]) (addW .i64 m x.Size) xs

theorem dataCheck (n0 : Nat) (l : List Piece) (hl : l.length ≤ 100000) : ∀ (xs pre : List Piece) (m : Int) (mp : List (data_key × Int)) (n : Nat), l = pre ++ xs → (∀ x : Piece, ((mget data_key.beq mp (data_key.mk x.Name x.Hart)).getD 0 != 0) = pre.any (fun p => sameK p x)) → xs.length < n →
    ∃ t, iter (fun s => data_Check_L1 n0 l s) n (mp, (pre.length : Int), m) = some t ∧ (match t with | .inl _ => 0 | .inr e => e) = chkR pre m xs
  | _, _, _, _, 0, _, _, h => by omega
  | [], pre, m, mp, n + 1, h1, h2, h3 => by
    rw [iter_succ]
    have : data_Check_L1 n0 l (mp, (pre.length : Int), m) = some (.inr (.inl ())) := by
      unfold data_Check_L1
      rw [if_neg (by simp [h1])]
    rw [this]
    exact ⟨_, rfl, rfl⟩
  | x :: xs, pre, m, mp, n + 1, h1, h2, h3 => by
    rw [iter_succ]
    unfold chkR
    have hx : getI l (pre.length : Int) = some x := by rw [getI_nat, h1]; simp
    have hlen : pre.length < l.length := by rw [h1]; simp
    have hs : data_Check_L1 n0 l (mp, (pre.length : Int), m) = if mayB x = false then some (.inr (.inr 2)) else if pre.any (fun p => sameK p x) = true then some (.inr (.inr 8)) else if 1024 ≤ pre.length then some (.inr (.inr 7)) else if 65536 < addW .i64 m x.Size then some (.inr (.inr 7)) else some (.inl (mput data_key.beq mp (data_key.mk x.Name x.Hart) 1, ((pre ++ [x]).length : Int), addW .i64 m x.Size)) := by
      unfold data_Check_L1
      rw [if_pos (by simp; omega)]
      dsimp only
      rw [hx]
      simp only [Option.bind_some, mayB_spec, h2 x]
      rw [addN1 _ (by omega)]
      have hc3 : ((1024 : Int) ≤ (pre.length : Int)) ↔ 1024 ≤ pre.length := by omega
      simp [hc3]
    rw [hs]
    by_cases c1 : mayB x = false
    · rw [if_pos c1, if_pos c1]; exact ⟨_, rfl, rfl⟩
    rw [if_neg c1, if_neg c1]
    by_cases c2 : pre.any (fun p => sameK p x) = true
    · rw [if_pos c2, if_pos c2]; exact ⟨_, rfl, rfl⟩
    rw [if_neg c2, if_neg c2]
    by_cases c3 : 1024 ≤ pre.length
    · rw [if_pos c3, if_pos c3]; exact ⟨_, rfl, rfl⟩
    rw [if_neg c3, if_neg c3]
    by_cases c4 : 65536 < addW .i64 m x.Size
    · rw [if_pos c4, if_pos c4]; exact ⟨_, rfl, rfl⟩
    rw [if_neg c4, if_neg c4]
    refine dataCheck n0 l hl xs (pre ++ [x]) _ _ n (by rw [h1]; simp) (fun y => ?_) (by simp at h3; omega)
    rw [mget_mput key_iff, List.any_append]
    by_cases hk : data_key.beq (data_key.mk y.Name y.Hart) (data_key.mk x.Name x.Hart) = true
    · rw [if_pos hk]
      have : sameK x y = true := sameK_iff.2 ((key_iff _ _).1 hk)
      simp [this]
    · rw [if_neg hk, h2 y]
      have : sameK x y = false := by
        cases h : sameK x y with
        | false => rfl
        | true => exact absurd ((key_iff _ _).2 (sameK_iff.1 h)) hk
      simp [this]
theorem dataCheck_ (n : Nat) (l : List Piece) (hl : l.length < n) (h2 : l.length ≤ 1000) : data_Check n l = some (chkR [] 0 l) := by
  obtain ⟨t, h1, h2⟩ := dataCheck n l (by omega) l [] 0 [] n rfl (fun x => rfl) hl
  unfold data_Check
  rw [show (0 : Int) = (([] : List Piece).length : Int) from rfl, show (((([] : List Piece).length : Int))) = 0 from rfl]
  rw [show (([] : List Piece).length : Int) = 0 from rfl] at h1
  rw [h1, ← h2]
  cases t <;> rfl

/-- No two of what is checked have one key. -/
theorem chk_apart : ∀ (xs pre : List Piece) (m : Int), chkR pre m xs = 0 → (∀ x ∈ xs, ∀ p ∈ pre, sameK p x = false) ∧ xs.Pairwise (fun p x => sameK p x = false)
  | [], _, _, _ => ⟨fun x hx => absurd hx List.not_mem_nil, List.Pairwise.nil⟩
  | x :: xs, pre, m, h => by
    unfold chkR at h
    by_cases c1 : mayB x = false
    · rw [if_pos c1] at h; exact absurd h (by decide)
    rw [if_neg c1] at h
    by_cases c2 : pre.any (fun p => sameK p x) = true
    · rw [if_pos c2] at h; exact absurd h (by decide)
    rw [if_neg c2] at h
    by_cases c3 : 1024 ≤ pre.length
    · rw [if_pos c3] at h; exact absurd h (by decide)
    rw [if_neg c3] at h
    by_cases c4 : 65536 < addW .i64 m x.Size
    · rw [if_pos c4] at h; exact absurd h (by decide)
    rw [if_neg c4] at h
    obtain ⟨h1, h2⟩ := chk_apart xs _ _ h
    refine And.intro (fun y hy p hp => ?_) (List.pairwise_cons.2 ⟨fun y hy => h1 y hy x (by simp), h2⟩)
    rcases List.mem_cons.1 hy with rfl | hy
    · cases hs : sameK p y with
      | false => rfl
      | true => exact absurd (List.any_eq_true.2 ⟨p, hp, hs⟩) c2
    · exact h1 y hy p (by simp [hp])

/-! ### Laid out -/
def nxt (a : Int) (p : Piece) : Int := addW .u64 a (mulW .u64 8 (IntKind.wrap .u64 p.Size))
def seats : Int → List Piece → List Seat
  | _, [] => []
  | a, p :: l => Seat.mk p a :: seats (nxt a p) l
def endA : Int → List Piece → Int
  | a, [] => a
  | a, p :: l => endA (nxt a p) l
theorem seats_app : ∀ (l m : List Piece) (a : Int), seats a (l ++ m) = seats a l ++ seats (endA a l) m
  | [], _, _ => rfl
  | p :: l, m, a => by
    show Seat.mk p a :: seats (nxt a p) (l ++ m) = Seat.mk p a :: (seats (nxt a p) l ++ _)
    rw [seats_app l m]
    rfl
theorem endA_app : ∀ (l m : List Piece) (a : Int), endA a (l ++ m) = endA (endA a l) m
  | [], _, _ => rfl
  | p :: l, m, a => endA_app l m (nxt a p)
theorem seats_len : ∀ (l : List Piece) (a : Int), (seats a l).length = l.length
  | [], _ => rfl
  | p :: l, a => by unfold seats; rw [List.length_cons, seats_len l]; rfl

theorem layLoop (n0 : Nat) (l : List Piece) (hl : l.length ≤ 1000) : ∀ (xs pre : List Piece) (acc : List Seat) (a : Int) (n : Nat), l = pre ++ xs → acc.length = pre.length → xs.length < n →
    iter (fun s => data_Lay2_L1 n0 l s) n (acc, (pre.length : Int), a) = some (acc ++ seats a xs)
  | _, _, _, _, 0, _, _, h => by omega
  | [], pre, acc, a, n + 1, h1, h2, h3 => by
    rw [iter_succ]
    have : data_Lay2_L1 n0 l (acc, (pre.length : Int), a) = some (.inr acc) := by
      unfold data_Lay2_L1
      rw [if_neg (by simp [h1])]
    rw [this]
    simp [seats]
  | x :: xs, pre, acc, a, n + 1, h1, h2, h3 => by
    rw [iter_succ]
    have hx : getI l (pre.length : Int) = some x := by rw [getI_nat, h1]; simp
    have hlen : pre.length < l.length := by rw [h1]; simp
    have hs : data_Lay2_L1 n0 l (acc, (pre.length : Int), a) = some (.inl (acc ++ [Seat.mk x a], ((pre ++ [x]).length : Int), nxt a x)) := by
      unfold data_Lay2_L1
      rw [if_pos (by simp; omega)]
      dsimp only
      rw [hx]
      simp only [Option.bind_some]
      rw [grd_pos (by simp; omega), addN1 _ (by omega)]
      unfold data_piece_bytes nxt
      simp
    rw [hs]
    simp only
    rw [layLoop n0 l hl xs (pre ++ [x]) _ _ n (by rw [h1]; simp) (by simp [h2]) (by simp at h3; omega)]
    simp [seats]
theorem chk_ok (n : Nat) (l : List Piece) (hl : l.length ≤ 40) (hn : 200 ≤ n) (hc : chkR [] 0 l = 0) : data_Check n l = some 0 ∧ OKL l := by
  obtain ⟨e, he, hok⟩ := check_spec n l (by omega) (by omega)
  rw [dataCheck_ n l (by omega) (by omega), hc] at he
  have he := Option.some.inj he
  exact ⟨by rw [dataCheck_ n l (by omega) (by omega), hc], hok he.symm⟩
theorem lay_okD (n : Nat) (l : List Piece) (hl : l.length ≤ 40) (hn : 200 ≤ n) (hc : chkR [] 0 l = 0) : ∃ r, Stb hk l r ∧ Inc hk r ∧ data_Lay n l = some (seats 1048576 r, 0) := by
  cases l with
  | nil =>
    refine ⟨[], Stb.refl _, Inc.nil, ?_⟩
    show data_Lay3 n = _
    unfold data_Lay3
    obtain ⟨k, rfl⟩ : ∃ k, n = k + 1 := ⟨n - 1, by omega⟩
    rfl
  | cons x xs =>
    obtain ⟨r, h1, h2, h3⟩ := stable_ n (x :: xs) hl (by omega)
    refine ⟨r, h2, h3, ?_⟩
    show data_Lay2 n x xs = _
    unfold data_Lay2
    rw [dataCheck_ n _ (by omega) (by omega), hc]
    simp only [Option.bind_some]
    rw [if_neg (by decide)]
    unfold slices_Clone_api_Piece_api_Piece_S
    rw [grd_pos (by simp at hl ⊢; omega)]
    simp only [Option.bind_some]
    rw [h1]
    simp only [Option.bind_some]
    have lr := h2.len
    have := layLoop n r (by omega) r [] [] 1048576 n rfl rfl (by omega)
    rw [show (([] : List Piece).length : Int) = 0 from rfl] at this
    rw [this]
    simp
end Go.Proofs.Ytnjpjmeoednfcaa
