/- The library's sort that keeps the order of what is equal, its merge. Plain lists, no program in sight. -/
import Derived.Test.YtnjpjmeoednfcaaS2
namespace Go.Proofs.Ytnjpjmeoednfcaa
open Go A Srt

/-! ### The merge -/
theorem fwd (n0 e : Nat) (he : e ≤ 1000) : ∀ (n : Nat) (q x y : List Piece) (w : Piece), x.length + 1 + q.length = e → q.length < n →
    iter (fun s => slices_symMergeCmpFunc_Piece_S_L2 n0 (e : Int) s) n (x ++ (w :: (q ++ y)), (x.length : Int)) = some (x ++ (q ++ (w :: y)))
  | 0, _, _, _, _, _, h => by omega
  | n + 1, [], x, y, w, h1, h2 => by
    rw [iter_succ]
    have hs : slices_symMergeCmpFunc_Piece_S_L2 n0 (e : Int) (x ++ (w :: ([] ++ y)), (x.length : Int)) = some (.inr (x ++ ([] ++ (w :: y)))) := by
      unfold slices_symMergeCmpFunc_Piece_S_L2
      rw [subN1 e (by omega) (by omega), if_neg (by simp at h1 ⊢; omega)]
      rfl
    rw [hs]
  | n + 1, c :: q, x, y, w, h1, h2 => by
    simp only [List.length_cons] at h1 h2
    rw [iter_succ]
    have hs : slices_symMergeCmpFunc_Piece_S_L2 n0 (e : Int) (x ++ (w :: (c :: q ++ y)), (x.length : Int)) = some (.inl ((x ++ [c]) ++ (w :: (q ++ y)), ((x.length + 1 : Nat) : Int))) := by
      unfold slices_symMergeCmpFunc_Piece_S_L2
      rw [subN1 e (by omega) (by omega), if_pos (by simp; omega)]
      dsimp only
      rw [addN1 _ (by omega)]
      rw [getN (l := x ++ (w :: (c :: q ++ y))) (x := x ++ [w]) (y := q ++ y) (w := c) (by simp) (by simp)]
      simp only [Option.bind_some]
      rw [getN (l := x ++ (w :: (c :: q ++ y))) (x := x) (y := c :: q ++ y) (w := w) (by simp) rfl]
      simp only [Option.bind_some, Int.toNat_natCast]
      rw [set_ (a := w) (b := c) rfl]
      rw [getN (l := x ++ (c :: (c :: q ++ y))) (x := x ++ [c]) (y := q ++ y) (w := c) (by simp) (by simp)]
      simp only [Option.bind_some]
      rw [show x ++ (c :: (c :: q ++ y)) = (x ++ [c]) ++ (c :: (q ++ y)) by simp, set_ (by simp)]
    rw [hs]
    have := fwd n0 e he n q (x ++ [c]) y w (by simp; omega) (by omega)
    simp only [List.length_append, List.length_cons, List.length_nil, Nat.zero_add] at this
    have e2 : x ++ [c] ++ (q ++ w :: y) = x ++ (c :: q ++ w :: y) := by simp
    rw [e2] at this
    exact this
theorem bwd (n0 e : Nat) : ∀ (n : Nat) (q x y : List Piece) (w : Piece), x.length = e → e + q.length ≤ 1000 → q.length < n →
    iter (fun s => slices_symMergeCmpFunc_Piece_S_L4 n0 (e : Int) s) n (x ++ (q ++ (w :: y)), ((e + q.length : Nat) : Int)) = some (x ++ (w :: (q ++ y)))
  | 0, _, _, _, _, _, _, h => by omega
  | n + 1, q, x, y, w, h1, h2, h3 => by
    rw [iter_succ]
    rcases List.eq_nil_or_concat q with rfl | ⟨q', c, rfl⟩
    · have hs : slices_symMergeCmpFunc_Piece_S_L4 n0 (e : Int) (x ++ ([] ++ (w :: y)), ((e + ([] : List Piece).length : Nat) : Int)) = some (.inr (x ++ (w :: ([] ++ y)))) := by
        unfold slices_symMergeCmpFunc_Piece_S_L4
        rw [if_neg (by simp)]
        rfl
      rw [hs]
    · simp only [List.concat_eq_append] at *
      simp only [List.length_append, List.length_cons, List.length_nil] at h2 h3 ⊢
      have hs : slices_symMergeCmpFunc_Piece_S_L4 n0 (e : Int) (x ++ (q' ++ [c] ++ (w :: y)), ((e + (q'.length + (0 + 1)) : Nat) : Int)) = some (.inl (x ++ (q' ++ (w :: (c :: y))), ((e + q'.length : Nat) : Int))) := by
        unfold slices_symMergeCmpFunc_Piece_S_L4
        rw [if_pos (by simp; omega)]
        dsimp only
        rw [subN1 _ (by omega) (by omega)]
        rw [getN (l := x ++ (q' ++ [c] ++ (w :: y))) (x := x ++ q') (y := w :: y) (w := c) (by simp) (by simp; omega)]
        simp only [Option.bind_some]
        rw [getN (l := x ++ (q' ++ [c] ++ (w :: y))) (x := x ++ q' ++ [c]) (y := y) (w := w) (by simp) (by simp; omega)]
        simp only [Option.bind_some, Int.toNat_natCast]
        rw [show x ++ (q' ++ [c] ++ (w :: y)) = (x ++ q' ++ [c]) ++ (w :: y) by simp, set_ (by simp; omega)]
        rw [getN (l := (x ++ q' ++ [c]) ++ (c :: y)) (x := x ++ q') (y := c :: y) (w := c) (by simp) (by simp; omega)]
        simp only [Option.bind_some]
        rw [show (x ++ q' ++ [c]) ++ (c :: y) = (x ++ q') ++ (c :: (c :: y)) by simp, set_ (by simp; omega)]
        rw [show e + (q'.length + (0 + 1)) - 1 = e + q'.length by omega]
        simp
      rw [hs]
      have := bwd n0 e n q' x (c :: y) w h1 (by omega) (by omega)
      refine this.trans ?_
      simp

theorem inMid {d x u y : List Piece} (h : d = x ++ (u ++ y)) {k : Nat} (h1 : x.length ≤ k) (h2 : k < x.length + u.length) : getI d (k : Int) = some (u[k - x.length]'(by omega)) := by
  subst h
  rw [getI_nat, List.getElem?_append_right h1, List.getElem?_append_left (by omega), List.getElem?_eq_getElem]

/-- What the merge does with a turn and two halves. -/
theorem cutAt (u : List Piece) (k : Nat) (hk' : k ≤ u.length) : ∃ u1 u2, u = u1 ++ u2 ∧ u1.length = k ∧ u2.length = u.length - k :=
  ⟨u.take k, u.drop k, (List.take_append_drop _ _).symm, by rw [List.length_take]; omega, by rw [List.length_drop]⟩

theorem crossLe {l1 l2 r1 r2 : List Piece} (hl : Inc hk (l1 ++ l2)) (hr : Inc hk (r1 ++ r2)) (h : l1 = [] ∨ r2 = [] ∨ ∃ a b, a ∈ l1 ∧ b ∈ r2 ∧ (∀ x ∈ l1, hk x ≤ hk a) ∧ (∀ y ∈ r2, hk b ≤ hk y) ∧ hk a ≤ hk b) : ∀ x ∈ l1, ∀ y ∈ r2, hk x ≤ hk y := by
  intro x hx y hy
  rcases h with rfl | rfl | ⟨a, b, _, _, h1, h2, h3⟩
  · cases hx
  · cases hy
  · have := h1 x hx
    have := h2 y hy
    omega
theorem incLast {l : List Piece} (h : Inc hk l) (k : Nat) (hl : l.length = k + 1) : ∀ x ∈ l, hk x ≤ hk (l[k]'(by omega)) := by
  intro x hx
  obtain ⟨i, hi, rfl⟩ := List.mem_iff_getElem.1 hx
  exact h.mono (by omega) (by omega)
theorem incFirst {l : List Piece} (h : Inc hk l) (hl : 0 < l.length) : ∀ x ∈ l, hk (l[0]'hl) ≤ hk x := by
  intro x hx
  obtain ⟨i, hi, rfl⟩ := List.mem_iff_getElem.1 hx
  exact h.mono (by omega) hi

theorem symRest (n : Nat) (ih : ∀ (x u v y : List Piece), 1 ≤ u.length → 1 ≤ v.length → Inc hk u → Inc hk v → x.length + u.length + v.length ≤ 800 → u.length + v.length + 2 ≤ n →
      ∃ r, slices_symMergeCmpFunc_Piece_S n (x.length : Nat) ((x.length + u.length : Nat) : Int) ((x.length + u.length + v.length : Nat) : Int) (x ++ (u ++ (v ++ y))) = some (x ++ (r ++ y)) ∧ Stb hk (u ++ v) r ∧ Inc hk r)
    (x u1 u2 v1 v2 y : List Piece) (hu : Inc hk (u1 ++ u2)) (hv : Inc hk (v1 ++ v2)) (hle : ∀ a ∈ u1, ∀ b ∈ v2, hk a ≤ hk b) (hlt : ∀ a ∈ u2, ∀ b ∈ v1, hk b < hk a)
    (hb : x.length + u1.length + u2.length + v1.length + v2.length ≤ 800) (hn1 : u1.length + v1.length + 2 ≤ n) (hn2 : u2.length + v2.length + 2 ≤ n) :
    ∃ d2 d3 d4, (1 ≤ u2.length → 1 ≤ v1.length → u2.length + v1.length < n → slices_rotateCmpFunc_Piece_S n ((x.length + u1.length : Nat) : Int) ((x.length + u1.length + u2.length : Nat) : Int) ((x.length + u1.length + u2.length + v1.length : Nat) : Int) (x ++ (u1 ++ u2 ++ (v1 ++ v2 ++ y))) = some d2) ∧
      (¬ (1 ≤ u2.length ∧ 1 ≤ v1.length) → d2 = x ++ (u1 ++ u2 ++ (v1 ++ v2 ++ y))) ∧
      (1 ≤ u1.length → 1 ≤ v1.length → slices_symMergeCmpFunc_Piece_S n (x.length : Nat) ((x.length + u1.length : Nat) : Int) ((x.length + u1.length + v1.length : Nat) : Int) d2 = some d3) ∧ (¬ (1 ≤ u1.length ∧ 1 ≤ v1.length) → d3 = d2) ∧
      (1 ≤ u2.length → 1 ≤ v2.length → slices_symMergeCmpFunc_Piece_S n ((x.length + u1.length + v1.length : Nat) : Int) ((x.length + u1.length + v1.length + u2.length : Nat) : Int) ((x.length + u1.length + v1.length + u2.length + v2.length : Nat) : Int) d3 = some d4) ∧ (¬ (1 ≤ u2.length ∧ 1 ≤ v2.length) → d4 = d3) ∧
      ∃ r, d4 = x ++ (r ++ y) ∧ Stb hk (u1 ++ u2 ++ (v1 ++ v2)) r ∧ Inc hk r := by
  -- the two halves, merged
  have H1 : ∃ r1, (1 ≤ u1.length → 1 ≤ v1.length → slices_symMergeCmpFunc_Piece_S n (x.length : Nat) ((x.length + u1.length : Nat) : Int) ((x.length + u1.length + v1.length : Nat) : Int) (x ++ (u1 ++ (v1 ++ (u2 ++ (v2 ++ y))))) = some (x ++ (r1 ++ (u2 ++ (v2 ++ y))))) ∧ (¬ (1 ≤ u1.length ∧ 1 ≤ v1.length) → x ++ (r1 ++ (u2 ++ (v2 ++ y))) = x ++ (u1 ++ (v1 ++ (u2 ++ (v2 ++ y))))) ∧ Stb hk (u1 ++ v1) r1 ∧ Inc hk r1 := by
    by_cases hc : 1 ≤ u1.length ∧ 1 ≤ v1.length
    · obtain ⟨r, h1, h2, h3⟩ := ih x u1 v1 (u2 ++ (v2 ++ y)) hc.1 hc.2 hu.left hv.left (by omega) (by omega)
      exact ⟨r, fun _ _ => h1, fun h => absurd hc h, h2, h3⟩
    · refine ⟨u1 ++ v1, fun a b => absurd ⟨a, b⟩ hc, fun _ => by simp, Stb.refl _, ?_⟩
      refine hu.left.app hv.left fun a ha b hb => ?_
      have := List.length_pos_of_mem ha
      have := List.length_pos_of_mem hb
      omega
  obtain ⟨r1, a1, a2, a3, a4⟩ := H1
  have l1 : r1.length = u1.length + v1.length := by rw [a3.len]; simp
  have H2 : ∃ r2, (1 ≤ u2.length → 1 ≤ v2.length → slices_symMergeCmpFunc_Piece_S n ((x.length + u1.length + v1.length : Nat) : Int) ((x.length + u1.length + v1.length + u2.length : Nat) : Int) ((x.length + u1.length + v1.length + u2.length + v2.length : Nat) : Int) (x ++ (r1 ++ (u2 ++ (v2 ++ y)))) = some (x ++ (r1 ++ (r2 ++ y)))) ∧ (¬ (1 ≤ u2.length ∧ 1 ≤ v2.length) → x ++ (r1 ++ (r2 ++ y)) = x ++ (r1 ++ (u2 ++ (v2 ++ y)))) ∧ Stb hk (u2 ++ v2) r2 ∧ Inc hk r2 := by
    by_cases hc : 1 ≤ u2.length ∧ 1 ≤ v2.length
    · obtain ⟨r, h1, h2, h3⟩ := ih (x ++ r1) u2 v2 y hc.1 hc.2 hu.right hv.right (by simp; omega) (by omega)
      refine ⟨r, fun _ _ => ?_, fun h => absurd hc h, h2, h3⟩
      rw [List.length_append, l1] at h1
      rw [show x.length + u1.length + v1.length = x.length + (u1.length + v1.length) by omega]
      rw [List.append_assoc, List.append_assoc] at h1
      exact h1
    · refine ⟨u2 ++ v2, fun a b => absurd ⟨a, b⟩ hc, fun _ => by simp, Stb.refl _, ?_⟩
      refine hu.right.app hv.right fun a ha b hb => ?_
      have := List.length_pos_of_mem ha
      have := List.length_pos_of_mem hb
      omega
  obtain ⟨r2, b1, b2, b3, b4⟩ := H2
  refine ⟨_, _, _, fun g1 g2 g3 => ?_, ?_, a1, a2, b1, b2, r1 ++ r2, by simp, ?_, ?_⟩
  · have := rotate_ n (x.length + u1.length) (x.length + u1.length + u2.length) (x.length + u1.length + u2.length + v1.length) u2 v1 (x ++ u1) (v2 ++ y) (by simp) rfl rfl g1 g2 (by omega) g3
    rw [show x ++ (u1 ++ u2 ++ (v1 ++ v2 ++ y)) = x ++ u1 ++ (u2 ++ (v1 ++ (v2 ++ y))) by simp, this]
    simp
  · intro h
    have : u2 = [] ∨ v1 = [] := by
      cases u2 with
      | nil => exact .inl rfl
      | cons a u2 => cases v1 with
        | nil => exact .inr rfl
        | cons b v1 => exact absurd ⟨by simp, by simp⟩ h
    rcases this with rfl | rfl <;> simp
  · refine Stb.trans ?_ (a3.app b3)
    rw [show u1 ++ u2 ++ (v1 ++ v2) = u1 ++ ((u2 ++ v1) ++ v2) by simp, show u1 ++ v1 ++ (u2 ++ v2) = u1 ++ ((v1 ++ u2) ++ v2) by simp]
    exact (Stb.refl _).app ((Stb.swap hlt).app (Stb.refl _))
  · refine a4.app b4 fun a ha b hb => ?_
    rcases List.mem_append.1 (a3.mem.1 ha) with ha | ha <;> rcases List.mem_append.1 (b3.mem.1 hb) with hb | hb
    · exact hu.cross a ha b hb
    · exact hle a ha b hb
    · exact Int.le_of_lt (hlt b hb a ha)
    · exact hv.cross a ha b hb

set_option maxHeartbeats 2000000 in
/-- The merge's own search: where the two rows are to be cut. -/
theorem symCut (n0 n : Nat) (x u v y : List Piece) (s0 r0 mid N : Nat) (hmid : mid = (x.length + (x.length + u.length + v.length)) / 2) (hN : N = mid + (x.length + u.length)) (hu : Inc hk u) (hv : Inc hk v) (hu1 : 1 ≤ u.length) (hv1 : 1 ≤ v.length)
    (hb : x.length + u.length + v.length ≤ 800) (hn : u.length + v.length < n)
    (hs : (mid < x.length + u.length ∧ s0 = N - (x.length + u.length + v.length) ∧ r0 = mid) ∨ (x.length + u.length ≤ mid ∧ s0 = x.length ∧ r0 = x.length + u.length)) :
    ∃ u1 u2 v1 v2 : List Piece, iter (fun s => slices_symMergeCmpFunc_Piece_S_L5 n0 (x.length : Nat) ((x.length + u.length : Nat) : Int) ((x.length + u.length + v.length : Nat) : Int) (x ++ (u ++ (v ++ y))) s) n ((s0 : Int), (r0 : Int)) = some ((x.length + u1.length : Nat) : Int) ∧
      u = u1 ++ u2 ∧ v = v1 ++ v2 ∧ x.length + u1.length + v1.length = mid ∧ (∀ a ∈ u1, ∀ b ∈ v2, hk a ≤ hk b) ∧ (∀ a ∈ u2, ∀ b ∈ v1, hk b < hk a) := by
  have hr0 : x.length ≤ s0 ∧ s0 ≤ r0 ∧ r0 ≤ x.length + u.length ∧ N - r0 ≥ x.length + u.length ∧ N - s0 ≤ x.length + u.length + v.length ∧ r0 ≤ mid ∧ N ≤ 2000 ∧ mid ≤ 800 := by omega
  obtain ⟨q1, q2, q3, q4, q5, q6, q7, q8⟩ := hr0
  let K1 : Nat → Int := fun c => if h : c - x.length < u.length then hk u[c - x.length] else 0
  let K2 : Nat → Int := fun c => if h : c - (x.length + u.length) < v.length then hk v[c - (x.length + u.length)] else 0
  have k1 : ∀ c, x.length ≤ c → c < x.length + u.length → ∃ e, getI (x ++ (u ++ (v ++ y))) (c : Int) = some e ∧ e.Hart = K1 c := fun c h1 h2 => by
    refine ⟨_, inMid (u := u) (y := v ++ y) rfl h1 h2, ?_⟩
    simp only [K1]
    rw [dif_pos (by omega)]
  have k2 : ∀ c, x.length + u.length ≤ c → c < x.length + u.length + v.length → ∃ e, getI (x ++ (u ++ (v ++ y))) (c : Int) = some e ∧ e.Hart = K2 c := fun c h1 h2 => by
    refine ⟨_, inMid (x := x ++ u) (u := v) (y := y) (by simp) (by simpa using h1) (by simp; omega), ?_⟩
    simp only [K2]
    rw [dif_pos (by omega)]
    simp
  have m1 : ∀ c d, x.length ≤ c → c ≤ d → d < x.length + u.length → K1 c ≤ K1 d := fun c d h1 h2 h3 => by
    simp only [K1]
    rw [dif_pos (by omega), dif_pos (by omega)]
    exact hu.mono (by omega) (by omega)
  have m2 : ∀ c d, x.length + u.length ≤ c → c ≤ d → d < x.length + u.length + v.length → K2 c ≤ K2 d := fun c d h1 h2 h3 => by
    simp only [K2]
    rw [dif_pos (by omega), dif_pos (by omega)]
    exact hv.mono (by omega) (by omega)
  obtain ⟨e, e1, e2, e3, e4, e5⟩ := bs (step := fun s => slices_symMergeCmpFunc_Piece_S_L5 n0 (x.length : Nat) ((x.length + u.length : Nat) : Int) ((x.length + u.length + v.length : Nat) : Int) (x ++ (u ++ (v ++ y))) s) (fun i j => ((i : Int), (j : Int))) (fun c => K1 c ≤ K2 (N - 1 - c)) (fun i => (i : Int)) s0 r0
    (by
      intro i j hi hij hj
      refine ⟨(i + j) / 2, by omega, by omega, ?_⟩
      unfold slices_symMergeCmpFunc_Piece_S_L5
      rw [if_pos (by simp; omega)]
      dsimp only
      rw [midN i j (by omega), midN x.length (x.length + u.length + v.length) (by omega), ← hmid, addN mid _ (by omega), ← hN, subN1 N (by omega) (by omega), subN (N - 1) ((i + j) / 2) (by omega) (by omega)]
      obtain ⟨p, hp, hp'⟩ := k2 (N - 1 - (i + j) / 2) (by omega) (by omega)
      obtain ⟨q, hq, hq'⟩ := k1 ((i + j) / 2) (by omega) (by omega)
      rw [hp, hq]
      simp only [Option.bind_some]
      obtain ⟨c, hc, hd⟩ := cmp_ n0 p q
      rw [hc]
      simp only [Option.bind_some, hd, hp', hq']
      by_cases hle : K1 ((i + j) / 2) ≤ K2 (N - 1 - (i + j) / 2)
      · refine .inl ⟨hle, ?_⟩
        rw [if_pos (by simp; omega), addN1 _ (by omega)]
      · refine .inr ⟨hle, ?_⟩
        rw [if_neg (by simp; omega)])
    (by
      intro i hi hj
      unfold slices_symMergeCmpFunc_Piece_S_L5
      rw [if_neg (by simp)])
    (by
      intro c d h1 h2 h3 hp
      have a1 := m1 c d (by omega) h2 (by omega)
      have a2 := m2 (N - 1 - d) (N - 1 - c) (by omega) (by omega) (by omega)
      omega) n s0 r0 (Nat.le_refl _) q2 (Nat.le_refl _) (by omega)
  obtain ⟨u1, u2, hu2, lu1, lu2⟩ := cutAt u (e - x.length) (by omega)
  obtain ⟨v1, v2, hv2, lv1, lv2⟩ := cutAt v (mid - e) (by omega)
  refine ⟨u1, u2, v1, v2, ?_, hu2, hv2, by omega, ?_, ?_⟩
  · rw [e3, show x.length + u1.length = e by omega]
  · subst hu2
    subst hv2
    simp only [List.length_append] at *
    refine crossLe hu hv ?_
    rcases Nat.eq_or_lt_of_le e1 with h | h
    · rcases hs with ⟨g1, g2, g3⟩ | ⟨g1, g2, g3⟩
      · exact .inr (.inl (List.length_eq_zero_iff.1 (by omega)))
      · exact .inl (List.length_eq_zero_iff.1 (by omega))
    · have hP := e4 (e - 1) (by omega) (by omega)
      simp only [K1, K2] at hP
      rw [dif_pos (by simp; omega), dif_pos (by simp; omega)] at hP
      rw [List.getElem_append_left (by omega), List.getElem_append_right (by simp; omega)] at hP
      have i1 : e - 1 - x.length = u1.length - 1 := by omega
      have i2 : N - 1 - (e - 1) - (x.length + (u1 ++ u2).length) - v1.length = 0 := by simp only [List.length_append]; omega
      simp only [i1, i2] at hP
      exact .inr (.inr ⟨u1[u1.length - 1]'(by omega), v2[0]'(by omega), List.getElem_mem _, List.getElem_mem _, incLast hu.left (u1.length - 1) (by omega), incFirst hv.right (by omega), hP⟩)
  · subst hu2
    subst hv2
    simp only [List.length_append] at *
    intro a ha b hb'
    have la := List.length_pos_of_mem ha
    have lb := List.length_pos_of_mem hb'
    have hP := e5 e (Nat.le_refl _) (by omega)
    simp only [K1, K2] at hP
    rw [dif_pos (by simp; omega), dif_pos (by simp; omega)] at hP
    rw [List.getElem_append_right (by omega), List.getElem_append_left (by simp; omega)] at hP
    have i1 : e - x.length - u1.length = 0 := by omega
    have i2 : N - 1 - e - (x.length + (u1 ++ u2).length) = v1.length - 1 := by simp only [List.length_append]; omega
    simp only [i1, i2] at hP
    have h1 := incFirst hu.right la a ha
    have h2 := incLast hv.left (v1.length - 1) (by omega) b hb'
    omega

set_option maxHeartbeats 4000000 in
theorem sym_ : ∀ (n : Nat) (x u v y : List Piece), 1 ≤ u.length → 1 ≤ v.length → Inc hk u → Inc hk v → x.length + u.length + v.length ≤ 800 → u.length + v.length + 2 ≤ n →
    ∃ r, slices_symMergeCmpFunc_Piece_S n (x.length : Nat) ((x.length + u.length : Nat) : Int) ((x.length + u.length + v.length : Nat) : Int) (x ++ (u ++ (v ++ y))) = some (x ++ (r ++ y)) ∧ Stb hk (u ++ v) r ∧ Inc hk r
  | 0, _, _, _, _, _, _, _, _, _, h => by omega
  | n + 1, x, u, v, y, h1, h2, hu, hv, hb, hn => by
    unfold slices_symMergeCmpFunc_Piece_S
    rw [subN (x.length + u.length) x.length (by omega) (by omega), subN (x.length + u.length + v.length) (x.length + u.length) (by omega) (by omega)]
    by_cases hc1 : u.length = 1
    · obtain ⟨w, rfl⟩ := List.length_eq_one_iff.1 hc1
      rw [if_pos (by simp)]
      have hv' := hv
      obtain ⟨e, e1, e2, e3, e4, e5⟩ := bs (step := fun s => slices_symMergeCmpFunc_Piece_S_L1 n (x.length : Nat) (x ++ ([w] ++ (v ++ y))) s) (fun i j => ((i : Int), (j : Int))) (fun c => ∀ e, getI (x ++ ([w] ++ (v ++ y))) (c : Int) = some e → hk e < hk w) (fun i => (i : Int)) (x.length + 1) (x.length + 1 + v.length)
        (by
          intro i j hi hij hj
          refine ⟨(i + j) / 2, by omega, by omega, ?_⟩
          unfold slices_symMergeCmpFunc_Piece_S_L1
          rw [if_pos (by simp; omega)]
          dsimp only
          rw [midN i j (by omega), inMid (x := x ++ [w]) (u := v) (y := y) (k := (i + j) / 2) (by simp) (by simp; omega) (by simp; omega), getN (l := x ++ ([w] ++ (v ++ y))) (x := x) (y := v ++ y) (w := w) (by simp) rfl]
          simp only [Option.bind_some]
          generalize v[(i + j) / 2 - (x ++ [w]).length]'(by simp; omega) = z
          obtain ⟨c, hc, hd⟩ := cmp_ n z w
          rw [hc]
          simp only [Option.bind_some, hd]
          by_cases hlt : z.Hart < w.Hart
          · refine .inl ⟨fun e he => ?_, ?_⟩
            · cases he; exact hlt
            · rw [if_pos (by simpa using hlt), addN1 _ (by omega)]
          · refine .inr ⟨fun h => hlt (h z rfl), ?_⟩
            rw [if_neg (by simpa using hlt)])
        (by
          intro i hi hj
          unfold slices_symMergeCmpFunc_Piece_S_L1
          rw [if_neg (by simp)])
        (by
          intro c d g1 g2 g3 hp e he
          rw [inMid (x := x ++ [w]) (u := v) (y := y) (k := c) (by simp) (by simp; omega) (by simp; omega)] at he
          have := hp _ (inMid (x := x ++ [w]) (u := v) (y := y) (k := d) (by simp) (by simp; omega) (by simp; omega))
          cases he
          have := hv.mono (i := c - (x ++ [w]).length) (j := d - (x ++ [w]).length) (by omega) (by simp; omega)
          omega) n (x.length + 1) (x.length + 1 + v.length) (Nat.le_refl _) (by omega) (Nat.le_refl _) (by simp at hn; omega)
      obtain ⟨v1, v2, hv2, lv1, lv2⟩ := cutAt v (e - (x.length + 1)) (by omega)
      simp only [List.length_cons, List.length_nil, Nat.zero_add] at e3 ⊢ hb hn
      rw [e3]
      simp only [Option.bind_some]
      have hf := fwd n e (by omega) n v1 x (v2 ++ y) w (by omega) (by omega)
      rw [hv2, show x ++ ([w] ++ (v1 ++ v2 ++ y)) = x ++ (w :: (v1 ++ (v2 ++ y))) by simp, hf]
      have b1 : ∀ z ∈ v1, hk z < hk w := fun z hz => by
        obtain ⟨i, hi, rfl⟩ := List.mem_iff_getElem.1 hz
        refine e4 (x.length + 1 + i) (by omega) (by omega) _ ?_
        rw [inMid (x := x ++ [w]) (u := v) (y := y) (by simp) (by simp) (by simp; omega)]
        subst hv2
        congr 1
        rw [List.getElem_append_left (by simp; omega)]
        simp
      have b2 : ∀ z ∈ v2, hk w ≤ hk z := fun z hz => by
        obtain ⟨i, hi, rfl⟩ := List.mem_iff_getElem.1 hz
        have := e5 (e + i) (by omega) (by omega)
        rcases Int.lt_or_le (hk v2[i]) (hk w) with hlt | hge
        · refine absurd (fun z hz => ?_) this
          rw [inMid (x := x ++ [w]) (u := v) (y := y) (by simp) (by simp; omega) (by simp; omega)] at hz
          subst hv2
          have hz := Option.some.inj hz
          rw [List.getElem_append_right (by simp; omega)] at hz
          subst hz
          simpa [show e + i - (x.length + 1) - v1.length = i by omega] using hlt
        · exact hge
      subst hv2
      refine ⟨v1 ++ (w :: v2), by simp, ?_, ?_⟩
      · rw [show [w] ++ (v1 ++ v2) = ([w] ++ v1) ++ v2 by simp, show v1 ++ (w :: v2) = (v1 ++ [w]) ++ v2 by simp]
        refine (Stb.swap fun a ha b hb => ?_).app (Stb.refl _)
        rw [List.mem_singleton] at ha
        subst ha
        exact b1 b hb
      · refine hv.left.app (List.pairwise_cons.2 ⟨b2, hv.right⟩) fun a ha b hb => ?_
        have := b1 a ha
        rcases List.mem_cons.1 hb with rfl | hb
        · omega
        · have := b2 b hb; omega
    · rw [if_neg (by simp; omega)]
      by_cases hc2 : v.length = 1
      · obtain ⟨w, rfl⟩ := List.length_eq_one_iff.1 hc2
        rw [if_pos (by simp)]
        obtain ⟨e, e1, e2, e3, e4, e5⟩ := bs (step := fun s => slices_symMergeCmpFunc_Piece_S_L3 n ((x.length + u.length : Nat) : Int) (x ++ (u ++ ([w] ++ y))) s) (fun i j => ((i : Int), (j : Int))) (fun c => ∀ e, getI (x ++ (u ++ ([w] ++ y))) (c : Int) = some e → hk e ≤ hk w) (fun i => (i : Int)) x.length (x.length + u.length)
          (by
            intro i j hi hij hj
            refine ⟨(i + j) / 2, by omega, by omega, ?_⟩
            unfold slices_symMergeCmpFunc_Piece_S_L3
            rw [if_pos (by simp; omega)]
            dsimp only
            rw [midN i j (by omega), inMid (x := x) (u := u) (y := [w] ++ y) (k := (i + j) / 2) (by simp) (by omega) (by omega), getN (l := x ++ (u ++ ([w] ++ y))) (x := x ++ u) (y := y) (w := w) (by simp) (by simp)]
            simp only [Option.bind_some]
            generalize u[(i + j) / 2 - x.length]'(by omega) = z
            obtain ⟨c, hc, hd⟩ := cmp_ n w z
            rw [hc]
            simp only [Option.bind_some, hd]
            by_cases hlt : w.Hart < z.Hart
            · refine .inr ⟨fun h => ?_, ?_⟩
              · have := h z rfl
                simp only [hk] at this
                omega
              · rw [if_neg (by simpa using hlt)]
            · refine .inl ⟨fun e he => ?_, ?_⟩
              · cases he; simp only [hk]; omega
              · rw [if_pos (by simpa using hlt), addN1 _ (by omega)])
          (by
            intro i hi hj
            unfold slices_symMergeCmpFunc_Piece_S_L3
            rw [if_neg (by simp)])
          (by
            intro c d g1 g2 g3 hp e he
            rw [inMid (x := x) (u := u) (y := [w] ++ y) (k := c) (by simp) (by omega) (by omega)] at he
            have := hp _ (inMid (x := x) (u := u) (y := [w] ++ y) (k := d) (by simp) (by omega) (by omega))
            cases he
            have := hu.mono (i := c - x.length) (j := d - x.length) (by omega) (by omega)
            omega) n x.length (x.length + u.length) (Nat.le_refl _) (by omega) (Nat.le_refl _) (by omega)
        obtain ⟨u1, u2, hu2, lu1, lu2⟩ := cutAt u (e - x.length) (by omega)
        rw [e3]
        simp only [Option.bind_some]
        have hf := bwd n e n u2 (x ++ u1) y w (by simp; omega) (by omega) (by omega)
        rw [show e + u2.length = x.length + u.length by omega] at hf
        rw [show x ++ (u ++ ([w] ++ y)) = x ++ u1 ++ (u2 ++ (w :: y)) by rw [hu2]; simp, hf]
        have b1 : ∀ z ∈ u1, hk z ≤ hk w := fun z hz => by
          obtain ⟨i, hi, rfl⟩ := List.mem_iff_getElem.1 hz
          refine e4 (x.length + i) (by omega) (by omega) _ ?_
          rw [inMid (x := x) (u := u) (y := [w] ++ y) rfl (by omega) (by omega)]
          subst hu2
          congr 1
          rw [List.getElem_append_left (by omega)]
          simp
        have b2 : ∀ z ∈ u2, hk w < hk z := fun z hz => by
          obtain ⟨i, hi, rfl⟩ := List.mem_iff_getElem.1 hz
          have := e5 (e + i) (by omega) (by omega)
          rcases Int.lt_or_le (hk w) (hk u2[i]) with hlt | hge
          · exact hlt
          · refine absurd (fun z hz => ?_) this
            rw [inMid (x := x) (u := u) (y := [w] ++ y) rfl (by omega) (by omega)] at hz
            subst hu2
            have hz := Option.some.inj hz
            rw [List.getElem_append_right (by omega)] at hz
            subst hz
            simpa [show e + i - x.length - u1.length = i by omega] using hge
        subst hu2
        refine ⟨u1 ++ (w :: u2), by simp, ?_, ?_⟩
        · rw [show u1 ++ u2 ++ [w] = u1 ++ (u2 ++ [w]) by simp, show u1 ++ (w :: u2) = u1 ++ ([w] ++ u2) by simp]
          refine (Stb.refl _).app (Stb.swap fun a ha b hb => ?_)
          rw [List.mem_singleton] at hb
          subst hb
          exact b2 a ha
        · refine hu.left.app (List.pairwise_cons.2 ⟨fun z hz => Int.le_of_lt (b2 z hz), hu.right⟩) fun a ha b hb => ?_
          have := b1 a ha
          rcases List.mem_cons.1 hb with rfl | hb
          · omega
          · have := b2 b hb; omega
      · rw [if_neg (by simp; omega)]
        rw [midN x.length (x.length + u.length + v.length) (by omega)]
        generalize hmid : (x.length + (x.length + u.length + v.length)) / 2 = mid
        rw [addN mid _ (by omega)]
        have key : ∀ s0 r0 : Nat, ((mid < x.length + u.length ∧ s0 = mid + (x.length + u.length) - (x.length + u.length + v.length) ∧ r0 = mid) ∨ (x.length + u.length ≤ mid ∧ s0 = x.length ∧ r0 = x.length + u.length)) →
            ∃ (e : Nat) (d2 d3 d4 : List Piece), x.length ≤ e ∧ e ≤ mid ∧ e ≤ x.length + u.length ∧ iter (fun s => slices_symMergeCmpFunc_Piece_S_L5 n (x.length : Nat) ((x.length + u.length : Nat) : Int) ((x.length + u.length + v.length : Nat) : Int) (x ++ (u ++ (v ++ y))) s) n ((s0 : Int), (r0 : Int)) = some (e : Int) ∧
              (e < x.length + u.length → x.length + u.length < mid + (x.length + u.length) - e → slices_rotateCmpFunc_Piece_S n (e : Int) ((x.length + u.length : Nat) : Int) ((mid + (x.length + u.length) - e : Nat) : Int) (x ++ (u ++ (v ++ y))) = some d2) ∧
              (¬ (e < x.length + u.length ∧ x.length + u.length < mid + (x.length + u.length) - e) → d2 = x ++ (u ++ (v ++ y))) ∧
              (x.length < e → e < mid → slices_symMergeCmpFunc_Piece_S n (x.length : Nat) (e : Int) (mid : Int) d2 = some d3) ∧ (¬ (x.length < e ∧ e < mid) → d3 = d2) ∧
              (mid < mid + (x.length + u.length) - e → mid + (x.length + u.length) - e < x.length + u.length + v.length → slices_symMergeCmpFunc_Piece_S n (mid : Int) ((mid + (x.length + u.length) - e : Nat) : Int) ((x.length + u.length + v.length : Nat) : Int) d3 = some d4) ∧ (¬ (mid < mid + (x.length + u.length) - e ∧ mid + (x.length + u.length) - e < x.length + u.length + v.length) → d4 = d3) ∧
              ∃ r, d4 = x ++ (r ++ y) ∧ Stb hk (u ++ v) r ∧ Inc hk r := by
          intro s0 r0 hs
          obtain ⟨u1, u2, v1, v2, c1, c2, c3, c4, c5, c6⟩ := symCut n n x u v y s0 r0 mid _ hmid.symm rfl hu hv h1 h2 hb (by omega) hs
          subst c2
          subst c3
          simp only [List.length_append] at *
          obtain ⟨d2, d3, d4, f1, f2, f3, f4, f5, f6, f7⟩ := symRest n (fun x u v y => sym_ n x u v y) x u1 u2 v1 v2 y hu hv c5 c6 (by omega) (by omega) (by omega)
          refine ⟨x.length + u1.length, d2, d3, d4, by omega, by omega, by omega, c1, fun g1 g2 => ?_, fun g => f2 (by omega), fun g1 g2 => ?_, fun g => f4 (by omega), fun g1 g2 => ?_, fun g => f6 (by omega), f7⟩
          · have := f1 (by omega) (by omega) (by omega)
            rw [show x.length + (u1.length + u2.length) = x.length + u1.length + u2.length by omega, show mid + (x.length + u1.length + u2.length) - (x.length + u1.length) = x.length + u1.length + u2.length + v1.length by omega]
            exact this
          · have := f3 (by omega) (by omega)
            rw [← c4]
            exact this
          · have := f5 (by omega) (by omega)
            rw [show x.length + (u1.length + u2.length) + (v1.length + v2.length) = x.length + u1.length + v1.length + u2.length + v2.length by omega, show mid + (x.length + (u1.length + u2.length)) - (x.length + u1.length) = x.length + u1.length + v1.length + u2.length by omega, ← c4]
            exact this
        by_cases hm : mid < x.length + u.length
        · obtain ⟨e, d2, d3, d4, e1, e2, e3, c0, c1, c2, c3, c4, c5, c6, r, c7, c8, c9⟩ := key (mid + (x.length + u.length) - (x.length + u.length + v.length)) mid (.inl ⟨hm, rfl, rfl⟩)
          rw [if_pos (by simp; omega), subN (mid + (x.length + u.length)) (x.length + u.length + v.length) (by omega) (by omega), c0]
          simp only [Option.bind_some]
          rw [subN (mid + (x.length + u.length)) e (by omega) (by omega)]
          simp only [decide_eq_true_eq, Int.ofNat_lt]
          refine ⟨r, ?_, c8, c9⟩
          rw [← c7]
          clear key c7 c8 c9
          by_cases g1 : e < x.length + u.length <;> by_cases g2 : x.length + u.length < mid + (x.length + u.length) - e <;> by_cases g3 : x.length < e <;> by_cases g4 : e < mid <;> by_cases g5 : mid < mid + (x.length + u.length) - e <;> by_cases g6 : mid + (x.length + u.length) - e < x.length + u.length + v.length <;>
            simp only [g1, g2, g3, g4, g5, g6, if_true, if_false, not_true_eq_false, not_false_eq_true, and_true, and_false, forall_const, false_implies] at c1 c2 c3 c4 c5 c6 ⊢ <;> (try subst c2) <;> (try subst c4) <;> (try subst c6) <;> simp only [Option.bind_some, *]
        · obtain ⟨e, d2, d3, d4, e1, e2, e3, c0, c1, c2, c3, c4, c5, c6, r, c7, c8, c9⟩ := key x.length (x.length + u.length) (.inr ⟨by omega, rfl, rfl⟩)
          rw [if_neg (by simp; omega), c0]
          simp only [Option.bind_some]
          rw [subN (mid + (x.length + u.length)) e (by omega) (by omega)]
          simp only [decide_eq_true_eq, Int.ofNat_lt]
          refine ⟨r, ?_, c8, c9⟩
          rw [← c7]
          clear key c7 c8 c9
          by_cases g1 : e < x.length + u.length <;> by_cases g2 : x.length + u.length < mid + (x.length + u.length) - e <;> by_cases g3 : x.length < e <;> by_cases g4 : e < mid <;> by_cases g5 : mid < mid + (x.length + u.length) - e <;> by_cases g6 : mid + (x.length + u.length) - e < x.length + u.length + v.length <;>
            simp only [g1, g2, g3, g4, g5, g6, if_true, if_false, not_true_eq_false, not_false_eq_true, and_true, and_false, forall_const, false_implies] at c1 c2 c3 c4 c5 c6 ⊢ <;> (try subst c2) <;> (try subst c4) <;> (try subst c6) <;> simp only [Option.bind_some, *]
end Go.Proofs.Ytnjpjmeoednfcaa
