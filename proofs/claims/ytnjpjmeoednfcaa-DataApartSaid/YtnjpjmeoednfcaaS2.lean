/- The library's sort that keeps the order of what is equal: what it gives. Plain lists, no program in sight. -/
import Derived.Test.YtnjpjmeoednfcaaM1
import Derived.Test.YtnjpjmeoednfcaaS1
namespace Go.Proofs.Ytnjpjmeoednfcaa
open Go A Srt

abbrev hk : Piece → Int := Piece.Hart

theorem addN (a b : Nat) (h : a + b ≤ 1000000) : addW .i64 (a : Int) (b : Int) = ((a + b : Nat) : Int) := by
  rw [addI (by omega) (by omega)]; omega
theorem addN1 (a : Nat) (h : a < 1000000) : addW .i64 (a : Int) 1 = ((a + 1 : Nat) : Int) := by
  have := addN a 1 (by omega)
  exact this
theorem subN (a b : Nat) (h : b ≤ a) (h2 : a ≤ 1000000) : subW .i64 (a : Int) (b : Int) = ((a - b : Nat) : Int) := by
  rw [subI (by omega) (by omega)]; omega
theorem subN1 (a : Nat) (h : 1 ≤ a) (h2 : a ≤ 1000000) : subW .i64 (a : Int) 1 = ((a - 1 : Nat) : Int) := by
  have := subN a 1 h h2
  exact this
theorem midN (a b : Nat) (h : a + b ≤ 1000000) : IntKind.wrap .i64 (shrW .u64 (IntKind.wrap .u64 (addW .i64 (a : Int) (b : Int))) 1) = (((a + b) / 2 : Nat) : Int) := by
  rw [addN a b h, wrapU (by omega) (by omega)]
  have e : shrW .u64 ((a + b : Nat) : Int) 1 = (((a + b) / 2 : Nat) : Int) := by
    unfold shrW
    rw [show (min (1 : Int).toNat IntKind.u64.bits) = 1 by decide]
    rw [Int.fdiv_eq_ediv_of_nonneg _ (by decide)]
    omega
  rw [e, wrapI (by omega) (by omega)]

theorem cmp_ (n : Nat) (x y : Piece) : ∃ c, data_Lay_1 n x y = some c ∧ decide (c < 0) = decide (x.Hart < y.Hart) := by
  unfold data_Lay_1 data_piece_part cmp_Compare_int cmp_isNaN_int
  simp only [Option.bind_some, bne_self_eq_false, Bool.false_eq_true, if_false, decide_eq_true_eq]
  split
  · exact ⟨_, rfl, by simp; omega⟩
  · split
    · exact ⟨_, rfl, by simp; omega⟩
    · exact ⟨_, rfl, by simp; omega⟩

theorem getN {l x y : List Piece} {w : Piece} {i : Nat} (h : l = x ++ w :: y) (hi : i = x.length) : getI l (i : Int) = some w := by
  rw [getI_nat]; exact at_ h hi

/-! ### Exchanging two rows -/
theorem swapL (n0 a b k : Nat) (hb : b + k ≤ 1000) (hab : a ≤ b) : ∀ (n : Nat) (u v x z y : List Piece) (i : Nat), u.length = v.length → x.length = a + i → x.length + u.length + z.length = b + i → i + u.length = k → u.length < n →
    iter (fun s => slices_swapRangeCmpFunc_Piece_S_L1 n0 a b k s) n (x ++ (u ++ (z ++ (v ++ y))), (i : Int)) = some (x ++ (v ++ (z ++ (u ++ y))))
  | 0, _, _, _, _, _, _, _, _, _, _, h => by omega
  | n + 1, [], [], x, z, y, i, _, h1, h2, h3, h4 => by
    rw [iter_succ]
    unfold slices_swapRangeCmpFunc_Piece_S_L1
    rw [if_neg (by simp at h3 ⊢; omega)]
  | n + 1, [], _ :: _, _, _, _, _, h, _, _, _, _ => by simp at h
  | n + 1, _ :: _, [], _, _, _, _, h, _, _, _, _ => by simp at h
  | n + 1, p :: u, q :: v, x, z, y, i, h0, h1, h2, h3, h4 => by
    simp only [List.length_cons] at h0 h2 h3 h4
    have ha : getI (x ++ (p :: u ++ (z ++ (q :: v ++ y)))) ((a + i : Nat) : Int) = some p := getN (x := x) (y := u ++ (z ++ (q :: v ++ y))) (by simp) (by omega)
    have hb' : getI (x ++ (p :: u ++ (z ++ (q :: v ++ y)))) ((b + i : Nat) : Int) = some q := getN (x := x ++ (p :: u ++ z)) (y := v ++ y) (by simp) (by simp; omega)
    have e1 : (x ++ (p :: u ++ (z ++ (q :: v ++ y)))).set (a + i) q = x ++ (q :: u ++ (z ++ (q :: v ++ y))) := set_ (by omega)
    have hc : getI (x ++ (q :: u ++ (z ++ (q :: v ++ y)))) ((b + i : Nat) : Int) = some q := getN (x := x ++ (q :: u ++ z)) (y := v ++ y) (by simp) (by simp; omega)
    have e2 : (x ++ (q :: u ++ (z ++ (q :: v ++ y)))).set (b + i) p = (x ++ [q]) ++ (u ++ ((z ++ [p]) ++ (v ++ y))) := by
      have : x ++ (q :: u ++ (z ++ (q :: v ++ y))) = (x ++ (q :: u ++ z)) ++ q :: (v ++ y) := by simp
      rw [this, set_ (by simp; omega)]
      simp
    rw [iter_succ]
    have hs : slices_swapRangeCmpFunc_Piece_S_L1 n0 a b k (x ++ (p :: u ++ (z ++ (q :: v ++ y))), (i : Int)) = some (.inl ((x ++ [q]) ++ (u ++ ((z ++ [p]) ++ (v ++ y))), ((i + 1 : Nat) : Int))) := by
      unfold slices_swapRangeCmpFunc_Piece_S_L1
      rw [if_pos (by simp; omega)]
      dsimp only
      rw [addN b i (by omega), addN a i (by omega), addN1 i (by omega), hb']
      simp only [Option.bind_some, ha, Int.toNat_natCast]
      rw [e1, hc]
      simp only [Option.bind_some]
      rw [e2]
    rw [hs]
    have := swapL n0 a b k hb hab n u v (x ++ [q]) (z ++ [p]) y (i + 1) (by omega) (by simp; omega) (by simp; omega) (by omega) (by omega)
    simp only
    rw [this]
    simp
theorem swapRange_ (n a b : Nat) (u v x z y : List Piece) (h0 : u.length = v.length) (h1 : x.length = a) (h2 : x.length + u.length + z.length = b) (hb : b + u.length ≤ 1000) (hn : u.length < n) :
    slices_swapRangeCmpFunc_Piece_S n a b (u.length : Nat) (x ++ (u ++ (z ++ (v ++ y)))) = some (x ++ (v ++ (z ++ (u ++ y)))) := by
  unfold slices_swapRangeCmpFunc_Piece_S
  have := swapL n a b u.length hb (by omega) n u v x z y 0 h0 (by omega) (by omega) (by omega) hn
  rw [show ((0 : Nat) : Int) = 0 from rfl] at this
  rw [this]
  rfl

/-! ### Turning two rows round -/
theorem rotL (n0 m : Nat) (R : List Piece) : ∀ (n : Nat) (u v x y : List Piece), x.length + u.length = m → 1 ≤ u.length → 1 ≤ v.length → m + v.length ≤ 1000 → u.length + v.length < n → u.length + v.length < n0 → R = x ++ (v ++ (u ++ y)) →
    ∃ u' v' x' y' : List Piece, iter (fun s => slices_rotateCmpFunc_Piece_S_L1 n0 m s) n (x ++ (u ++ (v ++ y)), (u.length : Int), (v.length : Int)) = some (x' ++ (u' ++ (v' ++ y')), (u'.length : Int)) ∧ u'.length = v'.length ∧ x'.length + u'.length = m ∧ m + v'.length ≤ 1000 ∧ u'.length < n0 ∧ R = x' ++ (v' ++ (u' ++ y'))
  | 0, _, _, _, _, _, _, _, _, h, _, _ => by omega
  | n + 1, u, v, x, y, h1, h2, h3, h4, h5, h6, hR => by
    rw [iter_succ]
    unfold slices_rotateCmpFunc_Piece_S_L1
    dsimp only
    rcases Nat.lt_trichotomy u.length v.length with hlt | heq | hgt
    · rw [if_pos (by simp; omega), if_neg (by simp; omega)]
      rw [subN m u.length (by omega) (by omega), addN m v.length (by omega), subN (m + v.length) u.length (by omega) (by omega), subN v.length u.length (by omega) (by omega)]
      have hv : v = v.take (v.length - u.length) ++ v.drop (v.length - u.length) := (List.take_append_drop _ _).symm
      have l1 : (v.take (v.length - u.length)).length = v.length - u.length := by rw [List.length_take]; omega
      have l2 : (v.drop (v.length - u.length)).length = u.length := by rw [List.length_drop]; omega
      generalize v.take (v.length - u.length) = v1 at *
      generalize v.drop (v.length - u.length) = v2 at *
      have hs := swapRange_ n0 (m - u.length) (m + v.length - u.length) u v2 x v1 y (by omega) (by omega) (by omega) (by omega) (by omega)
      subst hv
      have e : x ++ (u ++ (v1 ++ v2 ++ y)) = x ++ (u ++ (v1 ++ (v2 ++ y))) := by simp
      rw [e, hs]
      simp only [Option.bind_some]
      rw [← l1]
      have := rotL n0 m R n v2 v1 x (u ++ y) (by omega) (by omega) (by simp at hlt; omega) (by simp at h4; omega) (by simp at h5; omega) (by simp at h6; omega) (by rw [hR]; simp)
      rw [l2] at this
      exact this
    · rw [if_neg (by simp; omega)]
      exact ⟨u, v, x, y, rfl, heq, h1, h4, by omega, hR⟩
    · rw [if_pos (by simp; omega), if_pos (by simp; omega)]
      rw [subN m u.length (by omega) (by omega), subN u.length v.length (by omega) (by omega)]
      have hu : u = u.take v.length ++ u.drop v.length := (List.take_append_drop _ _).symm
      have l1 : (u.take v.length).length = v.length := by rw [List.length_take]; omega
      have l2 : (u.drop v.length).length = u.length - v.length := by rw [List.length_drop]
      generalize u.take v.length = u1 at *
      generalize u.drop v.length = u2 at *
      have hs := swapRange_ n0 (m - u.length) m u1 v x u2 y (by omega) (by omega) (by rw [hu, List.length_append] at h1; omega) (by omega) (by omega)
      rw [l1] at hs
      have e : x ++ (u ++ (v ++ y)) = x ++ (u1 ++ (u2 ++ (v ++ y))) := by rw [hu]; simp
      rw [e, hs]
      simp only [Option.bind_some]
      rw [← l2]
      have := rotL n0 m R n u2 u1 (x ++ v) y (by rw [hu] at h1; simp at h1 ⊢; omega) (by omega) (by omega) (by omega) (by omega) (by omega) (by rw [hR, hu]; simp)
      rw [l1] at this
      rw [show x ++ (v ++ (u2 ++ (u1 ++ y))) = x ++ v ++ (u2 ++ (u1 ++ y)) by simp]
      exact this
theorem rotate_ (n a m b : Nat) (u v x y : List Piece) (h1 : x.length = a) (h2 : a + u.length = m) (h3 : m + v.length = b) (hu : 1 ≤ u.length) (hv : 1 ≤ v.length) (hb : b ≤ 1000) (hn : u.length + v.length < n) :
    slices_rotateCmpFunc_Piece_S n a m b (x ++ (u ++ (v ++ y))) = some (x ++ (v ++ (u ++ y))) := by
  unfold slices_rotateCmpFunc_Piece_S
  rw [subN m a (by omega) (by omega), subN b m (by omega) (by omega), show m - a = u.length by omega, show b - m = v.length by omega]
  obtain ⟨u', v', x', y', e, l1, l2, l3, l4, hR⟩ := rotL n m _ n u v x y (by omega) hu hv (by omega) hn hn rfl
  rw [e]
  simp only [Option.bind_some]
  rw [subN m u'.length (by omega) (by omega)]
  have := swapRange_ n (m - u'.length) m u' v' x' [] y' l1 (by omega) (by simp; omega) (by omega) (by omega)
  simp only [List.nil_append] at this
  rw [this, hR]
  rfl

/-! ### One after another into its place -/
theorem insIn (n0 a : Nat) (b : Int) (i : Int) : ∀ (n : Nat) (p q x y : List Piece) (w : Piece), x.length = a → a + p.length ≤ 1000 → p.length < n → Inc hk (p ++ q) → (∀ z ∈ q, hk w < hk z) →
    ∃ r, iter (fun s => slices_insertionSortCmpFunc_Piece_S_L2 n0 a b s) n (x ++ (p ++ (w :: (q ++ y))), i, ((a + p.length : Nat) : Int)) = some (x ++ (r ++ y), i) ∧ Stb hk (p ++ (w :: q)) r ∧ Inc hk r
  | 0, _, _, _, _, _, _, _, h, _, _ => by omega
  | n + 1, p, q, x, y, w, h1, h2, h3, h4, h5 => by
    rw [iter_succ]
    unfold slices_insertionSortCmpFunc_Piece_S_L2
    dsimp only
    rcases List.eq_nil_or_concat p with rfl | ⟨p', e, rfl⟩
    · rw [if_neg (by simp)]
      exact ⟨w :: q, rfl, Stb.refl _, List.pairwise_cons.2 ⟨fun z hz => Int.le_of_lt (h5 z hz), h4⟩⟩
    · simp only [List.concat_eq_append] at *
      simp only [List.length_append, List.length_cons, List.length_nil] at h2 h3 ⊢
      rw [if_pos (by simp; omega), subN1 _ (by omega) (by omega)]
      have g1 : getI (x ++ (p' ++ [e] ++ (w :: (q ++ y)))) ((a + (p'.length + (0 + 1)) : Nat) : Int) = some w := getN (x := x ++ (p' ++ [e])) (y := q ++ y) (by simp) (by simp; omega)
      have g2 : getI (x ++ (p' ++ [e] ++ (w :: (q ++ y)))) ((a + (p'.length + (0 + 1)) - 1 : Nat) : Int) = some e := getN (x := x ++ p') (y := w :: (q ++ y)) (by simp) (by simp; omega)
      rw [g1, g2]
      simp only [Option.bind_some]
      obtain ⟨c, hc, hd⟩ := cmp_ n0 w e
      rw [hc]
      simp only [Option.bind_some, hd, Int.toNat_natCast]
      by_cases hwe : w.Hart < e.Hart
      · rw [if_pos (by simpa using hwe)]
        have s1 : (x ++ (p' ++ [e] ++ (w :: (q ++ y)))).set (a + (p'.length + (0 + 1))) e = (x ++ p' ++ [e]) ++ (e :: (q ++ y)) := by
          have : x ++ (p' ++ [e] ++ (w :: (q ++ y))) = (x ++ p' ++ [e]) ++ (w :: (q ++ y)) := by simp
          rw [this, set_ (by simp; omega)]
        have g3 : getI ((x ++ p' ++ [e]) ++ (e :: (q ++ y))) ((a + (p'.length + (0 + 1)) - 1 : Nat) : Int) = some e := getN (x := x ++ p') (y := e :: (q ++ y)) (by simp) (by simp; omega)
        have s2 : ((x ++ p' ++ [e]) ++ (e :: (q ++ y))).set (a + (p'.length + (0 + 1)) - 1) w = x ++ (p' ++ (w :: ((e :: q) ++ y))) := by
          have : (x ++ p' ++ [e]) ++ (e :: (q ++ y)) = (x ++ p') ++ e :: (e :: (q ++ y)) := by simp
          rw [this, set_ (by simp; omega)]
          simp
        rw [s1, g3]
        simp only [Option.bind_some]
        rw [s2, show a + (p'.length + (0 + 1)) - 1 = a + p'.length by omega]
        obtain ⟨r, hr, hs, hi⟩ := insIn n0 a b i n p' (e :: q) x y w h1 (by omega) (by omega) (by simpa using h4) (by
          intro z hz
          rcases List.mem_cons.1 hz with rfl | hz
          · exact hwe
          · exact h5 z hz)
        refine ⟨r, hr, ?_, hi⟩
        refine Stb.trans ?_ hs
        have : p' ++ [e] ++ (w :: q) = p' ++ (([e] ++ [w]) ++ q) := by simp
        rw [this, show p' ++ (w :: (e :: q)) = p' ++ (([w] ++ [e]) ++ q) by simp]
        refine (Stb.refl _).app ((Stb.swap fun a ha b hb => ?_).app (Stb.refl _))
        rw [List.mem_singleton] at ha hb
        subst ha; subst hb
        exact hwe
      · rw [if_neg (by simpa using hwe)]
        refine ⟨(p' ++ [e]) ++ (w :: q), by simp, Stb.refl _, ?_⟩
        refine h4.left.app (List.pairwise_cons.2 ⟨fun z hz => by have := h5 z hz; omega, h4.right⟩) fun s hs z hz => ?_
        have hse : hk s ≤ hk e := by
          rcases List.mem_append.1 hs with h | h
          · exact h4.left.cross s h e (by simp)
          · rw [List.mem_singleton] at h; subst h; exact Int.le_refl _
        have hwe' : hk e ≤ hk w := by simp only [hk]; omega
        rcases List.mem_cons.1 hz with rfl | hz
        · omega
        · have := h5 z hz; omega
theorem insOut (n0 a b : Nat) (hb : b ≤ 900) : ∀ (n : Nat) (s p x y : List Piece), x.length = a → a + p.length + s.length = b → s.length < n → b < n0 → Inc hk p →
    ∃ r, iter (fun t => slices_insertionSortCmpFunc_Piece_S_L1 n0 a b t) n (x ++ (p ++ (s ++ y)), ((a + p.length : Nat) : Int)) = some (x ++ (r ++ y)) ∧ Stb hk (p ++ s) r ∧ Inc hk r
  | 0, _, _, _, _, _, _, h, _, _ => by omega
  | n + 1, [], p, x, y, h1, h2, h3, h4, h5 => by
    rw [iter_succ]
    unfold slices_insertionSortCmpFunc_Piece_S_L1
    rw [if_neg (by simp at h2 ⊢; omega)]
    exact ⟨p, by simp, by simpa using Stb.refl p, h5⟩
  | n + 1, w :: s, p, x, y, h1, h2, h3, h4, h5 => by
    simp only [List.length_cons] at h2 h3
    rw [iter_succ]
    unfold slices_insertionSortCmpFunc_Piece_S_L1
    rw [if_pos (by simp; omega)]
    dsimp only
    obtain ⟨r, hr, hs, hi⟩ := insIn n0 a b ((a + p.length : Nat) : Int) n0 p [] x (s ++ y) w h1 (by omega) (by omega) (by simpa using h5) (by simp)
    simp only [List.nil_append] at hr
    rw [show x ++ (p ++ (w :: s ++ y)) = x ++ (p ++ (w :: (s ++ y))) by simp, hr]
    simp only [Option.bind_some]
    rw [addN1 _ (by omega)]
    have hl : r.length = p.length + 1 := by rw [hs.len]; simp
    obtain ⟨r2, hr2, hs2, hi2⟩ := insOut n0 a b hb n s r x y h1 (by omega) (by omega) h4 hi
    refine ⟨r2, by rw [show a + p.length + 1 = a + r.length by omega]; exact hr2, ?_, hi2⟩
    refine Stb.trans ?_ hs2
    rw [show p ++ (w :: s) = (p ++ [w]) ++ s by simp]
    exact hs.app (Stb.refl _)
theorem ins_ (n a b : Nat) (l x y : List Piece) (h1 : x.length = a) (h2 : a + l.length = b) (hb : b ≤ 900) (hn : b < n) :
    ∃ r, slices_insertionSortCmpFunc_Piece_S n a b (x ++ (l ++ y)) = some (x ++ (r ++ y)) ∧ Stb hk l r ∧ Inc hk r := by
  unfold slices_insertionSortCmpFunc_Piece_S
  rw [addN1 a (by omega)]
  cases l with
  | nil =>
    have e : iter (fun s => slices_insertionSortCmpFunc_Piece_S_L1 n a b s) n (x ++ ([] ++ y), ((a + 1 : Nat) : Int)) = some (x ++ ([] ++ y)) := by
      obtain ⟨k, rfl⟩ : ∃ k, n = k + 1 := ⟨n - 1, by omega⟩
      rw [iter_succ]
      unfold slices_insertionSortCmpFunc_Piece_S_L1
      rw [if_neg (by simp at h2 ⊢; omega)]
    rw [e]
    exact ⟨[], rfl, Stb.refl _, Inc.nil⟩
  | cons w s =>
    obtain ⟨r, hr, hs, hi⟩ := insOut n a b hb n s [w] x y h1 (by simp at h2 ⊢; omega) (by simp at h2; omega) hn (Inc.one _)
    simp only [List.length_cons, List.length_nil, Nat.zero_add] at hr
    rw [show x ++ (w :: s ++ y) = x ++ ([w] ++ (s ++ y)) by simp, hr]
    exact ⟨r, rfl, by simpa using hs, hi⟩
end Go.Proofs.Ytnjpjmeoednfcaa
