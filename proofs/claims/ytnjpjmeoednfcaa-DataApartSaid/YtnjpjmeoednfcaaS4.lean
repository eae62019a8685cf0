/- The library's sort that keeps the order of what is equal, of forty elements or fewer. Plain lists, no program in sight. -/
import Derived.Test.YtnjpjmeoednfcaaS3
namespace Go.Proofs.Ytnjpjmeoednfcaa
open Go A Srt

/-! ### The whole sort, of forty elements or fewer -/
theorem cut2 (d : List Piece) (k : Nat) (h : k ≤ d.length) : ∃ a b, d = a ++ b ∧ a.length = k ∧ b.length = d.length - k := cutAt d k h
theorem stable_ (n : Nat) (d : List Piece) (hd : d.length ≤ 40) (hn : 100 ≤ n) : ∃ r, slices_SortStableFunc_api_Piece_api_Piece_S n d = some r ∧ Stb hk d r ∧ Inc hk r := by
  unfold slices_SortStableFunc_api_Piece_api_Piece_S slices_stableCmpFunc_Piece_S
  obtain ⟨n, rfl⟩ : ∃ m, n = m + 3 := ⟨n - 3, by omega⟩
  have L1 : ∀ (d : List Piece) (a b : Nat), slices_stableCmpFunc_Piece_S_L1 (n + 3) (d.length : Int) (d, (a : Int), (b : Int)) = if b ≤ d.length then (slices_insertionSortCmpFunc_Piece_S (n + 3) (a : Int) (b : Int) d).bind fun y => some (.inl (y, (b : Int), addW .i64 (b : Int) 20)) else some (.inr (d, (a : Int))) := by
    intro d a b
    unfold slices_stableCmpFunc_Piece_S_L1
    by_cases h : b ≤ d.length
    · rw [if_pos h, if_pos (by simpa using h)]
    · rw [if_neg h, if_neg (by simpa using h)]
  -- the blocks
  have blocks : ∃ (d' : List Piece) (a : Nat), a ≤ d.length ∧ iter (fun s => slices_stableCmpFunc_Piece_S_L1 (n + 3) (d.length : Int) s) (n + 3) (d, 0, 20) = some (d', (a : Int)) ∧
      ((d.length < 20 ∧ a = 0 ∧ d' = d) ∨ (20 ≤ d.length ∧ d.length < 40 ∧ a = 20 ∧ ∃ u v, d' = u ++ v ∧ u.length = 20 ∧ Stb hk d (u ++ v) ∧ Inc hk u) ∨ (d.length = 40 ∧ a = 40 ∧ ∃ u v, d' = u ++ v ∧ u.length = 20 ∧ Stb hk d (u ++ v) ∧ Inc hk u ∧ Inc hk v)) := by
    rw [iter_succ]
    have e0 := L1 d 0 20
    rw [show ((0 : Nat) : Int) = 0 from rfl, show ((20 : Nat) : Int) = 20 from rfl] at e0
    rw [e0]
    by_cases h20 : 20 ≤ d.length
    · rw [if_pos h20]
      obtain ⟨u, v, rfl, lu, lv⟩ := cut2 d 20 h20
      obtain ⟨r, hr, hs, hi⟩ := ins_ (n + 3) 0 20 u [] v rfl (by omega) (by omega) (by omega)
      simp only [List.nil_append] at hr
      rw [show ((0 : Nat) : Int) = 0 from rfl, show ((20 : Nat) : Int) = 20 from rfl] at hr
      rw [hr]
      simp only [Option.bind_some]
      have lr : r.length = 20 := by rw [hs.len, lu]
      have hlen : (u ++ v).length = (r ++ v).length := by simp [lu, lr]
      rw [iter_succ]
      have e1 := L1 (r ++ v) 20 40
      rw [← hlen] at e1
      rw [show addW .i64 20 20 = ((40 : Nat) : Int) by decide, show (20 : Int) = ((20 : Nat) : Int) from rfl, e1]
      by_cases h40 : 40 ≤ (u ++ v).length
      · rw [if_pos h40]
        have lv' : v.length = 20 := by simp at h40 hd; omega
        obtain ⟨q, hq, hqs, hqi⟩ := ins_ (n + 3) 20 40 v r [] lr (by omega) (by omega) (by omega)
        simp only [List.append_nil] at hq
        rw [hq]
        simp only [Option.bind_some]
        have lq : q.length = 20 := by rw [hqs.len, lv']
        have hlen2 : (u ++ v).length = (r ++ q).length := by simp [lu, lr, lv', lq]
        rw [iter_succ]
        have e2 := L1 (r ++ q) 40 60
        rw [← hlen2] at e2
        rw [show addW .i64 ((40 : Nat) : Int) 20 = ((60 : Nat) : Int) by decide, e2, if_neg (by omega)]
        exact ⟨r ++ q, 40, h40, rfl, .inr (.inr ⟨by omega, rfl, r, q, rfl, lr, hs.app hqs, hi, hqi⟩)⟩
      · rw [if_neg h40]
        exact ⟨r ++ v, 20, h20, rfl, .inr (.inl ⟨h20, by omega, rfl, r, v, rfl, lr, hs.app (Stb.refl _), hi⟩)⟩
    · rw [if_neg h20]
      exact ⟨d, 0, by omega, rfl, .inl ⟨by omega, rfl, rfl⟩⟩
  obtain ⟨d', a, ha, hb, hcase⟩ := blocks
  rw [hb]
  simp only [Option.bind_some]
  have L2n : ∀ (d2 : List Piece) (b : Nat), d.length ≤ b → iter (fun s => slices_stableCmpFunc_Piece_S_L2 (n + 3) (d.length : Int) s) (n + 3) (d2, (b : Int)) = some d2 := by
    intro d2 b h
    rw [iter_succ]
    have : slices_stableCmpFunc_Piece_S_L2 (n + 3) (d.length : Int) (d2, (b : Int)) = some (.inr d2) := by
      unfold slices_stableCmpFunc_Piece_S_L2
      rw [if_neg (by simp; omega)]
    rw [this]
  rcases hcase with ⟨h1, rfl, rfl⟩ | ⟨h1, h2, rfl, u, v, rfl, lu, hs, hi⟩ | ⟨h1, rfl, u, v, rfl, lu, hs, hi, hj⟩
  · obtain ⟨r, hr, hs, hi⟩ := ins_ (n + 3) 0 d'.length d' [] [] rfl (by omega) (by omega) (by omega)
    simp only [List.nil_append, List.append_nil] at hr
    rw [hr]
    simp only [Option.bind_some]
    have := L2n r 20 (by omega)
    rw [show ((20 : Nat) : Int) = 20 from rfl] at this
    rw [this]
    exact ⟨r, rfl, hs, hi⟩
  · have ld : d.length = 20 + v.length := by rw [← hs.len]; simp [lu]
    obtain ⟨q, hq, hqs, hqi⟩ := ins_ (n + 3) 20 d.length v u [] lu (by omega) (by omega) (by omega)
    simp only [List.append_nil] at hq
    rw [hq]
    simp only [Option.bind_some]
    have lq : q.length = v.length := hqs.len
    by_cases hv0 : v.length = 0
    · have := L2n (u ++ q) 20 (by omega)
      rw [show ((20 : Nat) : Int) = 20 from rfl] at this
      rw [this]
      have q0 : q = [] := List.length_eq_zero_iff.1 (by omega)
      subst q0
      exact ⟨_, rfl, hs.trans ((Stb.refl _).app hqs), by simpa using hi⟩
    · obtain ⟨r, hr, hrs, hri⟩ := sym_ (n + 3) [] u q [] (by omega) (by omega) hi hqi (by simp; omega) (by omega)
      simp only [List.nil_append, List.append_nil, List.length_nil, Nat.zero_add] at hr
      have hL3 : iter (fun s => slices_stableCmpFunc_Piece_S_L3 (n + 3) (d.length : Int) s) (n + 3) (u ++ q, 20, 0, mulW .i64 2 20) = some (u ++ q, 20, 0) := by
        rw [iter_succ]
        have : slices_stableCmpFunc_Piece_S_L3 (n + 3) (d.length : Int) (u ++ q, 20, 0, mulW .i64 2 20) = some (.inr (u ++ q, 20, 0)) := by
          unfold slices_stableCmpFunc_Piece_S_L3
          rw [show mulW .i64 2 20 = 40 by decide, if_neg (by simp; omega)]
        rw [this]
      have hs2 : slices_stableCmpFunc_Piece_S_L2 (n + 3) (d.length : Int) (u ++ q, 20) = some (.inl (r, ((40 : Nat) : Int))) := by
        unfold slices_stableCmpFunc_Piece_S_L2
        rw [if_pos (by simp; omega)]
        dsimp only
        rw [hL3]
        simp only [Option.bind_some]
        rw [show addW .i64 0 20 = ((20 : Nat) : Int) by decide, if_pos (by simp; omega), show mulW .i64 20 2 = ((40 : Nat) : Int) by decide]
        rw [lu] at hr
        rw [show (0 : Int) = ((0 : Nat) : Int) from rfl, show d.length = 20 + q.length by omega, hr]
        rfl
      rw [show n + 3 = (n + 2) + 1 from rfl, iter_succ]
      rw [show n + 2 + 1 = n + 3 from rfl, hs2]
      have := L2n r 40 (by omega)
      have hx : iter (fun s => slices_stableCmpFunc_Piece_S_L2 (n + 3) (d.length : Int) s) (n + 2) (r, ((40 : Nat) : Int)) = some r := by
        rw [iter_succ]
        have : slices_stableCmpFunc_Piece_S_L2 (n + 3) (d.length : Int) (r, ((40 : Nat) : Int)) = some (.inr r) := by
          unfold slices_stableCmpFunc_Piece_S_L2
          rw [if_neg (by simp; omega)]
        rw [this]
      simp only
      rw [hx]
      exact ⟨r, rfl, (hs.trans ((Stb.refl _).app hqs)).trans hrs, hri⟩
  · obtain ⟨z, hz, hzs, hzi⟩ := ins_ (n + 3) 40 d.length [] (u ++ v) [] (by rw [hs.len, h1]) (by simp [h1]) (by omega) (by omega)
    have z0 : z = [] := List.length_eq_zero_iff.1 (by rw [hzs.len]; rfl)
    subst z0
    simp only [List.append_nil] at hz
    rw [hz]
    simp only [Option.bind_some]
    have lv : v.length = 20 := by
      have := hs.len
      simp [lu, h1] at this
      omega
    obtain ⟨r, hr, hrs, hri⟩ := sym_ (n + 3) [] u v [] (by omega) (by omega) hi hj (by simp; omega) (by omega)
    simp only [List.nil_append, List.append_nil, List.length_nil, Nat.zero_add] at hr
    rw [lu, lv] at hr
    have hL3 : iter (fun s => slices_stableCmpFunc_Piece_S_L3 (n + 3) (d.length : Int) s) (n + 3) (u ++ v, 20, 0, mulW .i64 2 20) = some (r, 20, 40) := by
      rw [iter_succ]
      have : slices_stableCmpFunc_Piece_S_L3 (n + 3) (d.length : Int) (u ++ v, 20, 0, mulW .i64 2 20) = some (.inl (r, 20, 40, 80)) := by
        unfold slices_stableCmpFunc_Piece_S_L3
        rw [show mulW .i64 2 20 = 40 by decide, if_pos (by simp; omega)]
        dsimp only
        rw [show addW .i64 0 20 = ((20 : Nat) : Int) by decide]
        rw [show (0 : Int) = ((0 : Nat) : Int) from rfl, show (40 : Int) = ((20 + 20 : Nat) : Int) from rfl, hr]
        rfl
      rw [this]
      simp only
      rw [iter_succ]
      have : slices_stableCmpFunc_Piece_S_L3 (n + 3) (d.length : Int) (r, 20, 40, 80) = some (.inr (r, 20, 40)) := by
        unfold slices_stableCmpFunc_Piece_S_L3
        rw [if_neg (by simp; omega)]
      rw [this]
    have hs2 : slices_stableCmpFunc_Piece_S_L2 (n + 3) (d.length : Int) (u ++ v, 20) = some (.inl (r, ((40 : Nat) : Int))) := by
      unfold slices_stableCmpFunc_Piece_S_L2
      rw [if_pos (by simp; omega)]
      dsimp only
      rw [hL3]
      simp only [Option.bind_some]
      rw [show addW .i64 40 20 = ((60 : Nat) : Int) by decide, if_neg (by simp; omega), show mulW .i64 20 2 = ((40 : Nat) : Int) by decide]
    rw [show n + 3 = (n + 2) + 1 from rfl, iter_succ]
    rw [show n + 2 + 1 = n + 3 from rfl, hs2]
    have hx : iter (fun s => slices_stableCmpFunc_Piece_S_L2 (n + 3) (d.length : Int) s) (n + 2) (r, ((40 : Nat) : Int)) = some r := by
      rw [iter_succ]
      have : slices_stableCmpFunc_Piece_S_L2 (n + 3) (d.length : Int) (r, ((40 : Nat) : Int)) = some (.inr r) := by
        unfold slices_stableCmpFunc_Piece_S_L2
        rw [if_neg (by simp; omega)]
      rw [this]
    simp only
    rw [hx]
    exact ⟨r, rfl, hs.trans hrs, hri⟩
end Go.Proofs.Ytnjpjmeoednfcaa
