/- The closed evaluator, with fuel. -/
import Derived.Test.YtnjpjmeoednfcaaA31
namespace Go.Proofs.Ytnjpjmeoednfcaa
namespace A
open Go
open Go.RowKit (Below)

theorem least {p : Nat → Prop} : ∀ (n : Nat), p n → ∃ m, p m ∧ ∀ k, p k → m ≤ k := by
  intro n
  induction n using Nat.strongRecOn with
  | _ n ih =>
    intro h
    by_cases hl : ∃ k, k < n ∧ p k
    · obtain ⟨k, hk, hp⟩ := hl
      exact ih k hk hp
    · exact ⟨n, h, fun k hk => Nat.le_of_not_lt fun hlt => hl ⟨k, hlt, hk⟩⟩

open Classical in
noncomputable def lst (p : Nat → Prop) : Nat := if h : ∃ m, p m ∧ ∀ k, p k → m ≤ k then Classical.choose h else 0
theorem lst_spec {p : Nat → Prop} {n : Nat} (h : p n) : p (lst p) ∧ lst p ≤ n := by
  have hl := least n h
  unfold lst
  rw [dif_pos hl]
  exact ⟨(Classical.choose_spec hl).1, (Classical.choose_spec hl).2 n h⟩

def LP (cfg : Cfg) (G : Gh) (pl : Pol) (c : Code) (K : Ex → St → Prop) (a : Act) (w : World) (n : Nat) : Prop := ∃ S E, (ctxN cfg n).loop pl c S K ∧ SimM G pn E S w ∧ TR E S.t a

theorem ctxN_P (cfg : Cfg) : ∀ n, (ctxN cfg n).P = cfg.P
  | 0 => rfl
  | _ + 1 => rfl

theorem loop_ok {cfg : Cfg} {N : Nat} (h : ∀ m, m < N → CallOK (ctxN cfg m) ∧ LoopOK (ctxN cfg m) ∧ DrawOK (ctxN cfg m)) : LoopOK (ctxN cfg N) := by
  intro pl c S K hl G E a w Q hM ht hQ
  rw [ctxN_P]
  refine wp_loop (fun a w => ∃ n, n ≤ N ∧ LP cfg G pl c K a w n) (fun a w => lst fun n => n ≤ N ∧ LP cfg G pl c K a w n) ⟨N, Nat.le_refl _, S, E, hl, hM, ht⟩ (fun a1 w1 hI => ?_)
  obtain ⟨n0, hn0⟩ := hI
  have hsp := (lst_spec (p := fun n => n ≤ N ∧ LP cfg G pl c K a1 w1 n) hn0).1
  generalize hmu : (lst fun n => n ≤ N ∧ LP cfg G pl c K a1 w1 n) = mu
  rw [hmu] at hsp
  obtain ⟨hle, S1, E1, hl1, hM1, ht1⟩ := hsp
  cases mu with
  | zero => exact False.elim hl1
  | succ m =>
    obtain ⟨h1, h2, h3⟩ := h m hle
    have := acode_sound h1 h2 h3 c hl1 G E1 a1 w1 (Exit.then (fun a' w' => (∃ n, n ≤ N ∧ LP cfg G pl c K a' w' n) ∧ (lst fun n => n ≤ N ∧ LP cfg G pl c K a' w' n) < m + 1) Q) hM1 ht1 (fun e S' E' a' w' hk hS htr => by
      cases e with
      | nrm =>
        have hp : m ≤ N ∧ LP cfg G pl c K a' w' m := ⟨Nat.le_of_succ_le hle, S', E', hk, hS, htr⟩
        exact ⟨⟨m, hp⟩, Nat.lt_succ_of_le (lst_spec (p := fun n => n ≤ N ∧ LP cfg G pl c K a' w' n) hp).2⟩
      | ex i => exact hQ (.ex i) _ _ _ _ hk hS htr
      | ret => exact hQ .ret _ _ _ _ hk hS htr)
    rw [ctxN_P] at this
    exact this

theorem ctxN_ok {cfg : Cfg} (hN : NoNum cfg.P) (hA : ∀ n, ApureDet (ctxN cfg n)) (hD : ∀ n, CallOK (ctxN cfg n) → DrawOK (ctxN cfg n)) : ∀ n, CallOK (ctxN cfg n) ∧ LoopOK (ctxN cfg n) ∧ DrawOK (ctxN cfg n) := by
  intro n
  induction n using Nat.strongRecOn with
  | _ n ih =>
    have hC : CallOK (ctxN cfg n) := by
      cases n with
      | zero => exact ⟨fun f args K h => False.elim h, fun f args o K h => False.elim h⟩
      | succ n =>
        obtain ⟨h1, h2, h3⟩ := ih n (Nat.lt_succ_self n)
        have hN' : NoNum (ctxN cfg n).P := by rw [ctxN_P]; exact hN
        refine ⟨fun f args K h => ?_, fun f args o K h => ?_⟩
        · have := apure_sound h1 h2 h3 hN' (hA n) h
          rw [ctxN_P] at this ⊢
          exact this
        · have := astore_sound h1 h2 h3 hN' h
          rw [ctxN_P] at this ⊢
          exact this
    exact ⟨hC, loop_ok ih, hD n hC⟩

end A
end Go.Proofs.Ytnjpjmeoednfcaa
