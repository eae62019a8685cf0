/- Functions: what the evaluator says of one, a call of it does. -/
import Derived.Test.YtnjpjmeoednfcaaA30
namespace Go.Proofs.Ytnjpjmeoednfcaa
namespace A
open Go
open Go.RowKit (Below)

theorem bads_get : ∀ {n i : Nat} {c : AV}, (bads n)[i]? = some c → c = .bad
  | 0, i, c, h => by simp [bads] at h
  | n + 1, 0, c, h => by simp [bads] at h; exact h.symm
  | n + 1, i + 1, c, h => bads_get (n := n) (i := i) (by simpa [bads] using h)
theorem bads_len : ∀ {n : Nat}, (bads n).length = n
  | 0 => rfl
  | n + 1 => by simp [bads, bads_len]

def NoNum (P : Program) : Prop := ∀ (f : Nat) (fn : Func), P.funcs[f]? = some fn → (fn.name == "runtime.NumGoroutine") = false

theorem abody_sound {C : Ctx} (hC : CallOK C) (hL : LoopOK C) (hD : DrawOK C) (hN : NoNum C.P) {f : Nat} {args : List AV} {o : List Ob} {K : AV → St → Prop} (h : abody C f args o K) :
    HasBody C.P f ∧ ∀ (G : Gh) (E : Env) (w : World) (us : Array Value), SimM G pn E (stO o o.length) w → VRs E args us.toList → Calls C.P f us w fun e w' => ∃ v r S' E', K r S' ∧ e = .returned v ∧ SimM G pn E' S' w' ∧ VR E' r v := by
  unfold abody at h
  split at h
  · rename_i fn hf
    split at h
    · rename_i c hb
      refine ⟨⟨fn, c, hf, hb, hN f fn hf⟩, fun G E w us hM hv => ?_⟩
      refine calls_of_wp hf hb ?_
      have hl : args.length = us.size := by simpa using hv.1
      refine acode_sound hC hL hD c h G E _ w _ (hM.congr rfl rfl rfl) ⟨?_, fun n c' u h1 h2 => ?_, rfl⟩ (fun e S' E' a' w' hk hS htr => ?_)
      · simp [bads_len, hl]
      · dsimp only at h1 h2
        by_cases hn : n < args.length
        · rw [List.getElem?_append_left hn] at h1
          rw [Array.getElem?_append_left (by omega)] at h2
          exact hv.2 n c' u h1 (by simpa using h2)
        · rw [List.getElem?_append_right (by omega)] at h1
          rw [bads_get h1]
          exact .bad _ _
      · cases e with
        | ex i => exact False.elim hk
        | nrm =>
          obtain ⟨r, u, hk', hr, hrun⟩ := results_sound hS htr hk
          exact ⟨htr.df, u, hrun, u, r, S', E', hk', rfl, hS, hr⟩
        | ret =>
          obtain ⟨r, u, hk', hr, hrun⟩ := results_sound hS htr hk
          exact ⟨htr.df, u, hrun, u, r, S', E', hk', rfl, hS, hr⟩
    · exact False.elim h
  · exact False.elim h

section
variable {G : Gh} {E : Env} {S : St} {w : World}

/-- The locals forgotten. -/
theorem SimM.obj_only (hM : SimM G pn E S w) : SimM G pn E.ob (stO S.o S.b) w :=
  ⟨hM.hp, hM.os, hM.tape, hM.output, hM.size, hM.keep, hM.F0, hM.Flt, hM.Fnew, fun k b o s n h => hM.own k b o s n (ob_some h), fun k k' b o s n o' s' n' h h' => hM.inj k k' b o s n o' s' n' (ob_some h) (ob_some h'),
    fun _ => rfl, fun id => (hM.obj id).ob, hM.old, hM.bl, hM.szs⟩
end

theorem astore_sound {C : Ctx} (hC : CallOK C) (hL : LoopOK C) (hD : DrawOK C) (hN : NoNum C.P) {f : Nat} {args : List AV} {o : List Ob} {K : AV → List Ob → Prop} (h : astore C f args o K) : SCall C.P f args o K := by
  obtain ⟨h1, h2⟩ := abody_sound hC hL hD hN h
  refine ⟨h1, fun E w us hM hv => (h2 _ E w us hM hv).mono ?_⟩
  rintro e w' ⟨v, r, S', E', hk, rfl, hS, hr⟩
  replace hk := Chk_elim hk
  obtain ⟨hb, hk⟩ := hk
  simp only [Bool.and_eq_true] at hb
  have := hS.obj_only
  rw [Nat.eq_of_beq_eq_true hb.2] at this
  exact ⟨v, r, S'.o, E'.ob, hk, rfl, this, noL_ob 4 hb.1 hr⟩

def ApureDet (C : Ctx) : Prop := ∀ f args K, apure C f args K → ∃ r, K r ∧ apure C f args (fun x => x = r)

theorem apure_sound {C : Ctx} (hC : CallOK C) (hL : LoopOK C) (hD : DrawOK C) (hN : NoNum C.P) (hA : ApureDet C) {f : Nat} {args : List AV} {K : AV → Prop} (h : apure C f args K) : PCall C.P f args K := by
  obtain ⟨r, hk, h⟩ := hA f args K h
  obtain ⟨h1, h2⟩ := abody_sound hC hL hD hN h
  refine ⟨r, ⟨h1, fun F w us hF hv => ?_⟩, hk⟩
  have hM : SimM { w0 := w, M := fun _ => False, F := F, mu := fun _ => none } pn ⟨F, fun _ => none, w.heap⟩ (stO [] 0) w :=
    ⟨rfl, rfl, rfl, rfl, Nat.le_refl _, fun _ _ _ => rfl, fun _ h => h, hF, fun _ h _ => .inl h, fun _ _ _ _ _ h => (by cases h), fun _ _ _ _ _ _ _ _ _ h _ => (by cases h), fun _ => rfl, fun _ => trivial, fun _ h => (by cases h), Nat.le_refl _, fun _ _ => rfl⟩
  refine (h2 _ _ w us hM hv).mono ?_
  rintro e w' ⟨v, c, S', E', hk, rfl, hS, hr⟩
  unfold dfzK at hk
  split at hk
  · rename_i b hb
    rw [forceA_iff] at hk
    subst hk
    have hd := dfz_sound hS _ hb hr (ids := dids 6 c) (fun i hi => hi)
    refine ⟨v, FD E' (dids 6 c), rfl, ?_, ⟨hS.os, hS.tape, hS.output, hS.size, fun b' hb' => hS.keep b' hb' (fun h => h)⟩, fun b' h => .inl (hS.F0 b' h), fd_lt hS, fun b' h hlt => ?_⟩
    · have e : (⟨FD E' (dids 6 c), fun _ => none, w'.heap⟩ : Env) = E'.fd (dids 6 c) := by
        unfold Env.fd
        rw [hS.hp]
      rw [e]
      exact hd
    · rcases h with h | ⟨id, _, o', s, n, h⟩
      · rcases hS.Fnew b' h hlt with h3 | h3
        · exact h3
        · exact h3.elim
      · rcases (hS.own _ _ _ _ _ h).2.2 with h3 | h3
        · exact h3.elim
        · have h3 : w.heap.size ≤ b' := h3
          omega
  · exact False.elim hk

end A
end Go.Proofs.Ytnjpjmeoednfcaa
