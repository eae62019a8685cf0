/- The row's last step for what the closed evaluator shows. -/
import Derived.Test.YtnjpjmeoednfcaaA36
import Derived.WalkKit
import Derived.ProofKit
import Derived.OpenShut
namespace Go.Proofs.Ytnjpjmeoednfcaa
namespace A
open Go
open Go.RowKit (Below)
open Go.RowKit Go.WideShapes Go.ChangeShapes

section
variable {H : Type} {enc : TypeId × Value → H} {P : Program}
theorem post_of_below {f : Func} {s : ChangeSpec} {apart fresh handsOn again : Bool} {W W' : World} {args : Array Value} {v : Value} {ds gs : List (DataW H)} {before pa pv : List MemPlace}
    (hW : DataW.Whole enc P f.params.toList s.vars apart W args.toList ds gs before)
    (hres : ∀ (b : Nat) (sp : Nat → Bool) (hd : Bool), DataW.TrodAll enc P W' b sp hd f.resultTypes.toList (v.resultList f.resultTypes.size) (s.fn H (ds ++ gs)).results [])
    (hargs : ∀ sp : Nat → Bool, (∀ p ∈ before, sp p.block = true) → DataW.TrodAll enc P W' 0 sp true f.params.toList args.toList (s.fn H (ds ++ gs)).args pa)
    (hvars : ∀ sp : Nat → Bool, (∀ p ∈ before, sp p.block = true) → DataW.TrodVars enc P W' sp s.vars (s.fn H (ds ++ gs)).vars pv)
    (hps : before = pa ++ pv) (hb : Below W.heap.size W W')
    (hok : ∀ (j : Nat) (t : TypeId) (r : Value), f.resultTypes[j]? = some t → (v.resultList f.resultTypes.size)[j]? = some r → Value.okWide P W' .any 0 t r) :
    s.post enc P f apart fresh handsOn again W args v W' := by
  have hlt : ∀ p ∈ before, p.block < W.heap.size := fun p hp => hW.lt p hp
  have hold : ∀ p ∈ before, (fun b => decide (b < W.heap.size)) p.block = true := fun p hp => by simpa using hlt p hp
  refine ⟨ds, gs, before, [], pa, pv, hW, hres _ _ _, hargs _ hold, hvars _ hold, World.keptBut_mono (fun p hp => ⟨hp, ?_⟩) (hb.frame (· ∈ before)), fun _ => ?_⟩
  · rw [hps, List.mem_append] at hp
    exact Or.inr hp
  · obtain ⟨_, _, _, _, _, hz, hn⟩ := hW
    refine ⟨hok, _, _, ([] ++ pa) ++ pv, ⟨[] ++ pa, pv, trodAll_append (hargs _ (fun _ _ => rfl)) (hres _ _ _), hvars _ (fun _ _ => rfl), rfl, ?_, ?_⟩, ?_⟩
    · intro b off hp
      have hin : MemPlace.cell b off ∈ before := by rw [hps]; simpa using hp
      rw [hb.frozen (hlt _ hin)]
      exact hz b off hin
    · intro ha
      have := hn ha
      rw [hps] at this
      simpa using this
    · intro p hp _
      rw [hps]
      simpa using hp
end

/-- The evaluator, with so much fuel, comes to this. -/
def Gives (cfg : Cfg) (n f : Nat) (args : List AV) (r : AV) : Prop := apure (ctxN cfg n) f args fun x => x = r

/-- What the evaluator says of a function that hands back a bool, a call of it does. -/
theorem walk_true {cfg : Cfg} (hN : NoNum cfg.P) (hmix : cfg.P.follows .mixedOrders = true) {n f : Nat} {args : List AV} (h : Gives cfg n f args (.v (.bool true))) (F : Nat → Prop) (w : World) (us : Array Value) (hF : ∀ b, F b → b < w.heap.size) (hv : VRs ⟨F, fun _ => none, w.heap⟩ args us.toList) :
    Calls cfg.P f us w fun e w' => e = .returned (.bool true) ∧ Below w.heap.size w w' := by
  obtain ⟨h1, h2, h3⟩ := ctxN_sound hN hmix n
  have hP := ctxN_P cfg n
  obtain ⟨r, ⟨_, h4⟩, hr⟩ := apure_sound h1 h2 h3 (by rw [hP]; exact hN) (ctxN_apure cfg n) h
  rw [hP] at h4
  subst hr
  refine (h4 F w us hF hv).mono ?_
  rintro e w' ⟨v, F', rfl, hv, hb, _⟩
  exact ⟨by rw [hv.vI.1], hb⟩

theorem noNum_of {P : Program} (h : (P.funcs.all fun fn => !(fn.name == "runtime.NumGoroutine")) = true) : NoNum P := by
  intro f fn hf
  have hlt : f < P.funcs.size := (Array.getElem?_eq_some_iff.1 hf).1
  have := Array.all_eq_true.1 h f hlt
  rw [Array.getElem?_eq_getElem hlt] at hf
  cases hf
  simpa using this

end A
end Go.Proofs.Ytnjpjmeoednfcaa
