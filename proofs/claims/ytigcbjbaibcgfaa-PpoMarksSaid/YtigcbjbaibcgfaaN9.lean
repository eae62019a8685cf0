/- PpoMarks, on plain lists: no program in sight. -/
import Derived.Test.YtigcbjbaibcgfaaE9
import Derived.KernelRfl
namespace Go.Proofs.Ytigcbjbaibcgfaa
open Go A

set_option maxRecDepth 100000 in
theorem lives_ : law_lives 1000 = some true := by kernel_rfl
theorem all_ (n : Nat) (c : Cand) (hc : Light c) (hn : 200 ≤ n) (h : ref_Check n c = some 0) : ref_All n c = some c.Harts.flatten := by
  unfold ref_All
  rw [h]
  simp only [Option.bind_some]
  rw [if_neg (by simp), flat_ n c hc hn]
  rfl
theorem marks2_ (n : Nat) (c : Cand) (hc : Light c) (hr : RefOK n c) (a : Nat) (ha : a < c.Harts.flatten.length) (hn : 200 ≤ n) :
    T (iter (fun s => law_PpoMarks_L2 n c c.Harts.flatten s) n ((a : Int), ((a + 1 : Nat) : Int))) (fun (r : Int ⊕ Unit) => match r with | .inl w => w = (a : Int) | .inr _ => False) := by
  have hf := hc.all
  refine T.loop c.Harts.flatten.length (fun i s => s = ((a : Int), ((a + 1 + i : Nat) : Int))) _ ?_ rfl (by omega)
  rintro i s hi rfl
  unfold law_PpoMarks_L2
  refine T.ite (fun cd => ?_) (fun _ => T.fin rfl)
  have hb : a + 1 + i < c.Harts.flatten.length := lt_of cd
  generalize hbb : a + 1 + i = b at *
  have hab : a < b := by omega
  refine T.get a rfl ha ?_
  refine T.get b rfl hb ?_
  have next : T (some (.inl ((a : Int), addW .i64 (b : Int) 1)) : Option ((Int × Int) ⊕ (Int ⊕ Unit))) (Rd (fun s' => i < c.Harts.flatten.length ∧ s' = ((a : Int), ((a + 1 + (i + 1) : Nat) : Int))) (fun (r : Int ⊕ Unit) => match r with | .inl w => w = (a : Int) | .inr _ => False)) :=
    T.ret ⟨by omega, by rw [addN1 _ (by omega)]; congr 2; omega⟩
  refine T.ite (fun _ => next) (fun d1 => ?_)
  have h1 := ne_of d1
  refine T.eqb (refMem_ n _) ?_
  refine T.ite (fun _ => next) (fun d2 => ?_)
  have h2 := not_of d2
  refine T.eqb (refMem_ n _) ?_
  refine T.ite (fun _ => next) (fun d3 => ?_)
  have h3 := not_of d3
  have ask := fun (hm : Must (c.Harts.flatten[a]'(by omega)) c.Harts.flatten[b]) => Rule_ n c hc hr a b hab hb hn h1 h2 h3 hm
  generalize c.Harts.flatten[a] = x at *
  generalize c.Harts.flatten[b] = y at *
  have stop : Must x y → T ((ppo_Rule n c (a : Int) (b : Int)).bind fun r => if (r == 0) = true then some (.inr (.inr ())) else some (.inl ((a : Int), addW .i64 (b : Int) 1)) : Option ((Int × Int) ⊕ (Int ⊕ Unit))) (Rd (fun s' => i < c.Harts.flatten.length ∧ s' = ((a : Int), ((a + 1 + (i + 1) : Nat) : Int))) (fun (r : Int ⊕ Unit) => match r with | .inl w => w = (a : Int) | .inr _ => False)) := fun hm =>
    T.bind (ask hm) (fun r hr => T.ite (fun d => absurd (eq_of_beq d) hr) (fun _ => next))
  refine T.ite (fun d => stop (.inl d)) (fun _ => ?_)
  refine T.ite (fun d => stop (.inr (.inl d))) (fun _ => ?_)
  have rest : T ((ref_Writes n y).bind fun w => if w = true then
      if (x.Addr == y.Addr) = true then ((ppo_Rule n c (a : Int) (b : Int)).bind fun r => if (r == 0) = true then some (.inr (.inr ())) else some (.inl ((a : Int), addW .i64 (b : Int) 1)))
      else if (y.Kind == 4) = true then if (y.Pair == x.At) = true then ((ppo_Rule n c (a : Int) (b : Int)).bind fun r => if (r == 0) = true then some (.inr (.inr ())) else some (.inl ((a : Int), addW .i64 (b : Int) 1))) else some (.inl ((a : Int), addW .i64 (b : Int) 1)) else some (.inl ((a : Int), addW .i64 (b : Int) 1))
      else if (y.Kind == 4) = true then if (y.Pair == x.At) = true then ((ppo_Rule n c (a : Int) (b : Int)).bind fun r => if (r == 0) = true then some (.inr (.inr ())) else some (.inl ((a : Int), addW .i64 (b : Int) 1))) else some (.inl ((a : Int), addW .i64 (b : Int) 1)) else some (.inl ((a : Int), addW .i64 (b : Int) 1)) : Option ((Int × Int) ⊕ (Int ⊕ Unit))) (Rd (fun s' => i < c.Harts.flatten.length ∧ s' = ((a : Int), ((a + 1 + (i + 1) : Nat) : Int))) (fun (r : Int ⊕ Unit) => match r with | .inl w => w = (a : Int) | .inr _ => False)) := by
    refine T.eqb (writes_ n _) ?_
    have pr : T (if (y.Kind == 4) = true then if (y.Pair == x.At) = true then ((ppo_Rule n c (a : Int) (b : Int)).bind fun r => if (r == 0) = true then some (.inr (.inr ())) else some (.inl ((a : Int), addW .i64 (b : Int) 1))) else some (.inl ((a : Int), addW .i64 (b : Int) 1)) else some (.inl ((a : Int), addW .i64 (b : Int) 1)) : Option ((Int × Int) ⊕ (Int ⊕ Unit))) (Rd (fun s' => i < c.Harts.flatten.length ∧ s' = ((a : Int), ((a + 1 + (i + 1) : Nat) : Int))) (fun (r : Int ⊕ Unit) => match r with | .inl w => w = (a : Int) | .inr _ => False)) :=
      T.ite (fun k => T.ite (fun p => stop (.inr (.inr (.inr (.inr ⟨eq_of_beq k, eq_of_beq p⟩))))) (fun _ => next)) (fun _ => next)
    exact T.ite (fun w => T.ite (fun e => stop (.inr (.inr (.inr (.inl ⟨w, eq_of_beq e⟩))))) (fun _ => pr)) (fun _ => pr)
  refine T.ite (fun d4 => ?_) (fun _ => rest)
  exact T.ite (fun d5 => stop (.inr (.inr (.inl ⟨d4, d5⟩)))) (fun _ => rest)
theorem marks_true (c : Cand) : law_PpoMarks 1000 c = some true := by
  have key : T (law_PpoMarks 1000 c) (fun b => b = true) := by
    unfold law_PpoMarks
    refine T.eqb lives_ ?_
    refine T.ite (fun d => by simp at d) (fun _ => ?_)
    refine T.bind (light_ 1000 c 30 (by omega) (by omega)) (fun b hb => ?_)
    refine T.ite (fun _ => T.ret rfl) (fun d => ?_)
    obtain ⟨hc, _⟩ := hb (not_of d)
    obtain ⟨r, h1, h2⟩ := refCheck_ 1000 c hc (by omega)
    refine T.eqb h1 ?_
    refine T.ite (fun _ => T.ret rfl) (fun d2 => ?_)
    have h0 := ne_of d2
    subst h0
    have hr := h2 rfl
    have hf := hc.all
    refine T.eqb (all_ 1000 c hc (by omega) h1) ?_
    refine T.bind (P := fun (r : Unit ⊕ Unit) => match r with | .inl _ => True | .inr _ => False) ?_ (fun r hr => by
      cases r with
      | inl _ => exact T.ret rfl
      | inr _ => exact hr.elim)
    refine T.loop c.Harts.flatten.length (fun i s => s = (i : Int)) _ ?_ rfl (by omega)
    rintro i s hi rfl
    unfold law_PpoMarks_L1
    refine T.ite (fun cd => ?_) (fun _ => T.ret trivial)
    have hil := lt_of cd
    rw [addN1 _ (by omega)]
    refine T.bind (marks2_ 1000 c hc hr i hil (by omega)) (fun r hr => ?_)
    cases r with
    | inr _ => exact hr.elim
    | inl w =>
      have hw : w = (i : Int) := hr
      subst hw
      exact T.ret ⟨hil, addN1 _ (by omega)⟩
  obtain ⟨r, h1, h2⟩ := key
  rw [h1, h2]
end Go.Proofs.Ytigcbjbaibcgfaa
