/- PpoFences, on plain lists: no program in sight. -/
import Derived.Test.YtigcbjbaibcgfaaF3
import Derived.KernelRfl
namespace Go.Proofs.Ytigcbjbaibcgfaa
open Go A

set_option maxRecDepth 100000 in
theorem lives_ : law_lives 2000 = some true := by kernel_rfl
theorem all_ (n : Nat) (c : Cand) (hc : Light c) (hn : 200 ≤ n) (h : ref_Check n c = some 0) : ref_All n c = some c.Harts.flatten := by
  unfold ref_All
  rw [h]
  simp only [Option.bind_some]
  rw [if_neg (by simp), flat_ n c hc hn]
  rfl
theorem ruleV_ {n : Nat} {c : Cand} {v : ppo_view} (hof : ppo_of n c = some (some v)) (R : Rules n c v) (a b : Nat) (ha : a < c.Harts.flatten.length) (hb : b < c.Harts.flatten.length) : ppo_Rule n c (a : Int) (b : Int) = some (rv n v a b) := by
  unfold ppo_Rule
  rw [hof]
  simp only [Option.bind_some]
  rw [R.val a b ha hb]
  rfl
section
variable {n : Nat} {d : Cand} {v : ppo_view} (hv : FV d v) (hof : ppo_of n d = some (some v)) (R : Rules n d v) (hN : d.Harts.flatten.length ≤ 60) (hn : 200 ≤ n)
  {all : List Event} (hD : DP all d.Harts.flatten)
include hv hof R hN hn hD
omit hof hN in
/-- Behind a memory event there stands a fence, ahead of the next. -/
theorem pos_ (a b : Nat) (ha : a < d.Harts.flatten.length) (hb : b < d.Harts.flatten.length) (h : aheadB d.Harts.flatten a b = true) : 0 < rv n v a b := by
  have hl := hD.len
  have hm := h
  rw [aheadB_eq ha hb] at hm
  simp only [Bool.and_eq_true, decide_eq_true_eq] at hm
  obtain ⟨h1, _, h3, h4⟩ := hm
  have hpar : ∀ k : Nat, ∀ hk : k < d.Harts.flatten.length, memB d.Harts.flatten[k].Kind = true → k = 2 * (k / 2) := by
    intro k hk hmk
    by_cases e : k % 2 = 0
    · omega
    · exfalso
      have h5 := (hD.ev (k / 2) (by omega) (by omega) (by omega)).2.2
      have e1 : d.Harts.flatten[2 * (k / 2) + 1]'(by omega) = d.Harts.flatten[k] := by congr 1; omega
      rw [e1] at h5
      rw [h5.1] at hmk
      exact absurd hmk (by decide)
  have pa := hpar a ha h3
  have pb := hpar b hb h4
  have h5 := (hD.ev (a / 2) (by omega) (by omega) (by omega)).2.2
  have e1 : d.Harts.flatten[2 * (a / 2) + 1]'(by omega) = d.Harts.flatten[a + 1]'(by omega) := by congr 1; omega
  rw [e1] at h5
  exact rvF_ n d v hv R a (a + 1) b (by omega) (by omega) hb h5 h hn
theorem wholeF_ (a b : Nat) (ha : a < d.Harts.flatten.length) (hb : b < d.Harts.flatten.length) (h : aheadB d.Harts.flatten a b = true) : ppo_Whole n d (a : Int) (b : Int) = some true := by
  unfold ppo_Whole
  rw [hof]
  simp only [Option.bind_some]
  rw [leadsF_ R hN hn hv.view a b ha hb (pos_ hv R hn hD a b ha hb h)]
  rfl
theorem fullF_ : ppo_Full n d = some true := by
  have hall := hv.view.alls
  have key : T (ppo_Full n d) (fun r => r = true) := by
    unfold ppo_Full
    refine T.eqb hof ?_
    dsimp only
    refine T.bind (P := fun (r : Unit ⊕ Unit) => match r with | .inl _ => True | .inr _ => False) ?_ (fun r hr => by
      cases r with
      | inl _ => exact T.ret rfl
      | inr _ => exact hr.elim)
    refine T.loop d.Harts.flatten.length (fun i s => s.1 = (i : Int) ∧ (s.2 = -1 ∨ ∃ q : Nat, ∃ hq : q < d.Harts.flatten.length, q < i ∧ s.2 = (q : Int) ∧ memB d.Harts.flatten[q].Kind = true)) _ ?_ ⟨rfl, .inl rfl⟩ (by omega)
    rintro i ⟨s1, s2⟩ hi ⟨e1, e2⟩
    dsimp only at e1 e2
    subst e1
    unfold ppo_Full_L1
    dsimp only
    refine T.ite (fun cd => ?_) (fun _ => T.fin trivial)
    rw [hall] at cd
    have hil := lt_of cd
    refine T.eqb (a := d.Harts.flatten[i]) (by rw [hall]; exact getI_at rfl hil) ?_
    refine T.eqb (eMemory_ n _) ?_
    refine T.ite (fun _ => T.ret ⟨hil, addN1 _ (by omega), ?_⟩) (fun hm => ?_)
    · rcases e2 with e2 | ⟨q, hq, h1, h2, h3⟩
      · exact .inl e2
      · exact .inr ⟨q, hq, by omega, h2, h3⟩
    have hm := not_of hm
    have next : T (some (.inl (addW .i64 (i : Int) 1, (i : Int))) : Option ((Int × Int) ⊕ (Unit ⊕ Unit))) (Rd (fun s' => i < d.Harts.flatten.length ∧ (s'.1 = ((i + 1 : Nat) : Int) ∧ (s'.2 = -1 ∨ ∃ q : Nat, ∃ hq : q < d.Harts.flatten.length, q < i + 1 ∧ s'.2 = (q : Int) ∧ memB d.Harts.flatten[q].Kind = true))) (fun (r : Unit ⊕ Unit) => match r with | .inl _ => True | .inr _ => False)) :=
      T.ret ⟨hil, addN1 _ (by omega), .inr ⟨i, hil, by omega, rfl, hm⟩⟩
    refine T.ite (fun h0 => ?_) (fun _ => next)
    have h0 := of_decide_eq_true h0
    rcases e2 with e2 | ⟨q, hq, h1, h2, h3⟩
    · omega
    subst h2
    refine T.eqb (a := d.Harts.flatten[q]) (by rw [hall]; exact getI_at rfl hq) ?_
    refine T.ite (fun h4 => ?_) (fun _ => next)
    have h4 := eq_of_beq h4
    have hah : aheadB d.Harts.flatten q i = true := by
      rw [aheadB_eq hq hil, decide_eq_true h1, decide_eq_true h4, h3, hm]
      rfl
    refine T.eqb (leadsF_ R hN hn hv.view q i hq hil (pos_ hv R hn hD q i hq hil hah)) ?_
    exact T.ite (fun d => by simp at d) (fun _ => next)
  obtain ⟨r, h1, h2⟩ := key
  rw [h1, h2]
omit hv hn in
theorem law1_ (c : Cand) (hall : all = c.Harts.flatten) (vc : ppo_view) (Rc : Rules n c vc) (l : List (Arr2 Int)) (hl : PQ n c.Harts.flatten.length vc c.Harts.flatten.length 0 l) (hpos : ∀ a b : Nat, a < d.Harts.flatten.length → b < d.Harts.flatten.length → aheadB d.Harts.flatten a b = true → 0 < rv n v a b)
    (hln : l.length < n) (hl6 : l.length ≤ 100000) : T (iter (fun s => law_PpoFences_L1 n d l s) n 0) (fun (r : Unit ⊕ Unit) => match r with | .inl _ => True | .inr _ => False) := by
  have hlen := hD.len
  refine T.loop l.length (fun i s => s = (i : Int)) _ ?_ rfl hln
  rintro i s hi rfl
  unfold law_PpoFences_L1
  refine T.ite (fun cd => ?_) (fun _ => T.fin trivial)
  have hil := lt_of cd
  refine T.get i rfl hil ?_
  obtain ⟨x, y, e, hx, hy, hp, _⟩ := hl.el _ (List.getElem_mem hil)
  rw [e]
  dsimp only
  rw [← hall] at hx hy
  rw [mulI (by omega) (by omega), mulI (by omega) (by omega)]
  have e1 : (2 * (x : Int)) = ((2 * x : Nat) : Int) := by omega
  have e2 : (2 * (y : Int)) = ((2 * y : Nat) : Int) := by omega
  rw [e1, e2]
  refine T.eqb (ruleV_ hof R (2 * x) (2 * y) (by omega) (by omega)) ?_
  have hah : aheadB d.Harts.flatten (2 * x) (2 * y) = true := by
    have h := rv_pos Rc (by rw [← hall]; exact hx) (by rw [← hall]; exact hy) hp
    rw [← hall, aheadB_eq hx hy] at h
    simp only [Bool.and_eq_true, decide_eq_true_eq] at h
    have d1 := hD.ev x hx (by omega) (by omega)
    have d2 := hD.ev y hy (by omega) (by omega)
    rw [aheadB_eq (by omega) (by omega), d1.1, d2.1, d1.2.1, d2.2.1]
    simp only [Bool.and_eq_true, decide_eq_true_eq]
    exact ⟨by omega, h.2⟩
  have := hpos (2 * x) (2 * y) (by omega) (by omega) hah
  exact T.ite (fun z => absurd (eq_of_beq z) (by omega)) (fun _ => T.ret ⟨hil, addN1 _ (by omega)⟩)
theorem law3_ (a : Nat) (ha : a < d.Harts.flatten.length) : T (iter (fun s => law_PpoFences_L3 n d d.Harts.flatten s) n ((a : Int), ((a + 1 : Nat) : Int))) (fun (r : Int ⊕ Unit) => match r with | .inl w => w = (a : Int) | .inr _ => False) := by
  refine T.loop d.Harts.flatten.length (fun i s => s = ((a : Int), ((a + 1 + i : Nat) : Int))) _ ?_ rfl (by omega)
  rintro i s hi rfl
  unfold law_PpoFences_L3
  refine T.ite (fun cd => ?_) (fun _ => T.fin rfl)
  have hb : a + 1 + i < d.Harts.flatten.length := lt_of cd
  generalize hbb : a + 1 + i = b at *
  refine T.get a rfl ha ?_
  refine T.get b rfl hb ?_
  have next : T (some (.inl ((a : Int), addW .i64 (b : Int) 1)) : Option ((Int × Int) ⊕ (Int ⊕ Unit))) (Rd (fun s' => i < d.Harts.flatten.length ∧ s' = ((a : Int), ((a + 1 + (i + 1) : Nat) : Int))) (fun (r : Int ⊕ Unit) => match r with | .inl w => w = (a : Int) | .inr _ => False)) :=
    T.ret ⟨by omega, by rw [addN1 _ (by omega)]; congr 2; omega⟩
  refine T.ite (fun h1 => ?_) (fun _ => next)
  have h1 := eq_of_beq h1
  refine T.eqb (refMem_ n _) ?_
  refine T.ite (fun h2 => ?_) (fun _ => next)
  refine T.eqb (refMem_ n _) ?_
  refine T.ite (fun h3 => ?_) (fun _ => next)
  have hah : aheadB d.Harts.flatten a b = true := by
    rw [aheadB_eq ha hb, decide_eq_true (by omega), decide_eq_true h1, h2, h3]
    rfl
  refine T.eqb (wholeF_ hv hof R hN hn hD a b ha hb hah) ?_
  exact T.ite (fun z => by simp at z) (fun _ => next)
theorem law2_ : T (iter (fun s => law_PpoFences_L2 n d d.Harts.flatten s) n 0) (fun (r : Unit ⊕ Unit) => match r with | .inl _ => True | .inr _ => False) := by
  refine T.loop d.Harts.flatten.length (fun i s => s = (i : Int)) _ ?_ rfl (by omega)
  rintro a s hi rfl
  unfold law_PpoFences_L2
  refine T.ite (fun cd => ?_) (fun _ => T.ret trivial)
  have ha := lt_of cd
  rw [addN1 _ (by omega)]
  refine T.bind (law3_ hv hof R hN hn hD a ha) (fun r hr => ?_)
  cases r with
  | inr _ => exact hr.elim
  | inl w =>
    have hw : w = (a : Int) := hr
    subst hw
    exact T.ret ⟨ha, addN1 _ (by omega)⟩
end
theorem fences_true (c : Cand) : law_PpoFences 2000 c = some true := by
  have key : T (law_PpoFences 2000 c) (fun b => b = true) := by
    unfold law_PpoFences
    refine T.eqb lives_ ?_
    refine T.ite (fun d => by simp at d) (fun _ => ?_)
    refine T.bind (light_ 2000 c 30 (by omega) (by omega)) (fun b hb => ?_)
    refine T.ite (fun _ => T.ret rfl) (fun d => ?_)
    obtain ⟨hc, hN⟩ := hb (not_of d)
    obtain ⟨r, h1, h2⟩ := refCheck_ 2000 c hc (by omega)
    refine T.eqb h1 ?_
    refine T.ite (fun _ => T.ret rfl) (fun d2 => ?_)
    have h0 := ne_of d2
    subst h0
    have hr := h2 rfl
    have hfr := hr.fromLen
    refine T.bind (spread_ 2000 c hc hN (by omega) (by omega)) ?_
    rintro d ⟨hD, hd⟩
    obtain ⟨r, h3, h4⟩ := refCheck_ 2000 d hd (by omega)
    refine T.eqb h3 ?_
    refine T.ite (fun _ => T.ret rfl) (fun d3 => ?_)
    have h0 := ne_of d3
    subst h0
    have hrd := h4 rfl
    obtain ⟨_, hofc, vc, rfl, hvc⟩ := of_ 2000 c hc (by omega) hr
    obtain ⟨_, hofd, vd, rfl, hvd⟩ := ofF_ 2000 d hd (by omega) hrd
    have Rc := rules_ 2000 c vc hvc hc hr (by omega)
    have Rd := rules_ 2000 d vd hvd.view hd hrd (by omega)
    have hN60 : d.Harts.flatten.length ≤ 60 := hd.all
    refine T.bind (pairs_ 2000 c vc hvc hofc hr Rc (by omega) (by omega)) (fun l hl => ?_)
    have hll := hl.len
    refine T.bind (law1_ hofd Rd hN60 hD c rfl vc Rc l hl (fun a b ha hb h => pos_ hvd Rd (by omega) hD a b ha hb h) (by omega) (by omega)) (fun r h5 => ?_)
    cases r with
    | inr _ => exact h5.elim
    | inl _ =>
    refine T.eqb (all_ 2000 d hd (by omega) h3) ?_
    refine T.bind (law2_ hvd hofd Rd hN60 (by omega) hD) (fun r h6 => ?_)
    cases r with
    | inr _ => exact h6.elim
    | inl _ =>
    refine T.eqb (fullF_ hvd hofd Rd hN60 (by omega) hD) ?_
    exact T.ret rfl
  obtain ⟨r, h1, h2⟩ := key
  rw [h1, h2]
end Go.Proofs.Ytigcbjbaibcgfaa
