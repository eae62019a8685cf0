/- PpoWithin, on plain lists: no program in sight. -/
import Derived.Test.YtigcbjbaibcgfaaW3
import Derived.KernelRfl
namespace Go.Proofs.Ytigcbjbaibcgfaa
open Go A

set_option maxRecDepth 100000 in
theorem lives_ : law_lives 1000 = some true := by kernel_rfl
theorem all_ (n : Nat) (c : Cand) (hc : Light c) (hn : 200 ≤ n) (h : ref_Check n c = some 0) : ref_All n c = some c.Harts.flatten := by
  unfold ref_All
  rw [h]
  simp only [Option.bind_some]
  rw [if_neg (by simp), flat_ n c hc hn]
  rfl

/-! ### Which rules hold -/
def hk (n : Nat) (c : Cand) (v : ppo_view) (a b k : Nat) : Bool := aheadB c.Harts.flatten a b && HH n c v a b k
theorem hk_rv {n : Nat} {c : Cand} {v : ppo_view} (R : Rules n c v) {a b : Nat} (ha : a < c.Harts.flatten.length) (hb : b < c.Harts.flatten.length) :
    ∀ k, k < 13 → (hk n c v a b k = true → rv n v a b ≠ 0 ∧ rv n v a b ≤ ((k + 1 : Nat) : Int)) ∧ (rv n v a b = ((k + 1 : Nat) : Int) → hk n c v a b k = true) := by
  intro k hk13
  unfold hk
  cases e : aheadB c.Harts.flatten a b with
  | false =>
    have h0 := R.no a b ha hb e
    rw [h0]
    exact ⟨fun h => by simp at h, fun h => by omega⟩
  | true =>
    rw [Bool.true_and]
    rcases R.first a b ha hb e with ⟨h0, h1⟩ | ⟨i, hi, h0, h1, h2⟩
    · rw [h0]
      exact ⟨fun h => by rw [h1 k hk13] at h; simp at h, fun h => by omega⟩
    · rw [h0]
      refine ⟨fun h => ⟨by omega, ?_⟩, fun h => ?_⟩
      · by_cases g : k < i
        · rw [h2 k g] at h; simp at h
        · omega
      · have : i = k := by omega
        subst this
        exact h1
/-! ### The map of the pairs -/
instance arrDec : DecidableEq (Arr2 Int) := fun p q => if h : arr45_beq p q = true then .isTrue (arr45_beq_eq h) else .isFalse (fun e => h (by subst e; simp [arr45_beq]))
theorem arr_beq (p q : Arr2 Int) : arr45_beq p q = decide (p = q) := by
  by_cases e : p = q
  · subst e
    simp [arr45_beq]
  · rw [decide_eq_false e]
    cases h : arr45_beq p q with
    | false => rfl
    | true => exact absurd (arr45_beq_eq h) e
theorem mget_put (l : List (Arr2 Int × Bool)) (p q : Arr2 Int) (b : Bool) : mget arr45_beq (mput arr45_beq l p b) q = if q = p then some b else mget arr45_beq l q := by
  induction l with
  | nil =>
    unfold mput mget
    rw [arr_beq]
    by_cases e : q = p
    · simp [e]
    · simp [e, mget]
  | cons x l ih =>
    unfold mput
    by_cases h : arr45_beq p x.1 = true
    · rw [if_pos h]
      have hx := arr45_beq_eq h
      unfold mget
      rw [arr_beq, arr_beq]
      by_cases e : q = p
      · simp [e]
      · have : ¬ q = x.1 := by rw [← hx]; exact e
        simp [e, this]
    · rw [if_neg h]
      have hx : ¬ p = x.1 := by rw [arr_beq] at h; simpa using h
      unfold mget
      rw [arr_beq]
      by_cases e : q = x.1
      · have : ¬ q = p := by rw [e]; exact fun h => hx h.symm
        simp [e]
        intro h
        exact absurd h.symm hx
      · simp [e, ih]
section
variable {n : Nat} {c : Cand} {v : ppo_view} (hv : View c v) (hof : ppo_of n c = some (some v)) (hc : Light c) (hr : RefOK n c) (R : Rules n c v) (hN : c.Harts.flatten.length ≤ 14) (hn : 200 ≤ n)
include hv hof hc hr hn
theorem holds_ (a b i : Nat) (ha : a < c.Harts.flatten.length) (hb : b < c.Harts.flatten.length) (hi : i < 13) : ppo_Holds n c (a : Int) (b : Int) ((i + 1 : Nat) : Int) = some (hk n c v a b i) := by
  have key : T (ppo_Holds n c (a : Int) (b : Int) ((i + 1 : Nat) : Int)) (fun r => r = hk n c v a b i) := by
    unfold ppo_Holds
    refine T.eqb hof ?_
    dsimp only
    refine T.eqb (a := ()) rfl ?_
    refine T.ite (fun d => absurd (of_decide_eq_true d) (by omega)) (fun _ => ?_)
    refine T.ite (fun d => absurd (of_decide_eq_true d) (by omega)) (fun _ => ?_)
    refine T.eqb (aheads_ n c v hv a b ha hb) ?_
    unfold hk
    cases e : aheadB c.Harts.flatten a b with
    | false => exact T.ite (fun _ => T.ret rfl) (fun d => by simp at d)
    | true =>
    refine T.ite (fun d => by simp at d) (fun _ => ?_)
    rw [Bool.true_and]
    have hab := (aheadB_lt e).1
    have hR := H_ (R_ n c v hv hc hr a b hab hb hn i hi)
    have ga : getI v.all (a : Int) = some c.Harts.flatten[a] := by rw [hv.alls]; exact getI_at rfl ha
    have gb : getI v.all (b : Int) = some c.Harts.flatten[b] := by rw [hv.alls]; exact getI_at rfl hb
    have hHH : HH n c v a b i = H n v a b c.Harts.flatten[a] c.Harts.flatten[b] i := by
      unfold HH
      rw [List.getElem?_eq_getElem ha, List.getElem?_eq_getElem hb]
    rw [subN1 (i + 1) (by omega) (by omega), Nat.add_sub_cancel, hHH]
    have leaf : ∀ k : Nat, i = k → T ((getI v.all (a : Int)).bind fun x3 => (getI v.all (b : Int)).bind fun x4 => (Go.Proofs.Ytigcbjbaibcgfaa.R n v a b x3 x4 k).bind fun y5 => some y5) (fun r => r = H n v a b c.Harts.flatten[a] c.Harts.flatten[b] i) := by
      rintro k rfl
      exact T.eqb ga (T.eqb gb (T.eqb hR (T.ret rfl)))
    refine T.ite (fun k => leaf 0 (by have k2 := eq_of_beq k; omega)) (fun k0 => ?_)
    have k0 : (i : Int) ≠ 0 := by simpa using k0
    refine T.ite (fun k => leaf 1 (by have k2 := eq_of_beq k; omega)) (fun k1 => ?_)
    have k1 : (i : Int) ≠ 1 := by simpa using k1
    refine T.ite (fun k => leaf 2 (by have k2 := eq_of_beq k; omega)) (fun k2 => ?_)
    have k2 : (i : Int) ≠ 2 := by simpa using k2
    refine T.ite (fun k => leaf 3 (by have k2 := eq_of_beq k; omega)) (fun k3 => ?_)
    have k3 : (i : Int) ≠ 3 := by simpa using k3
    refine T.ite (fun k => leaf 4 (by have k2 := eq_of_beq k; omega)) (fun k4 => ?_)
    have k4 : (i : Int) ≠ 4 := by simpa using k4
    refine T.ite (fun k => leaf 5 (by have k2 := eq_of_beq k; omega)) (fun k5 => ?_)
    have k5 : (i : Int) ≠ 5 := by simpa using k5
    refine T.ite (fun k => leaf 6 (by have k2 := eq_of_beq k; omega)) (fun k6 => ?_)
    have k6 : (i : Int) ≠ 6 := by simpa using k6
    refine T.ite (fun k => leaf 7 (by have k2 := eq_of_beq k; omega)) (fun k7 => ?_)
    have k7 : (i : Int) ≠ 7 := by simpa using k7
    refine T.ite (fun k => leaf 8 (by have k2 := eq_of_beq k; omega)) (fun k8 => ?_)
    have k8 : (i : Int) ≠ 8 := by simpa using k8
    refine T.ite (fun k => leaf 9 (by have k2 := eq_of_beq k; omega)) (fun k9 => ?_)
    have k9 : (i : Int) ≠ 9 := by simpa using k9
    refine T.ite (fun k => leaf 10 (by have k2 := eq_of_beq k; omega)) (fun k10 => ?_)
    have k10 : (i : Int) ≠ 10 := by simpa using k10
    refine T.ite (fun k => leaf 11 (by have k2 := eq_of_beq k; omega)) (fun k11 => ?_)
    have k11 : (i : Int) ≠ 11 := by simpa using k11
    refine T.ite (fun k => leaf 12 (by have k2 := eq_of_beq k; omega)) (fun k12 => ?_)
    have k12 : (i : Int) ≠ 12 := by simpa using k12
    omega
  obtain ⟨r, h1, h2⟩ := key
  rw [h1, h2]
omit hv hc hr hn in
include R in
theorem ruleV_ (a b : Nat) (ha : a < c.Harts.flatten.length) (hb : b < c.Harts.flatten.length) : ppo_Rule n c (a : Int) (b : Int) = some (rv n v a b) := by
  unfold ppo_Rule
  rw [hof]
  simp only [Option.bind_some]
  rw [R.val a b ha hb]
  rfl
include R hN

/-! ### The law's loops -/
omit hc hr in
theorem law1_ (l : List (Arr2 Int)) (hl : PQ n c.Harts.flatten.length v c.Harts.flatten.length 0 l) :
    T (iter (fun s => law_PpoWithin_L1 n c c.Harts.flatten l s) n (([] : List (Arr2 Int × Bool)), 0)) (fun r => match r with | .inl w => ∀ p, (mget arr45_beq w p).getD false = decide (p ∈ l) | .inr _ => False) := by
  have hlen := hl.len
  refine T.loop l.length (fun i s => s.2 = (i : Int) ∧ ∀ p, (mget arr45_beq s.1 p).getD false = decide (p ∈ l.take i)) _ ?_ ⟨rfl, fun p => by simp [mget]⟩ (by omega)
  rintro i ⟨m, s2⟩ hi ⟨e, hq⟩
  dsimp only at e hq
  subst e
  unfold law_PpoWithin_L1
  refine T.ite (fun cd => ?_) (fun cd => T.fin (fun p => by dsimp only; rw [hq p, List.take_of_length_le (ge_of cd)]))
  have hil := lt_of cd
  dsimp only
  obtain ⟨a, b, he, ha, hb, hp, _⟩ := hl.el _ (List.getElem_mem hil)
  refine T.get i rfl hil ?_
  have next : T ((ppo_Whole n c (a : Int) (b : Int)).bind fun y => if (!y) = true then some (.inr (.inr ())) else some (.inl (mput arr45_beq m (Arr2.mk (a : Int) (b : Int)) true, addW .i64 (i : Int) 1)) : Option ((List (Arr2 Int × Bool) × Int) ⊕ (List (Arr2 Int × Bool) ⊕ Unit)))
      (Rd (fun s' => i < l.length ∧ (s'.2 = ((i + 1 : Nat) : Int) ∧ ∀ p, (mget arr45_beq s'.1 p).getD false = decide (p ∈ l.take (i + 1)))) (fun r => match r with | .inl w => ∀ p, (mget arr45_beq w p).getD false = decide (p ∈ l) | .inr _ => False)) := by
    refine T.eqb (Whole_ n c v hv hof R hN hn a b (rv_pos R ha hb hp) (.inl hp)) ?_
    refine T.ite (fun d => by simp at d) (fun _ => T.ret ⟨hil, addN1 _ (by omega), fun p => ?_⟩)
    dsimp only
    rw [mget_put, List.take_succ_eq_append_getElem hil, he]
    by_cases ep : p = Arr2.mk (a : Int) (b : Int)
    · rw [if_pos ep]
      simp [ep]
    · rw [if_neg ep, hq p]
      simp [ep]
  rw [he]
  dsimp only
  have hah := rv_pos R ha hb hp
  rw [aheadB_eq ha hb] at hah
  simp only [Bool.and_eq_true, decide_eq_true_eq] at hah
  obtain ⟨h1, h2, h3, h4⟩ := hah
  refine T.ite (fun d => absurd (of_decide_eq_true d) (by omega)) (fun _ => ?_)
  refine T.ite (fun d => absurd (of_decide_eq_true d) (by omega)) (fun _ => ?_)
  refine T.ite (fun d => absurd (of_decide_eq_true d) (by omega)) (fun _ => ?_)
  refine T.get a rfl ha ?_
  refine T.get b rfl hb ?_
  refine T.ite (fun d => by simp [h2] at d) (fun _ => ?_)
  refine T.eqb (refMem_ n _) ?_
  refine T.ite (fun d => by simp [h3] at d) (fun _ => ?_)
  refine T.eqb (refMem_ n _) ?_
  refine T.ite (fun d => by simp [h4] at d) (fun _ => ?_)
  refine T.ite (fun d => ?_) (fun _ => next)
  have h0 : 0 < i := by have := of_decide_eq_true d; omega
  refine T.get (i - 1) (subN1 i (by omega) (by omega)) (by omega) ?_
  have hlx : lx l[i - 1] l[i] := List.pairwise_iff_getElem.1 hl.ord (i - 1) i (by omega) hil (by omega)
  rw [he] at hlx
  unfold lx at hlx
  dsimp only at hlx
  refine T.ite (fun d => absurd (of_decide_eq_true d) (by omega)) (fun _ => ?_)
  refine T.ite (fun d => ?_) (fun _ => next)
  have d := eq_of_beq d
  exact T.ite (fun d => absurd (of_decide_eq_true d) (by omega)) (fun _ => next)
omit hN in
theorem law4_ (l : List (Arr2 Int)) (w : List (Arr2 Int × Bool)) (a b : Nat) (ha : a < c.Harts.flatten.length) (hb : b < c.Harts.flatten.length) :
    T (iter (fun s => law_PpoWithin_L4 n c c.Harts.flatten l w (rv n v a b) s) n ((b : Int), 1, (a : Int))) (fun r => match r with | .inl w => w = ((b : Int), (a : Int)) | .inr _ => False) := by
  refine T.loop 13 (fun i s => s = ((b : Int), ((i + 1 : Nat) : Int), (a : Int))) _ ?_ rfl (by omega)
  rintro i s hi rfl
  unfold law_PpoWithin_L4
  refine T.ite (fun cd => ?_) (fun _ => T.fin rfl)
  have h13 : i < 13 := by
    have h : ((i + 1 : Nat) : Int) ≤ 13 := of_decide_eq_true cd
    omega
  dsimp only
  obtain ⟨g1, g2⟩ := hk_rv R ha hb i h13
  have hh := holds_ hv hof hc hr hn a b i ha hb h13
  have next : T (some (.inl ((b : Int), addW .i64 ((i + 1 : Nat) : Int) 1, (a : Int))) : Option ((Int × Int × Int) ⊕ ((Int × Int) ⊕ Unit))) (Rd (fun s' => i < 13 ∧ s' = ((b : Int), ((i + 1 + 1 : Nat) : Int), (a : Int))) (fun r => match r with | .inl w => w = ((b : Int), (a : Int)) | .inr _ => False)) :=
    T.ret ⟨h13, by rw [addN1 _ (by omega)]⟩
  refine T.eqb hh ?_
  refine T.ite (fun t => ?_) (fun f => ?_)
  · obtain ⟨g3, g4⟩ := g1 t
    refine T.ite (fun d => absurd (eq_of_beq d) g3) (fun _ => ?_)
    refine T.ite (fun d => absurd (of_decide_eq_true d) (by omega)) (fun _ => ?_)
    refine T.ite (fun _ => ?_) (fun _ => next)
    refine T.eqb hh ?_
    exact T.ite (fun d => by rw [t] at d; simp at d) (fun _ => next)
  · refine T.ite (fun d => ?_) (fun _ => next)
    have := g2 (eq_of_beq d).symm
    rw [this] at f
    simp at f
theorem law3_ (l : List (Arr2 Int)) (hl : PQ n c.Harts.flatten.length v c.Harts.flatten.length 0 l) (w : List (Arr2 Int × Bool)) (hw : ∀ p, (mget arr45_beq w p).getD false = decide (p ∈ l)) (a : Nat) (ha : a < c.Harts.flatten.length) :
    T (iter (fun s => law_PpoWithin_L3 n c c.Harts.flatten l w s) n (0, (a : Int))) (fun r => match r with | .inl w => w = (a : Int) | .inr _ => False) := by
  refine T.loop c.Harts.flatten.length (fun i s => s = ((i : Int), (a : Int))) _ ?_ rfl (by omega)
  rintro b s hi rfl
  unfold law_PpoWithin_L3
  refine T.ite (fun cd => ?_) (fun _ => T.fin rfl)
  have hb := lt_of cd
  dsimp only at hb ⊢
  refine T.eqb (ruleV_ hof R a b ha hb) ?_
  obtain ⟨r1, r2⟩ := rv_range R ha hb
  have hiff : (Arr2.mk (a : Int) (b : Int) ∈ l) ↔ rv n v a b > 0 := by
    refine ⟨fun h => ?_, fun h => hl.all a b ha hb h (by unfold bef; omega)⟩
    obtain ⟨x, y, e, _, _, hp, _⟩ := hl.el _ h
    injection e with e1 e2
    have e1 : a = x := by omega
    have e2 : b = y := by omega
    subst e1 e2
    exact hp
  refine T.ite (fun d => ?_) (fun _ => ?_)
  · rw [hw] at d
    by_cases g : rv n v a b > 0
    · rw [decide_eq_true g, decide_eq_true (hiff.2 g)] at d
      simp at d
    · rw [decide_eq_false g, decide_eq_false (fun h => g (hiff.1 h))] at d
      simp at d
  refine T.ite (fun d => absurd (of_decide_eq_true d) (by omega)) (fun _ => ?_)
  refine T.ite (fun d => absurd (of_decide_eq_true d) (by omega)) (fun _ => ?_)
  refine T.bind (law4_ hv hof hc hr R hn l w a b ha hb) (fun r hr => ?_)
  cases r with
  | inr _ => exact hr.elim
  | inl w =>
    have hw : w = ((b : Int), (a : Int)) := hr
    subst hw
    exact T.ret ⟨hb, by dsimp only; rw [addN1 _ (by omega)]⟩
theorem law2_ (l : List (Arr2 Int)) (hl : PQ n c.Harts.flatten.length v c.Harts.flatten.length 0 l) (w : List (Arr2 Int × Bool)) (hw : ∀ p, (mget arr45_beq w p).getD false = decide (p ∈ l)) :
    T (iter (fun s => law_PpoWithin_L2 n c c.Harts.flatten l w s) n 0) (fun r => match r with | .inl _ => True | .inr _ => False) := by
  refine T.loop c.Harts.flatten.length (fun i s => s = (i : Int)) _ ?_ rfl (by omega)
  rintro a s hi rfl
  unfold law_PpoWithin_L2
  refine T.ite (fun cd => ?_) (fun _ => T.ret trivial)
  have ha := lt_of cd
  refine T.bind (law3_ hv hof hc hr R hN hn l hl w hw a ha) (fun r hr => ?_)
  cases r with
  | inr _ => exact hr.elim
  | inl w =>
    have hw : w = (a : Int) := hr
    subst hw
    exact T.ret ⟨ha, addN1 _ (by omega)⟩
omit hc hr in
theorem law6_ (l : List (Arr2 Int)) (hl : PQ n c.Harts.flatten.length v c.Harts.flatten.length 0 l) (i : Nat) (hi : i < l.length) :
    T (iter (fun s => law_PpoWithin_L6 n c l s) n ((i : Int), 0)) (fun r => match r with | .inl w => w = (i : Int) | .inr _ => False) := by
  have hlen := hl.len
  refine T.loop l.length (fun k s => s = ((i : Int), (k : Int))) _ ?_ rfl (by omega)
  rintro k s hk' rfl
  unfold law_PpoWithin_L6
  refine T.ite (fun cd => ?_) (fun _ => T.fin rfl)
  have hkl := lt_of cd
  dsimp only at hkl ⊢
  have next : T (some (.inl ((i : Int), addW .i64 (k : Int) 1)) : Option ((Int × Int) ⊕ (Int ⊕ Unit))) (Rd (fun s' => k < l.length ∧ s' = ((i : Int), ((k + 1 : Nat) : Int))) (fun r => match r with | .inl w => w = (i : Int) | .inr _ => False)) :=
    T.ret ⟨hkl, by rw [addN1 _ (by omega)]⟩
  obtain ⟨a, b, e1, ha, hb, hp, _⟩ := hl.el _ (List.getElem_mem hi)
  obtain ⟨x, y, e2, hx, hy, hq, _⟩ := hl.el _ (List.getElem_mem hkl)
  refine T.get i rfl hi ?_
  refine T.get k rfl hkl ?_
  rw [e1, e2]
  dsimp only
  refine T.ite (fun d => ?_) (fun _ => next)
  have hbx : b = x := by have := eq_of_beq d; omega
  subst hbx
  have g1 := rv_pos R ha hb hp
  have g2 := rv_pos R hx hy hq
  have l1 := aheadB_lt g1
  have l2 := aheadB_lt g2
  have hah : aheadB c.Harts.flatten a y = true := by
    rw [aheadB_eq ha hb] at g1
    rw [aheadB_eq hx hy] at g2
    rw [aheadB_eq ha hy]
    simp only [Bool.and_eq_true, decide_eq_true_eq] at g1 g2 ⊢
    exact ⟨by omega, by rw [g1.2.1, g2.2.1], g1.2.2.1, g2.2.2.2⟩
  refine T.eqb (Whole_ n c v hv hof R hN hn a y hah (.inr ⟨b, l1.1, l2.1, hp, hq⟩)) ?_
  exact T.ite (fun d => by simp at d) (fun _ => next)
omit hc hr in
theorem law5_ (l : List (Arr2 Int)) (hl : PQ n c.Harts.flatten.length v c.Harts.flatten.length 0 l) :
    T (iter (fun s => law_PpoWithin_L5 n c l s) n 0) (fun r => match r with | .inl _ => True | .inr _ => False) := by
  have hlen := hl.len
  refine T.loop l.length (fun i s => s = (i : Int)) _ ?_ rfl (by omega)
  rintro i s hi rfl
  unfold law_PpoWithin_L5
  refine T.ite (fun cd => ?_) (fun _ => T.ret trivial)
  have hil := lt_of cd
  refine T.bind (law6_ hv hof R hN hn l hl i hil) (fun r hr => ?_)
  cases r with
  | inr _ => exact hr.elim
  | inl w =>
    have hw : w = (i : Int) := hr
    subst hw
    exact T.ret ⟨hil, addN1 _ (by omega)⟩
end
theorem within_true (c : Cand) : law_PpoWithin 1000 c = some true := by
  have key : T (law_PpoWithin 1000 c) (fun b => b = true) := by
    unfold law_PpoWithin
    refine T.eqb lives_ ?_
    refine T.ite (fun d => by simp at d) (fun _ => ?_)
    refine T.bind (light_ 1000 c 14 (by omega) (by omega)) (fun b hb => ?_)
    refine T.ite (fun _ => T.ret rfl) (fun d => ?_)
    obtain ⟨hc, hN⟩ := hb (not_of d)
    obtain ⟨r, h1, h2⟩ := refCheck_ 1000 c hc (by omega)
    refine T.eqb h1 ?_
    refine T.ite (fun _ => T.ret rfl) (fun d2 => ?_)
    have h0 := ne_of d2
    subst h0
    have hr := h2 rfl
    refine T.eqb (all_ 1000 c hc (by omega) h1) ?_
    refine T.eqb (ownCand_ 1000 c hc (by omega)) ?_
    obtain ⟨_, hof, v, rfl, hv⟩ := of_ 1000 c hc (by omega) hr
    have R := rules_ 1000 c v hv hc hr (by omega)
    refine T.bind (pairs_ 1000 c v hv hof hr R hN (by omega)) (fun l hl => ?_)
    refine T.bind (law1_ hv hof R hN (by omega) l hl) (fun r h1 => ?_)
    cases r with
    | inr _ => exact h1.elim
    | inl w =>
    refine T.bind (law2_ hv hof hc hr R hN (by omega) l hl w h1) (fun r h2 => ?_)
    cases r with
    | inr _ => exact h2.elim
    | inl _ =>
    refine T.bind (law5_ hv hof R hN (by omega) l hl) (fun r h3 => ?_)
    cases r with
    | inr _ => exact h3.elim
    | inl _ => exact T.ret rfl
  obtain ⟨r, h1, h2⟩ := key
  rw [h1, h2]
end Go.Proofs.Ytigcbjbaibcgfaa
