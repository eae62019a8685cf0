/- What leads to what. Plain lists, no program in sight. -/
import Derived.Test.YtigcbjbaibcgfaaW1
namespace Go.Proofs.Ytigcbjbaibcgfaa
open Go A

def aheadB (all : List Event) (a b : Nat) : Bool :=
  match all[a]?, all[b]? with
  | some x, some y => decide (a < b) && (decide (x.Hart = y.Hart) && (memB x.Kind && memB y.Kind))
  | _, _ => false
theorem aheadB_eq {all : List Event} {a b : Nat} (ha : a < all.length) (hb : b < all.length) : aheadB all a b = (decide (a < b) && (decide (all[a].Hart = all[b].Hart) && (memB all[a].Kind && memB all[b].Kind))) := by
  unfold aheadB
  rw [List.getElem?_eq_getElem ha, List.getElem?_eq_getElem hb]
theorem aheadB_lt {all : List Event} {a b : Nat} (h : aheadB all a b = true) : a < b ∧ b < all.length := by
  unfold aheadB at h
  split at h
  · rename_i x y h1 h2
    simp only [Bool.and_eq_true, decide_eq_true_eq] at h
    obtain ⟨h3, _⟩ := List.getElem?_eq_some_iff.1 h2
    exact ⟨h.1, h3⟩
  · simp at h
theorem aheads_ (n : Nat) (c : Cand) (v : ppo_view) (hv : View c v) (a b : Nat) (ha : a < c.Harts.flatten.length) (hb : b < c.Harts.flatten.length) :
    ppo_view_ahead2 n v (a : Int) (b : Int) = some (aheadB c.Harts.flatten a b) := by
  by_cases h : a < b
  · rw [ahead_ n c v hv a b h hb, aheadB_eq ha hb, decide_eq_true h, Bool.true_and]
  · rw [aheadB_eq ha hb, decide_eq_false h, Bool.false_and]
    unfold ppo_view_ahead2
    rw [decide_eq_false (show ¬ (a : Int) < 0 by omega), decide_eq_false (show ¬ (b : Int) ≥ (v.all.length : Int) by rw [hv.alls]; omega), decide_eq_true (show (a : Int) ≥ (b : Int) by omega)]
    rfl

/-- The rule of two. -/
def rv (n : Nat) (v : ppo_view) (a b : Nat) : Int := (ppo_view_rule2 n v (a : Int) (b : Int)).getD 0
def HH (n : Nat) (c : Cand) (v : ppo_view) (a b : Nat) : Nat → Bool :=
  match c.Harts.flatten[a]?, c.Harts.flatten[b]? with
  | some x, some y => H n v a b x y
  | _, _ => fun _ => false
theorem rv_ (n : Nat) (c : Cand) (v : ppo_view) (hv : View c v) (hc : Light c) (hr : RefOK n c) (hn : 200 ≤ n) (a b : Nat) (ha : a < c.Harts.flatten.length) (hb : b < c.Harts.flatten.length) :
    ppo_view_rule2 n v (a : Int) (b : Int) = some (rv n v a b) ∧ (aheadB c.Harts.flatten a b = false → rv n v a b = 0) ∧ (aheadB c.Harts.flatten a b = true → firstH (HH n c v a b) (rv n v a b)) := by
  have key : T (ppo_view_rule2 n v (a : Int) (b : Int)) (fun r => (aheadB c.Harts.flatten a b = false → r = 0) ∧ (aheadB c.Harts.flatten a b = true → firstH (HH n c v a b) r)) := by
    cases h : aheadB c.Harts.flatten a b with
    | false =>
      unfold ppo_view_rule2
      refine T.eqb (aheads_ n c v hv a b ha hb) ?_
      rw [h]
      exact T.ret ⟨fun _ => rfl, fun h => by simp at h⟩
    | true =>
      have h2 := h
      rw [aheadB_eq ha hb] at h2
      simp only [Bool.and_eq_true, decide_eq_true_eq] at h2
      refine (rule_ n c v hv hc hr a b h2.1 hb hn h2.2.1 h2.2.2.1 h2.2.2.2).imp (fun r hr => ⟨fun h => by simp at h, fun _ => ?_⟩)
      unfold HH
      rw [List.getElem?_eq_getElem ha, List.getElem?_eq_getElem hb]
      exact hr
  obtain ⟨r, h1, h2⟩ := key
  have e : rv n v a b = r := by unfold rv; rw [h1]; rfl
  rw [e]
  exact ⟨h1, h2⟩
theorem firstH_le {h : Nat → Bool} {r : Int} (hf : firstH h r) : 0 ≤ r ∧ r ≤ 13 := by
  rcases hf with ⟨h0, _⟩ | ⟨i, hi, h0, _⟩ <;> omega
/-- Everything that is known of the rules. -/
structure Rules (n : Nat) (c : Cand) (v : ppo_view) : Prop where
  val : ∀ a b : Nat, a < c.Harts.flatten.length → b < c.Harts.flatten.length → ppo_view_rule2 n v (a : Int) (b : Int) = some (rv n v a b)
  no : ∀ a b : Nat, a < c.Harts.flatten.length → b < c.Harts.flatten.length → aheadB c.Harts.flatten a b = false → rv n v a b = 0
  first : ∀ a b : Nat, a < c.Harts.flatten.length → b < c.Harts.flatten.length → aheadB c.Harts.flatten a b = true → firstH (HH n c v a b) (rv n v a b)
theorem rules_ (n : Nat) (c : Cand) (v : ppo_view) (hv : View c v) (hc : Light c) (hr : RefOK n c) (hn : 200 ≤ n) : Rules n c v :=
  ⟨fun a b ha hb => (rv_ n c v hv hc hr hn a b ha hb).1, fun a b ha hb => (rv_ n c v hv hc hr hn a b ha hb).2.1, fun a b ha hb => (rv_ n c v hv hc hr hn a b ha hb).2.2⟩
theorem rv_pos {n : Nat} {c : Cand} {v : ppo_view} (R : Rules n c v) {a b : Nat} (ha : a < c.Harts.flatten.length) (hb : b < c.Harts.flatten.length) (h : 0 < rv n v a b) : aheadB c.Harts.flatten a b = true := by
  cases e : aheadB c.Harts.flatten a b with
  | true => rfl
  | false => have := R.no a b ha hb e; omega
theorem rv_range {n : Nat} {c : Cand} {v : ppo_view} (R : Rules n c v) {a b : Nat} (ha : a < c.Harts.flatten.length) (hb : b < c.Harts.flatten.length) : 0 ≤ rv n v a b ∧ rv n v a b ≤ 13 := by
  cases e : aheadB c.Harts.flatten a b with
  | true => exact firstH_le (R.first a b ha hb e)
  | false => have := R.no a b ha hb e; omega

/-! ### Steps -/
def shut (n : Nat) (v : ppo_view) (b x m : Nat) : Prop := ∀ k, m < k → k ≤ b → x.testBit m = true → 0 < rv n v m k → x.testBit k = true
theorem put_has (x j k : Nat) (h : x.testBit k = true) : (x ||| 2 ^ j).testBit k = true := by rw [Nat.testBit_or, h, Bool.true_or]
theorem put_self (x j : Nat) : (x ||| 2 ^ j).testBit j = true := by rw [Nat.testBit_or, Nat.testBit_two_pow_self, Bool.or_true]
section
variable {n : Nat} {c : Cand} {v : ppo_view} (R : Rules n c v) (hN : c.Harts.flatten.length ≤ 14) (hn : 200 ≤ n)
include R hN hn
theorem leads3_ (a b m x : Nat) (w : Int) (hm : m < b) (hb : b < c.Harts.flatten.length) (hx : x < 16384) :
    T (iter (fun s => ppo_view_leads2_L3 n v (a : Int) (b : Int) w s) n ([(x : Int)], ((m + 1 : Nat) : Int), (m : Int)))
      (fun r => ∃ x' : Nat, r = ([(x' : Int)], (m : Int)) ∧ x' < 16384 ∧ (∀ k, x.testBit k = true → x'.testBit k = true) ∧ ((x' = x ∧ shut n v b x m) ∨ oc x < oc x')) := by
  refine T.loop (b - m) (fun i s => ∃ x' : Nat, s = ([(x' : Int)], ((m + 1 + i : Nat) : Int), (m : Int)) ∧ x' < 16384 ∧ (∀ k, x.testBit k = true → x'.testBit k = true) ∧
    ((x' = x ∧ ∀ k, m < k → k < m + 1 + i → x.testBit m = true → 0 < rv n v m k → x.testBit k = true) ∨ oc x < oc x')) _ ?_ ⟨x, rfl, hx, fun _ h => h, .inl ⟨rfl, fun k h1 h2 => by omega⟩⟩ (by omega)
  rintro i s hi ⟨x', rfl, hx', hs, ho⟩
  unfold ppo_view_leads2_L3
  refine T.ite (fun cd => ?_) (fun cd => ?_)
  · have hk : m + 1 + i ≤ b := by
      have : ((m + 1 + i : Nat) : Int) ≤ (b : Int) := by simpa using cd
      omega
    dsimp only
    refine T.eqb (sHas_ n x' m hx' (by omega)) ?_
    refine T.ite (fun hm1 => ?_) (fun hm1 => ?_)
    · refine T.eqb (sHas_ n x' (m + 1 + i) hx' (by omega)) ?_
      have next : (∀ (h : x' = x), x.testBit m = true → 0 < rv n v m (m + 1 + i) → x.testBit (m + 1 + i) = true) →
          T (some (.inl ([(x' : Int)], addW .i64 ((m + 1 + i : Nat) : Int) 1, (m : Int))) : Option ((List Int × Int × Int) ⊕ (List Int × Int))) (Rd (fun s' => i < b - m ∧ ∃ x' : Nat, s' = ([(x' : Int)], ((m + 1 + (i + 1) : Nat) : Int), (m : Int)) ∧ x' < 16384 ∧ (∀ k, x.testBit k = true → x'.testBit k = true) ∧
            ((x' = x ∧ ∀ k, m < k → k < m + 1 + (i + 1) → x.testBit m = true → 0 < rv n v m k → x.testBit k = true) ∨ oc x < oc x'))
            (fun r => ∃ x' : Nat, r = ([(x' : Int)], (m : Int)) ∧ x' < 16384 ∧ (∀ k, x.testBit k = true → x'.testBit k = true) ∧ ((x' = x ∧ shut n v b x m) ∨ oc x < oc x'))) := by
        intro hk2
        refine T.ret ⟨by omega, x', by rw [addN1 _ (by omega)]; rfl, hx', hs, ?_⟩
        rcases ho with ⟨e, ho⟩ | ho
        · refine .inl ⟨e, fun k h1 h2 h3 h4 => ?_⟩
          by_cases ek : k = m + 1 + i
          · subst ek; exact hk2 e h3 h4
          · exact ho k h1 (by omega) h3 h4
        · exact .inr ho
      refine T.ite (fun hk1 => ?_) (fun hk1 => ?_)
      · refine T.eqb (R.val m (m + 1 + i) (by omega) (by omega)) ?_
        refine T.ite (fun hr => ?_) (fun hr => ?_)
        · refine T.eqb (sPut_ n x' (m + 1 + i) hx' (by omega)) ?_
          have hoc := oc_put x' (m + 1 + i) hx' (by omega) (by simpa using hk1)
          refine T.ret ⟨by omega, x' ||| 2 ^ (m + 1 + i), by rw [addN1 _ (by omega)]; rfl, put_lt _ _ hx' (by omega), fun k h => put_has _ _ _ (hs k h), .inr ?_⟩
          rcases ho with ⟨e, _⟩ | ho
          · subst e; omega
          · omega
        · have := of_decide_eq_false hr
          exact next (fun _ _ h => absurd h this)
      · exact next (fun e _ _ => by subst e; exact not_of hk1)
    · refine T.fin ⟨x', rfl, hx', hs, ?_⟩
      rcases ho with ⟨e, _⟩ | ho
      · subst e
        exact .inl ⟨rfl, fun k _ _ h3 => by rw [h3] at hm1; simp at hm1⟩
      · exact .inr ho
  · have hk : ¬ m + 1 + i ≤ b := by
      have : ¬ ((m + 1 + i : Nat) : Int) ≤ (b : Int) := by simpa using cd
      omega
    refine T.fin ⟨x', rfl, hx', hs, ?_⟩
    rcases ho with ⟨e, ho⟩ | ho
    · exact .inl ⟨e, fun k h1 h2 h3 h4 => ho k h1 (by omega) h3 h4⟩
    · exact .inr ho
theorem leads2_ (a b x : Nat) (w : Int) (hab : a < b) (hb : b < c.Harts.flatten.length) (hx : x < 16384) :
    T (iter (fun s => ppo_view_leads2_L2 n v (a : Int) (b : Int) w s) n ([(x : Int)], (a : Int)))
      (fun r => ∃ x' : Nat, r = [(x' : Int)] ∧ x' < 16384 ∧ (∀ k, x.testBit k = true → x'.testBit k = true) ∧ ((x' = x ∧ ∀ m, a ≤ m → m < b → shut n v b x m) ∨ oc x < oc x')) := by
  refine T.loop (b - a) (fun i s => ∃ x' : Nat, s = ([(x' : Int)], ((a + i : Nat) : Int)) ∧ x' < 16384 ∧ (∀ k, x.testBit k = true → x'.testBit k = true) ∧
    ((x' = x ∧ ∀ m, a ≤ m → m < a + i → shut n v b x m) ∨ oc x < oc x')) _ ?_ ⟨x, rfl, hx, fun _ h => h, .inl ⟨rfl, fun k h1 h2 => by omega⟩⟩ (by omega)
  rintro i s hi ⟨x', rfl, hx', hs, ho⟩
  unfold ppo_view_leads2_L2
  refine T.ite (fun cd => ?_) (fun cd => ?_)
  · have hk : a + i < b := lt_of cd
    dsimp only
    rw [addN1 _ (by omega)]
    refine T.bind (leads3_ R hN hn a b (a + i) x' w hk hb hx') ?_
    rintro r ⟨x'', rfl, h1, h2, h3⟩
    refine T.ret ⟨by omega, x'', by dsimp only; rw [addN1 _ (by omega)]; rfl, h1, fun k h => h2 k (hs k h), ?_⟩
    rcases ho with ⟨e, ho⟩ | ho
    · subst e
      rcases h3 with ⟨e, h3⟩ | h3
      · refine .inl ⟨e, fun m g1 g2 => ?_⟩
        by_cases em : m = a + i
        · subst em; exact h3
        · exact ho m g1 (by omega)
      · exact .inr h3
    · rcases h3 with ⟨e, _⟩ | h3
      · subst e; exact .inr ho
      · exact .inr (by omega)
  · have hk : b ≤ a + i := ge_of cd
    refine T.fin ⟨x', rfl, hx', hs, ?_⟩
    rcases ho with ⟨e, ho⟩ | ho
    · exact .inl ⟨e, fun m g1 g2 => ho m g1 (by omega)⟩
    · exact .inr ho
theorem leads1_ (a b x : Nat) (hab : a < b) (hb : b < c.Harts.flatten.length) (hx : x < 16384) (ha : x.testBit a = true) (h1 : 0 < oc x) :
    T (iter (fun s => ppo_view_leads2_L1 n v (a : Int) (b : Int) s) n ([(x : Int)], 0))
      (fun r => ∃ x' : Nat, r = [(x' : Int)] ∧ x' < 16384 ∧ x'.testBit a = true ∧ ∀ m, a ≤ m → m < b → shut n v b x' m) := by
  refine T.loop 15 (fun i s => ∃ x' w : Nat, s = ([(x' : Int)], (w : Int)) ∧ x' < 16384 ∧ x'.testBit a = true ∧ i ≤ w ∧ w ≤ oc x' ∧ 0 < oc x' ∧ (w = oc x' → ∀ m, a ≤ m → m < b → shut n v b x' m)) _ ?_
    ⟨x, 0, rfl, hx, ha, by omega, by omega, h1, fun h => by omega⟩ (by omega)
  rintro i s hi ⟨x', w, rfl, hx', ha', hw, hw2, h0, hsh⟩
  have hle := oc_le x' hx'
  unfold ppo_view_leads2_L1
  refine T.eqb (sCount_ n x' hx' hn) ?_
  refine T.ite (fun cd => ?_) (fun cd => ?_)
  · have hne : w ≠ oc x' := by
      have : (w : Int) ≠ ((oc x' : Nat) : Int) := by simpa using cd
      omega
    refine T.eqb (sCount_ n x' hx' hn) ?_
    refine T.bind (leads2_ R hN hn a b x' _ hab hb hx') ?_
    rintro r ⟨x'', rfl, g1, g2, g3⟩
    refine T.ret ⟨by omega, x'', oc x', rfl, g1, g2 a ha', by omega, ?_⟩
    rcases g3 with ⟨e, g3⟩ | g3
    · subst e
      exact ⟨by omega, h0, fun _ => g3⟩
    · exact ⟨by omega, by omega, fun h => by omega⟩
  · have he : w = oc x' := by
      have : (w : Int) = ((oc x' : Nat) : Int) := by simpa using cd
      omega
    exact T.fin ⟨x', rfl, hx', ha', hsh he⟩
theorem leadsV_ (hv : View c v) (a b : Nat) (h : aheadB c.Harts.flatten a b = true) :
    T (ppo_view_leads2 n v (a : Int) (b : Int)) (fun r => (0 < rv n v a b → r = true) ∧ (∀ m, a < m → m < b → 0 < rv n v a m → 0 < rv n v m b → r = true)) := by
  obtain ⟨hab, hb⟩ := aheadB_lt h
  unfold ppo_view_leads2
  refine T.eqb (aheads_ n c v hv a b (by omega) hb) ?_
  rw [h]
  refine T.ite (fun d => by simp at d) (fun _ => ?_)
  rw [hv.alls, quo14 _ (by omega)]
  refine T.grd (by decide +kernel) ?_
  refine T.eqb (sPut_ n 0 a (by omega) (by omega)) ?_
  have hoc := oc_put 0 a (by omega) (by omega) (by simp)
  refine T.bind (leads1_ R hN hn a b (0 ||| 2 ^ a) hab hb (put_lt 0 a (by omega) (by omega)) (put_self 0 a) (by omega)) ?_
  rintro r ⟨x, rfl, hx, ha, hs⟩
  refine T.eqb (sHas_ n x b hx (by omega)) ?_
  refine T.ret ⟨fun h1 => hs a (by omega) hab b hab (by omega) ha h1, fun m h1 h2 h3 h4 => ?_⟩
  have hm := hs a (by omega) hab m h1 (by omega) ha h3
  exact hs m (by omega) h2 b h2 (by omega) hm h4
end
theorem Whole_ (n : Nat) (c : Cand) (v : ppo_view) (hv : View c v) (hof : ppo_of n c = some (some v)) (R : Rules n c v) (hN : c.Harts.flatten.length ≤ 14) (hn : 200 ≤ n) (a b : Nat) (h : aheadB c.Harts.flatten a b = true)
    (hp : 0 < rv n v a b ∨ ∃ m, a < m ∧ m < b ∧ 0 < rv n v a m ∧ 0 < rv n v m b) : ppo_Whole n c (a : Int) (b : Int) = some true := by
  unfold ppo_Whole
  rw [hof]
  simp only [Option.bind_some]
  obtain ⟨r, h1, h2, h3⟩ := leadsV_ R hN hn hv a b h
  rw [h1]
  have : r = true := by
    rcases hp with hp | ⟨m, g1, g2, g3, g4⟩
    · exact h2 hp
    · exact h3 m g1 g2 g3 g4
  rw [this]
  rfl
end Go.Proofs.Ytigcbjbaibcgfaa
