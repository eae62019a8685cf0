/- A set of small numbers in one word, and one step that leads. Plain numbers, no program in sight. -/
import Derived.Test.YtigcbjbaibcgfaaV2
import Derived.KernelRfl
namespace Go.Proofs.Ytigcbjbaibcgfaa
open Go A

theorem bvN (a : Nat) (h : a < 18446744073709551616) : (BitVec.ofInt 64 (a : Int)).toNat = a := by
  rw [BitVec.ofInt_natCast, BitVec.toNat_ofNat]
  omega
theorem andN (a b : Nat) (ha : a < 18446744073709551616) (hb : b < 18446744073709551616) : andW .u64 (a : Int) (b : Int) = ((a &&& b : Nat) : Int) := by
  unfold andW
  show IntKind.wrap .u64 (((BitVec.ofInt 64 (a : Int) &&& BitVec.ofInt 64 (b : Int)).toNat : Nat) : Int) = _
  rw [BitVec.toNat_and, bvN a ha, bvN b hb]
  have := Nat.and_le_left (n := a) (m := b)
  rw [wrapU (by omega) (by omega)]
theorem orN (a b : Nat) (ha : a < 2 ^ 60) (hb : b < 2 ^ 60) : orW .u64 (a : Int) (b : Int) = ((a ||| b : Nat) : Int) := by
  unfold orW
  show IntKind.wrap .u64 (((BitVec.ofInt 64 (a : Int) ||| BitVec.ofInt 64 (b : Int)).toNat : Nat) : Int) = _
  rw [BitVec.toNat_or, bvN a (by omega), bvN b (by omega)]
  have : a ||| b < 2 ^ 60 := Nat.or_lt_two_pow ha hb
  rw [wrapU (by omega) (by omega)]
theorem shrN (a b : Nat) (hb : b ≤ 64) : shrW .u64 (a : Int) (b : Int) = ((a / 2 ^ b : Nat) : Int) := by
  unfold shrW
  rw [show min ((b : Int)).toNat IntKind.u64.bits = b by rw [Int.toNat_natCast]; exact Nat.min_eq_left hb]
  rw [Int.fdiv_eq_ediv_of_nonneg _ (by exact_mod_cast Nat.zero_le (2 ^ b))]
  norm_cast
theorem shlN : ∀ b : Nat, b < 60 → shlW .u64 1 (b : Int) = ((2 ^ b : Nat) : Int) := by decide +kernel
theorem quo60 : ∀ k : Nat, k < 61 → quoW .i64 (k : Int) 64 = 0 := by decide +kernel
theorem rem60 : ∀ k : Nat, k < 61 → remW .i64 (k : Int) 64 = (k : Int) := by decide +kernel
theorem put_lt (x j : Nat) (h : x < 2 ^ 60) (hj : j < 60) : x ||| 2 ^ j < 2 ^ 60 := Nat.or_lt_two_pow h (Nat.pow_lt_pow_right (by omega) hj)
theorem put_has (x j k : Nat) (h : x.testBit k = true) : (x ||| 2 ^ j).testBit k = true := by rw [Nat.testBit_or, h, Bool.true_or]
theorem put_self (x j : Nat) : (x ||| 2 ^ j).testBit j = true := by rw [Nat.testBit_or, Nat.testBit_two_pow_self, Bool.or_true]

/-- How many are lacking. -/
def mz : Nat → Nat → Nat
  | 0, _ => 0
  | k + 1, x => mz k x + if x.testBit k = true then 0 else 1
theorem mz_le (x : Nat) : ∀ k, mz k x ≤ k
  | 0 => Nat.le_refl _
  | k + 1 => by
    have := mz_le x k
    unfold mz
    split <;> omega
theorem mz_mono {x y : Nat} (h : ∀ k, x.testBit k = true → y.testBit k = true) : ∀ k, mz k y ≤ mz k x
  | 0 => Nat.le_refl _
  | k + 1 => by
    have := mz_mono h k
    unfold mz
    by_cases c : x.testBit k = true
    · rw [if_pos c, if_pos (h k c)]; omega
    · rw [if_neg c]; split <;> omega
theorem mz_lt {x y : Nat} (h : ∀ k, x.testBit k = true → y.testBit k = true) {j : Nat} (h1 : x.testBit j = false) (h2 : y.testBit j = true) : ∀ k, j < k → mz k y < mz k x
  | 0, hj => by omega
  | k + 1, hj => by
    unfold mz
    by_cases e : j = k
    · subst e
      have := mz_mono h j
      rw [if_pos h2, if_neg (by rw [h1]; exact Bool.false_ne_true)]
      omega
    · have := mz_lt h h1 h2 k (by omega)
      by_cases c : x.testBit k = true
      · rw [if_pos c, if_pos (h k c)]; omega
      · rw [if_neg c]; split <;> omega

theorem sHas_ (n : Nat) (x j : Nat) (h : x < 2 ^ 60) (hj : j < 60) : ppo_set_has n [(x : Int)] (j : Int) = some (x.testBit j) := by
  unfold ppo_set_has
  rw [quo60 j (by omega), rem60 j (by omega)]
  show (grd (decide (0 ≤ (j : Int))) (some (andW .u64 (shrW .u64 (x : Int) (j : Int)) 1 == 1))) = _
  rw [grd_pos (by simp), shrN x j (by omega)]
  have hl : x / 2 ^ j ≤ x := Nat.div_le_self _ _
  have := andN (x / 2 ^ j) 1 (by omega) (by omega)
  rw [show ((1 : Nat) : Int) = 1 from rfl] at this
  rw [this, Nat.and_one_is_mod, Nat.testBit_eq_decide_div_mod_eq]
  congr 1
  by_cases c : x / 2 ^ j % 2 = 1
  · rw [c]; rfl
  · have h0 : x / 2 ^ j % 2 = 0 := by omega
    rw [decide_eq_false c, h0]
    rfl
theorem sPut_ (n : Nat) (x j : Nat) (h : x < 2 ^ 60) (hj : j < 60) : ppo_set_put_S n (j : Int) [(x : Int)] = some [((x ||| 2 ^ j : Nat) : Int)] := by
  unfold ppo_set_put_S
  rw [quo60 j (by omega), rem60 j (by omega), shlN j hj]
  show (grd (decide (0 ≤ (j : Int))) (some [orW .u64 (x : Int) ((2 ^ j : Nat) : Int)])) = _
  rw [grd_pos (by simp), orN x (2 ^ j) h (Nat.pow_lt_pow_right (by omega) hj)]
def oc (x : Nat) : Int := addW .i64 0 ((math_bits_OnesCount64 0 (x : Int)).getD 0)
theorem oc_one : ∀ j : Nat, j < 60 → oc (0 ||| 2 ^ j) ≠ 0 := by decide +kernel
theorem sCount_ (n : Nat) (x : Nat) (hn : 200 ≤ n) : ppo_set_count n [(x : Int)] = some (oc x) := by
  have : T (ppo_set_count n [(x : Int)]) (fun r => r = oc x) := by
    unfold ppo_set_count
    refine T.bind (P := fun r => r = oc x) ?_ (fun r hr => T.ret hr)
    refine T.loop 1 (fun i s => s = (if i = 0 then 0 else oc x, (i : Int))) _ ?_ rfl (by omega)
    rintro i s hi rfl
    unfold ppo_set_count_L1
    refine T.ite (fun cd => ?_) (fun cd => ?_)
    · have hi1 : i < 1 := lt_of (m := 1) cd
      have hi0 : i = 0 := by omega
      subst hi0
      refine T.get 0 rfl (by simp) ?_
      refine T.eqb (a := (math_bits_OnesCount64 0 (x : Int)).getD 0) rfl ?_
      exact T.ret ⟨by omega, rfl⟩
    · have : 1 ≤ i := ge_of (m := 1) cd
      refine T.fin ?_
      dsimp only
      rw [if_neg (by omega)]
  obtain ⟨r, h1, h2⟩ := this
  rw [h1, h2]

section
variable {n : Nat} {c : Cand} {v : ppo_view} (R : Rules n c v) (hN : c.Harts.flatten.length ≤ 60) (hn : 200 ≤ n)
include R hN hn
theorem leads3_ (a b m x : Nat) (w : Int) (hm : m < b) (hb : b < c.Harts.flatten.length) (hx : x < 2 ^ 60) :
    T (iter (fun s => ppo_view_leads2_L3 n v (a : Int) (b : Int) w s) n ([(x : Int)], ((m + 1 : Nat) : Int), (m : Int)))
      (fun r => ∃ x' : Nat, r = ([(x' : Int)], (m : Int)) ∧ x' < 2 ^ 60 ∧ (∀ k, x.testBit k = true → x'.testBit k = true) ∧ (x' = x ∨ mz 60 x' < mz 60 x) ∧ (x.testBit m = true → 0 < rv n v m b → x'.testBit b = true)) := by
  refine T.loop (b - m) (fun i s => ∃ x' : Nat, s = ([(x' : Int)], ((m + 1 + i : Nat) : Int), (m : Int)) ∧ x' < 2 ^ 60 ∧ (∀ k, x.testBit k = true → x'.testBit k = true) ∧
    (x' = x ∨ mz 60 x' < mz 60 x) ∧ (x.testBit m = true → 0 < rv n v m b → b < m + 1 + i → x'.testBit b = true)) _ ?_ ⟨x, rfl, hx, fun _ h => h, .inl rfl, fun _ _ h => by omega⟩ (by omega)
  rintro i s hi ⟨x', rfl, hx', hs, ho, hq⟩
  unfold ppo_view_leads2_L3
  refine T.ite (fun cd => ?_) (fun cd => ?_)
  · have hk : m + 1 + i ≤ b := by
      have : ((m + 1 + i : Nat) : Int) ≤ (b : Int) := by simpa using cd
      omega
    dsimp only
    refine T.eqb (sHas_ n x' m hx' (by omega)) ?_
    refine T.ite (fun hm1 => ?_) (fun hm1 => ?_)
    · refine T.eqb (sHas_ n x' (m + 1 + i) hx' (by omega)) ?_
      have next : (x.testBit m = true → 0 < rv n v m b → b = m + 1 + i → x'.testBit b = true) →
          T (some (.inl ([(x' : Int)], addW .i64 ((m + 1 + i : Nat) : Int) 1, (m : Int))) : Option ((List Int × Int × Int) ⊕ (List Int × Int))) (Rd (fun s' => i < b - m ∧ ∃ x' : Nat, s' = ([(x' : Int)], ((m + 1 + (i + 1) : Nat) : Int), (m : Int)) ∧ x' < 2 ^ 60 ∧ (∀ k, x.testBit k = true → x'.testBit k = true) ∧
            (x' = x ∨ mz 60 x' < mz 60 x) ∧ (x.testBit m = true → 0 < rv n v m b → b < m + 1 + (i + 1) → x'.testBit b = true))
            (fun r => ∃ x' : Nat, r = ([(x' : Int)], (m : Int)) ∧ x' < 2 ^ 60 ∧ (∀ k, x.testBit k = true → x'.testBit k = true) ∧ (x' = x ∨ mz 60 x' < mz 60 x) ∧ (x.testBit m = true → 0 < rv n v m b → x'.testBit b = true))) := by
        intro hk2
        refine T.ret ⟨by omega, x', by rw [addN1 _ (by omega)]; rfl, hx', hs, ho, fun h1 h2 h3 => ?_⟩
        by_cases e : b = m + 1 + i
        · exact hk2 h1 h2 e
        · exact hq h1 h2 (by omega)
      refine T.ite (fun hk1 => ?_) (fun hk1 => ?_)
      · refine T.eqb (R.val m (m + 1 + i) (by omega) (by omega)) ?_
        refine T.ite (fun hr => ?_) (fun hr => ?_)
        · refine T.eqb (sPut_ n x' (m + 1 + i) hx' (by omega)) ?_
          have hlt : mz 60 (x' ||| 2 ^ (m + 1 + i)) < mz 60 x' := mz_lt (fun k h => put_has _ _ _ h) (by simpa using hk1) (put_self x' (m + 1 + i)) 60 (by omega)
          refine T.ret ⟨by omega, x' ||| 2 ^ (m + 1 + i), by rw [addN1 _ (by omega)]; rfl, put_lt _ _ hx' (by omega), fun k h => put_has _ _ _ (hs k h), .inr ?_, fun h1 h2 h3 => ?_⟩
          · rcases ho with e | ho
            · subst e; exact hlt
            · omega
          · by_cases e : b = m + 1 + i
            · subst e; exact put_self _ _
            · exact put_has _ _ _ (hq h1 h2 (by omega))
        · have hr := of_decide_eq_false hr
          exact next (fun _ h2 e => by subst e; exact absurd h2 hr)
      · exact next (fun _ _ e => by subst e; exact not_of hk1)
    · refine T.fin ⟨x', rfl, hx', hs, ho, fun h1 _ => ?_⟩
      rw [hs m h1] at hm1
      simp at hm1
  · have hk : ¬ m + 1 + i ≤ b := by
      have : ¬ ((m + 1 + i : Nat) : Int) ≤ (b : Int) := by simpa using cd
      omega
    exact T.fin ⟨x', rfl, hx', hs, ho, fun h1 h2 => hq h1 h2 (by omega)⟩
theorem leads2_ (a b x : Nat) (w : Int) (hab : a < b) (hb : b < c.Harts.flatten.length) (hx : x < 2 ^ 60) :
    T (iter (fun s => ppo_view_leads2_L2 n v (a : Int) (b : Int) w s) n ([(x : Int)], (a : Int)))
      (fun r => ∃ x' : Nat, r = [(x' : Int)] ∧ x' < 2 ^ 60 ∧ (∀ k, x.testBit k = true → x'.testBit k = true) ∧ (x' = x ∨ mz 60 x' < mz 60 x) ∧ (x.testBit a = true → 0 < rv n v a b → x'.testBit b = true)) := by
  refine T.loop (b - a) (fun i s => ∃ x' : Nat, s = ([(x' : Int)], ((a + i : Nat) : Int)) ∧ x' < 2 ^ 60 ∧ (∀ k, x.testBit k = true → x'.testBit k = true) ∧
    (x' = x ∨ mz 60 x' < mz 60 x) ∧ (x.testBit a = true → 0 < rv n v a b → 0 < i → x'.testBit b = true)) _ ?_ ⟨x, rfl, hx, fun _ h => h, .inl rfl, fun _ _ h => by omega⟩ (by omega)
  rintro i s hi ⟨x', rfl, hx', hs, ho, hq⟩
  unfold ppo_view_leads2_L2
  refine T.ite (fun cd => ?_) (fun cd => ?_)
  · have hk : a + i < b := lt_of cd
    dsimp only
    rw [addN1 _ (by omega)]
    refine T.bind (leads3_ R hN hn a b (a + i) x' w hk hb hx') ?_
    rintro r ⟨x'', rfl, h1, h2, h3, h4⟩
    refine T.ret ⟨by omega, x'', by dsimp only; rw [addN1 _ (by omega)]; rfl, h1, fun k h => h2 k (hs k h), ?_, fun g1 g2 _ => ?_⟩
    · rcases ho with e | ho
      · subst e; exact h3
      · rcases h3 with e | h3
        · subst e; exact .inr ho
        · exact .inr (by omega)
    · by_cases e : i = 0
      · subst e
        exact h4 (hs a g1) g2
      · exact h2 b (hq g1 g2 (by omega))
  · have hk : b ≤ a + i := ge_of cd
    exact T.fin ⟨x', rfl, hx', hs, ho, fun g1 g2 => hq g1 g2 (by omega)⟩
theorem leads1_ (a b : Nat) (hab : a < b) (hb : b < c.Harts.flatten.length) (hp : 0 < rv n v a b) :
    T (iter (fun s => ppo_view_leads2_L1 n v (a : Int) (b : Int) s) n ([((0 ||| 2 ^ a : Nat) : Int)], 0))
      (fun r => ∃ x' : Nat, r = [(x' : Int)] ∧ x' < 2 ^ 60 ∧ x'.testBit b = true) := by
  refine T.loop 62 (fun i s => ∃ (x' : Nat) (w : Int), s = ([(x' : Int)], w) ∧ x' < 2 ^ 60 ∧ ((i = 0 ∧ x' = 0 ||| 2 ^ a ∧ w = 0) ∨ (1 ≤ i ∧ x'.testBit b = true ∧ (w = oc x' ∨ i + mz 60 x' ≤ 61)))) _ ?_
    ⟨_, _, rfl, put_lt 0 a (by omega) (by omega), .inl ⟨rfl, rfl, rfl⟩⟩ (by omega)
  rintro i s hi ⟨x', w, rfl, hx', hq⟩
  unfold ppo_view_leads2_L1
  refine T.eqb (sCount_ n x' hn) ?_
  have hmz := mz_le x' 60
  refine T.ite (fun cd => ?_) (fun cd => ?_)
  · have hne : w ≠ oc x' := by simpa using cd
    refine T.eqb (sCount_ n x' hn) ?_
    refine T.bind (leads2_ R hN hn a b x' _ hab hb hx') ?_
    rintro r ⟨x'', rfl, g1, g2, g3, g4⟩
    refine T.ret ⟨?_, x'', oc x', rfl, g1, .inr ⟨by omega, ?_, ?_⟩⟩
    · rcases hq with ⟨h, _⟩ | ⟨_, _, h | h⟩
      · omega
      · exact absurd h hne
      · omega
    · rcases hq with ⟨_, h, _⟩ | ⟨_, h, _⟩
      · exact g4 (by rw [h]; exact put_self 0 a) hp
      · exact g2 b h
    · rcases g3 with e | g3
      · subst e; exact .inl rfl
      · refine .inr ?_
        rcases hq with ⟨h, _⟩ | ⟨_, _, h | h⟩
        · omega
        · exact absurd h hne
        · omega
  · have he : w = oc x' := by simpa using cd
    rcases hq with ⟨_, h1, h2⟩ | ⟨_, h1, _⟩
    · exfalso
      have := oc_one a (by omega)
      rw [← h1, ← he] at this
      exact this h2
    · exact T.fin ⟨x', rfl, hx', h1⟩
theorem leadsF_ (hv : View c v) (a b : Nat) (ha : a < c.Harts.flatten.length) (hb : b < c.Harts.flatten.length) (hp : 0 < rv n v a b) :
    ppo_view_leads2 n v (a : Int) (b : Int) = some true := by
  have h := rv_pos R ha hb hp
  have hab := (aheadB_lt h).1
  have key : T (ppo_view_leads2 n v (a : Int) (b : Int)) (fun r => r = true) := by
    unfold ppo_view_leads2
    refine T.eqb (aheads_ n c v hv a b ha hb) ?_
    rw [h]
    refine T.ite (fun d => by simp at d) (fun _ => ?_)
    rw [hv.alls, quo60 _ (by omega)]
    refine T.grd (by decide +kernel) ?_
    refine T.eqb (sPut_ n 0 a (by omega) (by omega)) ?_
    refine T.bind (leads1_ R hN hn a b hab hb hp) ?_
    rintro r ⟨x, rfl, hx, hs⟩
    refine T.eqb (sHas_ n x b hx (by omega)) ?_
    exact T.ret hs
  obtain ⟨r, h1, h2⟩ := key
  rw [h1, h2]
end
end Go.Proofs.Ytigcbjbaibcgfaa
