/- A set of small numbers in one word: what it has, how many. Plain numbers, no program in sight. -/
import Derived.Test.YtigcbjbaibcgfaaE9
import Derived.KernelRfl
namespace Go.Proofs.Ytigcbjbaibcgfaa
open Go A

theorem bvN (a : Nat) (h : a < 18446744073709551616) : (BitVec.ofInt 64 (a : Int)).toNat = a := by
  rw [BitVec.ofInt_natCast, BitVec.toNat_ofNat]
  omega
theorem andN (a b : Nat) (ha : a < 18446744073709551616) (hb : b < 18446744073709551616) : andW .u64 (a : Int) (b : Int) = ((a &&& b : Nat) : Int) := by
  unfold andW
  show IntKind.wrap .u64 (((BitVec.ofInt 64 (a : Int) &&& BitVec.ofInt 64 (b : Int)).toNat : Nat) : Int) = _
  rw [BitVec.toNat_and, bvN a ha, bvN b hb]
  have := Nat.and_le_left (n := a) (m := b)
  rw [wrapU (by omega) (by omega)]
theorem andNi (a b : Nat) (ha : a < 9223372036854775808) (hb : b < 9223372036854775808) : andW .i64 (a : Int) (b : Int) = ((a &&& b : Nat) : Int) := by
  unfold andW
  show IntKind.wrap .i64 (((BitVec.ofInt 64 (a : Int) &&& BitVec.ofInt 64 (b : Int)).toNat : Nat) : Int) = _
  rw [BitVec.toNat_and, bvN a (by omega), bvN b (by omega)]
  have := Nat.and_le_left (n := a) (m := b)
  rw [wrapI (by omega) (by omega)]
theorem orN (a b : Nat) (ha : a < 16384) (hb : b < 16384) : orW .u64 (a : Int) (b : Int) = ((a ||| b : Nat) : Int) := by
  unfold orW
  show IntKind.wrap .u64 (((BitVec.ofInt 64 (a : Int) ||| BitVec.ofInt 64 (b : Int)).toNat : Nat) : Int) = _
  rw [BitVec.toNat_or, bvN a (by omega), bvN b (by omega)]
  have : a ||| b < 2 ^ 14 := Nat.or_lt_two_pow (by omega) (by omega)
  rw [wrapU (by omega) (by omega)]
theorem shrN (a b : Nat) (hb : b ≤ 64) : shrW .u64 (a : Int) (b : Int) = ((a / 2 ^ b : Nat) : Int) := by
  unfold shrW
  rw [show min ((b : Int)).toNat IntKind.u64.bits = b by rw [Int.toNat_natCast]; exact Nat.min_eq_left hb]
  rw [Int.fdiv_eq_ediv_of_nonneg _ (by exact_mod_cast Nat.zero_le (2 ^ b))]
  norm_cast
theorem shlN (b : Nat) (hb : b < 14) : shlW .u64 1 (b : Int) = ((2 ^ b : Nat) : Int) := by
  have : ∀ b : Nat, b < 14 → shlW .u64 1 (b : Int) = ((2 ^ b : Nat) : Int) := by decide +kernel
  exact this b hb
theorem quo14 : ∀ k : Nat, k < 15 → quoW .i64 (k : Int) 64 = 0 := by decide +kernel
theorem rem14 : ∀ k : Nat, k < 15 → remW .i64 (k : Int) 64 = (k : Int) := by decide +kernel

def e1 (x : Int) : Int := addW .u64 (andW .u64 (shrW .u64 x 1) 6148914691236517205) (andW .u64 x 6148914691236517205)
def e2 (x : Int) : Int := addW .u64 (andW .u64 (shrW .u64 x 2) 3689348814741910323) (andW .u64 x 3689348814741910323)
def e3 (x : Int) : Int := andW .u64 (addW .u64 (shrW .u64 x 4) x) 1085102592571150095
def e4 (x : Int) : Int := addW .u64 x (shrW .u64 x 8)
def e5 (x : Int) : Int := addW .u64 x (shrW .u64 x 16)
def e6 (x : Int) : Int := addW .u64 x (shrW .u64 x 32)
theorem ones_ (n : Nat) (x : Int) : math_bits_OnesCount64 n x = some (andW .i64 (IntKind.wrap .i64 (e6 (e5 (e4 (e3 (e2 (e1 x))))))) 127) := by kernel_rfl
def o1 (x : Nat) : Nat := (x / 2 &&& 6148914691236517205) + (x &&& 6148914691236517205)
def o2 (x : Nat) : Nat := (x / 4 &&& 3689348814741910323) + (x &&& 3689348814741910323)
def o3 (x : Nat) : Nat := (x / 16 + x) &&& 1085102592571150095
def o4 (x : Nat) : Nat := x + x / 256
def o5 (x : Nat) : Nat := x + x / 65536
def o6 (x : Nat) : Nat := x + x / 4294967296
def oc (x : Nat) : Nat := o6 (o5 (o4 (o3 (o2 (o1 x))))) &&& 127
theorem e1_ (x : Nat) (h : x < 16384) : e1 (x : Int) = ((o1 x : Nat) : Int) ∧ o1 x ≤ 12297829382473034410 := by
  have h1 := Nat.and_le_right (n := x / 2) (m := 6148914691236517205)
  have h3 := Nat.and_le_right (n := x / 2 ^ 1) (m := 6148914691236517205)
  have h2 := Nat.and_le_right (n := x) (m := 6148914691236517205)
  refine ⟨?_, by unfold o1; omega⟩
  unfold e1
  have a := shrN x 1 (by omega)
  have b := andN (x / 2 ^ 1) 6148914691236517205 (by omega) (by omega)
  have c := andN x 6148914691236517205 (by omega) (by omega)
  rw [show ((1 : Nat) : Int) = 1 from rfl] at a
  rw [show ((6148914691236517205 : Nat) : Int) = 6148914691236517205 from rfl] at b c
  rw [a, b, c, addU (by omega) (by omega)]
  rfl
theorem e2_ (x : Nat) (h : x ≤ 12297829382473034410) : e2 (x : Int) = ((o2 x : Nat) : Int) ∧ o2 x ≤ 7378697629483820646 := by
  have h1 := Nat.and_le_right (n := x / 4) (m := 3689348814741910323)
  have h3 := Nat.and_le_right (n := x / 2 ^ 2) (m := 3689348814741910323)
  have h2 := Nat.and_le_right (n := x) (m := 3689348814741910323)
  refine ⟨?_, by unfold o2; omega⟩
  unfold e2
  have a := shrN x 2 (by omega)
  have b := andN (x / 2 ^ 2) 3689348814741910323 (by omega) (by omega)
  have c := andN x 3689348814741910323 (by omega) (by omega)
  rw [show ((2 : Nat) : Int) = 2 from rfl] at a
  rw [show ((3689348814741910323 : Nat) : Int) = 3689348814741910323 from rfl] at b c
  rw [a, b, c, addU (by omega) (by omega)]
  rfl
theorem e3_ (x : Nat) (h : x ≤ 7378697629483820646) : e3 (x : Int) = ((o3 x : Nat) : Int) ∧ o3 x ≤ 1085102592571150095 := by
  refine ⟨?_, Nat.and_le_right⟩
  unfold e3
  have a := shrN x 4 (by omega)
  have b := andN (x / 2 ^ 4 + x) 1085102592571150095 (by omega) (by omega)
  rw [show ((4 : Nat) : Int) = 4 from rfl] at a
  rw [show ((1085102592571150095 : Nat) : Int) = 1085102592571150095 from rfl] at b
  rw [a, addU (by omega) (by omega)]
  exact b
theorem e4_ (x : Nat) (h : x ≤ 1085102592571150095) : e4 (x : Int) = ((o4 x : Nat) : Int) ∧ o4 x ≤ 2170205185142300190 := by
  refine ⟨?_, by unfold o4; omega⟩
  unfold e4
  have a := shrN x 8 (by omega)
  rw [show ((8 : Nat) : Int) = 8 from rfl] at a
  rw [a, addU (by omega) (by omega)]
  rfl
theorem e5_ (x : Nat) (h : x ≤ 2170205185142300190) : e5 (x : Int) = ((o5 x : Nat) : Int) ∧ o5 x ≤ 4340410370284600380 := by
  refine ⟨?_, by unfold o5; omega⟩
  unfold e5
  have a := shrN x 16 (by omega)
  rw [show ((16 : Nat) : Int) = 16 from rfl] at a
  rw [a, addU (by omega) (by omega)]
  rfl
theorem e6_ (x : Nat) (h : x ≤ 4340410370284600380) : e6 (x : Int) = ((o6 x : Nat) : Int) ∧ o6 x ≤ 8680820740569200760 := by
  refine ⟨?_, by unfold o6; omega⟩
  unfold e6
  have a := shrN x 32 (by omega)
  rw [show ((32 : Nat) : Int) = 32 from rfl] at a
  rw [a, addU (by omega) (by omega)]
  rfl
theorem count_ (n : Nat) (x : Nat) (h : x < 16384) : math_bits_OnesCount64 n (x : Int) = some ((oc x : Nat) : Int) := by
  obtain ⟨a1, b1⟩ := e1_ x h
  obtain ⟨a2, b2⟩ := e2_ _ b1
  obtain ⟨a3, b3⟩ := e3_ _ b2
  obtain ⟨a4, b4⟩ := e4_ _ b3
  obtain ⟨a5, b5⟩ := e5_ _ b4
  obtain ⟨a6, b6⟩ := e6_ _ b5
  rw [ones_, a1, a2, a3, a4, a5, a6, wrapI (by omega) (by omega)]
  have := andNi (o6 (o5 (o4 (o3 (o2 (o1 x)))))) 127 (by omega) (by omega)
  rw [show ((127 : Nat) : Int) = 127 from rfl] at this
  rw [this]
  rfl

/-- All words of so many more bits. -/
def every (p : Nat → Bool) : Nat → Nat → Bool
  | 0, x => p x
  | k + 1, x => every p k (2 * x) && every p k (2 * x + 1)
theorem every_ (p : Nat → Bool) : ∀ (k x y : Nat), every p k x = true → y < 2 ^ k → p (x * 2 ^ k + y) = true
  | 0, x, y, h, hy => by
    have : y = 0 := by simpa using hy
    subst this
    simpa [every] using h
  | k + 1, x, y, h, hy => by
    unfold every at h
    simp only [Bool.and_eq_true] at h
    by_cases c : y < 2 ^ k
    · have := every_ p k (2 * x) y h.1 c
      rw [show x * 2 ^ (k + 1) + y = 2 * x * 2 ^ k + y by rw [Nat.pow_succ]; ac_rfl]
      exact this
    · have := every_ p k (2 * x + 1) (y - 2 ^ k) h.2 (by rw [Nat.pow_succ] at hy; omega)
      rw [show x * 2 ^ (k + 1) + y = (2 * x + 1) * 2 ^ k + (y - 2 ^ k) by
        rw [Nat.pow_succ, Nat.add_mul, Nat.one_mul]
        have : x * (2 ^ k * 2) = 2 * x * 2 ^ k := by ac_rfl
        omega]
      exact this
def okW (x : Nat) : Bool := Nat.ble (oc x) 14 && ([0, 1, 2, 3, 4, 5, 6, 7, 8, 9, 10, 11, 12, 13].all fun j => x.testBit j || Nat.beq (oc (x ||| 2 ^ j)) (oc x + 1))
theorem all14 : every okW 14 0 = true := by kernel_rfl
theorem ok14 (x : Nat) (h : x < 16384) : okW x = true := by
  have := every_ okW 14 0 x all14 h
  rwa [Nat.zero_mul, Nat.zero_add] at this
theorem oc_le (x : Nat) (h : x < 16384) : oc x ≤ 14 := by
  have := ok14 x h
  unfold okW at this
  simp only [Bool.and_eq_true] at this
  exact Nat.le_of_ble_eq_true this.1
theorem oc_put (x j : Nat) (h : x < 16384) (hj : j < 14) (hb : x.testBit j = false) : oc (x ||| 2 ^ j) = oc x + 1 := by
  have := ok14 x h
  unfold okW at this
  simp only [Bool.and_eq_true, List.all_eq_true] at this
  have h2 := this.2 j (by simp; omega)
  rw [hb] at h2
  exact Nat.eq_of_beq_eq_true (by simpa using h2)
theorem put_lt (x j : Nat) (h : x < 16384) (hj : j < 14) : x ||| 2 ^ j < 16384 := Nat.or_lt_two_pow (n := 14) h (Nat.pow_lt_pow_right (by omega) hj)

theorem sHas_ (n : Nat) (x j : Nat) (h : x < 16384) (hj : j < 14) : ppo_set_has n [(x : Int)] (j : Int) = some (x.testBit j) := by
  unfold ppo_set_has
  rw [quo14 j (by omega), rem14 j (by omega)]
  show (grd (decide (0 ≤ (j : Int))) (some (andW .u64 (shrW .u64 (x : Int) (j : Int)) 1 == 1))) = _
  rw [grd_pos (by simp), shrN x j (by omega)]
  have hl : x / 2 ^ j ≤ x := Nat.div_le_self _ _
  have := andN (x / 2 ^ j) 1 (by omega) (by omega)
  rw [show ((1 : Nat) : Int) = 1 from rfl] at this
  rw [this, Nat.and_one_is_mod, Nat.testBit_eq_decide_div_mod_eq]
  congr 1
  by_cases c : x / 2 ^ j % 2 = 1
  · rw [c]; rfl
  · have h0 : x / 2 ^ j % 2 = 0 := by omega
    rw [decide_eq_false c, h0]
    rfl
theorem sPut_ (n : Nat) (x j : Nat) (h : x < 16384) (hj : j < 14) : ppo_set_put_S n (j : Int) [(x : Int)] = some [((x ||| 2 ^ j : Nat) : Int)] := by
  unfold ppo_set_put_S
  rw [quo14 j (by omega), rem14 j (by omega), shlN j hj]
  show (grd (decide (0 ≤ (j : Int))) (some [orW .u64 (x : Int) ((2 ^ j : Nat) : Int)])) = _
  rw [grd_pos (by simp), orN x (2 ^ j) h (Nat.pow_lt_pow_right (by omega) hj)]
theorem sCount_ (n : Nat) (x : Nat) (h : x < 16384) (hn : 200 ≤ n) : ppo_set_count n [(x : Int)] = some ((oc x : Nat) : Int) := by
  have hle := oc_le x h
  have : T (ppo_set_count n [(x : Int)]) (fun r => r = ((oc x : Nat) : Int)) := by
    unfold ppo_set_count
    refine T.bind (P := fun r => r = ((oc x : Nat) : Int)) ?_ (fun r hr => T.ret hr)
    refine T.loop 1 (fun i s => s = (if i = 0 then 0 else ((oc x : Nat) : Int), (i : Int))) _ ?_ rfl (by omega)
    rintro i s hi rfl
    unfold ppo_set_count_L1
    refine T.ite (fun cd => ?_) (fun cd => ?_)
    · have hi1 : i < 1 := lt_of (m := 1) cd
      have hi0 : i = 0 := by omega
      subst hi0
      refine T.get 0 rfl (by simp) ?_
      refine T.eqb (count_ n x h) ?_
      refine T.ret ⟨by omega, ?_⟩
      simp only [if_true]
      rw [addI (by omega) (by omega), Int.zero_add]
      rfl
    · have : 1 ≤ i := ge_of (m := 1) cd
      refine T.fin ?_
      dsimp only
      rw [if_neg (by omega)]
  obtain ⟨r, h1, h2⟩ := this
  rw [h1, h2]
end Go.Proofs.Ytigcbjbaibcgfaa
