/- Sorting that keeps the order of what is equal: plain laws on lists. -/
import Derived.Test.YtnjpjmeoednfcaaM0
namespace Go.Proofs.Ytnjpjmeoednfcaa
namespace Srt
variable {α : Type} {key : α → Int}

/-- The same elements, and those of one key in their order. -/
def Stb (key : α → Int) (l r : List α) : Prop := l.Perm r ∧ ∀ h, r.filter (fun x => decide (key x = h)) = l.filter (fun x => decide (key x = h))
def Inc (key : α → Int) (l : List α) : Prop := l.Pairwise (fun a b => key a ≤ key b)

theorem Stb.refl (l : List α) : Stb key l l := ⟨List.Perm.refl _, fun _ => rfl⟩
theorem Stb.trans {l m r : List α} (h : Stb key l m) (k : Stb key m r) : Stb key l r := ⟨h.1.trans k.1, fun x => (k.2 x).trans (h.2 x)⟩
theorem Stb.app {l m r s : List α} (h : Stb key l m) (k : Stb key r s) : Stb key (l ++ r) (m ++ s) :=
  ⟨h.1.append k.1, fun x => by rw [List.filter_append, List.filter_append, h.2, k.2]⟩
theorem Stb.swap {u v : List α} (h : ∀ x ∈ u, ∀ y ∈ v, key y < key x) : Stb key (u ++ v) (v ++ u) := by
  refine ⟨List.perm_append_comm, fun z => ?_⟩
  rw [List.filter_append, List.filter_append]
  by_cases hu : ∃ x ∈ u, key x = z
  · obtain ⟨x, hx, hz⟩ := hu
    have : v.filter (fun x => decide (key x = z)) = [] := by
      rw [List.filter_eq_nil_iff]
      intro y hy
      have := h x hx y hy
      simp; omega
    rw [this]; simp
  · have : u.filter (fun x => decide (key x = z)) = [] := by
      rw [List.filter_eq_nil_iff]
      intro y hy
      simp
      exact fun e => hu ⟨y, hy, e⟩
    rw [this]; simp
theorem Stb.len {l r : List α} (h : Stb key l r) : r.length = l.length := h.1.length_eq.symm
theorem Stb.mem {l r : List α} (h : Stb key l r) {x : α} : x ∈ r ↔ x ∈ l := h.1.mem_iff.symm

theorem Inc.app {l r : List α} (h : Inc key l) (k : Inc key r) (c : ∀ x ∈ l, ∀ y ∈ r, key x ≤ key y) : Inc key (l ++ r) := List.pairwise_append.2 ⟨h, k, c⟩
theorem Inc.left {l r : List α} (h : Inc key (l ++ r)) : Inc key l := (List.pairwise_append.1 h).1
theorem Inc.right {l r : List α} (h : Inc key (l ++ r)) : Inc key r := (List.pairwise_append.1 h).2.1
theorem Inc.cross {l r : List α} (h : Inc key (l ++ r)) : ∀ x ∈ l, ∀ y ∈ r, key x ≤ key y := (List.pairwise_append.1 h).2.2
theorem Inc.nil : Inc key ([] : List α) := List.Pairwise.nil
theorem Inc.one (x : α) : Inc key [x] := List.pairwise_singleton _ _
theorem Inc.mono {l : List α} (h : Inc key l) {i j : Nat} (hij : i ≤ j) (hj : j < l.length) : key (l[i]'(by omega)) ≤ key l[j] := by
  rcases Nat.lt_or_ge i j with h1 | h1
  · exact List.pairwise_iff_getElem.1 h i j (by omega) hj h1
  · have : i = j := by omega
    subst this
    exact Int.le_refl _

/-! ### An element of a list in parts -/
theorem at_ {l x y : List α} {a : α} (h : l = x ++ a :: y) {i : Nat} (hi : i = x.length) : l[i]? = some a := by
  subst h; subst hi; simp
theorem set_ {x y : List α} {a b : α} {i : Nat} (hi : i = x.length) : (x ++ a :: y).set i b = x ++ b :: y := by
  subst hi; simp
theorem swap_ {x z y : List α} {a b : α} {i j : Nat} (hi : i = x.length) (hj : j = x.length + 1 + z.length) :
    ((x ++ a :: (z ++ b :: y)).set i b).set j a = x ++ b :: (z ++ a :: y) := by
  rw [set_ hi]
  have : x ++ b :: (z ++ b :: y) = (x ++ b :: z) ++ b :: y := by simp
  rw [this, set_ (by simp; omega)]
  simp
theorem swap_' {x z y : List α} {a b : α} {i j : Nat} (hi : i = x.length) (hj : j = x.length + 1 + z.length) :
    ((x ++ a :: (z ++ b :: y)).set j a).set i b = x ++ b :: (z ++ a :: y) := by
  have : x ++ a :: (z ++ b :: y) = (x ++ a :: z) ++ b :: y := by simp
  rw [this, set_ (by simp; omega)]
  have : (x ++ a :: z) ++ a :: y = x ++ a :: (z ++ a :: y) := by simp
  rw [this, set_ hi]

/-! ### Halving -/
theorem bs {σ τ : Type} {step : σ → Option (σ ⊕ τ)} (mk : Nat → Nat → σ) (P : Nat → Prop) (fin : Nat → τ) (lo hi : Nat)
    (h : ∀ i j, lo ≤ i → i < j → j ≤ hi → ∃ c, i ≤ c ∧ c < j ∧ ((P c ∧ step (mk i j) = some (.inl (mk (c + 1) j))) ∨ (¬ P c ∧ step (mk i j) = some (.inl (mk i c)))))
    (h2 : ∀ i, lo ≤ i → i ≤ hi → step (mk i i) = some (.inr (fin i)))
    (anti : ∀ c d, lo ≤ c → c ≤ d → d < hi → P d → P c) :
    ∀ (n i j : Nat), lo ≤ i → i ≤ j → j ≤ hi → j - i < n → ∃ e, i ≤ e ∧ e ≤ j ∧ A.iter step n (mk i j) = some (fin e) ∧ (∀ k, i ≤ k → k < e → P k) ∧ (∀ k, e ≤ k → k < j → ¬ P k)
  | 0, _, _, _, _, _, hn => by omega
  | n + 1, i, j, h0, h1, h3, hn => by
    rw [A.iter_succ]
    rcases Nat.lt_or_ge i j with hlt | hge
    · obtain ⟨c, hc1, hc2, ⟨hp, hs⟩ | ⟨hp, hs⟩⟩ := h i j h0 hlt h3
      · rw [hs]
        obtain ⟨e, e1, e2, e3, e4, e5⟩ := bs mk P fin lo hi h h2 anti n (c + 1) j (by omega) (by omega) h3 (by omega)
        refine ⟨e, by omega, e2, e3, fun k k1 k2 => ?_, e5⟩
        rcases Nat.lt_or_ge k (c + 1) with hk | hk
        · exact anti k c (by omega) (by omega) (by omega) hp
        · exact e4 k hk k2
      · rw [hs]
        obtain ⟨e, e1, e2, e3, e4, e5⟩ := bs mk P fin lo hi h h2 anti n i c h0 hc1 (by omega) (by omega)
        refine ⟨e, e1, by omega, e3, e4, fun k k1 k2 hk => ?_⟩
        rcases Nat.lt_or_ge k c with h' | h'
        · exact e5 k k1 h' hk
        · exact hp (anti c k (by omega) h' (by omega) hk)
    · have : i = j := by omega
      subst this
      rw [h2 i h0 h3]
      exact ⟨i, Nat.le_refl _, Nat.le_refl _, rfl, fun k k1 k2 => by omega, fun k k1 k2 => by omega⟩

/-! ### What is sorted is one key after another -/
def byKey (key : α → Int) (l : List α) : Int → Nat → List α
  | _, 0 => []
  | h, k + 1 => l.filter (fun x => decide (key x = h)) ++ byKey key l (h + 1) k
theorem byKey_congr {l r : List α} (h : Stb key l r) : ∀ (k : Nat) (a : Int), byKey key r a k = byKey key l a k
  | 0, _ => rfl
  | k + 1, a => by unfold byKey; rw [h.2, byKey_congr h k]
theorem split_min {l : List α} (h : Inc key l) {a : Int} (ha : ∀ x ∈ l, a ≤ key x) : l = l.filter (fun x => decide (key x = a)) ++ l.filter (fun x => decide (a + 1 ≤ key x)) := by
  induction l with
  | nil => rfl
  | cons x l ih =>
    have h1 := List.pairwise_cons.1 h
    have ih := ih h1.2 (fun y hy => ha y (List.mem_cons_of_mem _ hy))
    have hx := ha x List.mem_cons_self
    by_cases hxa : key x = a
    · rw [List.filter_cons_of_pos (by simpa using hxa), List.filter_cons_of_neg (by simp; omega), List.cons_append, ← ih]
    · rw [List.filter_cons_of_neg (by simpa using hxa), List.filter_cons_of_pos (by simp; omega)]
      have e1 : l.filter (fun x => decide (key x = a)) = [] := by
        rw [List.filter_eq_nil_iff]
        intro y hy
        have := h1.1 y hy
        simp; omega
      have e2 : l.filter (fun x => decide (a + 1 ≤ key x)) = l := by
        rw [List.filter_eq_self]
        intro y hy
        have := h1.1 y hy
        simp; omega
      rw [e1, e2]; rfl
theorem byKey_inc : ∀ (k : Nat) (l : List α) (a : Int), Inc key l → (∀ x ∈ l, a ≤ key x ∧ key x < a + k) → l = byKey key l a k
  | 0, l, a, _, h => by
    cases l with
    | nil => rfl
    | cons x l => have := h x List.mem_cons_self; omega
  | k + 1, l, a, hl, h => by
    have e := split_min hl (fun x hx => (h x hx).1)
    unfold byKey
    have e2 := byKey_inc k (l.filter (fun x => decide (a + 1 ≤ key x))) (a + 1) (List.Pairwise.filter _ hl) (fun x hx => by
      have hx := List.mem_filter.1 hx
      have := h x hx.1
      have := of_decide_eq_true hx.2
      omega)
    have e3 : byKey key (l.filter (fun x => decide (a + 1 ≤ key x))) (a + 1) k = byKey key l (a + 1) k := by
      have : ∀ (k : Nat) (b : Int), a + 1 ≤ b → byKey key (l.filter (fun x => decide (a + 1 ≤ key x))) b k = byKey key l b k := by
        intro k
        induction k with
        | zero => intro b _; rfl
        | succ k ih =>
          intro b hb
          unfold byKey
          rw [ih (b + 1) (by omega), List.filter_filter]
          congr 1
          refine List.filter_congr fun x _ => ?_
          by_cases hxb : key x = b
          · simp [hxb]; omega
          · simp [hxb]
      exact this k (a + 1) (Int.le_refl _)
    rw [← e3, ← e2]
    exact e

end Srt
end Go.Proofs.Ytnjpjmeoednfcaa
