/- What the laws on pieces come to, in plain words: no program in sight. -/
import Derived.Test.YtnjpjmeoednfcaaM1
namespace Go.Proofs.Ytnjpjmeoednfcaa
open Go A

/-- How many doubles the pieces have for which p holds. -/
def tot (p : Piece → Bool) : List Piece → Int
  | [] => 0
  | x :: l => (if p x = true then x.Size else 0) + tot p l
theorem tot_append (p : Piece → Bool) : ∀ l m : List Piece, tot p (l ++ m) = tot p l + tot p m
  | [], m => by simp [tot]
  | x :: l, m => by
    rw [List.cons_append]
    simp only [tot]
    rw [tot_append p l m]
    omega
theorem tot_snoc (p : Piece → Bool) (l : List Piece) (k : Nat) (x : Piece) (h : l[k]? = some x) : tot p (l.take (k + 1)) = tot p (l.take k) + (if p x = true then x.Size else 0) := by
  rw [List.take_add_one, h, tot_append]
  simp [tot]
theorem tot_le {p q : Piece → Bool} : ∀ {l : List Piece}, (∀ x ∈ l, 0 ≤ x.Size) → (∀ x ∈ l, p x = true → q x = true) → tot p l ≤ tot q l
  | [], _, _ => Int.le_refl _
  | x :: l, h, k => by
    have h1 := tot_le (p := p) (q := q) (l := l) (fun y hy => h y (List.mem_cons_of_mem _ hy)) (fun y hy => k y (List.mem_cons_of_mem _ hy))
    have h2 := h x List.mem_cons_self
    have h3 := k x List.mem_cons_self
    simp only [tot]
    by_cases hp : p x = true
    · rw [if_pos hp, if_pos (h3 hp)]; omega
    · rw [if_neg hp]; split <;> omega
theorem tot_congr {p q : Piece → Bool} : ∀ {l : List Piece}, (∀ x ∈ l, p x = q x) → tot p l = tot q l
  | [], _ => rfl
  | x :: l, k => by
    simp only [tot]
    rw [tot_congr (l := l) (fun y hy => k y (List.mem_cons_of_mem _ hy)), k x List.mem_cons_self]
theorem tot_nonneg {p : Piece → Bool} : ∀ {l : List Piece}, (∀ x ∈ l, 0 ≤ x.Size) → 0 ≤ tot p l
  | [], _ => Int.le_refl _
  | x :: l, h => by
    have h1 := tot_nonneg (p := p) (l := l) (fun y hy => h y (List.mem_cons_of_mem _ hy))
    have h2 := h x List.mem_cons_self
    simp only [tot]
    split <;> omega
theorem tot_take_le {p : Piece → Bool} {l : List Piece} (h : ∀ x ∈ l, 0 ≤ x.Size) (k : Nat) : tot p (l.take k) ≤ tot p l := by
  have := tot_append p (l.take k) (l.drop k)
  rw [List.take_append_drop] at this
  have h2 : 0 ≤ tot p (l.drop k) := tot_nonneg (fun x hx => h x (List.mem_of_mem_drop hx))
  omega

theorem tot_false : ∀ l : List Piece, tot (fun _ => false) l = 0
  | [] => rfl
  | x :: l => by simp [tot, tot_false l]

def may (x : Piece) : Prop := 1 ≤ x.Size ∧ x.Size ≤ 65536 ∧ -1 ≤ x.Hart ∧ x.Hart < 8
/-- What holds of pieces that are checked. -/
def OKL (l : List Piece) : Prop := (∀ x ∈ l, may x) ∧ tot (fun _ => true) l ≤ 65536
theorem OKL.pos {l : List Piece} (h : OKL l) : ∀ x ∈ l, 0 ≤ x.Size := fun x hx => by have := (h.1 x hx).1; omega

theorem may_spec (n : Nat) (x : Piece) : ∃ b, data_piece_may n (data_piece.mk x) = some b ∧ (b = true → may x) := by
  unfold data_piece_may may
  simp only [decide_eq_true_eq]
  split
  · split
    · split
      · split
        · split
          · exact ⟨_, rfl, fun h => ⟨by omega, by omega, by omega, by simpa using h⟩⟩
          · exact ⟨_, rfl, fun h => by cases h⟩
        · exact ⟨_, rfl, fun h => by cases h⟩
      · exact ⟨_, rfl, fun h => by cases h⟩
    · exact ⟨_, rfl, fun h => by cases h⟩
  · exact ⟨_, rfl, fun h => by cases h⟩

theorem light_spec (n : Nat) (l : List Piece) (hn : 43 < n) : ∃ b, law_light n l = some b ∧ (b = true → l.length ≤ 40) := by
  obtain ⟨t, h1, h2⟩ := iter_spec (step := fun s => law_light_L1 n l s) (fun s => ∃ k : Nat, s = k ∧ k ≤ 41) (fun s => (41 - s).toNat) (fun _ => True) (by
    rintro s ⟨k, rfl, hk⟩
    unfold law_light_L1
    simp only [decide_eq_true_eq]
    split
    · rename_i hl
      split
      · rename_i h40
        have hkl : k < l.length := by omega
        rw [getI_nat, List.getElem?_eq_getElem hkl]
        simp only [Option.bind_some]
        split
        · exact .inr ⟨_, rfl, trivial⟩
        · refine .inl ⟨_, rfl, ⟨k + 1, ?_, by omega⟩, ?_⟩
          · rw [addI (by omega) (by omega)]; rfl
          · rw [addI (by omega) (by omega)]; omega
      · exact .inr ⟨_, rfl, trivial⟩
    · exact .inr ⟨_, rfl, trivial⟩) n 0 ⟨0, rfl, by omega⟩ (by simp; omega)
  unfold law_light
  rw [h1]
  cases t with
  | inl w => exact ⟨_, rfl, fun h => by have := of_decide_eq_true h; omega⟩
  | inr w => exact ⟨_, rfl, fun h => by cases h⟩

theorem check_spec (n : Nat) (l : List Piece) (hn : l.length < n) (hl : l.length ≤ 1000) : ∃ e, data_Check n l = some e ∧ (e = 0 → OKL l) := by
  obtain ⟨t, h1, h2⟩ := iter_spec (step := fun s => data_Check_L1 n l s)
    (fun s => ∃ k : Nat, s.2.1 = k ∧ k ≤ l.length ∧ s.2.2 = tot (fun _ => true) (l.take k) ∧ (∀ x ∈ l.take k, may x) ∧ 0 ≤ s.2.2 ∧ s.2.2 ≤ 65536) (fun s => ((l.length : Int) - s.2.1).toNat)
    (fun t => match t with | .inl _ => OKL l | .inr e => e ≠ 0) (by
    rintro ⟨m, i, s⟩ ⟨k, hi, hk, hs, hm, h0, h6⟩
    dsimp only at hi hs h0 h6
    subst hi
    unfold data_Check_L1
    simp only [decide_eq_true_eq]
    split
    · rename_i hlt
      have hkl : k < l.length := by omega
      have hx : l[k]? = some l[k] := List.getElem?_eq_getElem hkl
      rw [getI_nat, hx]
      simp only [Option.bind_some]
      obtain ⟨b, hb, hmay⟩ := may_spec n l[k]
      rw [hb]
      simp only [Option.bind_some]
      cases b with
      | false => exact .inr ⟨_, rfl, by simp⟩
      | true =>
        have hm1 := hmay rfl
        have hm2 := hm1
        unfold may at hm2
        simp only [Bool.not_true, Bool.false_eq_true, if_false]
        split
        · exact .inr ⟨_, rfl, by simp⟩
        · split
          · exact .inr ⟨_, rfl, by simp⟩
          · rw [addI (a := s) (by omega) (by omega)]
            split
            · exact .inr ⟨_, rfl, by simp⟩
            · refine .inl ⟨_, rfl, ⟨k + 1, ?_, by omega, ?_, ?_, by dsimp only; omega, by dsimp only; omega⟩, ?_⟩
              · dsimp only; rw [addI (by omega) (by omega)]; rfl
              · dsimp only; rw [tot_snoc _ _ _ _ hx, if_pos rfl, hs]
              · intro x hxm
                rw [List.take_add_one, hx] at hxm
                rcases List.mem_append.1 hxm with h | h
                · exact hm x h
                · simp at h; subst h; exact hm1
              · dsimp only; rw [addI (by omega) (by omega)]; omega
    · rename_i hlt
      have hkl : k = l.length := by omega
      subst hkl
      rw [List.take_length] at hm hs
      exact .inr ⟨_, rfl, hm, by omega⟩) n ([], 0, 0) ⟨0, rfl, by omega, rfl, by simp, by simp, by simp⟩ (by simp; omega)
  unfold data_Check
  rw [h1]
  cases t with
  | inl w => exact ⟨_, rfl, fun _ => h2⟩
  | inr w => exact ⟨_, rfl, fun h => absurd h h2⟩

theorem bytes_spec (n : Nat) {x : Piece} (h : may x) : data_piece_bytes n (data_piece.mk x) = some (8 * x.Size) := by
  unfold may at h
  unfold data_piece_bytes
  rw [wrapU (by dsimp only; omega) (by dsimp only; omega), mulU (by dsimp only; omega) (by dsimp only; omega)]

theorem part_spec (n : Nat) (l : List Piece) (h : Int) (hn : l.length < n) (hl : l.length ≤ 1000) (hc : data_Check n l = some 0) (hok : OKL l) (h1 : -1 ≤ h) (h2 : h < 8) :
    data_Part n l h = some (1048576 + 8 * tot (fun x => decide (x.Hart < h)) l, 1048576 + 8 * tot (fun x => decide (x.Hart ≤ h)) l, 0) := by
  have hp := hok.pos
  have hle : ∀ (p : Piece → Bool) (k : Nat), 0 ≤ tot p (l.take k) ∧ tot p (l.take k) ≤ 65536 := fun p k =>
    ⟨tot_nonneg (fun x hx => hp x (List.mem_of_mem_take hx)), by
      have a1 := tot_take_le (p := p) hp k
      have a2 := tot_le (p := p) (q := fun _ => true) hp (fun _ _ _ => rfl)
      have a3 := hok.2
      omega⟩
  obtain ⟨t, g1, g2⟩ := iter_spec (step := fun s => data_Part_L1 n l h s)
    (fun s => ∃ k : Nat, s.1 = k ∧ k ≤ l.length ∧ s.2.1 = 1048576 + 8 * tot (fun x => decide (x.Hart < h)) (l.take k) ∧ s.2.2 = 1048576 + 8 * tot (fun x => decide (x.Hart ≤ h)) (l.take k)) (fun s => ((l.length : Int) - s.1).toNat)
    (fun t => t = (1048576 + 8 * tot (fun x => decide (x.Hart < h)) l, 1048576 + 8 * tot (fun x => decide (x.Hart ≤ h)) l)) (by
    rintro ⟨i, a, b⟩ ⟨k, hi, hk, ha, hb⟩
    dsimp only at hi ha hb
    subst hi
    unfold data_Part_L1
    simp only [decide_eq_true_eq]
    split
    · rename_i hlt
      have hkl : k < l.length := by omega
      have hx : l[k]? = some l[k] := List.getElem?_eq_getElem hkl
      have hmay := hok.1 l[k] (List.getElem_mem hkl)
      have hm2 := hmay
      unfold may at hm2
      have ta := tot_snoc (fun x => decide (x.Hart < h)) l k _ hx
      have tb := tot_snoc (fun x => decide (x.Hart ≤ h)) l k _ hx
      have la := hle (fun x => decide (x.Hart < h)) k
      have lb := hle (fun x => decide (x.Hart ≤ h)) k
      simp only [decide_eq_true_eq] at ta tb
      rw [getI_nat, hx]
      simp only [Option.bind_some, bytes_spec n hmay]
      rw [addI (a := (k : Int)) (by omega) (by omega)]
      refine .inl ?_
      split
      · rename_i h3
        rw [if_pos h3] at ta
        split
        · rename_i h4
          rw [if_pos h4] at tb
          rw [addU (a := a) (by omega) (by omega), addU (a := b) (by omega) (by omega)]
          exact ⟨_, rfl, ⟨k + 1, rfl, by omega, by dsimp only; omega, by dsimp only; omega⟩, by dsimp only; omega⟩
        · omega
      · rename_i h3
        rw [if_neg h3] at ta
        split
        · rename_i h4
          rw [if_pos h4] at tb
          rw [addU (a := b) (by omega) (by omega)]
          exact ⟨_, rfl, ⟨k + 1, rfl, by omega, by dsimp only; omega, by dsimp only; omega⟩, by dsimp only; omega⟩
        · rename_i h4
          rw [if_neg h4] at tb
          exact ⟨_, rfl, ⟨k + 1, rfl, by omega, by dsimp only; omega, by dsimp only; omega⟩, by dsimp only; omega⟩
    · rename_i hlt
      have hkl : k = l.length := by omega
      subst hkl
      rw [List.take_length] at ha hb
      exact .inr ⟨_, rfl, by rw [ha, hb]⟩) n (0, 1048576, 1048576) ⟨0, rfl, by omega, rfl, rfl⟩ (by simp; omega)
  unfold data_Part
  rw [hc]
  simp only [Option.bind_some]
  rw [if_neg (by decide), if_neg (by simp; omega), if_neg (by simp; omega), g1, g2]
  rfl

theorem size_spec (n : Nat) (l : List Piece) (hn : l.length < n) (hl : l.length ≤ 1000) (hc : data_Check n l = some 0) (hok : OKL l) : data_Size n l = some (tot (fun _ => true) l) := by
  have hp := hok.pos
  obtain ⟨t, g1, g2⟩ := iter_spec (step := fun s => data_Size_L1 n l s)
    (fun s => ∃ k : Nat, s.1 = k ∧ k ≤ l.length ∧ s.2 = tot (fun _ => true) (l.take k)) (fun s => ((l.length : Int) - s.1).toNat) (fun t => t = tot (fun _ => true) l) (by
    rintro ⟨i, a⟩ ⟨k, hi, hk, ha⟩
    dsimp only at hi ha
    subst hi
    unfold data_Size_L1
    simp only [decide_eq_true_eq]
    split
    · rename_i hlt
      have hkl : k < l.length := by omega
      have hx : l[k]? = some l[k] := List.getElem?_eq_getElem hkl
      have hmay := hok.1 l[k] (List.getElem_mem hkl)
      unfold may at hmay
      have ta := tot_snoc (fun _ => true) l k _ hx
      rw [if_pos rfl] at ta
      have a1 := tot_take_le (p := fun _ => true) hp k
      have a2 : 0 ≤ tot (fun _ => true) (l.take k) := tot_nonneg (fun x hx => hp x (List.mem_of_mem_take hx))
      have a3 := hok.2
      rw [getI_nat, hx]
      simp only [Option.bind_some]
      rw [addI (a := (k : Int)) (by omega) (by omega), addI (a := a) (by omega) (by omega)]
      exact .inl ⟨_, rfl, ⟨k + 1, rfl, by omega, by dsimp only; omega⟩, by dsimp only; omega⟩
    · rename_i hlt
      have hkl : k = l.length := by omega
      subst hkl
      rw [List.take_length] at ha
      exact .inr ⟨_, rfl, ha⟩) n (0, 0) ⟨0, rfl, by omega, rfl⟩ (by simp; omega)
  unfold data_Size
  rw [hc]
  simp only [Option.bind_some]
  rw [if_neg (by decide), g1, g2]
  rfl

end Go.Proofs.Ytnjpjmeoednfcaa
