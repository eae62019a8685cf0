/- Cuts of slices and strings; conversions. -/
import Derived.Test.YtnjpjmeoednfcaaA10
namespace Go.Proofs.Ytnjpjmeoednfcaa
namespace A
open Go
open Go.RowKit (Below)

/-- A bound that is given or not. -/
def OptR (x : Option Int) (y : Option Value) : Prop :=
  match x, y with
  | none, none => True
  | some n, some v => ∃ kd, v = .int kd n
  | _, _ => False

theorem run_bound {P : Program} {w : World} {kd : IntKind} {i : Int} {y : Nat} {code : BoundsCode} (h0 : 0 ≤ i) (h1 : i ≤ y) : (Instr.sliceBound (.int kd i) y code).run P w = .ok i.toNat w := by
  unfold Instr.sliceBound
  simp only [asIntOf, Sem.run_bind, Sem.run_pure, Result.andThen_ok, if_pos (And.intro h0 h1)]

theorem cutK_sound {P : Program} {w : World} {b : Bool} {len cap cap' : Nat} {lo hi mx : Option Int} {lo' hi' mx' : Option Value} {k : Nat → Nat → Nat → Prop} (h : cutK len cap lo hi mx k)
    (h1 : OptR lo lo') (h2 : OptR hi hi') (h3 : OptR mx mx') (hl : len ≤ cap) (hc : cap ≤ cap') :
    ∃ l e m m', k l e m ∧ (Instr.sliceBounds b len cap' lo' hi' mx').run P w = .ok (l, e, m') w ∧ l ≤ e ∧ e ≤ m ∧ m ≤ cap ∧ m ≤ m' ∧ m' ≤ cap' ∧ (lo = none → l = 0) ∧ (hi = none → e = len ∧ m' = cap') ∧ (∀ n, hi = some n → e = n.toNat) ∧ (∀ n, mx = some n → m' = n.toNat) := by
  unfold cutK at h
  split at h
  · cases lo' with
    | some _ => exact h1.elim
    | none => cases hi' with
      | some _ => exact h2.elim
      | none => cases mx' with
        | some _ => exact h3.elim
        | none => exact ⟨0, len, cap, cap', h, by simp [Instr.sliceBounds], by omega, hl, Nat.le_refl _, hc, Nat.le_refl _, fun _ => rfl, fun _ => ⟨rfl, rfl⟩, fun n hn => (by cases hn), fun n hn => (by cases hn)⟩
  · rename_i l
    replace h := Chk_elim h; obtain ⟨hb, h⟩ := h
    simp only [Bool.and_eq_true, decide_eq_true_eq] at hb
    cases lo' with
    | none => exact h1.elim
    | some v => obtain ⟨kd, rfl⟩ := h1
                cases hi' with
                | some _ => exact h2.elim
                | none => cases mx' with
                  | some _ => exact h3.elim
                  | none => exact ⟨l.toNat, len, cap, cap', h, by simp [Instr.sliceBounds, run_bound hb.1 hb.2], by omega, hl, Nat.le_refl _, hc, Nat.le_refl _, fun hn => (by cases hn), fun _ => ⟨rfl, rfl⟩, fun n hn => (by cases hn), fun n hn => (by cases hn)⟩
  · rename_i e
    replace h := Chk_elim h; obtain ⟨hb, h⟩ := h
    simp only [Bool.and_eq_true, decide_eq_true_eq] at hb
    cases lo' with
    | some _ => exact h1.elim
    | none => cases hi' with
      | none => exact h2.elim
      | some v => obtain ⟨kd, rfl⟩ := h2
                  cases mx' with
                  | some _ => exact h3.elim
                  | none =>
                    have hb2 : e ≤ (cap' : Int) := by omega
                    exact ⟨0, e.toNat, cap, cap', h, by simp [Instr.sliceBounds, run_bound hb.1 hb2], by omega, by omega, Nat.le_refl _, hc, Nat.le_refl _, fun _ => rfl, fun hn => (by cases hn), fun n hn => (by cases hn; rfl), fun n hn => (by cases hn)⟩
  · rename_i l e
    replace h := Chk_elim h; obtain ⟨hb, h⟩ := h
    simp only [Bool.and_eq_true, decide_eq_true_eq] at hb
    cases lo' with
    | none => exact h1.elim
    | some v => obtain ⟨kd, rfl⟩ := h1
                cases hi' with
                | none => exact h2.elim
                | some v => obtain ⟨kd2, rfl⟩ := h2
                            cases mx' with
                            | some _ => exact h3.elim
                            | none =>
                              have hb2 : e ≤ (cap' : Int) := by omega
                              have hb0 : 0 ≤ e := by omega
                              have hb3 : l ≤ (e.toNat : Int) := by omega
                              exact ⟨l.toNat, e.toNat, cap, cap', h, by simp [Instr.sliceBounds, run_bound hb0 hb2, run_bound hb.1.1 hb3], by omega, by omega, Nat.le_refl _, hc, Nat.le_refl _, fun hn => (by cases hn), fun hn => (by cases hn), fun n hn => (by cases hn; rfl), fun n hn => (by cases hn)⟩
  · rename_i e m
    replace h := Chk_elim h; obtain ⟨hb, h⟩ := h
    simp only [Bool.and_eq_true, decide_eq_true_eq] at hb
    cases lo' with
    | some _ => exact h1.elim
    | none => cases hi' with
      | none => exact h2.elim
      | some v => obtain ⟨kd, rfl⟩ := h2
                  cases mx' with
                  | none => exact h3.elim
                  | some v => obtain ⟨kd3, rfl⟩ := h3
                              have hm0 : 0 ≤ m := by omega
                              have hm1 : m ≤ (cap' : Int) := by omega
                              have hb2 : e ≤ (m.toNat : Int) := by omega
                              exact ⟨0, e.toNat, m.toNat, m.toNat, h, by simp [Instr.sliceBounds, run_bound hm0 hm1, run_bound hb.1.1 hb2], by omega, by omega, by omega, Nat.le_refl _, by omega, fun _ => rfl, fun hn => (by cases hn), fun n hn => (by cases hn; rfl), fun n hn => (by cases hn; rfl)⟩
  · rename_i l e m
    replace h := Chk_elim h; obtain ⟨hb, h⟩ := h
    simp only [Bool.and_eq_true, decide_eq_true_eq] at hb
    cases lo' with
    | none => exact h1.elim
    | some v => obtain ⟨kd, rfl⟩ := h1
                cases hi' with
                | none => exact h2.elim
                | some v => obtain ⟨kd2, rfl⟩ := h2
                            cases mx' with
                            | none => exact h3.elim
                            | some v => obtain ⟨kd3, rfl⟩ := h3
                                        have hm0 : 0 ≤ m := by omega
                                        have hm1 : m ≤ (cap' : Int) := by omega
                                        have he0 : 0 ≤ e := by omega
                                        have he1 : e ≤ (m.toNat : Int) := by omega
                                        have hl1 : l ≤ (e.toNat : Int) := by omega
                                        exact ⟨l.toNat, e.toNat, m.toNat, m.toNat, h, by simp [Instr.sliceBounds, run_bound hm0 hm1, run_bound he0 he1, run_bound hb.1.1.1 hl1], by omega, by omega, by omega, Nat.le_refl _, by omega, fun hn => (by cases hn), fun hn => (by cases hn), fun n hn => (by cases hn; rfl), fun n hn => (by cases hn; rfl)⟩
  · exact False.elim h

theorem zero_spec {x : Option Int} (h : zero? x = true) : ∃ n, x = some n ∧ n.toNat = 0 := by
  unfold zero? at h
  split at h
  · exact ⟨_, rfl, rfl⟩
  · cases h

/-- Rows of a part. -/
theorem sub_get {sz : Nat} {rows : List (List AV)} (h0 : 0 < sz) (hr : ∀ r ∈ rows, r.length = sz) (off len m : Nat) {c : AV} (hm : ((rows.drop off).take len).flatten[m]? = some c) : rows.flatten[off * sz + m]? = some c := by
  have hr' : ∀ r ∈ (rows.drop off).take len, r.length = sz := fun r hx => hr r (List.mem_of_mem_drop (List.mem_of_mem_take hx))
  have hml : m < ((rows.drop off).take len).length * sz := by rw [← flatten_len hr']; exact (List.getElem?_eq_some_iff.1 hm).1
  have hi : m / sz < ((rows.drop off).take len).length := Nat.div_lt_of_lt_mul (by rw [Nat.mul_comm]; exact hml)
  have hmm : m % sz < sz := Nat.mod_lt _ h0
  have hdm : m / sz * sz + m % sz = m := by rw [Nat.mul_comm]; exact Nat.div_add_mod m sz
  have hrow : ((rows.drop off).take len)[m / sz]? = some (((rows.drop off).take len)[m / sz]) := List.getElem?_eq_getElem hi
  have e1 := flatten_get hr' hrow hmm
  have hrow2 : rows[off + m / sz]? = some (((rows.drop off).take len)[m / sz]) := by
    rw [← hrow, List.getElem?_take, if_pos (by simp only [List.length_take] at hi; omega), List.getElem?_drop]
  have e2 := flatten_get hr hrow2 hmm
  rw [hdm] at e1
  rw [Nat.add_mul, Nat.add_assoc, hdm] at e2
  rw [e2, ← e1]
  exact hm

theorem szOk_spec {size sz : Nat} {rows : List (List AV)} (h : szOk size rows = true) (hr : ∀ r ∈ rows, r.length = sz) (hne : rows ≠ []) : sz = size := by
  cases rows with
  | nil => exact absurd rfl hne
  | cons r rs => rw [← hr r (by simp)]; exact Nat.eq_of_beq_eq_true h

/-- A part of a frozen slice. -/
theorem VR_sub {E : Env} {rows : List (List AV)} {A : Option Addr} {n c : Nat} (hx : VR E (.sl rows) (.slice A n c)) {l e m : Nat} {size : Nat} (hsz : szOk size rows = true) (hle : l ≤ e) (hen : e ≤ n) (hm : e ≤ m) (hmc : m ≤ c) :
    VR E (.sl ((rows.drop l).take (e - l))) (.slice (if m = l then A else A.map (·.add (l * size))) (e - l) (m - l)) := by
  cases hx with
  | sln =>
    have e1 : e = 0 := by omega
    have e2 : m = 0 := by omega
    have e3 : l = 0 := by omega
    subst e1 e2 e3
    exact .sln _
  | sle a cap =>
    have e1 : e - l = 0 := by omega
    rw [e1, List.take_zero]
    split
    · exact .sle _ _ _
    · exact .sle _ _ _
  | sl us h1 h2 h3 h4 h5 h6 h7 =>
    rename_i sz b o
    by_cases hel : e = l
    · rw [hel, Nat.sub_self, List.take_zero]
      split
      · exact .sle _ _ _
      · exact .sle _ _ _
    · have hlen : ((rows.drop l).take (e - l)).length = e - l := by simp; omega
      have hrne : rows ≠ [] := fun hh => by subst hh; simp at hen; omega
      have hs := szOk_spec hsz h2 hrne
      subst hs
      have hr' : ∀ r ∈ (rows.drop l).take (e - l), r.length = sz := fun r hx => h2 r (List.mem_of_mem_drop (List.mem_of_mem_take hx))
      have hfl := flatten_len hr'
      have hfl0 := flatten_len h2
      have hmul : l * sz + (e - l) * sz ≤ rows.length * sz := by rw [← Nat.add_mul]; exact Nat.mul_le_mul_right sz (by omega)
      rw [if_neg (by omega), Option.map_some, add_none]
      have hgoal := VR.sl (E := E) (rows := (rows.drop l).take (e - l)) (sz := sz) (b := b) (o := o + l * sz) (cap := m - l) ((us.drop (l * sz)).take ((e - l) * sz)) h1 hr'
        (by rw [hfl, hlen, List.length_take, List.length_drop, h3, hfl0]; exact Nat.min_eq_left (by omega))
        (fun k c u hc hu => by
          have hk : k < (e - l) * sz := by rw [← hlen, ← hfl]; exact (List.getElem?_eq_some_iff.1 hc).1
          rw [List.getElem?_take, if_pos hk, List.getElem?_drop] at hu
          exact h4 _ c u (sub_get h1 h2 _ _ _ hc) hu) h5
        (fun k u hu => by
          rw [List.getElem?_take] at hu
          split at hu
          · rw [List.getElem?_drop] at hu
            rw [Nat.add_assoc]
            exact h6 _ u hu
          · cases hu) (by rw [hlen]; omega)
      rw [hlen] at hgoal
      exact hgoal

theorem msl_mk {E : Env} {id b o sz n off l ee m m' cap : Nat} (hm : E.mu (.O id) = some (.blk b o sz n)) (h1 : l ≤ ee) (h2 : ee ≤ m) (h3 : off + m ≤ n) (h4 : m ≤ m') (h5 : m' ≤ cap) (h6 : o + (off + cap) * sz ≤ sizeH E.h b) :
    VR E (.msl id (l + off) (ee - l) (m - ee)) (.slice (if m' = l then some ⟨b, o + off * sz, none⟩ else (some (⟨b, o + off * sz, none⟩ : Addr)).map (·.add (l * sz))) (ee - l) (m' - l)) := by
  by_cases hml : m' = l
  · rw [if_pos hml]
    have e1 : ee - l = 0 := by omega
    have e2 : m - ee = 0 := by omega
    have e3 : m' - l = 0 := by omega
    rw [e1, e2, e3]
    exact .msle _ _ hm
  · rw [if_neg hml, Option.map_some, add_none, show o + off * sz + l * sz = o + (l + off) * sz by rw [Nat.add_mul]; omega]
    refine .msl _ _ _ _ hm (by omega) (by omega) (Nat.le_trans (Nat.add_le_add_left (Nat.mul_le_mul_right sz ?_) o) h6)
    omega

section
variable {G : Gh} {p : Nat → Option (List AV)} {E : Env} {M : St} {w : World} {P : Program}

theorem slice_sound (hM : SimM G p E M w) {t : TypeId} {x : AV} {u : Value} {lo hi mx : Option Int} {lo' hi' mx' : Option Value} {k : AV → Prop} (h : sliceK P t x lo hi mx M k) (hx : VR E x u)
    (h1 : OptR lo lo') (h2 : OptR hi hi') (h3 : OptR mx mx') : ∃ r z, k r ∧ VR E r z ∧ (Instr.sliceAt t u lo' hi' mx').run P w = .ok z w := by
  unfold sliceK at h
  split at h
  · rename_i hu
    split at h
    · rename_i s
      obtain ⟨rfl, _⟩ := hx.vI
      obtain ⟨l, e, m, m', hk, hrun, _⟩ := cutK_sound (P := P) (w := w) (b := false) h h1 h2 (mx' := none) trivial (Nat.le_refl _) (Nat.le_refl _)
      have hmx : mx' = none := by cases mx' with | none => rfl | some _ => exact h3.elim
      subst hmx
      refine ⟨_, _, hk, .v _ _ rfl, ?_⟩
      unfold Instr.sliceAt
      simp [run_underlying hu, Instr.slice, hrun]
    · exact False.elim h
  · rename_i e hu
    split at h
    · rename_i inf hinf
      replace h := Chk_elim h; obtain ⟨hb, h⟩ := h
      have run : ∀ {A : Option Addr} {n c l ee m : Nat}, (Instr.sliceBounds true n c lo' hi' mx').run P w = .ok (l, ee, m) w →
          (Instr.sliceAt t (.slice A n c) lo' hi' mx').run P w = .ok (.slice (if m = l then A else A.map (·.add (l * inf.size))) (ee - l) (m - l)) w := by
        intro A n c l ee m hr
        unfold Instr.sliceAt
        simp [run_underlying hu, Instr.slice, hr, run_sizeOf hinf]
      have z0 : ∀ {l ee m : Nat} {A : Option Addr}, ee = 0 → m = 0 → l ≤ ee → VR E .esl (.slice (if m = l then A else A.map (·.add (l * inf.size))) (ee - l) (m - l)) := by
        intro l ee m A e1 e2 e3
        subst e1 e2
        have : l = 0 := by omega
        subst this
        rw [if_pos rfl]
        cases A with
        | none => exact .esln _
        | some a => exact .esl _ a
      have zz : ∀ {l ee m m' c cap : Nat}, (∀ n, hi = some n → ee = n.toNat) → (∀ n, mx = some n → m' = n.toNat) → (zero? hi && zero? mx) = true → ee = 0 ∧ m' = 0 := by
        intro l ee m m' c cap h4 h5 h6
        simp only [Bool.and_eq_true] at h6
        obtain ⟨a, ha, ha0⟩ := zero_spec h6.1
        obtain ⟨b, hb, hb0⟩ := zero_spec h6.2
        exact ⟨(h4 a ha).trans ha0, (h5 b hb).trans hb0⟩
      split at h
      · cases hx
        obtain ⟨l, ee, m, m', hk, hrun, hl1, hl2, hl3, hl4, hl5, _⟩ := cutK_sound (P := P) (w := w) (b := true) h h1 h2 h3 (Nat.le_refl _) (Nat.le_refl _)
        refine ⟨_, _, hk, ?_, run hrun⟩
        have : m' = 0 := by omega
        have : ee = 0 := by omega
        have : l = 0 := by omega
        subst_vars
        exact .nilsl _
      · have hu0 : ∃ A, u = .slice A 0 0 := by cases hx <;> exact ⟨_, rfl⟩
        obtain ⟨A, rfl⟩ := hu0
        obtain ⟨l, ee, m, m', hk, hrun, hl1, hl2, hl3, hl4, hl5, _⟩ := cutK_sound (P := P) (w := w) (b := true) h h1 h2 h3 (Nat.le_refl _) (Nat.le_refl _)
        refine ⟨_, _, hk, ?_, run hrun⟩
        exact z0 (by omega) (by omega) hl1
      · rename_i rows
        replace h := Chk_elim h; obtain ⟨hsz, h⟩ := h
        have hu0 : ∃ A c, u = .slice A rows.length c ∧ rows.length ≤ c := by
          cases hx with
          | sln => exact ⟨_, _, rfl, Nat.le_refl _⟩
          | sle a cap => exact ⟨_, _, rfl, by simp⟩
          | sl us _ _ _ _ _ _ h7 => exact ⟨_, _, rfl, h7⟩
        obtain ⟨A, c, rfl, hc⟩ := hu0
        obtain ⟨l, ee, m, m', hk, hrun, hl1, hl2, hl3, hl4, hl5, hl6, hl7, hl8, hl9⟩ := cutK_sound (P := P) (w := w) (b := true) h h1 h2 h3 (Nat.le_refl _) hc
        have hsub := VR_sub hx hsz hl1 (show ee ≤ rows.length by omega) (show ee ≤ m' by omega) hl5
        split at hk
        · rename_i hz
          obtain ⟨e1, e2⟩ := zz (l := l) (ee := ee) (m := m) (m' := m') (c := c) (cap := c) hl8 hl9 hz
          exact ⟨_, _, hk, z0 e1 e2 hl1, run hrun⟩
        · have e1 := hl6 rfl
          obtain ⟨e2, e3⟩ := hl7 rfl
          subst e1 e2
          rw [List.drop_zero, Nat.sub_zero, List.take_length] at hsub
          exact ⟨_, _, hk, hsub, run hrun⟩
        · obtain ⟨e2, e3⟩ := hl7 rfl
          subst e2
          rw [List.take_of_length_le (by simp)] at hsub
          exact ⟨_, _, hk, hsub, run hrun⟩
        · have e1 := hl6 rfl
          subst e1
          rw [List.drop_zero, Nat.sub_zero] at hsub
          exact ⟨_, _, hk, hsub, run hrun⟩
        · exact ⟨_, _, hk, hsub, run hrun⟩
      · rename_i id
        split at h
        · rename_i fl sz rows ho
          replace h := Chk_elim h; obtain ⟨hsz, h⟩ := h
          have hsz' := Nat.eq_of_beq_eq_true hsz
          subst hsz'
          rcases obj_arr hM ho with ⟨hm, rfl⟩ | ⟨b, o, hm, ha⟩
          · have hu0 : ∃ A, u = .slice A 0 0 := by
              cases hx with
              | mfn _ => exact ⟨_, rfl⟩
              | mfe _ _ => exact ⟨_, rfl⟩
              | mf _ hm' _ _ => rw [hm] at hm'; cases hm'
            obtain ⟨A, rfl⟩ := hu0
            obtain ⟨l, ee, m, m', hk, hrun, hl1, hl2, hl3, hl4, hl5, hl6, hl7, hl8, hl9⟩ := cutK_sound (P := P) (w := w) (b := true) h h1 h2 h3 (Nat.le_refl _) (Nat.le_refl _)
            simp only [List.length_nil] at hl3 hl5
            have e1 : m = 0 := by omega
            have e2 : ee = 0 := by omega
            have e3 : l = 0 := by omega
            have e4 : m' = 0 := by omega
            subst e1 e2 e3 e4
            have hr := run (A := A) hrun
            rw [if_pos rfl] at hr
            split at hk
            · exact ⟨_, _, hk, (by cases A with | none => exact .esln _ | some a => exact .esl _ a), hr⟩
            · exact ⟨_, _, hk, hx, hr⟩
            · exact ⟨_, _, hk, .msle _ _ hm, hr⟩
            · exact ⟨_, _, hk, .msle _ _ hm, hr⟩
          · cases hx with
            | mfn hm' => rw [hm] at hm'; cases hm'
            | mfe _ hm' => rw [hm] at hm'; cases hm'
            | mf cap hm' h4 h5 =>
              rw [hm] at hm'
              cases hm'
              obtain ⟨l, ee, m, m', hk, hrun, hl1, hl2, hl3, hl4, hl5, hl6, hl7, hl8, hl9⟩ := cutK_sound (P := P) (w := w) (b := true) h h1 h2 h3 (Nat.le_refl _) h4
              have hmk := msl_mk (off := 0) hm hl1 hl2 (by omega) hl4 hl5 (by rw [Nat.zero_add]; exact h5)
              rw [Nat.zero_mul, Nat.add_zero] at hmk
              split at hk
              · rename_i hz
                obtain ⟨e1, e2⟩ := zz (l := l) (ee := ee) (m := m) (m' := m') (c := cap) (cap := cap) hl8 hl9 hz
                exact ⟨_, _, hk, z0 e1 e2 hl1, run hrun⟩
              · have e1 := hl6 rfl
                obtain ⟨e2, e3⟩ := hl7 rfl
                subst e1 e2 e3
                refine ⟨_, _, hk, ?_, run hrun⟩
                have e4 : (if m' = 0 then some (⟨b, o, none⟩ : Addr) else (some (⟨b, o, none⟩ : Addr)).map (·.add (0 * inf.size))) = some ⟨b, o, none⟩ := by
                  split
                  · rfl
                  · rw [Nat.zero_mul, Option.map_some, add_none]; rfl
                rw [e4, Nat.sub_zero, Nat.sub_zero]
                exact .mf m' hm h4 h5
              · obtain ⟨e2, e3⟩ := hl7 rfl
                subst e2
                have e4 : m - rows.length = 0 := by omega
                rw [e4] at hmk
                exact ⟨_, _, hk, hmk, run hrun⟩
              · exact ⟨_, _, hk, hmk, run hrun⟩
        · exact False.elim h
      · rename_i id off len ext
        split at h
        · rename_i fl sz rows ho
          replace h := Chk_elim h; obtain ⟨hsz, h⟩ := h
          have hsz' := Nat.eq_of_beq_eq_true hsz
          subst hsz'
          cases hx with
          | msle _ A hm =>
            obtain ⟨l, ee, m, m', hk, hrun, hl1, hl2, hl3, hl4, hl5, hl6, hl7, hl8, hl9⟩ := cutK_sound (P := P) (w := w) (b := true) h h1 h2 h3 (Nat.le_refl _) (Nat.le_refl _)
            have e1 : m = 0 := by omega
            have e2 : ee = 0 := by omega
            have e3 : l = 0 := by omega
            have e4 : m' = 0 := by omega
            subst e1 e2 e3 e4
            have hr := run (A := A) hrun
            rw [if_pos rfl] at hr
            split at hk
            · exact ⟨_, _, hk, (by cases A with | none => exact .esln _ | some a => exact .esl _ a), hr⟩
            · exact ⟨_, _, hk, .msle _ _ hm, hr⟩
          | msl _ _ _ cap hm h4 h5 h6 =>
            rcases obj_arr hM ho with ⟨hm', _⟩ | ⟨b', o', hm', ha⟩
            · rw [hm] at hm'; cases hm'
            · rw [hm] at hm'
              cases hm'
              obtain ⟨l, ee, m, m', hk, hrun, hl1, hl2, hl3, hl4, hl5, hl6, hl7, hl8, hl9⟩ := cutK_sound (P := P) (w := w) (b := true) h h1 h2 h3 (by omega) h5
              have hmk := msl_mk (off := off) hm hl1 hl2 (by omega) hl4 hl5 h6
              split at hk
              · rename_i hz
                obtain ⟨e1, e2⟩ := zz (l := l) (ee := ee) (m := m) (m' := m') (c := cap) (cap := cap) hl8 hl9 hz
                exact ⟨_, _, hk, z0 e1 e2 hl1, run hrun⟩
              · exact ⟨_, _, hk, hmk, run hrun⟩
        · exact False.elim h
      · exact False.elim h
    · exact False.elim h
  · exact False.elim h
end

end A
end Go.Proofs.Ytnjpjmeoednfcaa
