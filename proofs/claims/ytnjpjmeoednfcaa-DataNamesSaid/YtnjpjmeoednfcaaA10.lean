/- Operations that see memory: what the evaluator says they yield, the model's operation yields. -/
import Derived.Test.YtnjpjmeoednfcaaA9
namespace Go.Proofs.Ytnjpjmeoednfcaa
namespace A
open Go
open Go.RowKit (Below)

section
variable {G : Gh} {p : Nat → Option (List AV)} {E : Env} {M : St} {w : World} {P : Program}

theorem obj_arr (hM : SimM G p E M w) {id : Nat} {fl : Bool} {sz : Nat} {rows : List (List AV)} (ho : M.o[id]? = some (.arr fl sz rows)) :
    (E.mu (.O id) = some .virt ∧ rows = []) ∨ ∃ b o, E.mu (.O id) = some (.blk b o sz rows.length) ∧ ArrR (envOf E fl) E.h rows b o sz := by
  have := hM.obj id
  rw [ho] at this
  revert this
  cases hm : E.mu (.O id) with
  | none => exact fun h => h.elim
  | some mv =>
    cases mv with
    | virt => exact fun h => .inl ⟨rfl, h⟩
    | blk b o s n =>
      rintro ⟨⟨rfl, rfl⟩, h⟩
      exact .inr ⟨b, o, rfl, h⟩

theorem len_sound (hM : SimM G p E M w) {t : TypeId} {x : AV} {u : Value} {k : AV → Prop} (h : lenK P t M x k) (hx : VR E x u) {ts : Array TypeId} (ht : ts[0]? = some t) (ty : TypeId) :
    ∃ r z, k r ∧ VR E r z ∧ (Builtin.len_ ts ty #[u]).run P w = .ok z w := by
  have slc : ∀ {e : TypeId} {A : Option Addr} {n c : Nat}, P.underlying t = some (.slice e) → (Builtin.len_ ts ty #[.slice A n c]).run P w = .ok (.int .i64 n) w := by
    intro e A n c hu
    simp [Builtin.len_, ht, run_underlying hu, goInt]
  unfold lenK at h
  split at h
  · rename_i e hu
    split at h
    · cases hx; exact ⟨_, _, h, .v _ _ rfl, slc hu⟩
    · cases hx <;> exact ⟨_, _, h, .v _ _ rfl, slc hu⟩
    · cases hx <;> exact ⟨_, _, h, .v _ _ rfl, slc hu⟩
    · rename_i id
      split at h
      · rename_i fl sz rows ho
        rcases obj_arr hM ho with ⟨h1, h2⟩ | ⟨b, o, h1, h2⟩
        · subst h2
          cases hx with
          | mfn hm => exact ⟨_, _, h, .v _ _ rfl, slc hu⟩
          | mfe a hm => exact ⟨_, _, h, .v _ _ rfl, slc hu⟩
          | mf cap hm _ _ => rw [h1] at hm; cases hm
        · cases hx with
          | mfn hm => rw [h1] at hm; cases hm
          | mfe a hm => rw [h1] at hm; cases hm
          | mf cap hm _ _ =>
            rw [h1] at hm
            cases hm
            exact ⟨_, _, h, .v _ _ rfl, slc hu⟩
      · exact False.elim h
    · cases hx <;> exact ⟨_, _, h, .v _ _ rfl, slc hu⟩
    · exact False.elim h
  · rename_i hu
    split at h
    · rename_i s
      obtain ⟨rfl, _⟩ := hx.vI
      exact ⟨_, _, h, .v _ _ rfl, by simp [Builtin.len_, ht, run_underlying hu, goInt]⟩
    · exact False.elim h
  · rename_i n e hu
    exact ⟨_, _, h, .v _ _ rfl, by
      unfold Builtin.len_
      simp only [ht, List.getElem?_toArray, List.getElem?_cons_zero, Sem.run_bind, run_underlying hu, Result.andThen_ok]
      cases u <;> rfl⟩
  · rename_i ke e hu
    split at h
    · cases hx; exact ⟨_, _, h, .v _ _ rfl, by simp [Builtin.len_, ht, run_underlying hu, goInt]⟩
    · rename_i id
      split at h
      · rename_i fl es ho
        have hob := hM.obj id
        rw [ho] at hob
        cases hx with
        | mp hm =>
          rw [hm] at hob
          obtain ⟨ms, clock, h1, h2, h3⟩ := hob
          rw [hM.hp] at h1
          refine ⟨_, _, h, .v _ _ rfl, ?_⟩
          have hg : ∀ b, w.heap[b]? = some (.map ms clock) → (getObj b).run P w = .ok (.map ms clock) w := fun b hb => by
            simp [getObj, Sem.run, hb]
          simp [Builtin.len_, ht, run_underlying hu, hg _ h1, goInt, h2]
      · exact False.elim h
    · exact False.elim h
  · exact False.elim h

theorem indexAddr_sound (hM : SimM G p E M w) {t : TypeId} {x ix : AV} {u v : Value} {k : AV → Prop} (h : indexAddrK P t x ix M k) (hx : VR E x u) (hi : VR E ix v) :
    ∃ r z, k r ∧ VR E r z ∧ (Instr.indexAt t u v).run P w = .ok z w := by
  unfold indexAddrK at h
  replace h := intOf_sound h hi
  obtain ⟨kd, i, rfl, h⟩ := h
  have run : ∀ {e : TypeId} {inf : TypeInfo} {b o n c : Nat}, P.underlying t = some (.slice e) → P.info? e = some inf → 0 ≤ i → i < n →
      (Instr.indexAt t (.slice (some ⟨b, o, none⟩) n c) (.int kd i)).run P w = .ok (.pointer (some ⟨b, o + i.toNat * inf.size, none⟩)) w := by
    intro e inf b o n c hu hinf h0 hn
    unfold Instr.indexAt
    simp only [asIntOf, Sem.run_bind, Sem.run_pure, Result.andThen_ok, run_underlying hu, if_pos (And.intro h0 hn), run_sizeOf hinf, add_none]
  split at h
  · rename_i e hu
    split at h
    · rename_i inf hinf
      split at h
      · rename_i rows
        split at h
        · rename_i row hrow
          replace h := Chk_elim h
          obtain ⟨hb, h⟩ := h
          simp only [Bool.and_eq_true] at hb
          have hsz := Nat.eq_of_beq_eq_true hb.1
          split at hrow
          · rename_i h0
            cases hx with
            | sln => simp at hrow
            | sle a cap => simp at hrow
            | sl us h1 h2 h3 h4 h5 h6 h7 =>
              rename_i sz b o cap
              have hlt : i.toNat < rows.length := (List.getElem?_eq_some_iff.1 hrow).1
              have hrl : row.length = sz := h2 row (List.mem_of_getElem? hrow)
              have hmul : i.toNat * sz + sz ≤ rows.length * sz := by rw [← Nat.succ_mul]; exact Nat.mul_le_mul_right sz hlt
              have hfl := flatten_len h2
              refine ⟨_, _, h, .fptr 0 ((us.drop (i.toNat * sz)).take sz) (by rw [List.length_take, List.length_drop, h3, hfl, hrl]; exact Nat.min_eq_left (by omega)) (fun m c u hc hu' => ?_) h5 (fun m u hu' => ?_), by rw [run hu hinf h0 (by omega)]; rw [← hsz, hrl, Nat.add_zero]⟩
              · have hm : m < sz := by rw [← hrl]; exact (List.getElem?_eq_some_iff.1 hc).1
                rw [List.getElem?_take, if_pos hm, List.getElem?_drop] at hu'
                exact h4 _ c u (by rw [flatten_get h2 hrow hm]; exact hc) hu'
              · rw [List.getElem?_take] at hu'
                split at hu'
                · rw [List.getElem?_drop] at hu'
                  rw [Nat.add_assoc]
                  exact h6 _ u hu'
                · cases hu'
          · cases hrow
        · exact False.elim h
      · rename_i id
        split at h
        · rename_i fl sz rows ho
          split at h
          · rename_i row hrow
            replace h := Chk_elim h
            obtain ⟨hb, h⟩ := h
            simp only [Bool.and_eq_true] at hb
            have hsz := Nat.eq_of_beq_eq_true hb.1
            split at hrow
            · rename_i h0
              have hlt : i.toNat < rows.length := (List.getElem?_eq_some_iff.1 hrow).1
              rcases obj_arr hM ho with ⟨h1, h2⟩ | ⟨b, o, h1, h2⟩
              · subst h2; simp at hlt
              · have hrl : row.length = sz := h2.2.1 row (List.mem_of_getElem? hrow)
                cases hx with
                | mfn hm => rw [h1] at hm; cases hm
                | mfe a hm => rw [h1] at hm; cases hm
                | mf cap hm _ _ =>
                  rw [h1] at hm
                  cases hm
                  refine ⟨_, _, h, .ptr i.toNat 0 h1, ?_⟩
                  rw [run hu hinf h0 (by omega), ← hsz, hrl]
                  rfl
            · cases hrow
          · exact False.elim h
        · exact False.elim h
      · rename_i id off len ext
        split at h
        · rename_i fl sz rows ho
          replace h := Chk_elim h
          obtain ⟨hb0, h⟩ := h
          simp only [Bool.and_eq_true, decide_eq_true_eq] at hb0
          obtain ⟨h0, hn⟩ := hb0
          split at h
          · rename_i row hrow
            replace h := Chk_elim h
            obtain ⟨hb, h⟩ := h
            simp only [Bool.and_eq_true] at hb
            have hsz := Nat.eq_of_beq_eq_true hb.1
            have hlt : i.toNat + off < rows.length := (List.getElem?_eq_some_iff.1 hrow).1
            rcases obj_arr hM ho with ⟨h1, h2⟩ | ⟨b, o, h1, h2⟩
            · subst h2; simp at hlt
            · have hrl : row.length = sz := h2.2.1 row (List.mem_of_getElem? hrow)
              cases hx with
              | msle _ a hm => simp at hn; omega
              | msl _ _ _ cap hm _ _ _ =>
                rw [h1] at hm
                cases hm
                refine ⟨_, _, h, .ptr (i.toNat + off) 0 h1, ?_⟩
                rw [run hu hinf h0 hn, ← hsz, hrl, Nat.add_mul, Nat.add_assoc, Nat.add_comm (off * sz)]
                rfl
          · exact False.elim h
        · exact False.elim h
      · exact False.elim h
    · exact False.elim h
  · rename_i len e hu
    split at h
    · rename_i inf hinf
      replace h := Chk_elim h
      obtain ⟨hb, h⟩ := h
      simp only [Bool.and_eq_true, decide_eq_true_eq] at hb
      have runA : ∀ {b o : Nat}, (Instr.indexAt t (.pointer (some ⟨b, o, none⟩)) (.int kd i)).run P w = .ok (.pointer (some ⟨b, o + i.toNat * inf.size, none⟩)) w := by
        intro b o
        unfold Instr.indexAt
        simp only [asIntOf, Instr.sureAddr, Sem.run_bind, Sem.run_pure, Result.andThen_ok, run_underlying hu, if_pos hb, run_sizeOf hinf, add_none]
      split at h
      · rename_i key a j
        cases hx with
        | ptr _ _ hm => exact ⟨_, _, h, .ptr a (i.toNat * inf.size + j) hm, by rw [runA, Nat.add_assoc, Nat.add_comm j]⟩
      · rename_i row j
        cases hx with
        | fptr _ us h1 h2 h3 h4 => exact ⟨_, _, h, .fptr (i.toNat * inf.size + j) us h1 h2 h3 h4, by rw [runA, Nat.add_assoc, Nat.add_comm j]⟩
      · exact False.elim h
    · exact False.elim h
  · exact False.elim h
end

end A
end Go.Proofs.Ytnjpjmeoednfcaa
