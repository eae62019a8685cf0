/- Memory: rows of objects and boxes; steps that leave old blocks as they are. -/
import Derived.Test.YtnjpjmeoednfcaaA7
namespace Go.Proofs.Ytnjpjmeoednfcaa
namespace A
open Go
open Go.RowKit (Below)

theorem flatten_get {sz : Nat} : ∀ {rows : List (List AV)} {i m : Nat} {row : List AV}, (∀ r ∈ rows, r.length = sz) → rows[i]? = some row → m < sz → rows.flatten[i * sz + m]? = row[m]?
  | [], i, m, row, _, h, _ => by simp at h
  | r :: rows, 0, m, row, hr, h, hm => by
    simp at h
    subst h
    have := hr r (by simp)
    simp only [List.flatten_cons, Nat.zero_mul, Nat.zero_add]
    rw [List.getElem?_append_left (by omega)]
  | r :: rows, i + 1, m, row, hr, h, hm => by
    have h0 := hr r (by simp)
    simp only [List.flatten_cons]
    rw [List.getElem?_append_right (by rw [h0, Nat.succ_mul]; omega), show (i + 1) * sz + m - r.length = i * sz + m by rw [h0, Nat.succ_mul]; omega]
    exact flatten_get (fun x hx => hr x (by simp [hx])) (by simpa using h) hm
theorem flatten_len {sz : Nat} : ∀ {rows : List (List AV)}, (∀ r ∈ rows, r.length = sz) → rows.flatten.length = rows.length * sz
  | [], _ => by simp
  | r :: rows, h => by
    have ih := flatten_len (sz := sz) (rows := rows) (fun x hx => h x (List.mem_cons_of_mem _ hx))
    have h0 := h r List.mem_cons_self
    simp only [List.flatten_cons, List.length_append, List.length_cons, Nat.succ_mul]
    omega

theorem ArrR.row {E' : Env} {h : Array Obj} {rows : List (List AV)} {b o sz i : Nat} {row : List AV} (ha : ArrR E' h rows b o sz) (hi : rows[i]? = some row) :
    ∃ us : List Value, VRs E' row us ∧ ∀ (m : Nat) (x : Value), us[m]? = some x → cellH h b (o + i * sz + m) = some x := by
  obtain ⟨hsz, hr, us, ty, hb, hl, hc⟩ := ha
  have hrow : row.length = sz := hr row (List.mem_of_getElem? hi)
  have hil : i < rows.length := (List.getElem?_eq_some_iff.1 hi).1
  have hmul : i * sz + sz ≤ rows.length * sz := by rw [← Nat.succ_mul]; exact Nat.mul_le_mul_right sz hil
  refine ⟨(us.toList.drop (o + i * sz)).take sz, ⟨by simp [hrow]; omega, fun m c u h1 h2 => ?_⟩, fun m x hx => ?_⟩
  · have hm : m < sz := by rw [← hrow]; exact (List.getElem?_eq_some_iff.1 h1).1
    rw [List.getElem?_take, if_pos hm, List.getElem?_drop, Array.getElem?_toList] at h2
    obtain ⟨u', hu', hv⟩ := hc (i * sz + m) c (by rw [flatten_get hr hi hm]; exact h1)
    rw [show o + i * sz + m = o + (i * sz + m) by omega, hu'] at h2
    cases h2
    exact hv
  · rw [List.getElem?_take] at hx
    split at hx
    · rw [List.getElem?_drop, Array.getElem?_toList] at hx
      unfold cellH
      rw [hb]
      exact hx
    · cases hx

section
variable {G : Gh} {p : Nat → Option (List AV)} {E : Env} {M : St} {w : World}

/-- What lies behind a pointer to one of the call's own. -/
theorem rowK_sound {k : List AV → Prop} {key : Key} {i : Nat} {b o sz n : Nat} (hM : SimM G p E M w) (hm : E.mu key = some (.blk b o sz n)) (h : rowK M key i k) :
    ∃ row us, k row ∧ VRs E row us ∧ ∀ (m : Nat) (x : Value), us[m]? = some x → cellH w.heap b (o + i * sz + m) = some x := by
  unfold rowK at h
  split at h
  · rename_i d
    split at h
    · rename_i row hl
      split at h
      · have := hM.loc d
        rw [hl] at this
        rcases this with ⟨b', h1, h2⟩ | ⟨h1, _⟩
        · rw [hm] at h1
          cases h1
          obtain ⟨us, hu, hc⟩ := h2.row (i := 0) rfl
          exact ⟨row, us, h, hu, by simpa [hM.hp] using hc⟩
        · rw [hm] at h1; cases h1
      · exact False.elim h
    · exact False.elim h
  · rename_i id
    split at h
    · rename_i fl sz' rows ho
      split at h
      · rename_i row hr
        have := hM.obj id
        rw [ho, hm] at this
        obtain ⟨h1, h2⟩ := this
        obtain ⟨us, hu, hc⟩ := h2.row hr
        refine ⟨row, us, h, ?_, by rw [← hM.hp]; exact hc⟩
        cases fl with
        | true => exact hu.of_fz
        | false => exact hu.of_ob
      · exact False.elim h
    · exact False.elim h

theorem atK_sound {k : List AV → Nat → Prop} {a : AV} {u : Value} (hM : SimM G p E M w) (hv : VR E a u) (h : atK M a k) :
    ∃ row j us b o, k row j ∧ u = .pointer (some ⟨b, o + j, none⟩) ∧ VRs E row us ∧ ∀ (m : Nat) (x : Value), us[m]? = some x → cellH w.heap b (o + m) = some x := by
  unfold atK at h
  split at h
  · rename_i key i j
    cases hv with
    | ptr _ _ hm =>
      obtain ⟨row, us, hk, hu, hc⟩ := rowK_sound hM hm h
      exact ⟨row, j, us, _, _, hk, rfl, hu, hc⟩
  · rename_i row j
    cases hv with
    | fptr _ us h1 h2 h3 h4 => exact ⟨_, j, us, _, _, h, rfl, VRs.of_fz ⟨h1.symm, h2⟩, by rw [← hM.hp]; exact h4⟩
  · exact False.elim h

/-- New blocks alone; some of them frozen. -/
theorem SimM.below {w' : World} {F' : Nat → Prop} (hM : SimM G p E M w) (hb : Below w.heap.size w w') (hF : ∀ b, E.F b → F' b) (hlt : ∀ b, F' b → b < w'.heap.size)
    (hnew : ∀ b, F' b → b < w.heap.size → E.F b) : LE E ⟨F', E.mu, w'.heap⟩ ∧ SimM G p ⟨F', E.mu, w'.heap⟩ M w' := by
  have hle : LE E ⟨F', E.mu, w'.heap⟩ := by
    refine ⟨hF, fun _ _ h => h, fun b h => by rw [hM.hp]; exact hb.block b (hM.Flt b h), fun k b o s n h => ?_⟩
    unfold sizeH
    rw [hM.hp]
    rw [hb.block b (hM.own k b o s n h).2.1]
  have hblk : ∀ k b o s n, E.mu k = some (.blk b o s n) → w'.heap[b]? = E.h[b]? := fun k b o s n h => by rw [hM.hp]; exact hb.block b (hM.own k b o s n h).2.1
  refine ⟨hle, ?_⟩
  refine ⟨rfl, hb.os.trans hM.os, hb.tape.trans hM.tape, hb.output.trans hM.output, Nat.le_trans hM.size hb.size, fun b h1 h2 => ?_, fun b h => hF b (hM.F0 b h), hlt, fun b h1 h2 => hM.Fnew b (hnew b h1 (Nat.lt_of_lt_of_le h2 hM.size)) h2,
    fun k b o s n h => ?_, hM.inj, fun d => ?_, fun id => ?_, hM.old, hM.bl, fun b' hb' => (by
    rw [← hM.szs b' hb']
    unfold sizeH
    rw [hb.block b' (Nat.lt_of_lt_of_le hb' hM.size)])⟩
  · rw [hb.block b (Nat.lt_of_lt_of_le h1 hM.size)]
    exact hM.keep b h1 h2
  · obtain ⟨h1, h2, h3⟩ := hM.own k b o s n h
    exact ⟨fun hf => h1 (hnew b hf h2), Nat.lt_of_lt_of_le h2 hb.size, h3⟩
  · have := hM.loc d
    revert this
    cases lookL M.l d with
    | none => exact fun h => h
    | some row =>
      rintro (⟨b, h1, h2, h3, us, ty, h4, h5, h6⟩ | h)
      · refine .inl ⟨b, h1, h2, h3, us, ty, (hblk _ _ _ _ _ h1).trans h4, h5, fun m c hc => ?_⟩
        obtain ⟨u, hu, hv⟩ := h6 m c hc
        exact ⟨u, hu, hv.mono hle⟩
      · exact .inr h
  · have := hM.obj id
    revert this
    cases M.o[id]? with
    | none =>
      show ObR E _ (E.mu (.O id)) → ObR _ _ (E.mu (.O id))
      cases E.mu (.O id) <;> exact fun h => h
    | some ob =>
      cases ob with
      | dead =>
        show ObR E _ (E.mu (.O id)) → ObR _ _ (E.mu (.O id))
        cases E.mu (.O id) <;> exact fun h => h
      | arr fl sz rows =>
        show ObR E _ (E.mu (.O id)) → ObR _ _ (E.mu (.O id))
        cases hm : E.mu (.O id) with
        | none => exact fun h => h
        | some mv =>
          cases mv with
          | virt => exact fun h => h
          | blk b o s n =>
            rintro ⟨h1, h2, h3, us, ty, h4, h5, h6⟩
            refine ⟨h1, h2, h3, us, ty, (hblk _ _ _ _ _ hm).trans h4, h5, fun m c hc => ?_⟩
            obtain ⟨u, hu, hv⟩ := h6 m c hc
            refine ⟨u, hu, ?_⟩
            cases fl with
            | true => exact hv.mono hle.fz
            | false => exact hv.mono hle.ob
      | mapo fl es =>
        show ObR E _ (E.mu (.O id)) → ObR _ _ (E.mu (.O id))
        cases hm : E.mu (.O id) with
        | none => exact fun h => h
        | some mv =>
          cases mv with
          | virt => exact fun h => h
          | blk b o s n =>
            rintro ⟨ms, clock, h1, h2, h3⟩
            refine ⟨ms, clock, (hblk _ _ _ _ _ hm).trans h1, h2, fun i e m h4 h5 => ?_⟩
            obtain ⟨h6, h7⟩ := h3 i e m h4 h5
            refine ⟨h6, ?_⟩
            cases fl with
            | true => exact h7.mono hle.fz
            | false => exact h7.mono hle.ob

end

end A
end Go.Proofs.Ytnjpjmeoednfcaa
