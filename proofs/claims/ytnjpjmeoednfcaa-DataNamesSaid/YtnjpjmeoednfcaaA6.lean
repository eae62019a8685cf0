/- Operations that neither see nor turn memory of the call's own, part two; a row read out of memory. -/
import Derived.Test.YtnjpjmeoednfcaaA5
namespace Go.Proofs.Ytnjpjmeoednfcaa
namespace A
open Go

theorem run_sizeOf {P : Program} {t : TypeId} {i : TypeInfo} (h : P.info? t = some i) (w : World) : (sizeOf t).run P w = .ok i.size w := by
  unfold sizeOf
  rw [Sem.run_bind, run_typeInfo w h]
  rfl
theorem run_isAgg {P : Program} {t : TypeId} {d : TypeDesc} (h : P.underlying t = some d) (w : World) : (isAgg t).run P w = .ok (match d with | .struct _ | .array _ _ => true | _ => false) w := by
  unfold isAgg
  rw [Sem.run_bind, run_underlying h, Result.andThen_ok]
  cases d <;> rfl

theorem part_sound {P : Program} {t : TypeId} {row : List AV} {j : Nat} {k : AV → Prop} {E : Env} {us : Array Value} (h : partK P t row j k) (hr : VRs E row us.toList) (w : World) :
    ∃ r u, k r ∧ VR E r u ∧ (part t us j).run P w = .ok u w := by
  have agg : ∀ i, P.info? t = some i → Chk (Nat.ble (j + i.size) row.length) (forceL ((row.drop j).take i.size) fun cs => k (.agg cs)) → (isAgg t).run P w = .ok true w →
      ∃ r u, k r ∧ VR E r u ∧ (part t us j).run P w = .ok u w := by
    intro i hi h ha
    obtain ⟨hl, hk⟩ := Chk_elim h
    rw [forceL_iff] at hk
    refine ⟨_, .agg (us.extract j (j + i.size)), hk, VRs.aggV ?_, ?_⟩
    · have := (hr.drop j).take i.size
      rw [Array.toList_extract]
      simpa [List.extract] using this
    · unfold part
      rw [Sem.run_bind, ha, Result.andThen_ok, if_pos rfl, Sem.run_bind, run_sizeOf hi]
      rfl
  unfold partK at h
  split at h
  · rename_i hu
    split at h
    · rename_i i hi
      exact agg i hi h (by rw [run_isAgg hu])
    · exact False.elim h
  · rename_i hu
    split at h
    · rename_i i hi
      exact agg i hi h (by rw [run_isAgg hu])
    · exact False.elim h
  · rename_i d h1 h2 hu
    split at h
    · rename_i c hc
      obtain ⟨u, hu', hv⟩ := hr.get hc
      refine ⟨_, _, h, hv, ?_⟩
      unfold part
      have ha : (isAgg t).run P w = .ok false w := by
        rw [run_isAgg hu]
        cases d <;> first | rfl | (exact absurd rfl (h1 _)) | (exact absurd rfl (h2 _ _))
      rw [Sem.run_bind, ha, Result.andThen_ok, if_neg (by simp)]
      rw [Array.getElem?_toList] at hu'
      rw [hu']
      rfl
    · exact False.elim h
  · exact False.elim h

theorem add_none (b o m : Nat) : (⟨b, o, none⟩ : Addr).add m = ⟨b, o + m, none⟩ := by
  unfold Addr.add
  split
  · rename_i h; subst h; rfl
  · rfl
theorem cell_none (w : World) (b i : Nat) : w.cell? ⟨b, i, none⟩ = cellH w.heap b i := by
  unfold World.cell? cellH
  split <;> simp_all

/-- A row of cells that lies in memory, read at a place in it. -/
theorem load_sound {P : Program} {t : TypeId} {row : List AV} {j : Nat} {k : AV → Prop} {E : Env} {us : List Value} {b o : Nat} (h : partK P t row j k) (hr : VRs E row us) (w : World)
    (hc : ∀ (m : Nat) (u : Value), us[m]? = some u → cellH w.heap b (o + m) = some u) :
    ∃ r u, k r ∧ VR E r u ∧ (Instr.loadAt t (.pointer (some ⟨b, o + j, none⟩))).run P w = .ok u w := by
  have agg : ∀ i, P.info? t = some i → Chk (Nat.ble (j + i.size) row.length) (forceL ((row.drop j).take i.size) fun cs => k (.agg cs)) → (isAgg t).run P w = .ok true w →
      ∃ r u, k r ∧ VR E r u ∧ (Instr.loadAt t (.pointer (some ⟨b, o + j, none⟩))).run P w = .ok u w := by
    intro i hi h ha
    obtain ⟨hl, hk⟩ := Chk_elim h
    rw [forceL_iff] at hk
    have hle : j + i.size ≤ us.length := by rw [← hr.1]; exact Nat.le_of_ble_eq_true hl
    have hlen : ((us.drop j).take i.size).length = i.size := by simp; omega
    refine ⟨_, .agg ((us.drop j).take i.size).toArray, hk, VRs.aggV (by simpa using (hr.drop j).take i.size), ?_⟩
    have hrun := run_loadCells_list (P := P) (w := w) ⟨b, o + j, none⟩ ((us.drop j).take i.size) (fun m v hv => by
      rw [add_none, cell_none, Nat.add_assoc]
      refine hc _ _ ?_
      rw [List.getElem?_take] at hv
      split at hv
      · rw [List.getElem?_drop] at hv
        exact hv
      · cases hv)
    rw [hlen] at hrun
    unfold Instr.loadAt Instr.sureAddr loadVar
    simp only [Sem.run_bind, Sem.run_pure, Result.andThen_ok, ha, if_true, run_sizeOf hi, hrun]
  unfold partK at h
  split at h
  · rename_i hu
    split at h
    · rename_i i hi
      exact agg i hi h (by rw [run_isAgg hu])
    · exact False.elim h
  · rename_i hu
    split at h
    · rename_i i hi
      exact agg i hi h (by rw [run_isAgg hu])
    · exact False.elim h
  · rename_i d h1 h2 hu
    split at h
    · rename_i c hcc
      obtain ⟨u, hu', hv⟩ := hr.get hcc
      refine ⟨_, _, h, hv, ?_⟩
      have ha : (isAgg t).run P w = .ok false w := by
        rw [run_isAgg hu]
        cases d <;> first | rfl | (exact absurd rfl (h1 _)) | (exact absurd rfl (h2 _ _))
      unfold Instr.loadAt Instr.sureAddr loadVar
      have hcell : w.cell? ⟨b, o + j, none⟩ = some u := by rw [cell_none]; exact hc _ _ hu'
      simp [ha, hcell]
    · exact False.elim h
  · exact False.elim h

theorem over_get : ∀ (xs cs : List AV) (m : Nat), (over xs cs)[m]? = if m < cs.length ∧ m < xs.length then cs[m]? else xs[m]?
  | xs, [], m => by simp [over]
  | [], c :: cs, m => by simp [over]
  | x :: xs, c :: cs, 0 => by simp [over]
  | x :: xs, c :: cs, m + 1 => by
    have := over_get xs cs m
    simp only [over, List.getElem?_cons_succ, List.length_cons, this]
    by_cases h : m < cs.length ∧ m < xs.length
    · rw [if_pos h, if_pos (by omega)]
    · rw [if_neg h, if_neg (by omega)]
theorem over_length : ∀ (xs cs : List AV), (over xs cs).length = xs.length
  | xs, [] => by simp [over]
  | [], c :: cs => by simp [over]
  | x :: xs, c :: cs => by simp [over, over_length xs cs]
theorem splice_get : ∀ (row : List AV) (n : Nat) (cs : List AV) (m : Nat), (splice row n cs)[m]? = if n ≤ m ∧ m < n + cs.length ∧ m < row.length then cs[m - n]? else row[m]?
  | row, 0, cs, m => by
    have := over_get row cs m
    have e : splice row 0 cs = over row cs := by cases row <;> rfl
    rw [e, this]
    simp
  | [], n + 1, cs, m => by simp [splice]
  | x :: xs, n + 1, cs, 0 => by simp [splice]
  | x :: xs, n + 1, cs, m + 1 => by
    have := splice_get xs n cs m
    simp only [splice, List.getElem?_cons_succ, List.length_cons, this, Nat.add_sub_add_right]
    by_cases h : n ≤ m ∧ m < n + cs.length ∧ m < xs.length
    · rw [if_pos h, if_pos (by omega)]
    · rw [if_neg h, if_neg (by omega)]
theorem splice_length : ∀ (row : List AV) (n : Nat) (cs : List AV), (splice row n cs).length = row.length
  | row, 0, cs => by
    have e : splice row 0 cs = over row cs := by cases row <;> rfl
    rw [e, over_length]
  | [], n + 1, cs => rfl
  | x :: xs, n + 1, cs => by simp [splice, splice_length xs n cs]

/-- So many cells of an array, one behind the other, from a place on. -/
def setAll (us : Array Value) (off : Nat) : List Value → Nat → Array Value
  | [], _ => us
  | v :: vs, i => setAll (us.setIfInBounds (off + i) v) off vs (i + 1)
theorem setAll_size : ∀ (vs : List Value) (us : Array Value) (off i : Nat), (setAll us off vs i).size = us.size
  | [], _, _, _ => rfl
  | v :: vs, us, off, i => by rw [setAll, setAll_size vs]; simp
theorem setAll_get : ∀ (vs : List Value) (us : Array Value) (off i m : Nat), (setAll us off vs i)[m]? = if off + i ≤ m ∧ m < off + i + vs.length ∧ m < us.size then vs[m - (off + i)]? else us[m]?
  | [], us, off, i, m => by
    rw [if_neg (by simp; omega)]
    rfl
  | v :: vs, us, off, i, m => by
    rw [setAll, setAll_get vs]
    simp only [Array.size_setIfInBounds, List.length_cons, Array.getElem?_setIfInBounds]
    by_cases h1 : off + (i + 1) ≤ m ∧ m < off + (i + 1) + vs.length ∧ m < us.size
    · rw [if_pos h1, if_pos (by omega), show m - (off + i) = (m - (off + (i + 1))) + 1 by omega]
      rfl
    · rw [if_neg h1]
      by_cases h2 : off + i = m
      · subst h2
        rw [if_pos rfl]
        by_cases h3 : off + i < us.size
        · rw [if_pos h3, if_pos (by omega)]; simp
        · rw [if_neg h3, if_neg (by omega)]
          simp [Array.getElem?_eq_none (Nat.le_of_not_lt h3)]
      · rw [if_neg h2, if_neg (by omega)]
theorem foldl_setAll : ∀ (vs : List Value) (us : Array Value) (off i : Nat), (vs.zipIdx i).foldl (fun cs (x : Value × Nat) => cs.setIfInBounds (off + x.2) x.1) us = setAll us off vs i
  | [], _, _, _ => rfl
  | v :: vs, us, off, i => by
    rw [List.zipIdx_cons, List.foldl_cons, foldl_setAll vs]
    rfl

theorem VRs.splice {E : Env} {row cs : List AV} {us : Array Value} {vs : List Value} (h : VRs E row us.toList) (k : VRs E cs vs) (n : Nat) : VRs E (splice row n cs) (setAll us n vs 0).toList := by
  have hl : row.length = us.size := by simpa using h.1
  refine ⟨by have := setAll_size vs us n 0; simp [splice_length, this, hl], fun m c u h1 h2 => ?_⟩
  rw [splice_get] at h1
  rw [Array.getElem?_toList, setAll_get] at h2
  simp only [Nat.add_zero] at h2
  by_cases hc : n ≤ m ∧ m < n + cs.length ∧ m < row.length
  · rw [if_pos hc] at h1
    rw [if_pos (by rw [← k.1, ← hl]; exact hc)] at h2
    exact k.2 _ c u h1 h2
  · rw [if_neg hc] at h1
    rw [if_neg (by rw [← k.1, ← hl]; exact hc)] at h2
    exact h.2 m c u h1 (by rw [Array.getElem?_toList]; exact h2)

/-! ### Cells of a value -/
def notAgg : Value → Bool
  | .agg _ | .tuple _ => false
  | _ => true
theorem okCell_val {E : Env} {c : AV} {u : Value} (h : okCell c = true) (hv : VR E c u) : notAgg u = true := by
  cases hv <;> first | rfl | (cases h; done) | (rename_i hp; revert hp; cases u <;> intro hp <;> first | rfl | (cases hp; done))
theorem cells_notAgg {u : Value} (h : notAgg u = true) : u.cells = #[u] := by
  cases u <;> first | rfl | (cases h; done)

theorem cellsK_sound {E : Env} {a : AV} {u : Value} {k : List AV → Prop} (h : cellsK a k) (hv : VR E a u) : ∃ cs, k cs ∧ VRs E cs u.cells.toList ∧ ∀ c ∈ cs, okCell c = true := by
  unfold cellsK at h
  split at h
  · obtain ⟨us, rfl, hs⟩ := hv.aggI
    obtain ⟨h1, h2⟩ := Chk_elim h
    exact ⟨_, h2, hs, fun c hc => List.all_eq_true.1 h1 c hc⟩
  · exact False.elim h
  · exact False.elim h
  · rename_i h1 h2 h3
    have ho : okCell a = true := by
      cases a <;> first | rfl | (exact (h1 _ rfl).elim) | (exact (h2 rfl).elim) | (exact (h3 _ rfl).elim)
    refine ⟨_, h, ?_, fun c hc => by simp at hc; subst hc; exact ho⟩
    rw [cells_notAgg (okCell_val ho hv)]
    exact .cons hv (.nil E)

theorem zeroRow_sound {P : Program} {e : TypeId} {k : List AV → Prop} (h : zeroRow P e k) : ∃ i z cs, P.info? e = some i ∧ i.zero = some z ∧ z.cells.size = i.size ∧ k cs ∧ ∀ E, VRs E cs z.cells.toList := by
  unfold zeroRow at h
  split at h
  · rename_i i hi
    split at h
    · rename_i z hz
      obtain ⟨h1, h2⟩ := Chk_elim h
      rw [forceAL_iff] at h2
      refine ⟨i, z, _, hi, hz, by simpa using h1, h2, fun E => ⟨by simp, fun m c u h3 h4 => ?_⟩⟩
      rw [List.getElem?_map, Option.map_eq_some_iff] at h3
      obtain ⟨y, hy, rfl⟩ := h3
      rw [hy] at h4
      cases h4
      exact plain_ofC
    · exact False.elim h
  · exact False.elim h

/-- Parts with their places. -/
def PRs (E : Env) (ps : List (Nat × AV)) (qs : List (Nat × Value)) : Prop :=
  ps.map (·.1) = qs.map (·.1) ∧ VRs E (ps.map (·.2)) (qs.map (·.2))

theorem fill_sound {E : Env} {place : Nat → Option (Nat × Nat)} {k : List AV → Prop} : ∀ {ps : List (Nat × AV)} {qs : List (Nat × Value)} {cells : List AV} {us : Array Value}, PRs E ps qs → VRs E cells us.toList →
    fillK place cells ps k → ∃ cs us', k cs ∧ VRs E cs us'.toList ∧ us'.size = us.size ∧ Instr.fill place us qs = some us'
  | [], qs, cells, us, hp, hc, h => by
    have : qs = [] := by have := hp.1; simpa using this.symm
    subst this
    exact ⟨_, us, forceL_iff.1 h, hc, rfl, rfl⟩
  | (i, x) :: ps, qs, cells, us, hp, hc, h => by
    cases qs with
    | nil => have := hp.1; simp at this
    | cons q qs =>
      obtain ⟨i', v⟩ := q
      have h1 := hp.1
      simp only [List.map_cons, List.cons.injEq] at h1
      obtain ⟨rfl, h1⟩ := h1
      have h2 := hp.2
      simp only [List.map_cons] at h2
      obtain ⟨u, us', e, hx, hs⟩ := h2.uncons
      simp only [List.cons.injEq] at e
      obtain ⟨rfl, rfl⟩ := e
      unfold fillK at h
      split at h
      · rename_i off size hpl
        obtain ⟨cs, h, hcs, _⟩ := cellsK_sound h hx
        obtain ⟨hb, h⟩ := Chk_elim h
        simp only [Bool.and_eq_true] at hb
        have e1 : cs.length = size := Nat.eq_of_beq_eq_true hb.1
        have e2 : off + cs.length ≤ cells.length := Nat.le_of_ble_eq_true hb.2
        have e3 : cs.length = v.cells.size := by simpa using hcs.1
        have e4 : cells.length = us.size := by simpa using hc.1
        have hc' := hc.splice hcs off
        obtain ⟨cs', us', hk, hv, hsz, hf⟩ := fill_sound (ps := ps) (qs := qs) ⟨h1, hs⟩ hc' h
        refine ⟨cs', us', hk, hv, by rw [hsz, setAll_size], ?_⟩
        unfold Instr.fill
        rw [hpl]
        simp only
        rw [if_neg (by simp; omega)]
        have := foldl_setAll v.cells.toList us off 0
        rw [← hf]
        congr 1
        rw [← this, ← Array.foldl_toList, Array.toList_zipIdx]
      · exact False.elim h

end A
end Go.Proofs.Ytnjpjmeoednfcaa
