/- Stores. -/
import Derived.Test.YtnjpjmeoednfcaaA12
namespace Go.Proofs.Ytnjpjmeoednfcaa
namespace A
open Go
open Go.RowKit (Below)

theorem rfree_fz : ∀ (n : Nat) {E : Env} {a : AV} {u : Value}, rfree n a = true → VR E a u → VR E.fz a u
  | 0, _, _, _, h, _ => by cases h
  | n + 1, E, a, u, h, hv => by
    have lst : ∀ {cs : List AV} {us : Array Value}, cs.all (rfree n) = true → (∀ (m : Nat) (c : AV) (u : Value), cs[m]? = some c → us[m]? = some u → VR E c u) →
        ∀ (m : Nat) (c : AV) (u : Value), cs[m]? = some c → us[m]? = some u → VR E.fz c u :=
      fun ha hc m c u h1 h2 => rfree_fz n (List.all_eq_true.1 ha c (List.mem_of_getElem? h1)) (hc m c u h1 h2)
    unfold rfree at h
    cases hv with
    | bad => exact .bad _ _
    | v _ x hx => exact .v _ _ hx
    | nilp => exact .nilp _
    | ptr i j hm => cases h
    | fptr j us h1 h2 h3 h4 => exact .fptr j us h1 h2 h3 h4
    | nilsl => exact .nilsl _
    | esln => exact .esln _
    | esl a => exact .esl _ _
    | sln => exact .sln _
    | sle a cap => exact .sle _ _ _
    | sl us h1 h2 h3 h4 h5 h6 h7 => exact .sl us h1 h2 h3 h4 h5 h6 h7
    | mfn hm => cases h
    | mfe a hm => cases h
    | mf cap hm _ _ => cases h
    | msle off a hm => cases h
    | msl _ _ _ _ hm _ _ _ => cases h
    | nilmap => exact .nilmap _
    | mp hm => cases h
    | nilfn => exact .nilfn _
    | fn us ws h1 h2 h3 h4 =>
      simp only [Bool.and_eq_true] at h
      exact .fn us ws h1 (lst h.1 h2) h3 (lst h.2 h4)
    | agg us h1 h2 => exact .agg us h1 (lst h h2)
    | tup us h1 h2 => exact .tup us h1 (lst h h2)
theorem noL_ob : ∀ (n : Nat) {E : Env} {a : AV} {u : Value}, noL n a = true → VR E a u → VR E.ob a u
  | 0, _, _, _, h, _ => by cases h
  | n + 1, E, a, u, h, hv => by
    have lst : ∀ {cs : List AV} {us : Array Value}, cs.all (noL n) = true → (∀ (m : Nat) (c : AV) (u : Value), cs[m]? = some c → us[m]? = some u → VR E c u) →
        ∀ (m : Nat) (c : AV) (u : Value), cs[m]? = some c → us[m]? = some u → VR E.ob c u :=
      fun ha hc m c u h1 h2 => noL_ob n (List.all_eq_true.1 ha c (List.mem_of_getElem? h1)) (hc m c u h1 h2)
    unfold noL at h
    cases hv with
    | bad => exact .bad _ _
    | v _ x hx => exact .v _ _ hx
    | nilp => exact .nilp _
    | ptr i j hm =>
      rename_i k b o sz n
      cases k with
      | L d => cases h
      | O id => exact .ptr i j hm
    | fptr j us h1 h2 h3 h4 => exact .fptr j us h1 h2 h3 h4
    | nilsl => exact .nilsl _
    | esln => exact .esln _
    | esl a => exact .esl _ _
    | sln => exact .sln _
    | sle a cap => exact .sle _ _ _
    | sl us h1 h2 h3 h4 h5 h6 h7 => exact .sl us h1 h2 h3 h4 h5 h6 h7
    | mfn hm => exact .mfn hm
    | mfe a hm => exact .mfe a hm
    | mf cap hm h1 h2 => exact .mf cap hm h1 h2
    | msle off a hm => exact .msle off a hm
    | msl a b c d hm h1 h2 h3 => exact .msl a b c d hm h1 h2 h3
    | nilmap => exact .nilmap _
    | mp hm => exact .mp hm
    | nilfn => exact .nilfn _
    | fn us ws h1 h2 h3 h4 =>
      simp only [Bool.and_eq_true] at h
      exact .fn us ws h1 (lst h.1 h2) h3 (lst h.2 h4)
    | agg us h1 h2 => exact .agg us h1 (lst h h2)
    | tup us h1 h2 => exact .tup us h1 (lst h h2)

/-! ### The store -/
def setBlk (w : World) (b : Nat) (ob : Obj) : World := { w with heap := w.heap.setIfInBounds b ob }
theorem setCell_blk {w : World} {b i : Nat} {us : Array Value} {ty : TypeId} {fr : Nat × Nat} {v : Value} (h : w.heap[b]? = some (.cells us ty fr)) : w.setCell ⟨b, i, none⟩ v = setBlk w b (.cells (us.setIfInBounds i v) ty fr) := by
  unfold World.setCell setBlk
  congr 1
  apply Array.ext_getElem?
  intro j
  rw [Array.getElem?_modify, Array.getElem?_setIfInBounds]
  by_cases hj : b = j
  · subst hj
    rw [if_pos rfl, if_pos rfl, h]
    have : b < w.heap.size := (Array.getElem?_eq_some_iff.1 h).1
    rw [if_pos this]
    rfl
  · rw [if_neg hj, if_neg hj]
theorem heap_setBlk {w : World} {b : Nat} {ob : Obj} (h : b < w.heap.size) : (setBlk w b ob).heap[b]? = some ob := by
  simp [setBlk, h]
theorem setBlk_setBlk {w : World} {b : Nat} {x y : Obj} : setBlk (setBlk w b x) b y = setBlk w b y := by
  unfold setBlk
  simp

theorem run_storeCells {P : Program} {b off : Nat} {ty : TypeId} : ∀ (vs : List Value) (i : Nat) {w : World} {us : Array Value}, w.heap[b]? = some (.cells us ty (0, 0)) → (∀ v ∈ vs, notAgg v = true) → off + i + vs.length ≤ us.size →
    (storeCells ⟨b, off, none⟩ vs i).run P w = .ok () (setBlk w b (.cells (setAll us off vs i) ty (0, 0)))
  | [], i, w, us, h, _, _ => by
    simp only [storeCells, Sem.run_pure, setAll]
    congr 1
    unfold setBlk
    have : w.heap.setIfInBounds b (.cells us ty (0, 0)) = w.heap := by
      apply Array.ext_getElem?
      intro j
      rw [Array.getElem?_setIfInBounds]
      by_cases hj : b = j
      · subst hj
        rw [if_pos rfl, if_pos (Array.getElem?_eq_some_iff.1 h).1, h]
      · rw [if_neg hj]
    rw [this]
  | v :: vs, i, w, us, h, hv, hl => by
    simp only [List.length_cons] at hl
    have hlt : off + i < us.size := by omega
    have hn := hv v (by simp)
    have hcell : w.cell? ⟨b, off + i, none⟩ = some us[off + i] := by
      rw [cell_none]
      unfold cellH
      rw [h]
      exact Array.getElem?_eq_getElem hlt
    have hfr : w.frozen? ⟨b, off + i, none⟩ = false := by
      unfold World.frozen?
      rw [h]
      simp
    have hst : (store ⟨b, off + i, none⟩ v).run P w = .ok () (w.setCell ⟨b, off + i, none⟩ v) := by
      unfold store
      cases v <;> first | (cases hn; done) | (simp [Sem.run, hcell, hfr])
    unfold storeCells
    rw [Sem.run_bind, add_none, hst, Result.andThen_ok, setCell_blk h]
    have hb : b < w.heap.size := (Array.getElem?_eq_some_iff.1 h).1
    rw [run_storeCells vs (i + 1) (heap_setBlk hb) (fun x hx => hv x (by simp [hx])) (by simp; omega), setBlk_setBlk]
    rfl

theorem run_storeAt {P : Program} {t : TypeId} {i : TypeInfo} {b off : Nat} {ty : TypeId} {w : World} {us : Array Value} {u : Value} (hi : P.info? t = some i) (hb : w.heap[b]? = some (.cells us ty (0, 0))) (hs : u.cells.size = i.size)
    (hn : ∀ v ∈ u.cells.toList, notAgg v = true) (hl : off + u.cells.size ≤ us.size) : (Instr.storeAt t (.pointer (some ⟨b, off, none⟩)) u).run P w = .ok () (setBlk w b (.cells (setAll us off u.cells.toList 0) ty (0, 0))) := by
  unfold Instr.storeAt Instr.sureAddr storeVar
  have h0 := run_storeCells (P := P) (off := off) u.cells.toList 0 hb hn (by simpa using hl)
  simp only [Sem.run_pure, Sem.run_bind, Result.andThen_ok, run_sizeOf hi]
  rw [if_neg (by simp [hs])]
  exact h0

/-- Rows that lie in a block, row by row. -/
theorem ArrR.of_rows {E' : Env} {h : Array Obj} {rows : List (List AV)} {b o sz : Nat} {us : Array Value} {ty : TypeId} (h0 : 0 < sz) (hr : ∀ r ∈ rows, r.length = sz) (hb : h[b]? = some (.cells us ty (0, 0))) (hl : o + rows.length * sz ≤ us.size)
    (hc : ∀ (i : Nat) (row : List AV) (r : Nat) (c : AV), rows[i]? = some row → row[r]? = some c → ∃ u, us[o + i * sz + r]? = some u ∧ VR E' c u) : ArrR E' h rows b o sz := by
  refine ⟨h0, hr, us, ty, hb, hl, fun m c hm => ?_⟩
  have hml : m < rows.length * sz := by rw [← flatten_len hr]; exact (List.getElem?_eq_some_iff.1 hm).1
  have hi : m / sz < rows.length := Nat.div_lt_of_lt_mul (by rw [Nat.mul_comm]; exact hml)
  have hmm : m % sz < sz := Nat.mod_lt _ h0
  have hdm : m / sz * sz + m % sz = m := by rw [Nat.mul_comm]; exact Nat.div_add_mod m sz
  have hrow := List.getElem?_eq_getElem hi
  have e1 := flatten_get hr hrow hmm
  rw [hdm] at e1
  obtain ⟨u, hu, hv⟩ := hc (m / sz) _ (m % sz) c hrow (by rw [← e1]; exact hm)
  exact ⟨u, by rw [← hu]; congr 1; omega, hv⟩
theorem ArrR.get {E' : Env} {h : Array Obj} {rows : List (List AV)} {b o sz : Nat} (ha : ArrR E' h rows b o sz) : ∃ us ty, h[b]? = some (.cells us ty (0, 0)) ∧ o + rows.length * sz ≤ us.size ∧
    ∀ (i : Nat) (row : List AV) (r : Nat) (c : AV), rows[i]? = some row → row[r]? = some c → ∃ u, us[o + i * sz + r]? = some u ∧ VR E' c u := by
  obtain ⟨h0, hr, us, ty, hb, hl, hc⟩ := ha
  refine ⟨us, ty, hb, hl, fun i row r c hi hrc => ?_⟩
  have hrl : r < sz := by rw [← hr row (List.mem_of_getElem? hi)]; exact (List.getElem?_eq_some_iff.1 hrc).1
  obtain ⟨u, hu, hv⟩ := hc (i * sz + r) c (by rw [flatten_get hr hi hrl]; exact hrc)
  exact ⟨u, by rw [← hu]; congr 1; omega, hv⟩

/-- One row set anew. -/
theorem ArrR.store {E1 E2 : Env} {h' : Array Obj} {rows : List (List AV)} {b o sz i j : Nat} {row cs : List AV} {vs : List Value} {us : Array Value} {ty : TypeId} (h0 : 0 < sz) (hr : ∀ r ∈ rows, r.length = sz) (hl : o + rows.length * sz ≤ us.size)
    (hc : ∀ (i : Nat) (row : List AV) (r : Nat) (c : AV), rows[i]? = some row → row[r]? = some c → ∃ u, us[o + i * sz + r]? = some u ∧ VR E1 c u)
    (hold : ∀ {c : AV} {u : Value}, VR E1 c u → VR E2 c u) (hnew : VRs E2 cs vs) (hi : rows[i]? = some row) (hj : j + cs.length ≤ row.length) (hb' : h'[b]? = some (.cells (setAll us (o + i * sz + j) vs 0) ty (0, 0))) :
    ArrR E2 h' (rows.set i (splice row j cs)) b o sz := by
  have hrow := hr row (List.mem_of_getElem? hi)
  have hil := (List.getElem?_eq_some_iff.1 hi).1
  refine ArrR.of_rows h0 (fun r hx => ?_) hb' (by rw [List.length_set, setAll_size]; exact hl) (fun i' row' r c h1 h2 => ?_)
  · rcases List.mem_or_eq_of_mem_set hx with hx | hx
    · exact hr r hx
    · subst hx; rw [splice_length]; exact hrow
  · rw [setAll_get]
    simp only [Nat.add_zero]
    by_cases hii : i = i'
    · subst hii
      rw [List.getElem?_set, if_pos rfl, if_pos hil] at h1
      cases h1
      rw [splice_get] at h2
      by_cases hin : j ≤ r ∧ r < j + cs.length ∧ r < row.length
      · rw [if_pos hin] at h2
        have hm : i * sz + sz ≤ rows.length * sz := by rw [← Nat.succ_mul]; exact Nat.mul_le_mul_right sz hil
        obtain ⟨u, hu, hv⟩ := hnew.get h2
        refine ⟨u, ?_, hv⟩
        rw [if_pos (by rw [← hnew.1]; omega), show o + i * sz + r - (o + i * sz + j) = r - j by omega]
        exact hu
      · rw [if_neg hin] at h2
        have hrl := (List.getElem?_eq_some_iff.1 h2).1
        obtain ⟨u, hu, hv⟩ := hc i row r c hi h2
        refine ⟨u, ?_, hold hv⟩
        rw [if_neg (by rw [← hnew.1]; omega)]
        exact hu
    · rw [List.getElem?_set, if_neg hii] at h1
      have hrl : r < sz := by rw [← hr row' (List.mem_of_getElem? h1)]; exact (List.getElem?_eq_some_iff.1 h2).1
      obtain ⟨u, hu, hv⟩ := hc i' row' r c h1 h2
      refine ⟨u, ?_, hold hv⟩
      have : i' * sz + sz ≤ i * sz ∨ i * sz + sz ≤ i' * sz := by
        rcases Nat.lt_or_gt_of_ne hii with hlt | hlt
        · exact .inr (by rw [← Nat.succ_mul]; exact Nat.mul_le_mul_right sz hlt)
        · exact .inl (by rw [← Nat.succ_mul]; exact Nat.mul_le_mul_right sz hlt)
      rw [if_neg (by rw [← hnew.1]; omega)]
      exact hu

section
variable {G : Gh} {p : Nat → Option (List AV)} {E : Env} {M : St} {w : World} {P : Program}

theorem SimM.setblk_le (hM : SimM G p E M w) {key : Key} {b o sz n : Nat} (hk : E.mu key = some (.blk b o sz n)) {ob' : Obj} (hsz : sizeH (setBlk w b ob').heap b = sizeH w.heap b) :
    LE E ⟨E.F, E.mu, (setBlk w b ob').heap⟩ := by
  obtain ⟨hF, hbl, hGM⟩ := hM.own _ _ _ _ _ hk
  have hoth : ∀ b', b' ≠ b → (setBlk w b ob').heap[b']? = w.heap[b']? := fun b' hne => by
    simp only [setBlk, Array.getElem?_setIfInBounds]
    rw [if_neg (fun e => hne e.symm)]
  refine ⟨fun _ h => h, fun _ _ h => h, fun b' h => by rw [hM.hp]; exact hoth b' (fun e => hF (e ▸ h)), fun k' b' o' s' n' h' => ?_⟩
  rw [hM.hp]
  by_cases hbe : b' = b
  · subst hbe; exact hsz
  · show sizeH (setBlk w b ob').heap b' = sizeH w.heap b'
    unfold sizeH; rw [hoth b' hbe]

/-- One block of the call's own is written, of the same size. -/
theorem SimM.setblk (hM : SimM G p E M w) {key : Key} {b o sz n : Nat} (hk : E.mu key = some (.blk b o sz n)) {ob' : Obj} (hsz : sizeH (setBlk w b ob').heap b = sizeH w.heap b) {M' : St}
    (hl : ∀ d, key ≠ .L d → lookL M'.l d = lookL M.l d) (ho : ∀ id, key ≠ .O id → M'.o[id]? = M.o[id]?) (hbb : M'.b = M.b) (hlen : M'.o.length = M.o.length)
    (hL : ∀ d, key = .L d → LocR p ⟨E.F, E.mu, (setBlk w b ob').heap⟩ (lookL M'.l d) d) (hO : ∀ id, key = .O id → ObR ⟨E.F, E.mu, (setBlk w b ob').heap⟩ M'.o[id]? (E.mu (.O id))) :
    LE E ⟨E.F, E.mu, (setBlk w b ob').heap⟩ ∧ SimM G p ⟨E.F, E.mu, (setBlk w b ob').heap⟩ M' (setBlk w b ob') := by
  obtain ⟨hF, hbl, hGM⟩ := hM.own _ _ _ _ _ hk
  have hoth : ∀ b', b' ≠ b → (setBlk w b ob').heap[b']? = w.heap[b']? := fun b' hne => by
    simp only [setBlk, Array.getElem?_setIfInBounds]
    rw [if_neg (fun e => hne e.symm)]
  have hsize : (setBlk w b ob').heap.size = w.heap.size := by simp [setBlk]
  have hle : LE E ⟨E.F, E.mu, (setBlk w b ob').heap⟩ := by
    refine ⟨fun _ h => h, fun _ _ h => h, fun b' h => by rw [hM.hp]; exact hoth b' (fun e => hF (e ▸ h)), fun k' b' o' s' n' h' => ?_⟩
    rw [hM.hp]
    by_cases hbe : b' = b
    · subst hbe; exact hsz
    · show sizeH (setBlk w b ob').heap b' = sizeH w.heap b'
      unfold sizeH; rw [hoth b' hbe]
  have hblk : ∀ k' b' o' s' n', k' ≠ key → E.mu k' = some (.blk b' o' s' n') → (setBlk w b ob').heap[b']? = E.h[b']? := fun k' b' o' s' n' hne h' => by
    rw [hM.hp]
    exact hoth b' (fun e => hne (by subst e; exact hM.inj _ _ _ _ _ _ _ _ _ h' hk))
  refine ⟨hle, rfl, hM.os, hM.tape, hM.output, by rw [hsize]; exact hM.size, fun b' h1 h2 => ?_, hM.F0, fun b' h => by rw [hsize]; exact hM.Flt b' h, hM.Fnew, fun k' b' o' s' n' h => ?_, hM.inj, fun d => ?_, fun id => ?_, fun id hid => ?_, by rw [hbb, hlen]; exact hM.bl, fun b' hb' => by
    rw [← hM.szs b' hb']
    by_cases hbe : b' = b
    · subst hbe; exact hsz
    · unfold sizeH; rw [hoth b' hbe]⟩
  · rw [hoth b' (fun e => ?_)]
    · exact hM.keep b' h1 h2
    · subst e
      rcases hGM with hg | hg
      · exact h2 hg
      · omega
  · rw [hsize]; exact hM.own k' b' o' s' n' h
  · by_cases hd : key = .L d
    · exact hL d hd
    · rw [hl d hd]
      have := hM.loc d
      revert this
      cases lookL M.l d with
      | none => exact fun h => h
      | some row =>
        rintro (⟨b', h1, h2, h3, us, ty, h4, h5, h6⟩ | h)
        · refine .inl ⟨b', h1, h2, h3, us, ty, (hblk _ _ _ _ _ (fun e => hd e.symm) h1).trans h4, h5, fun m c hc => ?_⟩
          obtain ⟨u, hu, hv⟩ := h6 m c hc
          exact ⟨u, hu, hv.mono hle⟩
        · exact .inr h
  · by_cases hd : key = .O id
    · exact hO id hd
    · rw [ho id hd]
      have := hM.obj id
      revert this
      cases M.o[id]? with
      | none =>
        show ObR E _ (E.mu (.O id)) → ObR _ _ (E.mu (.O id))
        cases E.mu (.O id) <;> exact fun h => h
      | some ob =>
        cases ob with
        | dead =>
          show ObR E _ (E.mu (.O id)) → ObR _ _ (E.mu (.O id))
          cases E.mu (.O id) <;> exact fun h => h
        | arr fl sz' rows =>
          show ObR E _ (E.mu (.O id)) → ObR _ _ (E.mu (.O id))
          cases hm : E.mu (.O id) with
          | none => exact fun h => h
          | some mv =>
            cases mv with
            | virt => exact fun h => h
            | blk b' o' s' n' =>
              rintro ⟨h1, h2, h3, us, ty, h4, h5, h6⟩
              refine ⟨h1, h2, h3, us, ty, (hblk _ _ _ _ _ (fun e => hd e.symm) hm).trans h4, h5, fun m c hc => ?_⟩
              obtain ⟨u, hu, hv⟩ := h6 m c hc
              refine ⟨u, hu, ?_⟩
              cases fl with
              | true => exact hv.mono hle.fz
              | false => exact hv.mono hle.ob
        | mapo fl es =>
          show ObR E _ (E.mu (.O id)) → ObR _ _ (E.mu (.O id))
          cases hm : E.mu (.O id) with
          | none => exact fun h => h
          | some mv =>
            cases mv with
            | virt => exact fun h => h
            | blk b' o' s' n' =>
              rintro ⟨ms, clock, h1, h2, h3⟩
              refine ⟨ms, clock, (hblk _ _ _ _ _ (fun e => hd e.symm) hm).trans h1, h2, fun i e m h4 h5 => ?_⟩
              obtain ⟨h6, h7⟩ := h3 i e m h4 h5
              refine ⟨h6, ?_⟩
              cases fl with
              | true => exact h7.mono hle.fz
              | false => exact h7.mono hle.ob
  · rcases hM.old id (by rw [← hbb]; exact hid) with h | h
    · by_cases hd : key = .O id
      · subst hd
        have := hM.obj id
        rw [h, hk] at this
        exact this.elim
      · exact .inl (by rw [ho id hd]; exact h)
    · exact .inr h

theorem lookL_set {l : List (Nat × List AV)} {d : Nat} {row row' : List AV} (h : lookL l d = some row) (e : Nat) : lookL (setL l d row') e = if d = e then some row' else lookL l e := by
  induction l with
  | nil => cases h
  | cons x xs ih =>
    obtain ⟨x1, x2⟩ := x
    unfold lookL at h
    unfold setL
    by_cases hx : x1 = d
    · subst hx
      rw [if_pos rfl]
      show (if x1 = e then some row' else lookL xs e) = (if x1 = e then some row' else (if x1 = e then some x2 else lookL xs e))
      by_cases he : x1 = e
      · rw [if_pos he, if_pos he]
      · rw [if_neg he, if_neg he, if_neg he]
    · rw [if_neg hx] at h ⊢
      show (if x1 = e then some x2 else lookL (setL xs d row') e) = (if d = e then some row' else (if x1 = e then some x2 else lookL xs e))
      rw [ih h]
      by_cases he : x1 = e
      · rw [if_pos he, if_pos he, if_neg (fun hd => hx (he.trans hd.symm))]
      · rw [if_neg he, if_neg he]

end

end A
end Go.Proofs.Ytnjpjmeoednfcaa
