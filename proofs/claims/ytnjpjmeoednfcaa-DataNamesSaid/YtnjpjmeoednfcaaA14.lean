/- Stores, calls that neither see nor turn the caller's objects, and all operations that see memory, as steps. -/
import Derived.Test.YtnjpjmeoednfcaaA13
namespace Go.Proofs.Ytnjpjmeoednfcaa
namespace A
open Go
open Go.RowKit (Below)

theorem run_numGo {P : Program} {f : Nat} {fn : Func} {c : Code} (hf : P.funcs[f]? = some fn) (hb : fn.body = some c) (hn : (fn.name == "runtime.NumGoroutine") = false) (args : Array Value) (w : World) :
    (callFunc f args).run P w = .ok (.enter f args) w := by
  unfold callFunc
  have hn' : ¬ fn.name = "runtime.NumGoroutine" := by simpa using hn
  simp [run_program, hf, hn', hb]

def HasBody (P : Program) (f : Nat) : Prop := ∃ fn c, P.funcs[f]? = some fn ∧ fn.body = some c ∧ (fn.name == "runtime.NumGoroutine") = false

/-- In whatever world, the call hands back this value, and turns nothing that was there. -/
def PureEq (P : Program) (f : Nat) (args : List AV) (r : AV) : Prop :=
  HasBody P f ∧ ∀ (F : Nat → Prop) (w : World) (us : Array Value), (∀ b, F b → b < w.heap.size) → VRs ⟨F, fun _ => none, w.heap⟩ args us.toList →
    Calls P f us w fun e w' => ∃ v F', e = .returned v ∧ VR ⟨F', fun _ => none, w'.heap⟩ r v ∧ Below w.heap.size w w' ∧ (∀ b, F b → F' b) ∧ (∀ b, F' b → b < w'.heap.size) ∧ (∀ b, F' b → b < w.heap.size → F b)
def PCall (P : Program) (f : Nat) (args : List AV) (K : AV → Prop) : Prop := ∃ r, PureEq P f args r ∧ K r

theorem scal_any : ∀ (n : Nat) {E E' : Env} {a : AV} {u : Value}, scal n a = true → VR E a u → VR E' a u
  | 0, _, _, _, _, h, _ => by cases h
  | n + 1, E, E', a, u, h, hv => by
    have lst : ∀ {cs : List AV} {us : Array Value}, cs.all (scal n) = true → (∀ (m : Nat) (c : AV) (u : Value), cs[m]? = some c → us[m]? = some u → VR E c u) →
        ∀ (m : Nat) (c : AV) (u : Value), cs[m]? = some c → us[m]? = some u → VR E' c u :=
      fun ha hc m c u h1 h2 => scal_any n (List.all_eq_true.1 ha c (List.mem_of_getElem? h1)) (hc m c u h1 h2)
    unfold scal at h
    cases hv with
    | v _ x hx => exact .v _ _ hx
    | nilp => exact .nilp _
    | nilsl => exact .nilsl _
    | esln => exact .esln _
    | esl a => exact .esl _ _
    | nilmap => exact .nilmap _
    | nilfn => exact .nilfn _
    | agg us h1 h2 => exact .agg us h1 (lst h h2)
    | tup us h1 h2 => exact .tup us h1 (lst h h2)
    | bad => cases h
    | ptr i j hm => cases h
    | fptr j us h1 h2 h3 h4 => cases h
    | sln => cases h
    | sle a cap => cases h
    | sl us h1 h2 h3 h4 h5 h6 h7 => cases h
    | mfn hm => cases h
    | mfe a hm => cases h
    | mf cap hm _ _ => cases h
    | msle off a hm => cases h
    | msl _ _ _ _ hm _ _ _ => cases h
    | mp hm => cases h
    | fn us ws h1 h2 h3 h4 => cases h

/-- The same boxes and objects. -/
def Same (E E' : Env) (M M' : St) : Prop := E'.mu = E.mu ∧ ∀ d, lookL M.l d ≠ none → lookL M'.l d ≠ none
theorem Same.rfl' {E E' : Env} {M : St} (h : E'.mu = E.mu) : Same E E' M M := ⟨h, fun _ h => h⟩

section
variable {G : Gh} {p : Nat → Option (List AV)} {E : Env} {M : St} {w : World} {P : Program}

theorem storeK_sound (hM : SimM G p E M w) {pa : AV} {up u : Value} {cs : List AV} {K : St → Prop} {t : TypeId} {i : TypeInfo} (h : storeK M pa cs K) (hp : VR E pa up) (hcs : VRs E cs u.cells.toList) (hok : ∀ c ∈ cs, okCell c = true)
    (hi : P.info? t = some i) (hlen : cs.length = i.size) : ∃ M' w' E', K M' ∧ (Instr.storeAt t up u).run P w = .ok () w' ∧ LE E E' ∧ SimM G p E' M' w' ∧ Same E E' M M' := by
  have hn : ∀ v ∈ u.cells.toList, notAgg v = true := by
    intro v hv
    obtain ⟨m, hm, hmv⟩ := List.getElem_of_mem hv
    have hmc : m < cs.length := by rw [hcs.1]; exact hm
    exact okCell_val (hok _ (List.getElem_mem hmc)) (hcs.2 m _ v (List.getElem?_eq_getElem hmc) (by rw [← hmv]; exact List.getElem?_eq_getElem hm))
  have hcl : cs.length = u.cells.size := by simpa using hcs.1
  unfold storeK at h
  split at h
  · rename_i d ii j
    cases hp with
    | ptr _ _ hm =>
      rename_i b o sz n
      split at h
      · rename_i row hrow
        split at h
        · replace h := Chk_elim h; obtain ⟨hb, h⟩ := h
          rw [forceL_iff, forceLoc_iff] at h
          have hle := Nat.le_of_ble_eq_true hb
          have hloc := hM.loc d
          rw [hrow] at hloc
          rcases hloc with ⟨b', h1, h2⟩ | ⟨h1, _⟩
          · rw [hm] at h1
            cases h1
            obtain ⟨us, ty, hblk, hsz, hget⟩ := h2.get
            have h0 := h2.1
            rw [hM.hp] at hblk
            simp only [List.length_singleton, Nat.one_mul, Nat.zero_add] at hsz
            have hrun := run_storeAt (P := P) (t := t) (b := b) (off := 0 + 0 * row.length + j) hi hblk (by rw [← hcl, hlen]) hn (by simp; omega)
            have hblt : b < w.heap.size := (Array.getElem?_eq_some_iff.1 hblk).1
            have hs : sizeH (setBlk w b (.cells (setAll us (0 + 0 * row.length + j) u.cells.toList 0) ty (0, 0))).heap b = sizeH w.heap b := by
              unfold sizeH
              rw [heap_setBlk hblt, hblk]
              simp [setAll_size]
            have hle' := hM.setblk_le hm hs
            have hst := ArrR.store (E2 := ⟨E.F, E.mu, _⟩) h0 h2.2.1 (by simpa using hsz) hget (fun hv => hv.mono hle') (hcs.mono hle') (i := 0) rfl hle (ty := ty) (heap_setBlk hblt)
            obtain ⟨_, hS⟩ := hM.setblk hm hs (M' := { t := M.t, l := setL M.l d (splice row j cs), o := M.o, b := M.b })
              (fun e he => by rw [lookL_set hrow, if_neg (fun hd => he (by rw [hd]))]) (fun _ _ => rfl) rfl rfl
              (fun e he => by
                cases he
                rw [lookL_set hrow, if_pos rfl]
                exact .inl ⟨b, by rw [splice_length]; exact hm, by rw [splice_length]; exact hst⟩)
              (fun e he => by cases he)
            exact ⟨_, _, _, h, hrun, hle', hS, rfl, fun e he => by
              show lookL (setL M.l d (splice row j cs)) e ≠ none
              rw [lookL_set hrow]
              by_cases hd : d = e
              · rw [if_pos hd]; exact fun h => by cases h
              · rw [if_neg hd]; exact he⟩
          · rw [hm] at h1; cases h1
        · exact False.elim h
      · exact False.elim h
  · rename_i id ii j
    cases hp with
    | ptr _ _ hm =>
      rename_i b o sz n
      split at h
      · rename_i fl sz' rows hob
        split at h
        · rename_i row hrow
          replace h := Chk_elim h; obtain ⟨hb, h⟩ := h
          simp only [Bool.and_eq_true] at hb
          rw [forceL_iff, forceO_iff] at h
          have hle := Nat.le_of_ble_eq_true hb.1
          have ho := hM.obj id
          rw [hob, hm] at ho
          obtain ⟨⟨rfl, rfl⟩, h2⟩ := ho
          obtain ⟨us, ty, hblk, hsz, hget⟩ := h2.get
          have h0 := h2.1
          rw [hM.hp] at hblk
          have hrl := h2.2.1 row (List.mem_of_getElem? hrow)
          have hil := (List.getElem?_eq_some_iff.1 hrow).1
          have hmul : ii * sz + sz ≤ rows.length * sz := by rw [← Nat.succ_mul]; exact Nat.mul_le_mul_right sz hil
          have hrun := run_storeAt (P := P) (t := t) (b := b) (off := o + ii * sz + j) hi hblk (by rw [← hcl, hlen]) hn (by omega)
          have hblt : b < w.heap.size := (Array.getElem?_eq_some_iff.1 hblk).1
          have hs : sizeH (setBlk w b (.cells (setAll us (o + ii * sz + j) u.cells.toList 0) ty (0, 0))).heap b = sizeH w.heap b := by
            unfold sizeH
            rw [heap_setBlk hblt, hblk]
            simp [setAll_size]
          have hle' := hM.setblk_le hm hs
          have hst : ArrR (envOf ⟨E.F, E.mu, (setBlk w b (.cells (setAll us (o + ii * sz + j) u.cells.toList 0) ty (0, 0))).heap⟩ (fl && cs.all (rfree 4))) (setBlk w b (.cells (setAll us (o + ii * sz + j) u.cells.toList 0) ty (0, 0))).heap (rows.set ii (splice row j cs)) b o sz := by
            have hnew : VRs (envOf ⟨E.F, E.mu, (setBlk w b (.cells (setAll us (o + ii * sz + j) u.cells.toList 0) ty (0, 0))).heap⟩ (fl && cs.all (rfree 4))) cs u.cells.toList := by
              have hcs' := hcs.mono hle'
              refine ⟨hcs'.1, fun m c v h3 h4 => ?_⟩
              have hmem := List.mem_of_getElem? h3
              cases hf : (fl && cs.all (rfree 4)) with
              | true =>
                simp only [Bool.and_eq_true] at hf
                exact rfree_fz 4 (List.all_eq_true.1 hf.2 c hmem) (hcs'.2 m c v h3 h4)
              | false => exact noL_ob 4 (List.all_eq_true.1 hb.2 c hmem) (hcs'.2 m c v h3 h4)
            refine ArrR.store h0 h2.2.1 hsz hget (fun {c u} hv => ?_) hnew hrow hle (heap_setBlk hblt)
            cases fl with
            | true =>
              cases hf : cs.all (rfree 4) with
              | true => exact hv.mono hle'.fz
              | false => exact (hv.mono hle'.fz).fz_ob
            | false => exact hv.mono hle'.ob
          obtain ⟨_, hS⟩ := hM.setblk hm hs (M' := { t := M.t, l := M.l, o := M.o.set id (.arr (fl && cs.all (rfree 4)) sz (rows.set ii (splice row j cs))), b := M.b })
            (fun _ _ => rfl) (fun e he => by simp only [List.getElem?_set]; rw [if_neg (fun hd => he (by rw [hd]))]) rfl (by simp)
            (fun e he => by cases he)
            (fun e he => by
              cases he
              have hlt : id < M.o.length := (List.getElem?_eq_some_iff.1 hob).1
              show ObR _ (M.o.set id _)[id]? _
              rw [List.getElem?_set_self hlt, hm]
              exact ⟨⟨rfl, by simp⟩, hst⟩)
          exact ⟨_, _, _, h, hrun, hle', hS, rfl, fun _ h => h⟩
        · exact False.elim h
      · exact False.elim h
  · exact False.elim h

/-- What a step of the evaluator says: the operation yields a value that is related, in a later state of memory. -/
def Steps1 (P : Program) (G : Gh) (p : Nat → Option (List AV)) (E : Env) (M : St) (o : Oper) (a : Act) (w : World) (k : AV → St → Prop) : Prop :=
  ∀ (next : Act → World → Prop) (Q : Exit → Act → World → Prop), (∀ r z E' w' M', k r M' → VR E' r z → LE E E' → Same E E' M M' → SimM G p E' M' w' → next (a.put o.dst z) w') → o.wp P a w next Q

theorem wop_sound {C : Ctx} (hM : SimM G p E M w) {o : Oper} {vs : List AV} {a : Act} {k : AV → St → Prop} (h : wop C o vs M k) (hv : VRs E vs (o.op.operands.toList.map a.eval)) : Steps1 C.P G p E M o a w k := by
  intro next Q hn
  unfold wop at h
  split at h
  · rename_i t X Y x y ho
    rw [ho] at hv
    obtain ⟨u, us, e, hc, hn1⟩ := hv.uncons
    obtain ⟨u1, us1, rfl, hc1, hn2⟩ := hn1.uncons
    simp [Op.operands] at e
    obtain ⟨cs, h, hcs, hok⟩ := cellsK_sound h hc1
    split at h
    · rename_i i hi
      replace h := Chk_elim h; obtain ⟨hb, h⟩ := h
      obtain ⟨M', w', E', hK, hrun, hle, hS, hsm⟩ := storeK_sound (P := C.P) hM h hc hcs hok hi (Nat.eq_of_beq_eq_true hb)
      unfold Oper.wp
      have : (execOp a.eval o).run C.P w = .ok .skip w' := by simp [execOp, ho, e.1, e.2.1, hrun]
      rw [this]
      exact hn _ undef _ _ _ hK (.bad _ _) hle hsm hS
    · exact False.elim h
  · exact False.elim h
end

end A
end Go.Proofs.Ytnjpjmeoednfcaa
