/- New boxes, new slices, new maps, as steps. -/
import Derived.Test.YtnjpjmeoednfcaaA17
namespace Go.Proofs.Ytnjpjmeoednfcaa
namespace A
open Go
open Go.RowKit (Below)

/-- What a step says of a whole state. -/
def XStep (P : Program) (G : Gh) (o : Oper) (a : Act) (w : World) (K : St → Prop) : Prop :=
  ∀ (next : Act → World → Prop) (Q : Exit → Act → World → Prop), (∀ S' E' a' w', K S' → SimM G pn E' S' w' → TR E' S'.t a' → next a' w') → o.wp P a w next Q

section
variable {G : Gh} {E : Env} {S : St} {w : World} {P : Program} {o : Oper} {a : Act} {K : St → Prop}

theorem setT_l {S : St} {dst : Option Tmp} {x : AV} : (setT S dst x).l = S.l := by cases dst <;> rfl
theorem setT_o {S : St} {dst : Option Tmp} {x : AV} : (setT S dst x).o = S.o := by cases dst <;> rfl
theorem setT_b {S : St} {dst : Option Tmp} {x : AV} : (setT S dst x).b = S.b := by cases dst <;> rfl

/-- From a step that yields a value. -/
theorem XStep.of1 {k : AV → St → Prop} {M : St} (_hM : M.l = S.l ∧ M.o = S.o ∧ M.b = S.b) (ht : TR E S.t a) (h : Steps1 P G pn E M o a w k) (hk : ∀ r M', k r M' → ∃ S', K S' ∧ S' = setT { t := S.t, l := M'.l, o := M'.o, b := M'.b } o.dst r) : XStep P G o a w K := by
  intro next Q hn
  refine h next Q (fun r z E' w' M' hkr hv hle _ hS => ?_)
  obtain ⟨S', hK, rfl⟩ := hk r M' hkr
  refine hn _ E' _ w' hK (hS.congr setT_l setT_o setT_b) ?_
  exact (TR.mono (t := S.t) ht hle).put (S := { t := S.t, l := M'.l, o := M'.o, b := M'.b }) hv

/-- The operation yields a value in a world with a new block. -/
theorem wp_value {z : Value} {w' : World} (hrun : (execOp a.eval o).run P w = .ok (.value z) w') {next : Act → World → Prop} {Q : Exit → Act → World → Prop} (h : next (a.put o.dst z) w') : o.wp P a w next Q := by
  unfold Oper.wp
  rw [hrun]
  exact h

theorem run_newVar (t : TypeId) (v : Value) : (newVar t v).run P w = .ok ⟨w.heap.size, 0, none⟩ { w with heap := w.heap.push (.cells v.cells t) } := by
  unfold newVar newRow
  rw [Sem.run_bind]
  rfl

/-- A box of cells for a slot. -/
theorem box_sound {pl : Pol} (hM : SimM G pn E S w) (ht : TR E S.t a) {cs : List AV} {v : Value} {ty : TypeId} (h : boxK pl o.dst cs S K) (hcs : VRs E cs v.cells.toList)
    (hrun : (execOp a.eval o).run P w = .ok (.value (.pointer (some ⟨w.heap.size, 0, none⟩))) { w with heap := w.heap.push (.cells v.cells ty) }) : XStep P G o a w K := by
  intro next Q hn
  refine wp_value hrun ?_
  unfold boxK at h
  split at h
  · exact False.elim h
  · rename_i d hd
    replace h := Chk_elim h; obtain ⟨hpos, h⟩ := h
    have hpos' : 0 < cs.length := Nat.le_of_ble_eq_true hpos
    have arr : ∀ {E1 : Env}, VRs E1 cs v.cells.toList → ArrR E1 (w.heap.push (.cells v.cells ty)) [cs] w.heap.size 0 cs.length := by
      intro E1 hcs1
      refine ArrR.of_rows hpos' (fun r hr => by simp at hr; subst hr; rfl) (push_get w _) (by have := hcs1.1; simp at this; simp; omega) (fun i row r c h1 h2 => ?_)
      cases i with
      | zero =>
        simp at h1
        subst h1
        obtain ⟨u, hu, hv⟩ := hcs1.get h2
        exact ⟨u, by simpa using hu, hv⟩
      | succ i => simp at h1
    split at h
    · replace h := Chk_elim h; obtain ⟨hnl, h⟩ := h
      rw [forceO_iff, setK_iff] at h
      have hkey : E.mu (.O S.o.length) = none := by
        have := hM.obj S.o.length
        rw [List.getElem?_eq_none (Nat.le_refl _)] at this
        revert this
        cases E.mu (.O S.o.length) with
        | none => exact fun _ => rfl
        | some _ => exact fun h => h.elim
      obtain ⟨hle, hS⟩ := hM.newkey (ob := .cells v.cells ty) (key := .O S.o.length) (sz := cs.length) (n := 1) hkey
        (M' := { t := S.t, l := S.l, o := S.o ++ [.arr (cs.all (rfree 4)) cs.length [cs]], b := S.b }) (fun _ _ => rfl)
        (fun id he => by
          show (S.o ++ [_])[id]? = _
          rcases Nat.lt_trichotomy id S.o.length with h1 | h1 | h1
          · rw [List.getElem?_append_left h1]
          · exact absurd (by rw [h1]) he
          · rw [List.getElem?_eq_none (by simp; omega), List.getElem?_eq_none (by omega)]) rfl (by have := hM.bl; simp; omega) (fun id he => by cases he; exact hM.bl)
        (fun d he => by cases he)
        (fun id he hle => by
          cases he
          show ObR _ (S.o ++ [_])[S.o.length]? _
          rw [List.getElem?_append_right (Nat.le_refl _), Nat.sub_self]
          refine ⟨⟨rfl, rfl⟩, arr ⟨hcs.1, fun m c u h1 h2 => ?_⟩⟩
          have hmem := List.mem_of_getElem? h1
          have hv := (hcs.2 m c u h1 h2).mono hle
          cases hf : cs.all (rfree 4) with
          | true => exact rfree_fz 4 (List.all_eq_true.1 hf c hmem) hv
          | false => exact noL_ob 4 (List.all_eq_true.1 hnl c hmem) hv)
      refine hn _ _ _ _ h (hS.congr rfl rfl rfl) ?_
      have := (ht.mono hle).put (S := S) (dst := o.dst) (c := .ptr (.O S.o.length) 0 0) (u := .pointer (some ⟨w.heap.size, 0, none⟩)) (by
        have hmu : addMu E.mu (.O S.o.length) (.blk w.heap.size 0 cs.length 1) (.O S.o.length) = some (.blk w.heap.size 0 cs.length 1) := by unfold addMu; rw [if_pos rfl]
        have := VR.ptr (E := ⟨E.F, addMu E.mu (.O S.o.length) (.blk w.heap.size 0 cs.length 1), w.heap.push (.cells v.cells ty)⟩) 0 0 hmu
        simpa using this)
      rw [hd] at this ⊢
      exact this
    · rw [dropK_iff, killL_iff, setK_iff] at h
      obtain ⟨E1, hM1, ht1, hmu1, hF1, hl1, ho1, hb1, hoth, hlen, hke⟩ := drop_sound hM ht d
      have hcs1 : VRs E1 (cs.map (killA 4 (.L d))) v.cells.toList := ⟨by simpa using hcs.1, fun m c u h1 h2 => by
        rw [List.getElem?_map, Option.map_eq_some_iff] at h1
        obtain ⟨c', h3, rfl⟩ := h1
        exact killA_sound 4 hke (hcs.2 m c' u h3 h2)⟩
      have arr' : ∀ {E2 : Env}, VRs E2 (cs.map (killA 4 (.L d))) v.cells.toList → ArrR E2 (w.heap.push (.cells v.cells ty)) [cs.map (killA 4 (.L d))] w.heap.size 0 cs.length := by
        intro E2 h2
        refine ArrR.of_rows hpos' (fun r hr => by simp at hr; subst hr; simp) (push_get w _) (by have := h2.1; simp at this; simp; omega) (fun i row r c h3 h4 => ?_)
        cases i with
        | zero =>
          simp only [List.getElem?_cons_zero, Option.some.injEq] at h3
          subst h3
          obtain ⟨u, hu, hv⟩ := h2.get h4
          exact ⟨u, by simpa using hu, hv⟩
        | succ i => simp at h3
      obtain ⟨hle, hS⟩ := hM1.newkey (ob := .cells v.cells ty) (key := .L d) (sz := cs.length) (n := 1) hmu1
        (M' := { t := (dropped d S).t, l := (d, cs.map (killA 4 (.L d))) :: (dropped d S).l, o := (dropped d S).o, b := (dropped d S).b })
        (fun e he => by
          show (if d = e then _ else lookL (dropped d S).l e) = _
          rw [if_neg (fun h => he (by rw [h]))]) (fun _ _ => rfl) rfl hM1.bl (fun id he => by cases he)
        (fun e he hle => by
          cases he
          show LocR pn _ (if d = d then _ else _) d
          rw [if_pos rfl]
          refine .inl ⟨w.heap.size, ?_, ?_⟩
          · show addMu E1.mu (.L d) _ (.L d) = _
            unfold addMu
            rw [if_pos rfl, List.length_map]
          · rw [List.length_map]
            exact arr' (hcs1.mono hle))
        (fun id he => by cases he)
      refine hn _ _ _ _ h (hS.congr rfl rfl rfl) ?_
      have := (ht1.mono hle).put (S := dropped d S) (dst := o.dst) (c := .ptr (.L d) 0 0) (u := .pointer (some ⟨w.heap.size, 0, none⟩)) (by
        have hmu : addMu E1.mu (.L d) (.blk w.heap.size 0 cs.length 1) (.L d) = some (.blk w.heap.size 0 cs.length 1) := by unfold addMu; rw [if_pos rfl]
        have := VR.ptr (E := ⟨E1.F, addMu E1.mu (.L d) (.blk w.heap.size 0 cs.length 1), w.heap.push (.cells v.cells ty)⟩) 0 0 hmu
        simpa using this)
      rw [hd] at this ⊢
      exact this

theorem alloc_sound {pl : Pol} {e : TypeId} (hM : SimM G pn E S w) (ht : TR E S.t a) (ho : o.op = .alloc e) (h : zeroRow P e fun cs => boxK pl o.dst cs S K) : XStep P G o a w K := by
  obtain ⟨i, z, cs, hi, hz, hs, h, hcs⟩ := zeroRow_sound h
  refine box_sound (ty := e) (v := z) hM ht h (hcs E) ?_
  simp [execOp, ho, Instr.alloc, run_zeroValue hi hz, run_newVar]

theorem boxop_sound {pl : Pol} {e : TypeId} {x : Operand} (hM : SimM G pn E S w) (ht : TR E S.t a) (ho : o.op = .box e x) (h : getK S x fun c => cellsK c fun cs => boxK pl o.dst cs S K) : XStep P G o a w K := by
  obtain ⟨c, h, hc⟩ := getK_elim h ht
  obtain ⟨cs, h, hcs, _⟩ := cellsK_sound h hc
  refine box_sound (ty := e) (v := a.eval x) hM ht h hcs ?_
  simp [execOp, ho, Instr.box, run_newVar]

theorem newid (hM : SimM G pn E S w) : E.mu (.O S.o.length) = none := by
  have := hM.obj S.o.length
  rw [List.getElem?_eq_none (Nat.le_refl _)] at this
  revert this
  cases E.mu (.O S.o.length) with
  | none => exact fun _ => rfl
  | some _ => exact fun h => h.elim

/-- A new object. -/
theorem newobj_sound (hM : SimM G pn E S w) (ht : TR E S.t a) {ob : Obj} {x : Ob} {sz n : Nat} {r : AV} {z : Value} (hrun : (execOp a.eval o).run P w = .ok (.value z) { w with heap := w.heap.push ob })
    (hO : ∀ E', LE E E' → E'.h = w.heap.push ob → ObR E' (some x) (some (.blk w.heap.size 0 sz n)))
    (hv : ∀ E', E'.h = w.heap.push ob → E'.mu (.O S.o.length) = some (.blk w.heap.size 0 sz n) → VR E' r z)
    (hK : K (setT { t := S.t, l := S.l, o := S.o ++ [x], b := S.b } o.dst r)) : XStep P G o a w K := by
  intro next Q hn
  refine wp_value hrun ?_
  obtain ⟨hle, hS⟩ := hM.newkey (ob := ob) (key := .O S.o.length) (sz := sz) (n := n) (newid hM)
    (M' := { t := S.t, l := S.l, o := S.o ++ [x], b := S.b }) (fun _ _ => rfl)
    (fun id he => by
      show (S.o ++ [_])[id]? = _
      rcases Nat.lt_trichotomy id S.o.length with h1 | h1 | h1
      · rw [List.getElem?_append_left h1]
      · exact absurd (by rw [h1]) he
      · rw [List.getElem?_eq_none (by simp; omega), List.getElem?_eq_none (by omega)]) rfl (by have := hM.bl; simp; omega) (fun id he => by cases he; exact hM.bl)
    (fun d he => by cases he)
    (fun id he hle => by
      cases he
      show ObR _ (S.o ++ [_])[S.o.length]? _
      rw [List.getElem?_append_right (Nat.le_refl _), Nat.sub_self]
      exact hO _ hle rfl)
  refine hn _ _ _ _ hK (hS.congr setT_l setT_o setT_b) ?_
  exact (TR.mono (t := S.t) ht hle).put (S := { t := S.t, l := S.l, o := S.o ++ [x], b := S.b }) (hv _ rfl (by
    show addMu _ _ _ _ = _
    unfold addMu
    rw [if_pos rfl]))

theorem makeMap_sound {t : TypeId} (hM : SimM G pn E S w) (ht : TR E S.t a) (ho : o.op = .makeMap t none) (h : forceO (S.o ++ [.mapo true []]) fun o' => putK o.dst (.mp S.o.length) { t := S.t, l := S.l, o := o', b := S.b } K) : XStep P G o a w K := by
  rw [forceO_iff, putK_iff] at h
  refine newobj_sound (ob := .map #[] 0) (x := .mapo true []) (sz := 0) (n := 0) (z := .map (some w.heap.size)) hM ht ?_ (fun E' _ hh => ?_) (fun E' _ hmu => .mp hmu) h
  · simp [execOp, ho, Instr.makeMap]
  · refine ⟨#[], 0, ?_, rfl, fun i e m h1 => by simp at h1⟩
    rw [hh]
    exact push_get w _
end

end A
end Go.Proofs.Ytnjpjmeoednfcaa
