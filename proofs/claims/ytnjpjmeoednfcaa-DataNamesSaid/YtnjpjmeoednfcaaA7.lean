/- Operations that neither see nor turn memory of the call's own, part three: all of them. -/
import Derived.Test.YtnjpjmeoednfcaaA6
namespace Go.Proofs.Ytnjpjmeoednfcaa
namespace A
open Go

theorem run_mapM_list {α β : Type} {P : Program} {w : World} {g : α → Sem β} {val : α → β} : ∀ (l : List α), (∀ x ∈ l, (g x).run P w = .ok (val x) w) → (l.mapM g).run P w = .ok (l.map val) w
  | [], _ => by rw [List.mapM_nil]; rfl
  | x :: l, h => by
    rw [List.mapM_cons, Sem.run_bind, h x (by simp), Result.andThen_ok, Sem.run_bind, run_mapM_list l (fun y hy => h y (by simp [hy])), Result.andThen_ok]
    rfl
theorem run_mapM_array {α β : Type} {P : Program} {w : World} {g : α → Sem β} {val : α → β} (l : Array α) (h : ∀ x ∈ l.toList, (g x).run P w = .ok (val x) w) : (l.mapM g).run P w = .ok (l.map val) w := by
  rw [Array.mapM_eq_mapM_toList, Sem.run_map, run_mapM_list l.toList h]
  show Result.ok _ _ = _
  congr 1
  apply Array.ext'
  simp

theorem run_zeroValue {P : Program} {t : TypeId} {i : TypeInfo} {z : Value} (h : P.info? t = some i) (hz : i.zero = some z) (w : World) : (zeroValue t).run P w = .ok z w := by
  unfold zeroValue
  rw [Sem.run_bind, run_typeInfo w h, Result.andThen_ok, hz]
  rfl

theorem build_sound {P : Program} {t : TypeId} {ps : List (Nat × AV)} {qs : List (Nat × Value)} {k : AV → Prop} {E : Env} (h : buildK P t ps k) (hp : PRs E ps qs) (w : World) :
    ∃ r u, k r ∧ VR E r u ∧ (Instr.build t qs.toArray).run P w = .ok u w := by
  unfold buildK at h
  replace h := zeroRow_sound h; obtain ⟨i, z, cs0, hi, hz, hzs, h, hcs⟩ := h
  split at h
  · rename_i fs hu
    replace h := Chk_elim h; obtain ⟨hall, h⟩ := h
    obtain ⟨cs, us, hk, hv, hsz, hf⟩ := fill_sound hp (hcs E) h
    refine ⟨_, .agg us, hk, VRs.aggV hv, ?_⟩
    have hm : (fs.mapM fun f => do pure (f.offset, ← sizeOf f.type) : Sem (Array (Nat × Nat))).run P w = .ok (fs.map fun f => (f.offset, ((P.info? f.type).map (·.size)).getD 0)) w := by
      refine run_mapM_array fs (fun f hf => ?_)
      have := List.all_eq_true.1 hall f hf
      obtain ⟨fi, hfi⟩ := Option.isSome_iff_exists.1 this
      rw [Sem.run_bind, run_sizeOf hfi, hfi]
      rfl
    have hpl : (fun n => (fs.map fun f => (f.offset, ((P.info? f.type).map (·.size)).getD 0))[n]?) = fieldPl P fs := by
      funext n
      unfold fieldPl
      rw [Array.getElem?_map]
      cases hn : fs[n]? with
      | none => rfl
      | some f =>
        have := List.all_eq_true.1 hall f (by have := Array.mem_of_getElem? hn; simpa using this)
        obtain ⟨fi, hfi⟩ := Option.isSome_iff_exists.1 this
        simp [hfi]
    unfold Instr.build
    simp only [Sem.run_bind, run_zeroValue hi hz, Result.andThen_ok, run_underlying hu, Sem.run_pure, hm, hpl, hf]
  · rename_i n e hu
    split at h
    · rename_i ie hie
      obtain ⟨cs, us, hk, hv, hsz, hf⟩ := fill_sound hp (hcs E) h
      refine ⟨_, .agg us, hk, VRs.aggV hv, ?_⟩
      unfold Instr.build
      simp only [Sem.run_bind, run_zeroValue hi hz, Result.andThen_ok, run_underlying hu, Sem.run_pure, run_sizeOf hie, hf]
    · exact False.elim h
  · exact False.elim h

theorem fieldAddr_sound {P : Program} {t : TypeId} {x : AV} {f : Nat} {k : AV → Prop} {E : Env} {u : Value} (h : fieldAddrK P t x f k) (hx : VR E x u) (w : World) :
    ∃ r z, k r ∧ VR E r z ∧ (Instr.fieldAt t u f).run P w = .ok z w := by
  unfold fieldAddrK at h
  split at h
  · rename_i fs hu
    split at h
    · rename_i fl hfl
      split at h
      · rename_i inf hinf
        replace h := Chk_elim h; obtain ⟨hs, h⟩ := h
        have hne : inf.size ≠ 0 := by
          have := Nat.le_of_ble_eq_true hs
          omega
        have hrun : ∀ b o, (Instr.fieldAt t (.pointer (some ⟨b, o, none⟩)) f).run P w = .ok (.pointer (some ⟨b, o + fl.offset, none⟩)) w := by
          intro b o
          unfold Instr.fieldAt Instr.sureAddr fieldPlace
          simp only [Sem.run_bind, run_underlying hu, Result.andThen_ok, hfl, Sem.run_pure, run_sizeOf hinf, if_neg hne, add_none]
        split at h
        · rename_i key i j
          cases hx with
          | ptr _ _ hm => exact ⟨_, _, h, .ptr i (j + fl.offset) hm, by rw [hrun, Nat.add_assoc]⟩
        · rename_i row j
          cases hx with
          | fptr _ us h1 h2 h3 h4 => exact ⟨_, _, h, .fptr (j + fl.offset) us h1 h2 h3 h4, by rw [hrun, Nat.add_assoc]⟩
        · exact False.elim h
      · exact False.elim h
    · exact False.elim h
  · exact False.elim h

theorem field_sound {P : Program} {t : TypeId} {x : AV} {f : Nat} {k : AV → Prop} {E : Env} {u : Value} (h : fieldK P t x f k) (hx : VR E x u) (w : World) :
    ∃ r z, k r ∧ VR E r z ∧ (Instr.field t u f).run P w = .ok z w := by
  unfold fieldK at h
  split at h
  · rename_i fs cs hu
    split at h
    · rename_i fl hfl
      obtain ⟨us, rfl, hus⟩ := hx.aggI
      obtain ⟨r, z, hk, hv, hr⟩ := part_sound h hus w
      refine ⟨r, z, hk, hv, ?_⟩
      unfold Instr.field
      simp only [Sem.run_bind, run_underlying hu, Result.andThen_ok, hfl, asAgg, Sem.run_pure, hr]
    · exact False.elim h
  · exact False.elim h

theorem intOf_sound {E : Env} {a : AV} {u : Value} {k : Int → Prop} (h : intOf a k) (hv : VR E a u) : ∃ kd n, u = .int kd n ∧ k n := by
  unfold intOf at h
  split at h
  · exact ⟨_, _, hv.vI.1, h⟩
  · exact False.elim h

theorem index_sound {P : Program} {t : TypeId} {x ix : AV} {k : AV → Prop} {E : Env} {u v : Value} (h : indexK P t x ix k) (hx : VR E x u) (hi : VR E ix v) (w : World) :
    ∃ r z, k r ∧ VR E r z ∧ (Instr.index t u v).run P w = .ok z w := by
  unfold indexK at h
  replace h := intOf_sound h hi
  obtain ⟨kd, n, rfl, h⟩ := h
  split at h
  · rename_i len e cs hu
    split at h
    · rename_i inf hinf
      replace h := Chk_elim h; obtain ⟨hb, h⟩ := h
      simp only [Bool.and_eq_true, decide_eq_true_eq] at hb
      obtain ⟨us, rfl, hus⟩ := hx.aggI
      obtain ⟨r, z, hk, hv, hr⟩ := part_sound h hus w
      refine ⟨r, z, hk, hv, ?_⟩
      unfold Instr.index
      simp only [Sem.run_bind, asIntOf, Sem.run_pure, Result.andThen_ok, run_underlying hu, if_pos hb, run_sizeOf hinf, hr]
    · exact False.elim h
  · rename_i s hu
    obtain ⟨rfl, _⟩ := hx.vI
    split at h
    · rename_i b hb
      refine ⟨_, _, h, .v _ _ rfl, ?_⟩
      unfold Instr.index
      simp only [Sem.run_bind, asIntOf, Sem.run_pure, Result.andThen_ok, run_underlying hu, hb]
    · exact False.elim h
  · exact False.elim h

/-- What a frame holds where an operation asks. -/
theorem map_ops {a : Act} {xs : Array Operand} : (xs.map a.eval).toList = xs.toList.map a.eval := by simp

theorem pop_sound {C : Ctx} {pl : Pol} {o : Oper} {vs : List AV} {k : AV → Prop} {E : Env} {a : Act} (h : pop C pl o vs k) (hs : ∀ t len parts, o.op ≠ .buildSlice t len parts)
    (hv : VRs E vs (o.op.operands.toList.map a.eval)) (w : World) : ∃ r z, k r ∧ VR E r z ∧ (execOp a.eval o).run C.P w = .ok (.value z) w := by
  unfold pop at h
  split at h
  · rename_i x c ho
    rw [ho] at hv
    obtain ⟨u, us, e, hc, hn⟩ := hv.uncons
    simp [Op.operands] at e
    exact ⟨_, _, h, hc, by simp [execOp, ho, e.1]⟩
  · rename_i x c ho
    rw [ho] at hv
    obtain ⟨u, us, e, hc, hn⟩ := hv.uncons
    simp [Op.operands] at e
    exact ⟨_, _, h, hc, by simp [execOp, ho, e.1]⟩
  · rename_i xc xa xb c aa bb ho
    rw [ho] at hv
    obtain ⟨u, us, e, hc, hn⟩ := hv.uncons
    obtain ⟨u1, us1, rfl, hc1, hn1⟩ := hn.uncons
    obtain ⟨u2, us2, rfl, hc2, hn2⟩ := hn1.uncons
    simp [Op.operands] at e
    have e0 := hc.vI.1
    rcases Fork_elim h with ⟨rfl, h⟩ | ⟨rfl, h⟩
    · exact ⟨_, _, h, hc1, by simp [execOp, ho, e.1, e0, asBool, e.2.1]⟩
    · exact ⟨_, _, h, hc2, by simp [execOp, ho, e.1, e0, asBool, e.2.2.1]⟩
  · rename_i vs _ _ t parts ho
    rw [ho] at hv
    replace h := Chk_elim h; obtain ⟨hl, h⟩ := h
    have hp : PRs E ((parts.toList.map (·.1)).zip vs) (parts.toList.map fun p => (p.1, a.eval p.2)) := by
      have e1 : parts.toList.length = vs.length := by simpa using Nat.eq_of_beq_eq_true hl
      refine ⟨by rw [List.map_fst_zip (by simp [← e1])]; simp [Function.comp_def], ?_⟩
      rw [List.map_snd_zip (by simp [← e1])]
      simpa [Op.operands, Function.comp_def] using hv
    obtain ⟨r, z, hk, hr, hrun⟩ := build_sound h hp w
    refine ⟨r, z, hk, hr, ?_⟩
    have : (parts.map fun (p : Nat × Operand) => (p.1, a.eval p.2)) = (parts.toList.map fun p => (p.1, a.eval p.2)).toArray := by
      apply Array.ext'; simp
    simp [execOp, ho, this, hrun]
  · rename_i t len parts ho
    exact absurd ho (hs _ _ _)
  · rename_i x k' i j ho
    rw [ho] at hv
    obtain ⟨u, us, e, hc, hn⟩ := hv.uncons
    simp [Op.operands] at e
    have hc0 := hc
    cases hc with
    | ptr _ _ hm => exact ⟨_, _, h, hc0, by simp [execOp, ho, e.1]⟩
  · rename_i x row j ho
    rw [ho] at hv
    obtain ⟨u, us, e, hc, hn⟩ := hv.uncons
    simp [Op.operands] at e
    have hc0 := hc
    cases hc with
    | fptr _ us h1 h2 h3 h4 => exact ⟨_, _, h, hc0, by simp [execOp, ho, e.1]⟩
  · rename_i x f x1 y1 ho
    rw [ho] at hv
    obtain ⟨u, us, e, hc, hn⟩ := hv.uncons
    simp [Op.operands] at e
    have hc0 := hc
    cases hc with
    | fn us ws h1 h2 h3 h4 => exact ⟨_, _, h, hc0, by simp [execOp, ho, e.1]⟩
  · rename_i op t X Y yt x y ho
    rw [ho] at hv
    obtain ⟨u, us, e, hc, hn⟩ := hv.uncons
    obtain ⟨u1, us1, rfl, hc1, hn1⟩ := hn.uncons
    simp [Op.operands] at e
    obtain ⟨r, z, hk, hr, hrun⟩ := binK_sound h hc hc1 w X Y
    refine ⟨r, z, hk, hr, ?_⟩
    have : (execOp a.eval o) = (do pure (.value (← (do eqGuard op t X Y u u1; binOp op t u u1 : Sem Value)))) := by
      unfold execOp
      rw [ho, ← e.1, ← e.2.1]
    rw [this, Sem.run_bind, hrun]
    rfl
  · rename_i op t X x ho
    rw [ho] at hv
    obtain ⟨u, us, e, hc, hn⟩ := hv.uncons
    simp [Op.operands] at e
    obtain ⟨r, z, hk, hr, hrun⟩ := unK_sound h hc (P := C.P) w
    exact ⟨r, z, hk, hr, by simp [execOp, ho, e.1, hrun]⟩
  · rename_i vs _ _ f first cap ho
    rw [ho] at hv
    split at h
    · rename_i fid
      replace h := Chk_elim h; obtain ⟨hl, h⟩ := h
      rw [forceL_iff, forceL_iff] at h
      have hl' := Nat.eq_of_beq_eq_true hl
      have e1 : (o.op.operands.toList.map a.eval) = first.toList.map a.eval ++ cap.toList.map a.eval := by rw [ho]; simp [Op.operands]
      rw [ho] at e1
      rw [e1] at hv
      have h1 := hv.take first.size
      have h2 := hv.drop first.size
      rw [List.take_left' (by simp)] at h1
      rw [List.drop_left' (by simp)] at h2
      refine ⟨_, .func (.func fid) (first.map a.eval) (cap.map a.eval), h, .fn _ _ (by simpa using h1.1) (fun m c u hc hu => h1.2 m c u hc (by simpa using hu)) (by simpa using h2.1) (fun m c u hc hu => h2.2 m c u hc (by simpa using hu)), ?_⟩
      simp [execOp, ho, Instr.makeFunc]
    · exact False.elim h
  · rename_i t x f c ho
    rw [ho] at hv
    obtain ⟨u, us, e, hc, hn⟩ := hv.uncons
    simp [Op.operands] at e
    obtain ⟨r, z, hk, hr, hrun⟩ := fieldAddr_sound h hc w
    exact ⟨r, z, hk, hr, by simp [execOp, ho, e.1, hrun]⟩
  · rename_i t x f c ho
    rw [ho] at hv
    obtain ⟨u, us, e, hc, hn⟩ := hv.uncons
    simp [Op.operands] at e
    obtain ⟨r, z, hk, hr, hrun⟩ := field_sound h hc w
    exact ⟨r, z, hk, hr, by simp [execOp, ho, e.1, hrun]⟩
  · rename_i t x i c d ho
    rw [ho] at hv
    obtain ⟨u, us, e, hc, hn⟩ := hv.uncons
    obtain ⟨u1, us1, rfl, hc1, hn1⟩ := hn.uncons
    simp [Op.operands] at e
    obtain ⟨r, z, hk, hr, hrun⟩ := index_sound h hc hc1 w
    exact ⟨r, z, hk, hr, by simp [execOp, ho, e.1, e.2.1, hrun]⟩
  · rename_i x ix xs ho
    rw [ho] at hv
    obtain ⟨u, us, e, hc, hn⟩ := hv.uncons
    simp [Op.operands] at e
    obtain ⟨ws, rfl, hws⟩ := hc.tupI
    obtain ⟨c, hcc, hk⟩ := nthK_iff.1 h
    obtain ⟨z, hz, hvz⟩ := hws.get hcc
    rw [Array.getElem?_toList] at hz
    exact ⟨c, z, hk, hvz, by simp [execOp, ho, e.1, Instr.extract, hz]⟩
  · rename_i vs _ _ c ho
    rw [ho] at hv
    split at h
    · rename_i ka m kb n hcal
      replace h := Chk_elim h; obtain ⟨hk, h⟩ := h
      simp only [decide_eq_true_eq] at hk
      subst hk
      obtain ⟨args, he⟩ : ∃ args, args = c.args.toList := ⟨_, rfl⟩
      obtain ⟨u, us, e, hc, hn⟩ := hv.uncons
      obtain ⟨u1, us1, rfl, hc1, hn1⟩ := hn.uncons
      have hnil := hn1.unnil
      subst hnil
      obtain ⟨rfl, _⟩ := hc.vI
      obtain ⟨rfl, _⟩ := hc1.vI
      have e' : c.args.map a.eval = #[.int ka m, .int ka n] := by
        apply Array.ext'
        simpa [Op.operands, Call.operands, hcal] using e
      refine ⟨_, _, h, .v _ _ rfl, ?_⟩
      simp [execOp, ho, resolve, hcal, e', invoke, builtin, Builtin.min_, Builtin.min2]
    · rename_i ka m kb n hcal
      replace h := Chk_elim h; obtain ⟨hk, h⟩ := h
      simp only [decide_eq_true_eq] at hk
      subst hk
      obtain ⟨u, us, e, hc, hn⟩ := hv.uncons
      obtain ⟨u1, us1, rfl, hc1, hn1⟩ := hn.uncons
      have hnil := hn1.unnil
      subst hnil
      obtain ⟨rfl, _⟩ := hc.vI
      obtain ⟨rfl, _⟩ := hc1.vI
      have e' : c.args.map a.eval = #[.int ka m, .int ka n] := by
        apply Array.ext'
        simpa [Op.operands, Call.operands, hcal] using e
      refine ⟨_, _, h, .v _ _ rfl, ?_⟩
      simp [execOp, ho, resolve, hcal, e', invoke, builtin, Builtin.max_, Builtin.max2]
    · exact False.elim h
  · exact False.elim h

end A
end Go.Proofs.Ytnjpjmeoednfcaa
