/- Slice literals, as steps. -/
import Derived.Test.YtnjpjmeoednfcaaA19
namespace Go.Proofs.Ytnjpjmeoednfcaa
namespace A
open Go
open Go.RowKit (Below)

theorem chop_spec {n : Nat} : ∀ (m : Nat) {cs : List AV}, cs.length = m * n → (chop n m cs).flatten = cs ∧ (∀ r ∈ chop n m cs, r.length = n) ∧ (chop n m cs).length = m
  | 0, cs, h => by
    have : cs = [] := List.eq_nil_of_length_eq_zero (by simpa using h)
    subst this
    refine ⟨rfl, fun r hr => ?_, rfl⟩
    simp [chop] at hr
  | m + 1, cs, h => by
    rw [Nat.succ_mul] at h
    obtain ⟨h1, h2, h3⟩ := chop_spec (n := n) m (cs := cs.drop n) (by rw [List.length_drop]; omega)
    refine ⟨?_, fun r hr => ?_, by simp [chop, h3]⟩
    · simp only [chop, List.flatten_cons, h1, List.take_append_drop]
    · simp only [chop, List.mem_cons] at hr
      rcases hr with rfl | hr
      · rw [List.length_take]; omega
      · exact h2 r hr

theorem zrow_VRs {E : Env} {z : List AV} {zero : Array Value} {sz k : Nat} (hz : VRs E z zero.toList) (hs : zero.size = sz) (h0 : 0 < sz) : VRs E (List.replicate k z).flatten (zrow zero (k * sz)).toList := by
  have hzl : z.length = sz := by have := hz.1; simpa [hs] using this
  have hr : ∀ r ∈ List.replicate k z, r.length = sz := fun r hr => by rw [List.eq_of_mem_replicate hr]; exact hzl
  have hfl := flatten_len hr
  rw [List.length_replicate] at hfl
  refine ⟨by rw [hfl, Array.length_toList, zrow_size], fun m c u h1 h2 => ?_⟩
  have hm : m < k * sz := by rw [← hfl]; exact (List.getElem?_eq_some_iff.1 h1).1
  have hi : m / sz < k := Nat.div_lt_of_lt_mul (by rw [Nat.mul_comm]; exact hm)
  have hmm : m % sz < sz := Nat.mod_lt _ h0
  have hdm : m / sz * sz + m % sz = m := by rw [Nat.mul_comm]; exact Nat.div_add_mod m sz
  have hrow : (List.replicate k z)[m / sz]? = some z := by rw [List.getElem?_replicate, if_pos hi]
  have e1 := flatten_get hr hrow hmm
  rw [hdm] at e1
  rw [e1] at h1
  rw [Array.getElem?_toList] at h2
  have e2 := zrow_get (zero := zero) (n := k * sz) hs hmm (i := m / sz) (by rw [hdm]; exact hm)
  rw [hdm] at e2
  rw [e2] at h2
  exact hz.2 _ c u h1 (by rw [Array.getElem?_toList]; exact h2)

theorem run_buildSlice {P : Program} {w : World} {t e : TypeId} {i : TypeInfo} {z : Value} {len : Nat} {qs : List (Nat × Value)} {us : Array Value} (hu : P.underlying t = some (.slice e)) (hi : P.info? e = some i) (hz : i.zero = some z) (h0 : (len + 1) * i.size ≠ 0)
    (hle : (len + 1) * i.size ≤ 16777216) (hf : Instr.fill (fun n => some (n * i.size, i.size)) (zrow z.cells ((len + 1) * i.size)) qs = some us) :
    (Instr.buildSlice t (len + 1) qs.toArray).run P w = .ok (.slice (some ⟨w.heap.size, 0, none⟩) (len + 1) (len + 1)) { w with heap := w.heap.push (.cells us e) } := by
  unfold zrow at hf
  unfold Instr.buildSlice
  simp only [Sem.run_bind, run_underlying hu, Result.andThen_ok, run_sizeOf hi]
  rw [if_neg (by have : (2 : Nat) ^ 24 = 16777216 := by decide
                 rw [this]; omega), if_neg h0]
  simp only [Sem.run_bind, run_zeroValue hi hz, Result.andThen_ok, Sem.run_pure, hf]
  rfl
theorem run_buildSlice0 {P : Program} {w : World} {t e : TypeId} {i : TypeInfo} (hu : P.underlying t = some (.slice e)) (hi : P.info? e = some i) :
    (Instr.buildSlice t 0 #[]).run P w = .ok (.slice (some ⟨w.heap.size, 0, none⟩) 0 0) { w with heap := w.heap.push (.cells #[] e) } := by
  unfold Instr.buildSlice
  simp only [Sem.run_bind, run_underlying hu, Result.andThen_ok, run_sizeOf hi, Nat.zero_mul]
  rw [if_neg (by decide), if_pos trivial]
  simp only [Sem.run_bind, Sem.run_pure, Result.andThen_ok]
  have hf : ∀ f, Instr.fill f (Array.map (fun x => (#[] : Array Value)[x % (#[] : Array Value).size]!) (Array.range 0)) [] = some #[] := by
    intro f
    simp [Instr.fill]
  simp only [hf]
  rfl

section
variable {G : Gh} {p : Nat → Option (List AV)} {E : Env} {M : St} {w : World} {P : Program} {o : Oper} {a : Act}

theorem parts_rel {parts : Array (Nat × Operand)} {vs : List AV} {us : List Value} (hl : parts.toList.length = vs.length) (hv : VRs E vs us) (hu : us = (parts.toList.map (·.2)).map a.eval) :
    PRs E ((parts.toList.map (·.1)).zip vs) (parts.toList.map fun p => (p.1, a.eval p.2)) := by
  refine ⟨by rw [List.map_fst_zip (by simp [← hl])]; simp [Function.comp_def], ?_⟩
  rw [List.map_snd_zip (by simp [← hl])]
  rw [hu] at hv
  simpa [Function.comp_def] using hv

/-- A literal that is never written. -/
theorem buildFz_sound {pl : Pol} {t : TypeId} {len : Nat} {parts : Array (Nat × Operand)} {vs : List AV} {k : AV → Prop} (hM : SimM G p E M w) (ho : o.op = .buildSlice t len parts) (hl : parts.toList.length = vs.length)
    (hv : VRs E vs ((parts.toList.map (·.2)).map a.eval)) (h : buildFzK P pl o.dst t len ((parts.toList.map (·.1)).zip vs) k) : Steps1 P G p E M o a w (fun r M' => k r ∧ M' = M) := by
  have hp := parts_rel hl hv rfl
  have hex : (execOp a.eval o).run P w = ((Instr.buildSlice t len (parts.toList.map fun (p : Nat × Operand) => (p.1, a.eval p.2)).toArray).run P w).andThen fun z w' => .ok (.value z) w' := by
    have : (parts.map fun (p : Nat × Operand) => (p.1, a.eval p.2)) = (parts.toList.map fun p => (p.1, a.eval p.2)).toArray := by
      apply Array.ext'; simp
    unfold execOp
    rw [ho]
    simp [this]
  intro next Q hn
  unfold buildFzK at h
  split at h
  · split at h
    · rename_i e hu
      split at h
      · rename_i i hi
        replace h := Chk_elim h; obtain ⟨he, h⟩ := h
        have hnil : (parts.toList.map fun (p : Nat × Operand) => (p.1, a.eval p.2)) = [] := by
          have h1 := hp.1
          have h2 : (parts.toList.map (·.1)).zip vs = [] := by simpa using he
          rw [h2] at h1
          simp only [List.map_nil] at h1
          exact List.map_eq_nil_iff.1 h1.symm
        rw [hnil, run_buildSlice0 hu hi, Result.andThen_ok] at hex
        refine wp_value hex ?_
        obtain ⟨hle, hS⟩ := hM.below (F' := E.F) (below_push w (.cells #[] e)) (fun _ h => h) (fun b h => by have := hM.Flt b h; simp; omega) (fun b h _ => h)
        exact hn _ _ _ _ _ ⟨h, rfl⟩ (.esl _ _) hle (.rfl' rfl) hS
      · exact False.elim h
    · exact False.elim h
  · rename_i len
    split at h
    · rename_i e hu
      split at h
      · rename_i i hi
        obtain ⟨i', z, cs0, hi', hz, hzs, h, hcs⟩ := zeroRow_sound h
        rw [hi] at hi'
        cases hi'
        replace h := Chk_elim h; obtain ⟨hb, h⟩ := h
        simp only [Bool.and_eq_true] at hb
        have h0 : 0 < i.size := Nat.le_of_ble_eq_true hb.1
        have hle := Nat.le_of_ble_eq_true hb.2
        obtain ⟨cs, us, h, hvs, hsz, hf⟩ := fill_sound hp (zrow_VRs (k := len + 1) (hcs E) hzs h0) h
        replace h := Chk_elim h; obtain ⟨hrf, h⟩ := h
        simp only [Bool.and_eq_true] at hrf
        rw [forceRows_iff] at h
        have hne : (len + 1) * i.size ≠ 0 := Nat.mul_ne_zero (by omega) (by omega)
        rw [run_buildSlice hu hi hz hne hle hf, Result.andThen_ok] at hex
        refine wp_value hex ?_
        have hul : us.size = (len + 1) * i.size := by rw [hsz, zrow_size]
        have hcl : cs.length = (len + 1) * i.size := by rw [← hul]; simpa using hvs.1
        obtain ⟨hc1, hc2, hc3⟩ := chop_spec (n := i.size) (len + 1) hcl
        obtain ⟨hlE, hS⟩ := hM.below (F' := fun b => E.F b ∨ b = w.heap.size) (below_push w (.cells us e)) (fun _ h => .inl h) (fun b h => by
          rcases h with h | h
          · have := hM.Flt b h; simp; omega
          · subst h; simp) (fun b h hlt => by
          rcases h with h | h
          · exact h
          · omega)
        refine hn _ _ _ _ _ ⟨h, rfl⟩ ?_ hlE (.rfl' rfl) hS
        have := VR.sl (E := ⟨fun b => E.F b ∨ b = w.heap.size, E.mu, w.heap.push (.cells us e)⟩) (rows := chop i.size (len + 1) cs) (sz := i.size) (b := w.heap.size) (o := 0) (cap := len + 1) us.toList h0 hc2
          (by rw [hc1]; exact hvs.1.symm) (fun m c u h1 h2 => by
            rw [hc1] at h1
            exact (rfree_fz 4 (List.all_eq_true.1 hrf.2 c (List.mem_of_getElem? h1)) (hvs.2 m c u h1 h2)).mono hlE.fz) (.inr rfl)
          (fun m u hu' => by
            show cellH (w.heap.push _) _ _ = _
            unfold cellH
            rw [push_get]
            simpa using hu') (by rw [hc3]; exact Nat.le_refl _)
        rw [hc3] at this
        exact this
      · exact False.elim h
    · exact False.elim h
end

section
variable {G : Gh} {E : Env} {S : St} {w : World} {P : Program} {o : Oper} {a : Act} {K : St → Prop}
/-- A literal, of either kind. -/
theorem buildSlice_sound {pl : Pol} {t : TypeId} {len : Nat} {parts : Array (Nat × Operand)} (hM : SimM G pn E S w) (ht : TR E S.t a) (ho : o.op = .buildSlice t len parts)
    (h : getsK S (parts.toList.map (·.2)) fun vs => Chk (Nat.beq parts.size vs.length) (buildSliceK P pl o.dst t len ((parts.toList.map (·.1)).zip vs) S K)) : XStep P G o a w K := by
  obtain ⟨vs, h, hv⟩ := getsK_elim ht h
  replace h := Chk_elim h; obtain ⟨hpl, h⟩ := h
  have hl : parts.toList.length = vs.length := by simpa using Nat.eq_of_beq_eq_true hpl
  have hp := parts_rel (E := E) (a := a) hl hv rfl
  have hex : (execOp a.eval o).run P w = ((Instr.buildSlice t len (parts.toList.map fun (p : Nat × Operand) => (p.1, a.eval p.2)).toArray).run P w).andThen fun z w' => .ok (.value z) w' := by
    have : (parts.map fun (p : Nat × Operand) => (p.1, a.eval p.2)) = (parts.toList.map fun p => (p.1, a.eval p.2)).toArray := by
      apply Array.ext'; simp
    unfold execOp
    rw [ho]
    simp [this]
  unfold buildSliceK at h
  split at h
  · split at h
    · rename_i e hu
      split at h
      · rename_i i hi
        replace h := Chk_elim h; obtain ⟨he, h⟩ := h
        rw [putK_iff] at h
        intro next Q hn
        have hnil : (parts.toList.map fun (p : Nat × Operand) => (p.1, a.eval p.2)) = [] := by
          have h1 := hp.1
          have h2 : (parts.toList.map (·.1)).zip vs = [] := by simpa using he
          rw [h2] at h1
          simp only [List.map_nil] at h1
          exact List.map_eq_nil_iff.1 h1.symm
        rw [hnil, run_buildSlice0 hu hi, Result.andThen_ok] at hex
        refine wp_value hex ?_
        obtain ⟨hle, hS⟩ := hM.below (F' := E.F) (below_push w (.cells #[] e)) (fun _ h => h) (fun b h => by have := hM.Flt b h; simp; omega) (fun b h _ => h)
        exact hn _ _ _ _ h (hS.congr setT_l setT_o setT_b) ((ht.mono hle).put (.esl _ _))
      · exact False.elim h
    · exact False.elim h
  · rename_i len _
    split at h
    · rename_i e hu
      split at h
      · rename_i i hi
        obtain ⟨i', z, cs0, hi', hz, hzs, h, hcs⟩ := zeroRow_sound h
        rw [hi] at hi'
        cases hi'
        replace h := Chk_elim h; obtain ⟨hb, h⟩ := h
        simp only [Bool.and_eq_true] at hb
        have h0 : 0 < i.size := Nat.le_of_ble_eq_true hb.1
        have hle := Nat.le_of_ble_eq_true hb.2
        obtain ⟨cs, us, h, hvs, hsz, hf⟩ := fill_sound hp (zrow_VRs (k := len + 1) (hcs E) hzs h0) h
        have hne : (len + 1) * i.size ≠ 0 := Nat.mul_ne_zero (by omega) (by omega)
        rw [run_buildSlice hu hi hz hne hle hf, Result.andThen_ok] at hex
        have hul : us.size = (len + 1) * i.size := by rw [hsz, zrow_size]
        have hcl : cs.length = (len + 1) * i.size := by rw [← hul]; simpa using hvs.1
        obtain ⟨hc1, hc2, hc3⟩ := chop_spec (n := i.size) (len + 1) hcl
        split at h
        · rename_i hms
          simp only [Bool.or_eq_false_iff, Bool.not_eq_false'] at hms
          rw [forceRows_iff, putK_iff] at h
          intro next Q hn
          refine wp_value hex ?_
          obtain ⟨hlE, hS⟩ := hM.below (F' := fun b => E.F b ∨ b = w.heap.size) (below_push w (.cells us e)) (fun _ h => .inl h) (fun b h => by
            rcases h with h | h
            · have := hM.Flt b h; simp; omega
            · subst h; simp) (fun b h hlt => by
            rcases h with h | h
            · exact h
            · omega)
          refine hn _ _ _ _ h (hS.congr setT_l setT_o setT_b) ((ht.mono hlE).put ?_)
          have := VR.sl (E := ⟨fun b => E.F b ∨ b = w.heap.size, E.mu, w.heap.push (.cells us e)⟩) (rows := chop i.size (len + 1) cs) (sz := i.size) (b := w.heap.size) (o := 0) (cap := len + 1) us.toList h0 hc2
            (by rw [hc1]; exact hvs.1.symm) (fun m c u h1 h2 => by
              rw [hc1] at h1
              exact (rfree_fz 4 (List.all_eq_true.1 hms.2 c (List.mem_of_getElem? h1)) (hvs.2 m c u h1 h2)).mono hlE.fz) (.inr rfl)
            (fun m u hu' => by
              show cellH (w.heap.push _) _ _ = _
              unfold cellH
              rw [push_get]
              simpa using hu') (by rw [hc3]; exact Nat.le_refl _)
          rw [hc3] at this
          exact this
        · replace h := Chk_elim h; obtain ⟨hnl, h⟩ := h
          rw [forceRows_iff, forceO_iff, putK_iff] at h
          refine newobj_sound (ob := .cells us e) (x := .arr (cs.all (rfree 4)) i.size (chop i.size (len + 1) cs)) (sz := i.size) (n := len + 1) hM ht hex (fun E' hlE hh => ?_) (fun E' hh hmu => ?_) h
          · refine ⟨⟨rfl, hc3.symm⟩, h0, hc2, us, e, by rw [hh]; exact push_get w _, by rw [hc3, hul]; omega, fun m c hc => ?_⟩
            rw [hc1] at hc
            obtain ⟨u, hu', hv'⟩ := hvs.get hc
            refine ⟨u, by simpa using hu', ?_⟩
            have hmem := List.mem_of_getElem? hc
            have hv2 := hv'.mono hlE
            cases hf2 : cs.all (rfree 4) with
            | true => exact rfree_fz 4 (List.all_eq_true.1 hf2 c hmem) hv2
            | false => exact noL_ob 4 (List.all_eq_true.1 hnl c hmem) hv2
          · refine .mf _ hmu (Nat.le_refl _) ?_
            rw [hh]
            unfold sizeH
            rw [push_get]
            simp [hul]
      · exact False.elim h
    · exact False.elim h
end

end A
end Go.Proofs.Ytnjpjmeoednfcaa
