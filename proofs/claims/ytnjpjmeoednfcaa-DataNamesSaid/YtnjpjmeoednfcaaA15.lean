/- All operations that see memory, as steps; slice literals that are never written. -/
import Derived.Test.YtnjpjmeoednfcaaA14
namespace Go.Proofs.Ytnjpjmeoednfcaa
namespace A
open Go
open Go.RowKit (Below)

section
variable {G : Gh} {p : Nat → Option (List AV)} {E : Env} {M : St} {w : World} {P : Program}

theorem steps_run (hM : SimM G p E M w) {o : Oper} {a : Act} {k : AV → Prop} (h : ∃ r z, k r ∧ VR E r z ∧ (execOp a.eval o).run P w = .ok (.value z) w) : Steps1 P G p E M o a w (fun r M' => k r ∧ M' = M) := by
  intro next Q hn
  obtain ⟨r, z, hk, hv, hrun⟩ := h
  unfold Oper.wp
  rw [hrun]
  exact hn r z E w M ⟨hk, rfl⟩ hv (LE.refl E) (.rfl' rfl) hM

theorem run_callV {o : Oper} {a : Act} {c : Call} {x : Operand} {fid : Nat} {us ws : Array Value} (ho : o.op = .call c) (hcal : c.callee = .value x) (hx : a.eval x = .func (.func fid) us ws) (hb : HasBody P fid) (w : World) :
    (execOp a.eval o).run P w = .ok (.enter fid (us ++ c.args.map a.eval ++ ws)) w := by
  obtain ⟨fn, cc, h1, h2, h3⟩ := hb
  have := run_numGo h1 h2 h3 (us ++ c.args.map a.eval ++ ws) w
  rw [Array.append_assoc] at this
  simp [execOp, ho, resolve, hcal, hx, Deferred.ofValue, invoke, this]

theorem fd_nil {b : Nat} (h : FD E [] b) : E.F b := by
  rcases h with h | ⟨id, h, _⟩
  · exact h
  · cases h

/-- A call that neither sees nor turns the caller's objects. -/
theorem pcall_sound (hM : SimM G p E M w) {o : Oper} {a : Act} {c : Call} {x : Operand} {fid : Nat} {first cap as : List AV} {k : AV → Prop} (ho : o.op = .call c) (hcal : c.callee = .value x)
    (hx : VR E (.fn fid first cap) (a.eval x)) (has : VRs E as (c.args.toList.map a.eval)) (hd : dfzsK M.o (first ++ as ++ cap) fun bs => PCall P fid bs k)
    (next : Act → World → Prop) (Q : Exit → Act → World → Prop)
    (hn : ∀ r F' w' v, k r → VR ⟨F', fun _ => none, w'.heap⟩ r v → Below w.heap.size w w' → (∀ b, FD E ((first ++ as ++ cap).flatMap (dids 6)) b → F' b) → (∀ b, F' b → b < w'.heap.size) →
      (∀ b, F' b → b < w.heap.size → FD E ((first ++ as ++ cap).flatMap (dids 6)) b) → next (a.put o.dst v) w') : o.wp P a w next Q := by
  obtain ⟨us, ws, hfv, h1, h2⟩ : ∃ us ws, a.eval x = .func (.func fid) us ws ∧ VRs E first us.toList ∧ VRs E cap ws.toList := by
    generalize a.eval x = u at hx
    cases hx with
    | fn us ws h1 h2 h3 h4 => exact ⟨us, ws, rfl, ⟨by simpa using h1, fun m c u hc hu => h2 m c u hc (by simpa using hu)⟩, ⟨by simpa using h3, fun m c u hc hu => h4 m c u hc (by simpa using hu)⟩⟩
  obtain ⟨bs, ⟨r, hr, hk⟩, hbs⟩ := dfzsK_sound hM ((h1.append has).append h2) hd
  have hb := hr.1
  unfold Oper.wp
  rw [run_callV ho hcal hfv hb w, Oper.upon_enter]
  refine (hr.2 (FD E ((first ++ as ++ cap).flatMap (dids 6))) w _ (fd_lt hM) (by simpa [Env.fd, hM.hp] using hbs (fun i hi => hi))).mono ?_
  rintro e w' ⟨v, F', rfl, hv, hbl, hF1, hF2, hF3⟩
  exact hn r F' w' v hk hv hbl hF1 hF2 hF3

/-- Its result says nothing of the caller's objects. -/
theorem pcall_steps (hM : SimM G p E M w) {o : Oper} {a : Act} {c : Call} {x : Operand} {fid : Nat} {first cap as : List AV} {k : AV → Prop} (ho : o.op = .call c) (hcal : c.callee = .value x)
    (hx : VR E (.fn fid first cap) (a.eval x)) (has : VRs E as (c.args.toList.map a.eval))
    (hd : dfzsK M.o (first ++ as ++ cap) fun bs => PCall P fid bs fun r => Chk (scal 4 r || ((first ++ as ++ cap).flatMap (dids 6)).isEmpty) (k r)) :
    Steps1 P G p E M o a w (fun r M' => k r ∧ M' = M) := by
  intro next Q hnext
  refine pcall_sound hM ho hcal hx has hd next Q (fun r F' w' v hk hv hbl hF1 hF2 hF3 => ?_)
  replace hk := Chk_elim hk
  obtain ⟨hs, hk⟩ := hk
  simp only [Bool.or_eq_true, List.isEmpty_iff] at hs
  rcases hs with hs | hs
  · obtain ⟨hle, hS⟩ := hM.below (F' := E.F) hbl (fun _ h => h) (fun b h => Nat.lt_of_lt_of_le (hM.Flt b h) hbl.size) (fun b h _ => h)
    exact hnext r v _ w' M ⟨hk, rfl⟩ (scal_any 4 hs hv) hle (.rfl' rfl) hS
  · rw [hs] at hF1 hF3
    obtain ⟨hle, hS⟩ := hM.below (F' := F') hbl (fun b h => hF1 b (.inl h)) hF2 (fun b h hb => fd_nil (hF3 b h hb))
    exact hnext r v _ w' M ⟨hk, rfl⟩ (VR.of_fz (E := ⟨F', E.mu, w'.heap⟩) hv) hle (.rfl' rfl) hS

theorem dfzsK_mono {o : List Ob} {k k' : List AV → Prop} (hk : ∀ bs, k bs → k' bs) : ∀ {as : List AV}, dfzsK o as k → dfzsK o as k'
  | [], h => hk _ h
  | a :: as, h => by
    unfold dfzsK dfzK at h ⊢
    split at h
    · rename_i b hb
      rw [forceA_iff] at h
      rw [forceA_iff]
      exact dfzsK_mono (fun bs => hk (b :: bs)) h
    · exact False.elim h

theorem rop_sound {C : Ctx} (hC : ∀ f args K, C.pcall f args K → PCall C.P f args K) (hM : SimM G p E M w) {o : Oper} {vs : List AV} {a : Act} {k : AV → Prop} (h : rop C o vs M k) (hv : VRs E vs (o.op.operands.toList.map a.eval)) :
    Steps1 C.P G p E M o a w (fun r M' => k r ∧ M' = M) := by
  unfold rop at h
  split at h
  · rename_i t X pa ho
    rw [ho] at hv
    obtain ⟨u, us, e, hc, hn⟩ := hv.uncons
    simp [Op.operands] at e
    obtain ⟨row, j, us', b, off, hk, rfl, hu, hcell⟩ := atK_sound hM hc h
    obtain ⟨r, z, hk', hr, hrun⟩ := load_sound hk hu w hcell
    exact steps_run hM ⟨r, z, hk', hr, by simp [execOp, ho, e.1, hrun]⟩
  · rename_i src dst X x ho
    rw [ho] at hv
    obtain ⟨u, us, e, hc, hn⟩ := hv.uncons
    simp [Op.operands] at e
    obtain ⟨r, z, hk', hr, hrun⟩ := convert_sound h hc w
    exact steps_run hM ⟨r, z, hk', hr, by simp [execOp, ho, e.1, hrun]⟩
  · rename_i t X lo hi mx x rest ho
    rw [ho] at hv
    have fin : ∀ {u : Value} {lo' hi' mx' : Option Int}, a.eval X = u → VR E x u → sliceK C.P t x lo' hi' mx' M k → OptR lo' (lo.map a.eval) → OptR hi' (hi.map a.eval) → OptR mx' (mx.map a.eval) → Steps1 C.P G p E M o a w (fun r M' => k r ∧ M' = M) := by
      intro u lo' hi' mx' e hc h h1 h2 h3
      obtain ⟨r, z, hk', hr, hrun⟩ := slice_sound (P := C.P) hM h hc h1 h2 h3
      exact steps_run hM ⟨r, z, hk', hr, by simp [execOp, ho, e, hrun]⟩
    split at h
    · obtain ⟨u, us, e, hc, hn⟩ := hv.uncons
      simp [Op.operands] at e
      exact fin e.1 hc h trivial trivial trivial
    · obtain ⟨u, us, e, hc, hn⟩ := hv.uncons
      obtain ⟨u1, us1, rfl, hc1, _⟩ := hn.uncons
      simp [Op.operands] at e
      replace h := intOf_sound h hc1
      obtain ⟨kd, n, e1, h⟩ := h
      exact fin e.1 hc h ⟨kd, by rw [e.2.1]; exact e1⟩ trivial trivial
    · obtain ⟨u, us, e, hc, hn⟩ := hv.uncons
      obtain ⟨u1, us1, rfl, hc1, _⟩ := hn.uncons
      simp [Op.operands] at e
      replace h := intOf_sound h hc1
      obtain ⟨kd, n, e1, h⟩ := h
      exact fin e.1 hc h trivial ⟨kd, by rw [e.2.1]; exact e1⟩ trivial
    · obtain ⟨u, us, e, hc, hn⟩ := hv.uncons
      obtain ⟨u1, us1, rfl, hc1, hn1⟩ := hn.uncons
      obtain ⟨u2, us2, rfl, hc2, _⟩ := hn1.uncons
      simp [Op.operands] at e
      replace h := intOf_sound h hc1
      obtain ⟨kd, n, e1, h⟩ := h
      replace h := intOf_sound h hc2
      obtain ⟨kd2, n2, e2, h⟩ := h
      exact fin e.1 hc h ⟨kd, by rw [e.2.1]; exact e1⟩ ⟨kd2, by rw [e.2.2.1]; exact e2⟩ trivial
    · obtain ⟨u, us, e, hc, hn⟩ := hv.uncons
      obtain ⟨u1, us1, rfl, hc1, hn1⟩ := hn.uncons
      obtain ⟨u2, us2, rfl, hc2, _⟩ := hn1.uncons
      simp [Op.operands] at e
      replace h := intOf_sound h hc1
      obtain ⟨kd, n, e1, h⟩ := h
      replace h := intOf_sound h hc2
      obtain ⟨kd2, n2, e2, h⟩ := h
      exact fin e.1 hc h trivial ⟨kd, by rw [e.2.1]; exact e1⟩ ⟨kd2, by rw [e.2.2.1]; exact e2⟩
    · obtain ⟨u, us, e, hc, hn⟩ := hv.uncons
      obtain ⟨u1, us1, rfl, hc1, hn1⟩ := hn.uncons
      obtain ⟨u2, us2, rfl, hc2, hn2⟩ := hn1.uncons
      obtain ⟨u3, us3, rfl, hc3, _⟩ := hn2.uncons
      simp [Op.operands] at e
      replace h := intOf_sound h hc1
      obtain ⟨kd, n, e1, h⟩ := h
      replace h := intOf_sound h hc2
      obtain ⟨kd2, n2, e2, h⟩ := h
      replace h := intOf_sound h hc3
      obtain ⟨kd3, n3, e3, h⟩ := h
      exact fin e.1 hc h ⟨kd, by rw [e.2.1]; exact e1⟩ ⟨kd2, by rw [e.2.2.1]; exact e2⟩ ⟨kd3, by rw [e.2.2.2.1]; exact e3⟩
    · exact False.elim h
  · rename_i t X Y x i ho
    rw [ho] at hv
    obtain ⟨u, us, e, hc, hn⟩ := hv.uncons
    obtain ⟨u1, us1, rfl, hc1, _⟩ := hn.uncons
    simp [Op.operands] at e
    obtain ⟨r, z, hk', hr, hrun⟩ := indexAddr_sound (P := C.P) hM h hc hc1
    exact steps_run hM ⟨r, z, hk', hr, by simp [execOp, ho, e.1, e.2.1, hrun]⟩
  · rename_i t X Y ok m key ho
    rw [ho] at hv
    obtain ⟨u, us, e, hc, hn⟩ := hv.uncons
    obtain ⟨u1, us1, rfl, hc1, _⟩ := hn.uncons
    simp [Op.operands] at e
    obtain ⟨r, z, hk', hr, hrun⟩ := lookup_sound (P := C.P) hM h hc hc1
    exact steps_run hM ⟨r, z, hk', hr, by simp [execOp, ho, e.1, e.2.1, hrun]⟩
  · rename_i vs _ _ c ho
    rw [ho] at hv
    split at h
    · rename_i b hcal
      split at h
      · rename_i x
        split at h
        · rename_i t ts ht
          obtain ⟨u, us, e, hc, hn⟩ := hv.uncons
          have hnil := hn.unnil
          subst hnil
          have e' : c.args.map a.eval = #[u] := by
            apply Array.ext'
            simpa [Op.operands, Call.operands, hcal] using e
          have ht' : c.argTypes[0]? = some t := by
            rw [← Array.getElem?_toList, ht]; rfl
          obtain ⟨r, z, hk', hr, hrun⟩ := len_sound (P := C.P) hM h hc ht' o.type
          exact steps_run hM ⟨r, z, hk', hr, by simp [execOp, ho, resolve, hcal, e', invoke, builtin, hrun]⟩
        · exact False.elim h
      · exact False.elim h
    · rename_i x hcal
      split at h
      · rename_i fid first cap as
        replace h := Chk_elim h; obtain ⟨_, h⟩ := h
        obtain ⟨u, us, e, hc, hn⟩ := hv.uncons
        have e' : u = a.eval x ∧ us = c.args.toList.map a.eval := by
          simp [Op.operands, Call.operands, hcal] at e
          exact ⟨e.1.symm, e.2.symm⟩
        obtain ⟨rfl, rfl⟩ := e'
        exact pcall_steps hM ho hcal hc hn (dfzsK_mono (fun bs hb => hC _ _ _ hb) h)
      · exact False.elim h
    · exact False.elim h
  · exact False.elim h
end

end A
end Go.Proofs.Ytnjpjmeoednfcaa
