/- Calls that see the caller's objects and may turn them. -/
import Derived.Test.YtnjpjmeoednfcaaA26
namespace Go.Proofs.Ytnjpjmeoednfcaa
namespace A
open Go
open Go.RowKit (Below)

/-- What a callee has been given: all that the environment's objects lie in. -/
def ghO (E : Env) (w : World) : Gh := { w0 := w, M := fun b => ∃ id o s n, E.mu (.O id) = some (.blk b o s n), F := E.F, mu := fun id => E.mu (.O id) }

def stO (o : List Ob) (b : Nat) : St := { t := [], l := [], o := o, b := b }

def SCall (P : Program) (f : Nat) (args : List AV) (o : List Ob) (K : AV → List Ob → Prop) : Prop :=
  HasBody P f ∧ ∀ (E : Env) (w : World) (us : Array Value), SimM (ghO E w) pn E (stO o o.length) w → VRs E args us.toList →
    Calls P f us w fun e w' => ∃ v r o' E', K r o' ∧ e = .returned v ∧ SimM (ghO E w) pn E' (stO o' o.length) w' ∧ VR E' r v

theorem deadNow_mem : ∀ {xs ys : List Ob} {n j : Nat} {x : Ob}, xs[j]? = some x → x ≠ .dead → ys[j]? = some .dead → n + j ∈ deadNow xs ys n
  | [], _, _, _, _, h, _, _ => by simp at h
  | _ :: _, [], _, _, _, _, _, h => by simp at h
  | x0 :: xs, y0 :: ys, n, 0, x, h1, h2, h3 => by
    simp at h1 h3
    subst h1 h3
    cases x0 with
    | dead => exact absurd rfl h2
    | arr _ _ _ => simp [deadNow]
    | mapo _ _ => simp [deadNow]
  | x0 :: xs, y0 :: ys, n, j + 1, x, h1, h2, h3 => by
    have ih := deadNow_mem (xs := xs) (ys := ys) (n := n + 1) (j := j) (by simpa using h1) h2 (by simpa using h3)
    rw [show n + 1 + j = n + (j + 1) by omega] at ih
    cases x0 <;> cases y0 <;> simp [deadNow, ih]

def killTs (ids : List Nat) (t : List AV) : List AV := ids.foldl (fun t id => t.map (killA 4 (.O id))) t
def killLs (ids : List Nat) (l : List (Nat × List AV)) : List (Nat × List AV) := ids.foldl (fun l id => l.map (killRow (.O id))) l

theorem killTL_iff : ∀ {ids : List Nat} {t : List AV} {l : List (Nat × List AV)} {K : List AV → List (Nat × List AV) → Prop}, killTL ids t l K ↔ K (killTs ids t) (killLs ids l)
  | [], _, _, _ => Iff.rfl
  | id :: ids, t, l, K => by
    show killL _ _ _ ↔ _
    rw [killL_iff, killLoc_iff]
    exact killTL_iff (ids := ids)

theorem killTs_sound {a : Act} : ∀ {ids : List Nat} {E : Env} {t : List AV}, TR E t a → TR ⟨E.F, remAll ids E.mu, E.h⟩ (killTs ids t) a
  | [], _, _, h => h
  | id :: ids, E, _, h => killTs_sound (ids := ids) (E := ⟨E.F, remMu E.mu (.O id), E.h⟩) (h.kill remMu_ke)

theorem killLs_sound : ∀ {ids : List Nat} {E : Env} {l : List (Nat × List AV)}, (∀ d, LocR pn E (lookL l d) d) → ∀ d, LocR pn ⟨E.F, remAll ids E.mu, E.h⟩ (lookL (killLs ids l) d) d
  | [], _, _, h => h
  | id :: ids, E, l, h => killLs_sound (ids := ids) (E := ⟨E.F, remMu E.mu (.O id), E.h⟩) (fun e => by
    rw [lookL_kill]
    have hmu : remMu E.mu (.O id) (.L e) = E.mu (.L e) := by unfold remMu; rw [if_neg (fun h => by cases h)]
    have := h e
    revert this
    cases lookL l e with
    | none => exact fun h => hmu.trans h
    | some row =>
      rintro (⟨b', h1, h2⟩ | ⟨h1, h2⟩)
      · refine .inl ⟨b', hmu.trans (by simpa using h1), ?_⟩
        have := h2.kill (remMu_ke (E := E) (k := .O id)) (h' := E.h) rfl
        simpa using this
      · cases h2)

theorem remAll_L : ∀ {ids : List Nat} {mu : Key → Option MV} {d : Nat}, remAll ids mu (.L d) = mu (.L d)
  | [], _, _ => rfl
  | id :: ids, mu, d => by
    show remAll ids (remMu mu (.O id)) (.L d) = _
    rw [remAll_L]
    unfold remMu
    rw [if_neg (fun h => by cases h)]

theorem obob (E : Env) : E.ob.ob = E.ob := by
  have : onlyO (onlyO E.mu) = onlyO E.mu := by
    funext k
    cases k <;> rfl
  unfold Env.ob
  rw [this]
theorem ob_some {E : Env} {k : Key} {x : MV} (h : E.ob.mu k = some x) : E.mu k = some x := onlyO_some (k := k) h
theorem ObR.ob {E : Env} {x : Option Ob} {mv : Option MV} (h : ObR E x mv) : ObR E.ob x mv := by
  revert h
  cases x with
  | none => cases mv <;> exact fun h => h
  | some ob =>
    cases ob with
    | dead => cases mv <;> exact fun h => h
    | arr fl sz' rows =>
      cases mv with
      | none => exact fun h => h
      | some mv =>
        cases mv with
        | virt => exact fun h => h
        | blk b o s n =>
          cases fl with
          | true => exact fun h => h
          | false =>
            rintro ⟨h1, h2⟩
            refine ⟨h1, ?_⟩
            show ArrR E.ob.ob _ _ _ _ _
            rw [obob]
            exact h2
    | mapo fl es =>
      cases mv with
      | none => exact fun h => h
      | some mv =>
        cases mv with
        | virt => exact fun h => h
        | blk b o s n =>
          rintro ⟨ms, clock, h1, h2, h3⟩
          refine ⟨ms, clock, h1, h2, fun i e m h4 h5 => ?_⟩
          obtain ⟨h6, h7⟩ := h3 i e m h4 h5
          refine ⟨h6, ?_⟩
          cases fl with
          | true => exact h7
          | false =>
            show VR E.ob.ob _ _
            rw [obob]
            exact h7

section
variable {G : Gh} {E : Env} {S : St} {w : World} {P : Program} {o : Oper} {a : Act}

/-- What the callee starts from. -/
theorem SimM.sub (hM : SimM G pn E S w) : SimM (ghO E.ob w) pn E.ob (stO S.o S.o.length) w :=
  ⟨hM.hp, rfl, rfl, rfl, Nat.le_refl _, fun _ _ _ => rfl, fun _ h => h, hM.Flt, fun _ h _ => .inl h,
    fun k b o s n h => by
      cases k with
      | L d => cases h
      | O id =>
        obtain ⟨h1, h2, _⟩ := hM.own _ b o s n (ob_some h)
        exact ⟨h1, h2, .inl ⟨id, o, s, n, h⟩⟩,
    fun k k' b o s n o' s' n' h h' => hM.inj k k' b o s n o' s' n' (ob_some h) (ob_some h'), fun _ => rfl, fun id => (hM.obj id).ob, fun _ _ => .inr rfl, Nat.le_refl _, fun _ _ => rfl⟩

def mergeMu (mu mu' : Key → Option MV) : Key → Option MV
  | .L d => mu (.L d)
  | .O id => mu' (.O id)

/-- What the caller goes on from. -/
theorem SimM.back (hM : SimM G pn E S w) (ht : TR E S.t a) {E' : Env} {o' : List Ob} {w' : World} (hM' : SimM (ghO E.ob w) pn E' (stO o' S.o.length) w') :
    SimM G pn ⟨E'.F, mergeMu E.mu E'.mu, E'.h⟩ { t := killTs (deadNow S.o o' 0) S.t, l := killLs (deadNow S.o o' 0) S.l, o := o', b := S.b } w' ∧ TR ⟨E'.F, mergeMu E.mu E'.mu, E'.h⟩ (killTs (deadNow S.o o' 0) S.t) a ∧ LE E' ⟨E'.F, mergeMu E.mu E'.mu, E'.h⟩ := by
  have hL' : ∀ d, E'.mu (.L d) = none := fun d => hM'.loc d
  have hsz : w.heap.size ≤ w'.heap.size := hM'.size
  have notM : ∀ b, E.F b → ¬ (ghO E.ob w).M b := by
    rintro b hF ⟨id, x, s, n, h⟩
    exact (hM.own _ _ _ _ _ (ob_some h)).1 hF
  have MG : ∀ b, (ghO E.ob w).M b → G.M b ∨ G.w0.heap.size ≤ b := by
    rintro b ⟨id, x, s, n, h⟩
    exact (hM.own _ _ _ _ _ (ob_some h)).2.2
  have Mlt : ∀ b, (ghO E.ob w).M b → b < w.heap.size := by
    rintro b ⟨id, x, s, n, h⟩
    exact (hM.own _ _ _ _ _ (ob_some h)).2.1
  have LnotM : ∀ d b x s n, E.mu (.L d) = some (.blk b x s n) → ¬ (ghO E.ob w).M b := by
    rintro d b x s n h ⟨id, x', s', n', h'⟩
    have := hM.inj _ _ _ _ _ _ _ _ _ h (ob_some h')
    cases this
  have hle : LE ⟨E.F, remAll (deadNow S.o o' 0) E.mu, E.h⟩ ⟨E'.F, mergeMu E.mu E'.mu, E'.h⟩ := by
    have kept : ∀ id x, remAll (deadNow S.o o' 0) E.mu (.O id) = some x → E.mu (.O id) = some x ∧ E'.mu (.O id) = some x := by
      intro id x h
      obtain ⟨h1, h2⟩ := remAll_some h
      refine ⟨h1, ?_⟩
      have hob := hM.obj id
      rw [h1] at hob
      have hid : id < S.o.length := by
        rcases Nat.lt_or_ge id S.o.length with h3 | h3
        · exact h3
        · rw [List.getElem?_eq_none h3] at hob
          exact hob.elim
      rcases hM'.old id hid with h3 | h3
      · exfalso
        have hx := List.getElem?_eq_getElem hid
        rw [hx] at hob
        have hnd : S.o[id] ≠ .dead := fun hd => by rw [hd] at hob; exact hob.elim
        have := deadNow_mem (n := 0) hx hnd h3
        rw [Nat.zero_add] at this
        exact h2 _ this rfl
      · rw [h3]; exact h1
    refine ⟨fun b h => hM'.F0 b h, fun k x h => ?_, fun b h => ?_, fun k b x s n h => ?_⟩
    · cases k with
      | L d =>
        show E.mu (.L d) = _
        exact (remAll_L (ids := deadNow S.o o' 0)).symm.trans h
      | O id => exact (kept id x h).2
    · show E'.h[b]? = E.h[b]?
      rw [hM'.hp, hM.hp]
      exact hM'.keep b (hM.Flt b h) (notM b h)
    · show sizeH E'.h b = sizeH E.h b
      rw [hM'.hp, hM.hp]
      have : b < w.heap.size := (hM.own _ _ _ _ _ (remAll_some h).1).2.1
      exact hM'.szs b this
  refine ⟨⟨hM'.hp, hM'.os.trans hM.os, hM'.tape.trans hM.tape, hM'.output.trans hM.output, Nat.le_trans hM.size hsz, fun b h1 h2 => ?_, fun b h => hM'.F0 b (hM.F0 b h), hM'.Flt, fun b h1 h2 => ?_, fun k b x s n h => ?_, fun k k' b x s n x' s' n' h h' => ?_,
    fun d => ?_, fun id => ?_, fun id hid => ?_, ?_, fun b hb => ?_⟩, (killTs_sound ht).mono hle, ⟨fun _ h => h, fun k x h => ?_, fun _ _ => rfl, fun _ _ _ _ _ _ => rfl⟩⟩
  · rw [hM'.keep b (Nat.lt_of_lt_of_le h1 hM.size) (fun h => by
      rcases MG b h with h3 | h3
      · exact h2 h3
      · omega)]
    exact hM.keep b h1 h2
  · rcases hM'.Fnew b h1 (Nat.lt_of_lt_of_le h2 hM.size) with h3 | h3
    · exact hM.Fnew b h3 h2
    · rcases MG b h3 with h4 | h4
      · exact .inr h4
      · omega
  · cases k with
    | L d =>
      obtain ⟨h1, h2, h3⟩ := hM.own _ b x s n h
      refine ⟨fun hF => ?_, Nat.lt_of_lt_of_le h2 hsz, h3⟩
      rcases hM'.Fnew b hF h2 with h4 | h4
      · exact h1 h4
      · exact LnotM d b x s n h h4
    | O id =>
      obtain ⟨h1, h2, h3⟩ := hM'.own _ b x s n h
      refine ⟨h1, h2, ?_⟩
      rcases h3 with h3 | h3
      · exact MG b h3
      · exact .inr (Nat.le_trans hM.size h3)
  · have mix : ∀ {d id : Nat} {b x s n x' s' n' : Nat}, E.mu (.L d) = some (.blk b x s n) → E'.mu (.O id) = some (.blk b x' s' n') → False := by
      intro d id b x s n x' s' n' h h'
      rcases (hM'.own _ _ _ _ _ h').2.2 with h3 | h3
      · exact LnotM d b x s n h h3
      · have h2 := (hM.own _ _ _ _ _ h).2.1
        have h3 : w.heap.size ≤ b := h3
        omega
    cases k with
    | L d =>
      cases k' with
      | L d' => exact hM.inj _ _ _ _ _ _ _ _ _ h h'
      | O id => exact (mix h h').elim
    | O id =>
      cases k' with
      | L d' => exact (mix h' h).elim
      | O id' => exact hM'.inj _ _ _ _ _ _ _ _ _ h h'
  · have := killLs_sound (ids := deadNow S.o o' 0) hM.loc d
    revert this
    show LocR _ _ (lookL (killLs (deadNow S.o o' 0) S.l) d) d → LocR _ _ (lookL (killLs (deadNow S.o o' 0) S.l) d) d
    cases lookL (killLs (deadNow S.o o' 0) S.l) d with
    | none =>
      intro h
      show E.mu (.L d) = none
      exact (remAll_L (ids := deadNow S.o o' 0)).symm.trans h
    | some row =>
      rintro (⟨b, h1, h2, h3, us, ty, h4, h5, h6⟩ | ⟨_, h⟩)
      · have h1' : E.mu (.L d) = some (.blk b 0 row.length 1) := remAll_L.symm.trans h1
        refine .inl ⟨b, h1', h2, h3, us, ty, ?_, h5, fun m c hc => ?_⟩
        · show E'.h[b]? = _
          rw [hM'.hp, hM'.keep b (hM.own _ _ _ _ _ h1').2.1 (LnotM d b _ _ _ h1')]
          have : E.h[b]? = _ := h4
          rw [hM.hp] at this
          exact this
        · obtain ⟨u, hu, hv⟩ := h6 m c hc
          exact ⟨u, hu, hv.mono hle⟩
      · cases h
  · have := hM'.obj id
    refine this.mono2 (E' := ⟨E'.F, mergeMu E.mu E'.mu, E'.h⟩) ⟨fun _ h => h, fun _ _ h => (by cases h), fun _ _ => rfl, fun _ _ _ _ _ h => (by cases h)⟩ ⟨fun _ h => h, fun k x h => ?_, fun _ _ => rfl, fun _ _ _ _ _ _ => rfl⟩ (fun _ _ _ _ _ => rfl)
    cases k with
    | L d => cases h
    | O i => exact h
  · have hid' : id < S.o.length := Nat.lt_of_lt_of_le hid hM.bl
    rcases hM'.old id hid' with h | h
    · exact .inl h
    · rcases hM.old id hid with h2 | h2
      · refine .inl ?_
        have hob := hM.obj id
        rw [h2] at hob
        have hn : E.mu (.O id) = none := by
          revert hob
          cases E.mu (.O id) with
          | none => exact fun _ => rfl
          | some _ => exact fun h => h.elim
        have hob' := hM'.obj id
        rw [h] at hob'
        have hn' : (ghO E.ob w).mu id = none := hn
        rw [hn'] at hob'
        show o'[id]? = some .dead
        have hlt : id < o'.length := Nat.lt_of_lt_of_le hid' hM'.bl
        have hx : (stO o' S.o.length).o[id]? = some o'[id] := List.getElem?_eq_getElem hlt
        rw [hx] at hob'
        rw [List.getElem?_eq_getElem hlt]
        revert hob'
        cases o'[id] with
        | dead => exact fun _ => rfl
        | arr _ _ _ => exact fun h => h.elim
        | mapo _ _ => exact fun h => h.elim
      · refine .inr ?_
        show E'.mu (.O id) = G.mu id
        rw [h, ← h2]
        rfl
  · exact Nat.le_trans hM.bl hM'.bl
  · rw [← hM.szs b hb]
    exact hM'.szs b (Nat.lt_of_lt_of_le hb hM.size)
  · cases k with
    | L d => rw [hL' d] at h; cases h
    | O id => exact h

theorem scall_sound {K : St → Prop} {c : Call} {x : Operand} {fid : Nat} {first cap as : List AV} (hM : SimM G pn E S w) (ht : TR E S.t a) (ho : o.op = .call c) (hcal : c.callee = .value x)
    (hx : VR E (.fn fid first cap) (a.eval x)) (has : VRs E as (c.args.toList.map a.eval)) (hnl : (first ++ as ++ cap).all (noL 4) = true)
    (h : SCall P fid (first ++ as ++ cap) S.o fun r o' => killTL (deadNow S.o o' 0) S.t S.l fun t l => putK o.dst r { t := t, l := l, o := o', b := S.b } K) : XStep P G o a w K := by
  obtain ⟨us, ws, hfv, h1, h2⟩ : ∃ us ws, a.eval x = .func (.func fid) us ws ∧ VRs E first us.toList ∧ VRs E cap ws.toList := by
    generalize a.eval x = u at hx
    cases hx with
    | fn us ws h1 h2 h3 h4 => exact ⟨us, ws, rfl, ⟨by simpa using h1, fun m c u hc hu => h2 m c u hc (by simpa using hu)⟩, ⟨by simpa using h3, fun m c u hc hu => h4 m c u hc (by simpa using hu)⟩⟩
  have hall := (h1.append has).append h2
  intro next Q hn
  unfold Oper.wp
  rw [run_callV ho hcal hfv h.1 w, Oper.upon_enter]
  refine (h.2 E.ob w _ hM.sub (by
    refine ⟨by simpa using hall.1, fun m c u hc hu => ?_⟩
    exact noL_ob 4 (List.all_eq_true.1 hnl c (List.mem_of_getElem? hc)) (hall.2 m c u hc (by simpa using hu)))).mono ?_
  rintro e w' ⟨v, r, o', E', hK, rfl, hM', hv⟩
  rw [killTL_iff, putK_iff] at hK
  obtain ⟨hS, htr, hle⟩ := hM.back ht hM'
  exact hn _ _ _ w' hK (hS.congr setT_l setT_o setT_b) (htr.put (hv.mono hle))
end

end A
end Go.Proofs.Ytnjpjmeoednfcaa
