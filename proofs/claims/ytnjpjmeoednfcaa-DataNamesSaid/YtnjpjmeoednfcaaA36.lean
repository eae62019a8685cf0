/- Regions whose order is open, second part: what the evaluator says of one holds in every order. -/
import Derived.Test.YtnjpjmeoednfcaaA35
namespace Go.Proofs.Ytnjpjmeoednfcaa
namespace A
open Go
open Go.RowKit (Below)

/-- Cells of a zero value. -/
def ZR (P : Program) (e : TypeId) (cs : List AV) : Prop := ∃ i z, P.info? e = some i ∧ i.zero = some z ∧ ∀ E, VRs E cs z.cells.toList

theorem SimM.drawn {G : Gh} {p : Nat → Option (List AV)} {E : Env} {S : St} {w : World} {n : Nat} (h : SimM G p E S w) : SimM G p E S { w with drawn := n } :=
  ⟨h.hp, h.os, h.tape, h.output, h.size, h.keep, h.F0, h.Flt, h.Fnew, h.own, h.inj, h.loc, h.obj, h.old, h.bl, h.szs⟩

theorem LocR.congr {p p' : Nat → Option (List AV)} {E : Env} {x : Option (List AV)} {d : Nat} (h : LocR p E x d) (hp : p' d = p d) : LocR p' E x d := by
  unfold LocR at *
  cases x with
  | none => exact h
  | some row =>
    rcases h with h | ⟨h1, h2⟩
    · exact .inl h
    · exact .inr ⟨h1, hp.trans h2⟩

section
variable {G : Gh} {p : Nat → Option (List AV)} {E : Env} {S : St} {w : World} {C : Ctx} {pl : Pol} {o : Oper} {a : Act} {K : St → Prop}

/-- What an operation turns of the boxes. -/
def Ch (o : Oper) (E E' : Env) (S S' : St) : Prop :=
  (∀ d, (∀ e, o.op = .alloc e → o.dst ≠ some d) → E'.mu (.L d) = E.mu (.L d)) ∧ ∀ d, lookL S.l d ≠ none → lookL S'.l d ≠ none

def DStep (P : Program) (G : Gh) (p : Nat → Option (List AV)) (E : Env) (S : St) (o : Oper) (a : Act) (w : World) (K : St → Prop) : Prop :=
  ∀ (next : Act → World → Prop) (Q : Exit → Act → World → Prop), (∀ S' E' a' w', K S' → SimM G p E' S' w' → TR E' S'.t a' → Ch o E E' S S' → next a' w') → o.wp P a w next Q

theorem DStep.of1 {P : Program} {k : AV → St → Prop} {M : St} (hl : M.l = S.l) (ht : TR E S.t a) (h : Steps1 P G p E M o a w k) (hk : ∀ r M', k r M' → ∃ S', K S' ∧ S' = setT { t := S.t, l := M'.l, o := M'.o, b := M'.b } o.dst r) : DStep P G p E S o a w K := by
  intro next Q hn
  refine h next Q (fun r z E' w' M' hkr hv hle hsm hS => ?_)
  obtain ⟨S', hK, rfl⟩ := hk r M' hkr
  refine hn _ E' _ w' hK (hS.congr setT_l setT_o setT_b) ?_ ⟨fun d _ => by rw [hsm.1], fun d hd => ?_⟩
  · exact (TR.mono (t := S.t) ht hle).put (S := { t := S.t, l := M'.l, o := M'.o, b := M'.b }) hv
  · rw [setT_l]
    exact hsm.2 d (by rw [hl]; exact hd)

theorem dpop_sound (hM : SimM G p E S w) (ht : TR E S.t a) (h : pop1 C pl o S K) : DStep C.P G p E S o a w K := by
  obtain ⟨vs, h, hv⟩ := getsK_elim ht h
  by_cases hb : ∃ t len parts, o.op = .buildSlice t len parts
  · obtain ⟨t, len, parts, ho⟩ := hb
    unfold pop at h
    rw [ho] at h
    replace h := Chk_elim h; obtain ⟨hp, h⟩ := h
    have hl : parts.toList.length = vs.length := by simpa using Nat.eq_of_beq_eq_true hp
    have hv' : VRs E vs ((parts.toList.map (·.2)).map a.eval) := by
      rw [ho] at hv
      simpa [Op.operands] using hv
    refine DStep.of1 (S := S) rfl ht (buildFz_sound hM ho hl hv' h) (fun r M' hk => ?_)
    obtain ⟨hk, rfl⟩ := hk
    rw [putK_iff] at hk
    exact ⟨_, hk, rfl⟩
  · have hs : ∀ t len parts, o.op ≠ .buildSlice t len parts := fun t len parts he => hb ⟨t, len, parts, he⟩
    obtain ⟨r, z, hk, hr, hrun⟩ := pop_sound h hs hv w
    rw [putK_iff] at hk
    intro next Q hn
    exact wp_value hrun (hn _ E _ w hk (hM.congr setT_l setT_o setT_b) (ht.put hr) ⟨fun _ _ => rfl, fun d hd => by rw [setT_l]; exact hd⟩)

theorem drop_step (hC : CallOK C) (hM : SimM G p E S w) (ht : TR E S.t a) (h : rop1 C o S K) : DStep C.P G p E S o a w K := by
  obtain ⟨vs, h, hv⟩ := getsK_elim ht h
  refine DStep.of1 (S := S) (M := memOf S) rfl ht (rop_sound hC.pcall (M := memOf S) (hM.congr rfl rfl rfl) h hv) (fun r M' hk => ?_)
  obtain ⟨hk, rfl⟩ := hk
  rw [putK_iff] at hk
  exact ⟨_, hk, rfl⟩

theorem dwop_sound (hM : SimM G p E S w) (ht : TR E S.t a) (h : wop1 C o S K) : DStep C.P G p E S o a w K := by
  obtain ⟨vs, h, hv⟩ := getsK_elim ht h
  have hM' : SimM G p E (memOf S) w := hM.congr rfl rfl rfl
  have hst := wop_sound hM' h hv
  refine DStep.of1 (S := S) (M := memOf S) rfl ht hst (fun r M' hk => ?_)
  rw [putK_iff] at hk
  exact ⟨_, hk, by cases o.dst <;> rfl⟩

theorem dalloc_sound {d : Nat} {e : TypeId} {cs : List AV} (hM : SimM G p E S w) (ht : TR E S.t a) (ho : o.op = .alloc e) (hd : o.dst = some d) (hmu : E.mu (.L d) = none) (hl : lookL S.l d ≠ none) (hp : p d = some cs) (hz : ZR C.P e cs) (hpos : 0 < cs.length)
    (h : K (setT S (some d) (.ptr (.L d) 0 0))) : DStep C.P G p E S o a w K := by
  intro next Q hn
  obtain ⟨i, z, hi, hz, hcs⟩ := hz
  have hrun : (execOp a.eval o).run C.P w = .ok (.value (.pointer (some ⟨w.heap.size, 0, none⟩))) { w with heap := w.heap.push (.cells z.cells e) } := by
    simp [execOp, ho, Instr.alloc, run_zeroValue hi hz, run_newVar]
  refine wp_value hrun ?_
  have hrow : lookL S.l d = some cs := by
    have := hM.loc d
    revert this
    cases hh : lookL S.l d with
    | none => exact absurd hh hl
    | some row =>
      rintro (⟨b, h1, _⟩ | ⟨_, h2⟩)
      · rw [hmu] at h1; cases h1
      · rw [hp] at h2; exact h2.symm
  have arr : ∀ {E1 : Env}, VRs E1 cs z.cells.toList → ArrR E1 (w.heap.push (.cells z.cells e)) [cs] w.heap.size 0 cs.length := by
    intro E1 hcs1
    refine ArrR.of_rows hpos (fun r hr => by simp at hr; subst hr; rfl) (push_get w _) (by have := hcs1.1; simp at this; simp; omega) (fun i row r c h1 h2 => ?_)
    cases i with
    | zero =>
      simp at h1
      subst h1
      obtain ⟨u, hu, hv⟩ := hcs1.get h2
      exact ⟨u, by simpa using hu, hv⟩
    | succ i => simp at h1
  obtain ⟨hle, hS⟩ := hM.newkey (ob := .cells z.cells e) (key := .L d) (sz := cs.length) (n := 1) hmu
    (M' := S) (fun _ _ => rfl) (fun _ _ => rfl) rfl hM.bl (fun id he => by cases he)
    (fun e he hle => by
      cases he
      rw [hrow]
      refine .inl ⟨w.heap.size, ?_, arr (hcs _)⟩
      show addMu E.mu (.L d) _ (.L d) = _
      unfold addMu
      rw [if_pos rfl])
    (fun id he => by cases he)
  refine hn _ _ _ _ h (hS.congr setT_l setT_o setT_b) ?_ ⟨fun d' hd' => ?_, fun d' hd' => by rw [setT_l]; exact hd'⟩
  · have := (ht.mono hle).put (S := S) (dst := o.dst) (c := .ptr (.L d) 0 0) (u := .pointer (some ⟨w.heap.size, 0, none⟩)) (by
      have hmu' : addMu E.mu (.L d) (.blk w.heap.size 0 cs.length 1) (.L d) = some (.blk w.heap.size 0 cs.length 1) := by unfold addMu; rw [if_pos rfl]
      have := VR.ptr (E := ⟨E.F, addMu E.mu (.L d) (.blk w.heap.size 0 cs.length 1), w.heap.push (.cells z.cells e)⟩) 0 0 hmu'
      simpa using this)
    rw [hd] at this ⊢
    exact this
  · show addMu E.mu (.L d) _ (.L d') = _
    unfold addMu
    rw [if_neg]
    intro he
    cases he
    exact hd' e ho hd

theorem clsD_alloc (h : clsD o = 4) : ∃ e, o.op = .alloc e := by
  unfold clsD at h
  split at h
  · cases h
  · rename_i e ho; exact ⟨e, ho⟩
  · split at h
    · cases h
    · unfold cls at h
      split at h <;> try (cases h; done)
      split at h <;> cases h
  · unfold cls at h
    split at h <;> try (cases h; done)
    split at h <;> cases h

/-- What is asked of an operation that makes a box. -/
def AllocHere (P : Program) (p : Nat → Option (List AV)) (E : Env) (S : St) (d : Nat) (e : TypeId) : Prop :=
  E.mu (.L d) = none ∧ lookL S.l d ≠ none ∧ ∃ cs, p d = some cs ∧ 0 < cs.length ∧ ZR P e cs

theorem dop_sound (hC : CallOK C) (hM : SimM G p E S w) (ht : TR E S.t a) (hA : ∀ e d, o.op = .alloc e → o.dst = some d → AllocHere C.P p E S d e) (h : dop C pl o S K) : DStep C.P G p E S o a w K := by
  unfold dop at h
  split at h
  · exact dpop_sound hM ht h
  · exact drop_step hC hM ht h
  · exact dwop_sound hM ht h
  · rename_i hc
    obtain ⟨e, ho⟩ := clsD_alloc hc
    split at h
    · rename_i d hd
      obtain ⟨h1, h2, cs, h3, h4, h5⟩ := hA e d ho hd
      rw [putK_iff, hd] at h
      exact dalloc_sound hM ht ho hd h1 h2 h3 h5 h4 h
    · exact False.elim h
  · exact False.elim h
end

def Inv (P : Program) (p : Nat → Option (List AV)) (ops : Array Oper) (listed : Array Bool) (E : Env) (S : St) : Prop :=
  ∀ (i : Nat) (o : Oper) (e : TypeId) (d : Nat), ops[i]? = some o → o.op = .alloc e → o.dst = some d → listed.getD i true = false → AllocHere P p E S d e

/-- No two operations make a box for one slot. -/
def Apart1 (ops : Array Oper) : Prop := ∀ (i i' : Nat) (o o' : Oper) (e e' : TypeId) (d : Nat), ops[i]? = some o → ops[i']? = some o' → o.op = .alloc e → o'.op = .alloc e' → o.dst = some d → o'.dst = some d → i = i'

theorem listed_set {listed : Array Bool} {i : Nat} (_h : listed.getD i true = false) : (listed.setIfInBounds i true).getD i true = true := by
  simp only [Array.getD_eq_getD_getElem?, Array.getElem?_setIfInBounds, if_pos]
  split <;> rfl

theorem Inv.step {P : Program} {p : Nat → Option (List AV)} {ops : Array Oper} {listed : Array Bool} {E E' : Env} {S S' : St} {i : Nat} {o : Oper} (h : Inv P p ops listed E S) (hap : Apart1 ops) (hi : ops[i]? = some o) (hun : listed.getD i true = false) (hc : Ch o E E' S S') :
    Inv P p ops (listed.setIfInBounds i true) E' S' := by
  intro j oj e d hj hoj hdj hjun
  have hij : i ≠ j := fun he => by subst he; rw [listed_set hun] at hjun; cases hjun
  rw [getD_set_ne true hij] at hjun
  obtain ⟨h1, h2, h3⟩ := h j oj e d hj hoj hdj hjun
  refine ⟨(hc.1 d (fun e' ho hd => hij (hap i j o oj e' e d hi hj ho hoj hd hdj))).trans h1, hc.2 d h2, h3⟩

theorem Ch.none {o : Oper} {E : Env} {S : St} {v : AV} : Ch o E E S (setT S o.dst v) := ⟨fun _ _ => rfl, fun d hd => by rw [setT_l]; exact hd⟩

theorem aAny_sound {C : Ctx} (hC : CallOK C) {pl : Pol} {ops : Array Oper} {G : Gh} {p : Nat → Option (List AV)} {Q : St → Prop} {Qc : Exit → Act → World → Prop} (hap : Apart1 ops) (hg : ∀ (i : Nat) (o : Oper) (e : TypeId), ops[i]? = some o → o.op = .alloc e → o.guard = none)
    (hQ : ∀ S' E' a' w', Q S' → SimM G p E' S' w' → TR E' S'.t a' → Qc .normal a' w') :
    ∀ (fuel : Nat) (listed : Array Bool) (S : St) (E : Env) (a : Act) (w : World), SimM G p E S w → TR E S.t a → Inv C.P p ops listed E S → aAny C pl ops Q fuel listed S → wpAny C.P .any ops Qc fuel listed a w
  | 0, _, _, _, _, _, hM, ht, _, h => ⟨h.1, hQ _ _ _ _ h.2 hM ht⟩
  | fuel + 1, listed, S, E, a, w, hM, ht, hI, h => by
    refine ⟨fun h0 => hQ _ _ _ _ (h.1 h0) hM ht, fun i hi => ?_⟩
    have h1 := h.2 i hi
    obtain ⟨hun, o, ho, _⟩ := mem_ready.1 hi
    unfold agI at h1
    unfold wpOp
    rw [ho] at h1 ⊢
    dsimp only at h1 ⊢
    have goon : ∀ S' E' a' w', aAny C pl ops Q fuel (listed.setIfInBounds i true) S' → SimM G p E' S' w' → TR E' S'.t a' → Ch o E E' S S' → wpAny C.P .any ops Qc fuel (listed.setIfInBounds i true) a' w' :=
      fun S' E' a' w' hk hS htr hc => aAny_sound hC hap hg hQ fuel _ S' E' a' w' hS htr (hI.step hap ho hun hc) hk
    have step : dop C pl o S (aAny C pl ops Q fuel (listed.setIfInBounds i true)) → Region.wanted o (yielded ops a.tmps) = true → (if Region.wanted o (yielded ops a.tmps) then o.wp C.P a w (wpAny C.P .any ops Qc fuel (listed.setIfInBounds i true)) Qc ∨ (o.asks C.P a w ∧ LetsOut Qc) else wpAny C.P .any ops Qc fuel (listed.setIfInBounds i true) (a.put o.dst undef) w) := by
      intro h hw
      rw [if_pos hw]
      exact .inl (dop_sound hC hM ht (fun e d h1 h2 => hI i o e d ho h1 h2 hun) h _ _ goon)
    unfold ag at h1
    split at h1
    · rename_i hgd
      exact step h1 (by unfold Region.wanted; rw [hgd])
    · rename_i j want hgd
      split at h1
      · exact False.elim h1
      · rename_i d hd
        obtain ⟨b, hb, h1⟩ := boolAt_iff.1 h1
        have hy := yielded_of hd (ht.lit hb)
        unfold gsel at h1
        split at h1
        · exact step h1 (by unfold Region.wanted; rw [hgd]; simp [hy])
        · exact step h1 (by unfold Region.wanted; rw [hgd]; simp [hy])
        · rename_i hne1 hne2
          rw [putK_iff] at h1
          rw [if_neg (by
            unfold Region.wanted
            rw [hgd]
            simp only [hy]
            cases b <;> cases want <;> simp_all)]
          exact goon _ E _ w h1 (hM.congr setT_l setT_o setT_b) (ht.put (.bad _ _)) Ch.none

theorem allocs_mem {o : Oper} {e : TypeId} {d : Nat} (h1 : o.op = .alloc e) (h2 : o.dst = some d) : ∀ {os : List Oper}, o ∈ os → (d, e) ∈ allocs os := by
  intro os
  induction os with
  | nil => intro h; cases h
  | cons x xs ih =>
    intro h
    rcases List.mem_cons.1 h with rfl | h
    · unfold allocs
      rw [h1, h2]
      exact List.mem_cons_self
    · have := ih h
      unfold allocs
      split
      · exact List.mem_cons_of_mem _ this
      · exact this

theorem hasN_mem {d : Nat} : ∀ {xs : List Nat}, d ∈ xs → hasN xs d = true := by
  intro xs
  induction xs with
  | nil => intro h; cases h
  | cons x xs ih =>
    intro h
    rcases List.mem_cons.1 h with rfl | h
    · simp [hasN]
    · simp [hasN, ih h]

theorem allocs_tail {pl : Pol} {x : Oper} {xs : List Oper} (hB : allocsB pl (allocs (x :: xs)) = true) : allocsB pl (allocs xs) = true := by
  unfold allocs at hB
  split at hB
  · unfold allocsB at hB
    simp only [Bool.and_eq_true] at hB
    exact hB.2
  · exact hB

theorem allocs_apart {pl : Pol} {o o' : Oper} {e e' : TypeId} {d : Nat} (h3 : o.op = .alloc e) (h4 : o'.op = .alloc e') (h5 : o.dst = some d) (h6 : o'.dst = some d) : ∀ (os : List Oper), allocsB pl (allocs os) = true → ∀ (i i' : Nat), i < i' → os[i]? = some o → os[i']? = some o' → False := by
  intro os
  induction os with
  | nil => intro _ i i' _ h1; simp at h1
  | cons x xs ih =>
    intro hB i i' hlt h1 h2
    cases i' with
    | zero => omega
    | succ i' =>
      rw [List.getElem?_cons_succ] at h2
      cases i with
      | zero =>
        rw [List.getElem?_cons_zero] at h1
        cases h1
        have hm := allocs_mem h4 h6 (List.mem_of_getElem? h2)
        unfold allocs at hB
        rw [h3, h5] at hB
        unfold allocsB at hB
        simp only [Bool.and_eq_true, Bool.not_eq_true'] at hB
        have := hasN_mem (d := d) (xs := (allocs xs).map (·.1)) (List.mem_map.2 ⟨_, hm, rfl⟩)
        rw [hB.1.2] at this
        cases this
      | succ i =>
        rw [List.getElem?_cons_succ] at h1
        exact ih (allocs_tail hB) i i' (by omega) h1 h2

theorem guards_spec {o : Oper} {e : TypeId} (ho : o.op = .alloc e) : ∀ {os : List Oper}, guardsB os = true → o ∈ os → o.guard = none := by
  intro os
  induction os with
  | nil => intro _ h; cases h
  | cons x xs ih =>
    intro h hm
    unfold guardsB at h
    simp only [Bool.and_eq_true] at h
    rcases List.mem_cons.1 hm with rfl | hm
    · have h1 := h.1
      cases hg : o.guard with
      | none => rfl
      | some g => rw [ho, hg] at h1; cases h1
    · exact ih h.2 hm

section
variable {G : Gh} {w : World} {a : Act} {P : Program}

theorem drops_sound : ∀ {ds : List Nat} {E : Env} {S : St} {K : St → Prop}, SimM G pn E S w → TR E S.t a → dropsK ds S K → ∃ S' E', K S' ∧ SimM G pn E' S' w ∧ TR E' S'.t a ∧ ∀ d, (E.mu (.L d) = none ∨ d ∈ ds) → E'.mu (.L d) = none
  | [], E, S, K, hM, ht, h => ⟨S, E, h, hM, ht, fun d hd => by rcases hd with hd | hd; exact hd; cases hd⟩
  | d :: ds, E, S, K, hM, ht, h => by
    unfold dropsK at h
    rw [dropK_iff] at h
    obtain ⟨E1, h1, h2, h3, _, _, _, _, h4, _, _⟩ := drop_sound hM ht d
    obtain ⟨S', E', h5, h6, h7, h8⟩ := drops_sound h1 h2 h
    refine ⟨S', E', h5, h6, h7, fun e he => h8 e ?_⟩
    by_cases hed : e = d
    · subst hed; exact .inl h3
    · rcases he with he | he
      · exact .inl ((h4 e hed).trans he)
      · rcases List.mem_cons.1 he with he | he
        · exact absurd he hed
        · exact .inr he

theorem add_sound {E : Env} : ∀ {xs : List (Nat × TypeId)} {S : St} {p : Nat → Option (List AV)} {K : St → Prop}, SimM G p E S w → (∀ d ∈ xs.map (·.1), E.mu (.L d) = none) → (∀ pl : Pol, pl.esc = [] → allocsB pl xs = true) → addK P xs S K →
    ∃ S' p', K S' ∧ SimM G p' E S' w ∧ S'.t = S.t ∧ (∀ d e, (d, e) ∈ xs → lookL S'.l d ≠ none ∧ ∃ cs, p' d = some cs ∧ 0 < cs.length ∧ ZR P e cs) ∧ ∀ d, d ∉ xs.map (·.1) → p' d = p d ∧ lookL S'.l d = lookL S.l d
  | [], S, p, K, hM, _, _, h => ⟨S, p, h, hM, rfl, fun _ _ h => (by cases h), fun _ _ => ⟨rfl, rfl⟩⟩
  | (d, e) :: xs, S, p, K, hM, hmu, hB, h => by
    unfold addK at h
    obtain ⟨i, z, cs, hi, hz, _, h, hcs⟩ := zeroRow_sound h
    replace h := Chk_elim h; obtain ⟨hpos, h⟩ := h
    have hpos' : 0 < cs.length := Nat.le_of_ble_eq_true hpos
    have hd0 := hmu d (by simp)
    have hB' := hB ⟨[], []⟩ rfl
    unfold allocsB at hB'
    simp only [Bool.and_eq_true, Bool.not_eq_true'] at hB'
    have hnd : d ∉ xs.map (·.1) := fun hm => by
      have := hasN_mem hm
      rw [hB'.1.2] at this
      cases this
    have hM1 : SimM G (fun x => if x = d then some cs else p x) E { t := S.t, l := (d, cs) :: S.l, o := S.o, b := S.b } w :=
      ⟨hM.hp, hM.os, hM.tape, hM.output, hM.size, hM.keep, hM.F0, hM.Flt, hM.Fnew, hM.own, hM.inj, fun x => by
        show LocR _ E (if d = x then some cs else lookL S.l x) x
        by_cases hx : d = x
        · subst hx
          rw [if_pos rfl]
          exact .inr ⟨hd0, by simp⟩
        · rw [if_neg hx]
          exact (hM.loc x).congr (if_neg fun h => hx h.symm), hM.obj, hM.old, hM.bl, hM.szs⟩
    obtain ⟨S', p', h1, h2, h3, h4, h5⟩ := add_sound (xs := xs) hM1 (fun x hx => hmu x (by simp only [List.map_cons]; exact List.mem_cons_of_mem _ hx)) (fun pl hpl => by
      have := hB pl hpl
      unfold allocsB at this
      simp only [Bool.and_eq_true] at this
      exact this.2) h
    refine ⟨S', p', h1, h2, h3, fun x y hxy => ?_, fun x hx => ?_⟩
    · rcases List.mem_cons.1 hxy with hxy | hxy
      · cases hxy
        obtain ⟨h6, h7⟩ := h5 d hnd
        refine ⟨?_, cs, ?_, hpos', i, z, hi, hz, hcs⟩
        · rw [h7]
          show (if d = d then some cs else _) ≠ none
          rw [if_pos rfl]
          exact fun h => by cases h
        · rw [h6]; simp
      · exact h4 x y hxy
    · have hx' : x ≠ d ∧ x ∉ xs.map (·.1) := ⟨fun he => hx (by rw [he]; simp), fun hm => hx (by simp only [List.map_cons]; exact List.mem_cons_of_mem _ hm)⟩
      obtain ⟨h6, h7⟩ := h5 x hx'.2
      refine ⟨by rw [h6]; simp [hx'.1], ?_⟩
      rw [h7]
      show (if d = x then some cs else lookL S.l x) = _
      rw [if_neg (fun h => hx'.1 h.symm)]

theorem post_spec : ∀ {xs : List (Nat × TypeId)} {S : St} {X : Prop}, postK xs S X → ∀ d ∈ xs.map (·.1), ∃ i j, S.t[d]? = some (.ptr (.L d) i j)
  | [], _, _, _, d, hd => by cases hd
  | (d0, e) :: xs, S, X, h, d, hd => by
    unfold postK at h
    obtain ⟨c, hc, h⟩ := nthK_iff.1 h
    split at h
    · rename_i d' i j
      obtain ⟨hb, h⟩ := Chk_elim h
      simp only [List.map_cons] at hd
      rcases List.mem_cons.1 hd with rfl | hd
      · have := Nat.eq_of_beq_eq_true hb
        subst this
        exact ⟨i, j, hc⟩
      · exact post_spec h d hd
    · exact False.elim h
end

theorem allocsB_weaken {pl : Pol} : ∀ {xs : List (Nat × TypeId)}, allocsB pl xs = true → ∀ pl' : Pol, pl'.esc = [] → allocsB pl' xs = true
  | [], _, _, _ => rfl
  | (d, e) :: xs, h, pl', hp => by
    unfold allocsB at h ⊢
    simp only [Bool.and_eq_true] at h ⊢
    refine ⟨⟨?_, h.1.2⟩, allocsB_weaken h.2 pl' hp⟩
    rw [hp]
    rfl

theorem allocs_fst {xs : List (Nat × TypeId)} {d : Nat} {e : TypeId} (h : (d, e) ∈ xs) : d ∈ xs.map (·.1) := List.mem_map.2 ⟨_, h, rfl⟩

theorem draw_ok {C : Ctx} (hmix : C.P.follows .mixedOrders = true) (hD : CDet C) (hC : CallOK C) : DrawOK C := by
  intro pl id ops S K h G E a w Q hM ht hQ
  have h' : Chk (drawB pl ops) (preK C.P (allocs ops.toList) S fun S1 => aops C pl true ops ops.toList S1 fun S' => postK (allocs ops.toList) S' (K .nrm S')) := h
  obtain ⟨hB, h1⟩ := Chk_elim h'
  unfold drawB at hB
  simp only [Bool.and_eq_true] at hB
  obtain ⟨⟨⟨_, hal⟩, hgd⟩, hlex⟩ := hB
  unfold preK at h1
  obtain ⟨S1, E1, h2, hM1, ht1, hmu⟩ := drops_sound hM ht h1
  obtain ⟨S2, p2, h3, hM2, ht2, hrow, hout⟩ := add_sound hM1 (fun d hd => hmu d (.inr hd)) (allocsB_weaken hal) h2
  refine wp_region_any hmix ?_
  have hA := aAny_lex hD ops.toList 0 (Array.replicate ops.size false) S2 (by simp) (fun j hj => by
    simp only [Array.getD_eq_getD_getElem?, Array.getElem?_replicate] at hj
    split at hj <;> simp at hj) (by simpa using hlex) h3
  have hsz : ops.toList.length = ops.size := by simp
  rw [hsz] at hA
  refine aAny_sound (G := G) (p := p2) hC (fun i i' o o' e e' d h1 h2 h3 h4 h5 h6 => ?_) (fun i o e h1 h2 => guards_spec h2 hgd (List.mem_of_getElem? (by rw [Array.getElem?_toList]; exact h1))) (fun S' E' a' w' hk hS htr => ?_) ops.size _ S2 E1 a _ hM2.drawn (by rw [ht2]; exact ht1) (fun i o e d h1 h2 h3 _ => ?_) hA
  · rcases Nat.lt_trichotomy i i' with hlt | heq | hlt
    · exact (allocs_apart h3 h4 h5 h6 _ hal i i' hlt (by rw [Array.getElem?_toList]; exact h1) (by rw [Array.getElem?_toList]; exact h2)).elim
    · exact heq
    · exact (allocs_apart h4 h3 h6 h5 _ hal i' i hlt (by rw [Array.getElem?_toList]; exact h2) (by rw [Array.getElem?_toList]; exact h1)).elim
  · have hps := post_spec hk
    refine hQ .nrm _ E' _ _ (postK_out hk).1 ⟨hS.hp, hS.os, hS.tape, hS.output, hS.size, hS.keep, hS.F0, hS.Flt, hS.Fnew, hS.own, hS.inj, fun d => ?_, hS.obj, hS.old, hS.bl, hS.szs⟩ htr
    by_cases hd : d ∈ (allocs ops.toList).map (·.1)
    · obtain ⟨i, j, hij⟩ := hps d hd
      have hlt : d < a'.tmps.size := by rw [← htr.len]; exact (List.getElem?_eq_some_iff.1 hij).1
      have hv := htr.val d _ _ hij (Array.getElem?_eq_getElem hlt)
      have hne : ∃ y, E'.mu (.L d) = some y := by
        generalize a'.tmps[d] = u at hv
        cases hv with
        | ptr _ _ hm => exact ⟨_, hm⟩
      obtain ⟨y, hy⟩ := hne
      have := hS.loc d
      revert this
      cases lookL S'.l d with
      | none => exact fun h => h
      | some row =>
        rintro (h | ⟨h1, _⟩)
        · exact .inl h
        · rw [hy] at h1; cases h1
    · refine (hS.loc d).congr ?_
      rw [(hout d hd).1]
  · have hm : (d, e) ∈ allocs ops.toList := allocs_mem h2 h3 (List.mem_of_getElem? (by rw [Array.getElem?_toList]; exact h1))
    obtain ⟨h4, h5⟩ := hrow d e hm
    exact ⟨hmu d (.inr (allocs_fst hm)), h4, h5⟩

/-- The closed evaluator with fuel is sound. -/
theorem ctxN_sound {cfg : Cfg} (hN : NoNum cfg.P) (hmix : cfg.P.follows .mixedOrders = true) (n : Nat) : CallOK (ctxN cfg n) ∧ LoopOK (ctxN cfg n) ∧ DrawOK (ctxN cfg n) :=
  ctxN_ok hN (ctxN_apure cfg) (fun n h => draw_ok (by rw [ctxN_P]; exact hmix) (ctxN_det cfg n) h) n

end A
end Go.Proofs.Ytnjpjmeoednfcaa
