/- An object that is given up, or moves. -/
import Derived.Test.YtnjpjmeoednfcaaA20
import Derived.Deep.AppendSrc
namespace Go.Proofs.Ytnjpjmeoednfcaa
namespace A
open Go
open Go.RowKit (Below)

theorem KE.ob {k : Key} {E E' : Env} (h : KE k E E') : KE k E.ob E'.ob :=
  ⟨h.F, fun x y hx hy => (by
    cases x with
    | L d => cases hy
    | O i => exact h.mu _ _ hx hy), h.hF, fun x b o s n hx hy => h.sz x b o s n hx (onlyO_some hy)⟩
theorem KE.of_le {k : Key} {E E' E'' : Env} (h : KE k E E') (h' : LE E' E'') : KE k E E'' :=
  ⟨fun b hb => h'.F b (h.F b hb), fun x y hx hy => h'.mu x y (h.mu x y hx hy), fun b hb => (h'.hF b (h.F b hb)).trans (h.hF b hb),
   fun x b o s n hx hy => (h'.sz x b o s n (h.mu _ _ hx hy)).trans (h.sz x b o s n hx hy)⟩

theorem MapR.kill {E E' : Env} {h : Array Obj} {es : List (AV × AV)} {b : Nat} {k : Key} (ha : MapR E h false es b) (hk : KE k E.ob E'.ob) {h' : Array Obj} (hh : h'[b]? = h[b]?) :
    MapR E' h' false (es.map fun e => (e.1, killA 4 k e.2)) b := by
  obtain ⟨ms, clock, h1, h2, h3⟩ := ha
  refine ⟨ms, clock, hh.trans h1, by simpa using h2, fun i e m h4 h5 => ?_⟩
  rw [List.getElem?_map, Option.map_eq_some_iff] at h4
  obtain ⟨e', h6, rfl⟩ := h4
  obtain ⟨h7, h8⟩ := h3 i e' m h6 h5
  exact ⟨h7, killA_sound 4 hk h8⟩

/-- An object whose references are given up. -/
theorem ObR.kill {E E' : Env} {x : Ob} {mv : Option MV} {k : Key} (h : ObR E (some x) mv) (hk : KE k E E') (hh : E'.h = E.h) : ObR E' (some (killOb k x)) mv := by
  revert h
  cases x with
  | dead => cases mv <;> exact fun h => h
  | arr fl sz' rows =>
    cases mv with
    | none => cases fl <;> exact fun h => h.elim
    | some mv =>
      cases mv with
      | virt =>
        cases fl with
        | true => exact fun h => h
        | false =>
          intro h
          show rows.map _ = []
          rw [show rows = [] from h]
          rfl
      | blk b o s n =>
        cases fl with
        | true =>
          rintro ⟨h1, h2, h3, us, ty, h4, h5, h6⟩
          refine ⟨h1, h2, h3, us, ty, (by rw [hh]; exact h4), h5, fun m c hc => ?_⟩
          obtain ⟨u, hu, hv⟩ := h6 m c hc
          exact ⟨u, hu, hv.mono hk.fz⟩
        | false =>
          rintro ⟨h1, h2⟩
          refine ⟨by simpa using h1, ?_⟩
          exact ArrR.kill (E := E.ob) (E' := E'.ob) h2 hk.ob (by rw [hh])
  | mapo fl es =>
    cases mv with
    | none => cases fl <;> exact fun h => h.elim
    | some mv =>
      cases mv with
      | virt => cases fl <;> exact fun h => h.elim
      | blk b o s n =>
        cases fl with
        | true =>
          rintro ⟨ms, clock, h1, h2, h3⟩
          refine ⟨ms, clock, (by rw [hh]; exact h1), h2, fun i e m h4 h5 => ?_⟩
          obtain ⟨h6, h7⟩ := h3 i e m h4 h5
          exact ⟨h6, h7.mono hk.fz⟩
        | false => exact fun h => MapR.kill h hk.ob (by rw [hh])

section
variable {G : Gh} {p : Nat → Option (List AV)} {E : Env} {S : St} {M : St} {w : World} {P : Program}

/-- The state when an object is given up. -/
def gone (id : Nat) (S : St) : St := { t := S.t.map (killA 4 (.O id)), l := S.l.map (killRow (.O id)), o := (S.o.map (killOb (.O id))).set id .dead, b := S.b }

theorem gone_sound (hM : SimM G pn E S w) {a : Act} (ht : TR E S.t a) {id : Nat} (hid : id < S.o.length) :
    SimM G pn ⟨E.F, remMu E.mu (.O id), E.h⟩ (gone id S) w ∧ TR ⟨E.F, remMu E.mu (.O id), E.h⟩ (gone id S).t a ∧ KE (.O id) E ⟨E.F, remMu E.mu (.O id), E.h⟩ := by
  have hke : KE (.O id) E ⟨E.F, remMu E.mu (.O id), E.h⟩ := remMu_ke
  refine ⟨⟨hM.hp, hM.os, hM.tape, hM.output, hM.size, hM.keep, hM.F0, hM.Flt, hM.Fnew, fun k b o s n h => hM.own k b o s n (remMu_some h).2, fun k k' b o s n o' s' n' h h' => hM.inj _ _ _ _ _ _ _ _ _ (remMu_some h).2 (remMu_some h').2,
    fun e => ?_, fun i => ?_, fun i hi => ?_, by simpa [gone] using hM.bl, hM.szs⟩, ht.kill hke, hke⟩
  · show LocR pn _ (lookL (S.l.map (killRow (.O id))) e) e
    rw [lookL_kill]
    have hmu : remMu E.mu (.O id) (.L e) = E.mu (.L e) := by unfold remMu; rw [if_neg (fun h => by cases h)]
    have := hM.loc e
    revert this
    cases lookL S.l e with
    | none => exact fun h => hmu.trans h
    | some row =>
      rintro (⟨b', h1, h2⟩ | ⟨h1, h2⟩)
      · refine .inl ⟨b', hmu.trans (by simpa using h1), ?_⟩
        have := h2.kill hke (h' := E.h) rfl
        simpa using this
      · cases h2
  · show ObR _ (((S.o.map (killOb (.O id))).set id .dead)[i]?) (remMu E.mu (.O id) (.O i))
    by_cases he : id = i
    · subst he
      have hmu : remMu E.mu (.O id) (.O id) = none := by unfold remMu; rw [if_pos rfl]
      rw [hmu, List.getElem?_set, if_pos rfl, if_pos (by simpa using hid)]
      trivial
    · have hmu : remMu E.mu (.O id) (.O i) = E.mu (.O i) := by unfold remMu; rw [if_neg (fun h => he (by cases h; rfl))]
      rw [hmu, List.getElem?_set, if_neg he, List.getElem?_map]
      have := hM.obj i
      revert this
      cases S.o[i]? with
      | none => cases E.mu (.O i) <;> exact fun h => h
      | some x => exact fun h => h.kill hke rfl
  · show ((S.o.map (killOb (.O id))).set id .dead)[i]? = some .dead ∨ remMu E.mu (.O id) (.O i) = G.mu i
    by_cases he : id = i
    · subst he
      rw [List.getElem?_set, if_pos rfl, if_pos (by simpa using hid)]
      exact .inl rfl
    · have hmu : remMu E.mu (.O id) (.O i) = E.mu (.O i) := by unfold remMu; rw [if_neg (fun h => he (by cases h; rfl))]
      rw [hmu, List.getElem?_set, if_neg he, List.getElem?_map]
      rcases hM.old i hi with h | h
      · rw [h]; exact .inl rfl
      · exact .inr h

/-- A step that turns one block that nothing known lies in, and makes new ones. -/
theorem SimM.freestep (hM : SimM G p E M w) {w' : World} {b : Nat} (hos : w'.os = w.os) (htp : w'.tape = w.tape) (hou : w'.output = w.output) (hsz : w.heap.size ≤ w'.heap.size)
    (hoth : ∀ b', b' < w.heap.size → b' ≠ b → w'.heap[b']? = w.heap[b']?) (hsb : b < w.heap.size → sizeH w'.heap b = sizeH w.heap b) (hfree : ¬ E.F b ∧ (∀ k o s n, E.mu k ≠ some (.blk b o s n)) ∧ (G.M b ∨ G.w0.heap.size ≤ b)) :
    LE E ⟨E.F, E.mu, w'.heap⟩ ∧ SimM G p ⟨E.F, E.mu, w'.heap⟩ M w' := by
  obtain ⟨hf1, hf2, hf3⟩ := hfree
  have hblk : ∀ k b' o s n, E.mu k = some (.blk b' o s n) → w'.heap[b']? = E.h[b']? := fun k b' o s n h => by
    rw [hM.hp]; exact hoth b' (hM.own k b' o s n h).2.1 (fun e => hf2 k o s n (e ▸ h))
  have hle : LE E ⟨E.F, E.mu, w'.heap⟩ := by
    refine ⟨fun _ h => h, fun _ _ h => h, fun b' h => by rw [hM.hp]; exact hoth b' (hM.Flt b' h) (fun e => hf1 (e ▸ h)), fun k b' o s n h => ?_⟩
    unfold sizeH
    rw [hblk k b' o s n h]
  refine ⟨hle, ?_⟩
  refine ⟨rfl, hos.trans hM.os, htp.trans hM.tape, hou.trans hM.output, Nat.le_trans hM.size hsz, fun b' h1 h2 => ?_, hM.F0, fun b' h => Nat.lt_of_lt_of_le (hM.Flt b' h) hsz, hM.Fnew,
    fun k b' o s n h => ?_, hM.inj, fun d => ?_, fun id => ?_, hM.old, hM.bl, fun b' hb' => (by
    rw [← hM.szs b' hb']
    by_cases hbe : b' = b
    · subst hbe
      exact hsb (Nat.lt_of_lt_of_le hb' hM.size)
    · unfold sizeH; rw [hoth b' (Nat.lt_of_lt_of_le hb' hM.size) hbe])⟩
  · rw [hoth b' (Nat.lt_of_lt_of_le h1 hM.size) (fun e => by
      subst e
      rcases hf3 with h | h
      · exact h2 h
      · omega)]
    exact hM.keep b' h1 h2
  · obtain ⟨h1, h2, h3⟩ := hM.own k b' o s n h
    exact ⟨h1, Nat.lt_of_lt_of_le h2 hsz, h3⟩
  · have := hM.loc d
    revert this
    cases lookL M.l d with
    | none => exact fun h => h
    | some row =>
      rintro (⟨b', h1, h2, h3, us, ty, h4, h5, h6⟩ | h)
      · refine .inl ⟨b', h1, h2, h3, us, ty, (hblk _ _ _ _ _ h1).trans h4, h5, fun m c hc => ?_⟩
        obtain ⟨u, hu, hv⟩ := h6 m c hc
        exact ⟨u, hu, hv.mono hle⟩
      · exact .inr h
  · exact (hM.obj id).mono hle (fun b' o s n h => hblk _ _ _ _ _ h)

/-- The state when object id has given way to another. -/
def moved (id : Nat) (ob : Ob) (S : St) : St × Nat :=
  match isBase S id with
  | false => ({ t := (gone id S).t, l := (gone id S).l, o := (S.o.map (killOb (.O id))).set id ob, b := S.b }, id)
  | true => ({ t := (gone id S).t, l := (gone id S).l, o := (gone id S).o ++ [ob], b := S.b }, S.o.length)

theorem growK_iff {id : Nat} {ob : Ob} {k : St → Nat → Prop} : growK S id ob k ↔ k (moved id (killOb (.O id) ob) S).1 (moved id (killOb (.O id) ob) S).2 := by
  unfold growK moved
  rw [killL_iff, killLoc_iff, killObs_iff]
  cases isBase S id with
  | false =>
    show forceO _ _ ↔ _
    rw [forceO_iff]
    exact Iff.rfl
  | true =>
    show forceO _ _ ↔ _
    rw [forceO_iff]
    simp only [List.length_map]
    exact Iff.rfl

/-- An object that moves: its references are given up, it lives on in a block that is its own. -/
theorem moved_sound (hM : SimM G pn E S w) {a : Act} (ht : TR E S.t a) {id : Nat} (hid : id < S.o.length) {w' : World} {b : Nat} (hos : w'.os = w.os) (htp : w'.tape = w.tape) (hou : w'.output = w.output) (hsz : w.heap.size ≤ w'.heap.size)
    (hoth : ∀ b', b' < w.heap.size → b' ≠ b → w'.heap[b']? = w.heap[b']?) (hsb : b < w.heap.size → sizeH w'.heap b = sizeH w.heap b) (hb : (∃ o s n, E.mu (.O id) = some (.blk b o s n)) ∨ b = w.heap.size) {ob : Ob} {mv : MV} (hmv : mv = .virt ∨ ∃ b' o s n, mv = .blk b' o s n ∧ b' < w'.heap.size ∧ (b' = b ∨ w.heap.size ≤ b'))
    (hO : ∀ E', KE (.O id) E E' → E'.h = w'.heap → ObR E' (some ob) (some mv)) :
    ∃ E', SimM G pn E' (moved id ob S).1 w' ∧ TR E' (moved id ob S).1.t a ∧ E'.mu (.O (moved id ob S).2) = some mv ∧ E'.h = w'.heap ∧ KE (.O id) E E' := by
  obtain ⟨hS1, ht1, hke1⟩ := gone_sound hM ht hid
  have hfree : ¬ E.F b ∧ (∀ k o s n, remMu E.mu (.O id) k ≠ some (.blk b o s n)) ∧ (G.M b ∨ G.w0.heap.size ≤ b) := by
    rcases hb with ⟨o, s, n, h⟩ | h
    · obtain ⟨h1, h2, h3⟩ := hM.own _ _ _ _ _ h
      refine ⟨h1, fun k o' s' n' h' => ?_, h3⟩
      obtain ⟨hne, h''⟩ := remMu_some h'
      exact hne (hM.inj _ _ _ _ _ _ _ _ _ h'' h)
    · subst h
      refine ⟨fun h => ?_, fun k o' s' n' h' => ?_, .inr hM.size⟩
      · have := hM.Flt _ h; omega
      · have := (hM.own _ _ _ _ _ (remMu_some h').2).2.1; omega
  obtain ⟨hle2, hS2⟩ := hS1.freestep hos htp hou hsz hoth hsb hfree
  have hgm : ∀ b', (b' = b ∨ w.heap.size ≤ b') → ¬ E.F b' ∧ (G.M b' ∨ G.w0.heap.size ≤ b') ∧ ∀ k o' s' n', remMu E.mu (.O id) k ≠ some (.blk b' o' s' n') := by
    intro b' h
    rcases h with h | h
    · subst h; exact ⟨hfree.1, hfree.2.2, hfree.2.1⟩
    · refine ⟨fun h' => ?_, .inr (Nat.le_trans hM.size h), fun k o' s' n' h' => ?_⟩
      · have := hM.Flt _ h'; omega
      · have := (hM.own _ _ _ _ _ (remMu_some h').2).2.1; omega
  have hmv' : ∀ b' o s n, mv = .blk b' o s n → ¬ E.F b' ∧ b' < w'.heap.size ∧ (G.M b' ∨ G.w0.heap.size ≤ b') ∧ ∀ k o' s' n', remMu E.mu (.O id) k ≠ some (.blk b' o' s' n') := by
    intro b' o s n h
    rcases hmv with h1 | ⟨b1, o1, s1, n1, h1, h2, h3⟩
    · rw [h1] at h; cases h
    · rw [h1] at h
      cases h
      obtain ⟨h4, h5, h6⟩ := hgm _ h3
      exact ⟨h4, h2, h5, h6⟩
  have fin : ∀ (key : Nat) (M' : St), remMu E.mu (.O id) (.O key) = none → M'.l = (gone id S).l → (∀ i, key ≠ i → M'.o[i]? = (gone id S).o[i]?) → M'.b = S.b → S.b ≤ M'.o.length → S.b ≤ key → M'.o[key]? = some ob →
      ∃ E', SimM G pn E' M' w' ∧ (∀ t : List AV, TR ⟨E.F, remMu E.mu (.O id), E.h⟩ t a → TR E' t a) ∧ E'.mu (.O key) = some mv ∧ E'.h = w'.heap ∧ KE (.O id) E E' := by
    intro key M' hk hl ho hb' hbl hkb hget
    have hle3 : LE ⟨E.F, remMu E.mu (.O id), w'.heap⟩ ⟨E.F, addMu (remMu E.mu (.O id)) (.O key) mv, w'.heap⟩ := addMu_le (E := ⟨E.F, remMu E.mu (.O id), w'.heap⟩) hk
    have hke3 : KE (.O id) E ⟨E.F, addMu (remMu E.mu (.O id)) (.O key) mv, w'.heap⟩ := hke1.of_le (hle2.trans hle3)
    have hS3 := hS2.addkey (key := .O key) (mv := mv) hk hmv' (M' := M') (fun d _ => by rw [hl]) (fun i hi => ho i (fun e => hi (by rw [e]))) hb' hbl (fun i e => by cases e; exact hkb)
      (fun d e => by cases e) (fun i e => by cases e; rw [hget]; exact hO _ hke3 rfl)
    exact ⟨_, hS3, fun t h => (h.mono hle2).mono hle3, by show addMu _ _ _ _ = _; unfold addMu; rw [if_pos rfl], rfl, hke3⟩
  unfold moved
  cases hbase : isBase S id with
  | false =>
    have hge : S.b ≤ id := by
      unfold isBase at hbase
      have : ¬ (id < S.b) := fun h => by rw [show id.blt S.b = true from by rw [Nat.blt_eq]; exact h] at hbase; cases hbase
      omega
    obtain ⟨E', h1, h2, h3⟩ := fin id { t := (gone id S).t, l := (gone id S).l, o := (S.o.map (killOb (.O id))).set id ob, b := S.b } (by unfold remMu; rw [if_pos rfl]) rfl
      (fun i hi => by
        show ((S.o.map _).set id ob)[i]? = ((S.o.map _).set id .dead)[i]?
        rw [List.getElem?_set, List.getElem?_set, if_neg hi, if_neg hi]) rfl (by simpa using hM.bl) hge (by
        show ((S.o.map _).set id ob)[id]? = _
        rw [List.getElem?_set, if_pos rfl, if_pos (by simpa using hid)])
    exact ⟨E', h1, h2 _ ht1, h3⟩
  | true =>
    have hgl : (gone id S).o.length = S.o.length := by simp [gone]
    obtain ⟨E', h1, h2, h3⟩ := fin S.o.length { t := (gone id S).t, l := (gone id S).l, o := (gone id S).o ++ [ob], b := S.b } (by
        have := newid hM
        unfold remMu
        split
        · rfl
        · exact this) rfl
      (fun i hi => by
        show ((gone id S).o ++ [ob])[i]? = (gone id S).o[i]?
        rcases Nat.lt_trichotomy i S.o.length with h | h | h
        · rw [List.getElem?_append_left (by omega)]
        · exact absurd h.symm hi
        · rw [List.getElem?_eq_none (by simp; omega), List.getElem?_eq_none (by omega)]) rfl (by have := hM.bl; simp; omega) hM.bl (by
        show ((gone id S).o ++ [ob])[S.o.length]? = _
        rw [← hgl, List.getElem?_append_right (Nat.le_refl _), Nat.sub_self]
        rfl)
    exact ⟨E', h1, h2 _ ht1, h3⟩
end

end A
end Go.Proofs.Ytnjpjmeoednfcaa
