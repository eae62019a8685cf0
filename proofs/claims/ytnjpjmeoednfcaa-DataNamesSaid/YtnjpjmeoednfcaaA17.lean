/- References that are given up; new boxes. -/
import Derived.Test.YtnjpjmeoednfcaaA16
namespace Go.Proofs.Ytnjpjmeoednfcaa
namespace A
open Go
open Go.RowKit (Below)

/-- The later of two environments, but for one key. -/
structure KE (k : Key) (E E' : Env) : Prop where
  F : ∀ b, E.F b → E'.F b
  mu : ∀ x y, x ≠ k → E.mu x = some y → E'.mu x = some y
  hF : ∀ b, E.F b → E'.h[b]? = E.h[b]?
  sz : ∀ x b o s n, x ≠ k → E.mu x = some (.blk b o s n) → sizeH E'.h b = sizeH E.h b

theorem KE.fz {k : Key} {E E' : Env} (h : KE k E E') : LE E.fz E'.fz := ⟨h.F, fun _ _ hx => (by cases hx), h.hF, fun _ _ _ _ _ hx => (by cases hx)⟩

theorem killA_sound : ∀ (n : Nat) {k : Key} {E E' : Env} {a : AV} {u : Value}, KE k E E' → VR E a u → VR E' (killA n k a) u
  | 0, _, _, _, _, _, _, _ => .bad _ _
  | n + 1, k, E, E', a, u, hk, hv => by
    have lst : ∀ {cs : List AV} {us : Array Value}, (∀ (m : Nat) (c : AV) (u : Value), cs[m]? = some c → us[m]? = some u → VR E c u) →
        ∀ (m : Nat) (c : AV) (u : Value), (cs.map (killA n k))[m]? = some c → us[m]? = some u → VR E' c u := by
      intro cs us hc m c u h1 h2
      rw [List.getElem?_map, Option.map_eq_some_iff] at h1
      obtain ⟨c', h3, rfl⟩ := h1
      exact killA_sound n hk (hc m c' u h3 h2)
    unfold killA
    cases hv with
    | bad => exact .bad _ _
    | v _ x hx => exact .v _ _ hx
    | nilp => exact .nilp _
    | ptr i j hm =>
      rename_i k' b o sz n'
      show VR E' (if k' = k then AV.bad else .ptr k' i j) _
      by_cases hkk : k' = k
      · rw [if_pos hkk]; exact .bad _ _
      · rw [if_neg hkk]; exact .ptr i j (hk.mu _ _ hkk hm)
    | fptr j us h1 h2 h3 h4 => exact .fptr j us h1 (fun m c u hc hu => (h2 m c u hc hu).mono hk.fz) (hk.F _ h3) (fun m u hu => (cellH_of (hk.hF _ h3) _).trans (h4 m u hu))
    | nilsl => exact .nilsl _
    | esln => exact .esln _
    | esl a => exact .esl _ _
    | sln => exact .sln _
    | sle a cap => exact .sle _ _ _
    | sl us h1 h2 h3 h4 h5 h6 h7 => exact .sl us h1 h2 h3 (fun m c u hc hu => (h4 m c u hc hu).mono hk.fz) (hk.F _ h5) (fun m u hu => (cellH_of (hk.hF _ h5) _).trans (h6 m u hu)) h7
    | mfn hm =>
      rename_i id
      show VR E' (if Key.O id = k then AV.bad else .mf id) _
      by_cases hkk : Key.O id = k
      · rw [if_pos hkk]; exact .bad _ _
      · rw [if_neg hkk]; exact .mfn (hk.mu _ _ hkk hm)
    | mfe a hm =>
      rename_i id
      show VR E' (if Key.O id = k then AV.bad else .mf id) _
      by_cases hkk : Key.O id = k
      · rw [if_pos hkk]; exact .bad _ _
      · rw [if_neg hkk]; exact .mfe a (hk.mu _ _ hkk hm)
    | mf cap hm h1 h2 =>
      rename_i id b o sz n'
      show VR E' (if Key.O id = k then AV.bad else .mf id) _
      by_cases hkk : Key.O id = k
      · rw [if_pos hkk]; exact .bad _ _
      · rw [if_neg hkk]; exact .mf cap (hk.mu _ _ hkk hm) h1 (by rw [hk.sz _ _ _ _ _ hkk hm]; exact h2)
    | msle off a hm =>
      rename_i id x
      show VR E' (if Key.O id = k then AV.bad else .msl id off 0 0) _
      by_cases hkk : Key.O id = k
      · rw [if_pos hkk]; exact .bad _ _
      · rw [if_neg hkk]; exact .msle off a (hk.mu _ _ hkk hm)
    | msl off len ext cap hm h1 h2 h3 =>
      rename_i id b o sz n'
      show VR E' (if Key.O id = k then AV.bad else .msl id off len ext) _
      by_cases hkk : Key.O id = k
      · rw [if_pos hkk]; exact .bad _ _
      · rw [if_neg hkk]; exact .msl off len ext cap (hk.mu _ _ hkk hm) h1 h2 (by rw [hk.sz _ _ _ _ _ hkk hm]; exact h3)
    | nilmap => exact .nilmap _
    | mp hm =>
      rename_i id b o sz n'
      show VR E' (if Key.O id = k then AV.bad else .mp id) _
      by_cases hkk : Key.O id = k
      · rw [if_pos hkk]; exact .bad _ _
      · rw [if_neg hkk]; exact .mp (hk.mu _ _ hkk hm)
    | nilfn => exact .nilfn _
    | fn us ws h1 h2 h3 h4 => exact .fn us ws (by simpa using h1) (lst h2) (by simpa using h3) (lst h4)
    | agg us h1 h2 => exact .agg us (by simpa using h1) (lst h2)
    | tup us h1 h2 => exact .tup us (by simpa using h1) (lst h2)

theorem killL_iff {k : Key} : ∀ {xs : List AV} {K : List AV → Prop}, killL k xs K ↔ K (xs.map (killA 4 k))
  | [], _ => Iff.rfl
  | x :: xs, K => by
    show forceA _ _ ↔ _
    rw [forceA_iff]
    exact killL_iff (xs := xs)
def killRow (k : Key) (e : Nat × List AV) : Nat × List AV := (e.1, e.2.map (killA 4 k))
theorem killLoc_iff {k : Key} : ∀ {xs : List (Nat × List AV)} {K : List (Nat × List AV) → Prop}, killLoc k xs K ↔ K (xs.map (killRow k))
  | [], _ => Iff.rfl
  | (d, c) :: xs, K => by
    show killL k c _ ↔ _
    rw [killL_iff]
    exact killLoc_iff (xs := xs)
theorem killObs_iff {k : Key} : ∀ {xs : List Ob} {K : List Ob → Prop}, killObs k xs K ↔ K (xs.map (killOb k))
  | [], _ => Iff.rfl
  | .arr true _ _ :: xs, _ => killObs_iff (xs := xs)
  | .arr false _ _ :: xs, _ => killObs_iff (xs := xs)
  | .mapo true _ :: xs, _ => killObs_iff (xs := xs)
  | .mapo false _ :: xs, _ => killObs_iff (xs := xs)
  | .dead :: xs, _ => killObs_iff (xs := xs)

theorem lookL_kill {k : Key} : ∀ (l : List (Nat × List AV)) (d : Nat), lookL (l.map (killRow k)) d = (lookL l d).map (List.map (killA 4 k))
  | [], _ => rfl
  | (e, c) :: xs, d => by
    show (if e = d then some (c.map (killA 4 k)) else lookL (xs.map (killRow k)) d) = Option.map _ (if e = d then some c else lookL xs d)
    by_cases h : e = d
    · rw [if_pos h, if_pos h]; rfl
    · rw [if_neg h, if_neg h]; exact lookL_kill xs d
theorem lookL_drop : ∀ (l : List (Nat × List AV)) (d e : Nat), lookL (dropL l d) e = if d = e then none else lookL l e
  | [], d, e => by show none = _; split <;> rfl
  | (x, c) :: xs, d, e => by
    show lookL (if x = d then dropL xs d else (x, c) :: dropL xs d) e = if d = e then none else (if x = e then some c else lookL xs e)
    by_cases h : x = d
    · rw [if_pos h, lookL_drop xs d e]
      subst h
      by_cases h2 : x = e
      · rw [if_pos h2, if_pos h2]
      · rw [if_neg h2, if_neg h2, if_neg h2]
    · rw [if_neg h]
      show (if x = e then some c else lookL (dropL xs d) e) = _
      rw [lookL_drop xs d e]
      by_cases h2 : d = e
      · rw [if_pos h2, if_pos h2, if_neg (fun hx => h (hx.trans h2.symm))]
      · rw [if_neg h2, if_neg h2]

/-- The rows with references given up. -/
theorem ArrR.kill {E E' : Env} {h : Array Obj} {rows : List (List AV)} {b o sz : Nat} {k : Key} (ha : ArrR E h rows b o sz) (hk : KE k E E') {h' : Array Obj} (hh : h'[b]? = h[b]?) : ArrR E' h' (rows.map (List.map (killA 4 k))) b o sz := by
  obtain ⟨us, ty, hb, hl, hc⟩ := ha.get
  refine ArrR.of_rows ha.1 (fun r hr => ?_) (hh.trans hb) (by simpa using hl) (fun i row r c h1 h2 => ?_)
  · obtain ⟨r', hr', rfl⟩ := List.mem_map.1 hr
    simpa using ha.2.1 r' hr'
  · rw [List.getElem?_map, Option.map_eq_some_iff] at h1
    obtain ⟨row', h3, rfl⟩ := h1
    rw [List.getElem?_map, Option.map_eq_some_iff] at h2
    obtain ⟨c', h4, rfl⟩ := h2
    obtain ⟨u, hu, hv⟩ := hc i row' r c' h3 h4
    exact ⟨u, hu, killA_sound 4 hk hv⟩

def remMu (mu : Key → Option MV) (k : Key) : Key → Option MV := fun x => if x = k then none else mu x
theorem remMu_ke {E : Env} {k : Key} : KE k E ⟨E.F, remMu E.mu k, E.h⟩ :=
  ⟨fun _ h => h, fun x y hx h => by show (if x = k then none else E.mu x) = _; rw [if_neg hx]; exact h, fun _ _ => rfl, fun _ _ _ _ _ _ _ => rfl⟩
theorem remMu_some {mu : Key → Option MV} {k x : Key} {y : MV} (h : remMu mu k x = some y) : x ≠ k ∧ mu x = some y := by
  unfold remMu at h
  by_cases hx : x = k
  · rw [if_pos hx] at h; cases h
  · rw [if_neg hx] at h; exact ⟨hx, h⟩

def pn : Nat → Option (List AV) := fun _ => none

section
variable {G : Gh} {E : Env} {S : St} {w : World} {P : Program}

theorem SimM.congr {p : Nat → Option (List AV)} {M M' : St} (h : SimM G p E M w) (h1 : M'.l = M.l) (h2 : M'.o = M.o) (h3 : M'.b = M.b) : SimM G p E M' w :=
  ⟨h.hp, h.os, h.tape, h.output, h.size, h.keep, h.F0, h.Flt, h.Fnew, h.own, h.inj, by rw [h1]; exact h.loc, by rw [h2]; exact h.obj, by rw [h3, h2]; exact h.old, by rw [h3, h2]; exact h.bl, h.szs⟩

theorem TR.kill {k : Key} {E' : Env} {a : Act} {t : List AV} (h : TR E t a) (hk : KE k E E') : TR E' (t.map (killA 4 k)) a :=
  ⟨by simpa using h.len, fun n c u h1 h2 => by
    rw [List.getElem?_map, Option.map_eq_some_iff] at h1
    obtain ⟨c', h3, rfl⟩ := h1
    exact killA_sound 4 hk (h.val n c' u h3 h2), h.df⟩

/-- The state when a slot's box has been given up. -/
def dropped (d : Nat) (S : St) : St :=
  match lookL S.l d with
  | none => S
  | some _ => { t := S.t.map (killA 4 (.L d)), l := (dropL S.l d).map (killRow (.L d)), o := S.o, b := S.b }

theorem dropK_iff {d : Nat} {K : St → Prop} : dropK d S K ↔ K (dropped d S) := by
  unfold dropK dropped
  cases lookL S.l d with
  | none => exact Iff.rfl
  | some row =>
    show killL _ _ _ ↔ _
    rw [killL_iff, killLoc_iff]

theorem drop_sound (hM : SimM G pn E S w) {a : Act} (ht : TR E S.t a) (d : Nat) : ∃ E', SimM G pn E' (dropped d S) w ∧ TR E' (dropped d S).t a ∧ E'.mu (.L d) = none ∧ E'.F = E.F ∧ lookL (dropped d S).l d = none ∧
    (dropped d S).o = S.o ∧ (dropped d S).b = S.b ∧ (∀ e, e ≠ d → E'.mu (.L e) = E.mu (.L e)) ∧ (dropped d S).t.length = S.t.length ∧ KE (.L d) E E' := by
  unfold dropped
  cases hl : lookL S.l d with
  | none =>
    have := hM.loc d
    rw [hl] at this
    exact ⟨E, hM, ht, this, rfl, hl, rfl, rfl, fun _ _ => rfl, rfl, ⟨fun _ h => h, fun _ _ _ h => h, fun _ _ => rfl, fun _ _ _ _ _ _ _ => rfl⟩⟩
  | some row =>
    have hke : KE (.L d) E ⟨E.F, remMu E.mu (.L d), E.h⟩ := remMu_ke
    refine ⟨⟨E.F, remMu E.mu (.L d), E.h⟩, ?_, ht.kill hke, by simp [remMu], rfl, ?_, rfl, rfl, fun e he => ?_, by simp, hke⟩
    · refine ⟨hM.hp, hM.os, hM.tape, hM.output, hM.size, hM.keep, hM.F0, hM.Flt, hM.Fnew, fun k b o s n h => hM.own k b o s n (remMu_some h).2, fun k k' b o s n o' s' n' h h' => hM.inj _ _ _ _ _ _ _ _ _ (remMu_some h).2 (remMu_some h').2,
        fun e => ?_, fun id => ?_, fun id hid => ?_, hM.bl, hM.szs⟩
      · show LocR pn _ (lookL ((dropL S.l d).map (killRow (.L d))) e) e
        rw [lookL_kill, lookL_drop]
        by_cases he : d = e
        · subst he
          rw [if_pos rfl]
          simp [LocR, remMu]
        · rw [if_neg he]
          have hmu : remMu E.mu (.L d) (.L e) = E.mu (.L e) := by unfold remMu; rw [if_neg (fun h => he (by cases h; rfl))]
          have := hM.loc e
          revert this
          cases lookL S.l e with
          | none => exact fun h => hmu.trans h
          | some row =>
            rintro (⟨b', h1, h2⟩ | ⟨h1, h2⟩)
            · refine .inl ⟨b', hmu.trans (by simpa using h1), ?_⟩
              have := h2.kill hke (h' := E.h) rfl
              simpa using this
            · cases h2
      · have hmu : remMu E.mu (.L d) (.O id) = E.mu (.O id) := by unfold remMu; rw [if_neg (fun h => by cases h)]
        show ObR _ _ (remMu E.mu (.L d) (.O id))
        rw [hmu]
        have hob : LE E.ob (Env.ob ⟨E.F, remMu E.mu (.L d), E.h⟩) := ⟨fun _ h => h, fun k x h => by
          cases k with
          | L e => cases h
          | O i =>
            show remMu E.mu (.L d) (.O i) = _
            unfold remMu
            rw [if_neg (fun h => by cases h)]
            exact h, fun _ _ => rfl, fun _ _ _ _ _ _ => rfl⟩
        exact (hM.obj id).mono2 hke.fz hob (fun _ _ _ _ _ => rfl)
      · have hmu : remMu E.mu (.L d) (.O id) = E.mu (.O id) := by unfold remMu; rw [if_neg (fun h => by cases h)]
        show _ ∨ remMu E.mu (.L d) (.O id) = _
        rw [hmu]
        exact hM.old id hid
    · rw [lookL_kill, lookL_drop, if_pos rfl]; rfl
    · show remMu E.mu (.L d) (.L e) = _
      unfold remMu
      rw [if_neg (fun h => he (by cases h; rfl))]
end

end A
end Go.Proofs.Ytnjpjmeoednfcaa
