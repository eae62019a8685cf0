/- Values handed to a call that neither sees nor turns the caller's objects; operations that see memory. -/
import Derived.Test.YtnjpjmeoednfcaaA8
namespace Go.Proofs.Ytnjpjmeoednfcaa
namespace A
open Go
open Go.RowKit (Below)

/-- Blocks that are frozen, and those of some objects. -/
def FD (E : Env) (ids : List Nat) : Nat → Prop := fun b => E.F b ∨ ∃ id, id ∈ ids ∧ ∃ o s n, E.mu (.O id) = some (.blk b o s n)
def Env.fd (E : Env) (ids : List Nat) : Env := ⟨FD E ids, fun _ => none, E.h⟩

theorem fz_fd {E : Env} {ids : List Nat} : LE E.fz (E.fd ids) := ⟨fun _ h => .inl h, fun _ _ h => (by cases h), fun _ _ => rfl, fun _ _ _ _ _ h => (by cases h)⟩

theorem fz_fdz {E : Env} {ids : List Nat} : LE E.fz (E.fd ids).fz := LE.fz (E := E.fz) fz_fd

theorem mapO_spec {α β : Type} {f : α → Option β} : ∀ {xs : List α} {ys : List β}, mapO f xs = some ys → ys.length = xs.length ∧ ∀ (m : Nat) (x : α) (y : β), xs[m]? = some x → ys[m]? = some y → f x = some y
  | [], ys, h => by
    simp only [mapO, Option.some.injEq] at h
    subst h
    exact ⟨rfl, fun m x y h => by simp at h⟩
  | x :: xs, ys, h => by
    unfold mapO at h
    split at h
    · rename_i y ys' h1 h2
      simp only [Option.some.injEq] at h
      subst h
      obtain ⟨h3, h4⟩ := mapO_spec h2
      refine ⟨by simp [h3], fun m x' y' h5 h6 => ?_⟩
      cases m with
      | zero => simp at h5 h6; subst h5 h6; exact h1
      | succ m => exact h4 m x' y' (by simpa using h5) (by simpa using h6)
    · cases h

theorem ArrR.mono {E1 E2 : Env} {h : Array Obj} {rows : List (List AV)} {b o sz : Nat} (ha : ArrR E1 h rows b o sz) (hl : LE E1 E2) : ArrR E2 h rows b o sz := by
  obtain ⟨h1, h2, us, ty, h3, h4, h5⟩ := ha
  refine ⟨h1, h2, us, ty, h3, h4, fun m c hc => ?_⟩
  obtain ⟨u, hu, hv⟩ := h5 m c hc
  exact ⟨u, hu, hv.mono hl⟩

theorem ArrR.sub {E' : Env} {h : Array Obj} {rows : List (List AV)} {b o sz : Nat} (ha : ArrR E' h rows b o sz) (off len : Nat) : ArrR E' h ((rows.drop off).take len) b (o + off * sz) sz ∨ (rows.drop off).take len = [] := by
  obtain ⟨hsz, hr, us, ty, hb, hl, hc⟩ := ha
  by_cases hne : (rows.drop off).take len = []
  · exact .inr hne
  have hr' : ∀ r ∈ (rows.drop off).take len, r.length = sz := fun r hx => hr r (List.mem_of_mem_drop (List.mem_of_mem_take hx))
  have hlen : off + ((rows.drop off).take len).length ≤ rows.length := by
    have h1 : 0 < ((rows.drop off).take len).length := List.length_pos_iff.2 hne
    simp only [List.length_take, List.length_drop] at h1 ⊢
    omega
  have hmul : off * sz + ((rows.drop off).take len).length * sz ≤ rows.length * sz := by rw [← Nat.add_mul]; exact Nat.mul_le_mul_right sz hlen
  refine .inl ⟨hsz, hr', us, ty, hb, by omega, fun m c hm => ?_⟩
  have hml : m < ((rows.drop off).take len).length * sz := by rw [← flatten_len hr']; exact (List.getElem?_eq_some_iff.1 hm).1
  have hi : m / sz < ((rows.drop off).take len).length := Nat.div_lt_of_lt_mul (by rw [Nat.mul_comm]; exact hml)
  have hmm : m % sz < sz := Nat.mod_lt _ hsz
  have hdm : m / sz * sz + m % sz = m := by rw [Nat.mul_comm]; exact Nat.div_add_mod m sz
  have hrow : ((rows.drop off).take len)[m / sz]? = some (((rows.drop off).take len)[m / sz]) := List.getElem?_eq_getElem hi
  have e1 := flatten_get hr' hrow hmm
  have hrow2 : rows[off + m / sz]? = some (((rows.drop off).take len)[m / sz]) := by
    rw [← hrow, List.getElem?_take, if_pos (by simp only [List.length_take] at hi; omega), List.getElem?_drop]
  have e2 := flatten_get hr hrow2 hmm
  rw [hdm] at e1
  rw [Nat.add_mul, Nat.add_assoc, hdm] at e2
  obtain ⟨u, hu, hv⟩ := hc (off * sz + m) c (by rw [e2, ← e1]; exact hm)
  exact ⟨u, by rw [← hu]; congr 1; omega, hv⟩

theorem ArrR.sl {E' : Env} {rows : List (List AV)} {b o sz cap : Nat} (ha : ArrR E'.fz E'.h rows b o sz) (hF : E'.F b) (hcap : rows.length ≤ cap) : VR E' (.sl rows) (.slice (some ⟨b, o, none⟩) rows.length cap) := by
  cases rows with
  | nil => exact .sle _ _ _
  | cons r rs =>
    obtain ⟨hsz, hr, us, ty, hb, hl, hc⟩ := ha
    have hfl := flatten_len hr
    have hlen : ((us.toList.drop o).take ((r :: rs).length * sz)).length = (r :: rs).flatten.length := by
      have e : us.toList.length = us.size := by simp
      have hl' : o + (r :: rs).length * sz ≤ us.toList.length := by rw [e]; exact hl
      rw [hfl, List.length_take, List.length_drop]
      exact Nat.min_eq_left (by omega)
    refine .sl ((us.toList.drop o).take ((r :: rs).length * sz)) hsz hr hlen (fun m c u h1 h2 => ?_) hF (fun m u hu => ?_) hcap
    · have hm : m < (r :: rs).length * sz := by rw [← hfl]; exact (List.getElem?_eq_some_iff.1 h1).1
      rw [List.getElem?_take, if_pos hm, List.getElem?_drop, Array.getElem?_toList] at h2
      obtain ⟨u', hu', hv⟩ := hc m c h1
      rw [hu'] at h2
      cases h2
      exact hv
    · rw [List.getElem?_take] at hu
      split at hu
      · rw [List.getElem?_drop, Array.getElem?_toList] at hu
        unfold cellH
        rw [hb]
        exact hu
      · cases hu

section
variable {G : Gh} {p : Nat → Option (List AV)} {E : Env} {M : St} {w : World}

theorem dfz_sound (hM : SimM G p E M w) : ∀ (n : Nat) {a b : AV} {u : Value}, dfz M.o n a = some b → VR E a u → ∀ {ids : List Nat}, (∀ i ∈ dids n a, i ∈ ids) → VR (E.fd ids) b u
  | 0, _, _, _, h, _, _, _ => by cases h
  | n + 1, a, b, u, h, hv, ids, hid => by
    have lst : ∀ {xs ys : List AV} {us : Array Value}, mapO (dfz M.o n) xs = some ys → xs.length = us.size → (∀ (m : Nat) (c : AV) (u : Value), xs[m]? = some c → us[m]? = some u → VR E c u) →
        (∀ i ∈ xs.flatMap (dids n), i ∈ ids) → ys.length = us.size ∧ ∀ (m : Nat) (c : AV) (u : Value), ys[m]? = some c → us[m]? = some u → VR (E.fd ids) c u := by
      intro xs ys us h1 h2 h3 h4
      obtain ⟨h5, h6⟩ := mapO_spec h1
      refine ⟨h5.trans h2, fun m c u hc hu => ?_⟩
      have hm : m < xs.length := by rw [← h5]; exact (List.getElem?_eq_some_iff.1 hc).1
      have hx := List.getElem?_eq_getElem hm
      exact dfz_sound hM n (h6 m _ c hx hc) (h3 m _ u hx hu) (fun i hi => h4 i (List.mem_flatMap.2 ⟨_, List.getElem_mem hm, hi⟩))
    unfold dfz at h
    split at h
    · cases h; obtain ⟨rfl, hp⟩ := hv.vI; exact .v _ _ hp
    · cases h; cases hv; exact .nilp _
    · rename_i row j
      cases h
      cases hv with
      | fptr _ us h1 h2 h3 h4 => exact .fptr j us h1 (fun m c u hc hu => (h2 m c u hc hu).mono fz_fdz) (.inl h3) h4
    · cases h; cases hv; exact .nilsl _
    · cases h
      cases hv with
      | esln => exact .sln _
      | esl _ a => exact .sle _ a 0
    · cases h
      cases hv with
      | sln => exact .sln _
      | sle _ a cap => exact .sle _ a cap
      | sl us h1 h2 h3 h4 h5 h6 h7 => exact .sl us h1 h2 h3 (fun m c u hc hu => (h4 m c u hc hu).mono fz_fdz) (.inl h5) h6 h7
    · cases h; cases hv; exact .nilmap _
    · cases h; cases hv; exact .nilfn _
    · rename_i id
      split at h
      · rename_i sz' rows ho
        cases h
        have hob := hM.obj id
        rw [ho] at hob
        cases hv with
        | mfn hm => rw [hm] at hob; have hr : rows = [] := hob; subst hr; exact .sln _
        | mfe a hm => rw [hm] at hob; have hr : rows = [] := hob; subst hr; exact .sle _ a 0
        | mf cap hm h1 h2 =>
          rw [hm] at hob
          obtain ⟨⟨rfl, rfl⟩, ha⟩ := hob
          exact ArrR.sl (ha.mono fz_fdz) (.inr ⟨id, hid id (by simp [dids]), _, _, _, hm⟩) h1
      · cases h
    · rename_i id off len ext
      split at h
      · rename_i sz' rows ho
        cases h
        have hob := hM.obj id
        rw [ho] at hob
        cases hv with
        | msle off a hm =>
          rw [List.take_zero]
          cases a with
          | none => exact .sln _
          | some a => exact .sle _ a 0
        | msl off len ext cap hm h1 h2 h3 =>
          rw [hm] at hob
          obtain ⟨⟨rfl, rfl⟩, ha⟩ := hob
          have hl : ((rows.drop off).take len).length = len := by simp; omega
          rcases ha.sub off len with hs | hs
          · have := ArrR.sl (E' := E.fd ids) (cap := cap) (hs.mono fz_fdz) (.inr ⟨id, hid id (by simp [dids]), _, _, _, hm⟩) (by omega)
            rw [hl] at this
            exact this
          · rw [hs] at hl ⊢
            subst hl
            exact .sle _ _ _
      · cases h
    · rename_i id i j
      split at h
      · rename_i sz' rows ho
        split at h
        · rename_i row hr
          cases h
          cases hv with
          | ptr i j hm =>
            have hob := hM.obj id
            rw [ho, hm] at hob
            obtain ⟨⟨rfl, rfl⟩, ha⟩ := hob
            obtain ⟨us, hu, hc⟩ := ha.row hr
            exact .fptr j us hu.1.symm (fun m c u h1 h2 => (hu.2 m c u h1 h2).mono fz_fdz) (.inr ⟨id, hid id (by simp [dids]), _, _, _, hm⟩) hc
        · cases h
      · cases h
    · rename_i f x y
      split at h
      · rename_i x' y' h1 h2
        cases h
        cases hv with
        | fn us ws h3 h4 h5 h6 =>
          obtain ⟨h7, h8⟩ := lst h1 h3 h4 (fun i hi => hid i (by simp [dids]; exact .inl (by simpa using hi)))
          obtain ⟨h9, h10⟩ := lst h2 h5 h6 (fun i hi => hid i (by simp [dids]; exact .inr (by simpa using hi)))
          exact .fn us ws h7 h8 h9 h10
      · cases h
    · split at h
      · rename_i r h1
        cases h
        cases hv with
        | agg us h3 h4 =>
          obtain ⟨h7, h8⟩ := lst h1 h3 h4 (fun i hi => hid i (by simpa [dids] using hi))
          exact .agg us h7 h8
      · cases h
    · split at h
      · rename_i r h1
        cases h
        cases hv with
        | tup us h3 h4 =>
          obtain ⟨h7, h8⟩ := lst h1 h3 h4 (fun i hi => hid i (by simpa [dids] using hi))
          exact .tup us h7 h8
      · cases h
    · cases h

theorem dfzsK_sound (hM : SimM G p E M w) {k : List AV → Prop} : ∀ {as : List AV} {us : List Value}, VRs E as us → dfzsK M.o as k → ∃ bs, k bs ∧ ∀ {ids : List Nat}, (∀ i ∈ as.flatMap (dids 6), i ∈ ids) → VRs (E.fd ids) bs us
  | [], us, hv, h => ⟨[], h, fun _ => by rw [hv.unnil]; exact .nil _⟩
  | a :: as, us, hv, h => by
    obtain ⟨u, us', rfl, h1, h2⟩ := hv.uncons
    unfold dfzsK dfzK at h
    split at h
    · rename_i b hb
      rw [forceA_iff] at h
      obtain ⟨bs, hk, hbs⟩ := dfzsK_sound hM (k := fun bs => k (b :: bs)) h2 h
      refine ⟨b :: bs, hk, fun {ids} hids => .cons (dfz_sound hM 6 hb h1 (fun i hi => hids i (by simp [hi]))) (hbs (fun i hi => hids i (by
        rw [List.flatMap_cons]
        exact List.mem_append.2 (.inr hi))))⟩
    · exact False.elim h

theorem fd_lt (hM : SimM G p E M w) {ids : List Nat} : ∀ b, FD E ids b → b < w.heap.size
  | b, .inl h => hM.Flt b h
  | b, .inr ⟨_, _, o, s, n, h⟩ => (hM.own _ b o s n h).2.1
end

end A
end Go.Proofs.Ytnjpjmeoednfcaa
