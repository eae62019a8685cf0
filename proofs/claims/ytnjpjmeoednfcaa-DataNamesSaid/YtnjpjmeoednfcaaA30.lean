/- Bodies: from the evaluator's word on a function to what a call of it does. -/
import Derived.Test.YtnjpjmeoednfcaaA29
namespace Go.Proofs.Ytnjpjmeoednfcaa
namespace A
open Go
open Go.RowKit (Below)

theorem run_mapM {P : Program} {α β : Type} {f : α → Sem β} : ∀ (xs : List α) (w : World) (ys : List β), xs.length = ys.length → (∀ (i : Nat) (x : α) (y : β), xs[i]? = some x → ys[i]? = some y → (f x).run P w = .ok y w) → (xs.mapM f).run P w = .ok ys w
  | [], w, ys, hl, _ => by
    have : ys = [] := List.eq_nil_of_length_eq_zero (by simpa using hl.symm)
    subst this
    rfl
  | x :: xs, w, [], hl, _ => by simp at hl
  | x :: xs, w, y :: ys, hl, h => by
    have h0 := h 0 x y rfl rfl
    have ih := run_mapM xs w ys (by simpa using hl) (fun i a b h1 h2 => h (i + 1) a b (by simpa using h1) (by simpa using h2))
    simp only [List.mapM_cons, Sem.run_bind, h0, Result.andThen_ok, ih, Sem.run_pure]

section
variable {G : Gh} {E : Env} {S : St} {w : World} {P : Program} {a : Act}

theorem resK_sound (hM : SimM G pn E S w) (ht : TR E S.t a) : ∀ {rs : List ResultVar} {k : List AV → Prop}, resK P S rs k → ∃ as us, k as ∧ VRs E as us ∧ rs.length = us.length ∧
    ∀ (i : Nat) (r : ResultVar) (u : Value), rs[i]? = some r → us[i]? = some u → (match r with | .tmp t => (pure (a.tmps.getD t undef) : Sem Value) | .cell c t => (do loadVar t (← asAddr (a.tmps.getD c undef)) : Sem Value)).run P w = .ok u w
  | [], k, h => ⟨[], [], h, .nil _, rfl, fun i r u h1 => by simp at h1⟩
  | .tmp t :: rs, k, h => by
    obtain ⟨c, hc, h⟩ := nthK_iff.1 h
    obtain ⟨as, us, hk, hv, hl, hr⟩ := resK_sound hM ht h
    have hlt : t < a.tmps.size := by rw [← ht.len]; exact (List.getElem?_eq_some_iff.1 hc).1
    refine ⟨c :: as, a.tmps.getD t undef :: us, hk, .cons (ht.val t c _ hc ?_) hv, by simp [hl], fun i r u h1 h2 => ?_⟩
    · rw [Array.getD_eq_getD_getElem?, Array.getElem?_eq_getElem hlt]; rfl
    · cases i with
      | zero =>
        simp only [List.getElem?_cons_zero, Option.some.injEq] at h1 h2
        subst h1 h2
        rfl
      | succ i => exact hr i r u (by simpa using h1) (by simpa using h2)
  | .cell c t :: rs, k, h => by
    obtain ⟨pc, hpc, h⟩ := nthK_iff.1 h
    have hlt : c < a.tmps.size := by rw [← ht.len]; exact (List.getElem?_eq_some_iff.1 hpc).1
    have e0 : a.tmps.getD c undef = a.tmps[c] := by rw [Array.getD_eq_getD_getElem?, Array.getElem?_eq_getElem hlt]; rfl
    have hv0 := ht.val c pc _ hpc (Array.getElem?_eq_getElem hlt)
    obtain ⟨row, j, us', b, off, hk, hu0, hu, hcell⟩ := atK_sound hM hv0 h
    obtain ⟨r0, z, hk', hr0, hrun⟩ := load_sound (P := P) hk hu w hcell
    obtain ⟨as, us, hk, hv, hl, hr⟩ := resK_sound hM ht hk'
    refine ⟨r0 :: as, z :: us, hk, .cons hr0 hv, by simp [hl], fun i r u h1 h2 => ?_⟩
    cases i with
    | zero =>
      simp at h1 h2
      subst h1 h2
      simp only [Sem.run_bind]
      rw [e0, hu0]
      show (loadVar t ⟨b, off + j, none⟩).run P w = _
      exact hrun
    | succ i => exact hr i r u (by simpa using h1) (by simpa using h2)

theorem tupK_sound {as : List AV} {us : List Value} {k : AV → Prop} (h : tupK as k) (hv : VRs E as us) : ∃ r, k r ∧ VR E r (if h : us.toArray.size = 1 then us.toArray[0] else .tuple us.toArray) := by
  unfold tupK at h
  split at h
  · rename_i c
    obtain ⟨u, us', rfl, hc, hn⟩ := hv.uncons
    have := hn.unnil
    subst this
    exact ⟨c, h, by simpa using hc⟩
  · rename_i hne
    refine ⟨_, h, ?_⟩
    have hl := hv.1
    rw [dif_neg (by
      intro h1
      simp at h1
      cases as with
      | nil => simp at hl; omega
      | cons c cs =>
        cases cs with
        | nil => exact hne c rfl
        | cons _ _ => simp at hl; omega)]
    exact .tup _ (by simpa using hl) (fun m c u h1 h2 => hv.2 m c u h1 (by simpa using h2))

theorem results_sound {fn : Func} (hM : SimM G pn E S w) (ht : TR E S.t a) {k : AV → Prop} (h : resK P S fn.results.toList fun rs => tupK rs k) : ∃ r u, k r ∧ VR E r u ∧ (results fn a.tmps).run P w = .ok u w := by
  obtain ⟨as, us, h, hv, hl, hr⟩ := resK_sound hM ht h
  obtain ⟨r, hk, hvr⟩ := tupK_sound h hv
  refine ⟨r, _, hk, hvr, ?_⟩
  unfold results
  have hm := run_mapM fn.results.toList w us hl hr
  rw [Sem.run_bind, Array.mapM_eq_mapM_toList]
  simp only [map_eq_pure_bind, Sem.run_bind]
  erw [hm]
  rfl

end

end A
end Go.Proofs.Ytnjpjmeoednfcaa
