/- Calls that are pure, and take objects along. -/
import Derived.Test.YtnjpjmeoednfcaaA25
namespace Go.Proofs.Ytnjpjmeoednfcaa
namespace A
open Go
open Go.RowKit (Below)

section
variable {G : Gh} {p : Nat → Option (List AV)} {E : Env} {S M : St} {w : World} {P : Program} {o : Oper} {a : Act}

theorem gone_sound' (hM : SimM G pn E S w) (ht : TR E S.t a) (id : Nat) :
    SimM G pn ⟨E.F, remMu E.mu (.O id), E.h⟩ (gone id S) w ∧ TR ⟨E.F, remMu E.mu (.O id), E.h⟩ (gone id S).t a := by
  by_cases hid : id < S.o.length
  · obtain ⟨h1, h2, _⟩ := gone_sound hM ht hid
    exact ⟨h1, h2⟩
  · have hke : KE (.O id) E ⟨E.F, remMu E.mu (.O id), E.h⟩ := remMu_ke
    have hno : S.o[id]? = none := List.getElem?_eq_none (by omega)
    have hbl := hM.bl
    refine ⟨⟨hM.hp, hM.os, hM.tape, hM.output, hM.size, hM.keep, hM.F0, hM.Flt, hM.Fnew, fun k b o s n h => hM.own k b o s n (remMu_some h).2, fun k k' b o s n o' s' n' h h' => hM.inj _ _ _ _ _ _ _ _ _ (remMu_some h).2 (remMu_some h').2,
      fun e => ?_, fun i => ?_, fun i hi => ?_, by simpa [gone] using hM.bl, hM.szs⟩, ht.kill hke⟩
    · show LocR pn _ (lookL (S.l.map (killRow (.O id))) e) e
      rw [lookL_kill]
      have hmu : remMu E.mu (.O id) (.L e) = E.mu (.L e) := by unfold remMu; rw [if_neg (fun h => by cases h)]
      have := hM.loc e
      revert this
      cases lookL S.l e with
      | none => exact fun h => hmu.trans h
      | some row =>
        rintro (⟨b', h1, h2⟩ | ⟨h1, h2⟩)
        · refine .inl ⟨b', hmu.trans (by simpa using h1), ?_⟩
          have := h2.kill hke (h' := E.h) rfl
          simpa using this
        · cases h2
    · show ObR _ (((S.o.map (killOb (.O id))).set id .dead)[i]?) (remMu E.mu (.O id) (.O i))
      by_cases he : id = i
      · subst he
        have hmu : remMu E.mu (.O id) (.O id) = none := by unfold remMu; rw [if_pos rfl]
        rw [hmu, List.getElem?_set, if_pos rfl, if_neg (by simpa using hid)]
        trivial
      · have hmu : remMu E.mu (.O id) (.O i) = E.mu (.O i) := by unfold remMu; rw [if_neg (fun h => he (by cases h; rfl))]
        rw [hmu, List.getElem?_set, if_neg he, List.getElem?_map]
        have := hM.obj i
        revert this
        cases S.o[i]? with
        | none => cases E.mu (.O i) <;> exact fun h => h
        | some x => exact fun h => h.kill hke rfl
    · show ((S.o.map (killOb (.O id))).set id .dead)[i]? = some .dead ∨ remMu E.mu (.O id) (.O i) = G.mu i
      have hi' : i < S.b := hi
      have he : id ≠ i := by omega
      have hmu : remMu E.mu (.O id) (.O i) = E.mu (.O i) := by unfold remMu; rw [if_neg (fun h => he (by cases h; rfl))]
      rw [hmu, List.getElem?_set, if_neg he, List.getElem?_map]
      rcases hM.old i hi' with h | h
      · rw [h]; exact .inl rfl
      · exact .inr h

def goneAll (ids : List Nat) (S : St) : St := ids.foldl (fun S id => gone id S) S
def remAll (ids : List Nat) (mu : Key → Option MV) : Key → Option MV := ids.foldl (fun mu id => remMu mu (.O id)) mu

theorem killIds_iff : ∀ {ids : List Nat} {S : St} {K : St → Prop}, killIds ids S K ↔ K (goneAll ids S)
  | [], _, _ => Iff.rfl
  | id :: ids, S, K => by
    show killL _ _ _ ↔ _
    rw [killL_iff, killLoc_iff, killObs_iff, forceO_iff]
    exact killIds_iff (ids := ids)

theorem goneAll_sound : ∀ {ids : List Nat} {E : Env} {S : St}, SimM G pn E S w → TR E S.t a → SimM G pn ⟨E.F, remAll ids E.mu, E.h⟩ (goneAll ids S) w ∧ TR ⟨E.F, remAll ids E.mu, E.h⟩ (goneAll ids S).t a
  | [], _, _, hM, ht => ⟨hM, ht⟩
  | id :: ids, E, S, hM, ht => by
    obtain ⟨h1, h2⟩ := gone_sound' hM ht id
    exact goneAll_sound (ids := ids) h1 h2

theorem remAll_some : ∀ {ids : List Nat} {mu : Key → Option MV} {k : Key} {x : MV}, remAll ids mu k = some x → mu k = some x ∧ ∀ id ∈ ids, k ≠ .O id
  | [], _, _, _, h => ⟨h, fun _ h => by cases h⟩
  | id :: ids, mu, k, x, h => by
    obtain ⟨h1, h2⟩ := remAll_some (ids := ids) (mu := remMu mu (.O id)) h
    obtain ⟨h3, h4⟩ := remMu_some h1
    refine ⟨h4, fun i hi => ?_⟩
    rcases List.mem_cons.1 hi with rfl | hi
    · exact h3
    · exact h2 i hi

/-- Blocks that are nobody's now, frozen. -/
theorem SimM.freeze (hM : SimM G p E M w) {F' : Nat → Prop} (hF : ∀ b, E.F b → F' b) (hf : ∀ b, F' b → E.F b ∨ (b < w.heap.size ∧ (G.M b ∨ G.w0.heap.size ≤ b) ∧ ∀ k o s n, E.mu k ≠ some (.blk b o s n))) :
    LE E ⟨F', E.mu, E.h⟩ ∧ SimM G p ⟨F', E.mu, E.h⟩ M w := by
  have hle : LE E ⟨F', E.mu, E.h⟩ := ⟨hF, fun _ _ h => h, fun _ _ => rfl, fun _ _ _ _ _ _ => rfl⟩
  refine ⟨hle, hM.hp, hM.os, hM.tape, hM.output, hM.size, hM.keep, fun b h => hF b (hM.F0 b h), fun b h => ?_, fun b h hlt => ?_, fun k b o s n h => ?_, hM.inj, fun d => ?_, fun id => ?_, hM.old, hM.bl, hM.szs⟩
  · rcases hf b h with h1 | h1
    · exact hM.Flt b h1
    · exact h1.1
  · rcases hf b h with h1 | ⟨_, h2, _⟩
    · exact hM.Fnew b h1 hlt
    · rcases h2 with h2 | h2
      · exact .inr h2
      · omega
  · obtain ⟨h1, h2, h3⟩ := hM.own k b o s n h
    refine ⟨fun hb => ?_, h2, h3⟩
    rcases hf b hb with h4 | ⟨_, _, h4⟩
    · exact h1 h4
    · exact h4 _ _ _ _ h
  · have := hM.loc d
    revert this
    cases lookL M.l d with
    | none => exact fun h => h
    | some row =>
      rintro (⟨b', h1, h2, h3, us, ty, h4, h5, h6⟩ | h)
      · refine .inl ⟨b', h1, h2, h3, us, ty, h4, h5, fun m c hc => ?_⟩
        obtain ⟨u, hu, hv⟩ := h6 m c hc
        exact ⟨u, hu, hv.mono hle⟩
      · exact .inr h
  · exact (hM.obj id).mono hle (fun b' o s n h => rfl)

/-- A pure call, as a step of the whole state. -/
theorem callpure_sound {C : Ctx} {K : St → Prop} {c : Call} {x : Operand} {fid : Nat} {first cap as : List AV} (hC : ∀ f args K, C.pcall f args K → PCall C.P f args K) (hM : SimM G pn E S w) (ht : TR E S.t a) (ho : o.op = .call c) (hcal : c.callee = .value x)
    (hx : VR E (.fn fid first cap) (a.eval x)) (has : VRs E as (c.args.toList.map a.eval))
    (h : dfzsK S.o (first ++ as ++ cap) fun bs => C.pcall fid bs fun r =>
        match scal 4 r with
        | true => putK o.dst r S K
        | false => killIds ((first ++ as ++ cap).flatMap (dids 6)) S fun S' => putK o.dst r S' K) : XStep C.P G o a w K := by
  intro next Q hnext
  refine pcall_sound hM ho hcal hx has (dfzsK_mono (fun bs => hC _ _ _) h) next Q (fun r F' w' v hk hv hbl hF1 hF2 hF3 => ?_)
  split at hk
  · rename_i hs
    rw [putK_iff] at hk
    obtain ⟨hle, hS⟩ := hM.below (F' := E.F) hbl (fun _ h => h) (fun b h => Nat.lt_of_lt_of_le (hM.Flt b h) hbl.size) (fun b h _ => h)
    exact hnext _ _ _ w' hk (hS.congr setT_l setT_o setT_b) ((ht.mono hle).put (scal_any 4 hs hv))
  · rw [killIds_iff, putK_iff] at hk
    obtain ⟨hS1, ht1⟩ := goneAll_sound (ids := (first ++ as ++ cap).flatMap (dids 6)) hM ht
    obtain ⟨hle2, hS2⟩ := hS1.freeze (F' := FD E ((first ++ as ++ cap).flatMap (dids 6))) (fun b h => .inl h) (fun b h => by
      rcases h with h | ⟨id, hid, o', s, n, hm⟩
      · exact .inl h
      · obtain ⟨h1, h2, h3⟩ := hM.own _ _ _ _ _ hm
        refine .inr ⟨h2, h3, fun k o'' s' n' h' => ?_⟩
        obtain ⟨h4, h5⟩ := remAll_some h'
        exact h5 id hid (hM.inj _ _ _ _ _ _ _ _ _ h4 hm))
    obtain ⟨hle3, hS3⟩ := hS2.below (F' := F') hbl hF1 hF2 hF3
    exact hnext _ _ _ w' hk (hS3.congr setT_l setT_o setT_b) (((ht1.mono hle2).mono hle3).put (VR.of_fz (E := ⟨F', remAll _ E.mu, w'.heap⟩) hv))
end

end A
end Go.Proofs.Ytnjpjmeoednfcaa
