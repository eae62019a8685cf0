/- Conversions of numbers; looking into a map. -/
import Derived.Test.YtnjpjmeoednfcaaA11
namespace Go.Proofs.Ytnjpjmeoednfcaa
namespace A
open Go
open Go.RowKit (Below)

theorem pureEval_bind {α β : Type} {P : Program} : ∀ (s : Sem α) (f : α → Sem β), pureEval P (s >>= f) = (pureEval P s).bind fun a => pureEval P (f a)
  | .pure _, _ => rfl
  | .program k, f => pureEval_bind (k P) f
  | .load _ _ _, _ => rfl
  | .store _ _ _ _, _ => rfl
  | .new _ _, _ => rfl
  | .shape _ _, _ => rfl
  | .freeze _ _ _, _ => rfl
  | .frozen _ _, _ => rfl
  | .getObj _ _, _ => rfl
  | .setObj _ _ _, _ => rfl
  | .choose _ _, _ => rfl
  | .sys _ _, _ => rfl
  | .mark _ _, _ => rfl
  | .halt _, _ => rfl
theorem pureEval_pure {α : Type} {P : Program} (a : α) : pureEval P (pure a : Sem α) = some a := rfl

theorem convert_sound {E : Env} {P : Program} {src dst : TypeId} {x : AV} {u : Value} {k : AV → Prop} (h : convertK P src dst x k) (hx : VR E x u) (w : World) :
    ∃ r z, k r ∧ VR E r z ∧ (convert src dst u).run P w = .ok z w := by
  unfold convertK at h
  split at h
  · rename_i d kd h1 h2
    split at h
    · obtain ⟨rfl, _⟩ := hx.vI
      refine ⟨_, _, h, .v _ _ rfl, ?_⟩
      unfold convert
      rw [Sem.run_bind, run_underlying h1, Result.andThen_ok, Sem.run_bind, run_underlying h2, Result.andThen_ok]
      cases d <;> rfl
    · exact False.elim h
  · rename_i h1 h2
    split at h
    · obtain ⟨rfl, _⟩ := hx.vI
      refine ⟨_, _, h, .v _ _ rfl, ?_⟩
      unfold convert
      rw [Sem.run_bind, run_underlying h1, Result.andThen_ok, Sem.run_bind, run_underlying h2, Result.andThen_ok]
      rfl
    · exact False.elim h
  · exact False.elim h

/-! ### Maps -/
theorem toVs_val {E : Env} {cs : List AV} {xs : List Value} {us : Array Value} (h : toVs cs = some xs) (hv : VRs E cs us.toList) : us = xs.toArray := by
  have := toVs_sound h hv
  rw [← this]
theorem toK_val {E : Env} {a : AV} {x u : Value} (h : toK a = some x) (hv : VR E a u) : u = x := by
  unfold toK at h
  split at h
  · cases h; exact hv.vI.1
  · split at h
    · rename_i xs hxs
      cases h
      obtain ⟨us, rfl, hus⟩ := hv.aggI
      rw [toVs_val hxs hus]
    · cases h
  · cases h

theorem findNow_keys {kind : TypeDesc} {k : Value} : ∀ {l1 l2 : List MapEntry} (i : Nat), l1.map (·.key) = l2.map (·.key) → ∀ {r : Option (Nat × Value)}, Instr.findNow kind k l1 i = some r →
    ∃ r2, Instr.findNow kind k l2 i = some r2 ∧ r2.map (·.1) = r.map (·.1) ∧ ∀ j v, r2 = some (j, v) → i ≤ j ∧ (l2[j - i]?).map (·.val) = some v
  | [], l2, i, hk, r, h => by
    have : l2 = [] := by cases l2 with | nil => rfl | cons _ _ => simp at hk
    subst this
    simp only [Instr.findNow, Option.some.injEq] at h
    subst h
    exact ⟨none, rfl, rfl, fun j v hj => by cases hj⟩
  | e1 :: l1, l2, i, hk, r, h => by
    cases l2 with
    | nil => simp at hk
    | cons e2 l2 =>
      simp only [List.map_cons, List.cons.injEq] at hk
      obtain ⟨hk1, hk2⟩ := hk
      unfold Instr.findNow at h ⊢
      rw [← hk1]
      split at h
      · cases h
        rename_i hs
        refine ⟨some (i, e2.val), rfl, rfl, fun j v hj => ?_⟩
        cases hj
        exact ⟨Nat.le_refl _, by simp⟩
      · rename_i hs
        obtain ⟨r2, h1, h2, h3⟩ := findNow_keys (i + 1) hk2 h
        refine ⟨r2, h1, h2, fun j v hj => ?_⟩
        obtain ⟨h4, h5⟩ := h3 j v hj
        refine ⟨by omega, ?_⟩
        rw [show j - i = (j - (i + 1)) + 1 by omega]
        exact h5
      · cases h
theorem findNow_none {kind : TypeDesc} {k : Value} : ∀ {l1 l2 : List MapEntry} (i : Nat), l1.map (·.key) = l2.map (·.key) → Instr.findNow kind k l1 i = none → Instr.findNow kind k l2 i = none
  | [], l2, i, hk, h => by simp [Instr.findNow] at h
  | e1 :: l1, l2, i, hk, h => by
    cases l2 with
    | nil => simp at hk
    | cons e2 l2 =>
      simp only [List.map_cons, List.cons.injEq] at hk
      unfold Instr.findNow at h ⊢
      rw [← hk.1]
      split at h
      · cases h
      · exact findNow_none (i + 1) hk.2 h
      · rfl
theorem findAsking_keys {P : Program} {kt : TypeId} {k : Value} : ∀ {l1 l2 : List MapEntry} (i : Nat), l1.map (·.key) = l2.map (·.key) → ∀ {r : Option (Nat × Value)}, pureEval P (Instr.findAsking kt k l1 i) = some r →
    ∃ r2, pureEval P (Instr.findAsking kt k l2 i) = some r2 ∧ r2.map (·.1) = r.map (·.1) ∧ ∀ j v, r2 = some (j, v) → i ≤ j ∧ (l2[j - i]?).map (·.val) = some v
  | [], l2, i, hk, r, h => by
    have : l2 = [] := by cases l2 with | nil => rfl | cons _ _ => simp at hk
    subst this
    simp only [Instr.findAsking, pureEval_pure, Option.some.injEq] at h
    subst h
    exact ⟨none, rfl, rfl, fun j v hj => by cases hj⟩
  | e1 :: l1, l2, i, hk, r, h => by
    cases l2 with
    | nil => simp at hk
    | cons e2 l2 =>
      simp only [List.map_cons, List.cons.injEq] at hk
      obtain ⟨hk1, hk2⟩ := hk
      unfold Instr.findAsking at h ⊢
      rw [pureEval_bind] at h ⊢
      rw [← hk1]
      cases hb : pureEval P (Op.equal kt k e1.key) with
      | none => rw [hb] at h; cases h
      | some b =>
        rw [hb] at h
        simp only [Option.bind_some] at h ⊢
        cases b with
        | true =>
          simp only [if_true, pureEval_pure, Option.some.injEq] at h ⊢
          subst h
          refine ⟨_, rfl, rfl, fun j v hj => ?_⟩
          cases hj
          exact ⟨Nat.le_refl _, by simp⟩
        | false =>
          simp only [Bool.false_eq_true, if_false] at h ⊢
          obtain ⟨r2, h1, h2, h3⟩ := findAsking_keys (i + 1) hk2 h
          refine ⟨r2, h1, h2, fun j v hj => ?_⟩
          obtain ⟨h4, h5⟩ := h3 j v hj
          refine ⟨by omega, ?_⟩
          rw [show j - i = (j - (i + 1)) + 1 by omega]
          exact h5
theorem findKey_keys {P : Program} {kt : TypeId} {k : Value} {l1 l2 : List MapEntry} (hk : l1.map (·.key) = l2.map (·.key)) {r : Option (Nat × Value)} (h : pureEval P (Instr.findKey kt k l1) = some r) (w : World) :
    ∃ r2, (Instr.findKey kt k l2).run P w = .ok r2 w ∧ r2.map (·.1) = r.map (·.1) ∧ ∀ j v, r2 = some (j, v) → (l2[j]?).map (·.val) = some v := by
  unfold Instr.findKey at h
  rw [pureEval_bind] at h
  cases hu : pureEval P (underlying kt) with
  | none => rw [hu] at h; cases h
  | some d =>
    rw [hu] at h
    simp only [Option.bind_some] at h
    unfold Instr.findKey
    rw [Sem.run_bind, pureEval_run _ w hu, Result.andThen_ok]
    cases hn : Instr.findNow d k l1 0 with
    | some r1 =>
      rw [hn] at h
      simp only [pureEval_pure, Option.some.injEq] at h
      subst h
      obtain ⟨r2, h1, h2, h3⟩ := findNow_keys 0 hk hn
      exact ⟨r2, by rw [h1]; rfl, h2, fun j v hj => by simpa using (h3 j v hj).2⟩
    | none =>
      rw [hn] at h
      rw [findNow_none 0 hk hn]
      obtain ⟨r2, h1, h2, h3⟩ := findAsking_keys 0 hk h
      exact ⟨r2, pureEval_run _ w h1, h2, fun j v hj => by simpa using (h3 j v hj).2⟩

theorem keysOf_spec : ∀ {es : List (AV × AV)} {xs : List MapEntry} {ms : List MapEntry}, keysOf es = some xs → es.length = ms.length → (∀ (i : Nat) (e : AV × AV) (m : MapEntry), es[i]? = some e → ms[i]? = some m → toK e.1 = some m.key) →
    xs.map (·.key) = ms.map (·.key)
  | [], xs, ms, h, hl, _ => by
    simp only [keysOf, Option.some.injEq] at h
    subst h
    have : ms = [] := List.eq_nil_of_length_eq_zero (by simpa using hl.symm)
    subst this
    rfl
  | (k, v) :: es, xs, ms, h, hl, hk => by
    cases ms with
    | nil => simp at hl
    | cons m ms =>
      unfold keysOf at h
      split at h
      · rename_i x xs' h1 h2
        cases h
        have e1 := hk 0 (k, v) m rfl rfl
        simp only at e1
        rw [h1] at e1
        cases e1
        have := keysOf_spec (ms := ms) h2 (by simpa using hl) (fun i e m' h3 h4 => hk (i + 1) e m' (by simpa using h3) (by simpa using h4))
        simp [this]
      · cases h

/-- What the search finds, at the model's own entries. -/
theorem findK_sound {P : Program} {kt : TypeId} {key : AV} {es : List (AV × AV)} {k : Value → Option Nat → Prop} {E : Env} {u : Value} {ms : Array MapEntry} (h : findK P kt key es k) (hu : VR E key u)
    (hl : es.length = ms.size) (hk : ∀ (i : Nat) (e : AV × AV) (m : MapEntry), es[i]? = some e → ms[i]? = some m → toK e.1 = some m.key) (w : World) :
    ∃ r : Option (Nat × Value), k u (r.map (·.1)) ∧ toK key = some u ∧ (∀ em, em = ms.isEmpty → (Instr.checkKey em 10000 kt u).run P w = .ok () w) ∧ (Instr.findKey kt u ms.toList).run P w = .ok r w ∧ ∀ j v, r = some (j, v) → (ms[j]?).map (·.val) = some v := by
  unfold findK at h
  split at h
  · rename_i x xs h1 h2
    have e0 := toK_val h1 hu
    subst e0
    split at h
    · rename_i c r hc hf
      have hkeys := keysOf_spec (ms := ms.toList) h2 (by simpa using hl) (fun i e m h3 h4 => hk i e m h3 (by simpa using h4))
      obtain ⟨r2, h3, h4, h5⟩ := findKey_keys hkeys hf w
      refine ⟨r2, by rw [h4]; exact h, h1, fun em he => ?_, h3, fun j v hj => by simpa using h5 j v hj⟩
      have : xs.isEmpty = em := by
        have hlen : xs.length = ms.size := by have := congrArg List.length hkeys; simpa using this
        rw [he]
        cases xs with
        | nil => simp at hlen; simp [Array.isEmpty, ← hlen]
        | cons _ _ => simp at hlen; simp [Array.isEmpty, ← hlen]
      rw [← this]
      exact pureEval_run _ w hc
    · exact False.elim h
  · exact False.elim h

section
variable {G : Gh} {p : Nat → Option (List AV)} {E : Env} {M : St} {w : World} {P : Program}

theorem run_getObj {b : Nat} {ms : Array MapEntry} {clock : Nat} (h : w.heap[b]? = some (.map ms clock)) : (getObj b).run P w = .ok (.map ms clock) w := by
  simp [getObj, Sem.run, h]

theorem lookup_sound (hM : SimM G p E M w) {t : TypeId} {m key : AV} {u v : Value} {ok : Bool} {k : AV → Prop} (h : lookupK P t m key ok M k) (hm : VR E m u) (hkey : VR E key v) :
    ∃ r z, k r ∧ VR E r z ∧ (Instr.lookup t u v ok).run P w = .ok z w := by
  have ret : ∀ {x : AV} {z : Value} {b : Bool}, VR E x z → retOk ok x b k → ∃ r zz, k r ∧ VR E r zz ∧ zz = (if ok then .tuple #[z, .bool b] else z) := by
    intro x z b hx hh
    cases ok with
    | true => exact ⟨_, _, hh, .tup #[z, .bool b] rfl (fun m c u h1 h2 => by
        match m, h1, h2 with
        | 0, h1, h2 => simp at h1 h2; subst h1 h2; exact hx
        | 1, h1, h2 => simp at h1 h2; subst h1 h2; exact .v _ _ rfl), rfl⟩
    | false => exact ⟨_, _, hh, hx, rfl⟩
  have zero : ∀ {e : TypeId}, zeroOk P e ok k → ∃ r zz z, k r ∧ VR E r zz ∧ (zeroValue e).run P w = .ok z w ∧ zz = (if ok then .tuple #[z, .bool false] else z) := by
    intro e hh
    unfold zeroOk at hh
    split at hh
    · rename_i i hi
      split at hh
      · rename_i z hz
        rw [forceA_iff] at hh
        obtain ⟨r, zz, h1, h2, h3⟩ := ret (VR_ofC E z) hh
        exact ⟨r, zz, z, h1, h2, run_zeroValue hi hz w, h3⟩
      · exact False.elim hh
    · exact False.elim hh
  unfold lookupK at h
  split at h
  · rename_i kt e hu
    split at h
    · cases hm
      obtain ⟨r, hr, hk1, hc, hf, hv⟩ := findK_sound (ms := #[]) h hkey rfl (fun i e m h1 => by simp at h1) w
      have hr0 : r = none := by
        cases r with
        | none => rfl
        | some x => have := hv x.1 x.2 rfl; simp at this
      subst hr0
      obtain ⟨r, zz, z, h1, h2, h3, h4⟩ := zero hr
      refine ⟨r, zz, h1, h2, ?_⟩
      unfold Instr.lookup
      have hc' := hc true rfl
      simp only [Sem.run_bind, run_underlying hu, Result.andThen_ok, Sem.run_pure]
      rw [show (#[] : Array MapEntry).isEmpty = true from rfl, hc', Result.andThen_ok, hf, Result.andThen_ok]
      simp only [Sem.run_bind, h3, Result.andThen_ok, Sem.run_pure, h4]
    · rename_i id
      split at h
      · rename_i fl es ho
        have hob := hM.obj id
        rw [ho] at hob
        cases hm with
        | mp hmu =>
          rename_i b o sz n
          rw [hmu] at hob
          obtain ⟨ms, clock, h1, h2, h3⟩ := hob
          rw [hM.hp] at h1
          obtain ⟨r, hr, hk1, hc, hf, hv⟩ := findK_sound (ms := ms) h hkey h2 (fun i e m h4 h5 => (h3 i e m h4 h5).1) w
          have hc' := hc ms.isEmpty rfl
          cases r with
          | none =>
            unfold foundOk at hr
            obtain ⟨r, zz, z, h4, h5, h6, h7⟩ := zero hr
            refine ⟨r, zz, h4, h5, ?_⟩
            unfold Instr.lookup
            simp only [Sem.run_bind, run_underlying hu, Result.andThen_ok, Sem.run_pure, run_getObj h1, hc', hf, h6, h7]
          | some jv =>
            obtain ⟨j, vv⟩ := jv
            unfold foundOk at hr
            simp only [Option.map_some] at hr
            split at hr
            · rename_i en hen
              have hj := hv j vv rfl
              cases hmj : ms[j]? with
              | none => rw [hmj] at hj; cases hj
              | some me =>
                rw [hmj] at hj
                simp only [Option.map_some, Option.some.injEq] at hj
                subst hj
                have hval := (h3 j en me hen hmj).2
                have hval' : VR E en.2 me.val := by
                  cases fl with
                  | true => exact hval.of_fz
                  | false => exact hval.of_ob
                obtain ⟨r, zz, h4, h5, h6⟩ := ret hval' hr
                refine ⟨r, zz, h4, h5, ?_⟩
                unfold Instr.lookup
                simp only [Sem.run_bind, run_underlying hu, Result.andThen_ok, Sem.run_pure, run_getObj h1, hc', hf, h6]
            · exact False.elim hr
      · exact False.elim h
    · exact False.elim h
  · exact False.elim h
end

end A
end Go.Proofs.Ytnjpjmeoednfcaa
