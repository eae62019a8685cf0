/- Operations that neither see nor turn memory of the call's own: what the evaluator says they yield, the model's operation yields. -/
import Derived.Test.YtnjpjmeoednfcaaA4
import Derived.Laws.Cells
import Derived.Laws.Entries
import Derived.ChangeKeysEq
namespace Go.Proofs.Ytnjpjmeoednfcaa
namespace A
open Go

theorem pureEval_run {α : Type} {P : Program} : ∀ (s : Sem α) {x : α} (w : World), pureEval P s = some x → s.run P w = .ok x w
  | .pure a, x, w, h => by simp only [pureEval, Option.some.injEq] at h; subst h; rfl
  | .program k, x, w, h => by simp only [pureEval] at h; exact pureEval_run (k P) w h
  | .load _ _ _, _, _, h => by cases h
  | .store _ _ _ _, _, _, h => by cases h
  | .new _ _, _, _, h => by cases h
  | .shape _ _, _, _, h => by cases h
  | .freeze _ _ _, _, _, h => by cases h
  | .frozen _ _, _, _, h => by cases h
  | .getObj _ _, _, _, h => by cases h
  | .setObj _ _ _, _, _, h => by cases h
  | .choose _ _, _, _, h => by cases h
  | .sys _ _, _, _, h => by cases h
  | .mark _ _, _, _, h => by cases h
  | .halt _, _, _, h => by cases h

theorem aBin_sound {P : Program} {op : BinOp} {a b c : Value} (h : aBin op a b = some c) (t : TypeId) (w : World) :
    (binOp op t a b).run P w = .ok c w ∧ plain c = true := by
  unfold aBin at h
  split at h
  · split at h <;> first
      | (split at h
         · rename_i hk
           subst hk
           simp only [Option.some.injEq] at h
           subst h
           refine ⟨?_, rfl⟩
           simp [binOp, Op.intArith, Op.intCmp, Op.intBits]
         · cases h)
      | cases h
  · split at h <;> first
      | (simp only [Option.some.injEq] at h
         subst h
         refine ⟨?_, rfl⟩
         simp [binOp, Op.stringOp])
      | cases h
  · cases h

theorem aBinC_sound {P : Program} {op : BinOp} {a b : Value} {K : Value → Prop} (h : aBinC op a b K) (t : TypeId) (w : World) :
    ∃ c, K c ∧ (binOp op t a b).run P w = .ok c w ∧ plain c = true := by
  unfold aBinC at h
  split at h <;> first
    | exact False.elim h
    | (obtain ⟨hc, hK⟩ := Chk_elim h
       refine ⟨_, hK, ?_, rfl⟩
       simp only [Bool.and_eq_true, decide_eq_true_eq, Bool.not_eq_true', beq_eq_false_iff_ne, ne_eq] at hc
       first
         | (obtain ⟨rfl, hb⟩ := hc; simp [binOp, Op.intDiv, hb])
         | (have hb : ¬ _ < (0 : Int) := Int.not_lt.2 hc
            simp [binOp, Op.shift, hb])
         | (simp only [binOp, Op.stringOp]
            rw [if_neg (by rw [show IntKind.i64.max = 9223372036854775807 from rfl]; omega)]
            rfl))

theorem unK_sound {P : Program} {op : UnOp} {x : AV} {K : AV → Prop} {E : Env} {u : Value} (h : unK op x K) (hx : VR E x u) (w : World) :
    ∃ r z, K r ∧ VR E r z ∧ (Op.unary op u).run P w = .ok z w := by
  unfold unK at h
  split at h <;> first
    | exact False.elim h
    | (obtain ⟨rfl, _⟩ := hx.vI
       exact ⟨_, _, h, .v _ _ rfl, by simp [Op.unary, Op.intArith, Op.intBits]⟩)

theorem toVs_sound {E : Env} : ∀ {as : List AV} {xs : List Value} {us : List Value}, toVs as = some xs → VRs E as us → us = xs
  | [], xs, us, h, hv => by simp only [toVs, Option.some.injEq] at h; subst h; exact hv.unnil
  | a :: as, xs, us, h, hv => by
    obtain ⟨u, us', rfl, ha, hs⟩ := hv.uncons
    unfold toVs at h
    split at h
    · rename_i x xs' h1 h2
      simp only [Option.some.injEq] at h
      subst h
      unfold toV1 at h1
      split at h1
      · simp only [Option.some.injEq] at h1
        subst h1
        rw [ha.vI.1, toVs_sound h2 hs]
      · cases h1
    · cases h

def noIf : Value → Bool
  | .nilIface | .agg _ => false
  | _ => true
theorem eqGuard_no {op : BinOp} {t : TypeId} {X Y : Operand} {a b : Value} (h : noIf a = true) : eqGuard op t X Y a b = pure () := by
  unfold eqGuard
  cases a <;> first | (cases op <;> rfl) | (cases h; done)

theorem eql_of {P : Program} {t : TypeId} {u v : Value} {b : Bool} {w : World} (h : ∀ d : Nat, (Op.equalIn (d + 1) t u v).run P w = .ok b w) : (Op.equal t u v).run P w = .ok b w := h 9999
theorem eqIn_bool {P : Program} {t : TypeId} (hu : P.underlying t = some .bool) (a b : Bool) (w : World) (d : Nat) : (Op.equalIn (d + 1) t (.bool a) (.bool b)).run P w = .ok (a == b) w := by
  unfold Op.equalIn
  rw [Sem.run_bind, run_underlying hu]
  rfl

theorem nilEq_sound {P : Program} {t : TypeId} {x y : AV} {E : Env} {u v : Value} {b : Bool} (hk : kindOk P t x y = true) (h : nilEq x y = some b) (hx : VR E x u) (hy : VR E y v) (w : World) :
    (Op.equal t u v).run P w = .ok b w ∧ noIf u = true ∧ (binOp .eql t u v).run P w = ((Op.equal t u v).run P w).andThen (fun r w => .ok (.bool r) w) ∧ (binOp .neq t u v).run P w = ((Op.equal t u v).run P w).andThen (fun r w => .ok (.bool (!r)) w) := by
  have key : (∀ d : Nat, (Op.equalIn (d + 1) t u v).run P w = .ok b w) → noIf u = true ∧ binOp .eql t u v = (do pure (.bool (← Op.equal t u v))) ∧ binOp .neq t u v = (do pure (.bool (!(← Op.equal t u v)))) →
      (Op.equal t u v).run P w = .ok b w ∧ noIf u = true ∧ (binOp .eql t u v).run P w = ((Op.equal t u v).run P w).andThen (fun r w => .ok (.bool r) w) ∧ (binOp .neq t u v).run P w = ((Op.equal t u v).run P w).andThen (fun r w => .ok (.bool (!r)) w) :=
    fun h1 h2 => ⟨eql_of h1, h2.1, by rw [h2.2.1, Sem.run_bind]; rfl, by rw [h2.2.2, Sem.run_bind]; rfl⟩
  unfold nilEq at h
  split at h
  all_goals first
    | (cases h; done)
    | (simp only [Option.some.injEq] at h
       subst h
       unfold kindOk at hk
       split at hk
       all_goals first
         | (cases hk; done)
         | (cases hx <;> cases hy <;> have hu := ‹P.underlying t = some _› <;> first
              | (refine key (fun d => ?_) ⟨rfl, rfl, rfl⟩; unfold Op.equalIn; rw [Sem.run_bind, run_underlying hu]; rfl)
              | (exfalso; simp_all; done)))

theorem nilK_sound {P : Program} {op : BinOp} {t : TypeId} {x y : AV} {K : AV → Prop} {E : Env} {u v : Value} (hk : kindOk P t x y = true) (h : nilK op x y K) (hx : VR E x u) (hy : VR E y v) (w : World) (X Y : Operand) :
    ∃ r z, K r ∧ VR E r z ∧ (do eqGuard op t X Y u v; binOp op t u v : Sem Value).run P w = .ok z w := by
  unfold nilK at h
  split at h
  · split at h
    · rename_i b hb
      obtain ⟨h1, h2, h3⟩ := nilEq_sound hk hb hx hy w
      exact ⟨_, _, h, .v _ _ rfl, by rw [eqGuard_no h2]; simp [h3.1, h1]⟩
    · exact False.elim h
  · split at h
    · rename_i b hb
      obtain ⟨h1, h2, h3⟩ := nilEq_sound hk hb hx hy w
      exact ⟨_, _, h, .v _ _ rfl, by rw [eqGuard_no h2]; simp [h3.2, h1]⟩
    · exact False.elim h
  · exact False.elim h

theorem binK_sound {P : Program} {op : BinOp} {t : TypeId} {x y : AV} {K : AV → Prop} {E : Env} {u v : Value} (h : binK P op t x y K) (hx : VR E x u) (hy : VR E y v) (w : World) (X Y : Operand) :
    ∃ r z, K r ∧ VR E r z ∧ (do eqGuard op t X Y u v; binOp op t u v : Sem Value).run P w = .ok z w := by
  unfold binK at h
  split at h
  · rename_i a b
    obtain ⟨rfl, pa⟩ := hx.vI
    obtain ⟨rfl, pb⟩ := hy.vI
    have hg : (eqGuard op t X Y u v).run P w = .ok () w := by
      rw [eqGuard_no (by cases u <;> first | rfl | (cases pa; done))]
      rfl
    unfold scalK at h
    split at h
    · rename_i c hc
      obtain ⟨h1, h2⟩ := aBin_sound (P := P) hc t w
      exact ⟨_, _, h, .v _ _ h2, by simp [hg, h1]⟩
    · split at h
      · unfold boolK at h
        split at h
        · rename_i hu
          split at h <;> first
            | exact False.elim h
            | (refine ⟨_, _, h, .v _ _ rfl, ?_⟩
               rw [Sem.run_bind, hg, Result.andThen_ok]
               first
                 | (show (Op.equal t (.bool _) (.bool _) >>= fun r => (pure (Value.bool r) : Sem Value)).run P w = _
                    rw [Sem.run_bind, eql_of (eqIn_bool hu _ _ w)]
                    rfl)
                 | (show (Op.equal t (.bool _) (.bool _) >>= fun r => (pure (Value.bool (!r)) : Sem Value)).run P w = _
                    rw [Sem.run_bind, eql_of (eqIn_bool hu _ _ w)]
                    rfl))
        · exact False.elim h
      · obtain ⟨c, hK, h1, h2⟩ := aBinC_sound (P := P) h t w
        exact ⟨_, _, hK, .v _ _ h2, by simp [hg, h1]⟩
  · rename_i as bs
    obtain ⟨us, rfl, hus⟩ := hx.aggI
    obtain ⟨ws, rfl, hws⟩ := hy.aggI
    split at h
    · rename_i xs ys h1 h2
      have e1 := toVs_sound h1 hus
      have e2 := toVs_sound h2 hws
      split at h
      · rename_i b hb
        have hr := pureEval_run _ w hb
        refine ⟨_, _, h, .v _ _ rfl, ?_⟩
        have e3 : us = xs.toArray := by rw [← e1]
        have e4 : ws = ys.toArray := by rw [← e2]
        subst e3 e4
        rw [← hr]
        rfl
      · exact False.elim h
    · exact False.elim h
  · obtain ⟨hk, h⟩ := Chk_elim h
    exact nilK_sound hk h hx hy w X Y

end A
end Go.Proofs.Ytnjpjmeoednfcaa
