/- Whole operations, and regions whose order is fixed. -/
import Derived.Test.YtnjpjmeoednfcaaA27
namespace Go.Proofs.Ytnjpjmeoednfcaa
namespace A
open Go
open Go.RowKit (Below)

/-- What calls may be taken to do. -/
structure CallOK (C : Ctx) : Prop where
  pcall : ∀ f args K, C.pcall f args K → PCall C.P f args K
  scall : ∀ f args o K, C.scall f args o K → SCall C.P f args o K

section
variable {G : Gh} {E : Env} {S : St} {w : World} {C : Ctx} {pl : Pol} {o : Oper} {a : Act} {K : St → Prop}

theorem memOf_sim (hM : SimM G pn E S w) : SimM G pn E (memOf S) w := hM.congr rfl rfl rfl

theorem pop1_sound (hM : SimM G pn E S w) (ht : TR E S.t a) (h : pop1 C pl o S K) : XStep C.P G o a w K := by
  obtain ⟨vs, h, hv⟩ := getsK_elim ht h
  by_cases hb : ∃ t len parts, o.op = .buildSlice t len parts
  · obtain ⟨t, len, parts, ho⟩ := hb
    unfold pop at h
    rw [ho] at h
    replace h := Chk_elim h; obtain ⟨hp, h⟩ := h
    have hl : parts.toList.length = vs.length := by simpa using Nat.eq_of_beq_eq_true hp
    have hv' : VRs E vs ((parts.toList.map (·.2)).map a.eval) := by
      rw [ho] at hv
      simpa [Op.operands] using hv
    refine XStep.of1 (S := S) ⟨rfl, rfl, rfl⟩ ht (buildFz_sound hM ho hl hv' h) (fun r M' hk => ?_)
    obtain ⟨hk, rfl⟩ := hk
    rw [putK_iff] at hk
    exact ⟨_, hk, rfl⟩
  · have hs : ∀ t len parts, o.op ≠ .buildSlice t len parts := fun t len parts he => hb ⟨t, len, parts, he⟩
    obtain ⟨r, z, hk, hr, hrun⟩ := pop_sound h hs hv w
    rw [putK_iff] at hk
    intro next Q hn
    exact wp_value hrun (hn _ E _ w hk (hM.congr setT_l setT_o setT_b) (ht.put hr))

theorem rop1_sound (hC : CallOK C) (hM : SimM G pn E S w) (ht : TR E S.t a) (h : rop1 C o S K) : XStep C.P G o a w K := by
  obtain ⟨vs, h, hv⟩ := getsK_elim ht h
  refine XStep.of1 (S := S) (M := memOf S) ⟨rfl, rfl, rfl⟩ ht (rop_sound hC.pcall (memOf_sim hM) h hv) (fun r M' hk => ?_)
  obtain ⟨hk, rfl⟩ := hk
  rw [putK_iff] at hk
  exact ⟨_, hk, rfl⟩

theorem wop1_sound (hM : SimM G pn E S w) (ht : TR E S.t a) (h : wop1 C o S K) : XStep C.P G o a w K := by
  obtain ⟨vs, h, hv⟩ := getsK_elim ht h
  refine XStep.of1 (S := S) (M := memOf S) ⟨rfl, rfl, rfl⟩ ht (wop_sound (memOf_sim hM) h hv) (fun r M' hk => ?_)
  rw [putK_iff] at hk
  exact ⟨_, hk, by cases o.dst <;> rfl⟩

theorem xop_sound (hC : CallOK C) (hM : SimM G pn E S w) (ht : TR E S.t a) (h : xop C pl o S K) : XStep C.P G o a w K := by
  unfold xop at h
  split at h
  · rename_i e ho
    exact alloc_sound hM ht ho h
  · rename_i e x ho
    exact boxop_sound hM ht ho h
  · rename_i t len parts ho
    exact buildSlice_sound hM ht ho h
  · rename_i t r ho
    cases r with
    | none => exact makeMap_sound hM ht ho h
    | some r => exact False.elim h
  · rename_i t l c ho
    exact makeSlice_sound hM ht ho h
  · rename_i t m key x ho
    exact mapUpdate_sound hM ht ho h
  · rename_i c ho
    split at h
    · rename_i b hcal
      split at h
      · obtain ⟨vs, h, hv⟩ := getsK_elim ht h
        split at h
        · rename_i x y
          obtain ⟨u, us, e, hc, hn⟩ := hv.uncons
          obtain ⟨u1, us1, rfl, hc1, hn1⟩ := hn.uncons
          have := hn1.unnil
          subst this
          exact append_sound hM ht ho hcal e hc hc1 h
        · exact False.elim h
      · exact False.elim h
    · rename_i f hcal
      obtain ⟨fv, h, hf⟩ := getK_elim h ht
      obtain ⟨as, h, has⟩ := getsK_elim ht h
      unfold callK at h
      split at h
      · rename_i fid first cap
        split at h
        · exact callpure_sound hC.pcall hM ht ho hcal hf has h
        · replace h := Chk_elim h; obtain ⟨hnl, h⟩ := h
          exact scall_sound hM ht ho hcal hf has hnl (hC.scall _ _ _ _ h)
      · exact False.elim h
    · exact False.elim h
  · exact False.elim h

theorem aop_sound (hC : CallOK C) (hM : SimM G pn E S w) (ht : TR E S.t a) (h : aop C pl o S K) : XStep C.P G o a w K := by
  unfold aop at h
  split at h
  · exact pop1_sound hM ht h
  · exact rop1_sound hC hM ht h
  · exact wop1_sound hM ht h
  · exact xop_sound hC hM ht h

theorem TR.lit {d : Nat} {b : Bool} (ht : TR E S.t a) (hd : S.t[d]? = some (.v (.bool b))) : a.tmps[d]? = some (.bool b) := by
  have hlt : d < a.tmps.size := by rw [← ht.len]; exact (List.getElem?_eq_some_iff.1 hd).1
  rw [Array.getElem?_eq_getElem hlt]
  have := ht.val d _ _ hd (Array.getElem?_eq_getElem hlt)
  rw [this.vI.1]

theorem TR.relit {d : Nat} {b : Bool} (ht : TR E S.t a) (hd : S.t[d]? = some (.v (.bool b))) : TR E (S.t.set d (.v (.bool b))) a := by
  have : S.t.set d (.v (.bool b)) = S.t := by
    apply List.ext_getElem?
    intro j
    rw [List.getElem?_set]
    by_cases hj : d = j
    · subst hj
      rw [if_pos rfl, if_pos (List.getElem?_eq_some_iff.1 hd).1, hd]
    · rw [if_neg hj]
  rw [this]
  exact ht

theorem boolAt_elim {d : Nat} {k : Bool → St → Prop} (hM : SimM G pn E S w) (ht : TR E S.t a) (h : boolAt d S k) : ∃ b S1, k b S1 ∧ a.tmps[d]? = some (.bool b) ∧ SimM G pn E S1 w ∧ TR E S1.t a := by
  unfold boolAt at h
  rw [nthK_iff] at h
  obtain ⟨c, hc, h⟩ := h
  split at h
  · rename_i b
    rcases Fork_elim h with ⟨hb, h2⟩ | ⟨hb, h2⟩
    · subst hb
      rw [setK_iff] at h2
      exact ⟨true, _, h2, ht.lit hc, hM.congr rfl rfl rfl, ht.relit hc⟩
    · subst hb
      rw [setK_iff] at h2
      exact ⟨false, _, h2, ht.lit hc, hM.congr rfl rfl rfl, ht.relit hc⟩
  · exact False.elim h

theorem yielded_of {ops : Array Oper} {j d : Nat} {b : Bool} (hd : dstOf ops j = some d) (hb : a.tmps[d]? = some (.bool b)) : yielded ops a.tmps j = some b := by
  unfold yielded
  unfold dstOf at hd
  rw [hd]
  simp [hb]

/-- A region whose order is fixed. -/
theorem aops_sound (hC : CallOK C) {all : Array Oper} {Q : Exit → Act → World → Prop} : ∀ {ops : List Oper} {E : Env} {S : St} {w : World} {a : Act} {K : St → Prop}, SimM G pn E S w → TR E S.t a → aops C pl false all ops S K →
    (∀ S' E' a' w', K S' → SimM G pn E' S' w' → TR E' S'.t a' → Q .normal a' w') → wpList C.P all Q ops a w
  | [], E, S, w, a, K, hM, ht, h, hQ => hQ _ _ _ _ h hM ht
  | o :: rest, E, S, w, a, K, hM, ht, h, hQ => by
    have step : ∀ {S1 : St}, SimM G pn E S1 w → TR E S1.t a → Region.wanted o (yielded all a.tmps) = true → (aop1 C pl false o S1 fun S' => aops C pl false all rest S' K) → wpList C.P all Q (o :: rest) a w := by
      intro S1 hM1 ht1 hw h
      unfold wpList
      rw [if_pos hw]
      refine .inl (aop_sound hC hM1 ht1 h _ _ (fun S' E' a' w' hk hS htr => ?_))
      exact aops_sound hC hS htr hk hQ
    unfold aops at h
    split at h
    · rename_i hg
      exact step hM ht (by unfold Region.wanted; rw [hg]) h
    · rename_i j want hg
      split at h
      · exact False.elim h
      · rename_i d hd
        obtain ⟨b, S1, h, hb, hM1, ht1⟩ := boolAt_elim hM ht h
        have hy := yielded_of hd hb
        split at h
        · exact step hM1 ht1 (by unfold Region.wanted; rw [hg]; simp [hy]) h
        · exact step hM1 ht1 (by unfold Region.wanted; rw [hg]; simp [hy]) h
        · rename_i hne1 hne2
          rw [putK_iff] at h
          unfold wpList
          rw [if_neg (by
            unfold Region.wanted
            rw [hg]
            simp only [hy]
            cases b <;> cases want <;> simp_all)]
          exact aops_sound hC (hM1.congr setT_l setT_o setT_b) (ht1.put (.bad _ _)) h hQ
end

end A
end Go.Proofs.Ytnjpjmeoednfcaa
