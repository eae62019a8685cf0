/- Regions whose order is open: one walk in the order of the text serves every order. First part: operations that make no difference to each other. -/
import Derived.Test.YtnjpjmeoednfcaaA34
import Derived.Still
namespace Go.Proofs.Ytnjpjmeoednfcaa
namespace A
open Go

/-- Whether the guard lets it. -/
def gsel (b want : Bool) (X Y : Prop) : Prop :=
  match b, want with
  | true, true => X
  | false, false => X
  | _, _ => Y

/-- One operation with its guard. -/
def ag (C : Ctx) (pl : Pol) (all : Array Oper) (o : Oper) (S : St) (K : St → Prop) : Prop :=
  match o.guard with
  | none => dop C pl o S K
  | some (j, want) =>
    match dstOf all j with
    | none => Fail 218
    | some d => boolAt d S fun b S1 => gsel b want (dop C pl o S1 K) (putK o.dst .bad S1 K)

theorem aops_ag {C : Ctx} {pl : Pol} {all : Array Oper} {o : Oper} {rest : List Oper} {S : St} {K : St → Prop} (h : aops C pl true all (o :: rest) S K) : ag C pl all o S fun S' => aops C pl true all rest S' K := by
  unfold aops at h
  unfold ag
  split at h
  · rename_i hg
    rw [hg]
    exact h
  · rename_i j want hg
    rw [hg]
    dsimp only
    split at h
    · exact False.elim h
    · rename_i d hd
      rw [hd]
      exact h

def appS (S : St) (dst : Option Tmp) (v : AV) (m : Option St) : St :=
  setT (match m with | none => S | some M => withM S M) dst v

def memEq (S S2 : St) : Prop := S2.l = S.l ∧ S2.o = S.o ∧ S2.b = S.b
theorem memEq.refl (S : St) : memEq S S := ⟨rfl, rfl, rfl⟩
theorem memEq.trans {S S2 S3 : St} (h : memEq S S2) (k : memEq S2 S3) : memEq S S3 := ⟨k.1.trans h.1, k.2.1.trans h.2.1, k.2.2.trans h.2.2⟩

def opsAgree (xs : List Operand) (S S2 : St) : Prop := ∀ d, Operand.tmp d ∈ xs → S2.t[d]? = S.t[d]?

theorem getK_congr {S S2 : St} {x : Operand} {k : AV → Prop} (h : getK S x k) (ha : ∀ d, x = .tmp d → S2.t[d]? = S.t[d]?) : getK S2 x k := by
  unfold getK at *
  split at h
  · rename_i d
    obtain ⟨c, hc, hk⟩ := nthK_iff.1 h
    exact nthK_iff.2 ⟨c, by rw [ha d rfl]; exact hc, hk⟩
  · exact h
  · exact h
  · exact h
theorem getsK_congr {S S2 : St} : ∀ {xs : List Operand} {k : List AV → Prop}, getsK S xs k → opsAgree xs S S2 → getsK S2 xs k
  | [], _, h, _ => h
  | x :: xs, k, h, ha => by
    obtain ⟨c, h1, h2⟩ := getK_det _ h
    have hx : getK S2 x fun a => getsK S2 xs fun as => k (a :: as) := by
      refine getK_congr (S := S) (h2 _ ?_) (fun d e => ha d (by rw [← e]; exact List.mem_cons_self))
      exact getsK_congr h1 (fun d hd => ha d (List.mem_cons_of_mem _ hd))
    exact hx

/-- What an operation does, wherever its operands (and, if it sees memory, memory) are the same. -/
def DEff (C : Ctx) (pl : Pol) (o : Oper) (S : St) (v : AV) (m : Option St) : Prop :=
  (clsD o ≠ 2 → m = none) ∧ ∀ S2, opsAgree o.op.operands.toList S S2 → ((clsD o = 1 ∨ clsD o = 2) → memEq S S2) → ∀ K2 : St → Prop, K2 (appS S2 o.dst v m) → dop C pl o S2 K2

theorem memOf_eq {S S2 : St} (h : memEq S S2) : memOf S2 = memOf S := by
  unfold memOf
  rw [h.1, h.2.1, h.2.2]

theorem dop_eff {C : Ctx} (hC : CDet C) {pl : Pol} {o : Oper} {S : St} {K : St → Prop} (h : dop C pl o S K) : ∃ v m, DEff C pl o S v m ∧ K (appS S o.dst v m) := by
  unfold dop at h
  split at h
  · rename_i hc
    obtain ⟨vs, h1, h2⟩ := getsK_det _ h
    obtain ⟨r, h3, h4⟩ := pop_det _ h1
    rw [putK_iff] at h3
    refine ⟨r, none, ⟨fun _ => rfl, fun S2 ha _ K2 hk => ?_⟩, h3⟩
    unfold dop
    rw [hc]
    refine getsK_congr (S := S) (h2 (fun vs => pop C pl o vs fun r => putK o.dst r S2 K2) (h4 _ ?_)) ha
    rw [putK_iff]
    exact hk
  · rename_i hc
    obtain ⟨vs, h1, h2⟩ := getsK_det _ h
    obtain ⟨r, h3, h4⟩ := rop_det hC _ h1
    rw [putK_iff] at h3
    refine ⟨r, none, ⟨fun _ => rfl, fun S2 ha hm K2 hk => ?_⟩, h3⟩
    unfold dop
    rw [hc]
    have hm' := memOf_eq (hm (.inl hc))
    refine getsK_congr (S := S) (h2 (fun vs => rop C o vs (memOf S2) fun r => putK o.dst r S2 K2) ?_) ha
    rw [hm']
    refine h4 _ ?_
    rw [putK_iff]
    exact hk
  · rename_i hc
    obtain ⟨vs, h1, h2⟩ := getsK_det _ h
    obtain ⟨r, M, h3, h4⟩ := wop_det _ h1
    rw [putK_iff] at h3
    refine ⟨r, some M, ⟨fun hn => absurd hc hn, fun S2 ha hm K2 hk => ?_⟩, h3⟩
    unfold dop
    rw [hc]
    have hm' := memOf_eq (hm (.inr hc))
    refine getsK_congr (S := S) (h2 (fun vs => wop C o vs (memOf S2) fun r M => putK o.dst r (withM S2 M) K2) ?_) ha
    rw [hm']
    refine h4 _ ?_
    rw [putK_iff]
    exact hk
  · rename_i hc
    split at h
    · rename_i d hd
      rw [putK_iff] at h
      refine ⟨_, none, ⟨fun _ => rfl, fun S2 ha _ K2 hk => ?_⟩, h⟩
      unfold dop
      rw [hc]
      show match o.dst with
        | some d => putK o.dst (.ptr (.L d) 0 0) S2 K2
        | none => Fail 217
      split
      · rename_i d2 hd2
        rw [hd] at hd2
        cases hd2
        rw [putK_iff]
        exact hk
      · rename_i hd2
        rw [hd] at hd2
        cases hd2
    · exact False.elim h
  · exact False.elim h

theorem St_eta {S : St} {t : List AV} (h : t = S.t) : ({ t := t, l := S.l, o := S.o, b := S.b } : St) = S := by
  subst h; rfl
theorem set_same {t : List AV} {d : Nat} {x : AV} (h : t[d]? = some x) : t.set d x = t := by
  apply List.ext_getElem?
  intro j
  rw [List.getElem?_set]
  by_cases hj : d = j
  · subst hj
    rw [if_pos rfl, if_pos (List.getElem?_eq_some_iff.1 h).1, h]
  · rw [if_neg hj]
theorem boolAt_iff {d : Nat} {S : St} {k : Bool → St → Prop} : boolAt d S k ↔ ∃ b, S.t[d]? = some (.v (.bool b)) ∧ k b S := by
  constructor
  · intro h
    unfold boolAt at h
    rw [nthK_iff] at h
    obtain ⟨c, hc, h⟩ := h
    split at h
    · rename_i b
      rcases Fork_elim h with ⟨hb, h2⟩ | ⟨hb, h2⟩
      · subst hb
        rw [setK_iff, St_eta (set_same hc)] at h2
        exact ⟨true, hc, h2⟩
      · subst hb
        rw [setK_iff, St_eta (set_same hc)] at h2
        exact ⟨false, hc, h2⟩
    · exact False.elim h
  · rintro ⟨b, hb, h⟩
    unfold boolAt
    rw [nthK_iff]
    refine ⟨_, hb, ?_⟩
    dsimp only
    refine Fork_intro (fun e => ?_) (fun e => ?_)
    · subst e; rw [setK_iff, St_eta (set_same hb)]; exact h
    · subst e; rw [setK_iff, St_eta (set_same hb)]; exact h

def agree (ops : Array Oper) (o : Oper) (S S2 : St) : Prop := ∀ d ∈ o.looksAt ops, S2.t[d]? = S.t[d]?
def Eff (C : Ctx) (pl : Pol) (ops : Array Oper) (o : Oper) (S : St) (v : AV) (m : Option St) : Prop :=
  (clsD o ≠ 2 → m = none) ∧ ∀ S2, agree ops o S S2 → ((clsD o = 1 ∨ clsD o = 2) → memEq S S2) → ∀ K2 : St → Prop, K2 (appS S2 o.dst v m) → ag C pl ops o S2 K2

theorem agree_ops {ops : Array Oper} {o : Oper} {S S2 : St} (h : agree ops o S S2) : opsAgree o.op.operands.toList S S2 := fun d hd =>
  h d (List.mem_append_left _ (List.mem_filterMap.2 ⟨.tmp d, hd, rfl⟩))

theorem ag_eff {C : Ctx} (hC : CDet C) {pl : Pol} {ops : Array Oper} {o : Oper} {S : St} {K : St → Prop} (h : ag C pl ops o S K) : ∃ v m, Eff C pl ops o S v m ∧ K (appS S o.dst v m) := by
  unfold ag at h
  split at h
  · rename_i hg
    obtain ⟨v, m, ⟨h1, h2⟩, h3⟩ := dop_eff hC h
    refine ⟨v, m, ⟨h1, fun S2 ha hm K2 hk => ?_⟩, h3⟩
    unfold ag
    rw [hg]
    exact h2 S2 (agree_ops ha) hm K2 hk
  · rename_i j want hg
    split at h
    · exact False.elim h
    · rename_i d hd
      obtain ⟨b, hb, h⟩ := boolAt_iff.1 h
      have hlook : d ∈ o.looksAt ops := List.mem_append_right _ (by
        rw [hg]
        unfold dstOf at hd
        simp [hd])
      have hin : ∀ (S2 : St) (K2 : St → Prop), agree ops o S S2 → gsel b want (dop C pl o S2 K2) (putK o.dst .bad S2 K2) → ag C pl ops o S2 K2 := by
        intro S2 K2 ha hk
        unfold ag
        rw [hg]
        dsimp only
        rw [hd]
        exact boolAt_iff.2 ⟨b, by rw [ha d hlook]; exact hb, hk⟩
      have yes : dop C pl o S K → (∀ (S2 : St) (K2 : St → Prop), agree ops o S S2 → dop C pl o S2 K2 → ag C pl ops o S2 K2) → ∃ v m, Eff C pl ops o S v m ∧ K (appS S o.dst v m) := by
        intro h hi
        obtain ⟨v, m, ⟨h1, h2⟩, h3⟩ := dop_eff hC h
        exact ⟨v, m, ⟨h1, fun S2 ha hm K2 hk => hi S2 K2 ha (h2 S2 (agree_ops ha) hm K2 hk)⟩, h3⟩
      have no : putK o.dst .bad S K → (∀ (S2 : St) (K2 : St → Prop), agree ops o S S2 → putK o.dst .bad S2 K2 → ag C pl ops o S2 K2) → ∃ v m, Eff C pl ops o S v m ∧ K (appS S o.dst v m) := by
        intro h hi
        rw [putK_iff] at h
        exact ⟨.bad, none, ⟨fun _ => rfl, fun S2 ha _ K2 hk => hi S2 K2 ha (by rw [putK_iff]; exact hk)⟩, h⟩
      cases b <;> cases want
      · exact yes h (fun S2 K2 ha hk => hin S2 K2 ha hk)
      · exact no h (fun S2 K2 ha hk => hin S2 K2 ha hk)
      · exact no h (fun S2 K2 ha hk => hin S2 K2 ha hk)
      · exact yes h (fun S2 K2 ha hk => hin S2 K2 ha hk)

theorem appS_t {S : St} {dst : Option Tmp} {v : AV} {m : Option St} {d : Nat} (h : dst ≠ some d) : (appS S dst v m).t[d]? = S.t[d]? := by
  unfold appS setT
  cases dst with
  | none => cases m <;> rfl
  | some e =>
    have hne : e ≠ d := fun he => h (by rw [he])
    cases m <;> simp [withM, List.getElem?_set_ne hne]
theorem appS_mem {S : St} {dst : Option Tmp} {v : AV} : memEq S (appS S dst v none) := by
  unfold appS setT
  cases dst <;> exact ⟨rfl, rfl, rfl⟩

theorem apart2_spec {ops : Array Oper} {x y : Oper} (h : apart2 ops x y = true) : x.apart ops y = true ∧ (clsD x = 2 → clsD y ≠ 1 ∧ clsD y ≠ 2) ∧ (clsD y = 2 → clsD x ≠ 1 ∧ clsD x ≠ 2) := by
  unfold apart2 at h
  simp only [Bool.and_eq_true] at h
  refine ⟨h.1, fun e => ?_, fun e => ?_⟩
  · have h2 := h.2
    rw [e] at h2
    constructor <;> intro e2 <;> rw [e2] at h2 <;> simp at h2
  · have h2 := h.2
    rw [e] at h2
    constructor <;> intro e2 <;> rw [e2] at h2 <;> simp at h2

theorem appS_comm {S : St} {x y : Option Tmp} {v u : AV} {m n : Option St} (h : ∀ d, x = some d → y ≠ some d) (hm : m = none ∨ n = none) : appS (appS S x v m) y u n = appS (appS S y u n) x v m := by
  cases x with
  | none => cases y <;> rcases hm with rfl | rfl <;> first | rfl | (cases m <;> rfl) | (cases n <;> rfl)
  | some d =>
    cases y with
    | none => rcases hm with rfl | rfl <;> first | (cases m <;> rfl) | (cases n <;> rfl)
    | some e =>
      have hne : d ≠ e := fun he => h d rfl (he ▸ rfl)
      have hs : (S.t.set d v).set e u = (S.t.set e u).set d v := List.set_comm _ _ hne
      rcases hm with rfl | rfl
      · cases n <;> simp only [appS, setT, withM, hs]
      · cases m <;> simp only [appS, setT, withM, hs]

theorem mem_none {C : Ctx} {pl : Pol} {ops : Array Oper} {o : Oper} {S : St} {v : AV} {m : Option St} (h : Eff C pl ops o S v m) {q : Nat} (hq : clsD o = 2 → q ≠ 1 ∧ q ≠ 2) (h12 : q = 1 ∨ q = 2) : m = none := h.1 fun e => by
  obtain ⟨h1, h2⟩ := hq e
  rcases h12 with h | h
  · exact h1 h
  · exact h2 h

/-- One operation, apart from another: whether the other has come already makes no difference. -/
theorem ag_put {C : Ctx} (hC : CDet C) {pl : Pol} {ops : Array Oper} {oi oj : Oper} {v : AV} {m : Option St} (hap : apart2 ops oi oj = true) {K : St → Prop} {S : St}
    (hy : Eff C pl ops oi S v m) (h : ag C pl ops oj (appS S oi.dst v m) K) : ag C pl ops oj S fun S' => Eff C pl ops oi S' v m ∧ K (appS S' oi.dst v m) := by
  obtain ⟨hap, hc1, hc2⟩ := apart2_spec hap
  obtain ⟨h1, h2, h3⟩ := Oper.apart_spec hap
  obtain ⟨u, n, hj, hk⟩ := ag_eff hC h
  refine hj.2 S (fun d hd => (appS_t (fun e => h1 d e hd)).symm) (fun h12 => ?_) _ ⟨⟨hy.1, fun S2 ha hm K2 hk2 => hy.2 S2 (fun d hd => (ha d hd).trans (appS_t (fun e => h3 d e hd))) (fun h12 => ?_) K2 hk2⟩, ?_⟩
  · have := mem_none hy hc1 h12
    subst this
    have := appS_mem (S := S) (dst := oi.dst) (v := v)
    exact ⟨this.1.symm, this.2.1.symm, this.2.2.symm⟩
  · have := mem_none hj hc2 h12
    subst this
    exact appS_mem.trans (hm h12)
  · rw [← appS_comm h2 ?_]
    · exact hk
    · by_cases h12 : clsD oi = 1 ∨ clsD oi = 2
      · exact .inr (mem_none hj hc2 h12)
      · exact .inl (hy.1 fun e => h12 (.inr e))

/-! ### Which waits for which -/
theorem foldl_bits {f : Nat → Edge → Nat} {acc : List Nat} {i : Nat} (hf : ∀ s e, Nat.testBit (f s e) i = true → Nat.testBit s i = true ∨ (Region.binds .any e = true ∧ (e.on = i ∨ Nat.testBit (acc.getD e.on 0) i = true))) : ∀ (l : List Edge) (s : Nat), Nat.testBit (l.foldl f s) i = true →
    Nat.testBit s i = true ∨ ∃ e ∈ l, Region.binds .any e = true ∧ (e.on = i ∨ Nat.testBit (acc.getD e.on 0) i = true)
  | [], s, h => .inl h
  | e :: l, s, h => by
    rw [List.foldl_cons] at h
    rcases foldl_bits hf l _ h with h | ⟨e', he, h1, h2⟩
    · rcases hf _ _ h with h | ⟨h1, h2⟩
      · exact .inl h
      · exact .inr ⟨e, List.mem_cons_self, h1, h2⟩
    · exact .inr ⟨e', List.mem_cons_of_mem _ he, h1, h2⟩

theorem waitSets_cons (o : Oper) (os : List Oper) (acc : List Nat) : ∃ b, waitSets (o :: os) acc = waitSets os (acc ++ [b]) ∧ ∀ i, Nat.testBit b i = true → ∃ e ∈ o.after, Region.binds .any e = true ∧ (e.on = i ∨ Nat.testBit (acc.getD e.on 0) i = true) := by
  refine ⟨_, rfl, fun i h => ?_⟩
  have hz : Nat.testBit 0 i = true → False := fun h => by simp at h
  refine (foldl_bits (acc := acc) (fun s e h => ?_) _ _ h).elim (fun h => (hz h).elim) (fun ⟨e, he, h1, h2⟩ => ⟨e, by simpa using he, h1, h2⟩)
  split at h
  · rename_i hb
    have h' : Nat.testBit (s ||| (2 ^ e.on ||| acc.getD e.on 0)) i = true := h
    rw [Nat.testBit_or, Nat.testBit_or, Nat.testBit_two_pow] at h'
    simp only [Bool.or_eq_true, decide_eq_true_eq] at h'
    rcases h' with h' | h' | h'
    · exact .inl h'
    · exact .inr ⟨hb, .inl h'⟩
    · exact .inr ⟨hb, .inr h'⟩
  · exact .inl h

theorem waitSets_keep : ∀ (os : List Oper) (acc : List Nat), ∃ l, waitSets os acc = acc ++ l
  | [], acc => ⟨[], by simp [waitSets]⟩
  | o :: os, acc => by
    obtain ⟨b, h1, _⟩ := waitSets_cons o os acc
    obtain ⟨l, h⟩ := waitSets_keep os (acc ++ [b])
    exact ⟨b :: l, by rw [h1, h, List.append_assoc]; rfl⟩

theorem waitSets_spec : ∀ (os : List Oper) (acc : List Nat) (j : Nat) (o : Oper) (i : Nat), os[j]? = some o → Nat.testBit ((waitSets os acc).getD (acc.length + j) 0) i = true →
    ∃ e ∈ o.after, Region.binds .any e = true ∧ (e.on = i ∨ Nat.testBit ((waitSets os acc).getD e.on 0) i = true)
  | [], _, _, _, _, h, _ => by simp at h
  | o0 :: os, acc, 0, o, i, h, hb => by
    simp only [List.getElem?_cons_zero, Option.some.injEq] at h
    subst h
    obtain ⟨b, h1, h2⟩ := waitSets_cons o0 os acc
    obtain ⟨l, hl⟩ := waitSets_keep os (acc ++ [b])
    rw [h1, hl, List.append_assoc] at hb ⊢
    have e1 : (acc ++ ([b] ++ l)).getD (acc.length + 0) 0 = b := by
      simp [List.getD_eq_getElem?_getD]
    rw [e1] at hb
    obtain ⟨e, he, h3, h4⟩ := h2 i hb
    refine ⟨e, he, h3, h4.imp id (fun h => ?_)⟩
    by_cases hlt : e.on < acc.length
    · rw [List.getD_eq_getElem?_getD, List.getElem?_append_left hlt, ← List.getD_eq_getElem?_getD]
      exact h
    · rw [List.getD_eq_getElem?_getD, List.getElem?_eq_none (by omega)] at h
      simp at h
  | o0 :: os, acc, j + 1, o, i, h, hb => by
    obtain ⟨b, h1, h2⟩ := waitSets_cons o0 os acc
    rw [h1] at hb ⊢
    refine waitSets_spec os _ j o i (by simpa using h) ?_
    have : (acc ++ [b]).length + j = acc.length + (j + 1) := by simp; omega
    rw [this]
    exact hb

theorem waits {ops : Array Oper} {j i : Nat} {o : Oper} (hj : ops[j]? = some o) (h : Nat.testBit ((waitSets ops.toList []).getD j 0) i = true) :
    ∃ e ∈ o.after, Region.binds .any e = true ∧ (e.on = i ∨ Nat.testBit ((waitSets ops.toList []).getD e.on 0) i = true) :=
  waitSets_spec ops.toList [] j o i (by simpa using hj) (by simpa using h)

/-- All that a listed operation waits for is listed. -/
def Closed (ops : Array Oper) (listed : Array Bool) : Prop := ∀ j, listed.getD j false = true → ∀ i, Nat.testBit ((waitSets ops.toList []).getD j 0) i = true → listed.getD i false = true

theorem not_both {listed : Array Bool} {i : Nat} (h : listed.getD i true = false) : listed.getD i false = true → False := by
  intro h2
  simp only [Array.getD_eq_getD_getElem?] at h h2
  cases hh : listed[i]? with
  | none => rw [hh] at h; simp at h
  | some b => rw [hh] at h h2; simp at h h2; rw [h] at h2; cases h2

theorem Closed.ready {ops : Array Oper} {listed : Array Bool} (hc : Closed ops listed) {j : Nat} (hj : j ∈ Region.ready .any ops listed) {i : Nat} (hb : Nat.testBit ((waitSets ops.toList []).getD j 0) i = true) : listed.getD i false = true := by
  obtain ⟨_, o, ho, hall⟩ := mem_ready.1 hj
  obtain ⟨e, he, h1, h2⟩ := waits ho hb
  rcases h2 with h2 | h2
  · rw [← h2]; exact hall e he h1
  · exact hc _ (hall e he h1) _ h2

theorem getD_set {listed : Array Bool} {i j : Nat} (h : listed.getD i false = true) : (listed.setIfInBounds j true).getD i false = true := by
  by_cases hij : j = i
  · subst hij
    simp only [Array.getD_eq_getD_getElem?] at *
    cases hh : listed[j]? with
    | none => rw [hh] at h; simp at h
    | some b =>
      have := (Array.getElem?_eq_some_iff.1 hh).1
      simp [this]
  · rw [getD_set_ne false hij]; exact h

theorem Closed.set {ops : Array Oper} {listed : Array Bool} (hc : Closed ops listed) {j : Nat} (hj : j ∈ Region.ready .any ops listed) : Closed ops (listed.setIfInBounds j true) := by
  intro k hk i hb
  by_cases hjk : j = k
  · subst hjk
    exact getD_set (hc.ready hj hb)
  · rw [getD_set_ne false hjk] at hk
    exact getD_set (hc k hk i hb)

theorem ready_mono2 {ops : Array Oper} {listed : Array Bool} {i j : Nat} (hi : i ∈ Region.ready .any ops listed) (hne : j ≠ i) : i ∈ Region.ready .any ops (listed.setIfInBounds j true) := by
  obtain ⟨h1, o, ho, h2⟩ := mem_ready.1 hi
  exact mem_ready.2 ⟨by rw [getD_set_ne true hne]; exact h1, o, ho, fun e he hb => getD_set (h2 e he hb)⟩

/-! ### Whatever order is picked -/
def agI (C : Ctx) (pl : Pol) (ops : Array Oper) (i : Nat) (K : St → Prop) (S : St) : Prop :=
  match ops[i]? with
  | none => K S
  | some o => ag C pl ops o S K
def aAny (C : Ctx) (pl : Pol) (ops : Array Oper) (Q : St → Prop) : Nat → Array Bool → St → Prop
  | 0, listed, S => Region.ready .any ops listed = [] ∧ Q S
  | fuel + 1, listed, S => (Region.ready .any ops listed = [] → Q S) ∧ ∀ i ∈ Region.ready .any ops listed, agI C pl ops i (aAny C pl ops Q fuel (listed.setIfInBounds i true)) S

theorem ag_mono {C : Ctx} (hC : CDet C) {pl : Pol} {ops : Array Oper} {o : Oper} {S : St} {K K' : St → Prop} (h : ag C pl ops o S K) (hk : ∀ S, K S → K' S) : ag C pl ops o S K' := by
  obtain ⟨v, m, h1, h2⟩ := ag_eff hC h
  exact h1.2 S (fun _ _ => rfl) (fun _ => memEq.refl S) K' (hk _ h2)

def Fr (ops : Array Oper) (listed : Array Bool) (i : Nat) (oi : Oper) : Prop := ∀ j oj, ops[j]? = some oj → j ≠ i → listed.getD j true = false → Nat.testBit ((waitSets ops.toList []).getD j 0) i = false → apart2 ops oi oj = true

theorem aAny_first {C : Ctx} (hC : CDet C) {pl : Pol} {ops : Array Oper} {Q : St → Prop} {i : Nat} {oi : Oper} {v : AV} {m : Option St} (hi : ops[i]? = some oi) :
    ∀ (fuel : Nat) (listed : Array Bool) (S : St), Closed ops listed → Fr ops listed i oi → i ∈ Region.ready .any ops listed → Eff C pl ops oi S v m →
      aAny C pl ops Q fuel (listed.setIfInBounds i true) (appS S oi.dst v m) → aAny C pl ops Q (fuel + 1) listed S := by
  have here : ∀ {S : St} {K : St → Prop}, Eff C pl ops oi S v m → K (appS S oi.dst v m) → agI C pl ops i K S := by
    intro S K hy hk
    unfold agI
    rw [hi]
    exact hy.2 S (fun _ _ => rfl) (fun _ => memEq.refl S) K hk
  intro fuel
  induction fuel with
  | zero =>
    intro listed S _ _ hr hy H
    refine ⟨fun h => (by rw [h] at hr; cases hr), fun j hj => ?_⟩
    by_cases hji : j = i
    · subst hji; exact here hy H
    · have := ready_mono2 hj (fun e => hji e.symm)
      rw [H.1] at this
      cases this
  | succ fuel ih =>
    intro listed S hcl hfree hr hy H
    refine ⟨fun h => (by rw [h] at hr; cases hr), fun j hj => ?_⟩
    by_cases hji : j = i
    · subst hji; exact here hy H
    · have h1 := H.2 j (ready_mono2 hj (fun e => hji e.symm))
      obtain ⟨hjun, oj, hoj, hall⟩ := mem_ready.1 hj
      have hnot : Nat.testBit ((waitSets ops.toList []).getD j 0) i = false := by
        cases hb : Nat.testBit ((waitSets ops.toList []).getD j 0) i with
        | false => rfl
        | true => exact (not_both (mem_ready.1 hr).1 (hcl.ready hj hb)).elim
      unfold agI at h1 ⊢
      rw [hoj] at h1 ⊢
      have h2 := ag_put hC (hfree j oj hoj hji hjun hnot) hy h1
      have hfree' : Fr ops (listed.setIfInBounds j true) i oi := fun k ok hk hki hun hno => by
        refine hfree k ok hk hki ?_ hno
        by_cases hjk : j = k
        · subst hjk; exact hjun
        · rw [getD_set_ne true hjk] at hun; exact hun
      refine ag_mono hC h2 (fun S' h3 => ih (listed.setIfInBounds j true) S' (hcl.set hj) hfree' (ready_mono2 hr (fun e => hji e)) h3.1 ?_)
      rw [Array.setIfInBounds_comm _ _ hji]
      exact h3.2

theorem free2_spec {ops : Array Oper} {listed : Array Bool} {i : Nat} {oi : Oper} (hi : ops[i]? = some oi) (h : free2 ops (waitSets ops.toList []) listed i = true) : Fr ops listed i oi := by
  intro j oj hj hji hun hno
  unfold free2 at h
  rw [hi] at h
  have hlt : j < ops.size := (Array.getElem?_eq_some_iff.1 hj).1
  have := List.all_eq_true.1 h j (List.mem_range.2 hlt)
  rw [hj] at this
  simp only [hun, hno, Bool.or_eq_true, Bool.or_false] at this
  rcases this with h | h
  · exact absurd (Nat.eq_of_beq_eq_true h) hji
  · simpa using h

theorem aAny_lex {C : Ctx} (hC : CDet C) {pl : Pol} {ops : Array Oper} {Q : St → Prop} : ∀ (l : List Oper) (k : Nat) (listed : Array Bool) (S : St), (∀ j, l[j]? = ops[k + j]?) → Closed ops listed →
    lex2 ops (waitSets ops.toList []) l.length k listed = true → aops C pl true ops l S Q → aAny C pl ops Q l.length listed S
  | [], _, _, _, _, _, hB, h => ⟨by simpa [lex2] using hB, h⟩
  | o :: l, k, listed, S, hl, hcl, hB, h => by
    have h0 : ops[k]? = some o := by simpa using (hl 0).symm
    simp only [List.length_cons, lex2, Bool.and_eq_true] at hB
    obtain ⟨⟨hr, hf⟩, hB'⟩ := hB
    have hr' : k ∈ Region.ready .any ops listed := by simpa using hr
    obtain ⟨v, m, hy, hK⟩ := ag_eff hC (aops_ag h)
    exact aAny_first hC h0 l.length listed S hcl (free2_spec h0 hf) hr' hy
      (aAny_lex hC l (k + 1) _ _ (fun j => by have := hl (j + 1); simpa [Nat.add_assoc, Nat.add_comm 1 j] using this) (hcl.set hr') hB' hK)

end A
end Go.Proofs.Ytnjpjmeoednfcaa
