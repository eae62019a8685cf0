/- The steps that come next, what may be, what is shared -/
import Derived.Test.YtaiokpalfdbnnaaA1
namespace Go.Proofs.Ytaiokpalfdbnnaa
open Go A

/-- The step i may come behind the step k. -/
def Su (l:List ab) (k i:Nat):Prop:=∃ s,l[k]?=some s∧i<l.length∧((s.Op≠8∧s.Op≠10∧i=k + 1)∨((s.Op=8∨s.Op=9)∧s.To=(i:Int)))
theorem GG {l:List ab} {k i:Nat} {s:ab} (hs:l[k]?=some s):Su l k i↔i<l.length∧((s.Op≠8∧s.Op≠10∧i=k + 1)∨((s.Op=8∨s.Op=9)∧s.To=(i:Int))):=by
  constructor
  · rintro ⟨t,h1,h2⟩
    rw [hs] at h1
    cases h1
    exact h2
  · exact fun h=>⟨s,hs,h⟩
def mE (l:List ab) (k:Nat) (r:List Int):Prop:=r.length≤2∧(∀ x∈r,0≤x∧x<(l.length:Int))∧∀ i:Nat,(i:Int)∈r↔Su l k i
theorem mE.mk' {l:List ab} {k:Nat} {s:ab} (hs:l[k]?=some s) {r:List Int} (h1:r.length≤2) (h2:∀ x:Int,x∈r↔(0≤x∧x<(l.length:Int)∧((s.Op≠8∧s.Op≠10∧x=(k:Int) + 1)∨((s.Op=8∨s.Op=9)∧s.To=x)))):mE l k r :=
  ⟨h1,fun x hx=>by have:=(h2 x).1 hx; omega,fun i=>by rw [h2,GG hs]; omega⟩
theorem Kg (n:Nat) (a b:Int):T ((bv n a b).bind fun y3=>(aE n y3.1 y3.2).bind fun y4=>match y4 with
      | .inl wa5=>(bX n y3.1 wa5).bind fun _=>some ([y3.1]:List Int)
      | .inr _=>(bO n y3.1 y3.2).bind fun _=>some ([y3.1,y3.2]:List Int)) (fun l=>l.length≤2∧∀ x,x∈l↔x=a∨x=b):=by
  refine (Dd n a b).bind (fun y h=>?_)
  unfold aE
  split
  · rename_i e
    have e:y.2=y.1:=by simpa using e
    refine T.ret ⟨by simp,fun x=>?_⟩
    rw [List.mem_singleton]
    rcases h with rfl | rfl <;> simp only at e ⊢ <;> omega
  · refine T.ret ⟨by simp,fun x=>?_⟩
    rw [List.mem_cons,List.mem_singleton]
    rcases h with rfl | rfl
    · exact Iff.rfl
    · exact Or.comm
theorem p64 (op:Int):((gd .i64 (fI op) 64) != 0)=decide (op=8∨op=9):=by
  rcases ai op with h | h | h | h | h | h | h | h | h | h | h
  case inr.inr.inr.inr.inr.inr.inr.inr.inr.inr =>
    have e:fI op=0:=by unfold fI; repeat (rw [if_neg (by omega)])
    rw [e,decide_eq_false (by omega)]
    rfl
  all_goals subst h; decide
theorem GH (n:Nat) (c:aj) (k:Nat) (hk:k<c.Steps.length) (hl:c.Steps.length≤5000):T (gK n c (k:Int)) (mE c.Steps k):=by
  unfold gK
  refine T.ite (fun h=>by simp at h; omega) (fun _=>T.ite (fun h=>by simp at h; omega) (fun _=>?_))
  refine T.get k rfl hk ?_
  have hs:c.Steps[k]?=some c.Steps[k]:=List.getElem?_eq_getElem hk
  generalize c.Steps[k]=s at hs ⊢
  rw [bM k (by omega)]
  have nil:∀ (_:∀ x:Int,¬ (0≤x∧x<(c.Steps.length:Int)∧((s.Op≠8∧s.Op≠10∧x=(k:Int) + 1)∨((s.Op=8∨s.Op=9)∧s.To=x)))),T (some ([]:List Int)) (mE c.Steps k):=fun h=>T.ret (mE.mk' hs (by simp) (fun x=>⟨fun hx=>(by cases hx),fun hx=>(h x hx).elim⟩))
  have one:∀ (a:Int) (_:∀ x:Int,x=a↔(0≤x∧x<(c.Steps.length:Int)∧((s.Op≠8∧s.Op≠10∧x=(k:Int) + 1)∨((s.Op=8∨s.Op=9)∧s.To=x)))),T (some ([a]:List Int)) (mE c.Steps k):=fun a h=>T.ret (mE.mk' hs (by simp) (fun x=>by rw [List.mem_singleton]; exact h x))
  have pp:∀ (f:Int→Option (List Int)),T (f (fI s.Op)) (mE c.Steps k)→T ((dx n s.Op).bind f) (mE c.Steps k):=fun f h=>T.eqb (tQ n _) h
  refine T.ite (fun h8=>T.ite (fun h10=>T.ite (fun hn=>pp _ ?_) (fun hn=>pp _ ?_)) (fun h10=>pp _ ?_)) (fun h8=>pp _ ?_)
  all_goals
    try simp only [bne_iff_ne,ne_eq,bne_eq_false_iff_eq] at h8
    try simp only [bne_iff_ne,ne_eq,bne_eq_false_iff_eq] at h10
    try simp only [decide_eq_true_eq,decide_eq_false_iff_not] at hn
    rw [p64]
    refine T.ite (fun hp=>T.ite (fun ht0=>T.ite (fun ht1=>?_) (fun ht1=>?_)) (fun ht0=>?_)) (fun hp=>?_)
    all_goals
      try simp only [decide_eq_true_eq,decide_eq_false_iff_not] at hp
      try simp only [decide_eq_true_eq,decide_eq_false_iff_not] at ht0
      try simp only [decide_eq_true_eq,decide_eq_false_iff_not] at ht1
      first
        | exact nil (fun x=>by omega)
        | exact one _ (fun x=>by omega)
        | exact (Kg n _ _).imp (fun l h=>mE.mk' hs h.1 (fun x=>by rw [h.2]; omega))
def Kh (c:aj) (k:Nat):List Int:=(gK 0 c (k:Int)).getD []
theorem D4 (n:Nat) (c:aj) (k:Nat) (hk:k<c.Steps.length) (hl:c.Steps.length≤5000):gK n c (k:Int)=some (Kh c k):=by
  have:gK n c (k:Int)=gK 0 c (k:Int):=rfl
  rw [this]
  obtain ⟨r,e,_⟩:=GH 0 c k hk hl
  unfold Kh
  rw [e]
  rfl
theorem ID (c:aj) (k:Nat) (hk:k<c.Steps.length) (hl:c.Steps.length≤5000):mE c.Steps k (Kh c k):=by
  obtain ⟨r,e,h⟩:=GH 0 c k hk hl
  rw [D4 0 c k hk hl] at e
  cases e
  exact h

/-! ### The reference's -/
theorem Jq (n:Nat) (hn:10≤n) (l:List Int) (hl:l.length≤5) (x:Int):T (c6 n l x) (fun r=>r.length≤l.length + 1∧∀ y,y∈r↔y=x∨y∈l):=by
  unfold c6
  refine T.bind (P:=fun t:Int=>∃ j:Nat,t=(j:Int)∧j≤l.length) (T.loop l.length (fun i s=>s=(i:Int)) _ (fun i s hi hs=>?_) rfl (by omega)) (fun t ht=>?_)
  · subst hs
    unfold m5
    refine T.ite (fun h=>?_) (fun _=>T.fin ⟨i,rfl,hi⟩)
    rw [decide_eq_true_eq] at h
    have hi':i<l.length:=by omega
    exact T.get i rfl hi' (T.ite (fun _=>T.next ⟨hi',bM i (by omega)⟩) (fun _=>T.fin ⟨i,rfl,hi⟩))
  · obtain ⟨j,rfl,hj⟩:=ht
    have fin:T (grd (decide ((0:Int)≤(j:Int))&&decide ((j:Int)≤(l.length:Int))) <|
      grd (Nat.ble ((l.take ((j:Int)).toNat).length * 8) 140737488355328) <|
      grd (Nat.ble (((l.take ((j:Int)).toNat).length + 1) * 8) 140737488355328) <|
      grd (decide ((0:Int)≤(j:Int))&&decide ((j:Int)≤(l.length:Int))) <|
      grd (Nat.ble ((((l.take ((j:Int)).toNat)++([x]:List Int)).length + (l.drop ((j:Int)).toNat).length) * 8) 140737488355328) <|
      some (((l.take ((j:Int)).toNat)++([x]:List Int))++(l.drop ((j:Int)).toNat))) (fun r=>r.length≤l.length + 1∧∀ y,y∈r↔y=x∨y∈l):=by
      have h0:(decide ((0:Int)≤(j:Int))&&decide ((j:Int)≤(l.length:Int)))=true:=by simp; omega
      have ht:(l.take j).length≤5:=by rw [List.length_take]; omega
      have hd:(l.drop j).length≤5:=by rw [List.length_drop]; omega
      rw [Int.toNat_natCast]
      refine T.grd h0 (T.grd (Nat.ble_eq_true_of_le (by omega)) (T.grd (Nat.ble_eq_true_of_le (by omega)) (T.grd h0 (T.grd (Nat.ble_eq_true_of_le (by rw [List.length_append,List.length_singleton]; omega)) (T.ret ⟨?_,fun y=>?_⟩)))))
      · simp only [List.length_append,List.length_take,List.length_drop,List.length_singleton]
        omega
      · have:y∈l↔y∈l.take j∨y∈l.drop j:=by rw [← List.mem_append,List.take_append_drop]
        rw [this,List.mem_append,List.mem_append,List.mem_singleton]
        constructor
        · rintro ((h | h) | h)
          · exact .inr (.inl h)
          · exact .inl h
          · exact .inr (.inr h)
        · rintro (h | h | h)
          · exact .inl (.inr h)
          · exact .inl (.inl h)
          · exact .inr h
    refine T.ite (fun h=>?_) (fun _=>fin)
    rw [decide_eq_true_eq] at h
    have hj':j<l.length:=by omega
    refine T.get j rfl hj' (T.ite (fun h=>T.ret ⟨by omega,fun y=>⟨.inr,fun hy=>?_⟩⟩) (fun _=>fin))
    rw [beq_iff_eq] at h
    rcases hy with rfl | hy
    · rw [← h]
      exact List.getElem_mem hj'
    · exact hy
theorem D5 (n:Nat) (hn:10≤n) (c:aj) (k:Nat) (hk:k<c.Steps.length) (hl:c.Steps.length≤5000):T (fP n c (k:Int)) (mE c.Steps k):=by
  unfold fP
  refine T.ite (fun h=>by simp at h; omega) (fun _=>T.ite (fun h=>by simp at h; omega) (fun _=>?_))
  refine T.get k rfl hk ?_
  have hs:c.Steps[k]?=some c.Steps[k]:=List.getElem?_eq_getElem hk
  generalize c.Steps[k]=s at hs ⊢
  rw [bM k (by omega)]
  have nil:∀ (_:∀ x:Int,¬ (0≤x∧x<(c.Steps.length:Int)∧((s.Op≠8∧s.Op≠10∧x=(k:Int) + 1)∨((s.Op=8∨s.Op=9)∧s.To=x)))),T (some ([]:List Int)) (mE c.Steps k):=fun h=>T.ret (mE.mk' hs (by simp) (fun x=>⟨fun hx=>(by cases hx),fun hx=>(h x hx).elim⟩))
  have jump:∀ (y:List Int) (_:y.length≤1) (_:∀ x:Int,x∈y↔0≤x∧x<(c.Steps.length:Int)∧(s.Op≠8∧s.Op≠10∧x=(k:Int) + 1)) (f1 f2:List Int→Option (List Int)) (_:f1=fun y11=>some y11) (_:f2=fun y12=>some y12),T (if (s.Op==8)=true then
       if (decide (s.To≥0))=true then
        if (decide (s.To<(c.Steps.length:Int)))=true then
         (c6 n y s.To).bind f1
        else
         some y
       else
        some y
      else
       if (s.Op==9)=true then
        if (decide (s.To≥0))=true then
         if (decide (s.To<(c.Steps.length:Int)))=true then
          (c6 n y s.To).bind f2
         else
          some y
        else
         some y
       else
        some y) (mE c.Steps k):=fun y hy1 hy2 f1 f2 e1 e2=>by
    subst e1 e2
    refine T.ite (fun h8=>T.ite (fun h0=>T.ite (fun h1=>?_) (fun h1=>?_)) (fun h0=>?_)) (fun h8=>T.ite (fun h9=>T.ite (fun h0=>T.ite (fun h1=>?_) (fun h1=>?_)) (fun h0=>?_)) (fun h9=>?_))
    all_goals
      simp only [decide_eq_true_eq,decide_eq_false_iff_not,beq_iff_eq,beq_eq_false_iff_ne,ne_eq] at *
      first
        | exact T.ret (mE.mk' hs (by omega) (fun x=>by rw [hy2]; omega))
        | exact (Jq n hn y (by omega) s.To).bind (fun r h=>T.ret (mE.mk' hs (by omega) (fun x=>by rw [h.2,hy2]; omega)))
  refine T.ite (fun h8=>T.ite (fun h10=>T.ite (fun hn'=>(Jq n hn [] (by simp) _).bind (fun y hy=>jump y (by have:=hy.1; simpa using this) (fun x=>?_) _ _ rfl rfl)) (fun hn'=>jump [] (by simp) (fun x=>?_) _ _ rfl rfl)) (fun h10=>jump [] (by simp) (fun x=>?_) _ _ rfl rfl)) (fun h8=>jump [] (by simp) (fun x=>?_) _ _ rfl rfl)
  all_goals
    simp only [bne_iff_ne,ne_eq,decide_eq_true_eq,decide_eq_false_iff_not,bne_eq_false_iff_eq] at *
  · rw [hy.2]
    simp only [List.not_mem_nil,or_false]
    omega
  all_goals
    simp only [List.not_mem_nil,false_iff]
    omega
theorem D6 (n:Nat) (op:Int):kR n op=some (op==2||op==4||op==3||op==5||op==6||op==9||op==10,op==3||op==5||op==6,op==6,B9 op):=by
  unfold kR B9
  rcases ai op with h | h | h | h | h | h | h | h | h | h | h
  case inr.inr.inr.inr.inr.inr.inr.inr.inr.inr =>
    repeat (rw [if_neg (by simp; omega)])
    simp
    omega
  all_goals subst h; rfl
theorem GI (n:Nat) (s:ab):m4 n s=some (Hk s):=by
  unfold m4 Hk
  rw [D6,Option.bind_some]
  cases B9 s.Op <;> rfl
theorem GJ (n:Nat) (hn:10≤n) (s:ab):T (pA n s) (fun l=>l.length≤3∧∀ x,x∈l↔x∈i9 s):=by
  unfold pA i9
  rw [D6,Option.bind_some]
  have one:∀ (l:List Int) (k:Nat) (x:Int),l.length≤k→k≤4→T (c6 n l x) (fun r=>r.length≤k + 1∧∀ y,y∈r↔y=x∨y∈l):=fun l k x h h2=>(Jq n hn l (by omega) x).imp (fun r h3=>⟨by omega,h3.2⟩)
  rcases ai s.Op with h | h | h | h | h | h | h | h | h | h | h
  case inr.inr.inr.inr.inr.inr.inr.inr.inr.inr =>
    rw [if_neg (show ¬ (s.Op=2∨s.Op=4∨s.Op=9∨s.Op=10) by omega),if_neg (show ¬ (s.Op=3∨s.Op=5) by omega),if_neg (show ¬ s.Op=6 by omega)]
    rw [if_neg (by simp; omega),if_neg (by simp; omega),if_neg (by simp; omega)]
    exact T.ret ⟨by simp,fun x=>Iff.rfl⟩
  case inr.inr.inr.inr.inr.inl =>
    rw [h]
    refine (one [] 0 s.B (by simp) (by omega)).bind (fun y hy=>(one y 1 s.C_ hy.1 (by omega)).bind (fun z hz=>(one z 2 s.D hz.1 (by omega)).bind (fun w hw=>T.ret ⟨hw.1,fun x=>?_⟩)))
    rw [hw.2,hz.2,hy.2,if_neg (by decide),if_neg (by decide),if_pos rfl]
    simp only [List.not_mem_nil,or_false,List.mem_cons]
    constructor
    · rintro (h | h | h)
      · exact .inr (.inr h)
      · exact .inr (.inl h)
      · exact .inl h
    · rintro (h | h | h)
      · exact .inr (.inr h)
      · exact .inr (.inl h)
      · exact .inl h
  all_goals
    rw [h]
    first
      | exact T.ret ⟨by simp,fun x=>Iff.rfl⟩
      | exact (one [] 0 _ (by simp) (by omega)).bind (fun y hy=>T.ret ⟨by have:=hy.1; omega,fun x=>by rw [hy.2]; simp⟩)
      | exact (one [] 0 _ (by simp) (by omega)).bind (fun y hy=>(one y 1 _ hy.1 (by omega)).bind (fun z hz=>T.ret ⟨by have:=hz.1; omega,fun x=>by rw [hz.2,hy.2]; simp [or_comm]⟩))

/-! ### What is shared -/
def zn (s:ab):Bool:=s.Op==6||((s.Op==4||s.Op==5)&&s.Shared)
theorem xu (n:Nat) (s:ab):jd n s=some (zn s):=by
  unfold jd zn
  rw [tQ]
  rcases ai s.Op with h | h | h | h | h | h | h | h | h | h | h
  case inr.inr.inr.inr.inr.inr.inr.inr.inr.inr =>
    have e:fI s.Op=0:=by unfold fI; repeat (rw [if_neg (by omega)])
    rw [e,if_neg (by simp; omega),show (s.Op==6)=false by simp; omega,show (s.Op==4)=false by simp; omega,show (s.Op==5)=false by simp; omega]
    cases s.Shared <;> rfl
  all_goals rw [h]; cases s.Shared <;> rfl
theorem xv (n:Nat) (s:ab):g9 n s=some (zn s):=by
  unfold g9 zn
  rcases ai s.Op with h | h | h | h | h | h | h | h | h | h | h
  case inr.inr.inr.inr.inr.inr.inr.inr.inr.inr =>
    rw [if_neg (by simp; omega),if_neg (by simp; omega),if_neg (by simp; omega),show (s.Op==6)=false by simp; omega,show (s.Op==4)=false by simp; omega,show (s.Op==5)=false by simp; omega]
    rfl
  all_goals rw [h]; cases s.Shared <;> rfl

end Go.Proofs.Ytaiokpalfdbnnaa
