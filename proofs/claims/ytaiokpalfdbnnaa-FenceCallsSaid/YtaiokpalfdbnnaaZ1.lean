/- FenceCalls: the program answers as the reference does -/
import Derived.Test.YtaiokpalfdbnnaaY3
namespace Go.Proofs.Ytaiokpalfdbnnaa
open Go A

/-! ### Codes that are not right -/
def Q2 (x:Option Int):Prop:=∀ y,x=some y→y=0∨y=2
theorem Q2.two:Q2 (some 2):=fun y h=>by cases h; exact .inr rfl
theorem Q2.zero:Q2 (some 0):=fun y h=>by cases h; exact .inl rfl
theorem Q2.ite {b:Bool} {x y:Option Int} (h1:Q2 x) (h2:Q2 y):Q2 (if b=true then x else y):=by
  cases b
  · exact h2
  · exact h1
theorem Q2.bind {α:Type} {x:Option α} {f:α→Option Int} (h:∀ r,Q2 (f r)):Q2 (x.bind f):=by
  cases x with
  | none=>exact fun y h=>by cases h
  | some r=>exact h r
theorem AA (n:Nat) (c:aj):Q2 (ft n c):=by
  unfold ft
  repeat' first
    | exact .two
    | exact .zero
    | refine .ite ?_ ?_
    | refine .bind fun _=>?_
theorem xD (n:Nat) (hn:1000000<n) (c:aj) (hb:c.Regs≤150) (hl:c.Steps.length≤400):T (ft n c) (fun y=>(aK c→y=0)∧(¬ aK c→y=2)):=by
  obtain ⟨y,h1,h2⟩:=pU n hn c hb hl
  refine ⟨y,h1,h2.2,fun h=>?_⟩
  rcases AA n c y h1 with h3 | h3
  · exact (h (h2.1 h3)).elim
  · exact h3
theorem En (n:Nat) (hn:1000000<n) (c:aj) (hb:c.Regs≤150) (hl:c.Steps.length≤400):T (g8 n c) (fun y=>(aK c→y=(aj.mk c.Regs (aI c.Steps),0))∧(¬ aK c→y=(aj.mk 0 [],2))):=by
  by_cases hr:aK c
  · exact (G3 n hn c hr hb hl).imp fun y hy=>⟨fun _=>hy,fun h=>(h hr).elim⟩
  · unfold g8
    refine (xD n hn c hb hl).bind (fun y hy=>?_)
    have hy:=hy.2 hr
    subst hy
    exact T.ite (fun _=>T.ret ⟨fun h=>(hr h).elim,fun _=>rfl⟩) (fun h=>by simp at h)
theorem Jx (n:Nat) (hn:1000000<n) (c:aj) (hb:c.Regs≤150) (hl:c.Steps.length≤400):T (kH n c) (fun y=>(aK c→y=(Aq c,0))∧(¬ aK c→y=(aj.mk 0 [],2))):=by
  by_cases hr:aK c
  · exact (Kv n hn c hr hb hl).imp fun y hy=>⟨fun _=>hy,fun h=>(h hr).elim⟩
  · unfold kH
    refine (En n hn c hb hl).bind (fun y hy=>?_)
    have hy:=hy.2 hr
    subst hy
    exact T.ite (fun _=>T.ret ⟨fun h=>(hr h).elim,fun _=>rfl⟩) (fun h=>by simp at h)
theorem zv (n:Nat) (hn:1000000<n) (c:aj) (hb:c.Regs≤150) (hl:c.Steps.length≤400):T (ed n c) (fun b=>b=true↔aK c∧u9 c.Steps):=by
  unfold ed
  refine (pU n hn c hb hl).bind (fun y hy=>T.ite (fun h=>?_) (fun h=>T.ret ⟨fun h=>(by cases h),fun h2=>?_⟩))
  · have hr:aK c:=hy.1 (by simpa using h)
    exact (tY n hn c hr.len.1 hr.len.2).bind (fun b hb=>T.ret (hb.trans ⟨fun h=>⟨hr,h⟩,fun h=>h.2⟩))
  · rw [hy.2 h2.1] at h
    simp at h
theorem Hc (n:Nat) (hn:1000000<n) (c:aj) (hb:c.Regs≤150) (hl:c.Steps.length≤400):T (ij n c) (fun y=>(aK c∧u9 c.Steps→y.2=0∧y.1.Regs=c.Regs∧SR c.Steps 0 y.1.Steps)∧(¬ (aK c∧u9 c.Steps)→y=(aj.mk 0 [],2))):=by
  by_cases hr:aK c
  · exact (H5 n hn c hr hb hl).imp fun y hy=>⟨fun h=>hy.1 h.2,fun h=>hy.2 (fun hf=>h ⟨hr,hf⟩)⟩
  · unfold ij
    refine (zv n hn c hb hl).bind (fun b hb2=>T.ite (fun _=>T.ret ⟨fun h=>(hr h.1).elim,fun _=>rfl⟩) (fun h=>?_))
    have hbt:b=true:=by simpa using h
    exact (hr (hb2.1 hbt).1).elim
theorem Eo (n:Nat) (hn:1000000<n) (c:aj) (hb:c.Regs≤150) (hl:c.Steps.length≤400):T (hU n c) (fun y=>(aK c→y.length=c.Steps.length∧∀ (k:Nat) (b:Bool),y[k]?=some b→(b=true↔D c.Steps k true))∧(¬ aK c→y=[])):=by
  by_cases hr:aK c
  · exact (Jv n hn c hr hb hl).imp fun y hy=>⟨fun _=>hy,fun h=>(h hr).elim⟩
  · unfold hU
    refine (xD n hn c hb hl).bind (fun y hy=>?_)
    have hy:=hy.2 hr
    subst hy
    exact T.ite (fun _=>T.ret ⟨fun h=>(hr h).elim,fun _=>rfl⟩) (fun h=>by simp at h)

/-! ### Needless fences -/
noncomputable def Ic (l:List ab) (i:Nat):Bool:=@decide (¬ D l i true∧∃ s,l[i]?=some s∧s.Op=7) (Classical.propDecidable _)
theorem Ep {l:List ab} {i:Nat}:Ic l i=true↔¬ D l i true∧∃ s,l[i]?=some s∧s.Op=7:=by
  unfold Ic
  exact @decide_eq_true_iff _ (Classical.propDecidable _)
noncomputable def B6 (l:List ab):Nat→List Int
  | 0=>[]
  | i + 1=>B6 l i++(if Ic l i=true then [(i:Int)] else [])
theorem vw (l:List ab):∀ i,(B6 l i).length≤i
  | 0=>Nat.le_refl _
  | i + 1=>by
    have:=vw l i
    show (B6 l i++_).length≤_
    rw [List.length_append]
    split <;> simp <;> omega
theorem Hd {l:List ab} {i:Nat} {s:ab} {b:Bool} (hs:l[i]?=some s) (hb:b=true↔D l i true) (h1:(!b)=true) (h2:(s.Op==7)=true):B6 l i++([(i:Int)]:List Int)=B6 l (i + 1):=by
  show _=B6 l i++_
  rw [if_pos (Ep.2 ⟨fun h=>(by rw [hb.2 h] at h1; cases h1),s,hs,by simpa using h2⟩)]
theorem Er {l:List ab} {i:Nat} {s:ab} {b:Bool} (hs:l[i]?=some s) (hb:b=true↔D l i true) (h:(!b)=false∨(s.Op==7)=false):B6 l i=B6 l (i + 1):=by
  show _=B6 l i++_
  rw [if_neg (fun h2=>?_),List.append_nil]
  obtain ⟨h3,t,h4,h5⟩:=Ep.1 h2
  rw [hs] at h4
  cases h4
  rcases h with h | h
  · exact h3 (hb.1 (by simpa using h))
  · rw [h5] at h
    cases h
theorem Jy (n:Nat) (hn:1000000<n) (c:aj) (hb:c.Regs≤150) (hl:c.Steps.length≤400):T (eF n c) (fun y=>(aK c→y=B6 c.Steps c.Steps.length)∧(¬ aK c→y=[])):=by
  unfold eF
  refine (Eo n hn c hb hl).bind (fun y1 h1=>?_)
  by_cases hr:aK c
  · obtain ⟨g1,g2⟩:=h1.1 hr
    refine T.bind (P:=fun t=>t=B6 c.Steps c.Steps.length) (T.loop c.Steps.length (fun i s=>s=(B6 c.Steps i,(i:Int))) _ (fun i s hi hs=>?_) rfl (by omega)) (fun t ht=>T.ret ⟨fun _=>ht,fun h=>(h hr).elim⟩)
    subst hs
    unfold ef fc
    refine T.ite (fun h=>?_) (fun h=>?_)
    · have h:=of_decide_eq_true h
      have h:(i:Int)<(y1.length:Int):=h
      have hiy:i<y1.length:=by omega
      have hi':i<c.Steps.length:=by omega
      have hx:ae .i64 (i:Int) 1=((i + 1:Nat):Int):=bM i (by omega)
      have hsi:c.Steps[i]?=some c.Steps[i]:=List.getElem?_eq_getElem hi'
      have hbi:=g2 i _ (List.getElem?_eq_getElem hiy)
      have hnl:=vw c.Steps i
      refine T.get i rfl hiy (T.ite (fun h2=>T.get i rfl hi' ?_) (fun h2=>T.next ⟨hi',?_⟩))
      · rw [Option.bind_some]
        refine T.ite (fun h3=>T.grd (Dh (by show (B6 c.Steps i).length + 1≤_; omega)) (T.next ⟨hi',?_⟩)) (fun h3=>T.next ⟨hi',?_⟩)
        · rw [← Hd hsi hbi h2 h3,← hx]
        · rw [← Er hsi hbi (.inr h3),← hx]
      · rw [← Er hsi hbi (.inl h2),← hx]
    · have h:=of_decide_eq_false h
      have h:¬ (i:Int)<(y1.length:Int):=h
      have e:i=c.Steps.length:=by omega
      subst e
      exact T.fin rfl
  · have h1:=h1.2 hr
    subst h1
    refine T.bind (P:=fun t=>t=[]) (T.loop 0 (fun i s=>s=(([]:List Int),(i:Int))) _ (fun i s hi hs=>?_) rfl (by omega)) (fun t ht=>T.ret ⟨fun h=>(hr h).elim,fun _=>ht⟩)
    subst hs
    unfold ef
    refine T.ite (fun h=>?_) (fun _=>T.fin rfl)
    have h:=of_decide_eq_true h
    have h:(i:Int)<(([]:List Bool).length:Int):=h
    simp at h
    omega
theorem H8 (n:Nat) (hn:1000000<n) (c:aj) (hb:c.Regs≤150) (hl:c.Steps.length≤400):T (gk n c) (fun y=>(aK c→y=B6 c.Steps c.Steps.length)∧(¬ aK c→y=[])):=by
  unfold gk
  refine (xC n hn c hb hl).bind (fun y1 h1=>?_)
  by_cases hr:aK c
  · obtain ⟨l,rfl,g1,g2⟩:=h1.1 hr
    refine T.bind (P:=fun t=>t.2=B6 c.Steps c.Steps.length) (T.loop c.Steps.length (fun i s=>s=(l,B6 c.Steps i,(i:Int))) _ (fun i s hi hs=>?_) rfl (by omega)) (fun t ht=>T.ret ⟨fun _=>ht,fun h=>(h hr).elim⟩)
    subst hs
    unfold dB
    refine T.ite (fun h=>?_) (fun h=>?_)
    · have h:=of_decide_eq_true h
      have h:(i:Int)<(l.length:Int):=h
      have hiy:i<l.length:=by omega
      have hi':i<c.Steps.length:=by omega
      have hx:ae .i64 (i:Int) 1=((i + 1:Nat):Int):=bM i (by omega)
      have hsi:c.Steps[i]?=some c.Steps[i]:=List.getElem?_eq_getElem hi'
      have hbi:=g2 i _ (List.getElem?_eq_getElem hiy)
      have hnl:=vw c.Steps i
      refine T.get i rfl hiy (T.ite (fun h2=>T.get i rfl hi' (T.ite (fun h3=>T.grd (Dh (by show (B6 c.Steps i).length + 1≤_; omega)) (T.next ⟨hi',?_⟩)) (fun h3=>T.next ⟨hi',?_⟩))) (fun h2=>T.next ⟨hi',?_⟩))
      · rw [← Hd hsi hbi h2 h3,← hx]
      · rw [← Er hsi hbi (.inr h3),← hx]
      · rw [← Er hsi hbi (.inl h2),← hx]
    · have h:=of_decide_eq_false h
      have h:¬ (i:Int)<(l.length:Int):=h
      have e:i=c.Steps.length:=by omega
      subst e
      exact T.fin rfl
  · have h1:=h1.2 hr
    subst h1
    refine T.bind (P:=fun t=>t.2=[]) (T.loop 0 (fun i s=>s=(([]:List Bool),([]:List Int),(i:Int))) _ (fun i s hi hs=>?_) rfl (by omega)) (fun t ht=>T.ret ⟨fun h=>(hr h).elim,fun _=>ht⟩)
    subst hs
    unfold dB
    refine T.ite (fun h=>?_) (fun _=>T.fin rfl)
    have h:=of_decide_eq_true h
    have h:(i:Int)<(([]:List Bool).length:Int):=h
    simp at h
    omega

/-! ### Counting; comparing -/
theorem He (n:Nat) (hn:1000000<n) (c:aj) (hb:c.Regs≤150) (hl:c.Steps.length≤400):T (eK n c) (fun y=>(aK c→y=((cf c.Steps:Nat):Int))∧(¬ aK c→y=0)):=by
  by_cases hr:aK c
  · exact (H2 n hn c hr hb hl).imp fun y hy=>⟨fun _=>hy,fun h=>(h hr).elim⟩
  · unfold eK
    refine (xD n hn c hb hl).bind (fun y hy=>?_)
    have hy:=hy.2 hr
    subst hy
    exact T.ite (fun _=>T.ret ⟨fun h=>(hr h).elim,fun _=>rfl⟩) (fun h=>by simp at h)
theorem Hf (n:Nat) (hn:1000000<n) (c:aj) (hb:c.Regs≤150) (hl:c.Steps.length≤400):T (kI n c) (fun y=>(aK c→y=((cf c.Steps:Nat):Int))∧(¬ aK c→y=0)):=by
  unfold kI
  refine (vu n hn c hb hl).bind (fun y hy=>T.ite (fun h=>T.ret ⟨fun hr=>?_,fun _=>rfl⟩) (fun h=>?_))
  · rw [hy.2 hr] at h
    simp at h
  have hr:aK c:=hy.1 (by simpa using h)
  refine T.bind (T.loop c.Steps.length (fun i s=>s=(((cf (c.Steps.take i):Nat):Int),(i:Int))) (fun t=>t=((cf c.Steps:Nat):Int)) (fun i s hi hs=>?_) rfl (by omega)) (fun t ht=>T.ret ⟨fun _=>ht,fun h=>(h hr).elim⟩)
  subst hs
  unfold kA
  refine T.ite (fun h=>?_) (fun h=>?_)
  · have h:=of_decide_eq_true h
    have h:(i:Int)<(c.Steps.length:Int):=h
    have hi':i<c.Steps.length:=by omega
    have hx:ae .i64 (i:Int) 1=((i + 1:Nat):Int):=bM i (by omega)
    have hcl:cf (c.Steps.take i)≤400:=by
      have:=List.countP_le_length (p:=fun s=>!nf s) (l:=c.Steps.take i)
      rw [List.length_take] at this
      unfold cf
      omega
    have hsucc:cf (c.Steps.take (i + 1))=cf (c.Steps.take i) + (if nf c.Steps[i]=true then 0 else 1):=by
      unfold cf
      rw [List.take_succ_eq_append_getElem hi',List.countP_append]
      cases h:nf c.Steps[i] <;> simp [h]
    refine T.get i rfl hi' (T.ite (fun h2=>T.next ⟨hi',?_⟩) (fun h2=>T.next ⟨hi',?_⟩))
    · have h2:(c.Steps[i].Op==7)=true:=h2
      rw [G2] at h2
      show (ae .i64 ((cf (c.Steps.take i):Nat):Int) 1,ae .i64 (i:Int) 1)=_
      rw [hx,bM _ (by omega),hsucc,if_neg (by simpa using h2)]
    · have h2:(c.Steps[i].Op==7)=false:=h2
      rw [G2] at h2
      show (((cf (c.Steps.take i):Nat):Int),ae .i64 (i:Int) 1)=_
      rw [hx,hsucc,if_pos (by simpa using h2)]
      rfl
  · have h:=of_decide_eq_false h
    have h:¬ (i:Int)<(c.Steps.length:Int):=h
    rw [List.take_of_length_le (show c.Steps.length≤i by omega)]
    exact T.fin rfl
theorem Hg (n:Nat) (l:List Bool) (hn:l.length<n) (hl:l.length≤10000):T (gL n l l) (fun b=>b=true):=by
  unfold gL
  refine T.ite (fun h=>by simp at h) (fun _=>?_)
  refine T.bind (P:=Rd (fun _=>True) (fun _=>False)) (T.loop l.length (fun i s=>s=(i:Int)) _ (fun i s hi hs=>?_) rfl hn) (fun t ht=>?_)
  · subst hs
    unfold gj
    refine T.ite (fun h=>?_) (fun h=>T.fin trivial)
    have h:=of_decide_eq_true h
    have hi':i<l.length:=by omega
    refine T.get i rfl hi' (T.get i rfl hi' (T.ite (fun h=>?_) (fun _=>T.next ⟨hi',bM i (by omega)⟩)))
    simp at h
  · cases t with
    | inl w=>exact T.ret rfl
    | inr w=>exact ht.elim
theorem Jz (n:Nat) (l:List Int) (hn:l.length<n) (hl:l.length≤10000):T (gl n l l) (fun b=>b=true):=by
  unfold gl
  refine T.ite (fun h=>by simp at h) (fun _=>?_)
  refine T.bind (P:=Rd (fun _=>True) (fun _=>False)) (T.loop l.length (fun i s=>s=(i:Int)) _ (fun i s hi hs=>?_) rfl hn) (fun t ht=>?_)
  · subst hs
    unfold gY
    refine T.ite (fun h=>?_) (fun h=>T.fin trivial)
    have h:=of_decide_eq_true h
    have hi':i<l.length:=by omega
    refine T.get i rfl hi' (T.get i rfl hi' (T.ite (fun h=>?_) (fun _=>T.next ⟨hi',bM i (by omega)⟩)))
    simp at h
  · cases t with
    | inl w=>exact T.ret rfl
    | inr w=>exact ht.elim
theorem Fv (n:Nat) (hn:1000000<n) (c:aj):fW n c=some true:=by
  have key:T (fW n c) (fun b=>b=true):=by
    unfold fW
    refine T.eqb (show sJ n=some true from rfl) (T.ite (fun h=>by cases h) (fun _=>?_))
    refine T.bind (P:=fun b=>b=true→c.Steps.length≤150∧c.Regs≤150) (by
      unfold m2
      exact T.ite (fun h1=>T.ret (fun h2=>⟨by have:=of_decide_eq_true h1; omega,of_decide_eq_true h2⟩)) (fun _=>T.ret (fun h=>by cases h))) (fun y3 h3=>?_)
    refine T.ite (fun _=>T.ret rfl) (fun h=>?_)
    obtain ⟨hl,hb⟩:=h3 (by simpa using h)
    have hg:Nat.ble (c.Steps.length * 72) 140737488355328=true:=Nat.ble_eq_true_of_le (by omega)
    have sX:T (ky n c) (fun y=>y=(c.Regs,c.Steps)):=by
      unfold ky iA
      exact T.bind (P:=fun _=>True) (T.grd hg (T.ret trivial)) (fun _ _=>T.ret rfl)
    have own2:T (l8 n c) (fun y=>y=(c.Regs,c.Steps)):=sX
    have own3:T (l_ n c) (fun y=>y=(c.Regs,c.Steps)):=sX
    refine sX.bind (fun y5 h5=>?_)
    subst h5
    refine (Jx n hn c hb (by omega)).bind (fun y6 h6=>(Jw n hn c hb (by omega)).bind (fun y7 h7=>?_))
    refine own2.bind (fun y8 h8=>?_)
    subst h8
    refine (Hc n hn c hb (by omega)).bind (fun y9 h9=>(Hb n hn c hb (by omega)).bind (fun y10 h10=>?_))
    refine own3.bind (fun y11 h11=>?_)
    subst h11
    refine (En n hn c hb (by omega)).bind (fun y12 h12=>(Em n hn c hb (by omega)).bind (fun y13 h13=>?_))
    have e67:y6=y7∧y6.1.Steps.length≤10000:=by
      by_cases hr:aK c
      · have:=(Dl hr (by omega)).len
        rw [h6.1 hr,h7.1 hr]
        exact ⟨rfl,by show (Aq c).Steps.length≤_; omega⟩
      · rw [h6.2 hr,h7.2 hr]
        exact ⟨rfl,Nat.zero_le _⟩
    have e910:y9=y10∧y9.1.Steps.length≤10000:=by
      by_cases hr:aK c∧u9 c.Steps
      · obtain ⟨g1,g2,g3⟩:=h9.1 hr
        obtain ⟨f1,f2,f3⟩:=h10.1 hr
        have e:=g3.det f3
        have hlen:=(g3.ok c.Regs hr.1 hr.2 (fun k s hk=>by omega)).2.2.2.1
        obtain ⟨⟨a1,a2⟩,a3⟩:=y9
        obtain ⟨⟨b1,b2⟩,b3⟩:=y10
        have k1:a3=0:=g1
        have k2:a1=c.Regs:=g2
        have k3:b3=0:=f1
        have k4:b1=c.Regs:=f2
        have k5:a2=b2:=e
        have k6:a2.length≤c.Steps.length:=hlen
        rw [k1,k2,k3,k4,← k5]
        exact ⟨rfl,by show a2.length≤_; omega⟩
      · rw [h9.2 hr,h10.2 hr]
        exact ⟨rfl,Nat.zero_le _⟩
    have e1213:y12=y13∧y12.1.Steps.length≤10000:=by
      by_cases hr:aK c
      · have:=(lI hr).len
        rw [h12.1 hr,h13.1 hr]
        exact ⟨rfl,by show (aI c.Steps).length≤_; have:(aI c.Steps).length≤4096:=this.2; omega⟩
      · rw [h12.2 hr,h13.2 hr]
        exact ⟨rfl,Nat.zero_le _⟩
    obtain ⟨e67,l6⟩:=e67
    obtain ⟨e910,l9⟩:=e910
    obtain ⟨e1213,l12⟩:=e1213
    subst e67 e910 e1213
    refine (Ar n y6.1 (by omega) l6).bind (fun y14 h14=>T.ite (fun _=>?_) (fun h=>by rw [h14] at h; cases h))
    refine T.ite (fun _=>?_) (fun h=>by simp at h)
    refine (Ar n y9.1 (by omega) l9).bind (fun y17 h17=>T.ite (fun _=>?_) (fun h=>by rw [h17] at h; cases h))
    refine T.ite (fun _=>?_) (fun h=>by simp at h)
    refine (Ar n y12.1 (by omega) l12).bind (fun y20 h20=>T.ite (fun _=>?_) (fun h=>by rw [h20] at h; cases h))
    refine T.ite (fun _=>?_) (fun h=>by simp at h)
    refine (Eo n hn c hb (by omega)).bind (fun y23 h23=>?_)
    have ho:T (lO n c) (fun y=>(aK c→∃ l,y=.inr l∧l.length=c.Steps.length∧∀ (k:Nat) (b:Bool),l[k]?=some b→(b=true↔D c.Steps k true))∧(¬ aK c→y=.inl ())):=xC n hn c hb (by omega)
    have rest:T ((ed n c).bind fun y28=>(hH n c).bind fun y29=>if (y28==y29)=true then (eF n c).bind fun y31=>(gk n c).bind fun y32=>(gl n y31 y32).bind fun y33=>if y33=true then (eK n c).bind fun y35=>(kI n c).bind fun y36=>some (y35==y36) else some false else some false) (fun b=>b=true):=by
      refine (zv n hn c hb (by omega)).bind (fun y28 h28=>(zu n hn c hb (by omega)).bind (fun y29 h29=>?_))
      have e:y28=y29:=by rw [Bool.eq_iff_iff,h28,h29]
      subst e
      refine T.ite (fun _=>?_) (fun h=>by simp at h)
      refine (Jy n hn c hb (by omega)).bind (fun y31 h31=>(H8 n hn c hb (by omega)).bind (fun y32 h32=>?_))
      have e:y31=y32∧y31.length≤10000:=by
        by_cases hr:aK c
        · have:=vw c.Steps c.Steps.length
          rw [h31.1 hr,h32.1 hr]
          exact ⟨rfl,by omega⟩
        · rw [h31.2 hr,h32.2 hr]
          exact ⟨rfl,Nat.zero_le _⟩
      obtain ⟨e,l31⟩:=e
      subst e
      refine (Jz n y31 (by omega) l31).bind (fun y33 h33=>T.ite (fun _=>?_) (fun h=>by rw [h33] at h; cases h))
      refine (He n hn c hb (by omega)).bind (fun y35 h35=>(Hf n hn c hb (by omega)).bind (fun y36 h36=>T.ret ?_))
      by_cases hr:aK c
      · rw [h35.1 hr,h36.1 hr,beq_self_eq_true]
      · rw [h35.2 hr,h36.2 hr]
        rfl
    refine ho.bind (fun y24 h24=>?_)
    by_cases hr:aK c
    · obtain ⟨l,rfl,g1,g2⟩:=h24.1 hr
      obtain ⟨f1,f2⟩:=h23.1 hr
      have e:y23=l:=List.ext_getElem? fun k=>by
        by_cases hk:k<c.Steps.length
        · have h1:=f2 k _ (List.getElem?_eq_getElem (show k<y23.length by omega))
          have h2:=g2 k _ (List.getElem?_eq_getElem (show k<l.length by omega))
          rw [List.getElem?_eq_getElem (show k<y23.length by omega),List.getElem?_eq_getElem (show k<l.length by omega)]
          congr 1
          rw [Bool.eq_iff_iff,h1,h2]
        · rw [List.getElem?_eq_none (by omega),List.getElem?_eq_none (by omega)]
      subst e
      exact (Hg n y23 (by omega) (by omega)).bind (fun y26 h26=>T.ite (fun _=>rest) (fun h=>by rw [h26] at h; cases h))
    · have h24:=h24.2 hr
      have h23:=h23.2 hr
      subst h24 h23
      exact (Hg n [] (by simp; omega) (Nat.zero_le _)).bind (fun y26 h26=>T.ite (fun _=>rest) (fun h=>by rw [h26] at h; cases h))
  obtain ⟨b,h1,h2⟩:=key
  rw [h1,h2]
theorem q7 (c:aj):fW 1000001 c=some true:=Fv _ (by omega) c

end Go.Proofs.Ytaiokpalfdbnnaa
