/- The reference's answers; codes that are not right; Strip by both -/
import Derived.Test.YtaiokpalfdbnnaaY2
import Derived.Test.YtaiokpalfdbnnaaC7
namespace Go.Proofs.Ytaiokpalfdbnnaa
open Go A

theorem Ox (n:Nat) (hn:10000≤n) (c:aj) (hl:c.Steps.length≤4096) (vs0:List Nat) (h0:CS c.Steps vs0 []) (hm:mM vs0 + 1<n) :
    T (iter (fun s=>jP n c s) n (Ms vs0,true)) (fun t=>∃ vs,t=Ms vs∧CS c.Steps vs []∧∀ q,Fz c.Steps vs q):=by
  refine T.fall (fun m s=>∃ vs ch,s=(Ms vs,ch)∧CS c.Steps vs []∧((ch=true∧m=mM vs + 1)∨(ch=false∧m=0∧∀ q,Fz c.Steps vs q))) _ (fun m s hs=>?_) n (mM vs0 + 1) _ ⟨vs0,true,rfl,h0,.inl ⟨rfl,rfl⟩⟩ hm
  obtain ⟨vs,ch,rfl,h1,h2⟩:=hs
  unfold jP
  rcases h2 with ⟨rfl,rfl⟩ | ⟨rfl,rfl,h2⟩
  · refine T.ite (fun _=>(Ow n hn c hl vs h1).bind (fun t ht=>?_)) (fun h=>by cases h)
    obtain ⟨vs',ch',rfl,h3,h4⟩:=ht
    rcases h4 with ⟨rfl,rfl,h4⟩ | ⟨rfl,h4⟩
    · exact T.next ⟨0,by omega,vs',false,rfl,h3,.inr ⟨rfl,rfl,h4⟩⟩
    · exact T.next ⟨mM vs' + 1,by omega,vs',true,rfl,h3,.inl ⟨rfl,rfl⟩⟩
  · exact T.ite (fun h=>by cases h) (fun _=>T.fin ⟨vs,rfl,h1,h2⟩)
theorem Ek (n:Nat) (hn:1000000<n) (c:aj) (h1:1≤c.Steps.length) (hl:c.Steps.length≤4096):T (mJ n c) (fun y=>∃ vs:List Nat,y=Ms vs∧vs.length=c.Steps.length∧∀ k,vs[k]?=some 2↔D c.Steps k true):=by
  unfold mJ
  refine T.grd (by simp [Nat.blt]; omega) ?_
  rw [Int.toNat_natCast]
  have hlen:(List.replicate c.Steps.length 0).length=c.Steps.length:=List.length_replicate
  refine T.bind (P:=fun t=>t=Ms (List.replicate c.Steps.length 0)) (T.loop c.Steps.length (fun i s=>∃ t:List Int,s=(t,(i:Int))∧t.length=c.Steps.length∧∀ k,k<i→t[k]?=some (-1)) _ (fun i s hi hs=>?_) ⟨_,rfl,List.length_replicate,fun k h=>by omega⟩ (by omega)) (fun t2 h2=>?_)
  · obtain ⟨t,rfl,h2,h3⟩:=hs
    unfold lN
    refine T.ite (fun h=>?_) (fun h=>?_)
    · have h:=of_decide_eq_true h
      have h:(i:Int)<(t.length:Int):=h
      have hi':i<t.length:=by omega
      have hx:ae .i64 (i:Int) 1=((i + 1:Nat):Int):=bM i (by omega)
      refine T.get i rfl hi' (T.next ⟨by omega,t.set i (-1),?_,by rw [List.length_set]; exact h2,fun k hk=>?_⟩)
      · show (t.set ((i:Int)).toNat (-1),ae .i64 (i:Int) 1)=_
        rw [hx,Int.toNat_natCast]
      · rw [aW hi']
        split
        · rfl
        · exact h3 k (by omega)
    · have h:=of_decide_eq_false h
      have h:¬ (i:Int)<(t.length:Int):=h
      refine T.fin (List.ext_getElem? fun k=>?_)
      unfold Ms
      rw [List.getElem?_map,List.getElem?_replicate]
      show t[k]?=_
      by_cases e:k<c.Steps.length
      · rw [if_pos e,h3 k (by omega)]
        rfl
      · rw [if_neg e,List.getElem?_eq_none (by omega)]
        rfl
  subst h2
  refine T.eqb (xB (k:=0) (by rw [hlen]; omega)) ?_
  have hset:(Ms (List.replicate c.Steps.length 0)).set 0 0=Ms ((List.replicate c.Steps.length 0).set 0 1):=Ha _ 0 1
  rw [hset]
  have get0:∀ (q v:Nat),((List.replicate c.Steps.length 0).set 0 1)[q]?=some v→v≤1∧(1≤v→q=0):=fun q v h=>by
    rw [aW (by rw [hlen]; omega)] at h
    split at h
    · rename_i e
      cases h
      exact ⟨by omega,fun _=>e.symm⟩
    · have:=List.eq_of_mem_replicate (List.mem_of_getElem? h)
      exact ⟨by omega,fun h=>by omega⟩
  have hcs:CS c.Steps ((List.replicate c.Steps.length 0).set 0 1) []:=by
    have h00:((List.replicate c.Steps.length 0).set 0 1)[0]?=some 1:=by rw [aW (by rw [hlen]; omega),if_pos rfl]
    refine ⟨by rw [List.length_set,hlen],fun j v h=>by have:=(get0 j v h).1; omega,fun j v h hv=>?_,fun j h=>by have:=(get0 j 2 h).1; omega,⟨1,h00,Nat.le_refl _⟩,fun k hk=>(by cases hk)⟩
    rw [(get0 j v h).2 hv]
    exact ⟨_,.zero⟩
  have hm:mM ((List.replicate c.Steps.length 0).set 0 1)≤10000:=by
    have:=rm (fun v=>2 - v) 2 ((List.replicate c.Steps.length 0).set 0 1) (fun x _=>Nat.sub_le 2 x)
    rw [List.length_set,hlen] at this
    unfold mM
    omega
  refine (Ox n (by omega) c hl _ hcs (by omega)).bind (fun t ht=>?_)
  obtain ⟨vs,rfl,g1,g2⟩:=ht
  exact T.ret ⟨vs,rfl,g1.len,g1.all g2⟩
theorem B5 (n:Nat) (hn:1000000<n) (c:aj) (h1:1≤c.Steps.length) (hl:c.Steps.length≤4096):T (jg n c) (fun b=>b=true↔u9 c.Steps):=by
  unfold jg
  refine (Ek n hn c h1 hl).bind (fun y hy=>?_)
  obtain ⟨vs,rfl,hv,hd⟩:=hy
  refine T.bind (P:=Rd (fun _=>u9 c.Steps) (fun _=>¬ u9 c.Steps)) (T.loop c.Steps.length (fun i s=>s=(i:Int)∧∀ (k:Nat) (s:ab),k<i→c.Steps[k]?=some s→zn s=true→¬ D c.Steps k true) _ (fun i s hi hs=>?_) ⟨rfl,fun k s h=>by omega⟩ (by omega)) (fun t ht=>?_)
  · obtain ⟨rfl,hs⟩:=hs
    unfold jD
    refine T.ite (fun h=>?_) (fun h=>?_)
    · have h:=of_decide_eq_true h
      have h:(i:Int)<((Ms vs).length:Int):=h
      rw [t8] at h
      have hi':i<c.Steps.length:=by omega
      have hiv:i<vs.length:=by omega
      have hx:ae .i64 (i:Int) 1=((i + 1:Nat):Int):=bM i (by omega)
      have hsi:c.Steps[i]?=some c.Steps[i]:=List.getElem?_eq_getElem hi'
      have hvi:vs[i]?=some vs[i]:=List.getElem?_eq_getElem hiv
      have go:¬ (zn c.Steps[i]=true∧D c.Steps i true)→∀ (k:Nat) (s:ab),k<i + 1→c.Steps[k]?=some s→zn s=true→¬ D c.Steps k true:=fun hno k s hk hks hsh hdk=>by
        by_cases e:k=i
        · subst e
          rw [hsi] at hks
          cases hks
          exact hno ⟨hsh,hdk⟩
        · exact hs k s (by omega) hks hsh hdk
      refine T.eqb (xB hiv) (T.ite (fun h2=>?_) (fun h2=>T.next ⟨hi',hx,go (fun hh=>?_)⟩))
      · have hdi:D c.Steps i true:=(hd i).1 (by rw [hvi]; rw [beq_iff_eq] at h2; congr 1; omega)
        refine T.get i rfl hi' (T.eqb (xv n _) (T.ite (fun h3=>T.fin (fun hf=>hf i _ hsi h3 hdi)) (fun h3=>T.next ⟨hi',hx,go (fun hh=>by rw [h3] at hh; cases hh.1)⟩)))
      · have:=(hd i).2 hh.2
        rw [hvi] at this
        have:=Option.some.inj this
        rw [beq_eq_false_iff_ne] at h2
        omega
    · have h:=of_decide_eq_false h
      have h:¬ (i:Int)<((Ms vs).length:Int):=h
      rw [t8] at h
      exact T.fin (fun k s hks hsh=>hs k s (by have:=(List.getElem?_eq_some_iff.1 hks).1; omega) hks hsh)
  · cases t with
    | inl w=>exact T.ret ⟨fun _=>ht,fun _=>rfl⟩
    | inr w=>exact T.ret ⟨fun h=>(by cases h),fun h=>(ht h).elim⟩
theorem xC (n:Nat) (hn:1000000<n) (c:aj) (hb:c.Regs≤150) (hl:c.Steps.length≤400):T (hG n c) (fun y=>(aK c→∃ l,y=.inr l∧l.length=c.Steps.length∧∀ (k:Nat) (b:Bool),l[k]?=some b→(b=true↔D c.Steps k true))∧(¬ aK c→y=.inl ())):=by
  unfold hG
  refine (vu n hn c hb hl).bind (fun y hy=>T.ite (fun h=>T.ret ⟨fun hr=>?_,fun _=>rfl⟩) (fun h=>?_))
  · rw [hy.2 hr] at h
    simp at h
  have hr:aK c:=hy.1 (by simpa using h)
  have hlen:=hr.len
  refine (Ek n hn c hlen.1 hlen.2).bind (fun y hy=>?_)
  obtain ⟨vs,rfl,hv,hd⟩:=hy
  refine T.grd (by rw [t8]; simp [Nat.blt]; omega) ?_
  rw [Int.toNat_natCast,t8]
  refine T.bind (T.loop c.Steps.length (fun i s=>∃ l:List Bool,s=(l,(i:Int))∧l.length=c.Steps.length∧∀ (k:Nat) (b:Bool),k<i→l[k]?=some b→(b=true↔D c.Steps k true)) (fun y=>y.length=c.Steps.length∧∀ (k:Nat) (b:Bool),y[k]?=some b→(b=true↔D c.Steps k true)) (fun i s hi hs=>?_) ⟨_,rfl,by rw [List.length_replicate,hv],fun k b h=>by omega⟩ (by omega)) (fun t ht=>T.ret ⟨fun _=>⟨t,rfl,ht⟩,fun h=>(h hr).elim⟩)
  obtain ⟨l,rfl,h1,h2⟩:=hs
  unfold jC
  refine T.ite (fun h=>?_) (fun h=>?_)
  · have h:=of_decide_eq_true h
    have h:(i:Int)<((Ms vs).length:Int):=h
    rw [t8] at h
    have hi':i<c.Steps.length:=by omega
    have hiv:i<vs.length:=by omega
    have hil:i<l.length:=by omega
    have hx:ae .i64 (i:Int) 1=((i + 1:Nat):Int):=bM i (by omega)
    have hvi:vs[i]?=some vs[i]:=List.getElem?_eq_getElem hiv
    refine T.eqb (xB hiv) (T.get i rfl hil (T.next ⟨hi',l.set i ((vs[i]:Int) - 1==1),?_,by rw [List.length_set]; exact h1,fun k b hk hb=>?_⟩))
    · show (l.set ((i:Int)).toNat _,ae .i64 (i:Int) 1)=_
      rw [hx,Int.toNat_natCast]
    · rw [aW hil] at hb
      by_cases e:i=k
      · subst e
        rw [if_pos rfl] at hb
        cases hb
        rw [← hd i,hvi,Option.some.injEq,beq_iff_eq]
        omega
      · rw [if_neg e] at hb
        exact h2 k b (by omega) hb
  · have h:=of_decide_eq_false h
    have h:¬ (i:Int)<((Ms vs).length:Int):=h
    rw [t8] at h
    exact T.fin ⟨h1,fun k b hb=>h2 k b (by have hk:k<l.length:=(List.getElem?_eq_some_iff.1 hb).1; omega) hb⟩
theorem El {c:aj} (hr:aK c):∀ s∈c.Steps,s.Op=8∨s.Op=9→0≤s.To∧s.To.toNat<c.Steps.length:=fun s hs hop=>by
  obtain ⟨k,hk⟩:=List.getElem?_of_mem hs
  exact hr.to hk hop
theorem Em (n:Nat) (hn:1000000<n) (c:aj) (hb:c.Regs≤150) (hl:c.Steps.length≤400):T (og n c) (fun y=>(aK c→y=(aj.mk c.Regs (aI c.Steps),0))∧(¬ aK c→y=(aj.mk 0 [],2))):=by
  unfold og
  refine (vu n hn c hb hl).bind (fun y hy=>T.ite (fun h=>T.ret ⟨fun hr=>?_,fun _=>rfl⟩) (fun h=>?_))
  · rw [hy.2 hr] at h
    simp at h
  have hr:aK c:=hy.1 (by simpa using h)
  refine T.grd (by simp [Nat.blt]; omega) ?_
  rw [Int.toNat_natCast]
  refine T.bind (P:=fun t=>Bs t c.Steps.length (fn c.Steps)) (T.loop c.Steps.length (fun i s=>∃ l:List Bool,s=(l,(i:Int))∧l.length=c.Steps.length∧∀ k,k<i→l[k]?=some (fn c.Steps k)) _ (fun i s hi hs=>?_) ⟨_,rfl,List.length_replicate,fun k h=>by omega⟩ (by omega)) (fun t ht=>?_)
  · obtain ⟨l,rfl,h1,h2⟩:=hs
    unfold lM
    refine T.ite (fun h=>?_) (fun h=>?_)
    · have h:=of_decide_eq_true h
      have h:(i:Int)<(l.length:Int):=h
      have hil:i<l.length:=by omega
      have hi':i<c.Steps.length:=by omega
      have hx:ae .i64 (i:Int) 1=((i + 1:Nat):Int):=bM i (by omega)
      have hfi:fn c.Steps i=(c.Steps[i].Op==7):=by unfold fn; rw [List.getElem?_eq_getElem hi']
      refine T.get i rfl hi' (T.get i rfl hil (T.next ⟨hi',l.set i (c.Steps[i].Op==7),?_,by rw [List.length_set]; exact h1,fun k hk=>?_⟩))
      · show (l.set ((i:Int)).toNat _,ae .i64 (i:Int) 1)=_
        rw [hx,Int.toNat_natCast]
      · rw [aW hil]
        split
        · rename_i e
          rw [← e,hfi]
        · exact h2 k (by omega)
    · have h:=of_decide_eq_false h
      have h:¬ (i:Int)<(l.length:Int):=h
      exact T.fin ⟨h1,fun k hk=>h2 k (by omega)⟩
  · refine T.grd (by rw [ht.1]; simp [Nat.blt]; omega) ?_
    rw [Int.toNat_natCast,ht.1]
    refine (Aw n c t _ (fn c.Steps) (fun _=>false) (by omega) (by omega) ht (.no _) (El hr)).bind (fun y hy=>T.ret ⟨fun _=>?_,fun h=>(h hr).elim⟩)
    rw [hy,t7,H6 hr]
theorem Jw (n:Nat) (hn:1000000<n) (c:aj) (hb:c.Regs≤150) (hl:c.Steps.length≤400):T (vc n c) (fun y=>(aK c→y=(Aq c,0))∧(¬ aK c→y=(aj.mk 0 [],2))):=by
  unfold vc
  refine (Em n hn c hb hl).bind (fun y1 h1=>?_)
  by_cases hr:aK c
  · have h1:=h1.1 hr
    subst h1
    have hbr:=lI hr
    have hble:(aI c.Steps).length≤c.Steps.length:=by
      unfold aI
      rw [List.length_map]
      exact List.length_filter_le ..
    refine T.ite (fun h=>by simp at h) (fun _=>?_)
    refine (xC n hn (aj.mk c.Regs (aI c.Steps)) hb (by show (aI c.Steps).length≤400; omega)).bind (fun y3 h3=>?_)
    obtain ⟨l,rfl,g1,g2⟩:=h3.1 hbr
    have g1:l.length=(aI c.Steps).length:=g1
    refine T.bind (P:=fun t=>Bs t (aI c.Steps).length (pD (aI c.Steps))) (T.loop (aI c.Steps).length (fun i s=>∃ t:List Bool,s=(t,(i:Int))∧t.length=(aI c.Steps).length∧(∀ k,k<i→t[k]?=some (pD (aI c.Steps) k))∧∀ (k:Nat) (b:Bool),i≤k→t[k]?=some b→(b=true↔D (aI c.Steps) k true)) _ (fun i s hi hs=>?_) ⟨l,rfl,g1,fun k h=>by omega,fun k b _ h=>g2 k b h⟩ (by omega)) (fun t ht=>?_)
    · obtain ⟨t,rfl,f1,f2,f3⟩:=hs
      unfold je
      refine T.ite (fun h=>?_) (fun h=>?_)
      · have h:=of_decide_eq_true h
        have h:(i:Int)<(t.length:Int):=h
        have hit:i<t.length:=by omega
        have hi':i<(aI c.Steps).length:=by omega
        have hx:ae .i64 (i:Int) 1=((i + 1:Nat):Int):=bM i (by omega)
        have hsi:(aI c.Steps)[i]?=some (aI c.Steps)[i]:=List.getElem?_eq_getElem hi'
        have hti:=f3 i t[i] (Nat.le_refl _) (List.getElem?_eq_getElem hit)
        have fin:∀ v:Bool,v=pD (aI c.Steps) i→T (some (.inl ((t.set ((i:Int)).toNat v),ae .i64 (i:Int) 1):(List Bool×Int)⊕List Bool)) (Rd (fun s'=>i<(aI c.Steps).length∧∃ t:List Bool,s'=(t,((i + 1:Nat):Int))∧t.length=(aI c.Steps).length∧(∀ k,k<i + 1→t[k]?=some (pD (aI c.Steps) k))∧∀ (k:Nat) (b:Bool),i + 1≤k→t[k]?=some b→(b=true↔D (aI c.Steps) k true)) (fun t=>Bs t (aI c.Steps).length (pD (aI c.Steps)))):=fun v hv=>by
          refine T.next ⟨hi',t.set i v,by rw [hx,Int.toNat_natCast],by rw [List.length_set]; exact f1,fun k hk=>?_,fun k b hk hb=>?_⟩
          · rw [aW hit]
            split
            · rename_i e
              rw [← e,hv]
            · exact f2 k (by omega)
          · rw [aW hit,if_neg (by omega)] at hb
            exact f3 k b (by omega) hb
        refine T.get i rfl hit (T.ite (fun h2=>T.get i rfl hi' (T.eqb (xv n _) (fin _ ?_))) (fun h2=>fin _ ?_))
        · rw [Bool.eq_iff_iff,Dk,hsi]
          exact ⟨fun h=>⟨hti.1 h2,_,rfl,h⟩,fun ⟨_,s,h3,h4⟩=>by cases h3; exact h4⟩
        · rw [Bool.eq_iff_iff,Dk]
          refine ⟨fun h=>(by cases h),fun ⟨h3,_⟩=>?_⟩
          have:=hti.2 h3
          rw [h2] at this
          exact this
      · have h:=of_decide_eq_false h
        have h:¬ (i:Int)<(t.length:Int):=h
        exact T.fin ⟨f1,fun k hk=>f2 k (by omega)⟩
    · refine T.grd (by rw [ht.1]; simp [Nat.blt]; omega) ?_
      rw [Int.toNat_natCast,ht.1]
      refine (Aw n (aj.mk c.Regs (aI c.Steps)) _ t (fun _=>false) (pD (aI c.Steps)) (by show (aI c.Steps).length≤_; omega) (by omega) (.no _) ht (El hbr)).bind (fun y hy=>?_)
      have hy:y=Aq c:=by rw [hy]; unfold Aq; rw [← G9]
      subst hy
      have halen:(Aq c).Steps.length=ps (pD (aI c.Steps)) (aI c.Steps).length:=pW _ _
      have hps:=BY (pD (aI c.Steps)) (aI c.Steps).length
      have hpn:=BZ (pD (aI c.Steps)) (aI c.Steps).length
      exact T.ite (fun h=>by have h:=of_decide_eq_true h; omega) (fun _=>T.ret ⟨fun _=>rfl,fun h=>(h hr).elim⟩)
  · have h1:=h1.2 hr
    subst h1
    exact T.ite (fun _=>T.ret ⟨fun h=>(hr h).elim,fun _=>rfl⟩) (fun h=>by simp at h)
theorem SR.det {l r:List ab} {i:Nat} (h:SR l i r):∀ {r':List ab},SR l i r'→r=r':=by
  induction h with
  | @fin l i h =>
    intro r' h'
    cases h' with
    | fin=>rfl
    | no hs=>have:=(List.getElem?_eq_some_iff.1 hs).1; omega
    | yes hs=>have:=(List.getElem?_eq_some_iff.1 hs).1; omega
  | @no l r i s hs hn _ ih =>
    intro r' h'
    cases h' with
    | fin h=>have:=(List.getElem?_eq_some_iff.1 hs).1; omega
    | no hs2 hn2 h2=>exact ih h2
    | yes hs2 h7 hf h2 =>
      rw [hs] at hs2
      cases hs2
      exact (hn ⟨h7,hf⟩).elim
  | @yes l r i s hs h7 hf _ ih =>
    intro r' h'
    cases h' with
    | fin h=>have:=(List.getElem?_eq_some_iff.1 hs).1; omega
    | no hs2 hn2 h2 =>
      rw [hs] at hs2
      cases hs2
      exact (hn2 ⟨h7,hf⟩).elim
    | yes hs2 h72 hf2 h2=>exact ih h2
theorem zu (n:Nat) (hn:1000000<n) (c:aj) (hb:c.Regs≤150) (hl:c.Steps.length≤400):T (hH n c) (fun b=>b=true↔aK c∧u9 c.Steps):=by
  unfold hH
  refine (vu n hn c hb hl).bind (fun y hy=>T.ite (fun h=>?_) (fun h=>T.ret ⟨fun h=>(by cases h),fun h2=>?_⟩))
  · have hr:aK c:=hy.1 (by simpa using h)
    exact (B5 n hn c hr.len.1 hr.len.2).bind (fun b hb=>T.ret (hb.trans ⟨fun h=>⟨hr,h⟩,fun h=>h.2⟩))
  · rw [hy.2 h2.1] at h
    simp at h
theorem Hb (n:Nat) (hn:1000000<n) (c:aj) (hb:c.Regs≤150) (hl:c.Steps.length≤400):T (pB n c) (fun y=>(aK c∧u9 c.Steps→y.2=0∧y.1.Regs=c.Regs∧SR c.Steps 0 y.1.Steps)∧(¬ (aK c∧u9 c.Steps)→y=(aj.mk 0 [],2))):=by
  unfold pB
  refine (zu n hn c hb hl).bind (fun b hf=>T.ite (fun h=>T.ret ⟨fun hf2=>?_,fun _=>rfl⟩) (fun h=>?_))
  · rw [hf.2 hf2] at h
    cases h
  obtain ⟨hr,hfen⟩:=hf.1 (by simpa using h)
  have hlen:=hr.len
  refine T.grd (by simp [Nat.blt]; omega) (T.grd (by simp [Nat.blt]; omega) ?_)
  rw [Int.toNat_natCast]
  refine (Aw n c _ _ (fun _=>false) (fun _=>false) (by omega) (by omega) (.no _) (.no _) (El hr)).bind (fun y5 h5=>?_)
  have h5:y5=c:=by rw [h5,t7,H7 hr]
  subst h5
  refine T.bind (P:=fun t=>t.1=y5.Regs∧SR y5.Steps 0 t.2) (T.fall (fun m s=>∃ (l:List ab) (i:Nat),s=(y5.Regs,l,(i:Int))∧aK (aj.mk y5.Regs l)∧l.length≤400∧i≤l.length∧m=l.length * 401 + (l.length - i)∧∀ r,SR l i r→SR y5.Steps 0 r) _ (fun m s hs=>?_) n (y5.Steps.length * 401 + (y5.Steps.length - 0)) _ ⟨y5.Steps,0,rfl,hr,hl,by omega,rfl,fun r h=>h⟩ (by omega)) (fun t ht=>T.ret ⟨fun _=>⟨rfl,ht⟩,fun h=>(h ⟨hr,hfen⟩).elim⟩)
  obtain ⟨l,i,rfl,g1,g2,g3,rfl,g4⟩:=hs
  have hlen1:1≤l.length:=g1.len.1
  unfold kz
  refine T.ite (fun h=>?_) (fun h=>?_)
  · have h:=of_decide_eq_true h
    have h:(i:Int)<(l.length:Int):=h
    have hi':i<l.length:=by omega
    have hx:ae .i64 (i:Int) 1=((i + 1:Nat):Int):=bM i (by omega)
    have hsi:l[i]?=some l[i]:=List.getElem?_eq_getElem hi'
    have nxt:¬ (l[i].Op=7∧u9 (c5 (only i) l))→T (some (.inl (y5.Regs,l,ae .i64 (i:Int) 1):(Int×List ab×Int)⊕(Int×List ab))) (Rd (fun s'=>∃ m',m'<l.length * 401 + (l.length - i)∧∃ (l:List ab) (i:Nat),s'=(y5.Regs,l,(i:Int))∧aK (aj.mk y5.Regs l)∧l.length≤400∧i≤l.length∧m'=l.length * 401 + (l.length - i)∧∀ r,SR l i r→SR y5.Steps 0 r) (fun t=>t.1=y5.Regs∧SR y5.Steps 0 t.2)):=fun hno =>
      T.next ⟨_,by omega,l,i + 1,by rw [hx],g1,g2,hi',rfl,fun r h=>g4 r (.no hsi hno h)⟩
    refine T.get i rfl hi' (T.ite (fun h3=>nxt (fun hh=>?_)) (fun h3=>?_))
    · rw [hh.1] at h3
      cases h3
    · have h7:l[i].Op=7:=by simpa using h3
      have hgr:=nM g1 (Av hsi h7)
      have hgl:=xA hi'
      refine T.grd (by simp [Nat.blt]; omega) ?_
      dsimp only
      simp only [Int.toNat_natCast,List.length_set,List.length_replicate]
      refine T.get i rfl (by rw [List.length_replicate]; exact hi') (T.grd (by simp [Nat.blt]; omega) ?_)
      refine (Aw n (aj.mk y5.Regs l) _ _ (only i) (fun _=>false) (by show l.length≤_; omega) (by omega) (.one hi') (.no _) (El g1)).bind (fun y hy=>?_)
      have hy:y=aj.mk y5.Regs (c5 (only i) l):=by rw [hy,← t7]
      subst hy
      refine (B5 n hn _ hgr.len.1 hgr.len.2).bind (fun b hb=>T.ite (fun hbt=>T.next ⟨_,?_,c5 (only i) l,0,rfl,hgr,?_,by omega,rfl,fun r h=>g4 r (.yes hsi h7 (hb.1 hbt) h)⟩) (fun hbf=>nxt (fun hh=>?_)))
      · omega
      · omega
      · rw [hb.2 hh.2] at hbf
        cases hbf
  · have h:=of_decide_eq_false h
    have h:¬ (i:Int)<(l.length:Int):=h
    exact T.fin ⟨rfl,g4 l (.fin (by omega))⟩

end Go.Proofs.Ytaiokpalfdbnnaa
