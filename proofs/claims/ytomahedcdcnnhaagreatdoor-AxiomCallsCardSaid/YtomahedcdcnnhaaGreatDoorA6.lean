/- aC as the document judges: the whole of it. Plain facts; nothing is claimed of the program here. -/
import Derived.Test.YtomahedcdcnnhaaGreatDoorA5
import Derived.KernelRfl
namespace Go.Proofs.YtomahedcdcnnhaaGreatDoor
open Go A

theorem yC (n:Nat) (l:List Int) (hl:l.length≤150) (hn:200≤n):dG n l l=some true:=by
  have key:T (dG n l l) (fun b=>b=true):=by
    unfold dG
    refine T.ite (fun d=>by simp at d) (fun _=>?_)
    refine T.bind (P:=fun (r:Unit⊕Unit)=>match r with | .inl _=>True | .inr _=>False) ?_ (fun r hr=>by
      cases r with
      | inl _=>exact T.ret rfl
      | inr _=>exact hr.elim)
    refine T.loop l.length (fun i s=>s=(i:Int)) _ ?_ rfl (by omega)
    rintro i s hi rfl
    unfold iq
    refine T.ite (fun cd=>?_) (fun cd=>T.fin trivial)
    have hil:=aY cd
    refine T.get i rfl hil ?_
    refine T.get i rfl hil ?_
    refine T.ite (fun d=>by simp at d) (fun _=>?_)
    exact T.ret ⟨hil,av _ (by omega)⟩
  obtain ⟨r,h1,h2⟩:=key
  rw [h1,h2]
theorem Lq (n:Nat) (e:Event) (h:small e) (hn:200≤n):qD n e e=some true:=by
  unfold qD wF
  rw [yC n _ (Nat.le_trans h.1 (by decide)) hn,yC n _ (Nat.le_trans h.2.1 (by decide)) hn,yC n _ (Nat.le_trans h.2.2 (by decide)) hn]
  simp


/-- Two loops over lists of the same length whose elements agree. -/
theorem wc {n:Nat} {step:Int→Option (Int⊕(Unit⊕Unit))} (N:Nat) (hN:N<n) (h2:N≤1000) (h:∀ i:Nat,i<N→step (i:Int)=some (.inl (ac .i64 (i:Int) 1))) (he:step (N:Int)=some (.inr (.inl ()))):iter step n 0=some (.inl ()):=by
  have key:T (iter step n 0) (fun t=>t=.inl ()):=by
    refine T.loop N (fun i s=>s=(i:Int)) _ ?_ rfl (by omega)
    rintro i s hi rfl
    by_cases e:i=N
    · subst e
      rw [he]
      exact T.fin rfl
    · rw [h i (by omega)]
      exact T.ret ⟨by omega,av _ (by omega)⟩
  obtain ⟨r,h1,h2⟩:=key
  rw [h1,h2]
theorem Dx (n:Nat) (l:List Event) (hl:smalls l) (hn:200≤n):nQ n l l=some true:=by
  have h1:=hl.1
  have L:iter (fun s=>gg n l l s) n 0=some (.inl ()):=by
    refine wc l.length (by omega) (by omega) (fun i hi=>?_) ?_
    · unfold gg
      rw [if_pos (decide_eq_true (by omega)),aS rfl hi]
      simp only [Option.bind_some]
      rw [Lq n _ (hl.2 _ (List.getElem_mem hi)) hn]
      rfl
    · unfold gg
      rw [if_neg (by simp)]
  unfold nQ
  rw [if_neg (by simp),L]
  rfl
theorem GK (n:Nat) (l:List Cell) (hl:l.length≤150) (hn:200≤n):j3 n l l=some true:=by
  have L:iter (fun s=>dO n l l s) n 0=some (.inl ()):=by
    refine wc l.length (by omega) (by omega) (fun i hi=>?_) ?_
    · unfold dO
      rw [if_pos (decide_eq_true (by omega)),aS rfl hi]
      simp only [Option.bind_some]
      rw [Cell.beq_refl]
      rfl
    · unfold dO
      rw [if_neg (by simp)]
  unfold j3
  rw [if_neg (by simp),L]
  rfl
theorem GL (n:Nat) (c:af) (hc:bP c) (hn:200≤n):sI n c c=some true:=by
  have h1:=hc.harts
  have h2:=hc.first
  have h3:=hc.from_
  have h4:=hc.order
  have L:iter (fun s=>iE n c c s) n 0=some (.inl ()):=by
    refine wc c.Harts.length (by omega) (by omega) (fun i hi=>?_) ?_
    · unfold iE
      rw [if_pos (decide_eq_true (by omega)),aS rfl hi]
      simp only [Option.bind_some]
      rw [Dx n _ (hc.rows _ (List.getElem_mem hi)) hn]
      rfl
    · unfold iE
      rw [if_neg (by simp)]
  unfold sI
  rw [if_neg (by simp),L]
  simp only [Option.bind_some]
  rw [GK n _ (by omega) hn,yC n c.From (by omega) hn,yC n c.Order (by omega) hn]
  rfl

/-! ### A judgement that a loop ends with is never M5 -/
def NB (x:Option (Int⊕(Unit⊕(Bool×Int×Int×Int)))):Prop:=∀ t,x=some (.inr (.inr t))→t.1=false
theorem NB.bind {α:Type} {o:Option α} {f:α→Option (Int⊕(Unit⊕(Bool×Int×Int×Int)))} (h:∀ a,NB (f a)):NB (o.bind f):=by
  intro t e
  cases o with
  | none=>cases e
  | some a=>exact h a t e
theorem NB.ite {b:Bool} {x y:Option (Int⊕(Unit⊕(Bool×Int×Int×Int)))} (h1:NB x) (h2:NB y):NB (if b=true then x else y):=by
  cases b
  · exact h2
  · exact h1
theorem NB.next {s:Int}:NB (some (.inl s)):=fun _ e=>by cases e
theorem NB.done:NB (some (.inr (.inl ()))):=fun _ e=>by cases e
theorem NB.bad {t:Bool×Int×Int×Int} (h:t.1=false):NB (some (.inr (.inr t))):=fun _ e=>by cases e; exact h
theorem NB.iter {step:Int→Option (Int⊕(Unit⊕(Bool×Int×Int×Int)))} (h:∀ s,NB (step s)) {t:Bool×Int×Int×Int}:∀ (n:Nat) (s:Int),iter step n s=some (.inr t)→t.1=false
  | 0,_,e=>by cases e
  | n + 1,s,e=>by
    unfold A.iter at e
    cases hs:step s with
    | none=>rw [hs] at e; cases e
    | some r =>
      rw [hs] at e
      cases r with
      | inl s'=>exact NB.iter h n s' e
      | inr u =>
        have e:some u=some (Sum.inr t):=e
        cases e
        exact h s t hs
theorem Sx (n:Nat) (c:af) (y1:ab×Bool) (y3:List Int) (y4:List (bJ Int)) (s:Int):NB (eU n c y1 y3 y4 s):=by
  unfold eU
  refine NB.ite (NB.bind fun a=>NB.bind fun b=>NB.bind fun d=>NB.ite ?_ NB.next) NB.done
  exact NB.bad (t:=(false,2,a.e0,a.e1)) rfl
theorem Sy (n:Nat) (c:af) (y1:ab×Bool) (y3:List Int) (s:Int):NB (dD n c y1 y3 s):=by
  unfold dD
  refine NB.ite (NB.bind fun a=>NB.bind fun b=>NB.ite NB.next (NB.bind fun d=>NB.bind fun e=>NB.ite ?_ NB.next)) NB.done
  exact NB.bad (t:=(false,3,s,d)) rfl
theorem Sz (n:Nat) (y1:ab×Bool) (y3:List Int) (s:Int):NB (dE n y1 y3 s):=by
  unfold dE
  refine NB.ite (NB.bind fun a=>NB.ite NB.next (NB.bind fun b=>NB.ite ?_ NB.next)) NB.done
  exact NB.bad (t:=(false,4,b.1,b.2)) rfl

/-! ### The judgement -/
structure M0 (n:Nat) (c:af) (w:List (Int×List Int)) (pl:List Int) (ps:List (bJ Int)):Prop where
  ok:bz n c
  ct:gE c w pl
  of_:dU n c.First c.Harts c.From c.Order=some (.inr (w,c.Harts.flatten,pl))
  ro:mR n c=some (VV c,true)
  rp:jH n c=some pl
  pa:jF n c=some ps
  pr:qC n c=some ps
theorem J_ (n:Nat) (c:af) (hc:bP c) (hN:c.Harts.flatten.length≤30) (hn:4000≤n) :
    (∃ w pl ps,M0 n c w pl ps)∨(dU n c.First c.Harts c.From c.Order=some (.inl ())∧mR n c=some (ab.mk c [],false)):=by
  rcases FB n c hc (by omega) with hr | ⟨g1,g2⟩
  · obtain ⟨_,ho,w,pl,rfl,ct⟩:=J4 n c hc hr (by omega)
    have ro:=MX n c hc (by omega) (J3 n c hc (by omega) hr)
    obtain ⟨pl',rp,hl,hp⟩:=EP n c hc hr (by omega)
    have e:pl'=pl:=EO hr (w:=w) (w':=w) ⟨ct.has,hl,hp⟩ ct
    subst e
    obtain ⟨_,hof,v,rfl,hv⟩:=of_ n c hc (by omega) hr
    have R:=Il n c v hv hc hr (by omega)
    obtain ⟨ps,hps,q1⟩:=Im n c v hv hof hr R (by omega) (by omega)
    obtain ⟨_,hof2,v2,rfl,hxv⟩:=Qp n c hc (by omega) hr
    have e2:v=v2:=Option.some.inj (Option.some.inj (hof.symm.trans hof2))
    subst e2
    obtain ⟨ps2,hps2,q2⟩:=EN hxv hc hr R hN (by omega)
    have e3:=q2.uniq q1
    subst e3
    refine .inl ⟨w,pl',ps2,hr,ct,ho,ro,rp,hps,?_⟩
    unfold qC
    rw [ro]
    simp only [Option.bind_some]
    rw [hps2]
    rfl
  · obtain ⟨s,h1,h2⟩:=g2
    exact .inr ⟨FC n c h1 h2,(Qs n c g1 ⟨s,h1,h2⟩).2⟩
theorem Jv (n:Nat) (c:af) (hc:bP c) (hN:c.Harts.flatten.length≤30) (hn:4000≤n):dJ n c=nd n c:=by
  unfold dJ nd
  rcases J_ n c hc hN hn with ⟨w,pl,ps,h⟩ | ⟨h1,h2⟩
  · rw [h.of_,h.ro]
    simp only [Option.bind_some]
    show _=(if (!true)=true then _ else _)
    rw [if_neg (by decide),h.rp,h.pr]
    simp only [Option.bind_some]
    unfold dz
    rw [show jF n (af.mk c.First c.Harts c.From c.Order)=some ps from h.pa]
    simp only [Option.bind_some]
    rw [show (fun s=>bR n c.First c.Harts c.From c.Order w c.Harts.flatten pl ps s)=fun s=>eU n c (VV c,true) pl ps s from funext (Lp n c w pl ps)]
    have n1:=fun t=>@NB.iter _ (Sx n c (VV c,true) pl ps) t n 0
    revert n1
    generalize iter (fun s=>eU n c (VV c,true) pl ps s) n 0=i1
    intro n1
    unfold dA dX
    rw [show (fun s=>bw n c.First c.Harts c.From c.Order w c.Harts.flatten pl s)=fun s=>dD n c (VV c,true) pl s from funext (Lo n c hc h.ok (by omega) h.ct)]
    rw [show (fun s=>bF n c.First c.Harts c.From c.Order w c.Harts.flatten pl s)=fun s=>dE n (VV c,true) pl s from funext (MZ n c hc h.ok (by omega) h.ct)]
    have n2:=fun t=>@NB.iter _ (Sy n c (VV c,true) pl) t n 0
    revert n2
    generalize iter (fun s=>dD n c (VV c,true) pl s) n 0=i2
    intro n2
    have n3:=fun t=>@NB.iter _ (Sz n (VV c,true) pl) t n 0
    revert n3
    generalize iter (fun s=>dE n (VV c,true) pl s) n 0=i3
    intro n3
    cases i1 with
    | none=>rfl
    | some r1 =>
      cases r1 with
      | inr x =>
        have e:=n1 x rfl
        obtain ⟨a,b,d,f⟩:=x
        have e:a=false:=e
        subst e
        rfl
      | inl _ =>
        cases i2 with
        | none=>rfl
        | some r2 =>
          cases r2 with
          | inr x =>
            have e:=n2 x rfl
            obtain ⟨a,b,d,f⟩:=x
            have e:a=false:=e
            subst e
            rfl
          | inl _ =>
            cases i3 with
            | none=>rfl
            | some r3 =>
              cases r3 with
              | inr x =>
                have e:=n3 x rfl
                obtain ⟨a,b,d,f⟩:=x
                have e:a=false:=e
                subst e
                rfl
              | inl _=>rfl
  · rw [h1,h2]
    rfl


theorem Dy (n:Nat) (c:af) (hc:bP c) (hN:c.Harts.flatten.length≤30) (hn:4000≤n) (k:Int):T (iW n c k) (fun r=>lz n c k=some r):=by
  unfold iW lz
  rcases J_ n c hc hN hn with ⟨w,pl,ps,h⟩ | ⟨h1,h2⟩
  · rw [h.of_,h.ro]
    simp only [Option.bind_some]
    show T _ (fun r=>(if decide (k<0)=true then some (-1) else _)=some r)
    by_cases d1:decide (k<0)=true
    · rw [if_pos d1,if_pos d1]
      exact T.ret rfl
    · rw [if_neg d1,if_neg d1]
      show T _ (fun r=>(if decide (k≥(c.Harts.flatten.length:Int))=true then _ else (ak c.Harts.flatten k).bind _)=some r)
      by_cases d2:decide (k≥(c.Harts.flatten.length:Int))=true
      · rw [if_pos d2,if_pos d2]
        exact T.ret rfl
      · rw [if_neg d2,if_neg d2]
        have d1:¬ k<0:=by simpa using d1
        have d2:¬ k≥(c.Harts.flatten.length:Int):=by simpa using d2
        obtain ⟨q,rfl⟩:∃ q:Nat,k=(q:Int):=⟨k.toNat,by omega⟩
        have hq:q<c.Harts.flatten.length:=by omega
        rw [aS rfl hq]
        simp only [Option.bind_some]
        rw [e_,jl]
        simp only [Option.bind_some]
        by_cases d3:(!nH c.Harts.flatten[q].Kind)=true
        · rw [if_pos d3,if_pos d3]
          exact T.ret rfl
        · rw [if_neg d3,if_neg d3,Iw,BZ n c hc h.ok (by omega) h.ct q hq,h.rp]
          simp only [Option.bind_some]
          rw [yB n c hc h.ok (by omega) h.ct q hq]
          exact T.ret rfl
  · rw [h1,h2]
    exact T.ret rfl
theorem GM (n:Nat) (c:af) (k0:Int) (j:aC) (hlv:qz n=some true) (hn:4000≤n) (hL:∃ a b,iw n j=some a∧pG n j=some b∧a.toList=b.toList):T (iX n c k0 j) (fun b=>b=true):=by
  unfold iX
  refine T.eqb hlv ?_
  refine T.ite (fun d=>by cases d) (fun _=>?_)
  refine T.bind (Lb n c 30 (by omega) (by omega)) (fun b hb=>?_)
  refine T.ite (fun _=>T.ret rfl) (fun d=>?_)
  obtain ⟨hc,hN⟩:=hb (jm d)
  refine T.eqb (It n c hc (by omega)) ?_
  dsimp only
  have hfl:=hc.from_
  rw [show ac .i64 (c.From.length:Int) 2=((c.From.length + 2:Nat):Int) by rw [yJ (by omega) (by omega)]; omega]
  refine T.bind (MK n k0 (c.From.length + 2) (by omega) (by omega)) (fun y6 _=>?_)
  obtain ⟨y7,e7,_⟩:=Lh n c hc hn
  have e8:=(Jv n c hc hN hn).symm.trans e7
  refine T.eqb e7 ?_
  refine T.eqb e8 ?_
  refine T.ite (fun _=>?_) (fun d=>by rw [aC.beq_refl] at d; cases d)
  refine T.eqb (a:=y7.OK) (by unfold wE; rw [show dJ n (af.mk c.First c.Harts c.From c.Order)=some y7 from e7]; rfl) ?_
  refine T.eqb (a:=y7.OK) (by unfold DF; rw [e8]; rfl) ?_
  refine T.ite (fun _=>?_) (fun d=>by simp at d)
  obtain ⟨s1,g1,g2⟩:=Dy n c hc hN hn k0
  refine T.eqb g1 ?_
  refine T.eqb g2 ?_
  refine T.ite (fun _=>?_) (fun d=>by simp at d)
  obtain ⟨s2,g3,g4⟩:=Dy n c hc hN hn (aJ .i64 y6 1)
  refine T.eqb g3 ?_
  refine T.eqb g4 ?_
  refine T.ite (fun _=>?_) (fun d=>by simp at d)
  obtain ⟨a,b,l1,l2,l3⟩:=hL
  refine T.eqb l1 ?_
  refine T.eqb l2 ?_
  refine T.ite (fun _=>?_) (fun d=>by rw [l3] at d; simp at d)
  exact T.eqb (GL n c hc (by omega)) (T.ret rfl)

end Go.Proofs.YtomahedcdcnnhaaGreatDoor
