/- A candidate that the program takes, the document takes. Plain lists, no program in sight. -/
import Derived.Test.YtigcbjbaibcgfaaGreatE7
namespace Go.Proofs.YtigcbjbaibcgfaaGreat
open Go A

/-! ### Events -/
structure OKF (e:Event):Prop where
 hart:0≤e.Hart∧e.Hart<8
 at_:0≤e.At
 addr:remW .u64 e.Addr 8=0
 pred:0≤e.Pred∧e.Pred≤15
 succ:0≤e.Succ∧e.Succ≤15
 pair:e.Kind=4→0≤e.Pair∧e.Pair<e.At
 bels:belB e.Deps.Addr e.At=true∧belB e.Deps.Data e.At=true∧belB e.Deps.Way e.At=true
 want:sameB (wantE e) e=true
theorem okf (e:Event) (h:okE e=true):OKF e:=by
 have hp:=(okTail e h).2.2.2.2.2.1
 unfold okE tailB at h
 simp only [Bool.and_eq_true,decide_eq_true_eq] at h
 obtain ⟨_,h1,h2,h3,hw,ha,h4,h4',h5,h5',_,h7,h8,h9⟩:=h
 exact ⟨⟨h1,h2⟩,h3,ha,⟨h4,h4'⟩,⟨h5,h5'⟩,hp,⟨h7,h8,h9⟩,hw⟩
theorem okInv (e:Event) (f r w m p:Bool) (hb:bits (hasV e.Kind)=[f,r,w,m,p]) (h:sameB (wantE e) e=true) :
  (f=true→e.Addr=0∧e.Deps.Addr=[]∧e.Deps.Way=[])∧(r=false→e.Load=0)∧(w=false→e.Store=0∧e.Deps.Data=[])∧(m=false→e.Aq=false∧e.Rl=false)∧(f=false→e.Pred=0∧e.Succ=0)∧(p=false→e.Pair=0):=by
 unfold bits at hb
 injection hb with hb1 hb
 injection hb with hb2 hb
 injection hb with hb3 hb
 injection hb with hb4 hb
 injection hb with hb5 _
 unfold sameB at h
 simp only [Bool.and_eq_true,decide_eq_true_eq] at h
 obtain ⟨d1,d2,d3,h⟩:=h
 have h:=event_rest.beq_eq h
 unfold restOf at h
 injection h with e1 e2 e3 e4 e5 e6 e7 e8 e9 e10 e11
 unfold wantE at d1 d2 d3 e4 e5 e6 e7 e8 e9 e10 e11
 simp only [hb1,hb2,hb3,hb4,hb5] at d1 d2 d3 e4 e5 e6 e7 e8 e9 e10 e11
 refine ⟨fun h=>?_,fun h=>?_,fun h=>?_,fun h=>?_,fun h=>?_,fun h=>?_⟩ <;> subst h
 ·exact ⟨e7.symm,d1.symm,d3.symm⟩
 ·exact e8.symm
 ·exact ⟨e9.symm,d2.symm⟩
 ·exact ⟨e10.symm,e11.symm⟩
 ·exact ⟨e4.symm,e5.symm⟩
 ·exact e6.symm
theorem memBack (n:Nat) (e:Event) (he:small e) (hn:100≤n) (o:OKF e) (k6:e.Kind≠6) (hm:(rdB e.Kind||wrB e.Kind)=true) (h1:rdB e.Kind=true∨e.Load=0) (h2:wrB e.Kind=true∨e.Store=0) (p1:e.Pred=0) (p2:e.Succ=0) (hr:restB e=true):T (ref_Check2 n e) (fun r=>r=0):=by
 unfold ref_Check2
 simp only [memory_,reads_,writes_,Option.bind_some,rcC2_ n e _ he hn,rc1_]
 refine T.ite (fun _=>?_) (fun d=>absurd o.hart.1 (of_decide_eq_false d))
 refine T.ite (fun _=>?_) (fun d=>absurd o.hart.2 (of_decide_eq_false d))
 refine T.ite (fun d=>absurd (eq_of_beq d) k6) (fun _=>?_)
 refine T.ite (fun _=>?_) (fun d=>absurd o.at_ (of_decide_eq_false d))
 refine T.ite (fun _=>?_) (fun d=>by rw [hm] at d; simp at d)
 refine T.ite (fun _=>?_) (fun d=>by rw [o.addr] at d; simp at d)
 have fin:T (some (if ((e.Succ==0)&&restB e)=true then (0:Int) else 2)) (fun r=>r=0):=by
  rw [p2,hr]
  exact T.ret rfl
 have fin2:T (if (e.Pred==0)=true then some (if ((e.Succ==0)&&restB e)=true then (0:Int) else 2) else some (if (false&&restB e)=true then (0:Int) else 2)) (fun r=>r=0) :=
  T.ite (fun _=>fin) (fun d=>by rw [p1] at d; simp at d)
 refine T.ite (fun _=>?_) (fun r1=>?_)
 ·refine T.ite (fun _=>fin2) (fun w1=>?_)
  refine T.ite (fun _=>fin2) (fun d=>?_)
  rcases h2 with h2 | h2
  ·rw [h2] at w1; simp at w1
  ·rw [h2] at d; simp at d
 ·refine T.ite (fun _=>?_) (fun d=>?_)
  ·refine T.ite (fun _=>fin2) (fun w1=>?_)
   refine T.ite (fun _=>fin2) (fun d=>?_)
   rcases h2 with h2 | h2
   ·rw [h2] at w1; simp at w1
   ·rw [h2] at d; simp at d
  ·rcases h1 with h1 | h1
   ·rw [h1] at r1; simp at r1
   ·rw [h1] at d; simp at d
theorem refBack_ (n:Nat) (e:Event) (he:small e) (hn:100≤n) (h:okE e=true):ref_Check2 n e=some 0:=by
 have o:=okf e h
 have hb:=o.bels
 have hrest:marksB e=true→pairB e=true→(wrB e.Kind=true∨e.Deps.Data=[])→restB e=true:=fun g1 g2 g3=>by
  unfold restB
  rw [g1,g2,hb.1,hb.2.1,hb.2.2]
  simpa using g3
 have key:T (ref_Check2 n e) (fun r=>r=0):=by
  rcases kinds e.Kind with k | k | k | k | k | k | ⟨k,_,_⟩
  ·obtain ⟨_,_,g3,g4,g5,g6⟩:=okInv e false true false false false (by rw [k]; exact b1) o.want
   exact memBack n e he hn o (by omega) (by rw [k]; rfl) (.inl (by rw [k]; rfl)) (.inr (g3 rfl).1) (g5 rfl).1 (g5 rfl).2 (hrest (by unfold marksB; rw [(g4 rfl).1,(g4 rfl).2]; simp) (by unfold pairB; rw [g6 rfl,k]; rfl) (.inr (g3 rfl).2))
  ·obtain ⟨_,g2,_,g4,g5,g6⟩:=okInv e false false true false false (by rw [k]; exact b2) o.want
   exact memBack n e he hn o (by omega) (by rw [k]; rfl) (.inr (g2 rfl)) (.inl (by rw [k]; rfl)) (g5 rfl).1 (g5 rfl).2 (hrest (by unfold marksB; rw [(g4 rfl).1,(g4 rfl).2]; simp) (by unfold pairB; rw [g6 rfl,k]; rfl) (.inl (by rw [k]; rfl)))
  ·obtain ⟨_,_,g3,_,g5,g6⟩:=okInv e false true false true false (by rw [k]; exact b5) o.want
   exact memBack n e he hn o (by omega) (by rw [k]; rfl) (.inl (by rw [k]; rfl)) (.inr (g3 rfl).1) (g5 rfl).1 (g5 rfl).2 (hrest (by unfold marksB; rw [k]; rfl) (by unfold pairB; rw [g6 rfl,k]; rfl) (.inr (g3 rfl).2))
  ·obtain ⟨_,g2,_,_,g5,_⟩:=okInv e false false true true true (by rw [k]; exact b14) o.want
   have hp:=o.pair k
   exact memBack n e he hn o (by omega) (by rw [k]; rfl) (.inr (g2 rfl)) (.inl (by rw [k]; rfl)) (g5 rfl).1 (g5 rfl).2 (hrest (by unfold marksB; rw [k]; rfl) (by unfold pairB; rw [decide_eq_true k,decide_eq_true hp.1,decide_eq_true hp.2]; rfl) (.inl (by rw [k]; rfl)))
  ·obtain ⟨_,_,_,_,g5,g6⟩:=okInv e false true true true false (by rw [k]; exact b7) o.want
   exact memBack n e he hn o (by omega) (by rw [k]; rfl) (.inl (by rw [k]; rfl)) (.inl (by rw [k]; rfl)) (g5 rfl).1 (g5 rfl).2 (hrest (by unfold marksB; rw [k]; rfl) (by unfold pairB; rw [g6 rfl,k]; rfl) (.inl (by rw [k]; rfl)))
  ·obtain ⟨g1,g2,g3,g4,_,g6⟩:=okInv e true false false false false (by rw [k]; exact b16) o.want
   unfold ref_Check2
   simp only [Option.bind_some,rc1_]
   refine T.ite (fun _=>?_) (fun d=>absurd o.hart.1 (of_decide_eq_false d))
   refine T.ite (fun _=>?_) (fun d=>absurd o.hart.2 (of_decide_eq_false d))
   refine T.ite (fun _=>?_) (fun d=>by rw [k] at d; simp at d)
   refine T.ite (fun _=>?_) (fun d=>absurd o.at_ (of_decide_eq_false d))
   refine T.ite (fun _=>?_) (fun d=>by rw [(g1 rfl).1] at d; simp at d)
   refine T.ite (fun _=>?_) (fun d=>by rw [g2 rfl] at d; simp at d)
   refine T.ite (fun _=>?_) (fun d=>by rw [(g3 rfl).1] at d; simp at d)
   refine T.ite (fun _=>?_) (fun d=>by rw [(g4 rfl).1] at d; simp at d)
   refine T.ite (fun _=>?_) (fun d=>by rw [(g4 rfl).2] at d; simp at d)
   refine T.ite (fun _=>?_) (fun d=>by rw [g6 rfl] at d; simp at d)
   refine T.ite (fun _=>?_) (fun d=>?_)
   ·refine T.ite (fun _=>?_) (fun d=>absurd o.pred.1 (of_decide_eq_false d))
    refine T.ite (fun _=>?_) (fun d=>absurd o.pred.2 (of_decide_eq_false d))
    refine T.ite (fun _=>?_) (fun d=>absurd o.succ.1 (of_decide_eq_false d))
    refine T.ret ?_
    rw [decide_eq_true o.succ.2]
    rfl
   ·rw [(g1 rfl).2.1,(g1 rfl).2.2,(g3 rfl).2] at d
    exact absurd d (by decide)
  ·exact absurd k (memV e h)
 obtain ⟨r,h1,h2⟩:=key
 rw [h1,h2]

/-! ### Rows -/
theorem evRowF_ (n:Nat) (h:Int) (l:List Event) (hl:smalls l) (hn:200≤n):T (event_Row n h l) (fun r=>r=0→rowP h l):=by
 have hll:=hl.1
 unfold event_Row
 refine T.bind (P:=fun (r:Unit⊕Unit)=>match r with | .inl _=>rowP h l | .inr _=>True) ?_ (fun r hr=>by
  cases r with
  | inl _=>exact T.ret (fun _=>hr)
  | inr _=>exact T.ret (fun h=>by simp at h))
 refine T.loop l.length (fun i s=>s.1=(i:Int)∧(∀ (k:Nat) (_:k<i) (hk:k<l.length),evP h l k hk) ∧
  (s.2=-1∨∃ p:Nat,∃ hp:p<l.length,p<i∧s.2=(p:Int)∧l[p].Kind=3∧∀ j:Nat,p<j→j<i→∀ hj:j<l.length,l[j].Kind≠3∧l[j].Kind≠4)) _ ?_ ⟨rfl,fun k hk=>by omega,.inl rfl⟩ (by omega)
 rintro i ⟨s1,s2⟩ hi ⟨e1,hq,ho⟩
 dsimp only at e1 ho
 subst e1
 unfold event_Row_L1
 refine T.ite (fun c=>?_) (fun c=>T.fin (fun k hk=>hq k (by have:=ge_of c; omega) hk))
 have hil:i<l.length:=lt_of c
 refine T.get i rfl hil ?_
 refine T.eqb (check_ n l[i] (hl.2 _ (List.getElem_mem hil)) (by omega)) ?_
 refine T.ite (fun _=>T.ret trivial) (fun d=>?_)
 have ok:okE l[i]=true:=by
  cases h:okE l[i] with
  | true=>rfl
  | false=>rw [h] at d; simp at d
 refine T.ite (fun _=>T.ret trivial) (fun c2=>?_)
 have hh:l[i].Hart=h:=by simpa using c2
 refine T.ite (fun _=>T.ret trivial) (fun c3=>?_)
 have ha:l[i].At=(i:Int):=by simpa using c3
 have ev:(l[i].Kind=4→pairP l i hil)→∀ (k:Nat) (_:k<i + 1) (hk:k<l.length),evP h l k hk:=fun hp k hk hkl=>by
  by_cases e:k=i
  ·subst e; exact ⟨ok,hh,ha,hp⟩
  ·exact hq k (by omega) hkl
 refine T.ite (fun c3=>?_) (fun c3=>?_)
 ·have k3:l[i].Kind=3:=by simpa using c3
  exact T.ret ⟨hil,addN1 _ (by omega),ev (fun h=>by omega),.inr ⟨i,hil,by omega,rfl,k3,fun j h1 h2=>by omega⟩⟩
 have k3:l[i].Kind≠3:=by simpa using c3
 refine T.ite (fun c4=>?_) (fun c4=>?_)
 ·have k4:l[i].Kind=4:=by simpa using c4
  have hp:=(okf _ ok).pair k4
  refine T.ite (fun _=>T.ret trivial) (fun c5=>?_)
  have c5:l[i].Pair=s2:=by simpa using c5
  rcases ho with ho | ⟨p,hpl,hpi,ho,o3,o4⟩
  ·omega
  subst ho
  refine T.get p rfl hpl ?_
  refine T.ite (fun _=>T.ret trivial) (fun c6=>?_)
  have c6:l[p].Addr=l[i].Addr:=by simpa using c6
  exact T.ret ⟨hil,addN1 _ (by omega),ev (fun _=>⟨p,hpi,c5,o3,c6,fun j h1 h2=>o4 j h1 h2 (by omega)⟩),.inl rfl⟩
 ·have k4:l[i].Kind≠4:=by simpa using c4
  refine T.ret ⟨hil,addN1 _ (by omega),ev (fun h=>absurd h k4),?_⟩
  rcases ho with ho | ⟨p,hpl,hpi,ho,o3,o4⟩
  ·exact .inl ho
  ·refine .inr ⟨p,hpl,by omega,ho,o3,fun j h1 h2 hj=>?_⟩
   by_cases e:j=i
   ·subst e; exact ⟨k3,k4⟩
   ·exact o4 j h1 (by omega) hj
theorem refRowB_ (n:Nat) (h:Int) (l:List Event) (hl:smalls l) (hn:200≤n) (hr:rowP h l):ref_Row n h l=some 0:=by
 have hll:=hl.1
 have:T (ref_Row n h l) (fun r=>r=0):=by
  unfold ref_Row
  refine T.bind (P:=fun (r:Unit⊕Unit)=>match r with | .inl _=>True | .inr _=>False) ?_ (fun r hr=>by
   cases r with
   | inl _=>exact T.ret rfl
   | inr _=>exact hr.elim)
  refine T.loop l.length (fun i s=>s=(i:Int)) _ ?_ rfl (by omega)
  rintro i s hi rfl
  unfold ref_Row_L1
  refine T.ite (fun c=>?_) (fun c=>T.ret trivial)
  have hil:i<l.length:=lt_of c
  obtain ⟨ok,hh,ha,hp⟩:=hr i hil
  refine T.get i rfl hil ?_
  refine T.eqb (refBack_ n l[i] (hl.2 _ (List.getElem_mem hil)) (by omega) ok) ?_
  refine T.ite (fun c1=>by simp at c1) (fun _=>?_)
  refine T.ite (fun c1=>by simp [hh] at c1) (fun _=>?_)
  refine T.ite (fun c1=>by simp [ha] at c1) (fun _=>?_)
  refine T.ite (fun _=>T.ret ⟨hil,addN1 _ (by omega)⟩) (fun c4=>?_)
  have k4:l[i].Kind=4:=by simpa using c4
  obtain ⟨p,hpi,e1,e2,e3,e4⟩:=hp k4
  refine T.get p e1 (by omega) ?_
  refine T.ite (fun c5=>by simp [e2] at c5) (fun _=>?_)
  refine T.ite (fun c5=>by simp [e3] at c5) (fun _=>?_)
  rw [e1,addN1 _ (by omega)]
  refine T.bind (P:=fun (r:(Int×Bool×Int)⊕Unit)=>match r with | .inl w=>w.2.2=(i:Int) | .inr _=>False) ?_ (fun r hr=>by
   cases r with
   | inl w =>
    have hr:w.2.2=(i:Int):=hr
    exact T.ret ⟨hil,by rw [hr,addN1 _ (by omega)]⟩
   | inr _=>exact hr.elim)
  refine T.loop i (fun m s=>s.2.2.1=(i:Int)∧s.2.2.2=((p + 1 + m:Nat):Int)) _ ?_ ⟨rfl,rfl⟩ (by omega)
  rintro m ⟨s1,s2,s3,s4⟩ hm ⟨e3,e5⟩
  dsimp only at e3 e5
  subst e3 e5
  unfold ref_Row_L2
  refine T.ite (fun c=>?_) (fun c=>T.fin rfl)
  have hm2:p + 1 + m<i:=lt_of c
  have hk:=e4 (p + 1 + m) (by omega) hm2
  refine T.get (p + 1 + m) rfl (by omega) ?_
  refine T.ite (fun d=>absurd (eq_of_beq d) hk.1) (fun _=>?_)
  refine T.ite (fun d=>absurd (eq_of_beq d) hk.2) (fun _=>?_)
  exact T.ret ⟨by omega,rfl,addN1 _ (by omega)⟩
 obtain ⟨r,h1,h2⟩:=this
 rw [h1,h2]

/-! ### Orders -/
theorem orderedF_ (n:Nat) (c:Cand) (all:List Event) (hf:all.length≤60) (hor:c.Order.length≤60) (hn:200≤n):T (cand_ordered n c all) (fun b=>b=true →
  (∀ (i:Nat) (hi:i<c.Order.length),∃ j:Nat,∃ hj:j<all.length,c.Order[i]=(j:Int)∧memB all[j].Kind=true)∧(∀ (i j:Nat) (hi:i<c.Order.length) (hj:j<c.Order.length),i<j→c.Order[i]≠c.Order[j])∧c.Order.length=cnt all all.length):=by
 have hcl:=cnt_le all all.length
 unfold cand_ordered
 refine T.grd (by simp [Nat.blt]; omega) ?_
 refine T.bind (P:=fun t=>t.1.length=all.length∧(∀ (j:Nat) (hj:j<t.1.length) (hj2:j<all.length),t.1[j]=memB all[j].Kind)∧t.2=(cnt all all.length:Int)) ?_ ?_
 ·refine T.loop all.length (fun i s=>s.2.1=(i:Int)∧s.2.2=(cnt all i:Int)∧s.1.length=all.length∧(∀ (j:Nat) (hj:j<s.1.length) (hj2:j<all.length),s.1[j]=(decide (j<i)&&memB all[j].Kind))) _ ?_ ⟨rfl,rfl,by simp,by simp⟩ (by omega)
  rintro i ⟨s1,s2,s3⟩ hi ⟨e1,e2,e3,hq⟩
  dsimp only at e1 e2 e3 hq
  subst e1 e2
  unfold cand_ordered_L1
  refine T.ite (fun cd=>?_) (fun cd=>?_)
  ·have hil:=lt_of cd
   have hcs:=cnt_succ hil
   have hcl2:=cnt_le all i
   refine T.get i rfl hil ?_
   refine T.eqb (eMemory_ n _) ?_
   refine T.ite (fun c1=>?_) (fun c1=>?_)
   ·rw [if_pos c1] at hcs
    refine T.get i rfl (by dsimp only; omega) ?_
    refine T.ret ⟨hil,addN1 _ (by omega),by dsimp only; rw [addN1 _ (by omega),hcs],by dsimp only; rw [List.length_set]; exact e3,?_⟩
    dsimp only
    intro j hj hj2
    rw [setI rfl hj (by rw [List.length_set] at hj; exact hj)]
    by_cases e:i=j
    ·subst e
     rw [if_pos rfl,c1]
     simp
    ·rw [if_neg e,hq j (by rw [List.length_set] at hj; exact hj) hj2]
     have:decide (j<i + 1)=decide (j<i):=by simp; omega
     rw [this]
   ·rw [if_neg (by rw [c1]; exact Bool.false_ne_true)] at hcs
    refine T.ret ⟨hil,addN1 _ (by omega),by dsimp only; rw [hcs]; rfl,e3,?_⟩
    dsimp only
    intro j hj hj2
    rw [hq j hj hj2]
    by_cases e:i=j
    ·subst e
     rw [c1]
     simp
    ·have:decide (j<i + 1)=decide (j<i):=by simp; omega
     rw [this]
  ·have:=ge_of cd
   have e:i=all.length:=by omega
   subst e
   refine T.fin ⟨e3,fun j hj hj2=>?_,rfl⟩
   dsimp only
   rw [hq j hj hj2]
   simp [hj2]
 rintro ⟨t1,t2⟩ ⟨e1,e2,e3⟩
 dsimp only at e1 e2 e3
 subst e3
 refine T.bind (P:=fun (r:Int⊕Unit)=>match r with | .inl w=>w=(cnt all all.length:Int) - (c.Order.length:Int)∧(∀ (i:Nat) (hi:i<c.Order.length),∃ j:Nat,∃ hj:j<all.length,c.Order[i]=(j:Int)∧memB all[j].Kind=true)∧(∀ (i j:Nat) (hi:i<c.Order.length) (hj:j<c.Order.length),i<j→c.Order[i]≠c.Order[j]) | .inr _=>True) ?_ (fun r hr=>by
  cases r with
  | inl w =>
   obtain ⟨h1,h2,h3⟩:=hr
   exact T.ret (fun h=>⟨h2,h3,by have:=eq_of_beq h; omega⟩)
  | inr _=>exact T.ret (fun h=>by simp at h))
 refine T.loop c.Order.length (fun i s=>s.2.1=(i:Int)∧s.2.2=(cnt all all.length:Int) - (i:Int)∧s.1.length=all.length∧(∀ (j:Nat) (hj:j<s.1.length) (hj2:j<all.length),s.1[j]=true→memB all[j].Kind=true∧∀ (a:Nat) (_:a<i) (ha:a<c.Order.length),c.Order[a]≠(j:Int)) ∧
  (∀ (a:Nat) (_:a<i) (ha:a<c.Order.length),∃ j:Nat,∃ hj:j<all.length,c.Order[a]=(j:Int)∧memB all[j].Kind=true)∧(∀ (a b:Nat) (ha:a<c.Order.length) (hb:b<c.Order.length),a<b→b<i→c.Order[a]≠c.Order[b])) _ ?_ ⟨rfl,by simp,e1,fun j hj hj2 h=>⟨by rw [← e2 j hj hj2]; exact h,fun a h=>by omega⟩,fun a h=>by omega,fun a b _ _ _ h=>by omega⟩ (by omega)
 rintro i ⟨s1,s2,s3⟩ hi ⟨g1,g2,g3,hq,q2,q3⟩
 dsimp only at g1 g2 g3 hq
 subst g1 g2
 unfold cand_ordered_L2
 refine T.ite (fun cd=>?_) (fun cd=>?_)
 ·have hil:=lt_of cd
  refine T.get i rfl hil ?_
  dsimp only
  refine T.ite (fun _=>T.ret trivial) (fun d1=>?_)
  refine T.ite (fun _=>T.ret trivial) (fun d2=>?_)
  have d1:=of_decide_eq_false d1
  have d2:=of_decide_eq_false d2
  obtain ⟨j,hj⟩:∃ j:Nat,c.Order[i]=(j:Int):=⟨(c.Order[i]).toNat,by omega⟩
  have hjl:j<all.length:=by omega
  refine T.get j hj (by omega) ?_
  refine T.ite (fun _=>T.ret trivial) (fun d3=>?_)
  obtain ⟨hm,hne⟩:=hq j (by omega) hjl (not_of d3)
  refine T.ret ⟨hil,addN1 _ (by omega),by dsimp only; rw [subI (by omega) (by omega)]; omega,by dsimp only; rw [List.length_set]; exact g3,?_,?_,?_⟩
  ·dsimp only
   intro k hk hk2 ht
   rw [setI hj hk (by rw [List.length_set] at hk; exact hk)] at ht
   by_cases e:j=k
   ·rw [if_pos e] at ht; simp at ht
   ·rw [if_neg e] at ht
    obtain ⟨h1,h2⟩:=hq k (by rw [List.length_set] at hk; exact hk) hk2 ht
    refine ⟨h1,fun a ha hal=>?_⟩
    by_cases e2:a=i
    ·subst e2; rw [hj]; omega
    ·exact h2 a (by omega) hal
  ·intro a ha hal
   by_cases e:a=i
   ·subst e; exact ⟨j,hjl,hj,hm⟩
   ·exact q2 a (by omega) hal
  ·intro a b ha hb hab hbi
   by_cases e:b=i
   ·subst e
    rw [hj]
    exact hne a hab ha
   ·exact q3 a b ha hb hab (by omega)
 ·have:=ge_of cd
  have e:i=c.Order.length:=by omega
  subst e
  exact T.fin ⟨rfl,fun a ha=>q2 a ha ha,fun a b ha hb h=>q3 a b ha hb h hb⟩

/-! ### Candidates -/
theorem candF_ (n:Nat) (c:Cand) (hc:Light c) (hn:200≤n):T (cand_Check n c) (fun r=>r=0→RefOK n c):=by
 have hh:=hc.harts
 have hf:=hc.all
 have hfi:=hc.first
 have hfr:=hc.from_
 have hor:=hc.order
 unfold cand_Check
 rw [cells_same]
 obtain ⟨b,hb1,hb2⟩:=refCells_ n c.First (by omega) hn
 refine T.eqb hb1 ?_
 refine T.ite (fun _=>T.ret (fun h=>by simp at h)) (fun c1=>?_)
 have cb:=not_of c1
 subst cb
 have hcells:=hb2 rfl
 refine T.ite (fun _=>T.ret (fun h=>by simp at h)) (fun c2=>?_)
 refine T.ite (fun _=>T.ret (fun h=>by simp at h)) (fun c3=>?_)
 have c2:=of_decide_eq_false c2
 have c3:=of_decide_eq_false c3
 refine T.bind (P:=fun (r:Int⊕Unit)=>match r with | .inl w=>w=(c.Harts.flatten.length:Int)∧∀ (k:Nat) (hk:k<c.Harts.length),rowP (k:Int) c.Harts[k] | .inr _=>True) ?_ ?_
 ·refine T.loop c.Harts.length (fun i s=>s=((i:Int),((FL c.Harts i).length:Int))∧∀ (k:Nat) (_:k<i) (hk:k<c.Harts.length),rowP (k:Int) c.Harts[k]) _ ?_ ⟨rfl,fun k h=>by omega⟩ (by omega)
  rintro i s hi ⟨rfl,hq⟩
  unfold cand_Check_L1
  refine T.ite (fun cd=>?_) (fun cd=>T.fin ⟨by dsimp only; rw [FL_all _ (ge_of cd)],fun k hk=>hq k (by have:=ge_of cd; omega) hk⟩)
  have hil:=lt_of cd
  have hr:=FL_row hil
  refine T.get i rfl hil ?_
  dsimp only
  rw [addN _ _ (by omega)]
  refine T.ite (fun _=>T.ret trivial) (fun _=>?_)
  refine T.bind (evRowF_ n (i:Int) c.Harts[i] (hc.rows _ (List.getElem_mem hil)) hn) (fun r hr=>?_)
  refine T.ite (fun _=>T.ret trivial) (fun c4=>?_)
  have hrow:=hr (ne_of c4)
  refine T.ret ⟨hil,?_,fun k hk hkl=>?_⟩
  ·rw [addN1 _ (by omega),FL_succ hil,List.length_append]
  ·by_cases e:k=i
   ·subst e; exact hrow
   ·exact hq k (by omega) hkl
 intro r hr
 cases r with
 | inr _=>exact T.ret (fun h=>by simp at h)
 | inl w =>
 obtain ⟨rfl,hrows⟩:=hr
 dsimp only
 refine T.eqb (cflat_ n c hc hn) ?_
 refine T.ite (fun _=>T.ret (fun h=>by simp at h)) (fun c4=>?_)
 have hlen:c.From.length=c.Harts.flatten.length:=by have:=ne_of c4; omega
 refine T.bind (P:=fun (r:Unit⊕Unit)=>match r with | .inl _=>∀ k:Nat,k<c.Harts.flatten.length→ref_from n c c.Harts.flatten (k:Int)=some true | .inr _=>True) ?_ ?_
 ·refine T.loop c.Harts.flatten.length (fun i s=>s=(i:Int)∧∀ k:Nat,k<i→ref_from n c c.Harts.flatten (k:Int)=some true) _ ?_ ⟨rfl,fun k h=>by omega⟩ (by omega)
  rintro i s hi ⟨rfl,hq⟩
  unfold cand_Check_L2
  refine T.ite (fun cd=>?_) (fun cd=>T.fin (fun k hk=>hq k (by have:=ge_of cd; omega)))
  have hil:=lt_of cd
  rw [from_same n c _ _ hcells (by omega) hn]
  refine T.bind (from_T n c c.Harts.flatten i (by omega) hn hil (by omega)) (fun r hr=>?_)
  refine T.ite (fun _=>T.ret trivial) (fun c5=>?_)
  rw [not_of c5] at hr
  refine T.ret ⟨hil,addN1 _ (by omega),fun k hk=>?_⟩
  by_cases e:k=i
  ·subst e; exact hr
  ·exact hq k (by omega)
 intro r hr
 cases r with
 | inr _=>exact T.ret (fun h=>by simp at h)
 | inl w =>
 have hfroms:∀ k:Nat,k<c.Harts.flatten.length→ref_from n c c.Harts.flatten (k:Int)=some true:=hr
 refine T.bind (orderedF_ n c c.Harts.flatten hf hor hn) (fun b hb=>?_)
 refine T.ite (fun _=>T.ret (fun h=>by simp at h)) (fun c5=>?_)
 obtain ⟨o1,o2,o3⟩:=hb (not_of c5)
 exact T.ret (fun _=>⟨by omega,by omega,hcells,hb1,hrows,hlen,hfroms,o1,o2,o3⟩)
theorem refB_ (n:Nat) (c:Cand) (hc:Light c) (hn:200≤n) (h:RefOK n c):ref_Check n c=some 0:=by
 have hh:=hc.harts
 have hf:=hc.all
 have hfi:=hc.first
 have hfr:=hc.from_
 have hor:=hc.order
 have g1:=h.h1
 have g8:=h.h8
 have key:T (ref_Check n c) (fun r=>r=0):=by
  unfold ref_Check
  refine T.eqb h.cellsB ?_
  refine T.ite (fun d=>by simp at d) (fun _=>?_)
  refine T.ite (fun d=>absurd (of_decide_eq_true d) (by omega)) (fun _=>?_)
  refine T.ite (fun d=>absurd (of_decide_eq_true d) (by omega)) (fun _=>?_)
  refine T.bind (P:=fun (r:Int⊕Unit)=>match r with | .inl w=>w=(c.Harts.flatten.length:Int) | .inr _=>False) ?_ ?_
  ·refine T.loop c.Harts.length (fun i s=>s=(((FL c.Harts i).length:Int),(i:Int))) _ ?_ rfl (by omega)
   rintro i s hi rfl
   unfold ref_Check_L1
   refine T.ite (fun cd=>?_) (fun cd=>T.fin (by dsimp only; rw [FL_all _ (ge_of cd)]))
   have hil:=lt_of cd
   have hr:=FL_row hil
   refine T.get i rfl hil ?_
   dsimp only
   rw [addN _ _ (by omega)]
   refine T.ite (fun d=>absurd (of_decide_eq_true d) (by omega)) (fun _=>?_)
   refine T.eqb (refRowB_ n (i:Int) c.Harts[i] (hc.rows _ (List.getElem_mem hil)) hn (h.rows i hil)) ?_
   refine T.ite (fun d=>by simp at d) (fun _=>?_)
   exact T.ret ⟨hil,by rw [addN1 _ (by omega),FL_succ hil,List.length_append]⟩
  intro r hr
  cases r with
  | inr _=>exact hr.elim
  | inl w =>
  have hr:w=(c.Harts.flatten.length:Int):=hr
  subst hr
  dsimp only
  refine T.eqb (flat_ n c hc hn) ?_
  have hlen:=h.fromLen
  have hfroms:=h.froms
  have o1:=h.ord
  have o2:=h.dist
  have o3:=h.count
  generalize hall:c.Harts.flatten=all at *
  refine T.ite (fun d=>by simp [hlen] at d) (fun _=>?_)
  refine T.bind (P:=fun (r:Int⊕Unit)=>match r with | .inl w=>w=(cnt all all.length:Int) | .inr _=>False) ?_ ?_
  ·refine T.loop all.length (fun i s=>s=((cnt all i:Int),(i:Int))) _ ?_ rfl (by omega)
   rintro i s hi rfl
   unfold ref_Check_L2
   refine T.ite (fun cd=>?_) (fun cd=>T.fin ?_)
   ·have hil:=lt_of cd
    refine T.eqb (hfroms i hil) ?_
    refine T.ite (fun d=>by simp at d) (fun _=>?_)
    refine T.get i rfl hil ?_
    refine T.eqb (refMem_ n _) ?_
    have hcs:=cnt_succ hil
    have hcl:=cnt_le all i
    refine T.ite (fun c6=>?_) (fun c6=>?_)
    ·rw [if_pos c6] at hcs
     exact T.ret ⟨hil,by dsimp only; rw [addN1 _ (by omega),addN1 _ (by omega),hcs]⟩
    ·rw [if_neg (by rw [c6]; exact Bool.false_ne_true)] at hcs
     exact T.ret ⟨hil,by dsimp only; rw [addN1 _ (by omega),hcs]; rfl⟩
   ·have:=ge_of cd
    have e:i=all.length:=by omega
    subst e
    rfl
  intro r hr
  cases r with
  | inr _=>exact hr.elim
  | inl w =>
  have hr:w=(cnt all all.length:Int):=hr
  subst hr
  dsimp only
  refine T.grd (by simp [Nat.blt]; omega) ?_
  refine T.bind (P:=fun (r:Unit⊕Unit)=>match r with | .inl w=>True | .inr _=>False) ?_ ?_
  ·refine T.loop c.Order.length (fun i s=>s.2=(i:Int)∧s.1.length=all.length∧(∀ (j:Nat) (hj:j<s.1.length),s.1[j]=true→∃ a:Nat,∃ ha:a<c.Order.length,a<i∧c.Order[a]=(j:Int))) _ ?_ ⟨rfl,by simp,fun j hj h=>by simp at h⟩ (by omega)
   rintro i ⟨s1,s2⟩ hi ⟨e1,e2,q1⟩
   dsimp only at e1 e2 q1
   subst e1
   unfold ref_Check_L3
   refine T.ite (fun cd=>?_) (fun cd=>T.fin trivial)
   have hil:=lt_of cd
   obtain ⟨j,hjl,hj,hm⟩:=o1 i hil
   refine T.get i rfl hil ?_
   dsimp only
   refine T.ite (fun d=>absurd (of_decide_eq_true d) (by omega)) (fun _=>?_)
   refine T.ite (fun d=>absurd (of_decide_eq_true d) (by omega)) (fun _=>?_)
   refine T.get j hj (by omega) ?_
   refine T.ite (fun d=>?_) (fun _=>?_)
   ·obtain ⟨a,ha,hai,h5⟩:=q1 j (by omega) d
    exact absurd (by rw [h5,hj]) (o2 a i ha hil hai)
   refine T.get j hj hjl ?_
   refine T.eqb (refMem_ n _) ?_
   refine T.ite (fun d=>by rw [hm] at d; simp at d) (fun _=>?_)
   refine T.ret ⟨hil,addN1 _ (by omega),by dsimp only; rw [List.length_set]; exact e2,?_⟩
   dsimp only
   intro k hk ht
   rw [setI hj hk (by rw [List.length_set] at hk; exact hk)] at ht
   by_cases e:j=k
   ·subst e
    exact ⟨i,hil,by omega,hj⟩
   ·rw [if_neg e] at ht
    obtain ⟨a,ha,hai,h5⟩:=q1 k (by rw [List.length_set] at hk; exact hk) ht
    exact ⟨a,ha,by omega,h5⟩
  intro r hr
  cases r with
  | inr _=>exact hr.elim
  | inl w =>
  refine T.ite (fun d=>by rw [o3] at d; simp at d) (fun _=>T.ret rfl)
 obtain ⟨r,h1,h2⟩:=key
 rw [h1,h2]
/-- Both take it, or neither. -/
theorem checks_ (n:Nat) (c:Cand) (hc:Light c) (hn:200≤n):RefOK n c∨((∃ r,ref_Check n c=some r∧r≠0)∧∃ s,cand_Check n c=some s∧s≠0):=by
 obtain ⟨r,h1,h2⟩:=refCheck_ n c hc hn
 obtain ⟨s,h3,h4⟩:=candF_ n c hc hn
 by_cases hr:r=0
 ·exact .inl (h2 hr)
 ·by_cases hs:s=0
  ·exact .inl (h4 hs)
  ·exact .inr ⟨⟨r,h1,hr⟩,s,h3,hs⟩
end Go.Proofs.YtigcbjbaibcgfaaGreat
