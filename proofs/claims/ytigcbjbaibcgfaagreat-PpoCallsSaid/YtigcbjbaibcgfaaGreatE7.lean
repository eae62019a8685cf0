/- A candidate that the document takes, the program takes. Plain lists, no program in sight. -/
import Derived.Test.YtigcbjbaibcgfaaGreatE6
namespace Go.Proofs.YtigcbjbaibcgfaaGreat
open Go A

theorem setI {α:Type} {l:List α} {i:Int} {j k:Nat} {b:α} (hi:i=(j:Int)) (hk:k<(l.set i.toNat b).length) (hk2:k<l.length):(l.set i.toNat b)[k]=if j=k then b else l[k]:=by
 subst hi
 simp only [Int.toNat_natCast]
 rw [List.getElem_set]
def cnt (l:List Event) (i:Nat):Nat:=(l.take i).countP (fun e=>memB e.Kind)
theorem cnt_succ {l:List Event} {i:Nat} (h:i<l.length):cnt l (i + 1)=cnt l i + if memB l[i].Kind=true then 1 else 0:=by
 unfold cnt
 rw [List.take_succ_eq_append_getElem h,List.countP_append]
 simp [List.countP_cons]
theorem cnt_le (l:List Event) (i:Nat):cnt l i≤l.length:=by
 unfold cnt
 exact Nat.le_trans List.countP_le_length (by simp; omega)
structure RefOK (n:Nat) (c:Cand):Prop where
 h1:1≤c.Harts.length
 h8:c.Harts.length≤8
 cells:cellsP c.First
 cellsB:ref_Cells n c.First=some true
 rows:∀ (k:Nat) (hk:k<c.Harts.length),rowP (k:Int) c.Harts[k]
 fromLen:c.From.length=c.Harts.flatten.length
 froms:∀ k:Nat,k<c.Harts.flatten.length→ref_from n c c.Harts.flatten (k:Int)=some true
 ord:∀ (i:Nat) (hi:i<c.Order.length),∃ j:Nat,∃ hj:j<c.Harts.flatten.length,c.Order[i]=(j:Int)∧memB c.Harts.flatten[j].Kind=true
 dist:∀ (i j:Nat) (hi:i<c.Order.length) (hj:j<c.Order.length),i<j→c.Order[i]≠c.Order[j]
 count:c.Order.length=cnt c.Harts.flatten c.Harts.flatten.length

theorem refMem_ (n:Nat) (e:Event):ref_Memory n e=some (memB e.Kind):=memory_ n e
theorem from_T (n:Nat) (c:Cand) (all:List Event) (k:Nat) (hf:c.First.length≤100) (hn:200≤n) (h1:k<all.length) (h2:k<c.From.length):T (ref_from n c all (k:Int)) (fun b=>ref_from n c all (k:Int)=some b):=by
 have:T (ref_from n c all (k:Int)) (fun _=>True):=by
  unfold ref_from
  refine T.get k rfl h1 ?_
  refine T.get k rfl h2 ?_
  refine T.eqb (reads_ _ _) ?_
  refine T.ite (fun _=>T.ret trivial) (fun _=>?_)
  refine T.ite (fun _=>?_) (fun _=>?_)
  ·exact T.bind (first_ n _ _ hf hn) (fun _ _=>T.ret trivial)
  refine T.ite (fun _=>T.ret trivial) (fun d1=>?_)
  refine T.ite (fun _=>T.ret trivial) (fun d2=>?_)
  refine T.ite (fun _=>T.ret trivial) (fun _=>?_)
  have d1:=of_decide_eq_false d1
  have d2:=of_decide_eq_false d2
  refine T.get (c.From[k]).toNat (by omega) (by omega) ?_
  refine T.eqb (writes_ _ _) ?_
  refine T.ite (fun _=>?_) (fun _=>T.ret trivial)
  exact T.ite (fun _=>T.ret trivial) (fun _=>T.ret trivial)
 obtain ⟨r,h,_⟩:=this
 exact ⟨r,h,h⟩
theorem not_of {b:Bool} (h:(!b)=false):b=true:=by cases b <;> simp_all
theorem ne_of {a b:Int} (h:(a != b)=false):a=b:=by simpa using h
theorem refCheck_ (n:Nat) (c:Cand) (hc:Light c) (hn:200≤n):T (ref_Check n c) (fun r=>r=0→RefOK n c):=by
 have hh:=hc.harts
 have hf:=hc.all
 have hfi:=hc.first
 have hfr:=hc.from_
 have hor:=hc.order
 unfold ref_Check
 obtain ⟨b,hb1,hb2⟩:=refCells_ n c.First (by omega) hn
 refine T.eqb hb1 ?_
 refine T.ite (fun _=>T.ret (fun h=>by simp at h)) (fun c1=>?_)
 have cb:=not_of c1
 subst cb
 have hcells:=hb2 rfl
 refine T.ite (fun _=>T.ret (fun h=>by simp at h)) (fun c2=>?_)
 refine T.ite (fun _=>T.ret (fun h=>by simp at h)) (fun c3=>?_)
 have c2:=of_decide_eq_false c2
 have c3:=of_decide_eq_false c3
 refine T.bind (P:=fun (r:Int⊕Unit)=>match r with | .inl w=>w=(c.Harts.flatten.length:Int)∧∀ (k:Nat) (hk:k<c.Harts.length),rowP (k:Int) c.Harts[k] | .inr _=>True) ?_ ?_
 ·refine T.loop c.Harts.length (fun i s=>s=(((FL c.Harts i).length:Int),(i:Int))∧∀ (k:Nat) (_:k<i) (hk:k<c.Harts.length),rowP (k:Int) c.Harts[k]) _ ?_ ⟨rfl,fun k h=>by omega⟩ (by omega)
  rintro i s hi ⟨rfl,hq⟩
  unfold ref_Check_L1
  refine T.ite (fun cd=>?_) (fun cd=>T.fin ⟨by dsimp only; rw [FL_all _ (ge_of cd)],fun k hk=>hq k (by have:=ge_of cd; omega) hk⟩)
  have hil:=lt_of cd
  have hr:=FL_row hil
  refine T.get i rfl hil ?_
  dsimp only
  rw [addN _ _ (by omega)]
  refine T.ite (fun _=>T.ret trivial) (fun _=>?_)
  refine T.bind (refRow_ n (i:Int) c.Harts[i] (hc.rows _ (List.getElem_mem hil)) hn) (fun r hr=>?_)
  refine T.ite (fun _=>T.ret trivial) (fun c4=>?_)
  have hrow:=hr (ne_of c4)
  refine T.ret ⟨hil,?_,fun k hk hkl=>?_⟩
  ·rw [addN1 _ (by omega),FL_succ hil,List.length_append]
  ·by_cases e:k=i
   ·subst e; exact hrow
   ·exact hq k (by omega) hkl
 intro r hr
 cases r with
 | inr _=>exact T.ret (fun h=>by simp at h)
 | inl w =>
 obtain ⟨rfl,hrows⟩:=hr
 dsimp only
 refine T.eqb (flat_ n c hc hn) ?_
 refine T.ite (fun _=>T.ret (fun h=>by simp at h)) (fun c4=>?_)
 have hlen:c.From.length=c.Harts.flatten.length:=by have:=ne_of c4; omega
 generalize hall:c.Harts.flatten=all at *
 refine T.bind (P:=fun (r:Int⊕Unit)=>match r with | .inl w=>w=(cnt all all.length:Int)∧∀ k:Nat,k<all.length→ref_from n c all (k:Int)=some true | .inr _=>True) ?_ ?_
 ·refine T.loop all.length (fun i s=>s=((cnt all i:Int),(i:Int))∧∀ k:Nat,k<i→ref_from n c all (k:Int)=some true) _ ?_ ⟨rfl,fun k h=>by omega⟩ (by omega)
  rintro i s hi ⟨rfl,hq⟩
  unfold ref_Check_L2
  refine T.ite (fun cd=>?_) (fun cd=>T.fin ?_)
  ·have hil:=lt_of cd
   refine T.bind (from_T n c all i (by omega) hn hil (by omega)) (fun r hr=>?_)
   refine T.ite (fun _=>T.ret trivial) (fun c5=>?_)
   rw [not_of c5] at hr
   refine T.get i rfl hil ?_
   refine T.eqb (refMem_ n _) ?_
   have hcs:=cnt_succ hil
   have hcl:=cnt_le all i
   have hq':∀ k:Nat,k<i + 1→ref_from n c all (k:Int)=some true:=fun k hk=>by
    by_cases e:k=i
    ·subst e; exact hr
    ·exact hq k (by omega)
   refine T.ite (fun c6=>?_) (fun c6=>?_)
   ·rw [if_pos c6] at hcs
    exact T.ret ⟨hil,by dsimp only; rw [addN1 _ (by omega),addN1 _ (by omega),hcs],hq'⟩
   ·rw [if_neg (by rw [c6]; exact Bool.false_ne_true)] at hcs
    exact T.ret ⟨hil,by dsimp only; rw [addN1 _ (by omega),hcs]; rfl,hq'⟩
  ·have:=ge_of cd
   have e:i=all.length:=by omega
   subst e
   exact ⟨rfl,hq⟩
 intro r hr
 cases r with
 | inr _=>exact T.ret (fun h=>by simp at h)
 | inl w =>
 obtain ⟨rfl,hfroms⟩:=hr
 dsimp only
 refine T.grd (by simp [Nat.blt]; omega) ?_
 refine T.bind (P:=fun (r:Unit⊕Unit)=>match r with | .inl w=>(∀ (i:Nat) (hi:i<c.Order.length),∃ j:Nat,∃ hj:j<all.length,c.Order[i]=(j:Int)∧memB all[j].Kind=true)∧(∀ (i j:Nat) (hi:i<c.Order.length) (hj:j<c.Order.length),i<j→c.Order[i]≠c.Order[j]) | .inr _=>True) ?_ ?_
 ·refine T.loop c.Order.length (fun i s=>s.2=(i:Int)∧s.1.length=all.length∧(∀ (a:Nat) (_:a<i) (hj:a<c.Order.length) (j:Nat) (hj:j<s.1.length),c.Order[a]=(j:Int)→s.1[j]=true)∧(∀ (a:Nat) (_:a<i) (ha:a<c.Order.length),∃ j:Nat,∃ hj:j<all.length,c.Order[a]=(j:Int)∧memB all[j].Kind=true)∧(∀ (a b:Nat) (ha:a<c.Order.length) (hb:b<c.Order.length),a<b→b<i→c.Order[a]≠c.Order[b])) _ ?_ ⟨rfl,by simp,fun a h=>by omega,fun a h=>by omega,fun a b _ _ _ h=>by omega⟩ (by omega)
  rintro i ⟨s1,s2⟩ hi ⟨e1,e2,q1,q2,q3⟩
  dsimp only at e1 e2 q1
  subst e1
  unfold ref_Check_L3
  refine T.ite (fun cd=>?_) (fun cd=>?_)
  ·have hil:=lt_of cd
   refine T.get i rfl hil ?_
   refine T.ite (fun _=>T.ret trivial) (fun d1=>?_)
   refine T.ite (fun _=>T.ret trivial) (fun d2=>?_)
   have d1:=of_decide_eq_false d1
   have d2:=of_decide_eq_false d2
   obtain ⟨j,hj⟩:∃ j:Nat,c.Order[i]=(j:Int):=⟨(c.Order[i]).toNat,by omega⟩
   have hjl:j<all.length:=by omega
   refine T.get j hj (by dsimp only; omega) ?_
   refine T.ite (fun _=>T.ret trivial) (fun d3=>?_)
   dsimp only at d3
   refine T.get j hj hjl ?_
   refine T.eqb (refMem_ n _) ?_
   refine T.ite (fun _=>T.ret trivial) (fun d4=>?_)
   have d4:=not_of d4
   refine T.ret ⟨hil,addN1 _ (by omega),?_,?_,?_,?_⟩
   ·dsimp only
    rw [List.length_set]
    exact e2
   ·dsimp only
    intro a ha hal k hk hk2
    rw [setI hj hk (by rw [List.length_set] at hk; exact hk)]
    by_cases e:j=k
    ·rw [if_pos e]
    ·rw [if_neg e]
     have:a≠i:=by rintro rfl; rw [hj] at hk2; omega
     exact q1 a (by omega) hal k (by rw [List.length_set] at hk; exact hk) hk2
   ·intro a ha hal
    by_cases e:a=i
    ·subst e; exact ⟨j,hjl,hj,d4⟩
    ·exact q2 a (by omega) hal
   ·intro a b ha hb hab hbi
    by_cases e:b=i
    ·subst e
     rw [hj]
     intro h
     have:=q1 a hab ha j (by omega) h
     rw [this] at d3
     simp at d3
    ·exact q3 a b ha hb hab (by omega)
  ·have:=ge_of cd
   exact T.fin ⟨fun a ha=>q2 a (by omega) ha,fun a b ha hb h=>q3 a b ha hb h (by omega)⟩
 intro r hr
 cases r with
 | inr _=>exact T.ret (fun h=>by simp at h)
 | inl w =>
 obtain ⟨o1,o2⟩:=hr
 refine T.ite (fun _=>T.ret (fun h=>by simp at h)) (fun c5=>?_)
 have c5:=ne_of c5
 refine T.ret (fun _=>⟨by omega,by omega,hcells,hb1,hrows,by rw [hall]; exact hlen,by rw [hall]; exact hfroms,by rw [hall]; exact o1,o2,by rw [hall]; omega⟩)

theorem ordered_ (n:Nat) (c:Cand) (hc:Light c) (hn:200≤n) (h:RefOK n c):cand_ordered n c c.Harts.flatten=some true:=by
 have hf:=hc.all
 have hor:=hc.order
 obtain ⟨_,_,_,_,_,_,_,o1,o2,o3⟩:=h
 have key:T (cand_ordered n c c.Harts.flatten) (fun b=>b=true):=by
  generalize hall:c.Harts.flatten=all at *
  have hcl:=cnt_le all all.length
  unfold cand_ordered
  refine T.grd (by simp [Nat.blt]; omega) ?_
  refine T.bind (P:=fun t=>t.1.length=all.length∧(∀ (j:Nat) (hj:j<t.1.length) (hj2:j<all.length),t.1[j]=memB all[j].Kind)∧t.2=(cnt all all.length:Int)) ?_ ?_
  ·refine T.loop all.length (fun i s=>s.2.1=(i:Int)∧s.2.2=(cnt all i:Int)∧s.1.length=all.length∧(∀ (j:Nat) (hj:j<s.1.length) (hj2:j<all.length),s.1[j]=(decide (j<i)&&memB all[j].Kind))) _ ?_ ⟨rfl,rfl,by simp,by simp⟩ (by omega)
   rintro i ⟨s1,s2,s3⟩ hi ⟨e1,e2,e3,hq⟩
   dsimp only at e1 e2 e3 hq
   subst e1 e2
   unfold cand_ordered_L1
   refine T.ite (fun cd=>?_) (fun cd=>?_)
   ·have hil:=lt_of cd
    have hcs:=cnt_succ hil
    have hcl2:=cnt_le all i
    refine T.get i rfl hil ?_
    refine T.eqb (eMemory_ n _) ?_
    refine T.ite (fun c1=>?_) (fun c1=>?_)
    ·rw [if_pos c1] at hcs
     refine T.get i rfl (by dsimp only; omega) ?_
     refine T.ret ⟨hil,addN1 _ (by omega),by dsimp only; rw [addN1 _ (by omega),hcs],by dsimp only; rw [List.length_set]; exact e3,?_⟩
     dsimp only
     intro j hj hj2
     rw [setI rfl hj (by rw [List.length_set] at hj; exact hj)]
     by_cases e:i=j
     ·subst e
      rw [if_pos rfl,c1]
      simp
     ·rw [if_neg e,hq j (by rw [List.length_set] at hj; exact hj) hj2]
      have:decide (j<i + 1)=decide (j<i):=by simp; omega
      rw [this]
    ·rw [if_neg (by rw [c1]; exact Bool.false_ne_true)] at hcs
     refine T.ret ⟨hil,addN1 _ (by omega),by dsimp only; rw [hcs]; rfl,e3,?_⟩
     dsimp only
     intro j hj hj2
     rw [hq j hj hj2]
     by_cases e:i=j
     ·subst e
      rw [c1]
      simp
     ·have:decide (j<i + 1)=decide (j<i):=by simp; omega
      rw [this]
   ·have:=ge_of cd
    have e:i=all.length:=by omega
    subst e
    refine T.fin ⟨e3,fun j hj hj2=>?_,rfl⟩
    dsimp only
    rw [hq j hj hj2]
    simp [hj2]
  rintro ⟨t1,t2⟩ ⟨e1,e2,e3⟩
  dsimp only at e1 e2 e3
  subst e3
  refine T.bind (P:=fun (r:Int⊕Unit)=>match r with | .inl w=>w=0 | .inr _=>False) ?_ (fun r hr=>by
   cases r with
   | inl w=>exact T.ret (by rw [show w=0 from hr]; rfl)
   | inr _=>exact hr.elim)
  refine T.loop c.Order.length (fun i s=>s.2.1=(i:Int)∧s.2.2=((cnt all all.length - i:Nat):Int)∧s.1.length=all.length∧(∀ (j:Nat) (hj:j<s.1.length) (hj2:j<all.length),memB all[j].Kind=true→(∀ (a:Nat) (_:a<i) (ha:a<c.Order.length),c.Order[a]≠(j:Int))→s.1[j]=true)) _ ?_ ⟨rfl,rfl,e1,fun j hj hj2 h _=>by dsimp only; rw [e2 j hj hj2]; exact h⟩ (by omega)
  rintro i ⟨s1,s2,s3⟩ hi ⟨g1,g2,g3,hq⟩
  dsimp only at g1 g2 g3 hq
  subst g1 g2
  unfold cand_ordered_L2
  refine T.ite (fun cd=>?_) (fun cd=>?_)
  ·have hil:=lt_of cd
   obtain ⟨j,hj,hj2,hj3⟩:=o1 i hil
   refine T.get i rfl hil ?_
   dsimp only
   refine T.ite (fun d=>?_) (fun _=>?_)
   ·have:=of_decide_eq_true d; omega
   refine T.ite (fun d=>?_) (fun _=>?_)
   ·have:=of_decide_eq_true d; omega
   refine T.get j hj2 (by omega) ?_
   have hs:s1[j]=true:=hq j (by omega) hj hj3 (fun a ha hal he=>o2 a i hal hil ha (by rw [he,hj2]))
   refine T.ite (fun d=>by rw [hs] at d; simp at d) (fun _=>?_)
   refine T.ret ⟨hil,addN1 _ (by omega),by dsimp only; rw [subN1 _ (by omega) (by omega)]; omega,by dsimp only; rw [List.length_set]; exact g3,?_⟩
   dsimp only
   intro k hk hk2 hm hne
   rw [setI hj2 hk (by rw [List.length_set] at hk; exact hk)]
   have:j≠k:=by
    rintro rfl
    exact hne i (by omega) hil hj2
   rw [if_neg this]
   exact hq k (by rw [List.length_set] at hk; exact hk) hk2 hm (fun a ha hal=>hne a (by omega) hal)
  ·have:=ge_of cd
   refine T.fin ?_
   dsimp only
   omega
 obtain ⟨r,h1,h2⟩:=key
 rw [h1,h2]

theorem candCheck_ (n:Nat) (c:Cand) (hc:Light c) (hn:200≤n) (h:RefOK n c):cand_Check n c=some 0:=by
 have hh:=hc.harts
 have hf:=hc.all
 have hfi:=hc.first
 have key:T (cand_Check n c) (fun b=>b=0):=by
  unfold cand_Check
  rw [cells_same]
  refine T.eqb h.cellsB ?_
  refine T.ite (fun d=>by simp at d) (fun _=>?_)
  have h1:=h.h1
  have h8:=h.h8
  refine T.ite (fun d=>by have:=of_decide_eq_true d; omega) (fun _=>?_)
  refine T.ite (fun d=>by have:=of_decide_eq_true d; omega) (fun _=>?_)
  refine T.bind (P:=fun (r:Int⊕Unit)=>match r with | .inl w=>w=(c.Harts.flatten.length:Int) | .inr _=>False) ?_ ?_
  ·refine T.loop c.Harts.length (fun i s=>s=((i:Int),((FL c.Harts i).length:Int))) _ ?_ rfl (by omega)
   rintro i s hi rfl
   unfold cand_Check_L1
   refine T.ite (fun cd=>?_) (fun cd=>T.fin (by dsimp only; rw [FL_all _ (ge_of cd)]))
   have hil:=lt_of cd
   have hr:=FL_row hil
   refine T.get i rfl hil ?_
   dsimp only
   rw [addN _ _ (by omega)]
   refine T.ite (fun d=>by have:=of_decide_eq_true d; omega) (fun _=>?_)
   refine T.eqb (evRow_ n (i:Int) c.Harts[i] (hc.rows _ (List.getElem_mem hil)) hn (h.rows i hil)) ?_
   refine T.ite (fun d=>by simp at d) (fun _=>?_)
   refine T.ret ⟨hil,?_⟩
   rw [addN1 _ (by omega),FL_succ hil,List.length_append]
  intro r hr
  cases r with
  | inr _=>exact hr.elim
  | inl w =>
  have hw:w=(c.Harts.flatten.length:Int):=hr
  subst hw
  dsimp only
  refine T.eqb (cflat_ n c hc hn) ?_
  have hl:=h.fromLen
  refine T.ite (fun d=>by rw [hl] at d; simp at d) (fun _=>?_)
  refine T.bind (P:=fun (r:Unit⊕Unit)=>match r with | .inl w=>True | .inr _=>False) ?_ ?_
  ·refine T.loop c.Harts.flatten.length (fun i s=>s=(i:Int)) _ ?_ rfl (by omega)
   rintro i s hi rfl
   unfold cand_Check_L2
   refine T.ite (fun cd=>?_) (fun cd=>T.ret trivial)
   have hil:=lt_of cd
   refine T.eqb ((from_same n c _ _ h.cells (by omega) hn).trans (h.froms i hil)) ?_
   refine T.ite (fun d=>by simp at d) (fun _=>?_)
   exact T.ret ⟨hil,addN1 _ (by omega)⟩
  intro r hr
  cases r with
  | inr _=>exact hr.elim
  | inl w =>
  refine T.eqb (ordered_ n c hc hn h) ?_
  exact T.ite (fun d=>by simp at d) (fun _=>T.ret rfl)
 obtain ⟨r,h1,h2⟩:=key
 rw [h1,h2]
end Go.Proofs.YtigcbjbaibcgfaaGreat
