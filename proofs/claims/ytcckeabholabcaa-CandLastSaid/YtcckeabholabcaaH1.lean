/- Candidates that may be, and that the check says so. Plain law. -/
import Derived.Test.YtcckeabholabcaaX1
namespace Go.Proofs.Ytcckeabholabcaa
open Go A

theorem Hd (n:Nat) (c:aS) (all:List Event) (k:Nat) (hcells:lW c.First) (hf:c.First.length≤100) (hn:200≤n) (h1:k<all.length) (h2:k<c.From.length):T (eJ n c all (k:Int)) (fun b=>eJ n c all (k:Int)=some b):=by
  obtain ⟨r,h,_⟩:=from_ n c all k hcells hf hn h1 h2
  exact ⟨r,h,h⟩
/-- What holds of a candidate that may be. -/
structure Ij (n:Nat) (c:aS):Prop where
  h1:1≤c.Harts.length
  h8:c.Harts.length≤8
  cells:lW c.First
  cellsB:iB n c.First=some true
  rows:∀ (k:Nat) (hk:k<c.Harts.length),rowP (k:Int) c.Harts[k]
  fromLen:c.From.length=c.Harts.flatten.length
  froms:∀ k:Nat,k<c.Harts.flatten.length→eJ n c c.Harts.flatten (k:Int)=some true
  ord:∀ (i:Nat) (hi:i<c.Order.length),∃ j:Nat,∃ hj:j<c.Harts.flatten.length,c.Order[i]=(j:Int)∧oS c.Harts.flatten[j].Kind=true
  dist:∀ (i j:Nat) (hi:i<c.Order.length) (hj:j<c.Order.length),i<j→c.Order[i]≠c.Order[j]
  count:c.Order.length=cnt c.Harts.flatten c.Harts.flatten.length
theorem EB (n:Nat) (c:aS) (hc:pX c) (hn:200≤n) (h:Ij n c):eo n c c.Harts.flatten=some true:=by
  have hf:=hc.all
  have hor:=hc.order
  obtain ⟨_,_,_,_,_,_,_,o1,o2,o3⟩:=h
  have key:T (eo n c c.Harts.flatten) (fun b=>b=true):=by
    generalize hall:c.Harts.flatten=all at *
    have hcl:=x_ all all.length
    unfold eo
    refine T.grd (by simp [Nat.blt]; omega) ?_
    refine T.bind (P:=fun t=>t.1.length=all.length∧(∀ (j:Nat) (hj:j<t.1.length) (hj2:j<all.length),t.1[j]=oS all[j].Kind)∧t.2=(cnt all all.length:Int)) ?_ ?_
    · refine T.loop all.length (fun i s=>s.2.1=(i:Int)∧s.2.2=(cnt all i:Int)∧s.1.length=all.length∧(∀ (j:Nat) (hj:j<s.1.length) (hj2:j<all.length),s.1[j]=(decide (j<i)&&oS all[j].Kind))) _ ?_ ⟨rfl,rfl,by simp,by simp⟩ (by omega)
      rintro i ⟨s1,s2,s3⟩ hi ⟨e1,e2,e3,hq⟩
      dsimp only at e1 e2 e3 hq
      subst e1 e2
      unfold e6
      refine T.ite (fun cd=>?_) (fun cd=>?_)
      · have hil:=gW cd
        have hcs:=zU hil
        have hcl2:=x_ all i
        refine T.get i rfl hil ?_
        refine T.eqb (zT n _) ?_
        refine T.ite (fun c1=>?_) (fun c1=>?_)
        · rw [if_pos c1] at hcs
          refine T.get i rfl (by dsimp only; omega) ?_
          refine T.ret ⟨hil,ez _ (by omega),by dsimp only; rw [ez _ (by omega),hcs],by dsimp only; rw [List.length_set]; exact e3,?_⟩
          dsimp only
          intro j hj hj2
          rw [Fx rfl hj (by rw [List.length_set] at hj; exact hj)]
          by_cases e:i=j
          · subst e
            rw [if_pos rfl,c1]
            simp
          · rw [if_neg e,hq j (by rw [List.length_set] at hj; exact hj) hj2]
            have:decide (j<i + 1)=decide (j<i):=by simp; omega
            rw [this]
        · rw [if_neg (by rw [c1]; exact Bool.false_ne_true)] at hcs
          refine T.ret ⟨hil,ez _ (by omega),by dsimp only; rw [hcs]; rfl,e3,?_⟩
          dsimp only
          intro j hj hj2
          rw [hq j hj hj2]
          by_cases e:i=j
          · subst e
            rw [c1]
            simp
          · have:decide (j<i + 1)=decide (j<i):=by simp; omega
            rw [this]
      · have:=gu cd
        have e:i=all.length:=by omega
        subst e
        refine T.fin ⟨e3,fun j hj hj2=>?_,rfl⟩
        dsimp only
        rw [hq j hj hj2]
        simp [hj2]
    rintro ⟨t1,t2⟩ ⟨e1,e2,e3⟩
    dsimp only at e1 e2 e3
    subst e3
    refine T.bind (P:=fun (r:Int⊕Unit)=>match r with | .inl w=>w=0 | .inr _=>False) ?_ (fun r hr=>by
      cases r with
      | inl w=>exact T.ret (by rw [show w=0 from hr]; rfl)
      | inr _=>exact hr.elim)
    refine T.loop c.Order.length (fun i s=>s.2.1=(i:Int)∧s.2.2=((cnt all all.length - i:Nat):Int)∧s.1.length=all.length∧(∀ (j:Nat) (hj:j<s.1.length) (hj2:j<all.length),oS all[j].Kind=true→(∀ (a:Nat) (_:a<i) (ha:a<c.Order.length),c.Order[a]≠(j:Int))→s.1[j]=true)) _ ?_ ⟨rfl,rfl,e1,fun j hj hj2 h _=>by dsimp only; rw [e2 j hj hj2]; exact h⟩ (by omega)
    rintro i ⟨s1,s2,s3⟩ hi ⟨g1,g2,g3,hq⟩
    dsimp only at g1 g2 g3 hq
    subst g1 g2
    unfold e7
    refine T.ite (fun cd=>?_) (fun cd=>?_)
    · have hil:=gW cd
      obtain ⟨j,hj,hj2,hj3⟩:=o1 i hil
      refine T.get i rfl hil ?_
      dsimp only
      refine T.ite (fun d=>?_) (fun _=>?_)
      · have:=of_decide_eq_true d; omega
      refine T.ite (fun d=>?_) (fun _=>?_)
      · have:=of_decide_eq_true d; omega
      refine T.get j hj2 (by omega) ?_
      have hs:s1[j]=true:=hq j (by omega) hj hj3 (fun a ha hal he=>o2 a i hal hil ha (by rw [he,hj2]))
      refine T.ite (fun d=>by rw [hs] at d; simp at d) (fun _=>?_)
      refine T.ret ⟨hil,ez _ (by omega),by dsimp only; rw [BN _ (by omega) (by omega)]; omega,by dsimp only; rw [List.length_set]; exact g3,?_⟩
      dsimp only
      intro k hk hk2 hm hne
      rw [Fx hj2 hk (by rw [List.length_set] at hk; exact hk)]
      have:j≠k:=by
        rintro rfl
        exact hne i (by omega) hil hj2
      rw [if_neg this]
      exact hq k (by rw [List.length_set] at hk; exact hk) hk2 hm (fun a ha hal=>hne a (by omega) hal)
    · have:=gu cd
      refine T.fin ?_
      dsimp only
      omega
  obtain ⟨r,h1,h2⟩:=key
  rw [h1,h2]
theorem uR (n:Nat) (c:aS) (hc:pX c) (hn:200≤n) (h:Ij n c):dj n c=some 0:=by
  have hh:=hc.harts
  have hf:=hc.all
  have hfi:=hc.first
  have key:T (dj n c) (fun b=>b=0):=by
    unfold dj
    refine T.eqb h.cellsB ?_
    refine T.ite (fun d=>by simp at d) (fun _=>?_)
    have h1:=h.h1
    have h8:=h.h8
    refine T.ite (fun d=>by have:=of_decide_eq_true d; omega) (fun _=>?_)
    refine T.ite (fun d=>by have:=of_decide_eq_true d; omega) (fun _=>?_)
    refine T.bind (P:=fun (r:Int⊕Unit)=>match r with | .inl w=>w=(c.Harts.flatten.length:Int) | .inr _=>False) ?_ ?_
    · refine T.loop c.Harts.length (fun i s=>s=((i:Int),((FL c.Harts i).length:Int))) _ ?_ rfl (by omega)
      rintro i s hi rfl
      unfold fg
      refine T.ite (fun cd=>?_) (fun cd=>T.fin (by dsimp only; rw [m6 _ (gu cd)]))
      have hil:=gW cd
      have hr:=uM hil
      refine T.get i rfl hil ?_
      dsimp only
      rw [addN _ _ (by omega)]
      refine T.ite (fun d=>by have:=of_decide_eq_true d; omega) (fun _=>?_)
      refine T.eqb (G9 n (i:Int) c.Harts[i] (hc.rows _ (List.getElem_mem hil)) hn (h.rows i hil)) ?_
      refine T.ite (fun d=>by simp at d) (fun _=>?_)
      refine T.ret ⟨hil,?_⟩
      rw [ez _ (by omega),jC hil,List.length_append]
    intro r hr
    cases r with
    | inr _=>exact hr.elim
    | inl w =>
    have hw:w=(c.Harts.flatten.length:Int):=hr
    subst hw
    dsimp only
    refine T.eqb (x6 n c hc hn) ?_
    have hl:=h.fromLen
    refine T.ite (fun d=>by rw [hl] at d; simp at d) (fun _=>?_)
    refine T.bind (P:=fun (r:Unit⊕Unit)=>match r with | .inl w=>True | .inr _=>False) ?_ ?_
    · refine T.loop c.Harts.flatten.length (fun i s=>s=(i:Int)) _ ?_ rfl (by omega)
      rintro i s hi rfl
      unfold gg
      refine T.ite (fun cd=>?_) (fun cd=>T.ret trivial)
      have hil:=gW cd
      refine T.eqb (h.froms i hil) ?_
      refine T.ite (fun d=>by simp at d) (fun _=>?_)
      exact T.ret ⟨hil,ez _ (by omega)⟩
    intro r hr
    cases r with
    | inr _=>exact hr.elim
    | inl w =>
    refine T.eqb (EB n c hc hn h) ?_
    exact T.ite (fun d=>by simp at d) (fun _=>T.ret rfl)
  obtain ⟨r,h1,h2⟩:=key
  rw [h1,h2]
theorem He (n:Nat) (c:aS) (hc:pX c) (hn:200≤n):T (dj n c) (fun r=>r=0→Ij n c):=by
  have hh:=hc.harts
  have hf:=hc.all
  have hfi:=hc.first
  have hfr:=hc.from_
  have hor:=hc.order
  unfold dj
  obtain ⟨b,hb1,hb2⟩:=Ha n c.First (by omega) hn
  refine T.eqb hb1 ?_
  refine T.ite (fun _=>T.ret (fun h=>by simp at h)) (fun c1=>?_)
  have cb:=uN c1
  subst cb
  have hcells:=hb2 rfl
  refine T.ite (fun _=>T.ret (fun h=>by simp at h)) (fun c2=>?_)
  refine T.ite (fun _=>T.ret (fun h=>by simp at h)) (fun c3=>?_)
  have c2:=of_decide_eq_false c2
  have c3:=of_decide_eq_false c3
  refine T.bind (P:=fun (r:Int⊕Unit)=>match r with | .inl w=>w=(c.Harts.flatten.length:Int)∧∀ (k:Nat) (hk:k<c.Harts.length),rowP (k:Int) c.Harts[k] | .inr _=>True) ?_ ?_
  · refine T.loop c.Harts.length (fun i s=>s=((i:Int),((FL c.Harts i).length:Int))∧∀ (k:Nat) (_:k<i) (hk:k<c.Harts.length),rowP (k:Int) c.Harts[k]) _ ?_ ⟨rfl,fun k h=>by omega⟩ (by omega)
    rintro i s hi ⟨rfl,hq⟩
    unfold fg
    refine T.ite (fun cd=>?_) (fun cd=>T.fin ⟨by dsimp only; rw [m6 _ (gu cd)],fun k hk=>hq k (by have:=gu cd; omega) hk⟩)
    have hil:=gW cd
    have hr:=uM hil
    refine T.get i rfl hil ?_
    dsimp only
    rw [addN _ _ (by omega)]
    refine T.ite (fun _=>T.ret trivial) (fun _=>?_)
    refine T.bind (Fz n (i:Int) c.Harts[i] (hc.rows _ (List.getElem_mem hil)) hn) (fun r hr=>?_)
    refine T.ite (fun _=>T.ret trivial) (fun c4=>?_)
    have hrow:=hr (uO c4)
    refine T.ret ⟨hil,?_,fun k hk hkl=>?_⟩
    · rw [ez _ (by omega),jC hil,List.length_append]
    · by_cases e:k=i
      · subst e; exact hrow
      · exact hq k (by omega) hkl
  intro r hr
  cases r with
  | inr _=>exact T.ret (fun h=>by simp at h)
  | inl w =>
  obtain ⟨rfl,hrows⟩:=hr
  dsimp only
  refine T.eqb (x6 n c hc hn) ?_
  refine T.ite (fun _=>T.ret (fun h=>by simp at h)) (fun c4=>?_)
  have hlen:c.From.length=c.Harts.flatten.length:=by have:=uO c4; omega
  refine T.bind (P:=fun (r:Unit⊕Unit)=>match r with | .inl _=>∀ k:Nat,k<c.Harts.flatten.length→eJ n c c.Harts.flatten (k:Int)=some true | .inr _=>True) ?_ ?_
  · refine T.loop c.Harts.flatten.length (fun i s=>s=(i:Int)∧∀ k:Nat,k<i→eJ n c c.Harts.flatten (k:Int)=some true) _ ?_ ⟨rfl,fun k h=>by omega⟩ (by omega)
    rintro i s hi ⟨rfl,hq⟩
    unfold gg
    refine T.ite (fun cd=>?_) (fun cd=>T.fin (fun k hk=>hq k (by have:=gu cd; omega)))
    have hil:=gW cd
    refine T.bind (Hd n c c.Harts.flatten i hcells (by omega) hn hil (by omega)) (fun r hr=>?_)
    refine T.ite (fun _=>T.ret trivial) (fun c5=>?_)
    rw [uN c5] at hr
    refine T.ret ⟨hil,ez _ (by omega),fun k hk=>?_⟩
    by_cases e:k=i
    · subst e; exact hr
    · exact hq k (by omega)
  intro r hr
  cases r with
  | inr _=>exact T.ret (fun h=>by simp at h)
  | inl w =>
  have hfroms:∀ k:Nat,k<c.Harts.flatten.length→eJ n c c.Harts.flatten (k:Int)=some true:=hr
  refine T.bind (CV n c c.Harts.flatten hf hor hn) (fun b hb=>?_)
  refine T.ite (fun _=>T.ret (fun h=>by simp at h)) (fun c5=>?_)
  obtain ⟨o1,o2,o3⟩:=hb (uN c5)
  exact T.ret (fun _=>⟨by omega,by omega,hcells,hb1,hrows,hlen,hfroms,o1,o2,o3⟩)

end Go.Proofs.Ytcckeabholabcaa
