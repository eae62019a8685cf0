/- FenceWays -/
import Derived.Test.YtaiokpalfdbnnaaW3
namespace Go.Proofs.Ytaiokpalfdbnnaa
open Go A

theorem LU (n:Nat) (hn:10000≤n) (c:ax) (hl:c.Steps.length≤400) (y7:List Pr) (y8:List Bool) (h7:y7.length=c.Steps.length) (hd:∀ k o,Sn y7 k o↔D c.Steps k o) (h8:y8.length=c.Steps.length) (ho:∀ (k:Nat) (b:Bool),y8[k]?=some b→(b=true↔D c.Steps k true)) :
    T (iter (fun s=>eF n c y7 y8 s) n 0) (Rd (fun _=>True) (fun _=>False)):=by
  refine T.loop c.Steps.length (fun i s=>s=(i:Int)) _ (fun i s hi hs=>?_) rfl (by omega)
  subst hs
  unfold eF
  refine T.ite (fun h=>?_) (fun h=>T.fin trivial)
  have h:=of_decide_eq_true h
  have h:(i:Int)<(y7.length:Int):=h
  have hi7:i<y7.length:=by omega
  have hi8:i<y8.length:=by omega
  have hx:ah .i64 (i:Int) 1=((i + 1:Nat):Int):=cN i (by omega)
  have e:y8[i]=y7[i].e1:=by
    have h1:=ho i _ (List.getElem?_eq_getElem hi8)
    have h2:y7[i].e1=true↔D c.Steps i true:=by
      rw [← hd i true]
      constructor
      · exact fun h=>⟨_,List.getElem?_eq_getElem hi7,h⟩
      · rintro ⟨a,h3,h4⟩
        rw [List.getElem?_eq_getElem hi7] at h3
        cases h3
        exact h4
    rw [Bool.eq_iff_iff,h1,h2]
  refine T.get i rfl hi8 (T.get i rfl hi7 (T.ite (fun h=>?_) (fun _=>T.next ⟨by omega,hx⟩)))
  rw [e] at h
  simp at h
theorem FZ (n:Nat) (hn:1000000<n) (c:ax):gy n c=some true:=by
  have key:T (gy n c) (fun b=>b=true):=by
    unfold gy
    refine T.eqb (show rD n=some true from rfl) (T.ite (fun h=>by cases h) (fun _=>?_))
    refine T.bind (P:=fun b=>b=true→c.Steps.length≤150∧c.Regs≤150) (by
      unfold l6
      exact T.ite (fun h1=>T.ret (fun h2=>⟨by have:=of_decide_eq_true h1; omega,of_decide_eq_true h2⟩)) (fun _=>T.ret (fun h=>by cases h))) (fun y3 h3=>?_)
    refine T.ite (fun _=>T.ret rfl) (fun h=>?_)
    obtain ⟨hl,hb⟩:=h3 (by simpa using h)
    refine (zq n hn c hb (by omega)).bind (fun y5 h5=>T.ite (fun _=>T.ret rfl) (fun h=>?_))
    have hr:cg c:=h5.1 (by simpa using h)
    have hlen:=hr.len
    have hbr:=mR hr
    have hble:(bi c.Steps).length≤c.Steps.length:=by
      unfold bi
      rw [List.length_map]
      exact List.length_filter_le ..
    have hps:=AY (pD (bi c.Steps)) (bi c.Steps).length
    have hpn:=AZ (pD (bi c.Steps)) (bi c.Steps).length
    have halen:(xn c).Steps.length=ps (pD (bi c.Steps)) (bi c.Steps).length:=mT _ _
    have har:=Cf hr (by omega)
    have hafen:sM (xn c).Steps:=GK hbr
    have haleast:∀ (k:Nat) (s:ab),(xn c).Steps[k]?=some s→s.Op=7→¬ sM ((xn c).Steps.set k (pG (k + 1))):=fun k s hs h7=>by
      obtain ⟨i,s0,h1,h2⟩:=uz (p:=pD (bi c.Steps)) hs
      rcases h2 with ⟨hp,rfl,rfl⟩ | ⟨_,rfl⟩
      · exact Eg (c:=ax.mk c.Regs (bi c.Steps)) C8 hp
      · rw [m9] at h7
        exact ((sK.1 (C8 s0 (List.mem_of_getElem? h1))) h7).elim
    refine (C9 n hn c hlen.1 hlen.2).bind (fun y7 h7=>?_)
    refine (H5 n hn c hr hb (by omega)).bind (fun y8 h8=>?_)
    refine T.ite (fun h=>?_) (fun _=>?_)
    · have h:((y8.length:Int) != (y7.length:Int))=true:=h
      rw [h8.1,h7.1] at h
      simp at h
    refine (LU n (by omega) c (by omega) y7 y8 h7.1 h7.2 h8.1 h8.2).bind (fun t10 h10=>?_)
    cases t10 with
    | inr w=>exact h10.elim
    | inl w =>
      refine (IY n hn c hr hb (by omega)).bind (fun y12 h12=>?_)
      subst h12
      refine T.ite (fun h=>by simp at h) (fun _=>?_)
      refine (zq n hn (xn c) hb (by omega)).bind (fun y14 h14=>T.ite (fun h=>?_) (fun _=>?_))
      · rw [h14.2 har] at h
        simp at h
      refine (l5 n hn (xn c) har.len.1 har.len.2).bind (fun y16 h16=>T.ite (fun h=>?_) (fun _=>?_))
      · rw [h16.2 hafen] at h
        simp at h
      refine (Dd n hn (xn c) har haleast).bind (fun y18 h18=>T.ite (fun h=>?_) (fun _=>?_))
      · rw [h18] at h
        simp at h
      refine T.bind (P:=fun b=>b=true↔sM c.Steps) (by
        unfold ib
        refine (rx n hn c hb (by omega)).bind (fun y hy=>?_)
        have hy0:=hy.2 hr
        subst hy0
        exact T.ite (fun _=>(sO n hn c hlen.1 hlen.2).bind (fun b hb=>T.ret hb)) (fun h=>by simp at h)) (fun y20 h20=>?_)
      refine (l5 n hn c hlen.1 hlen.2).bind (fun y21 h21=>T.ite (fun h=>?_) (fun _=>?_))
      · rw [show y20=y21 by rw [Bool.eq_iff_iff,h20,h21]] at h
        simp at h
      refine (GN n hn c hr hb (by omega)).bind (fun y23 h23=>?_)
      refine (l5 n hn c hlen.1 hlen.2).bind (fun y24 h24=>T.ite (fun h=>?_) (fun h=>?_))
      · have hno:¬ sM c.Steps:=fun hf=>by
          rw [h24.2 hf] at h
          cases h
        rw [h23.2 hno]
        exact T.ret rfl
      have hfen:sM c.Steps:=h24.1 (by simpa using h)
      obtain ⟨e1,e2,e3⟩:=h23.1 hfen
      obtain ⟨x,e⟩:=y23
      obtain ⟨R,l⟩:=x
      have e1:e=0:=e1
      have e2:R=c.Regs:=e2
      have e3:SR c.Steps 0 l:=e3
      subst e1 e2
      obtain ⟨g1,g2,g3,g4,g5⟩:=e3.ok c.Regs hr hfen (fun k s hk=>by omega)
      have g3:cf l≤cf c.Steps:=g3
      have g4:l.length≤c.Steps.length:=g4
      refine T.ite (fun _=>?_) (fun h=>by simp at h)
      refine (zq n hn (ax.mk c.Regs l) hb (by show l.length≤400; omega)).bind (fun y27 h27=>T.ite (fun _=>?_) (fun h=>?_))
      · refine (l5 n hn (ax.mk c.Regs l) g1.len.1 g1.len.2).bind (fun y29 h29=>T.ite (fun _=>?_) (fun h=>?_))
        · refine (Dd n hn (ax.mk c.Regs l) g1 (fun k s hs h7 hf=>g5 k s hs h7 (FY g1 hs h7 hf))).bind (fun y31 h31=>T.ite (fun _=>?_) (fun h=>?_))
          · refine (Da n hn (ax.mk c.Regs l) g1 hb (by show l.length≤400; omega)).bind (fun y33 h33=>(Da n hn c hr hb (by omega)).bind (fun y34 h34=>T.ret ?_))
            have h33:y33=((cf l:Nat):Int):=h33
            rw [h33,h34,decide_eq_true_eq]
            omega
          · rw [h31] at h
            cases h
        · rw [h29.2 g2] at h
          cases h
      · rw [h27.2 g1] at h
        simp at h
  obtain ⟨b,h1,h2⟩:=key
  rw [h1,h2]
theorem Ei (c:ax):gy 1000001 c=some true:=FZ _ (by omega) c

end Go.Proofs.Ytaiokpalfdbnnaa
