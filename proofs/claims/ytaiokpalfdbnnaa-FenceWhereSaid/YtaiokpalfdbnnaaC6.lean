/- Put inserts as many fences as shared steps are open, each directly before such a step -/
import Derived.Test.YtaiokpalfdbnnaaC5
namespace Go.Proofs.Ytaiokpalfdbnnaa
open Go A

theorem f1 (n:Nat) (hn:10000≤n) (y8:aO×Int) (c:aO) (e:Int) (hl:c.Steps.length≤400) (y21:List Pr) (hy:y21.length=c.Steps.length) (hd:∀ k o,Sn y21 k o↔D c.Steps k o) :
    T (iter (fun s=>dS n (c,e) y8 y21 s) n (0,0)) (fun t=>t=((pn (pD c.Steps) c.Steps.length:Nat):Int)):=by
  refine T.loop c.Steps.length (fun i s=>s=(((pn (pD c.Steps) i:Nat):Int),(i:Int))) _ (fun i s hi hs=>?_) rfl (by omega)
  subst hs
  unfold dS
  refine T.ite (fun h=>?_) (fun h=>?_)
  · have h:=of_decide_eq_true h
    have h:(i:Int)<(y21.length:Int):=h
    have hi':i<c.Steps.length:=by omega
    have hi2:i<y21.length:=by omega
    have hs:c.Steps[i]?=some c.Steps[i]:=List.getElem?_eq_getElem hi'
    have hx:al .i64 (i:Int) 1=((i + 1:Nat):Int):=dM i (by omega)
    have hle:=wM (pD c.Steps) i
    have hp1:al .i64 ((pn (pD c.Steps) i:Nat):Int) 1=((pn (pD c.Steps) i + 1:Nat):Int):=dM _ (by omega)
    have hyi:y21[i]?=some y21[i]:=List.getElem?_eq_getElem hi2
    have hpn:pn (pD c.Steps) (i + 1)=pn (pD c.Steps) i + (if pD c.Steps i=true then 1 else 0):=rfl
    refine T.get i rfl hi2 (T.ite (fun h2=>T.get i rfl hi' (T.eqb (uM n _) (T.ite (fun h3=>T.next ⟨hi',?_⟩) (fun h3=>T.next ⟨hi',?_⟩)))) (fun h2=>T.next ⟨hi',?_⟩))
    · rw [hpn,if_pos (uT.2 ⟨(hd i true).1 ⟨_,hyi,h2⟩,_,hs,h3⟩)]
      show (al .i64 _ 1,al .i64 (i:Int) 1)=_
      rw [hx,hp1]
    · rw [hpn,if_neg (fun hp=>by
        obtain ⟨_,t,h4,h5⟩:=uT.1 hp
        rw [hs] at h4
        cases h4
        rw [h3] at h5
        cases h5)]
      show (_,al .i64 (i:Int) 1)=_
      rw [hx]
      rfl
    · rw [hpn,if_neg (fun hp=>by
        obtain ⟨a,h4,h5⟩:=(hd i true).2 (uT.1 hp).1
        rw [hyi] at h4
        cases h4
        have h5:y21[i].e1=true:=h5
        rw [h2] at h5
        cases h5)]
      show (_,al .i64 (i:Int) 1)=_
      rw [hx]
      rfl
  · have h:=of_decide_eq_false h
    have h:¬ (i:Int)<(y21.length:Int):=h
    have e:i=c.Steps.length:=by omega
    subst e
    exact T.fin rfl
theorem f2 (n:Nat) (hn:10000≤n) (y7:aO×Int) (a:aO) (e:Int) (t22:Int) (hl:a.Steps.length≤5000) (ha:∀ (m:Nat) (s:ab),a.Steps[m]?=some s→s.Op=7→∃ s',a.Steps[m + 1]?=some s'∧xO s'=true) :
    T (iter (fun s=>dT n y7 (a,e) t22 s) n 0) (Rd (fun _=>True) (fun _=>False)):=by
  refine T.loop a.Steps.length (fun i s=>s=(i:Int)) _ (fun i s hi hs=>?_) rfl (by omega)
  subst hs
  unfold dT
  refine T.ite (fun h=>?_) (fun h=>T.fin trivial)
  have h:=of_decide_eq_true h
  have h:(i:Int)<(a.Steps.length:Int):=h
  have hi':i<a.Steps.length:=by omega
  have hs:a.Steps[i]?=some a.Steps[i]:=List.getElem?_eq_getElem hi'
  have hx:al .i64 (i:Int) 1=((i + 1:Nat):Int):=dM i (by omega)
  refine T.get i rfl hi' (T.ite (fun h7=>?_) (fun h7=>T.next ⟨hi',hx⟩))
  obtain ⟨s',h1,h2⟩:=ha i _ hs (by simpa using h7)
  obtain ⟨h3,h4⟩:=List.getElem?_eq_some_iff.1 h1
  rw [hx]
  refine T.ite (fun h=>?_) (fun _=>T.get (i + 1) rfl h3 (T.eqb (uM n _) (T.ite (fun h=>?_) (fun _=>T.next ⟨hi',rfl⟩))))
  · have h:(((i + 1:Nat):Int)==(a.Steps.length:Int))=true:=h
    rw [beq_iff_eq] at h
    omega
  · have h:(!xO a.Steps[i + 1])=true:=h
    rw [h4,h2] at h
    cases h
theorem Cz (n:Nat) (hn:1000000<n) (c:aO):fo n c=some true:=by
  have key:T (fo n c) (fun b=>b=true):=by
    unfold fo
    refine T.eqb (show qi n=some true from rfl) (T.ite (fun h=>by cases h) (fun _=>?_))
    refine T.bind (P:=fun b=>b=true→c.Steps.length≤150∧c.Regs≤150) (by
      unfold k8
      exact T.ite (fun h1=>T.ret (fun h2=>⟨by have:=of_decide_eq_true h1; omega,of_decide_eq_true h2⟩)) (fun _=>T.ret (fun h=>by cases h))) (fun y3 h3=>?_)
    refine T.ite (fun _=>T.ret rfl) (fun h=>?_)
    obtain ⟨hl,hb⟩:=h3 (by simpa using h)
    refine (E5 n hn c hb (by omega)).bind (fun y5 h5=>T.ite (fun _=>T.ret rfl) (fun h=>?_))
    have hr:dZ c:=h5.1 (by simpa using h)
    have hbr:=lO hr
    have hble:(aC c.Steps).length≤c.Steps.length:=by
      unfold aC
      rw [List.length_map]
      exact List.length_filter_le ..
    have hbok:∀ (k:Nat) (s:ab),(aC c.Steps)[k]?=some s→Ok s c.Regs (aC c.Steps).length:=hbr.ok
    have hps:=zA (pD (aC c.Steps)) (aC c.Steps).length
    have hpn:=wM (pD (aC c.Steps)) (aC c.Steps).length
    have halen:(kJ c).Steps.length=ps (pD (aC c.Steps)) (aC c.Steps).length:=nq _ _
    have har:=AG hr (by omega)
    have hbb:aC (aC c.Steps)=aC c.Steps:=Cx qf hbok
    have hba:aC (kJ c).Steps=aC c.Steps:=Ee qf hbok
    have e1:kJ (aO.mk c.Regs (aC c.Steps))=kJ c:=by
      unfold kJ
      dsimp only
      rw [hbb]
    have e2:kJ (kJ c)=kJ c:=by
      have:kJ (kJ c)=aO.mk c.Regs (iT (pD (aC (kJ c).Steps)) (aC (kJ c).Steps)):=rfl
      rw [this,hba]
      rfl
    refine (Eg n hn c hr hb (by omega)).bind (fun y7 h7=>?_)
    subst h7
    refine (Ek n hn c hr hb (by omega)).bind (fun y8 h8=>?_)
    subst h8
    refine (Ek n hn (aO.mk c.Regs (aC c.Steps)) hbr hb (by show (aC c.Steps).length≤400; omega)).bind (fun y9 h9=>?_)
    subst h9
    refine (Ek n hn (kJ c) har hb (by omega)).bind (fun y10 h10=>?_)
    subst h10
    rw [e1,e2]
    refine T.ite (fun h=>by simp at h) (fun _=>T.ite (fun h=>by simp at h) (fun _=>T.ite (fun h=>by simp at h) (fun _=>T.ite (fun h=>by simp at h) (fun _=>?_))))
    have hka:=Ff n (kJ c) (by omega) (by omega)
    refine hka.bind (fun y15 h15=>T.ite (fun h=>by rw [h15] at h; cases h) (fun _=>?_))
    refine hka.bind (fun y17 h17=>T.ite (fun h=>by rw [h17] at h; cases h) (fun _=>?_))
    refine (BA n hn (aO.mk c.Regs (aC c.Steps)) hbr hb (by show (aC c.Steps).length≤400; omega)).bind (fun y19 h19=>?_)
    have h19:y19=((cf (aC c.Steps):Nat):Int):=h19
    rw [Fe qf] at h19
    subst h19
    refine T.ite (fun h=>by simp at h) (fun _=>?_)
    refine (Fb n hn (aO.mk c.Regs (aC c.Steps)) hbr.len.1 hbr.len.2).bind (fun y21 h21=>?_)
    refine (f1 n (by omega) (kJ c,0) (aO.mk c.Regs (aC c.Steps)) 0 (by show (aC c.Steps).length≤400; omega) y21 h21.1 h21.2).bind (fun t22 h22=>?_)
    subst h22
    refine (f2 n (by omega) _ (kJ c) 0 _ (by omega) (fun m s hs h7=>?_)).bind (fun t23 h23=>?_)
    · obtain ⟨i,s0,h1,h2⟩:=xT (p:=pD (aC c.Steps)) hs
      rcases h2 with ⟨hp,rfl,_⟩ | ⟨_,rfl⟩
      · obtain ⟨_,t,h3,h4⟩:=uT.1 hp
        rw [h1] at h3
        cases h3
        exact ⟨_,(xS h1).2 hp,by rw [Hp]; exact h4⟩
      · rw [uP] at h7
        exact ((q_.1 (qf s0 (List.mem_of_getElem? h1))) h7).elim
    · cases t23 with
      | inr w=>exact h23.elim
      | inl w =>
        refine (BA n hn (kJ c) har hb (by omega)).bind (fun y25 h25=>?_)
        have h25:y25=((cf (iT (pD (aC c.Steps)) (aC c.Steps)):Nat):Int):=h25
        rw [GG qf] at h25
        subst h25
        refine T.ite (fun _=>T.ret ?_) (fun h=>?_)
        · show (((kJ c).Steps.length:Int)==al .i64 ((aC c.Steps).length:Int) ((pn (pD (aC c.Steps)) (aC c.Steps).length:Nat):Int))=true
          rw [addN _ _ (by omega),halen,hps,beq_self_eq_true]
        · have h:(((pn (pD (aC c.Steps)) (aC c.Steps).length:Nat):Int)==((pn (pD (aC c.Steps)) (aC c.Steps).length:Nat):Int))=false:=h
          rw [beq_self_eq_true] at h
          cases h
  obtain ⟨b,h1,h2⟩:=key
  rw [h1,h2]
theorem AH (c:aO):fo 1000001 c=some true:=Cz _ (by omega) c

end Go.Proofs.Ytaiokpalfdbnnaa
