/- The law: the event that an ask makes is valid and has what was asked for -/
import Derived.Test.YtnmmknnnggcijaaDoorG5
namespace Go.Proofs.YtnmmknnnggcijaaDoor
open Go A

theorem core (n:Nat) (hn:200≤n) (kd addr value op pr su:Int) (aq0 rl0:Bool) (found:Int) (d:Deps) (ha at1:Nat) (ya1 ya2:Int) (r:Int×Int) (aq rl:Bool)
    (l1:d.Addr.length≤60) (l2:d.Data.length≤60) (l3:d.Way.length≤60) (h8:ha<8) (h1000:at1<1000) (u1:U addr) (u2:U found) (u3:U value) (ur:U r.1)
    (hkd:kd=1∨kd=2∨kd=3∨kd=4∨kd=5∨kd=6) (hamo:f_ n op found value=some r) (haq:kd=1∨kd=2→aq=false∧rl=false)
    (p1:0≤ya1∧ya1<16) (p2:0≤ya2∧ya2<16) (h0:aM .u64 addr 8=0) (b1:kY d.Addr ((1 + at1:Nat):Int)=true) (b2:kY d.Data ((1 + at1:Nat):Int)=true) (b3:kY d.Way ((1 + at1:Nat):Int)=true) :
    dO n (Ask.mk kd addr value op aq0 rl0 pr su) found d (ha:Int) (at1:Int) ya1 ya2 r (aq,rl)=some true:=by
  have ea:av .i64 1 (at1:Int)=((1 + at1:Nat):Int):=by rw [xt (by omega) (by omega)]; omega
  have es:aE .i64 ((1 + at1:Nat):Int) 1=(at1:Int):=by rw [BJ (by omega) (by omega)]; omega
  have own:iR n d=some d:=by
    unfold iR
    rw [xk n _ (by omega),xk n _ (by omega),xk n _ (by omega)]
    rfl
  have u0:U 0:=⟨by decide,by decide⟩
  -- the event
  have main:∀ (E:Event),E=EU (ha:Int) ((1 + at1:Nat):Int) found (Ask.mk kd addr value op aq rl ya1 ya2) d kd (if kd=4 then (at1:Int) else 0) (F1 kd value r.1) (if kd=6 then ya1 else 0) (if kd=6 then ya2 else 0)→(kd=5→r.2=0) →
      (kM n (ha:Int) ((1 + at1:Nat):Int) (Ask.mk kd addr value op aq rl ya1 ya2) found (at1:Int) d=some (E,0))∧bQ n (Ask.mk kd addr value op aq0 rl0 pr su) found d (ha:Int) (at1:Int) ya1 ya2 r (E.Hart,E.At,E.Pair,E.Deps.Addr,E.Deps.Data,E.Deps.Way,E.Kind,E.Addr,E.Load,E.Store,E.Aq,E.Rl,E.Pred,E.Succ,aq,rl,0)=some true:=fun E hE hr2=>by
    have facts:small E∧xj E=true∧E.Kind=kd∧E.Hart=(ha:Int)∧E.At=((1 + at1:Nat):Int)∧U E.Addr∧U E.Load∧U E.Store ∧
        (kd=6→E.Pred=ya1∧E.Succ=ya2∧E.Deps=Deps.mk [] [] [])∧(kd≠6→E.Addr=addr∧E.Aq=aq∧E.Rl=rl∧E.Deps.Addr=d.Addr∧E.Deps.Way=d.Way) ∧
        (ul kd=true→E.Load=found)∧(kd=5→E.Store=r.1)∧(kd=2∨kd=4→E.Store=value)∧(E.Pair=if kd=4 then (at1:Int) else 0)∧(E.Deps.Data=if nM kd=true then d.Data else []):=by
      subst hE
      have hat:(0:Int)≤((1 + at1:Nat):Int):=by omega
      have hha:(0:Int)≤(ha:Int)∧(ha:Int)<8:=by omega
      have b1':=b1
      have b2':=b2
      have b3':=b3
      rw [Int.natCast_add] at b1' b2' b3'
      have c1:((1:Nat):Int)=1:=rfl
      rw [c1] at b1' b2' b3'
      rcases hkd with rfl | rfl | rfl | rfl | rfl | rfl
      · obtain ⟨rfl,rfl⟩:=haq (.inl rfl)
        refine ⟨⟨l1,by show ([]:List Int).length≤60; simp,l3⟩,yT _ hha.1 hha.2 hat rfl h0 (.inl rfl) (.inr rfl) rfl rfl ?_,rfl,rfl,rfl,u1,u2,u0,(fun h=>(by cases h)),fun _=>⟨rfl,rfl,rfl,rfl,rfl⟩,fun _=>rfl,(fun h=>(by cases h)),(fun h=>(by omega)),rfl,rfl⟩
        show lZ (Event.mk _ _ 1 addr found 0 false false 0 0 0 (Deps.mk d.Addr [] d.Way))=true
        simp [lZ,o6,uo,nM,b1',b3',z9]
      · obtain ⟨rfl,rfl⟩:=haq (.inr rfl)
        refine ⟨⟨l1,l2,l3⟩,yT _ hha.1 hha.2 hat rfl h0 (.inr rfl) (.inl rfl) rfl rfl ?_,rfl,rfl,rfl,u1,u0,u3,(fun h=>(by cases h)),fun _=>⟨rfl,rfl,rfl,rfl,rfl⟩,(fun h=>(by cases h)),(fun h=>(by cases h)),fun _=>rfl,rfl,rfl⟩
        show lZ (Event.mk _ _ 2 addr 0 value false false 0 0 0 (Deps.mk d.Addr d.Data d.Way))=true
        simp [lZ,o6,uo,nM,b1',b2',b3']
      · refine ⟨⟨l1,by show ([]:List Int).length≤60; simp,l3⟩,yT _ hha.1 hha.2 hat rfl h0 (.inl rfl) (.inr rfl) rfl rfl ?_,rfl,rfl,rfl,u1,u2,u0,(fun h=>(by cases h)),fun _=>⟨rfl,rfl,rfl,rfl,rfl⟩,fun _=>rfl,(fun h=>(by cases h)),(fun h=>(by omega)),rfl,rfl⟩
        show lZ (Event.mk _ _ 3 addr found 0 aq rl 0 0 0 (Deps.mk d.Addr [] d.Way))=true
        simp [lZ,o6,uo,nM,b1',b3',z9]
      · refine ⟨⟨l1,l2,l3⟩,yT _ hha.1 hha.2 hat rfl h0 (.inr rfl) (.inl rfl) rfl rfl ?_,rfl,rfl,rfl,u1,u0,u3,(fun h=>(by cases h)),fun _=>⟨rfl,rfl,rfl,rfl,rfl⟩,(fun h=>(by cases h)),(fun h=>(by cases h)),fun _=>rfl,rfl,rfl⟩
        show lZ (Event.mk _ ((1 + at1:Nat):Int) 4 addr 0 value aq rl 0 0 (at1:Int) (Deps.mk d.Addr d.Data d.Way))=true
        simp [lZ,o6,uo,nM,b1',b2',b3']
        omega
      · refine ⟨⟨l1,l2,l3⟩,yT _ hha.1 hha.2 hat rfl h0 (.inl rfl) (.inl rfl) rfl rfl ?_,rfl,rfl,rfl,u1,u2,ur,(fun h=>(by cases h)),fun _=>⟨rfl,rfl,rfl,rfl,rfl⟩,fun _=>rfl,fun _=>rfl,(fun h=>(by omega)),rfl,rfl⟩
        show lZ (Event.mk _ _ 5 addr found r.1 aq rl 0 0 0 (Deps.mk d.Addr d.Data d.Way))=true
        simp [lZ,o6,uo,nM,b1',b2',b3']
      · exact ⟨⟨by show ([]:List Int).length≤60; simp,by show ([]:List Int).length≤60; simp,by show ([]:List Int).length≤60; simp⟩,Dq _ rfl hha.1 hha.2 hat rfl rfl rfl rfl rfl rfl rfl rfl rfl p1.1 (by show ya1≤15; omega) p2.1 (by show ya2≤15; omega),rfl,rfl,rfl,u0,u0,u0,fun _=>⟨rfl,rfl,rfl⟩,fun h=>(h rfl).elim,(fun h=>(by cases h)),(fun h=>(by cases h)),(fun h=>(by omega)),rfl,rfl⟩
    obtain ⟨g1,g2,g3,g4,g5,g6,g7,g8,g9,g10,g11,g12,g13,g14,g15⟩:=facts
    refine ⟨HE n (by omega) _ _ found (at1:Int) (Ask.mk kd addr value op aq rl ya1 ya2) d l1 l2 l3 r.1 hkd (fun h=>?_) E hE g1 g2,EO n hn kd addr value op pr su aq0 rl0 found d ha at1 ya1 ya2 r aq rl E g1 l1 l2 l3 g2 g3 g4 h8 g5 h1000 g6 g7 g8 hkd g9 g10 g11 g12 g13 g14 g15⟩
    show f_ n op found value=_
    rw [hamo,← hr2 h]
  unfold dO
  dsimp only
  rw [ea,es,own,Option.bind_some]
  by_cases h5:kd=5
  · rw [if_pos (by simpa using h5)]
    by_cases hr:r.2=0
    · obtain ⟨m1,m2⟩:=main _ rfl (fun _=>hr)
      rw [if_neg (by simpa using hr),m1,Option.bind_some,m2]
      rfl
    · rw [if_pos (by simpa using hr)]
  · obtain ⟨m1,m2⟩:=main _ rfl (fun h=>(h5 h).elim)
    rw [if_neg (by simpa using h5),m1,Option.bind_some,m2]
    rfl
theorem BE (n:Nat) (hn:200≤n) (hart at_:Int) (a:Ask) (found:Int) (d:Deps) (wa:U a.Addr) (wv:U a.Value) (wf:U found):eO n hart at_ a found d=some true:=by
  have:T (eO n hart at_ a found d) (fun b=>b=true):=by
    obtain ⟨kd,addr,value,op,aq0,rl0,pr,su⟩:=a
    dsimp only at wa wv
    unfold eO qa
    dsimp only
    rw [Option.bind_some]
    refine T.ite (fun h=>by cases h) (fun _=>?_)
    refine (AL n hart 8 (by decide) (by decide)).bind (fun y3 q3=>?_)
    obtain ⟨ha,rfl⟩:∃ k:Nat,y3=(k:Int):=⟨y3.toNat,by omega⟩
    refine (AL n at_ 1000 (by decide) (by decide)).bind (fun y4 q4=>?_)
    obtain ⟨at1,rfl⟩:∃ k:Nat,y4=(k:Int):=⟨y4.toNat,by omega⟩
    have ea:av .i64 1 (at1:Int)=((1 + at1:Nat):Int):=by rw [xt (by omega) (by omega)]; omega
    rw [ea]
    have light:T (iM n d 60) (fun b=>b=true→d.Addr.length≤60∧d.Data.length≤60∧d.Way.length≤60):=by
      unfold iM
      refine T.ite (fun h1=>T.ite (fun h2=>T.ret (fun h3=>?_)) (fun _=>T.ret (fun h=>by cases h))) (fun _=>T.ret (fun h=>by cases h))
      rw [decide_eq_true_eq] at h1 h2 h3
      omega
    refine light.bind (fun y5 q5=>T.ite (fun _=>T.ret rfl) (fun h5=>?_))
    obtain ⟨l1,l2,l3⟩:=q5 (by simpa using h5)
    refine T.ite (fun _=>T.ret rfl) (fun h6=>T.ite (fun _=>T.ret rfl) (fun h7=>T.ite (fun _=>T.ret rfl) (fun h8=>?_)))
    rw [decide_eq_false_iff_not] at h6 h7
    have h0:aM .u64 addr 8=0:=by simpa using h8
    rw [Ab n _ _ (by omega) (by omega),Ab n _ _ (by omega) (by omega),Ab n _ _ (by omega) (by omega),Option.bind_some]
    refine T.ite (fun _=>T.ret rfl) (fun b1=>?_)
    rw [Option.bind_some]
    refine T.ite (fun _=>T.ret rfl) (fun b2=>?_)
    rw [Option.bind_some]
    refine T.ite (fun _=>T.ret rfl) (fun b3=>?_)
    have hkd:kd=1∨kd=2∨kd=3∨kd=4∨kd=5∨kd=6:=by omega
    have go:∀ aq rl,(kd=1∨kd=2→aq=false∧rl=false)→T ((bw n (Ask.mk kd addr value op aq0 rl0 pr su) found d (ha:Int) (at1:Int) (aq,rl)).bind fun t=>some t) (fun b=>b=true):=fun aq rl haq=>by
      rw [rt]
      unfold bw
      dsimp only
      refine (AL n pr 16 (by decide) (by decide)).bind (fun ya1 p1=>(AL n su 16 (by decide) (by decide)).bind (fun ya2 p2=>?_))
      obtain ⟨r,hr1,hr2,ur⟩:=EJ n (by omega) op wf wv
      rw [hr2,Option.bind_some,core n hn kd addr value op pr su aq0 rl0 found d ha at1 ya1 ya2 r aq rl l1 l2 l3 (by omega) (by omega) wa wf wv ur hkd hr1 haq p1 p2 h0 (by simpa using b1) (by simpa using b2) (by simpa using b3)]
      exact T.ret rfl
    refine T.ite (fun _=>go _ _ (fun _=>⟨rfl,rfl⟩)) (fun h1=>T.ite (fun _=>go _ _ (fun _=>⟨rfl,rfl⟩)) (fun h2=>go _ _ (fun h=>?_)))
    simp at h1 h2
    omega
  obtain ⟨b,e,rfl⟩:=this
  exact e
theorem Ad (hart at_:Int) (a:Ask) (found:Int) (d:Deps) (_w0:xn .i64 hart) (_w1:xn .i64 at_) (wa:a.wf) (wf:xn .u64 found) (_wd:d.wf):eO 1000 hart at_ a found d=some true:=by
  have cv:∀ x:Int,xn .u64 x→U x:=fun x h=>by
    rw [CX] at h
    unfold U
    omega
  exact BE 1000 (by decide) hart at_ a found d (cv _ wa.2.1) (cv _ wa.2.2.1) (cv _ wf)

end Go.Proofs.YtnmmknnnggcijaaDoor
