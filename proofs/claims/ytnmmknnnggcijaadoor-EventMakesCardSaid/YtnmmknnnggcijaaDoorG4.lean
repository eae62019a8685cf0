/- What the law asks of an event that was made -/
import Derived.Test.YtnmmknnnggcijaaDoorG3
namespace Go.Proofs.YtnmmknnnggcijaaDoor
open Go A

theorem xm (n:Nat) (l:List Int) (hl:l.length≤100) (hn:200≤n):cE n l l=some true:=by
  have:T (cE n l l) (fun b=>b=true):=by
    unfold cE
    rw [if_neg (by simp)]
    refine T.bind (P:=fun t=>t=.inl ()) ?_ (fun t ht=>by subst ht; exact T.ret rfl)
    refine T.loop l.length (fun i s=>s=(i:Int)) _ (fun i s hi hs=>?_) rfl (by omega)
    subst hs
    unfold ga
    refine T.ite (fun h=>?_) (fun _=>T.fin rfl)
    rw [decide_eq_true_eq] at h
    have hi':i<l.length:=by omega
    exact T.get i rfl hi' (T.get i rfl hi' (T.ite (fun h=>by simp at h) (fun _=>T.next ⟨hi',yS i (by omega)⟩)))
  obtain ⟨b,e,rfl⟩:=this
  exact e
theorem EN (n:Nat) (hn:200≤n):pe n (Deps.mk ([]:List Int) ([]:List Int) ([]:List Int)) (Deps.mk ([]:List Int) ([]:List Int) ([]:List Int))=some true:=by
  unfold pe
  rw [xm n [] (by simp) hn]
  rfl
theorem EO (n:Nat) (hn:200≤n) (kd addr value op pr su:Int) (aq0 rl0:Bool) (found:Int) (d:Deps) (ha at1:Nat) (ya1 ya2:Int) (ya3:Int×Int) (aq rl:Bool) (E:Event)
    (hs:small E) (l1:d.Addr.length≤60) (l2:d.Data.length≤60) (l3:d.Way.length≤60) (hok:xj E=true) (hk:E.Kind=kd) (hh:E.Hart=(ha:Int)) (h8:ha<8) (hat:E.At=((1 + at1:Nat):Int)) (h1000:at1<1000) (u1:U E.Addr) (u2:U E.Load) (u3:U E.Store)
    (hkd:kd=1∨kd=2∨kd=3∨kd=4∨kd=5∨kd=6)
    (f6:kd=6→E.Pred=ya1∧E.Succ=ya2∧E.Deps=Deps.mk [] [] [])
    (fm:kd≠6→E.Addr=addr∧E.Aq=aq∧E.Rl=rl∧E.Deps.Addr=d.Addr∧E.Deps.Way=d.Way)
    (fl:ul kd=true→E.Load=found) (fa:kd=5→E.Store=ya3.1) (fs:kd=2∨kd=4→E.Store=value)
    (fp:E.Pair=if kd=4 then (at1:Int) else 0) (fd:E.Deps.Data=if nM kd=true then d.Data else []) :
    bQ n (Ask.mk kd addr value op aq0 rl0 pr su) found d (ha:Int) (at1:Int) ya1 ya2 ya3 (E.Hart,E.At,E.Pair,E.Deps.Addr,E.Deps.Data,E.Deps.Way,E.Kind,E.Addr,E.Load,E.Store,E.Aq,E.Rl,E.Pred,E.Succ,aq,rl,0)=some true:=by
  obtain ⟨tx,ht,h9⟩:=Fh n hn E hs hok hh h8 hat (by omega) u1 u2 u3
  have hck:=z7 n E hs (by omega)
  rw [hok] at hck
  have ea:av .i64 1 (at1:Int)=((1 + at1:Nat):Int):=by rw [xt (by omega) (by omega)]; omega
  have es:aE .i64 ((1 + at1:Nat):Int) 1=(at1:Int):=by rw [BJ (by omega) (by omega)]; omega
  have kA:=xm n d.Addr (by omega) hn
  have kB:=xm n d.Data (by omega) hn
  have kC:=xm n d.Way (by omega) hn
  have kD:=EN n hn
  have h9':decide ((tx.size:Int)<9)=false:=by simp; omega
  have eta:Event.mk E.Hart E.At E.Kind E.Addr E.Load E.Store E.Aq E.Rl E.Pred E.Succ E.Pair (Deps.mk E.Deps.Addr E.Deps.Data E.Deps.Way)=E:=rfl
  unfold bQ
  dsimp only
  rw [eta,hck,ht,hh,hat,ea,if_neg (by decide),Option.bind_some,if_neg (by decide),if_neg (by simp),if_neg (by simp),Option.bind_some,h9',if_neg (by decide)]
  rw [rt]
  unfold eF
  dsimp only
  have eta2:Event.mk (ha:Int) ((1 + at1:Nat):Int) E.Kind E.Addr E.Load E.Store E.Aq E.Rl E.Pred E.Succ E.Pair (Deps.mk E.Deps.Addr E.Deps.Data E.Deps.Way)=E:=by rw [← hh,← hat]
  by_cases h6:kd=6
  · subst h6
    obtain ⟨g1,g2,g3⟩:=f6 rfl
    rw [eta2,xl,hk,g1,g2,g3]
    simp [kD,z8,ul,nM]
  · obtain ⟨g1,g2,g3,g4,g5⟩:=fm h6
    have e6:¬ ((kd==6)=true):=by simpa using h6
    rw [if_neg e6,rt]
    have r1:=o7 n E
    have w1:=kp n E
    rw [hk] at r1 w1
    rw [hk,g1,g2,g3,g4,g5,fp,fd]
    have ea2:av .i64 1 (at1:Int)=1 + (at1:Int):=by rw [xt (by omega) (by omega)]
    have es2:aE .i64 (1 + (at1:Int)) 1=(at1:Int):=by rw [BJ (by omega) (by omega)]; omega
    have z0:at1=0∨(¬ ((0:Int)=(at1:Int))∧0<at1):=by omega
    rcases hkd with rfl | rfl | rfl | rfl | rfl | rfl
    case inr.inr.inr.inr.inr=>exact (h6 rfl).elim
    all_goals
      simp only [ul,Int.reduceEq,Int.reduceBEq,Bool.or_true,Bool.or_false,Bool.false_eq_true,forall_const,true_or,or_true,or_self,false_implies] at fl fa fs
      rcases z0 with rfl | ⟨z1,z2⟩
      · simp [dN,bv,bu,ci,ar,o7,kp,kA,kB,kC,fl,fa,fs,ul,nM]
        try decide
      · simp [dN,bv,bu,ci,ar,o7,kp,kA,kB,kC,ea2,es2,z1,fl,fa,fs,ul,nM]

end Go.Proofs.YtnmmknnnggcijaaDoor
