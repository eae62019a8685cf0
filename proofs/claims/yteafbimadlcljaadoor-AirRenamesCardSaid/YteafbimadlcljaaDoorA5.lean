/- Check has an answer; where it says yes, each step may be -/
import Derived.Test.YteafbimadlcljaaDoorA4
namespace Go.Proofs.YteafbimadlcljaaDoor
open Go A

/-! ### The last of a worklist -/
theorem xh {init:List Nat} {k:Nat} (h:init.length≤10000000):b_ .i64 ((Ns (init++[k])).length:Int) 1=(init.length:Int):=by
  rw [eK,List.length_append,List.length_singleton,Es _ (by omega) (by omega)]
  rfl
theorem xi {init:List Nat} {k:Nat}:aH (Ns (init++[k])) (init.length:Int)=some (k:Int):=by
  rw [ko]
  unfold Ns
  rw [List.map_append,List.getElem?_append_right (by rw [List.length_map]; exact Nat.le_refl _),List.length_map,Nat.sub_self]
  rfl
theorem ui {init:List Nat} {k:Nat}:(Ns (init++[k])).take ((init.length:Int)).toNat=Ns init:=by
  unfold Ns
  rw [Int.toNat_natCast,List.map_append,List.take_left' (List.length_map ..)]
theorem xj {init:List Nat} {k:Nat}:(decide ((0:Int)≤(init.length:Int))&&decide ((init.length:Int)≤((Ns (init++[k])).length:Int)))=true:=by
  rw [eK,List.length_append]
  simp
  omega
theorem Wk.init {cs:List (Option W)} {init:List Nat} {k:Nat} (h:Wk cs (init++[k])):Wk cs init:=fun j hj=>h j (List.mem_append_left _ hj)
theorem fL {cs:List (Option W)} {k:Nat} {x:Option W} (h:cs[k]?=some x):cs.set k x=cs:=by
  obtain ⟨h1,h2⟩:=List.getElem?_eq_some_iff.1 h
  rw [← h2,List.set_getElem_self]

/-- Rounds by a measure that the state does not show. -/
theorem T.fall {σ τ:Type} {step:σ→Option (σ⊕τ)} (Inv:Nat→σ→Prop) (Post:τ→Prop)
    (hs:∀ m s,Inv m s→T (step s) (Rd (fun s'=>∃ m',m'<m∧Inv m' s') Post)):∀ (n m:Nat) (s:σ),Inv m s→m<n→T (iter step n s) Post
  | 0,_,_,_,h=>by omega
  | n + 1,m,s,h0,h=>by
    rw [uW]
    obtain ⟨r,e,p⟩:=hs m s h0
    rw [e]
    cases r with
    | inl s' =>
      obtain ⟨m',h1,h2⟩:=p
      exact T.fall Inv Post hs n m' s' h2 (by omega)
    | inr t=>exact T.ret p
theorem snoc {α:Type} (l:List α):l=[]∨∃ init x,l=init++[x]:=by
  rcases List.eq_nil_or_concat l with h | ⟨i,x,h⟩
  · exact .inl h
  · exact .inr ⟨i,x,by rw [h]; try rw [List.concat_eq_append]⟩

theorem Im {R B:Nat} (hR0:R≠0) (hR:R≤60) (n:Nat) (c:bh) (hl:c.Steps.length≤120) (hok:∀ k (h:k<c.Steps.length),r5 c.Steps[k] (R:Int)) (hB:B≤1000000) (hn:B<n) (cs:List (Option W)) (ws:List Nat) (hcs:cs.length=c.Steps.length) (hw:Wk cs ws) (hm:mW cs ws≤B) (hn3:3≤n) :
    T (iter (fun s=>dE n c s) n (Cs R cs,Ns ws)) (fun t=>∃ cs',t=Cs R cs'∧cs'.length=c.Steps.length):=by
  refine T.fall (fun m s=>∃ cs ws,s=(Cs R cs,Ns ws)∧cs.length=c.Steps.length∧Wk cs ws∧mW cs ws=m∧m≤B) _ (fun m s hs=>?_) n (mW cs ws) _ ⟨cs,ws,rfl,hcs,hw,rfl,hm⟩ (by omega)
  clear hm hw hcs
  obtain ⟨cs,ws,rfl,hcs,hw,rfl,hm⟩:=hs
  unfold dE
  rcases snoc ws with rfl | ⟨init,k,rfl⟩
  · exact T.fin ⟨cs,rfl,hcs⟩
  · have hlen:init.length + 1≤mW cs (init++[k]):=by unfold mW; rw [List.length_append,List.length_singleton]; omega
    have hmi:mW cs init + 1=mW cs (init++[k]):=by unfold mW; rw [List.length_append,List.length_singleton]; omega
    obtain ⟨b,hb⟩:=hw k (List.mem_append_right _ (List.mem_singleton.2 rfl))
    obtain ⟨hk,hb'⟩:=List.getElem?_eq_some_iff.1 hb
    have hkN:k<c.Steps.length:=by omega
    rw [if_pos (by show decide (((Ns (init++[k])).length:Int)>0)=true; rw [eK,List.length_append]; simp)]
    dsimp only
    rw [xh (by omega)]
    refine T.eqb xi (T.grd xj (T.eqb (iJ hk) (T.matchO (fun e=>?_) (fun z e=>?_))))
    · rw [hb'] at e
      cases e
    rw [hb',Option.map_some,Option.some.injEq] at e
    subst e
    refine T.eqb (AF hR0 b) (T.get k rfl hkN (T.eqb (r4 n _) ?_))
    rw [ui,gI,fL hb]
    have hnx:=AC c k hkN (by omega)
    have done:∀ o:W,T ((iter (fun s=>bO n c s) n (Cs R cs,Ns init,sw R o,xd c k,((xd c k).length:Int),0)).bind fun ta13=>some (.inl (ta13.1,ta13.2):(List (Option (List Int))×List Int)⊕(List (Option (List Int))))) (Rd (fun s'=>∃ m',m'<mW cs (init++[k])∧∃ cs ws,s'=(Cs R cs,Ns ws)∧cs.length=c.Steps.length∧Wk cs ws∧mW cs ws=m'∧m'≤B) (fun t=>∃ cs',t=Cs R cs'∧cs'.length=c.Steps.length)):=fun o=>by
      refine (Il (B:=mW cs init) hR0 n hn3 c o _ hnx (by omega) cs init hcs hw.init (Nat.le_refl _)).bind (fun t ht=>?_)
      obtain ⟨cs',ws',rfl,h1,h2,h3⟩:=ht
      exact T.next ⟨mW cs' ws',by omega,cs',ws',rfl,h1,h2,rfl,by omega⟩
    refine T.ite (fun h=>?_) (fun _=>?_)
    · have hr:=(hok k hkN).2 h
      obtain ⟨r,hr1⟩:∃ r:Nat,(rv c.Steps[k]).1=(r:Int):=⟨(rv c.Steps[k]).1.toNat,by omega⟩
      rw [hr1] at hr ⊢
      exact T.eqb (Ev hR (by omega) n _ _ b) (T.eqb (uh n c k hkN (by omega)) (done _))
    · exact T.eqb (uh n c k hkN (by omega)) (done _)

/-- Whether a register among those that are read may be unwritten. -/
theorem BJ {R:Nat} (hR:R≤60) (n:Nat) (hn:10≤n) (l:List Int) (hl:l.length≤3) (hr:∀ r∈l,0≤r∧r<(R:Int)) (cs:List (Option W)) (i:Nat) (hi:i<cs.length) (b:W) :
    T (bj n l (Cs R cs) ((i:Int)).toNat (i:Int) (sw R b)) (fun _=>True):=by
  unfold bj cw
  refine T.bind (P:=fun _=>True) ?_ (fun _ _=>T.ret trivial)
  refine T.bind (P:=fun _=>True) ?_ (fun t _=>by cases t <;> exact T.ret trivial)
  refine T.loop l.length (fun j s=>s=(j:Int)) _ (fun j s hj hs=>?_) rfl (by omega)
  subst hs
  unfold bB
  refine T.ite (fun h=>?_) (fun _=>T.fin trivial)
  rw [decide_eq_true_eq] at h
  have hj':j<l.length:=by omega
  refine T.get j rfl hj' ?_
  have hrr:=hr l[j] (List.getElem_mem hj')
  obtain ⟨r,hr1⟩:∃ r:Nat,l[j]=(r:Int):=⟨l[j].toNat,by omega⟩
  rw [hr1] at hrr ⊢
  have:c_ n (r:Int) (Cs R cs) ((i:Int)).toNat (i:Int) (sw R b)=some (!b.getLsbD r):=by
    unfold c_
    rw [iJ hi,Option.bind_some,jF (by
      rw [Nat.beq_refl,Bool.true_and,Int.toNat_natCast,Nat.blt_eq]
      unfold Cs
      rw [List.length_map]
      exact hi),Fq hR (by omega)]
    rfl
  refine T.eqb this (T.ite (fun _=>T.fin trivial) (fun _=>T.next ⟨hj',ga j (by omega)⟩))
theorem Io {R:Nat} (hR0:R≠0) (hR:R≤60) (n:Nat) (c:bh) (hl:c.Steps.length≤120) (hok:∀ k (h:k<c.Steps.length),r5 c.Steps[k] (R:Int)) (hn:200≤n) (cs:List (Option W)) (hcs:cs.length=c.Steps.length) :
    T (iter (fun s=>dG n c s) n (Cs R cs,0)) (fun _=>True):=by
  refine T.loop c.Steps.length (fun i s=>s=(Cs R cs,(i:Int))) _ (fun i s hi hs=>?_) rfl (by omega)
  subst hs
  unfold dG
  refine T.ite (fun h=>?_) (fun _=>T.fin trivial)
  rw [decide_eq_true_eq] at h
  have hi':i<c.Steps.length:=by simpa using h
  have hx:ac .i64 (i:Int) 1=((i + 1:Nat):Int):=ga i (by omega)
  have hic:i<cs.length:=by omega
  refine T.get i rfl hi' (T.eqb (iJ hic) (T.matchO (fun _=>T.next ⟨hi',by rw [hx]⟩) (fun z e=>?_)))
  rw [Option.map_eq_some_iff] at e
  obtain ⟨b,e,rfl⟩:=e
  refine T.grd (AD hR0 b) (T.eqb (o5 n _) ?_)
  refine (BJ hR n (by omega) _ (AA _).1 (hok i hi').1 cs i hic b).bind (fun y _=>T.ite (fun _=>T.fin trivial) (fun _=>T.next ⟨hi',?_⟩))
  rw [gI,fL (by rw [List.getElem?_eq_getElem hic,e]),hx]
theorem CZ {R:Nat} (hR0:R≠0) (hR:R≤60) (n:Nat) (c:bh) (hc:c.Regs=(R:Int)) (h1:1≤c.Steps.length) (hl:c.Steps.length≤120) (hok:∀ k (h:k<c.Steps.length),r5 c.Steps[k] (R:Int)) (hn:1000000<n):T (cM n c) (fun _=>True):=by
  unfold cM
  refine T.grd (by simp [Nat.blt]; omega) ?_
  rw [hc]
  refine T.eqb (G4 hR n _) ?_
  have e0:(List.replicate ((c.Steps.length:Int)).toNat (none:Option (List Int)))=Cs R (List.replicate c.Steps.length none):=by
    unfold Cs
    rw [Int.toNat_natCast,List.map_replicate]
    rfl
  rw [e0]
  have hz:0<(List.replicate c.Steps.length (none:Option W)).length:=by rw [List.length_replicate]; omega
  refine T.eqb (iJ (k:=0) hz) ?_
  have hset:(Cs R (List.replicate c.Steps.length none)).set 0 (some (sw R 0#64))=Cs R ((List.replicate c.Steps.length none).set 0 (some 0#64)):=gI 0 _
  rw [hset]
  have hm:mW ((List.replicate c.Steps.length none).set 0 (some 0#64)) [0]≤1000000:=by
    have:=xf wt 66 Ez ((List.replicate c.Steps.length none).set 0 (some 0#64))
    rw [List.length_set,List.length_replicate] at this
    unfold mW
    rw [List.length_singleton]
    omega
  refine (Im hR0 hR n c hl hok (Nat.le_refl _) hn _ [0] (by rw [List.length_set,List.length_replicate]) (fun k hk=>?_) hm (by omega)).bind (fun t ht=>?_)
  · rw [List.mem_singleton.1 hk]
    exact ⟨0#64,by rw [List.getElem?_set_self hz]⟩
  · obtain ⟨cs',rfl,h2⟩:=ht
    exact (Io hR0 hR n c hl hok (by omega) cs' h2).bind (fun t _=>by cases t <;> exact T.ret trivial)

end Go.Proofs.YteafbimadlcljaaDoor
