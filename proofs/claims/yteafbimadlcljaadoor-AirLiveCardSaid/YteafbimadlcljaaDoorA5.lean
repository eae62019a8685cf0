/- Check has an answer; where it says yes, each step may be -/
import Derived.Test.YteafbimadlcljaaDoorA4
namespace Go.Proofs.YteafbimadlcljaaDoor
open Go A

/-! ### The last of a worklist -/
theorem va {init:List Nat} {k:Nat} (h:init.length≤10000000):aW .i64 ((Ns (init++[k])).length:Int) 1=(init.length:Int):=by
  rw [eX,List.length_append,List.length_singleton,BK _ (by omega) (by omega)]
  rfl
theorem vb {init:List Nat} {k:Nat}:ba (Ns (init++[k])) (init.length:Int)=some (k:Int):=by
  rw [mX]
  unfold Ns
  rw [List.map_append,List.getElem?_append_right (by rw [List.length_map]; exact Nat.le_refl _),List.length_map,Nat.sub_self]
  rfl
theorem rT {init:List Nat} {k:Nat}:(Ns (init++[k])).take ((init.length:Int)).toNat=Ns init:=by
  unfold Ns
  rw [Int.toNat_natCast,List.map_append,List.take_left' (List.length_map ..)]
theorem vc {init:List Nat} {k:Nat}:(decide ((0:Int)≤(init.length:Int))&&decide ((init.length:Int)≤((Ns (init++[k])).length:Int)))=true:=by
  rw [eX,List.length_append]
  simp
  omega
theorem Wk.init {cs:List (Option W)} {init:List Nat} {k:Nat} (h:Wk cs (init++[k])):Wk cs init:=fun j hj=>h j (List.mem_append_left _ hj)
theorem gz {cs:List (Option W)} {k:Nat} {x:Option W} (h:cs[k]?=some x):cs.set k x=cs:=by
  obtain ⟨h1,h2⟩:=List.getElem?_eq_some_iff.1 h
  rw [← h2,List.set_getElem_self]

/-- Rounds by a measure that the state does not show. -/
theorem T.fall {σ τ:Type} {step:σ→Option (σ⊕τ)} (Inv:Nat→σ→Prop) (Post:τ→Prop)
    (hs:∀ m s,Inv m s→T (step s) (Rd (fun s'=>∃ m',m'<m∧Inv m' s') Post)):∀ (n m:Nat) (s:σ),Inv m s→m<n→T (iter step n s) Post
  | 0,_,_,_,h=>by omega
  | n + 1,m,s,h0,h=>by
    rw [sH]
    obtain ⟨r,e,p⟩:=hs m s h0
    rw [e]
    cases r with
    | inl s' =>
      obtain ⟨m',h1,h2⟩:=p
      exact T.fall Inv Post hs n m' s' h2 (by omega)
    | inr t=>exact T.ret p
theorem snoc {α:Type} (l:List α):l=[]∨∃ init x,l=init++[x]:=by
  rcases List.eq_nil_or_concat l with h | ⟨i,x,h⟩
  · exact .inl h
  · exact .inr ⟨i,x,by rw [h]; try rw [List.concat_eq_append]⟩

theorem Fv {R B:Nat} (hR0:R≠0) (hR:R≤60) (n:Nat) (c:bG) (hl:c.Steps.length≤120) (hok:∀ k (h:k<c.Steps.length),u7 c.Steps[k] (R:Int)) (hB:B≤1000000) (hn:B<n) (cs:List (Option W)) (ws:List Nat) (hcs:cs.length=c.Steps.length) (hw:Wk cs ws) (hm:mW cs ws≤B) (hn3:3≤n) :
    T (iter (fun s=>dW n c s) n (Cs R cs,Ns ws)) (fun t=>∃ cs',t=Cs R cs'∧cs'.length=c.Steps.length):=by
  refine T.fall (fun m s=>∃ cs ws,s=(Cs R cs,Ns ws)∧cs.length=c.Steps.length∧Wk cs ws∧mW cs ws=m∧m≤B) _ (fun m s hs=>?_) n (mW cs ws) _ ⟨cs,ws,rfl,hcs,hw,rfl,hm⟩ (by omega)
  clear hm hw hcs
  obtain ⟨cs,ws,rfl,hcs,hw,rfl,hm⟩:=hs
  unfold dW
  rcases snoc ws with rfl | ⟨init,k,rfl⟩
  · exact T.fin ⟨cs,rfl,hcs⟩
  · have hlen:init.length + 1≤mW cs (init++[k]):=by unfold mW; rw [List.length_append,List.length_singleton]; omega
    have hmi:mW cs init + 1=mW cs (init++[k]):=by unfold mW; rw [List.length_append,List.length_singleton]; omega
    obtain ⟨b,hb⟩:=hw k (List.mem_append_right _ (List.mem_singleton.2 rfl))
    obtain ⟨hk,hb'⟩:=List.getElem?_eq_some_iff.1 hb
    have hkN:k<c.Steps.length:=by omega
    rw [if_pos (by show decide (((Ns (init++[k])).length:Int)>0)=true; rw [eX,List.length_append]; simp)]
    dsimp only
    rw [va (by omega)]
    refine T.eqb vb (T.grd vc (T.eqb (mU hk) (T.matchO (fun e=>?_) (fun z e=>?_))))
    · rw [hb'] at e
      cases e
    rw [hb',Option.map_some,Option.some.injEq] at e
    subst e
    refine T.eqb (Bq hR0 b) (T.get k rfl hkN (T.eqb (qh n _) ?_))
    rw [rT,lb,gz hb]
    have hnx:=wJ c k hkN (by omega)
    have done:∀ o:W,T ((iter (fun s=>ck n c s) n (Cs R cs,Ns init,sw R o,vf c k,((vf c k).length:Int),0)).bind fun ta13=>some (.inl (ta13.1,ta13.2):(List (Option (List Int))×List Int)⊕(List (Option (List Int))))) (Rd (fun s'=>∃ m',m'<mW cs (init++[k])∧∃ cs ws,s'=(Cs R cs,Ns ws)∧cs.length=c.Steps.length∧Wk cs ws∧mW cs ws=m'∧m'≤B) (fun t=>∃ cs',t=Cs R cs'∧cs'.length=c.Steps.length)):=fun o=>by
      refine (Fu (B:=mW cs init) hR0 n hn3 c o _ hnx (by omega) cs init hcs hw.init (Nat.le_refl _)).bind (fun t ht=>?_)
      obtain ⟨cs',ws',rfl,h1,h2,h3⟩:=ht
      exact T.next ⟨mW cs' ws',by omega,cs',ws',rfl,h1,h2,rfl,by omega⟩
    refine T.ite (fun h=>?_) (fun _=>?_)
    · have hr:=(hok k hkN).2 h
      obtain ⟨r,hr1⟩:∃ r:Nat,(nR c.Steps[k]).1=(r:Int):=⟨(nR c.Steps[k]).1.toNat,by omega⟩
      rw [hr1] at hr ⊢
      exact T.eqb (De hR (by omega) n _ _ b) (T.eqb (pK n c k hkN (by omega)) (done _))
    · exact T.eqb (pK n c k hkN (by omega)) (done _)

/-- Whether a register among those that are read may be unwritten. -/
theorem zC {R:Nat} (hR:R≤60) (n:Nat) (hn:10≤n) (l:List Int) (hl:l.length≤3) (hr:∀ r∈l,0≤r∧r<(R:Int)) (cs:List (Option W)) (i:Nat) (hi:i<cs.length) (b:W) :
    T (bK n l (Cs R cs) ((i:Int)).toNat (i:Int) (sw R b)) (fun _=>True):=by
  unfold bK cT
  refine T.bind (P:=fun _=>True) ?_ (fun _ _=>T.ret trivial)
  refine T.bind (P:=fun _=>True) ?_ (fun t _=>by cases t <;> exact T.ret trivial)
  refine T.loop l.length (fun j s=>s=(j:Int)) _ (fun j s hj hs=>?_) rfl (by omega)
  subst hs
  unfold bJ
  refine T.ite (fun h=>?_) (fun _=>T.fin trivial)
  rw [decide_eq_true_eq] at h
  have hj':j<l.length:=by omega
  refine T.get j rfl hj' ?_
  have hrr:=hr l[j] (List.getElem_mem hj')
  obtain ⟨r,hr1⟩:∃ r:Nat,l[j]=(r:Int):=⟨l[j].toNat,by omega⟩
  rw [hr1] at hrr ⊢
  have:dH n (r:Int) (Cs R cs) ((i:Int)).toNat (i:Int) (sw R b)=some (!b.getLsbD r):=by
    unfold dH
    rw [mU hi,Option.bind_some,lc (by
      rw [Nat.beq_refl,Bool.true_and,Int.toNat_natCast,Nat.blt_eq]
      unfold Cs
      rw [List.length_map]
      exact hi),Di hR (by omega)]
    rfl
  refine T.eqb this (T.ite (fun _=>T.fin trivial) (fun _=>T.next ⟨hj',iD j (by omega)⟩))
theorem Fw {R:Nat} (hR0:R≠0) (hR:R≤60) (n:Nat) (c:bG) (hl:c.Steps.length≤120) (hok:∀ k (h:k<c.Steps.length),u7 c.Steps[k] (R:Int)) (hn:200≤n) (cs:List (Option W)) (hcs:cs.length=c.Steps.length) :
    T (iter (fun s=>dX n c s) n (Cs R cs,0)) (fun _=>True):=by
  refine T.loop c.Steps.length (fun i s=>s=(Cs R cs,(i:Int))) _ (fun i s hi hs=>?_) rfl (by omega)
  subst hs
  unfold dX
  refine T.ite (fun h=>?_) (fun _=>T.fin trivial)
  rw [decide_eq_true_eq] at h
  have hi':i<c.Steps.length:=by simpa using h
  have hx:aH .i64 (i:Int) 1=((i + 1:Nat):Int):=iD i (by omega)
  have hic:i<cs.length:=by omega
  refine T.get i rfl hi' (T.eqb (mU hic) (T.matchO (fun _=>T.next ⟨hi',by rw [hx]⟩) (fun z e=>?_)))
  rw [Option.map_eq_some_iff] at e
  obtain ⟨b,e,rfl⟩:=e
  refine T.grd (BM hR0 b) (T.eqb (o4 n _) ?_)
  refine (zC hR n (by omega) _ (wG _).1 (hok i hi').1 cs i hic b).bind (fun y _=>T.ite (fun _=>T.fin trivial) (fun _=>T.next ⟨hi',?_⟩))
  rw [lb,gz (by rw [List.getElem?_eq_getElem hic,e]),hx]
theorem AM {R:Nat} (hR0:R≠0) (hR:R≤60) (n:Nat) (c:bG) (hc:c.Regs=(R:Int)) (h1:1≤c.Steps.length) (hl:c.Steps.length≤120) (hok:∀ k (h:k<c.Steps.length),u7 c.Steps[k] (R:Int)) (hn:1000000<n):T (eZ n c) (fun _=>True):=by
  unfold eZ
  refine T.grd (by simp [Nat.blt]; omega) ?_
  rw [hc]
  refine T.eqb (Ft hR n _) ?_
  have e0:(List.replicate ((c.Steps.length:Int)).toNat (none:Option (List Int)))=Cs R (List.replicate c.Steps.length none):=by
    unfold Cs
    rw [Int.toNat_natCast,List.map_replicate]
    rfl
  rw [e0]
  have hz:0<(List.replicate c.Steps.length (none:Option W)).length:=by rw [List.length_replicate]; omega
  refine T.eqb (mU (k:=0) hz) ?_
  have hset:(Cs R (List.replicate c.Steps.length none)).set 0 (some (sw R 0#64))=Cs R ((List.replicate c.Steps.length none).set 0 (some 0#64)):=lb 0 _
  rw [hset]
  have hm:mW ((List.replicate c.Steps.length none).set 0 (some 0#64)) [0]≤1000000:=by
    have:=u_ wt 66 Dk ((List.replicate c.Steps.length none).set 0 (some 0#64))
    rw [List.length_set,List.length_replicate] at this
    unfold mW
    rw [List.length_singleton]
    omega
  refine (Fv hR0 hR n c hl hok (Nat.le_refl _) hn _ [0] (by rw [List.length_set,List.length_replicate]) (fun k hk=>?_) hm (by omega)).bind (fun t ht=>?_)
  · rw [List.mem_singleton.1 hk]
    exact ⟨0#64,by rw [List.getElem?_set_self hz]⟩
  · obtain ⟨cs',rfl,h2⟩:=ht
    exact (Fw hR0 hR n c hl hok (by omega) cs' h2).bind (fun t _=>by cases t <;> exact T.ret trivial)

theorem DV (n:Nat) (c:bG) (hl:c.Steps.length≤120) (hn:200≤n) (st:Int):T (aC n c.Steps c.Regs c.Steps st) (fun b=>b=false→∀ k (h:k<c.Steps.length),u7 c.Steps[k] c.Regs):=by
  unfold aC bq
  refine T.bind (P:=fun y=>y<0→∀ k (h:k<c.Steps.length),u7 c.Steps[k] c.Regs) ?_ (fun y hy=>T.ret (fun h=>hy (by simpa using h)))
  refine T.bind (P:=Rd (fun _:Unit=>∀ k (h:k<c.Steps.length),u7 c.Steps[k] c.Regs) (fun w:Int=>0≤w)) ?_ (fun t ht=>by
    cases t with
    | inl w=>exact T.ret (fun _=>ht)
    | inr w=>exact T.ret (fun h=>by have:0≤w:=ht; omega))
  refine T.loop c.Steps.length (fun i s=>s=(i:Int)∧∀ k (h:k<c.Steps.length),k<i→u7 c.Steps[k] c.Regs) _ (fun i s hi hs=>?_) ⟨rfl,fun k h h2=>by omega⟩ (by omega)
  obtain ⟨rfl,hs⟩:=hs
  unfold aX
  refine T.ite (fun h=>?_) (fun h=>T.fin ?_)
  · rw [decide_eq_true_eq] at h
    have hi':i<c.Steps.length:=by omega
    refine T.get i rfl hi' ?_
    unfold iG
    refine T.bind (P:=fun b=>b=false→u7 c.Steps[i] c.Regs) ((DT n _ _ _).bind (fun y hy=>T.ret (fun h=>hy (by simpa using h)))) (fun b hb=>?_)
    refine T.ite (fun _=>T.fin (by show (0:Int)≤(i:Int); omega)) (fun h2=>T.next ⟨hi',iD i (by omega),fun k hk hki=>?_⟩)
    by_cases e:k=i
    · subst e
      exact hb h2
    · exact hs k hk (by omega)
  · rw [decide_eq_false_iff_not] at h
    exact fun k hk=>hs k hk (by omega)
/-- What Check tells. -/
theorem CC (n:Nat) (c:bG) (hl:c.Steps.length≤120) (hR:c.Regs≤60) (hn:1000000<n):T (gW n c) (fun y=>y=0→0≤c.Regs∧1≤c.Steps.length∧∀ k (h:k<c.Steps.length),u7 c.Steps[k] c.Regs):=by
  unfold gW
  have no:∀ {Q:Prop},T (some (2:Int)) (fun y=>y=0→Q):=fun {Q}=>T.ret (fun h=>by cases h)
  refine T.ite (fun _=>no) (fun h1=>T.ite (fun _=>no) (fun h2=>T.ite (fun _=>no) (fun h3=>T.ite (fun _=>no) (fun h4=>?_))))
  rw [decide_eq_false_iff_not] at h1 h3
  obtain ⟨R,hRe⟩:∃ R:Nat,c.Regs=(R:Int):=⟨c.Regs.toNat,by omega⟩
  have h3':1≤c.Steps.length:=by omega
  refine T.get (c.Steps.length - 1) (BK _ h3' (by omega)) (by omega) ?_
  have body:T ((aC n c.Steps c.Regs c.Steps (c.Steps.length:Int)).bind fun y8=>if y8=true then some (2:Int) else if (decide (c.Regs>0))=true then (eZ n c).bind fun y11=>if (!y11)=true then some 2 else some 0 else some 0) (fun y=>y=0→0≤c.Regs∧1≤c.Steps.length∧∀ k (h:k<c.Steps.length),u7 c.Steps[k] c.Regs):=by
    refine (DV n c hl (by omega) _).bind (fun b hb=>T.ite (fun _=>no) (fun h=>?_))
    have hok:=hb h
    have fin:0≤c.Regs∧1≤c.Steps.length∧∀ k (h:k<c.Steps.length),u7 c.Steps[k] c.Regs:=⟨by omega,h3',hok⟩
    refine T.ite (fun h5=>?_) (fun _=>T.ret (fun _=>fin))
    rw [decide_eq_true_eq] at h5
    exact (AM (R:=R) (by omega) (by omega) n c hRe h3' hl (by rw [← hRe]; exact hok) hn).bind (fun y _=>T.ite (fun _=>no) (fun _=>T.ret (fun _=>fin)))
  exact T.ite (fun _=>T.ite (fun _=>no) (fun _=>body)) (fun _=>body)

end Go.Proofs.YteafbimadlcljaaDoor
