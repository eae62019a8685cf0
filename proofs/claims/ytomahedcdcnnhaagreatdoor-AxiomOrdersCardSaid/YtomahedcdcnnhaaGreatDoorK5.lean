/- Code, functions, fuel. Nothing is claimed here of the program. -/
import Derived.Test.YtomahedcdcnnhaaGreatDoorK4
import Derived.TacticsIn
import Derived.OrdersIn
import Derived.LoopNIn
namespace Go.Proofs.YtomahedcdcnnhaaGreatDoor
namespace A
open Go
open Go.RowKit (Below)
def JU (E:Env) (w:World):Gh:={ w0:=w,M:=fun b=>∃ k o s n,zJ E.mu k=some (.blk b o s n),F:=E.F,mu:=fun id=>E.mu (.O id) }
def JL (o:List Ob) (b:Nat):St:={ t:=[],l:=[],o:=o,b:=b }
def qY (P:Program) (f:Nat) (args:List AV) (o:List Ob) (K:AV→List Ob→Prop):Prop :=
 sJ P f∧∀ (E:Env) (w:World) (us:Array Value),ap (JU E w) pn E (JL o o.length) w→Dz E→ca E args us.toList →
  Calls P f us w fun e w'=>∃ v r o' E',K r o'∧e=.returned v∧ap (JU E w) pn E' (JL o' o.length) w'∧VR E' r v
theorem vk:∀ {xs ys:List Ob} {n j:Nat} {x:Ob},xs[j]?=some x→x≠.dead→ys[j]?=some .dead→n + j∈bR xs ys n
 | [],_,_,_,_,h,_,_=>by simp at h
 | _::_,[],_,_,_,_,_,h=>by simp at h
 | x0::xs,y0::ys,n,0,x,h1,h2,h3=>by
  simp at h1 h3
  subst h1 h3
  cases x0 with
  | dead=>exact absurd rfl h2
  | arr _ _ _=>simp [bR]
  | mapo _ _=>simp [bR]
  | own _ _ _ _=>simp [bR]
 | x0::xs,y0::ys,n,j + 1,x,h1,h2,h3=>by
  have ih:=vk (xs:=xs) (ys:=ys) (n:=n + 1) (j:=j) (by simpa using h1) h2 (by simpa using h3)
  rw [show n + 1 + j=n + (j + 1) by omega] at ih
  cases x0 <;> cases y0 <;> simp [bR,ih]
def A5 (ids:List Nat) (t:List AV):List AV:=ids.foldl (fun t id=>t.map (de 4 (.O id))) t
def rJ (ids:List Nat) (l:List (Nat×List AV)):List (Nat×List AV):=ids.foldl (fun l id=>l.map (iB (.O id))) l
theorem xg:∀ {ids:List Nat} {t:List AV} {l:List (Nat×List AV)} {K:List AV→List (Nat×List AV)→Prop},kW ids t l K↔K (A5 ids t) (rJ ids l)
 | [],_,_,_=>Iff.rfl
 | id::ids,t,l,K=>by
  show nx _ _ _↔_
  rw [iV,iW]
  exact xg (ids:=ids)
theorem sM {a:Act}:∀ {ids:List Nat} {E:Env} {t:List AV},TR E t a→TR ⟨E.F,m8 ids E.mu,E.h⟩ (A5 ids t) a
 | [],_,_,h=>h
 | id::ids,E,_,h=>sM (ids:=ids) (E:=⟨E.F,aY E.mu (.O id),E.h⟩) (h.kill nC)
theorem vl {e:Nat} {row:List AV}:∀ {ids:List Nat} {l:List (Nat×List AV)},aR l e=some row→(∀ k,row.map (de 4 k)=row)→aR (rJ ids l) e=some row
 | [],_,h,_=>h
 | id::ids,l,h,hk=>vl (ids:=ids) (l:=l.map (iB (.O id))) (by
   rw [f9,h]
   show some _=_
   rw [hk]) hk
theorem sN {pd:Nat→Option (List AV)}:∀ {ids:List Nat} {E:Env} {l:List (Nat×List AV)},(∀ d,iG pd E (aR l d) d)→∀ d,iG pd ⟨E.F,m8 ids E.mu,E.h⟩ (aR (rJ ids l) d) d
 | [],_,_,h=>h
 | id::ids,E,l,h=>sN (ids:=ids) (E:=⟨E.F,aY E.mu (.O id),E.h⟩) (fun e=>by
  rw [f9]
  have hmu:aY E.mu (.O id) (.L e)=E.mu (.L e):=qy (fun h=>by cases h)
  have:=h e
  revert this
  cases aR l e with
  | none=>exact fun h=>hmu.trans h
  | some row =>
   rintro (⟨b',h1,h2⟩ | ⟨h1,h2⟩)
   ·refine .inl ⟨b',hmu.trans (by simpa using h1),?_⟩
    have:=h2.kill (nC (E:=E) (k:=.O id)) (h':=E.h) rfl
    simpa using this
   ·exact iG.pend_kill hmu h1 h2)
theorem pI:∀ {ids:List Nat} {mu:Key→Option MV} {d:Nat},m8 ids mu (.L d)=mu (.L d)
 | [],_,_=>rfl
 | id::ids,mu,d=>by
  show m8 ids (aY mu (.O id)) (.L d)=_
  rw [pI]
  exact qy (fun h=>by cases h)
theorem Mj (E:Env):E.ob.ob=E.ob:=by
 have:zJ (zJ E.mu)=zJ E.mu:=by
  funext k
  cases k <;> rfl
 unfold Env.ob
 rw [this]
theorem ju {E:Env} {k:Key} {x:MV} (h:E.ob.mu k=some x):E.mu k=some x:=gL (k:=k) h
theorem gZ.ob {E:Env} {x:Option Ob} {mv:Option MV} (h:gZ E x mv):gZ E.ob x mv:=by
 revert h
 cases x with
 | none=>cases mv <;> exact fun h=>h
 | some ob =>
  cases ob with
  | dead=>cases mv <;> exact fun h=>h
  | arr fl sz' rows =>
   cases mv with
   | none=>exact fun h=>h
   | some mv =>
    cases mv with
    | virt=>exact fun h=>h
    | blk b o s n =>
     cases fl with
     | true=>exact fun h=>h
     | false =>
      rintro ⟨h1,h2⟩
      refine ⟨h1,?_⟩
      show cv E.ob.ob _ _ _ _ _
      rw [Mj]
      exact h2
  | own _ _ _ _ =>
   cases mv with
   | none=>exact fun h=>h.elim
   | some mv=>cases mv <;> exact fun h=>h
  | mapo fl es =>
   cases mv with
   | none=>exact fun h=>h
   | some mv =>
    cases mv with
    | virt=>exact fun h=>h
    | blk b o s n =>
     rintro ⟨ms,clock,h1,h2,h3⟩
     refine ⟨ms,clock,h1,h2,fun i e m h4 h5=>?_⟩
     obtain ⟨h6,h7⟩:=h3 i e m h4 h5
     refine ⟨h6,?_⟩
     cases fl with
     | true=>exact h7
     | false =>
      show VR E.ob.ob _ _
      rw [Mj]
      exact h7
theorem fk.ob {E:Env} {id:Nat} {x:Option Ob} (h:fk E id x):fk E.ob id x:=h.mono rfl (fun _=>rfl) (LE.refl _) (by rw [Mj]; exact LE.refl _) (fun _ _ _ _ _ _ _=>rfl)
section
variable {G:Gh} {pd:Nat→Option (List AV)} {E:Env} {S:St} {w:World} {P:Program} {o:Oper} {a:Act}
theorem ap.sub (hM:ap G pd E S w):ap (JU E.ob w) pn E.ob (JL S.o S.o.length) w :=
 ⟨hM.hp,rfl,rfl,rfl,Nat.le_refl _,fun _ _ _=>rfl,fun _ h=>h,hM.Flt,fun _ h _=>.inl h,
  fun k b o s n h=>by
   cases k with
   | L d=>cases h
   | O id =>
    obtain ⟨h1,h2,_⟩:=hM.own _ b o s n (ju h)
    exact ⟨h1,h2,.inl ⟨.O id,o,s,n,h⟩⟩
   | S id i =>
    obtain ⟨h1,h2,_⟩:=hM.own _ b o s n (ju h)
    exact ⟨h1,h2,.inl ⟨.S id i,o,s,n,h⟩⟩,
  fun k k' b o s n o' s' n' h h'=>hM.inj k k' b o s n o' s' n' (ju h) (ju h'),fun _=>rfl,fun id=>(hM.obj id).ob,fun _ _=>.inr rfl,Nat.le_refl _,fun _ _=>rfl,fun _ _ h=>(by cases h),fun id=>(hM.ow id).ob⟩
def sO (mu mu':Key→Option MV):Key→Option MV
 | .L d=>mu (.L d)
 | .O id=>mu' (.O id)
 | .S id i=>mu' (.S id i)
theorem ap.back (hM:ap G pd E S w) (ht:TR E S.t a) {E':Env} {o':List Ob} {w':World} (hM':ap (JU E.ob w) pn E' (JL o' S.o.length) w') :
  ap G pd ⟨E'.F,sO E.mu E'.mu,E'.h⟩ { t:=A5 (bR S.o o' 0) S.t,l:=rJ (bR S.o o' 0) S.l,o:=o',b:=S.b } w'∧TR ⟨E'.F,sO E.mu E'.mu,E'.h⟩ (A5 (bR S.o o' 0) S.t) a∧LE E' ⟨E'.F,sO E.mu E'.mu,E'.h⟩:=by
 have hL':∀ d,E'.mu (.L d)=none:=fun d=>hM'.loc d
 have hsz:w.heap.size≤w'.heap.size:=hM'.size
 have notM:∀ b,E.F b→¬ (JU E.ob w).M b:=by
  rintro b hF ⟨k,x,s,n,h⟩
  exact (hM.own _ _ _ _ _ (ju (gL h))).1 hF
 have MG:∀ b,(JU E.ob w).M b→G.M b∨G.w0.heap.size≤b:=by
  rintro b ⟨k,x,s,n,h⟩
  exact (hM.own _ _ _ _ _ (ju (gL h))).2.2
 have Mlt:∀ b,(JU E.ob w).M b→b<w.heap.size:=by
  rintro b ⟨k,x,s,n,h⟩
  exact (hM.own _ _ _ _ _ (ju (gL h))).2.1
 have LnotM:∀ d b x s n,E.mu (.L d)=some (.blk b x s n)→¬ (JU E.ob w).M b:=by
  rintro d b x s n h ⟨k,x',s',n',h'⟩
  have:=hM.inj _ _ _ _ _ _ _ _ _ h (ju (gL h'))
  subst this
  cases h'
 have hle:LE ⟨E.F,m8 (bR S.o o' 0) E.mu,E.h⟩ ⟨E'.F,sO E.mu E'.mu,E'.h⟩:=by
  have kept:∀ id x,m8 (bR S.o o' 0) E.mu (.O id)=some x→E.mu (.O id)=some x∧E'.mu (.O id)=some x:=by
   intro id x h
   obtain ⟨h1,h2⟩:=kJ h
   refine ⟨h1,?_⟩
   have hob:=hM.obj id
   rw [h1] at hob
   have hid:id<S.o.length:=by
    rcases Nat.lt_or_ge id S.o.length with h3 | h3
    ·exact h3
    ·rw [List.getElem?_eq_none h3] at hob
     exact hob.elim
   rcases hM'.old id hid with h3 | h3
   ·exfalso
    have hx:=List.getElem?_eq_getElem hid
    rw [hx] at hob
    have hnd:S.o[id]≠.dead:=fun hd=>by rw [hd] at hob; exact hob.elim
    have:=vk (n:=0) hx hnd h3
    rw [Nat.zero_add] at this
    exact h2 _ this rfl
   ·rw [h3]; exact h1
  refine ⟨fun b h=>hM'.F0 b h,fun k x hs h=>?_,fun b h=>?_,fun k b x s n hs h=>?_⟩
  ·cases k with
   | S _ _=>cases hs
   | L d =>
    show E.mu (.L d)=_
    exact (pI (ids:=bR S.o o' 0)).symm.trans h
   | O id=>exact (kept id x h).2
  ·show E'.h[b]?=E.h[b]?
   rw [hM'.hp,hM.hp]
   exact hM'.keep b (hM.Flt b h) (notM b h)
  ·show bj E'.h b=bj E.h b
   rw [hM'.hp,hM.hp]
   have:b<w.heap.size:=(hM.own _ _ _ _ _ (kJ h).1).2.1
   exact hM'.szs b this
 refine ⟨⟨hM'.hp,hM'.os.trans hM.os,hM'.tape.trans hM.tape,hM'.output.trans hM.output,Nat.le_trans hM.size hsz,fun b h1 h2=>?_,fun b h=>hM'.F0 b (hM.F0 b h),hM'.Flt,fun b h1 h2=>?_,fun k b x s n h=>?_,fun k k' b x s n x' s' n' h h'=>?_,
  fun d=>?_,fun id=>?_,fun id hid=>?_,?_,fun b hb=>?_,fun e row h=>?_,fun id=>(hM'.ow id).mono rfl (fun _=>rfl) (LE.refl _) ⟨fun _ h=>h,fun k x hs h=>(by
   cases k with
   | L d=>cases h
   | O i=>exact h
   | S i j=>cases hs),fun _ _=>rfl,fun _ _ _ _ _ _ _=>rfl⟩ (fun _ _ _ _ _ _ _=>rfl)⟩,(sM ht).mono hle,⟨fun _ h=>h,fun k x hs h=>?_,fun _ _=>rfl,fun _ _ _ _ _ _ _=>rfl⟩⟩
 ·rw [hM'.keep b (Nat.lt_of_lt_of_le h1 hM.size) (fun h=>by
   rcases MG b h with h3 | h3
   ·exact h2 h3
   ·omega)]
  exact hM.keep b h1 h2
 ·rcases hM'.Fnew b h1 (Nat.lt_of_lt_of_le h2 hM.size) with h3 | h3
  ·exact hM.Fnew b h3 h2
  ·rcases MG b h3 with h4 | h4
   ·exact .inr h4
   ·omega
 ·cases k with
  | L d =>
   obtain ⟨h1,h2,h3⟩:=hM.own _ b x s n h
   refine ⟨fun hF=>?_,Nat.lt_of_lt_of_le h2 hsz,h3⟩
   rcases hM'.Fnew b hF h2 with h4 | h4
   ·exact h1 h4
   ·exact LnotM d b x s n h h4
  | O id =>
   obtain ⟨h1,h2,h3⟩:=hM'.own _ b x s n h
   refine ⟨h1,h2,?_⟩
   rcases h3 with h3 | h3
   ·exact MG b h3
   ·exact .inr (Nat.le_trans hM.size h3)
  | S id i =>
   obtain ⟨h1,h2,h3⟩:=hM'.own _ b x s n h
   refine ⟨h1,h2,?_⟩
   rcases h3 with h3 | h3
   ·exact MG b h3
   ·exact .inr (Nat.le_trans hM.size h3)
 ·have mix:∀ {d:Nat} {key:Key} {b x s n x' s' n':Nat},E.mu (.L d)=some (.blk b x s n)→E'.mu key=some (.blk b x' s' n')→False:=by
   intro d key b x s n x' s' n' h h'
   rcases (hM'.own _ _ _ _ _ h').2.2 with h3 | h3
   ·exact LnotM d b x s n h h3
   ·have h2:=(hM.own _ _ _ _ _ h).2.1
    have h3:w.heap.size≤b:=h3
    omega
  cases k with
  | L d =>
   cases k' with
   | L d'=>exact hM.inj _ _ _ _ _ _ _ _ _ h h'
   | O id=>exact (mix h h').elim
   | S id i=>exact (mix h h').elim
  | O id =>
   cases k' with
   | L d'=>exact (mix h' h).elim
   | O id'=>exact hM'.inj _ _ _ _ _ _ _ _ _ h h'
   | S id' i=>exact hM'.inj _ _ _ _ _ _ _ _ _ h h'
  | S id i =>
   cases k' with
   | L d'=>exact (mix h' h).elim
   | O id'=>exact hM'.inj _ _ _ _ _ _ _ _ _ h h'
   | S id' i=>exact hM'.inj _ _ _ _ _ _ _ _ _ h h'
 ·have:=sN (ids:=bR S.o o' 0) hM.loc d
  revert this
  show iG _ _ (aR (rJ (bR S.o o' 0) S.l) d) d→iG _ _ (aR (rJ (bR S.o o' 0) S.l) d) d
  cases aR (rJ (bR S.o o' 0) S.l) d with
  | none =>
   intro h
   show E.mu (.L d)=none
   exact (pI (ids:=bR S.o o' 0)).symm.trans h
  | some row =>
   rintro (⟨b,h1,h2,h3,us,ty,h4,h5,h6⟩ | ⟨h0,h⟩)
   ·have h1':E.mu (.L d)=some (.blk b 0 row.length 1):=pI.symm.trans h1
    refine .inl ⟨b,h1',h2,h3,us,ty,?_,h5,fun m c hc=>?_⟩
    ·show E'.h[b]?=_
     rw [hM'.hp,hM'.keep b (hM.own _ _ _ _ _ h1').2.1 (LnotM d b _ _ _ h1')]
     have:E.h[b]?=_:=h4
     rw [hM.hp] at this
     exact this
    ·obtain ⟨u,hu,hv⟩:=h6 m c hc
     exact ⟨u,hu,hv.mono hle⟩
   ·exact .inr ⟨show E.mu (.L d)=none from (pI (ids:=bR S.o o' 0)).symm.trans h0,h⟩
 ·have:=hM'.obj id
  refine this.mono2 (E':=⟨E'.F,sO E.mu E'.mu,E'.h⟩) ⟨fun _ h=>h,fun _ _ _ h=>(by cases h),fun _ _=>rfl,fun _ _ _ _ _ _ h=>(by cases h)⟩ ⟨fun _ h=>h,fun k x hs h=>?_,fun _ _=>rfl,fun _ _ _ _ _ _ _=>rfl⟩ (fun _ _ _ _ _=>rfl)
  cases k with
  | S _ _=>cases hs
  | L d=>cases h
  | O i=>exact h
 ·have hid':id<S.o.length:=Nat.lt_of_lt_of_le hid hM.bl
  rcases hM'.old id hid' with h | h
  ·exact .inl h
  ·rcases hM.old id hid with h2 | h2
   ·refine .inl ?_
    have hob:=hM.obj id
    rw [h2] at hob
    have hn:E.mu (.O id)=none:=by
     revert hob
     cases E.mu (.O id) with
     | none=>exact fun _=>rfl
     | some _=>exact fun h=>h.elim
    have hob':=hM'.obj id
    rw [h] at hob'
    have hn':(JU E.ob w).mu id=none:=hn
    rw [hn'] at hob'
    show o'[id]?=some .dead
    have hlt:id<o'.length:=Nat.lt_of_lt_of_le hid' hM'.bl
    have hx:(JL o' S.o.length).o[id]?=some o'[id]:=List.getElem?_eq_getElem hlt
    rw [hx] at hob'
    rw [List.getElem?_eq_getElem hlt]
    revert hob'
    cases o'[id] with
    | dead=>exact fun _=>rfl
    | arr _ _ _=>exact fun h=>h.elim
    | mapo _ _=>exact fun h=>h.elim
    | own _ _ _ _=>exact fun h=>h.elim
   ·refine .inr ?_
    show E'.mu (.O id)=G.mu id
    rw [h,← h2]
    rfl
 ·exact Nat.le_trans hM.bl hM'.bl
 ·rw [← hM.szs b hb]
  exact hM'.szs b (Nat.lt_of_lt_of_le hb hM.size)
 ·obtain ⟨h1,h2⟩:=hM.pk e row h
  exact ⟨h1,vl h2 (hM.pend_inv h)⟩
 ·cases k with
  | S _ _=>cases hs
  | L d=>rw [hL' d] at h; cases h
  | O id=>exact h
theorem vm {K:St→Prop} {c:Call} {x:Operand} {fid:Nat} {first cap as:List AV} (hM:ap G pd E S w) (ht:TR E S.t a) (ho:o.op=.call c) (hcal:c.callee=.value x)
  (hx:VR E (.fn fid first cap) (a.eval x)) (has:ca E as (c.args.toList.map a.eval)) (hnl:(first++as++cap).all (wm 4)=true)
  (h:qY P fid (first++as++cap) S.o fun r o'=>kW (bR S.o o' 0) S.t S.l fun t l=>bG o.dst r { t:=t,l:=l,o:=o',b:=S.b } K):dz P G pd o a w K:=by
 obtain ⟨us,ws,hfv,h1,h2⟩:∃ us ws,a.eval x=.func (.func fid) us ws∧ca E first us.toList∧ca E cap ws.toList:=by
  generalize a.eval x=u at hx
  cases hx with
  | fn us ws h1 h2 h3 h4=>exact ⟨us,ws,rfl,⟨by simpa using h1,fun m c u hc hu=>h2 m c u hc (by simpa using hu)⟩,⟨by simpa using h3,fun m c u hc hu=>h4 m c u hc (by simpa using hu)⟩⟩
 have hall:=(h1.append has).append h2
 intro next Q hn
 unfold Oper.wp
 rw [zQ ho hcal hfv h.1 w,Oper.upon_enter]
 refine (h.2 E.ob w _ hM.sub ht.gt (by
  refine ⟨by simpa using hall.1,fun m c u hc hu=>?_⟩
  exact l5 4 (List.all_eq_true.1 hnl c (List.mem_of_getElem? hc)) (hall.2 m c u hc (by simpa using hu)))).mono ?_
 rintro e w' ⟨v,r,o',E',hK,rfl,hM',hv⟩
 rw [xg,aK] at hK
 obtain ⟨hS,htr,hle⟩:=hM.back ht hM'
 exact hn _ _ _ w' hK (hS.congr cZ c_ di) (htr.put (hv.mono hle))
end
section
variable {G:Gh} {p:Nat→Option (List AV)} {E:Env} {S M:St} {w:World} {P:Program} {a:Act}
theorem ap.reS (hM:ap G p E M w) {id:Nat} {mu':Key→Option MV} (hsame:∀ k,(∀ j,k≠.S id j)→mu' k=E.mu k)
  (hown:∀ j b o s n,mu' (.S id j)=some (.blk b o s n)→¬ E.F b∧b<w.heap.size∧(G.M b∨G.w0.heap.size≤b)∧∀ k o' s' n',(∀ i,k≠.S id i)→E.mu k≠some (.blk b o' s' n'))
  (hinj:∀ j j' b o s n o' s' n',mu' (.S id j)=some (.blk b o s n)→mu' (.S id j')=some (.blk b o' s' n')→j=j')
  {x y:Ob} (hx:M.o[id]?=some x) (hnx:x≠.dead) (hO:gZ ⟨E.F,mu',E.h⟩ (some y) (E.mu (.O id))) (hW:fk ⟨E.F,mu',E.h⟩ id (some y)) :
  LE E ⟨E.F,mu',E.h⟩∧ap G p ⟨E.F,mu',E.h⟩ { t:=M.t,l:=M.l,o:=M.o.set id y,b:=M.b } w:=by
 have hlt:id<M.o.length:=(List.getElem?_eq_some_iff.1 hx).1
 have hns:∀ k:Key,k.isS=false→mu' k=E.mu k:=fun k hk=>hsame k (fun j e=>by subst e; cases hk)
 have hle:LE E ⟨E.F,mu',E.h⟩:=⟨fun _ h=>h,fun k z hs h=>(hns k hs).trans h,fun _ _=>rfl,fun _ _ _ _ _ _ _=>rfl⟩
 have isit:∀ k:Key,(∃ j,k=.S id j)∨∀ j,k≠.S id j:=fun k=>by
  cases k with
  | L d=>exact .inr (fun j e=>by cases e)
  | O i=>exact .inr (fun j e=>by cases e)
  | S c j =>
   by_cases h:c=id
   ·subst h
    exact .inl ⟨j,rfl⟩
   ·exact .inr (fun j' e=>h (by cases e; rfl))
 refine ⟨hle,hM.hp,hM.os,hM.tape,hM.output,hM.size,hM.keep,hM.F0,hM.Flt,hM.Fnew,fun k b o s n h=>?_,fun k k' b o s n o' s' n' h h'=>?_,fun d=>?_,fun i=>?_,fun i hi=>?_,by simpa using hM.bl,hM.szs,fun d row h=>?_,fun i=>?_⟩
 ·rcases isit k with ⟨j,rfl⟩ | hk
  ·obtain ⟨h1,h2,h3,_⟩:=hown j b o s n h
   exact ⟨h1,h2,h3⟩
  ·exact hM.own k b o s n ((hsame k hk).symm.trans h)
 ·rcases isit k with ⟨j,rfl⟩ | hk
  ·rcases isit k' with ⟨j',rfl⟩ | hk'
   ·rw [hinj j j' _ _ _ _ _ _ _ h h']
   ·exact absurd ((hsame k' hk').symm.trans h') ((hown j _ _ _ _ h).2.2.2 k' _ _ _ hk')
  ·rcases isit k' with ⟨j',rfl⟩ | hk'
   ·exact absurd ((hsame k hk).symm.trans h) ((hown j' _ _ _ _ h').2.2.2 k _ _ _ hk)
   ·exact hM.inj _ _ _ _ _ _ _ _ _ ((hsame k hk).symm.trans h) ((hsame k' hk').symm.trans h')
 ·have:=hM.loc d
  revert this
  show iG p E (aR M.l d) d→iG p _ (aR M.l d) d
  cases aR M.l d with
  | none=>exact fun h=>(hns (.L d) rfl).trans h
  | some row =>
   rintro (⟨b',h1,h2⟩ | ⟨h1,h2⟩)
   ·exact .inl ⟨b',(hns (.L d) rfl).trans h1,h2.mono hle⟩
   ·exact .inr ⟨(hns (.L d) rfl).trans h1,h2⟩
 ·show gZ _ (M.o.set id y)[i]? (mu' (.O i))
  rw [hns (.O i) rfl]
  by_cases h:id=i
  ·subst h
   rw [List.getElem?_set_self hlt]
   exact hO
  ·rw [List.getElem?_set,if_neg h]
   exact (hM.obj i).mono hle (fun _ _ _ _ _=>rfl)
 ·show (M.o.set id y)[i]?=some .dead∨mu' (.O i)=G.mu i
  rw [hns (.O i) rfl]
  by_cases h:id=i
  ·subst h
   rcases hM.old id hi with h1 | h1
   ·rw [hx] at h1
    cases h1
    exact absurd rfl hnx
   ·exact .inr h1
  ·rw [List.getElem?_set,if_neg h]
   exact hM.old i hi
 ·obtain ⟨h1,h2⟩:=hM.pk d row h
  exact ⟨(hns (.L d) rfl).trans h1,h2⟩
 ·show fk _ i (M.o.set id y)[i]?
  by_cases h:id=i
  ·subst h
   rw [List.getElem?_set_self hlt]
   exact hW
  ·rw [List.getElem?_set,if_neg h]
   exact (hM.ow i).mono (hns (.O i) rfl) (fun j=>hsame (.S i j) (fun j' e=>h (by cases e; rfl))) hle.fz hle.ob (fun _ _ _ _ _ _ _=>rfl)
theorem ap.ownS (hM:ap G p E M w) {id j b o s n:Nat} (h:E.mu (.S id j)=some (.blk b o s n)) :
  ¬ E.F b∧b<w.heap.size∧(G.M b∨G.w0.heap.size≤b)∧∀ k o' s' n',k≠.S id j→E.mu k≠some (.blk b o' s' n'):=by
 obtain ⟨h1,h2,h3⟩:=hM.own _ _ _ _ _ h
 exact ⟨h1,h2,h3,fun k o' s' n' hk h'=>hk (hM.inj _ _ _ _ _ _ _ _ _ h' h)⟩
theorem zb (hM:ap G p E S w) {id i sz:Nat} {ks:Option (List AV)} {cells:List (Option (List (List AV)))} {rows:List (List AV)} (hob:S.o[id]?=some (.own ks sz cells none)) (hc:cells[i]?=some (some rows))
  {b o s n:Nat} (hmu:E.mu (.O id)=some (.blk b o s n)) :
  ∃ E' u,ap G p E' { t:=S.t,l:=S.l,o:=S.o.set id (.own ks sz cells (some (i,.mf S.o.length)))++[.arr true sz rows],b:=S.b } w∧LE E E'∧VR E' (.mf S.o.length) u∧jq w.heap b o i=some u:=by
 have hlt:id<S.o.length:=(List.getElem?_eq_some_iff.1 hob).1
 have hw:=hM.ow id
 rw [hob] at hw
 obtain ⟨hz,hbey,hcells⟩:=hw
 obtain ⟨hbase,hall⟩:=hcells b o s n hmu
 obtain ⟨u,hu,hcell⟩:=hall i _ hc
 have hcell:cA E sz (some rows) (E.mu (.S id i)) u:=hcell
 have hOb:=hM.obj id
 rw [hob,hmu] at hOb
 have hOb:ks=none→s=1∧n=cells.length:=hOb
 obtain ⟨mu1,hmu1⟩:∃ mu1:Key→Option MV,mu1=fun k=>if k=.S id i then none else E.mu k:=⟨_,rfl⟩
 have hm1i:mu1 (.S id i)=none:=by rw [hmu1]; simp
 have hm1:∀ k,k≠.S id i→mu1 k=E.mu k:=fun k hk=>by rw [hmu1]; show (if k=.S id i then none else E.mu k)=_; rw [if_neg hk]
 have hfz:LE E.fz (Env.fz ⟨E.F,mu1,E.h⟩):=LE.refl _
 have hW1:fk ⟨E.F,mu1,E.h⟩ id (some (.own ks sz cells (some (i,.bad)))):=by
  refine ⟨hz,fun j hj=>?_,fun b' o' s' n' hm=>?_⟩
  ·show mu1 (.S id j)=none
   by_cases h:Key.S id j=.S id i
   ·rw [h]; exact hm1i
   ·rw [hm1 _ h]; exact hbey j hj
  ·have hm:E.mu (.O id)=some (.blk b' o' s' n'):=(hm1 _ (fun e=>by cases e)).symm.trans hm
   obtain ⟨h4,h6⟩:=hcells b' o' s' n' hm
   refine ⟨h4,fun j c hj=>?_⟩
   obtain ⟨u',hu',h7⟩:=h6 j c hj
   refine ⟨u',hu',?_⟩
   show if i=j then mu1 (.S id j)=none∧VR _ .bad u' else cA _ sz c (mu1 (.S id j)) u'
   by_cases hij:i=j
   ·subst hij
    rw [if_pos rfl]
    exact ⟨hm1i,.bad _ _⟩
   ·rw [if_neg hij,hm1 _ (fun e=>hij (by cases e; rfl))]
    exact cA.mono h7 hfz (fun _ _ _ _ _=>rfl)
 obtain ⟨hle1,hS1⟩:=hM.reS (mu':=mu1) (fun k hk=>hm1 k (hk i)) (fun j b' o' s' n' h=>by
   by_cases hj:Key.S id j=.S id i
   ·rw [hj,hm1i] at h; cases h
   ·rw [hm1 _ hj] at h
    obtain ⟨h1,h2,h3,h4⟩:=hM.ownS h
    exact ⟨h1,h2,h3,fun k o2 s2 n2 hk=>h4 k o2 s2 n2 (hk j)⟩)
  (fun j j' b' o' s' n' o2 s2 n2 h h'=>by
   by_cases hj:Key.S id j=.S id i
   ·rw [hj,hm1i] at h; cases h
   ·by_cases hj':Key.S id j'=.S id i
    ·rw [hj',hm1i] at h'; cases h'
    ·rw [hm1 _ hj] at h
     rw [hm1 _ hj'] at h'
     have:=hM.inj _ _ _ _ _ _ _ _ _ h h'
     cases this
     rfl) hob (fun e=>by cases e) (y:=.own ks sz cells (some (i,.bad))) (by rw [hmu]; exact hOb) hW1
 have hlen:(S.o.set id (.own ks sz cells (some (i,.bad)))).length=S.o.length:=by simp
 obtain ⟨mvi,hmvi⟩:∃ mvi,E.mu (.S id i)=some mvi:=by
  cases h:E.mu (.S id i) with
  | none=>rw [h] at hcell; exact hcell.elim
  | some mv=>exact ⟨mv,rfl⟩
 rw [hmvi] at hcell
 have hnew1:mu1 (.O S.o.length)=none:=(hm1 _ (fun e=>by cases e)).trans (Ff hM)
 have hS2:=hS1.addkey (key:=.O S.o.length) (mv:=mvi) (fun d e=>by cases e) hnew1 (fun b' o' s' n' e=>by
   subst e
   obtain ⟨h1,h2,h3,h4⟩:=hM.ownS hmvi
   refine ⟨h1,h2,h3,fun k o2 s2 n2 h=>?_⟩
   by_cases hk:k=.S id i
   ·subst hk
    rw [show (Env.mu ⟨E.F,mu1,E.h⟩ (.S id i))=none from hm1i] at h
    cases h
   ·exact h4 k o2 s2 n2 hk ((hm1 k hk).symm.trans h))
  (M':={ t:=S.t,l:=S.l,o:=S.o.set id (.own ks sz cells (some (i,.bad)))++[.arr true sz rows],b:=S.b }) (fun _ _=>rfl)
  (fun j hj=>by
   show (S.o.set id _++[_])[j]?=(S.o.set id _)[j]?
   rcases Nat.lt_trichotomy j S.o.length with h | h | h
   ·rw [List.getElem?_append_left (by rw [hlen]; exact h)]
   ·exact absurd (by rw [h]) hj
   ·rw [List.getElem?_eq_none (by rw [List.length_append,hlen]; simp; omega),List.getElem?_eq_none (by rw [hlen]; omega)])
  rfl (by have:=hM.bl; show S.b≤(S.o.set id _++[_]).length; rw [List.length_append,hlen]; simp; omega) (fun j e=>by cases e; exact hM.bl) (fun d e=>by cases e)
  (fun j e=>by
   cases e
   show gZ _ (S.o.set id _++[_])[S.o.length]? _
   rw [List.getElem?_append_right (by rw [hlen]; exact Nat.le_refl _),hlen,Nat.sub_self]
   cases mvi with
   | virt=>exact hcell.1
   | blk b1 o1 s1 n1=>exact ⟨hcell.1,hcell.2.1⟩)
  (fun j e=>by
   rcases e with e | ⟨i',e⟩ <;> cases e
   rw [List.getElem?_append_right (by rw [hlen]; exact Nat.le_refl _),hlen,Nat.sub_self]
   exact hS1.ow_new rfl (by rw [List.getElem?_eq_none (by show (S.o.set id _).length≤_; rw [hlen]; exact Nat.le_refl _)]; rfl) rfl)
 have hle2:LE ⟨E.F,mu1,E.h⟩ ⟨E.F,aO mu1 (.O S.o.length) mvi,E.h⟩:=l6 (E:=⟨E.F,mu1,E.h⟩) hnew1
 have hm2:aO mu1 (.O S.o.length) mvi (.O S.o.length)=some mvi:=by unfold aO; rw [if_pos rfl]
 have hm2i:aO mu1 (.O S.o.length) mvi (.S id i)=none:=by unfold aO; rw [if_neg (fun e=>by cases e)]; exact hm1i
 have hv:∀ E':Env,E'.mu (.O S.o.length)=some mvi→E'.h=E.h→VR E' (.mf S.o.length) u:=by
  intro E' hE hE2
  cases mvi with
  | virt =>
   obtain ⟨_,c,rfl⟩:=hcell
   cases c with
   | none=>exact .mfn hE
   | some c=>exact .mfe c hE
  | blk b1 o1 s1 n1 =>
   obtain ⟨_,_,cap,h6,h7,rfl⟩:=hcell
   exact .mf cap hE h6 (by rw [hE2]; exact h7)
 have hW3:fk ⟨E.F,aO mu1 (.O S.o.length) mvi,E.h⟩ id (some (.own ks sz cells (some (i,.mf S.o.length)))):=by
  have hS2w:=hS2.ow id
  have hget:(S.o.set id (.own ks sz cells (some (i,.bad)))++[.arr true sz rows])[id]?=some (.own ks sz cells (some (i,.bad))):=by
   rw [List.getElem?_append_left (by rw [hlen]; exact hlt),List.getElem?_set_self hlt]
  rw [hget] at hS2w
  obtain ⟨q1,q2,q3⟩:=hS2w
  refine ⟨q1,q2,fun b' o' s' n' hm=>?_⟩
  have hm0:E.mu (.O id)=some (.blk b' o' s' n'):=by
   have h:aO mu1 (.O S.o.length) mvi (.O id)=some (.blk b' o' s' n'):=hm
   unfold aO at h
   rw [if_neg (fun e=>by cases e; omega),hm1 _ (fun e=>by cases e)] at h
   exact h
  obtain ⟨h4,h6⟩:=q3 b' o' s' n' hm
  refine ⟨h4,fun j c hj=>?_⟩
  obtain ⟨u',hu',h7⟩:=h6 j c hj
  refine ⟨u',hu',?_⟩
  have h7:(if i=j then aO mu1 (.O S.o.length) mvi (.S id j)=none∧VR _ .bad u' else cA _ sz c (aO mu1 (.O S.o.length) mvi (.S id j)) u'):=h7
  show (if i=j then aO mu1 (.O S.o.length) mvi (.S id j)=none∧VR _ (.mf S.o.length) u' else cA _ sz c (aO mu1 (.O S.o.length) mvi (.S id j)) u')
  by_cases hij:i=j
  ·subst hij
   rw [if_pos rfl]
   refine ⟨hm2i,?_⟩
   rw [hmu] at hm0
   cases hm0
   have hu':jq E.h b o i=some u':=hu'
   rw [hu] at hu'
   cases hu'
   exact hv _ hm2 rfl
  ·rw [if_neg hij] at h7 ⊢
   exact h7
 obtain ⟨hle3,hS3⟩:=hS2.reS (id:=id) (mu':=aO mu1 (.O S.o.length) mvi) (fun _ _=>rfl) (fun j b' o' s' n' h=>by
   obtain ⟨h1,h2,h3,h4⟩:=hS2.ownS (id:=id) (j:=j) h
   exact ⟨h1,h2,h3,fun k o2 s2 n2 hk=>h4 k o2 s2 n2 (hk j)⟩)
  (fun j j' b' o' s' n' o2 s2 n2 h h'=>by
   have:=hS2.inj (.S id j) (.S id j') _ _ _ _ _ _ _ h h'
   cases this
   rfl)
  (x:=.own ks sz cells (some (i,.bad))) (y:=.own ks sz cells (some (i,.mf S.o.length))) (by
   show (S.o.set id _++[_])[id]?=_
   rw [List.getElem?_append_left (by rw [hlen]; exact hlt),List.getElem?_set_self hlt]) (fun e=>by cases e) (by
   have h:aO mu1 (.O S.o.length) mvi (.O id)=some (.blk b o s n):=by
    unfold aO
    rw [if_neg (fun e=>by cases e; omega),hm1 _ (fun e=>by cases e)]
    exact hmu
   show gZ _ _ (aO mu1 (.O S.o.length) mvi (.O id))
   rw [h]
   exact hOb) hW3
 refine ⟨_,u,?_,(hle1.trans hle2).trans hle3,hv _ hm2 rfl,?_⟩
 ·have e:(S.o.set id (Ob.own ks sz cells (some (i,.bad)))++[Ob.arr true sz rows]).set id (Ob.own ks sz cells (some (i,.mf S.o.length)))=S.o.set id (Ob.own ks sz cells (some (i,.mf S.o.length)))++[Ob.arr true sz rows]:=by
   rw [List.set_append_left _ _ (by rw [hlen]; exact hlt),List.set_set]
  have hS3:ap G p _ { t:=S.t,l:=S.l,o:=(S.o.set id (Ob.own ks sz cells (some (i,.bad)))++[Ob.arr true sz rows]).set id (Ob.own ks sz cells (some (i,.mf S.o.length))),b:=S.b } w:=hS3
  rw [e] at hS3
  exact hS3
 ·rw [← hM.hp]
  exact hu
theorem zd (hM:ap G p E S w) (ht:TR E S.t a) {id j k sz:Nat} {ks:Option (List AV)} {cells:List (Option (List (List AV)))} {rows:List (List AV)} (hob:S.o[id]?=some (.own ks sz cells (some (j,.mf k)))) (hk:S.o[k]?=some (.arr true sz rows)) (hj:j<cells.length) :
  ∃ E',ap G p E' { t:=(gG k S).t,l:=(gG k S).l,o:=(gG k S).o.set id (.own ks sz (cells.set j (some rows)) none),b:=S.b } w∧TR E' (gG k S).t a∧E'.mu (.O id)=E.mu (.O id):=by
 have hklt:k<S.o.length:=(List.getElem?_eq_some_iff.1 hk).1
 have hne:k≠id:=fun e=>by subst e; rw [hob] at hk; cases hk
 have hw:=hM.ow id
 rw [hob] at hw
 obtain ⟨hz,hbey,hcells⟩:=hw
 have hOb:=hM.obj id
 rw [hob] at hOb
 have hOk:=hM.obj k
 rw [hk] at hOk
 obtain ⟨mvk,hmk⟩:∃ mvk,E.mu (.O k)=some mvk:=by
  cases h:E.mu (.O k) with
  | none=>rw [h] at hOk; exact hOk.elim
  | some mv=>exact ⟨mv,rfl⟩
 rw [hmk] at hOk
 obtain ⟨hS1,ht1,hke⟩:=rF hM ht hklt
 have hgl:(gG k S).o.length=S.o.length:=by simp [gG]
 have hidlt:id<S.o.length:=(List.getElem?_eq_some_iff.1 hob).1
 obtain ⟨mu1,hmu1⟩:∃ mu1:Key→Option MV,mu1=fun x=>if x=.S id j then some mvk else aY E.mu (.O k) x:=⟨_,rfl⟩
 have hm1j:mu1 (.S id j)=some mvk:=by rw [hmu1]; simp
 have hm1:∀ x,x≠.S id j→mu1 x=aY E.mu (.O k) x:=fun x hx=>by rw [hmu1]; show (if x=.S id j then some mvk else aY E.mu (.O k) x)=_; rw [if_neg hx]
 have hS:∀ i,aY E.mu (.O k) (.S id i)=E.mu (.S id i):=fun i=>A0 (k:=.O k) (a:=id) (i:=i) (by intro e; cases e) (by intro e; cases e; exact hne rfl)
 have hgid:(gG k S).o[id]?=some (eS (.O k) (.own ks sz cells (some (j,.mf k)))):=by
  show ((S.o.map (eS (.O k))).set k .dead)[id]?=_
  rw [List.getElem?_set,if_neg hne,List.getElem?_map,hob]
  rfl
 have hfree:∀ b o s n,mvk=.blk b o s n→¬ E.F b∧b<w.heap.size∧(G.M b∨G.w0.heap.size≤b)∧∀ x o' s' n',aY E.mu (.O k) x≠some (.blk b o' s' n'):=by
  intro b o s n e
  subst e
  obtain ⟨h1,h2,h3⟩:=hM.own _ _ _ _ _ hmk
  refine ⟨h1,h2,h3,fun x o' s' n' h=>?_⟩
  obtain ⟨h4,h5⟩:=cQ h
  exact h4 (hM.inj _ _ _ _ _ _ _ _ _ h5 hmk)
 have hW1:fk ⟨E.F,mu1,E.h⟩ id (some (.own ks sz (cells.set j (some rows)) none)):=by
  refine ⟨hz,fun i hi=>?_,fun b o s n hm=>?_⟩
  ·rw [List.length_set] at hi
   show mu1 (.S id i)=none
   rw [hm1 _ (fun e=>by cases e; omega),hS]
   exact hbey i hi
  ·have hm:E.mu (.O id)=some (.blk b o s n):=by
    have h:mu1 (.O id)=some (.blk b o s n):=hm
    rw [hm1 _ (fun e=>by cases e),ky (fun e=>hne (by cases e; rfl))] at h
    exact h
   obtain ⟨h4,h6⟩:=hcells b o s n hm
   refine ⟨by rw [List.length_set]; exact h4,fun i c hi=>?_⟩
   rw [List.getElem?_set] at hi
   by_cases hij:j=i
   ·subst hij
    rw [if_pos rfl,if_pos hj] at hi
    cases hi
    obtain ⟨u,hu,h7⟩:=h6 j cells[j] (List.getElem?_eq_getElem hj)
    have h7:(if j=j then E.mu (.S id j)=none∧VR E.ob (.mf k) u else cA E sz cells[j] (E.mu (.S id j)) u):=h7
    rw [if_pos rfl] at h7
    refine ⟨u,hu,?_⟩
    show cA _ sz (some rows) (mu1 (.S id j)) u
    rw [hm1j]
    obtain ⟨_,hv⟩:=h7
    cases hv with
    | mfn hx =>
     have hx:E.mu (.O k)=some .virt:=hx
     rw [hmk] at hx
     cases hx
     exact ⟨hOk,none,rfl⟩
    | mfe c hx =>
     have hx:E.mu (.O k)=some .virt:=hx
     rw [hmk] at hx
     cases hx
     exact ⟨hOk,some c,rfl⟩
    | mf cap hx hn hc =>
     have hx:E.mu (.O k)=some _:=hx
     rw [hmk] at hx
     cases hx
     exact ⟨hOk.1,hOk.2,cap,hn,hc,rfl⟩
   ·rw [if_neg hij] at hi
    obtain ⟨u,hu,h7⟩:=h6 i c hi
    have h7:(if j=i then E.mu (.S id i)=none∧VR E.ob (.mf k) u else cA E sz c (E.mu (.S id i)) u):=h7
    rw [if_neg hij] at h7
    refine ⟨u,hu,?_⟩
    show cA _ sz c (mu1 (.S id i)) u
    rw [hm1 _ (fun e=>hij (by cases e; rfl)),hS]
    exact cA.mono h7 (LE.refl _) (fun _ _ _ _ _=>rfl)
 obtain ⟨hle,hS2⟩:=hS1.reS (id:=id) (mu':=mu1) (fun x hx=>hm1 x (hx j)) (fun i b o s n h=>by
   by_cases hij:Key.S id i=.S id j
   ·rw [hij,hm1j] at h
    obtain ⟨h1,h2,h3,h4⟩:=hfree b o s n (Option.some.inj h)
    exact ⟨h1,h2,h3,fun x o' s' n' _=>h4 x o' s' n'⟩
   ·rw [hm1 _ hij] at h
    obtain ⟨h1,h2,h3,h4⟩:=hS1.ownS (id:=id) (j:=i) h
    exact ⟨h1,h2,h3,fun x o' s' n' hx=>h4 x o' s' n' (hx i)⟩)
  (fun i i' b o s n o' s' n' h h'=>by
   by_cases hij:Key.S id i=.S id j
   ·by_cases hij':Key.S id i'=.S id j
    ·cases hij
     cases hij'
     rfl
    ·rw [hij,hm1j] at h
     rw [hm1 _ hij'] at h'
     exact absurd h' ((hfree b o s n (Option.some.inj h)).2.2.2 _ _ _ _)
   ·by_cases hij':Key.S id i'=.S id j
    ·rw [hij',hm1j] at h'
     rw [hm1 _ hij] at h
     exact absurd h ((hfree b o' s' n' (Option.some.inj h')).2.2.2 _ _ _ _)
    ·rw [hm1 _ hij] at h
     rw [hm1 _ hij'] at h'
     have:=hS1.inj (.S id i) (.S id i') _ _ _ _ _ _ _ h h'
     cases this
     rfl)
  hgid (fun e=>by cases e) (y:=.own ks sz (cells.set j (some rows)) none) (by
   show gZ _ _ (aY E.mu (.O k) (.O id))
   rw [ky (fun e=>hne (by cases e; rfl))]
   revert hOb
   cases E.mu (.O id) with
   | none=>exact fun h=>h.elim
   | some mv =>
    cases mv with
    | virt =>
     intro h
     have h:ks=none∧cells=[]:=h
     rw [h.2] at hj
     cases hj
    | blk b o s n =>
     intro h
     have h:ks=none→s=1∧n=cells.length:=h
     exact fun e=>⟨(h e).1,by rw [List.length_set]; exact (h e).2⟩) hW1
 exact ⟨_,hS2,ht1.mono hle,(hm1 _ (fun e=>by cases e)).trans (ky (fun e=>hne (by cases e; rfl)))⟩
theorem Cu {k:Nat} {K:St→Prop}:gW [k] S K↔K (gG k S):=pH (ids:=[k])
theorem xh (hM:ap G p E S w) (ht:TR E S.t a) {id:Nat} {K:St→Prop} (h:jm S id K) :
  ∃ S' E',K S'∧ap G p E' S' w∧TR E' S'.t a:=by
 unfold jm at h
 split at h
 ·rename_i ks sz cells j hob
  obtain ⟨hj,h⟩:=ae h
  rw [aC] at h
  rw [Nat.blt_eq] at hj
  have hw:=hM.ow id
  rw [hob] at hw
  obtain ⟨hz,hbey,hcells⟩:=hw
  have hOb:=hM.obj id
  rw [hob] at hOb
  obtain ⟨hle,hS⟩:=hM.reS (id:=id) (mu':=E.mu) (fun _ _=>rfl) (fun j b o s n h=>by
    obtain ⟨h1,h2,h3,h4⟩:=hM.ownS (id:=id) (j:=j) h
    exact ⟨h1,h2,h3,fun k o2 s2 n2 hk=>h4 k o2 s2 n2 (hk j)⟩)
   (fun j j' b o s n o2 s2 n2 h h'=>by
    have:=hM.inj (.S id j) (.S id j') _ _ _ _ _ _ _ h h'
    cases this
    rfl) hob (fun e=>by cases e) (y:=.own ks sz (cells.set j none) none) (by
    revert hOb
    cases E.mu (.O id) with
    | none=>exact fun h=>h.elim
    | some mv =>
     cases mv with
     | virt =>
      intro h
      have h:ks=none∧cells=[]:=h
      rw [h.2] at hj
      cases hj
     | blk b o s n =>
      intro h
      have h:ks=none→s=1∧n=cells.length:=h
      exact fun e=>⟨(h e).1,by rw [List.length_set]; exact (h e).2⟩) ⟨hz,fun i hi=>hbey i (by rw [List.length_set] at hi; exact hi),fun b o s n hm=>by
    obtain ⟨h4,h6⟩:=hcells b o s n hm
    refine ⟨by rw [List.length_set]; exact h4,fun i c hi=>?_⟩
    rw [List.getElem?_set] at hi
    by_cases hij:j=i
    ·subst hij
     rw [if_pos rfl,if_pos hj] at hi
     cases hi
     obtain ⟨u,hu,h7⟩:=h6 j cells[j] (List.getElem?_eq_getElem hj)
     have h7:(if j=j then E.mu (.S id j)=none∧VR E.ob .nilsl u else cA E sz cells[j] (E.mu (.S id j)) u):=h7
     rw [if_pos rfl] at h7
     obtain ⟨h8,hv⟩:=h7
     refine ⟨u,hu,?_⟩
     show cA _ sz none (E.mu (.S id j)) u
     rw [h8]
     cases hv
     rfl
    ·rw [if_neg hij] at hi
     obtain ⟨u,hu,h7⟩:=h6 i c hi
     have h7:(if j=i then E.mu (.S id i)=none∧VR E.ob .nilsl u else cA E sz c (E.mu (.S id i)) u):=h7
     rw [if_neg hij] at h7
     exact ⟨u,hu,h7⟩⟩
  exact ⟨_,_,h,hS,ht.mono hle⟩
 ·rename_i ks sz cells j k hob
  split at h
  ·rename_i sz' rows hk
   obtain ⟨hb,h⟩:=ae h
   simp only [Bool.and_eq_true,Nat.blt_eq] at hb
   obtain ⟨hsz,hj⟩:=hb
   have hsz:=Nat.eq_of_beq_eq_true hsz
   subst hsz
   rw [Cu,aC] at h
   have hne:k≠id:=fun e=>by subst e; rw [hob] at hk; cases hk
   obtain ⟨E',hS,htr,hmu'⟩:=zd hM ht hob hk hj
   exact ⟨_,E',h,hS,htr⟩
  ·exact h.elim
 ·exact h.elim
 ·exact ⟨S,E,h,hM,ht⟩
theorem qZ:∀ {ids:List Nat} {S:St} {E:Env} {K:St→Prop},ap G p E S w→TR E S.t a→qx ids S K→∃ S' E',K S'∧ap G p E' S' w∧TR E' S'.t a
 | [],S,E,_,hM,ht,h=>⟨S,E,h,hM,ht⟩
 | id::ids,_,_,_,hM,ht,h=>by
  obtain ⟨S1,E1,h,hM1,ht1⟩:=xh hM ht h
  exact qZ hM1 ht1 h
def Hy (id:Nat) (mu:Key→Option MV):Key→Option MV
 | .L d=>mu (.L d)
 | .O i=>mu (.O i)
 | .S c j=>if c=id then none else mu (.S c j)
theorem Hz {id:Nat} {mu:Key→Option MV} (k:Key) (h:∀ j,k≠.S id j):Hy id mu k=mu k:=by
 cases k with
 | L d=>rfl
 | O i=>rfl
 | S c j =>
  show (if c=id then none else mu (.S c j))=_
  rw [if_neg (fun e=>h j (by rw [e]))]
theorem JV {id:Nat} {mu:Key→Option MV} (j:Nat):Hy id mu (.S id j)=none:=by
 show (if id=id then none else mu (.S id j))=_
 rw [if_pos rfl]
theorem qz:∀ {ks:List AV},(fD ks).length=ks.length
 | []=>rfl
 | _::ks=>congrArg (· + 1) (qz (ks:=ks))
theorem qA:∀ {ks:List AV} {i:Nat} {e:AV×AV},(fD ks)[i]?=some e→ks[i]?=some e.1∧e.2=.bad
 | [],_,_,h=>by simp [fD] at h
 | k::ks,0,e,h=>by
  have h:some (k,AV.bad)=some e:=h
  cases h
  exact ⟨rfl,rfl⟩
 | k::ks,i + 1,e,h=>qA (ks:=ks) (i:=i) h
theorem zV:∀ {ks:List AV} {cells:List (Option (List (List AV)))},ks.length=cells.length→(mI ks cells).length=ks.length
 | [],[],_=>rfl
 | _::ks,_::cells,h=>congrArg (· + 1) (zV (ks:=ks) (cells:=cells) (by simpa using h))
theorem zW:∀ {ks:List AV} {cells:List (Option (List (List AV)))} {i:Nat} {e:AV×AV},(mI ks cells)[i]?=some e→ks[i]?=some e.1∧∃ c,cells[i]?=some c∧e.2=AK c
 | [],_,_,_,h=>by simp [mI] at h
 | _::_,[],_,_,h=>by simp [mI] at h
 | k::ks,c::cells,0,e,h=>by
  have h:some (k,AK c)=some e:=h
  cases h
  exact ⟨rfl,c,rfl,rfl⟩
 | k::ks,c::cells,i + 1,e,h=>zW (ks:=ks) (cells:=cells) (i:=i) h
theorem ze (hM:ap G p E S w) (ht:TR E S.t a) {id:Nat} {K:St→Prop} (h:lw S id K):∃ S' E',K S'∧ap G p E' S' w∧TR E' S'.t a:=by
 unfold lw at h
 split at h
 ·rename_i ks sz cells hob
  rw [aC] at h
  have hlt:id<S.o.length:=(List.getElem?_eq_some_iff.1 hob).1
  have hw:=hM.ow id
  rw [hob] at hw
  obtain ⟨hz,hbey,hcells⟩:=hw
  have hOb:=hM.obj id
  rw [hob] at hOb
  obtain ⟨b,o,s,n,hmu⟩:∃ b o s n,E.mu (.O id)=some (.blk b o s n):=by
   revert hOb
   cases E.mu (.O id) with
   | none=>exact fun h=>h.elim
   | some mv =>
    cases mv with
    | virt=>exact fun h=>by cases h.1
    | blk b o s n=>exact fun _=>⟨b,o,s,n,rfl⟩
  obtain ⟨⟨ms,clock,hb,⟨hl1,hl2,hbn⟩,hk⟩,hall⟩:=hcells b o s n hmu
  obtain ⟨mu1,hmu1⟩:∃ mu1,mu1=Hy id E.mu:=⟨_,rfl⟩
  have hm1:∀ k,(∀ j,k≠.S id j)→mu1 k=E.mu k:=fun k hk=>by rw [hmu1]; exact Hz k hk
  have hm1S:∀ j,mu1 (.S id j)=none:=fun j=>by rw [hmu1]; exact JV j
  obtain ⟨hle1,hS1⟩:=hM.reS (mu':=mu1) hm1 (fun j b o s n h=>by rw [hm1S] at h; cases h) (fun j j' b o s n o2 s2 n2 h h'=>by rw [hm1S] at h; cases h) hob (fun e=>by cases e)
   (y:=.mapo true (fD ks)) (by
    rw [hmu]
    exact ⟨ms,clock,hb,⟨by rw [qz]; omega,hbn⟩,fun i e m h1 h2=>by
     obtain ⟨h3,h4⟩:=qA h1
     exact ⟨hk i e.1 m h3 h2,by rw [h4]; exact .bad _ _⟩⟩) (fun i=>hm1S i)
  obtain ⟨hle2,hS2⟩:=hS1.freeze (F':=fun x=>E.F x∨∃ j o s n,E.mu (.S id j)=some (.blk x o s n)) (fun _ h=>.inl h) (fun x hx=>by
   rcases hx with hx | ⟨j,o',s',n',hx⟩
   ·exact .inl hx
   ·obtain ⟨h1,h2,h3⟩:=hM.own _ _ _ _ _ hx
    refine .inr ⟨h2,h3,fun k o2 s2 n2 hk2=>?_⟩
    have hk2:mu1 k=some (.blk x o2 s2 n2):=hk2
    have hne:∀ j,k≠.S id j:=fun j e=>by rw [e,hm1S] at hk2; cases hk2
    rw [hm1 k hne] at hk2
    exact hne j (hM.inj _ _ _ _ _ _ _ _ _ hk2 hx))
  have hget:(S.o.set id (.mapo true (fD ks)))[id]?=some (.mapo true (fD ks)):=List.getElem?_set_self hlt
  have hfz:LE E.fz (Env.fz ⟨fun x=>E.F x∨∃ j o s n,E.mu (.S id j)=some (.blk x o s n),mu1,E.h⟩):=⟨fun _ h=>.inl h,fun _ _ _ h=>(by cases h),fun _ _=>rfl,fun _ _ _ _ _ _ h=>(by cases h)⟩
  obtain ⟨hle3,hS3⟩:=hS2.reS (id:=id) (mu':=mu1) (fun _ _=>rfl) (fun j b o s n h=>by rw [hm1S] at h; cases h) (fun j j' b o s n o2 s2 n2 h h'=>by rw [hm1S] at h; cases h) hget (fun e=>by cases e)
   (y:=.mapo true (mI ks cells)) (by
    show gZ _ _ (mu1 (.O id))
    rw [hm1 _ (fun j e=>by cases e),hmu]
    refine ⟨ms,clock,hb,⟨by rw [zV (by omega)]; omega,hbn⟩,fun i e m h1 h2=>?_⟩
    obtain ⟨h3,c,h4,h5⟩:=zW h1
    refine ⟨hk i e.1 m h3 h2,?_⟩
    obtain ⟨u,hu,hc⟩:=hall i c h4
    have hu:u=m.val:=by
     unfold jq at hu
     rw [hb] at hu
     simp only [h2,Option.map_some,Option.some.injEq] at hu
     exact hu.symm
    subst hu
    have hc:cA E sz c (E.mu (.S id i)) m.val:=hc
    rw [h5]
    generalize m.val=u at hc
    show VR (Env.fz ⟨fun x=>E.F x∨∃ j o s n,E.mu (.S id j)=some (.blk x o s n),mu1,E.h⟩) (AK c) u
    revert hc
    cases c with
    | none =>
     cases E.mu (.S id i) with
     | none=>exact fun h=>by rw [show u=Value.slice none 0 0 from h]; exact .nilsl _
     | some mv=>cases mv <;> exact fun h=>h.elim
    | some rows =>
     cases hmi:E.mu (.S id i) with
     | none=>exact fun h=>h.elim
     | some mv =>
      cases mv with
      | virt =>
       rintro ⟨rfl,c,rfl⟩
       cases c with
       | none=>exact .sln _
       | some c=>exact .sle _ c 0
      | blk b1 o1 s1 n1 =>
       rintro ⟨⟨rfl,rfl⟩,⟨q1,q2,us,ty,q3,q4,q5⟩,cap,h6,h7,rfl⟩
       exact cv.sl (E':=Env.fz ⟨fun x=>E.F x∨∃ j o s n,E.mu (.S id j)=some (.blk x o s n),mu1,E.h⟩) ⟨q1,q2,us,ty,q3,q4,fun m c hc=>by
        obtain ⟨u,hu,hv⟩:=q5 m c hc
        exact ⟨u,hu,hv.mono hfz⟩⟩ (.inr ⟨i,_,_,_,hmi⟩) h6) (fun i=>hm1S i)
  refine ⟨_,_,h,?_,((ht.mono hle1).mono hle2).mono hle3⟩
  have e:(S.o.set id (Ob.mapo true (fD ks))).set id (Ob.mapo true (mI ks cells))=S.o.set id (Ob.mapo true (mI ks cells)):=List.set_set ..
  have hS3:ap G p _ { t:=S.t,l:=S.l,o:=(S.o.set id (Ob.mapo true (fD ks))).set id (Ob.mapo true (mI ks cells)),b:=S.b } w:=hS3
  rw [e] at hS3
  exact hS3
 ·exact ⟨S,E,h,hM,ht⟩
theorem pJ:∀ {ids:List Nat} {S:St} {E:Env} {K:St→Prop},ap G p E S w→TR E S.t a→ny ids S K→∃ S' E',K S'∧ap G p E' S' w∧TR E' S'.t a
 | [],S,E,_,hM,ht,h=>⟨S,E,h,hM,ht⟩
 | id::ids,_,_,_,hM,ht,h=>by
  obtain ⟨S1,E1,h,hM1,ht1⟩:=ze hM ht h
  exact pJ hM1 ht1 h
theorem pK (hM:ap G p E S w) (ht:TR E S.t a) {pl:bz} {id:Nat} {K:St→Prop} (h:mJ pl id S K):∃ S' E',K S'∧ap G p E' S' w∧TR E' S'.t a:=by
 unfold mJ at h
 split at h
 ·exact ⟨S,E,h,hM,ht⟩
 ·obtain ⟨S1,E1,h,hM1,ht1⟩:=qZ hM ht h
  split at h
  ·exact ⟨S1,E1,h,hM1,ht1⟩
  ·exact pJ hM1 ht1 h
theorem Mk (hM:ap G p E S w) {id sz b o s n:Nat} {cells:List (Option (List (List AV)))} {hole:Option (Nat×AV)} (hob:S.o[id]?=some (.own none sz cells hole)) (hmu:E.mu (.O id)=some (.blk b o s n)):s=1∧n=cells.length:=by
 have h:=hM.obj id
 rw [hob,hmu] at h
 exact h rfl
theorem Gu {hole:Option (Nat×AV)} {i:Nat} (h:cX hole i=true):hole=none∨∃ a0,hole=some (i,a0):=by
 cases hole with
 | none=>exact .inl rfl
 | some z =>
  obtain ⟨j,a0⟩:=z
  have:=Nat.eq_of_beq_eq_true (show Nat.beq i j=true from h)
  subst this
  exact .inr ⟨a0,rfl⟩
theorem pL (hM:ap G p E M w) {id i:Nat} {k:AV→St→Prop} {b o s n:Nat} (hmu:E.mu (.O id)=some (.blk b o s n)) (h:gu M id i k) :
  ∃ M' E' v u,k v M'∧ap G p E' M' w∧LE E E'∧VR E' v u∧jq w.heap b o i=some u:=by
 unfold gu at h
 split at h
 ·rename_i ks sz cells hob
  split at h
  ·rename_i hc
   have hw:=hM.ow id
   rw [hob] at hw
   obtain ⟨_,_,hcells⟩:=hw
   obtain ⟨_,hall⟩:=hcells b o s n hmu
   obtain ⟨u,hu,hcell⟩:=hall i _ hc
   have hcell:cA E sz none (E.mu (.S id i)) u:=hcell
   have hnil:u=.slice none 0 0:=by
    revert hcell
    cases E.mu (.S id i) with
    | none=>exact fun h=>h
    | some mv=>cases mv <;> exact fun h=>h.elim
   subst hnil
   exact ⟨M,E,_,_,h,hM,.refl _,.nilsl _,by rw [← hM.hp]; exact hu⟩
  ·rename_i rows hc
   rw [aC] at h
   obtain ⟨E',u,hS,hle,hv,hcl⟩:=zb hM hob hc hmu
   have e:({ t:=M.t,l:=M.l,o:=M.o.set id (.own ks sz cells (some (i,.mf M.o.length)))++[.arr true sz rows],b:=M.b }:St)=_:=rfl
   exact ⟨_,E',_,u,h,hS,hle,hv,hcl⟩
  ·exact h.elim
 ·exact h.elim
theorem sQ (hM:ap G p E M w) {x:AV} {u:Value} {k:Nat→Nat→Prop} (hv:VR E x u) (h:jU M x k) :
  ∃ id i b o n sz cells hole,k id i∧M.o[id]?=some (.own none sz cells hole)∧E.mu (.O id)=some (.blk b o 1 n)∧u=.pointer (some ⟨b,o + i,none⟩):=by
 unfold jU at h
 split at h
 ·rename_i id i
  split at h
  ·rename_i sz cells hole hob
   cases hv with
   | ptr _ _ hs hmu =>
    rename_i b o s n
    obtain ⟨rfl,_⟩:=Mk hM hob hmu
    exact ⟨id,i,b,o,n,sz,cells,hole,h,hob,hmu,by simp⟩
  ·exact h.elim
 ·exact h.elim
theorem xi (hM:ap G p E M w) {t:TypeId} {same:Bool} {id i:Nat} {k:AV→St→Prop} {b o s n sz:Nat} {cells:List (Option (List (List AV)))} {hole:Option (Nat×AV)} (hob:M.o[id]?=some (.own none sz cells hole)) (hmu:E.mu (.O id)=some (.blk b o s n)) (h:jn P t same M id i k) :
  ∃ M' E' r z,k r M'∧ap G p E' M' w∧LE E E'∧VR E' r z∧(Instr.loadAt t (.pointer (some ⟨b,o + i,none⟩))).run P w=.ok z w:=by
 have hbase:zK w.heap none b o cells.length:=by
  have hw:=hM.ow id
  rw [hob] at hw
  rw [← hM.hp]
  exact (hw.2.2 b o s n hmu).1
 have ld:∀ {E':Env} {v:AV} {u:Value} {k:AV→Prop},VR E' v u→jq w.heap b o i=some u→jk P t [v] 0 k→∃ r z,k r∧VR E' r z∧(Instr.loadAt t (.pointer (some ⟨b,o + i,none⟩))).run P w=.ok z w:=by
  intro E' v u k hv hc hk
  obtain ⟨r,z,h1,h2,h3⟩:=rx (P:=P) hk (ca.cons hv (ca.nil E')) w (b:=b) (o:=o + i) (fun m u' hu'=>by
   cases m with
   | zero =>
    simp at hu'
    subst hu'
    show dx w.heap b (o + i)=some u
    exact Ca hbase hc
   | succ m=>simp at hu')
  exact ⟨r,z,h1,h2,h3⟩
 unfold jn at h
 split at h
 ·split at h
  ·rename_i sz' cells' j v hob'
   rw [hob] at hob'
   cases hob'
   replace h:=ae h
   obtain ⟨hb,h⟩:=h
   simp only [Bool.and_eq_true,Nat.blt_eq] at hb
   obtain ⟨hij,hj⟩:=hb
   have hij:=Nat.eq_of_beq_eq_true hij
   subst hij
   have hw:=hM.ow id
   rw [hob] at hw
   obtain ⟨_,_,hcells⟩:=hw
   obtain ⟨_,hall⟩:=hcells b o s n hmu
   obtain ⟨u,hu,hcell⟩:=hall i _ (List.getElem?_eq_getElem hj)
   have h7:(if i=i then E.mu (.S id i)=none∧VR E.ob v u else cA E sz cells[i] (E.mu (.S id i)) u):=hcell
   rw [if_pos rfl] at h7
   obtain ⟨r,z,h3,h4,h5⟩:=ld h7.2.of_ob (by rw [← hM.hp]; exact hu) h
   exact ⟨M,E,r,z,h3,hM,.refl _,h4,h5⟩
  ·exact h.elim
 ·obtain ⟨M',E',v,u,h,hM',hle,hv,hc⟩:=pL hM hmu h
  obtain ⟨r,z,h3,h4,h5⟩:=ld hv hc h
  exact ⟨M',E',r,z,h3,hM',hle,h4,h5⟩
theorem xj (hM:ap G p E S w) {id i sz:Nat} {ks:Option (List AV)} {cells:List (Option (List (List AV)))} {hole:Option (Nat×AV)} (hob:S.o[id]?=some (.own ks sz cells hole)) (hh:cX hole i=true) :
  ∃ E',LE E E'∧E'.h=E.h∧E'.mu (.O id)=E.mu (.O id)∧ap G p E' { t:=S.t,l:=S.l,o:=S.o.set id (.own ks sz cells (some (i,.bad))),b:=S.b } w:=by
 have hw:=hM.ow id
 rw [hob] at hw
 obtain ⟨hz,hbey,hcells⟩:=hw
 have hOb:=hM.obj id
 rw [hob] at hOb
 obtain ⟨mu1,hmu1⟩:∃ mu1:Key→Option MV,mu1=fun k=>if k=.S id i then none else E.mu k:=⟨_,rfl⟩
 have hm1i:mu1 (.S id i)=none:=by rw [hmu1]; simp
 have hm1:∀ k,k≠.S id i→mu1 k=E.mu k:=fun k hk=>by rw [hmu1]; show (if k=.S id i then none else E.mu k)=_; rw [if_neg hk]
 have hW1:fk ⟨E.F,mu1,E.h⟩ id (some (.own ks sz cells (some (i,.bad)))):=by
  refine ⟨hz,fun j hj=>?_,fun b' o' s' n' hm=>?_⟩
  ·show mu1 (.S id j)=none
   by_cases h:Key.S id j=.S id i
   ·rw [h]; exact hm1i
   ·rw [hm1 _ h]; exact hbey j hj
  ·have hm:E.mu (.O id)=some (.blk b' o' s' n'):=(hm1 _ (fun e=>by cases e)).symm.trans hm
   obtain ⟨h4,h6⟩:=hcells b' o' s' n' hm
   refine ⟨h4,fun j c hj=>?_⟩
   obtain ⟨u',hu',h7⟩:=h6 j c hj
   refine ⟨u',hu',?_⟩
   show if i=j then mu1 (.S id j)=none∧VR _ .bad u' else cA _ sz c (mu1 (.S id j)) u'
   by_cases hij:i=j
   ·subst hij
    rw [if_pos rfl]
    exact ⟨hm1i,.bad _ _⟩
   ·rw [if_neg hij,hm1 _ (fun e=>hij (by cases e; rfl))]
    have h8:cA E sz c (E.mu (.S id j)) u':=by
     rcases Gu hh with rfl | ⟨a0,rfl⟩
     ·exact h7
     ·have h7:(if i=j then E.mu (.S id j)=none∧VR E.ob a0 u' else cA E sz c (E.mu (.S id j)) u'):=h7
      rw [if_neg hij] at h7
      exact h7
    exact cA.mono h8 (LE.refl _) (fun _ _ _ _ _=>rfl)
 obtain ⟨hle1,hS1⟩:=hM.reS (mu':=mu1) (fun k hk=>hm1 k (hk i)) (fun j b' o' s' n' h=>by
   by_cases hj:Key.S id j=.S id i
   ·rw [hj,hm1i] at h; cases h
   ·rw [hm1 _ hj] at h
    obtain ⟨h1,h2,h3,h4⟩:=hM.ownS h
    exact ⟨h1,h2,h3,fun k o2 s2 n2 hk=>h4 k o2 s2 n2 (hk j)⟩)
  (fun j j' b' o' s' n' o2 s2 n2 h h'=>by
   by_cases hj:Key.S id j=.S id i
   ·rw [hj,hm1i] at h; cases h
   ·by_cases hj':Key.S id j'=.S id i
    ·rw [hj',hm1i] at h'; cases h'
    ·rw [hm1 _ hj] at h
     rw [hm1 _ hj'] at h'
     have:=hM.inj _ _ _ _ _ _ _ _ _ h h'
     cases this
     rfl) hob (fun e=>by cases e) (y:=.own ks sz cells (some (i,.bad))) (by
   revert hOb
   cases E.mu (.O id) with
   | none=>exact fun h=>h.elim
   | some mv=>cases mv <;> exact fun h=>h) hW1
 exact ⟨_,hle1,rfl,hm1 _ (fun e=>by cases e),hS1⟩
theorem A6 (hM:ap G p E S w) {id i sz:Nat} {cells:List (Option (List (List AV)))} {hole:Option (Nat×AV)} (hob:S.o[id]?=some (.own none sz cells hole)) (hh:cX hole i=true) (hi:i<cells.length)
  {b o s n:Nat} (hmu:E.mu (.O id)=some (.blk b o s n)) {v:AV} {u:Value} (hv:VR E v u) (hn:wm 4 v=true) :
  ∃ us ty E',w.heap[b]?=some (.cells us ty (0,0))∧o + i<us.size∧ap G p E' { t:=S.t,l:=S.l,o:=S.o.set id (.own none sz cells (some (i,v))),b:=S.b } (aV w b (.cells (ck us (o + i) [u] 0) ty (0,0)))∧LE E E':=by
 obtain ⟨E1,hle1,hh1,hmu1,hS1⟩:=xj hM hob hh
 have hlt:id<S.o.length:=(List.getElem?_eq_some_iff.1 hob).1
 have hmu1:E1.mu (.O id)=some (.blk b o s n):=hmu1.trans hmu
 have hget1:(S.o.set id (.own none sz cells (some (i,.bad))))[id]?=some (.own none sz cells (some (i,.bad))):=List.getElem?_set_self hlt
 have hw:=hS1.ow id
 rw [hget1] at hw
 obtain ⟨hz,hbey,hcells⟩:=hw
 obtain ⟨⟨us,ty,hb,hul⟩,hall⟩:=hcells b o s n hmu1
 have hbw:w.heap[b]?=some (.cells us ty (0,0)):=by rw [← hS1.hp]; exact hb
 have hblt:b<w.heap.size:=(Array.getElem?_eq_some_iff.1 hbw).1
 have hsz:bj (aV w b (.cells (ck us (o + i) [u] 0) ty (0,0))).heap b=bj w.heap b:=by
  unfold bj
  rw [cE hblt,hbw]
  simp [cC]
 have hle2:=hS1.setblk_le hmu1 hsz
 have hOb:=hS1.obj id
 rw [hget1,hmu1] at hOb
 obtain ⟨_,hS2⟩:=hS1.setblk hmu1 hsz (M':={ t:=S.t,l:=S.l,o:=S.o.set id (.own none sz cells (some (i,v))),b:=S.b })
  (fun _ _=>rfl) (fun j hj=>by
   show (S.o.set id _)[j]?=(S.o.set id _)[j]?
   rw [List.getElem?_set,List.getElem?_set,if_neg (fun e=>hj (by rw [e])),if_neg (fun e=>hj (by rw [e]))]) rfl (by simp) (fun d e=>by cases e)
  (fun j e=>by
   cases e
   show gZ _ (S.o.set id _)[id]? _
   rw [List.getElem?_set_self hlt,hmu1]
   exact hOb)
  (fun j e=>by
   rcases e with e | ⟨i',e⟩ <;> cases e
   show fk _ id (S.o.set id _)[id]?
   rw [List.getElem?_set_self hlt]
   refine ⟨hz,hbey,fun b' o' s' n' hm=>?_⟩
   have hm:E1.mu (.O id)=some (.blk b' o' s' n'):=hm
   rw [hmu1] at hm
   cases hm
   have hnew:=cE (ob:=.cells (ck us (o + i) [u] 0) ty (0,0)) hblt
   refine ⟨⟨_,ty,hnew,by rw [cC]; exact hul⟩,fun j c hj=>?_⟩
   obtain ⟨u',hu',h7⟩:=hall j c hj
   have hu':us[o + j]?=some u':=by unfold jq at hu'; rw [hb] at hu'; exact hu'
   have hval:∀ z,(ck us (o + i) [u] 0)[o + j]?=some z→jq (aV w b (.cells (ck us (o + i) [u] 0) ty (0,0))).heap b o j=some z:=fun z hz=>by
    unfold jq
    rw [hnew]
    exact hz
   have hjl:j<cells.length:=(List.getElem?_eq_some_iff.1 hj).1
   have h7:(if i=j then E1.mu (.S id j)=none∧VR E1.ob .bad u' else cA E1 sz c (E1.mu (.S id j)) u'):=h7
   by_cases hij:i=j
   ·subst hij
    rw [if_pos rfl] at h7
    refine ⟨u,hval _ ?_,?_⟩
    ·rw [jX,if_pos ⟨by omega,by simp,by omega⟩]
     simp
    ·show (if i=i then E1.mu (.S id i)=none∧VR _ v u else cA _ sz c (E1.mu (.S id i)) u)
     rw [if_pos rfl]
     exact ⟨h7.1,l5 4 hn ((hv.mono hle1).mono hle2)⟩
   ·rw [if_neg hij] at h7
    refine ⟨u',hval _ ?_,?_⟩
    ·rw [jX,if_neg (fun h=>by have h1:=h.1; have h2:=h.2.1; simp at h2; omega)]
     exact hu'
    ·show (if i=j then E1.mu (.S id j)=none∧VR _ v u' else cA _ sz c (E1.mu (.S id j)) u')
     rw [if_neg hij]
     refine cA.mono h7 hle2.fz (fun b' o' s' n' hmj=>?_)
     show (aV w b _).heap[b']?=E1.h[b']?
     rw [hS1.hp]
     have hne:b≠b':=fun e=>by
      subst e
      have:=hS1.inj _ _ _ _ _ _ _ _ _ hmj hmu1
      cases this
     simp only [aV,Array.getElem?_setIfInBounds]
     rw [if_neg hne])
 exact ⟨us,ty,_,hbw,by omega,hS2,hle1.trans hle2⟩
theorem rK {v:AV} (h:t_ v=true):wm 4 v=true:=by
 cases v <;> first | rfl | cases h
theorem A7 {v:AV} {u:Value} (h:t_ v=true) (hv:VR E v u):∃ A q c,u=.slice A q c:=by
 cases v <;> first | (cases h; done) | skip
 ·cases hv; exact ⟨_,_,_,rfl⟩
 ·cases hv <;> exact ⟨_,_,_,rfl⟩
theorem vS (hM:ap G p E M w) {t:TypeId} {id i:Nat} {v:AV} {u:Value} {K:St→Prop} {b o s n:Nat} (hmu:E.mu (.O id)=some (.blk b o s n)) (hv:VR E v u) (h:gX P t M id i v K) :
  ∃ M' E' w',K M'∧ap G p E' M' w'∧LE E E'∧(Instr.storeAt t (.pointer (some ⟨b,o + i,none⟩)) u).run P w=.ok () w':=by
 unfold gX at h
 split at h
 ·rename_i inf sz cells hole hi hob
  obtain ⟨hb,h⟩:=ae h
  simp only [Bool.and_eq_true,Nat.blt_eq] at hb
  obtain ⟨⟨⟨hsl,hil⟩,hsz⟩,hh⟩:=hb
  have hsz:=Nat.eq_of_beq_eq_true hsz
  rw [aC] at h
  obtain ⟨us,ty,E',hbw,hlt,hS,hle⟩:=A6 hM hob hh hil hmu hv (rK hsl)
  obtain ⟨A,q,c,rfl⟩:=A7 hsl hv
  refine ⟨_,E',_,h,hS,hle,?_⟩
  exact pF (P:=P) (t:=t) (b:=b) (off:=o + i) hi hbw (by rw [hsz]; rfl) (fun v hv=>by
   have:v=.slice A q c:=by simpa [Value.cells] using hv
   subst this
   rfl) (by show o + i + 1≤us.size; omega)
 ·exact h.elim
theorem sR (hM:ap G p E M w) {id i sz:Nat} {ks ks':List AV} {cells cells':List (Option (List (List AV)))} {hole:Option (Nat×AV)} (hob:M.o[id]?=some (.own (some ks) sz cells hole)) (hh:cX hole i=true)
  {b o s n clock clock':Nat} {ms ms':Array MapEntry} (hmu:E.mu (.O id)=some (.blk b o s n)) (hb:w.heap[b]?=some (.map ms clock)) {v:AV} {u:Value} (hv:VR E v u) (hn:wm 4 v=true)
  (hl:cells'.length=ms'.size∧cells'.length=ks'.length∧vP ms' clock') (hk:∀ (i:Nat) (k:AV) (m:MapEntry),ks'[i]?=some k→ms'[i]?=some m→u9 k=some m.key)
  (hlen:cells.length≤cells'.length) (_:∀ j,cells.length≤j→j<cells'.length→j=i) (hsame:∀ j,j≠i→cells'[j]?=cells[j]?) (hval:∀ j,j≠i→j<cells'.length→(ms'[j]?).map (·.val)=(ms[j]?).map (·.val)) (hat:∃ m,ms'[i]?=some m∧m.val=u) :
  ∃ E',ap G p E' { t:=M.t,l:=M.l,o:=M.o.set id (.own (some ks') sz cells' (some (i,v))),b:=M.b } (aV w b (.map ms' clock'))∧LE E E':=by
 obtain ⟨E1,hle1,hh1,hmu1,hS1⟩:=xj hM hob hh
 have hlt:id<M.o.length:=(List.getElem?_eq_some_iff.1 hob).1
 have hmu1:E1.mu (.O id)=some (.blk b o s n):=hmu1.trans hmu
 have hget1:(M.o.set id (.own (some ks) sz cells (some (i,.bad))))[id]?=some (.own (some ks) sz cells (some (i,.bad))):=List.getElem?_set_self hlt
 have hw:=hS1.ow id
 rw [hget1] at hw
 obtain ⟨hz,hbey,hcells⟩:=hw
 obtain ⟨_,hall⟩:=hcells b o s n hmu1
 have hb1:E1.h[b]?=some (.map ms clock):=by rw [hS1.hp]; exact hb
 have hblt:b<w.heap.size:=(Array.getElem?_eq_some_iff.1 hb).1
 have hnb:=cE (ob:=.map ms' clock') hblt
 have hss:bj (aV w b (.map ms' clock')).heap b=bj w.heap b:=by
  unfold bj
  rw [hnb,hb]
 have hle2:=hS1.setblk_le hmu1 hss
 have hSi:E1.mu (.S id i)=none:=by
  by_cases hi:i<cells.length
  ·obtain ⟨u',_,h7⟩:=hall i _ (List.getElem?_eq_getElem hi)
   have h7:(if i=i then E1.mu (.S id i)=none∧VR E1.ob .bad u' else cA E1 sz cells[i] (E1.mu (.S id i)) u'):=h7
   rw [if_pos rfl] at h7
   exact h7.1
  ·exact hbey i (by omega)
 have hOb:=hS1.obj id
 rw [hget1,hmu1] at hOb
 obtain ⟨_,hS2⟩:=hS1.setblk hmu1 hss (M':={ t:=M.t,l:=M.l,o:=M.o.set id (.own (some ks') sz cells' (some (i,v))),b:=M.b })
  (fun _ _=>rfl) (fun j hj=>by
   show (M.o.set id _)[j]?=(M.o.set id _)[j]?
   rw [List.getElem?_set,List.getElem?_set,if_neg (fun e=>hj (by rw [e])),if_neg (fun e=>hj (by rw [e]))]) rfl (by simp) (fun d e=>by cases e)
  (fun j e=>by
   cases e
   show gZ _ (M.o.set id _)[id]? _
   rw [List.getElem?_set_self hlt,hmu1]
   exact fun e=>by cases e)
  (fun j e=>by
   rcases e with e | ⟨i',e⟩ <;> cases e
   show fk _ id (M.o.set id _)[id]?
   rw [List.getElem?_set_self hlt]
   refine ⟨hz,fun j hj=>hbey j (by omega),fun b' o' s' n' hm=>?_⟩
   have hm:E1.mu (.O id)=some (.blk b' o' s' n'):=hm
   rw [hmu1] at hm
   cases hm
   refine ⟨⟨ms',clock',hnb,hl,hk⟩,fun j c hj=>?_⟩
   have hjl:j<cells'.length:=(List.getElem?_eq_some_iff.1 hj).1
   have hva:∀ z,(ms'[j]?).map (·.val)=some z→jq (aV w b (.map ms' clock')).heap b o j=some z:=fun z hz=>by
    unfold jq
    rw [hnb]
    exact hz
   by_cases hij:i=j
   ·subst hij
    obtain ⟨m,hm1,hm2⟩:=hat
    refine ⟨u,hva _ (by rw [hm1,← hm2]; rfl),?_⟩
    show (if i=i then E1.mu (.S id i)=none∧VR _ v u else cA _ sz c (E1.mu (.S id i)) u)
    rw [if_pos rfl]
    exact ⟨hSi,l5 4 hn ((hv.mono hle1).mono hle2)⟩
   ·rw [hsame j (fun e=>hij e.symm)] at hj
    obtain ⟨u',hu',h7⟩:=hall j c hj
    have h7:(if i=j then E1.mu (.S id j)=none∧VR E1.ob .bad u' else cA E1 sz c (E1.mu (.S id j)) u'):=h7
    rw [if_neg hij] at h7
    refine ⟨u',hva _ ?_,?_⟩
    ·rw [hval j (fun e=>hij e.symm) hjl]
     unfold jq at hu'
     rw [hb1] at hu'
     exact hu'
    ·show (if i=j then E1.mu (.S id j)=none∧VR _ v u' else cA _ sz c (E1.mu (.S id j)) u')
     rw [if_neg hij]
     refine cA.mono h7 hle2.fz (fun b' o' s' n' hmj=>?_)
     show (aV w b _).heap[b']?=E1.h[b']?
     rw [hS1.hp]
     have hne:b≠b':=fun e=>by
      subst e
      have:=hS1.inj _ _ _ _ _ _ _ _ _ hmj hmu1
      cases this
     simp only [aV,Array.getElem?_setIfInBounds]
     rw [if_neg hne])
 exact ⟨_,hS2,hle1.trans hle2⟩
theorem DY {e:TypeId} {ok:Bool} {k:AV→Prop} (hh:jl P e ok k):∃ r zz z,k r∧VR E r zz∧(zeroValue e).run P w=.ok z w∧zz=(if ok then .tuple #[z,.bool false] else z):=by
 unfold jl at hh
 split at hh
 ·rename_i i hi
  split at hh
  ·rename_i z hz
   rw [cw] at hh
   unfold pz at hh
   cases ok with
   | true=>exact ⟨_,_,z,hh,.tup #[z,.bool false] rfl (fun m c u h1 h2=>by
     match m,h1,h2 with
     | 0,h1,h2=>simp at h1 h2; subst h1 h2; exact AR E z
     | 1,h1,h2=>simp at h1 h2; subst h1 h2; exact .v _ _ rfl),dp hi hz w,rfl⟩
   | false=>exact ⟨_,_,z,hh,AR E z,dp hi hz w,rfl⟩
  ·exact False.elim hh
 ·exact False.elim hh
theorem xk (hM:ap G p E M w) {t:TypeId} {m key:AV} {um uk:Value} {ok:Bool} {k:AV→St→Prop} (hm:VR E m um) (hkey:VR E key uk) (h:jo P t m key ok M k) :
  ∃ M' E' r z,k r M'∧ap G p E' M' w∧LE E E'∧VR E' r z∧(Instr.lookup t um uk ok).run P w=.ok z w:=by
 unfold jo at h
 split at h
 ·rename_i kt e hu
  split at h
  ·rename_i id
   split at h
   ·rename_i ks sz cells hob
    cases hm with
    | mp hmu =>
     rename_i b o s n
     have hw:=hM.ow id
     rw [hob] at hw
     obtain ⟨⟨ms,clock,hb,⟨hl1,hl2,_⟩,hk⟩,_⟩:=hw.2.2 b o s n hmu
     rw [hM.hp] at hb
     obtain ⟨r,hr,_,hc,hf,hv⟩:=kH (ms:=ms) h hkey (by rw [qz]; omega) (fun i e m h4 h5=>hk i e.1 m (qA h4).1 h5) w
     have hc':=hc ms.isEmpty rfl
     cases r with
     | none =>
      obtain ⟨r,zz,z,h4,h5,h6,h7⟩:=DY (E:=E) (w:=w) hr
      refine ⟨M,E,r,zz,h4,hM,.refl _,h5,?_⟩
      unfold Instr.lookup
      simp only [Sem.run_bind,run_underlying hu,Result.andThen_ok,Sem.run_pure,f8 hb,hc',hf,h6,h7]
     | some jv =>
      obtain ⟨j,vv⟩:=jv
      simp only [Option.map_some] at hr
      obtain ⟨M',E',v,u,hr,hM',hle,hvu,hva⟩:=pL hM hmu hr
      have hj:=hv j vv rfl
      unfold jq at hva
      rw [hb] at hva
      have hva:(ms[j]?).map (·.val)=some u:=hva
      rw [hj] at hva
      have hva:=Option.some.inj hva
      subst hva
      unfold pz at hr
      cases ok with
      | true =>
       refine ⟨M',E',_,.tuple #[vv,.bool true],hr,hM',hle,.tup #[vv,.bool true] rfl (fun m c z h1 h2=>by
        match m,h1,h2 with
        | 0,h1,h2=>simp at h1 h2; subst h1 h2; exact hvu
        | 1,h1,h2=>simp at h1 h2; subst h1 h2; exact .v _ _ rfl),?_⟩
       unfold Instr.lookup
       simp only [Sem.run_bind,run_underlying hu,Result.andThen_ok,Sem.run_pure,f8 hb,hc',hf]
       rfl
      | false =>
       refine ⟨M',E',_,vv,hr,hM',hle,hvu,?_⟩
       unfold Instr.lookup
       simp only [Sem.run_bind,run_underlying hu,Result.andThen_ok,Sem.run_pure,f8 hb,hc',hf]
       rfl
   ·exact h.elim
  ·exact h.elim
 ·exact h.elim
theorem q0 (hM:ap G p E M w) {t:TypeId} {m key x:AV} {um uk ux:Value} {K:St→Prop} (hm:VR E m um) (hkey:VR E key uk) (hx:VR E x ux) (h:kw P t m key x M K) :
  ∃ M' E' w',K M'∧ap G p E' M' w'∧LE E E'∧(Instr.mapUpdate t um uk ux).run P w=.ok () w':=by
 unfold kw at h
 split at h
 ·rename_i kt e hu
  split at h
  ·rename_i id
   split at h
   ·rename_i ks sz cells hole hob
    obtain ⟨hsl,h⟩:=ae h
    cases hm with
    | mp hmu =>
     rename_i b o s n
     have hw:=hM.ow id
     rw [hob] at hw
     obtain ⟨⟨ms,clock,hb,⟨hl1,hl2,hbn⟩,hk⟩,_⟩:=hw.2.2 b o s n hmu
     rw [hM.hp] at hb
     obtain ⟨r,hr,htk,_,hfind,hval⟩:=kH (ms:=ms) h hkey (by rw [qz]; omega) (fun i e m h4 h5=>hk i e.1 m (qA h4).1 h5) w
     obtain ⟨hck,hr⟩:=ae hr
     have hck':(Instr.checkKey false 10000 kt uk).run P w=.ok () w:=by
      unfold ru at hck
      split at hck
      ·rename_i c hc
       exact f5 _ w hc
      ·cases hck
     cases r with
     | none =>
      simp only [Option.map_none] at hr
      split at hr
      ·rw [aC] at hr
       obtain ⟨E',hS,hle⟩:=sR hM (i:=cells.length) hob rfl hmu hb (ms':=ms.push { key:=uk,val:=ux,born:=clock }) (clock':=clock + 1) (ks':=ks++[key]) (cells':=cells++[none]) hx (rK hsl)
        ⟨by simp [hl1],by simp [hl2],hbn.push _ _⟩ (fun i k m h1 h2=>by
         rcases Nat.lt_trichotomy i ks.length with hi | hi | hi
         ·rw [List.getElem?_append_left hi] at h1
          rw [Array.getElem?_push,if_neg (by omega)] at h2
          exact hk i k m h1 h2
         ·subst hi
          rw [List.getElem?_append_right (Nat.le_refl _),Nat.sub_self] at h1
          rw [Array.getElem?_push,if_pos (by omega)] at h2
          cases h1
          cases h2
          exact htk
         ·rw [List.getElem?_eq_none (by simp; omega)] at h1
          cases h1) (by simp) (fun j h1 h2=>by simp at h2; omega) (fun j hj=>by
         rcases Nat.lt_or_ge j cells.length with h1 | h1
         ·rw [List.getElem?_append_left h1]
         ·rw [List.getElem?_eq_none (by simp; omega),List.getElem?_eq_none h1]) (fun j hj h1=>by
         rw [Array.getElem?_push,if_neg (by omega)]) ⟨_,by rw [Array.getElem?_push,if_pos hl1],rfl⟩
       refine ⟨_,E',_,hr,hS,hle,?_⟩
       unfold Instr.mapUpdate
       simp only [Sem.run_bind,run_underlying hu,Result.andThen_ok,f8 hb,hck',hfind,oe hb]
      ·exact hr.elim
     | some r =>
      obtain ⟨i,v⟩:=r
      simp only [Option.map_some] at hr
      obtain ⟨hsb,hr⟩:=ae hr
      rw [Bool.and_eq_true] at hsb
      rw [aC] at hr
      have hv0:=hval i v rfl
      rw [Option.map_eq_some_iff] at hv0
      obtain ⟨m0,hm0,_⟩:=hv0
      have hims:i<ms.size:=(Array.getElem?_eq_some_iff.1 hm0).1
      have hie:ks[i]?=some ks[i]:=List.getElem?_eq_getElem (by omega)
      have hkey0:=hk i _ m0 hie hm0
      have hsb1:=hsb.1
      rw [hie] at hsb1
      simp only [Option.bind_some,hkey0,Option.getD_some] at hsb1
      obtain ⟨E',hS,hle⟩:=sR hM (i:=i) hob hsb.2 hmu hb (ms':=ms.modify i fun e=>{ e with key:=uk,val:=ux }) (clock':=clock) (ks':=ks.set i key) (cells':=cells) hx (rK hsl)
       ⟨by simp [hl1],by simp [hl2],hbn.modify _ _ _⟩ (fun j k m h1 h2=>by
        rw [List.getElem?_set] at h1
        rw [Array.getElem?_modify] at h2
        by_cases hj:i=j
        ·subst hj
         rw [if_pos rfl,if_pos (by omega)] at h1
         rw [if_pos rfl,hm0] at h2
         cases h1
         cases h2
         exact htk
        ·rw [if_neg hj] at h1 h2
         exact hk j k m h1 h2) (Nat.le_refl _) (fun j h1 h2=>by omega) (fun _ _=>rfl) (fun j hj _=>by
        rw [Array.getElem?_modify,if_neg (fun e=>hj e.symm)]) ⟨{ m0 with key:=uk,val:=ux },by rw [Array.getElem?_modify,if_pos rfl,hm0]; rfl,rfl⟩
      refine ⟨_,E',_,hr,hS,hle,?_⟩
      have hstay:(Instr.keyThatStays (((ms[i]?).map (·.key)).getD uk) uk).run P w=.ok uk w:=by
       rw [hm0]
       unfold Instr.keyThatStays
       simp only [Option.map_some,Option.getD_some]
       rw [if_pos hsb1]
       rfl
      unfold Instr.mapUpdate
      simp only [Sem.run_bind,run_underlying hu,Result.andThen_ok,f8 hb,hck',hfind,hstay,oe hb]
   ·exact h.elim
  ·exact h.elim
 ·exact h.elim
theorem Cv {x:AV}:∀ n:Nat,(List.replicate n [x]).flatten=List.replicate n x
 | 0=>rfl
 | n + 1=>by
  show [x]++(List.replicate n [x]).flatten=_
  rw [Cv n]
  rfl
theorem Cw (hM:ap G p E S w) {id n sz:Nat} (hsz:0<sz) (hob:S.o[id]?=some (.arr true 1 (List.replicate n [.nilsl]))) :
  ap G p E { t:=S.t,l:=S.l,o:=S.o.set id (.own none sz (List.replicate n none) none),b:=S.b } w:=by
 have hw:=hM.ow id
 rw [hob] at hw
 have hw:∀ i,E.mu (.S id i)=none:=hw
 have hOb:=hM.obj id
 rw [hob] at hOb
 have h:=hM.reS (id:=id) (mu':=E.mu) (fun _ _=>rfl) (fun j b o s n h=>by rw [hw j] at h; cases h) (fun j j' b o s n o2 s2 n2 h h'=>by rw [hw j] at h; cases h) hob (fun e=>by cases e)
  (y:=.own none sz (List.replicate n none) none) (by
   revert hOb
   cases E.mu (.O id) with
   | none=>exact fun h=>h.elim
   | some mv =>
    cases mv with
    | virt =>
     intro h
     have h:List.replicate n [AV.nilsl]=[]:=h
     have h0:n=0:=by simpa using congrArg List.length h
     subst h0
     exact ⟨rfl,rfl⟩
    | blk b o s m =>
     rintro ⟨⟨h1,h2⟩,_⟩
     exact fun _=>⟨h1,by simpa using h2⟩) ⟨hsz,fun i _=>hw i,fun b o s m hm=>by
   rw [hm] at hOb
   obtain ⟨⟨h1,h2⟩,_,_,us,ty,h3,h4,h5⟩:=hOb
   subst h1
   refine ⟨⟨us,ty,h3,by simpa using h4⟩,fun i c hi=>?_⟩
   rw [List.getElem?_replicate] at hi
   split at hi
   ·rename_i hin
    cases hi
    obtain ⟨u,hu,hv⟩:=h5 i .nilsl (by
     rw [Cv,List.getElem?_replicate,if_pos hin])
    refine ⟨u,by unfold jq; rw [h3]; exact hu,?_⟩
    show cA E sz none (E.mu (.S id i)) u
    rw [hw i]
    cases hv
    rfl
   ·cases hi⟩
 exact h.2
theorem dz.then {o:Oper} {K K1:St→Prop} (h:dz P G p o a w K1) (hk:∀ S' E' a' w',K1 S'→ap G p E' S' w'→TR E' S'.t a'→∃ S2 E2,K S2∧ap G p E2 S2 w'∧TR E2 S2.t a'):dz P G p o a w K:=by
 intro next Q hn
 refine h next Q (fun S' E' a' w' h1 h2 h3=>?_)
 obtain ⟨S2,E2,h4,h5,h6⟩:=hk S' E' a' w' h1 h2 h3
 exact hn S2 E2 a' w' h4 h5 h6
theorem jZ {x:AV} {k k':Int→Prop} (h:intOf x k) (hk:∀ n,k n→k' n):intOf x k':=by
 unfold intOf at h ⊢
 split at h
 ·exact hk _ h
 ·exact h.elim
theorem og {e:TypeId} {k k':List AV→Prop} (h:cP P e k) (hk:∀ z,k z→k' z):cP P e k':=by
 unfold cP at h ⊢
 split at h
 ·split at h
  ·obtain ⟨hb,h⟩:=ae h
   refine av hb ?_
   rw [iS] at h ⊢
   exact hk _ h
  ·exact h.elim
 ·exact h.elim
theorem zX {x:Operand} {k k':AV→Prop} (h:cL S x k) (hk:∀ v,k v→k' v):cL S x k':=by
 unfold cL at h ⊢
 split at h
 ·obtain ⟨v,h1,h2⟩:=cf.1 h
  exact cf.2 ⟨v,h1,hk v h2⟩
 ·exact cw.2 (hk _ (cw.1 h))
 ·exact hk _ h
 ·split at h
  ·exact hk _ h
  ·exact h.elim
theorem A8 {t:TypeId} {l c:AV} {k:AV→St→Prop} (h:ip P t l c S k):bo P t l c S fun S' r=>∃ n sz,0<sz∧S'={ t:=S.t,l:=S.l,o:=S.o++[.arr true 1 (List.replicate n [.nilsl])],b:=S.b }∧r=.mf S.o.length ∧
  k (.mf S.o.length) { t:=S.t,l:=S.l,o:=S.o++[.own none sz (List.replicate n none) none],b:=S.b }:=by
 unfold ip at h
 unfold bo
 split at h
 ·rename_i e hu
  try rw [hu]
  try dsimp only
  split at h
  ·rename_i i e2 hi he
   try rw [hi]
   try dsimp only
   split at h
   ·rename_i i2 hi2
    refine jZ h (fun nl h=>?_)
    refine jZ h (fun nc h=>?_)
    obtain ⟨hb,h⟩:=ae h
    rw [Bool.and_eq_true,Bool.and_eq_true] at hb
    refine av hb.1.1 ?_
    have h1:=Nat.eq_of_beq_eq_true hb.1.2
    have h2:0<i2.size:=by have:=hb.2; rwa [Nat.blt_eq] at this
    refine og h (fun z h=>?_)
    split at h
    ·rw [aC] at h
     refine av rfl ?_
     rw [aC]
     exact ⟨nl.toNat,i2.size,h2,by rw [h1],rfl,h⟩
    ·exact h.elim
   ·exact h.elim
  ·exact h.elim
 ·exact h.elim
theorem zf {o:Oper} {t:TypeId} {X Y:Operand} {K:St→Prop} (hM:ap G p E S w) (ht:TR E S.t a) (ho:o.op=.makeSlice t X Y) (h:cL S X fun l=>cL S Y fun c=>ip P t l c (cV S) fun r M=>bG o.dst r (gr S M) K):dz P G p o a w K:=by
 have h1:cL S X fun l=>cL S Y fun c=>bo P t l c S fun S' r=>bG o.dst r S' fun S2=>∃ n sz,0<sz∧S2=lY { t:=S.t,l:=S.l,o:=S.o++[.arr true 1 (List.replicate n [.nilsl])],b:=S.b } o.dst (.mf S.o.length) ∧
   K (lY { t:=S.t,l:=S.l,o:=S.o++[.own none sz (List.replicate n none) none],b:=S.b } o.dst (.mf S.o.length)):=by
  refine zX h (fun l h=>?_)
  refine zX h (fun c h=>?_)
  unfold bo
  have h2:=A8 h
  unfold bo at h2
  split at h2
  ·split at h2
   ·refine jZ h2 (fun nl h2=>?_)
    refine jZ h2 (fun nc h2=>?_)
    obtain ⟨hb,h2⟩:=ae h2
    refine av hb ?_
    refine og h2 (fun z h2=>?_)
    obtain ⟨hb,h2⟩:=ae h2
    refine av hb ?_
    rw [aC] at h2 ⊢
    show bG o.dst (.mf S.o.length) _ _
    rw [aK]
    obtain ⟨n,sz,h3,h4,h5,h6⟩:=h2
    rw [aK] at h6
    exact ⟨n,sz,h3,congrArg (fun oo=>lY { t:=S.t,l:=S.l,o:=oo,b:=S.b } o.dst (.mf S.o.length)) (congrArg St.o h4),h6⟩
   ·exact h2.elim
  ·exact h2.elim
 refine (kY hM ht ho h1).then (fun S' E' a' w' hk hS htr=>?_)
 obtain ⟨n,sz,hsz,rfl,hK⟩:=hk
 have hS':=hS.congr (M':={ t:=S.t,l:=S.l,o:=S.o++[.arr true 1 (List.replicate n [.nilsl])],b:=S.b }) cZ.symm c_.symm di.symm
 have hS2:=Cw hS' (id:=S.o.length) (n:=n) hsz (by
  show (S.o++[_])[S.o.length]?=_
  rw [List.getElem?_append_right (Nat.le_refl _),Nat.sub_self]
  rfl)
 have e:(S.o++[Ob.arr true 1 (List.replicate n [.nilsl])]).set S.o.length (Ob.own none sz (List.replicate n none) none)=S.o++[Ob.own none sz (List.replicate n none) none]:=by
  rw [List.set_append_right _ _ (Nat.le_refl _),Nat.sub_self]
  rfl
 refine ⟨_,E',hK,hS2.congr ?_ ?_ ?_,?_⟩
 ·exact cZ
 ·rw [c_]; exact e.symm
 ·exact di
 ·have:(lY { t:=S.t,l:=S.l,o:=S.o++[.own none sz (List.replicate n none) none],b:=S.b } o.dst (.mf S.o.length)).t=(lY { t:=S.t,l:=S.l,o:=S.o++[.arr true 1 (List.replicate n [.nilsl])],b:=S.b } o.dst (.mf S.o.length)).t:=by cases o.dst <;> rfl
  rw [this]
  exact htr
theorem ul {o:Oper} {t:TypeId} {K:St→Prop} (hM:ap G p E S w) (ht:TR E S.t a) (ho:o.op=.makeMap t none) (h:gK P t (cV S) fun r M=>bG o.dst r (gr S M) K):dz P G p o a w K:=by
 unfold gK at h
 split at h
 ·split at h
  ·split at h
   ·rename_i i2 _
    obtain ⟨hsz,h⟩:=ae h
    rw [Nat.blt_eq] at hsz
    rw [aC,aK] at h
    have h1:bf (S.o++[.mapo true []]) fun o'=>bG o.dst (.mp S.o.length) { t:=S.t,l:=S.l,o:=o',b:=S.b } fun S2=>S2=lY { t:=S.t,l:=S.l,o:=S.o++[.mapo true []],b:=S.b } o.dst (.mp S.o.length):=by
     rw [aC,aK]
    refine (qX hM ht ho h1).then (fun S' E' a' w' hk hS htr=>?_)
    subst hk
    have hS':=hS.congr (M':={ t:=S.t,l:=S.l,o:=S.o++[.mapo true []],b:=S.b }) cZ.symm c_.symm di.symm
    have hob:(S.o++[Ob.mapo true []])[S.o.length]?=some (.mapo true []):=by
     rw [List.getElem?_append_right (Nat.le_refl _),Nat.sub_self]
     rfl
    have hw:=hS'.ow S.o.length
    rw [show ({ t:=S.t,l:=S.l,o:=S.o++[.mapo true []],b:=S.b }:St).o[S.o.length]?=_ from hob] at hw
    have hw:∀ i,E'.mu (.S S.o.length i)=none:=hw
    have hOb:=hS'.obj S.o.length
    rw [show ({ t:=S.t,l:=S.l,o:=S.o++[.mapo true []],b:=S.b }:St).o[S.o.length]?=_ from hob] at hOb
    obtain ⟨_,hS2⟩:=hS'.reS (id:=S.o.length) (mu':=E'.mu) (fun _ _=>rfl) (fun j b o s n h=>by rw [hw j] at h; cases h) (fun j j' b o s n o2 s2 n2 h h'=>by rw [hw j] at h; cases h) hob (fun e=>by cases e)
     (y:=.own (some []) i2.size [] none) (by
      revert hOb
      cases E'.mu (.O S.o.length) with
      | none=>exact fun h=>h.elim
      | some mv =>
       cases mv with
       | virt=>exact fun h=>h.elim
       | blk b o s n=>exact fun _ e=>by cases e) ⟨hsz,fun i _=>hw i,fun b o s n hm=>by
      rw [hm] at hOb
      obtain ⟨ms,clock,h1,⟨h2,h3⟩,_⟩:=hOb
      exact ⟨⟨ms,clock,h1,⟨h2,rfl,h3⟩,fun i k m hk=>by simp at hk⟩,fun i c hi=>by simp at hi⟩⟩
    have e:(S.o++[Ob.mapo true []]).set S.o.length (Ob.own (some []) i2.size [] none)=S.o++[Ob.own (some []) i2.size [] none]:=by
     rw [List.set_append_right _ _ (Nat.le_refl _),Nat.sub_self]
     rfl
    refine ⟨_,E',h,hS2.congr ?_ ?_ ?_,?_⟩
    ·exact cZ
    ·rw [c_]; exact e.symm
    ·exact di
    ·have:(lY (gr S { t:=(cV S).t,l:=(cV S).l,o:=(cV S).o++[Ob.own (some []) i2.size [] none],b:=(cV S).b }) o.dst (.mp (cV S).o.length)).t=(lY { t:=S.t,l:=S.l,o:=S.o++[.mapo true []],b:=S.b } o.dst (.mp S.o.length)).t:=by cases o.dst <;> rfl
     rw [this]
     exact htr
   ·exact h.elim
  ·exact h.elim
 ·exact h.elim
theorem xl {C:Ctx} {pl:bz} {o:Oper} {K:St→Prop} (hM:ap G p E S w) (ht:TR E S.t a) (h:AL C pl o S K):dz C.P G p o a w K:=by
 have fin:∀ {M':St} {E':Env} {w':World} {r:AV} {z:Value},bG o.dst r (gr S M') K→ap G p E' M' w'→LE E E'→VR E' r z→(execOp a.eval o).run C.P w=.ok (.value z) w'→∀ (next:Act→World→Prop) (Q:Exit→Act→World→Prop),(∀ S' E' a' w',K S'→ap G p E' S' w'→TR E' S'.t a'→next a' w')→o.wp C.P a w next Q:=by
  intro M' E' w' r z hk hS hle hv hrun next Q hn
  rw [aK] at hk
  refine eL hrun ?_
  exact hn _ E' _ w' hk (hS.congr (by rw [cZ]; rfl) (by rw [c_]; rfl) (by rw [di]; rfl)) ((TR.mono (t:=S.t) ht hle).put (S:=gr S M') hv)
 have fin2:∀ {M':St} {E':Env} {w':World},bG o.dst .bad (gr S M') K→ap G p E' M' w'→LE E E'→(execOp a.eval o).run C.P w=.ok .skip w'→∀ (next:Act→World→Prop) (Q:Exit→Act→World→Prop),(∀ S' E' a' w',K S'→ap G p E' S' w'→TR E' S'.t a'→next a' w')→o.wp C.P a w next Q:=by
  intro M' E' w' hk hS hle hrun next Q hn
  rw [aK] at hk
  unfold Oper.wp
  rw [hrun]
  exact hn _ E' (a.put o.dst undef) w' hk (hS.congr (by rw [cZ]; rfl) (by rw [c_]; rfl) (by rw [di]; rfl)) ((TR.mono (t:=S.t) ht hle).put (S:=gr S M') (.bad _ _))
 have hM0:ap G p E (cV S) w:=hM.congr rfl rfl rfl
 by_cases hmk:∃ t X Y,o.op=.makeSlice t X Y
 ·obtain ⟨t,X,Y,ho⟩:=hmk
  refine zf hM ht ho ?_
  unfold AL at h
  unfold mz at h
  rw [ho] at h
  exact h
 by_cases hmm:∃ t,o.op=.makeMap t none
 ·obtain ⟨t,ho⟩:=hmm
  refine ul hM ht ho ?_
  unfold AL at h
  unfold mz at h
  rw [ho] at h
  exact h
 unfold AL at h
 obtain ⟨vs,h,hv⟩:=dh ht h
 unfold mz at h
 intro next Q hn
 split at h
 ·rename_i t x pv ho
  rw [ho] at hv
  have hv:ca E [pv] [a.eval x]:=by simpa [Op.operands] using hv
  obtain ⟨u,us,e,hp,hnl⟩:=hv.uncons
  cases e
  obtain ⟨id,i,b,off,n,sz,cells,hole,h,hob,hmu,hu⟩:=sQ hM0 hp h
  obtain ⟨M',E',r,z,hk,hS,hle,hr,hrun⟩:=xi hM0 hob hmu h
  exact fin hk hS hle hr (by simp [execOp,ho,hu,hrun]) next Q hn
 ·rename_i t x y pv v ho
  rw [ho] at hv
  have hv:ca E [pv,v] [a.eval x,a.eval y]:=by simpa [Op.operands] using hv
  obtain ⟨u,us,e,hp,hv⟩:=hv.uncons
  cases e
  obtain ⟨u,us,e,hy,hv⟩:=hv.uncons
  cases e
  obtain ⟨id,i,b,off,n,sz,cells,hole,h,hob,hmu,hu⟩:=sQ hM0 hp h
  obtain ⟨M',E',w',hk,hS,hle,hrun⟩:=vS hM0 hmu hy h
  exact fin2 hk hS hle (by simp [execOp,ho,hu,hrun]) next Q hn
 ·rename_i t X Y l c ho
  exact absurd ⟨t,X,Y,ho⟩ hmk
 ·rename_i t ho
  exact absurd ⟨t,ho⟩ hmm
 ·rename_i t X Y ok m key ho
  rw [ho] at hv
  have hv:ca E [m,key] [a.eval X,a.eval Y]:=by simpa [Op.operands] using hv
  obtain ⟨u,us,e,hm,hv⟩:=hv.uncons
  cases e
  obtain ⟨u,us,e,hkey,hv⟩:=hv.uncons
  cases e
  obtain ⟨M',E',r,z,hk,hS,hle,hr,hrun⟩:=xk hM0 hm hkey h
  exact fin hk hS hle hr (by simp [execOp,ho,hrun]) next Q hn
 ·rename_i t X Y Z m key x ho
  rw [ho] at hv
  have hv:ca E [m,key,x] [a.eval X,a.eval Y,a.eval Z]:=by simpa [Op.operands] using hv
  obtain ⟨u,us,e,hm,hv⟩:=hv.uncons
  cases e
  obtain ⟨u,us,e,hkey,hv⟩:=hv.uncons
  cases e
  obtain ⟨u,us,e,hx,hv⟩:=hv.uncons
  cases e
  obtain ⟨M',E',w',hk,hS,hle,hrun⟩:=q0 hM0 hm hkey hx h
  exact fin2 hk hS hle (by simp [execOp,ho,hrun]) next Q hn
 ·rename_i t X Y Z m key x ho
  rw [ho] at hv
  have hv:ca E [m,key,x] [a.eval X,a.eval Y,a.eval Z]:=by simpa [Op.operands] using hv
  obtain ⟨u,us,e,hm,hv⟩:=hv.uncons
  cases e
  obtain ⟨u,us,e,hkey,hv⟩:=hv.uncons
  cases e
  obtain ⟨u,us,e,hx,hv⟩:=hv.uncons
  cases e
  obtain ⟨M',E',w',hk,hS,hle,hrun⟩:=q0 hM0 hm hkey hx h
  exact fin2 hk hS hle (by simp [execOp,ho,hrun]) next Q hn
 ·exact h.elim
end
structure eT (C:Ctx):Prop where
 pcall:∀ f args K,C.pcall f args K→aw C.P f args K
 scall:∀ f args o K,C.scall f args o K→qY C.P f args o K
section
variable {G:Gh} {pd:Nat→Option (List AV)} {E:Env} {S:St} {w:World} {C:Ctx} {pl:bz} {o:Oper} {a:Act} {K:St→Prop}
theorem zY (hM:ap G pd E S w):ap G pd E (cV S) w:=hM.congr rfl rfl rfl
theorem xm (hM:ap G pd E S w) (ht:TR E S.t a) (h:Ga C pl o S K):dz C.P G pd o a w K:=by
 obtain ⟨vs,h,hv⟩:=dh ht h
 by_cases hb:∃ t len parts,o.op=.buildSlice t len parts
 ·obtain ⟨t,len,parts,ho⟩:=hb
  unfold pop at h
  rw [ho] at h
  replace h:=ae h; obtain ⟨hp,h⟩:=h
  have hl:parts.toList.length=vs.length:=by simpa using Nat.eq_of_beq_eq_true hp
  have hv':ca E vs ((parts.toList.map (·.2)).map a.eval):=by
   rw [ho] at hv
   simpa [Op.operands] using hv
  refine dz.of1 (S:=S) ⟨rfl,rfl,rfl⟩ ht (yZ hM ho hl hv' h) (fun r M' hk=>?_)
  obtain ⟨hk,rfl⟩:=hk
  rw [aK] at hk
  exact ⟨_,hk,rfl⟩
 ·have hs:∀ t len parts,o.op≠.buildSlice t len parts:=fun t len parts he=>hb ⟨t,len,parts,he⟩
  obtain ⟨r,z,hk,hr,hrun⟩:=Gi h hs hv w
  rw [aK] at hk
  intro next Q hn
  exact eL hrun (hn _ E _ w hk (hM.congr cZ c_ di) (ht.put hr))
theorem xn (hC:eT C) (hM:ap G pd E S w) (ht:TR E S.t a) (h:Gb C o S K):dz C.P G pd o a w K:=by
 obtain ⟨vs,h,hv⟩:=dh ht h
 refine dz.of1 (S:=S) (M:=cV S) ⟨rfl,rfl,rfl⟩ ht (Gn hC.pcall (zY hM) ht.gt h hv) (fun r M' hk=>?_)
 obtain ⟨hk,rfl⟩:=hk
 rw [aK] at hk
 exact ⟨_,hk,rfl⟩
theorem xo (hM:ap G pd E S w) (ht:TR E S.t a) (h:Gc C o S K):dz C.P G pd o a w K:=by
 obtain ⟨vs,h,hv⟩:=dh ht h
 refine dz.of1 (S:=S) (M:=cV S) ⟨rfl,rfl,rfl⟩ ht (Gm (zY hM) h hv) (fun r M' hk=>?_)
 rw [aK] at hk
 exact ⟨_,hk,by cases o.dst <;> rfl⟩
theorem zZ (hC:eT C) (hpd:B6 pl o=true→∀ d,o.dst=some d→pd d=none) (hM:ap G pd E S w) (ht:TR E S.t a) (h:yS C pl o S K):dz C.P G pd o a w K:=by
 unfold yS at h
 split at h
 ·rename_i e ho
  exact Ck (fun d hd _=>hpd (by unfold B6; rw [ho]) d hd) hM ht ho h
 ·rename_i e x ho
  exact Cl (fun d hd he=>hpd (by unfold B6; rw [ho]; dsimp only; rw [hd]; show (!(fP pl.esc d))=true; rw [he]; rfl) d hd) hM ht ho h
 ·rename_i t len parts ho
  exact uh hM ht ho h
 ·rename_i t r ho
  cases r with
  | none=>exact qX hM ht ho h
  | some r=>exact False.elim h
 ·rename_i t l c ho
  exact kY hM ht ho h
 ·rename_i t m key x ho
  exact vR hM ht ho h
 ·rename_i t m key x ho
  exact A4 hM ht ho h
 ·rename_i c ho
  split at h
  ·rename_i b hcal
   split at h
   ·obtain ⟨vs,h,hv⟩:=dh ht h
    split at h
    ·rename_i x kd n
     obtain ⟨u,us,e,hc,hn⟩:=hv.uncons
     obtain ⟨u1,us1,rfl,hc1,hn1⟩:=hn.uncons
     have:=hn1.unnil
     subst this
     obtain ⟨rfl,_⟩:=hc1.vI
     exact za hM ht ho hcal e hc h
    ·rename_i x y _
     obtain ⟨u,us,e,hc,hn⟩:=hv.uncons
     obtain ⟨u1,us1,rfl,hc1,hn1⟩:=hn.uncons
     have:=hn1.unnil
     subst this
     exact A2 hM ht ho hcal e hc hc1 h
    ·exact False.elim h
   ·obtain ⟨vs,h,hv⟩:=dh ht h
    split at h
    ·rename_i x y
     obtain ⟨u,us,e,hc,hn⟩:=hv.uncons
     obtain ⟨u1,us1,rfl,hc1,hn1⟩:=hn.uncons
     have:=hn1.unnil
     subst this
     exact DV hM ht ho hcal e hc hc1 h
    ·exact False.elim h
   ·obtain ⟨vs,h,hv⟩:=dh ht h
    split at h
    ·rename_i x
     obtain ⟨u,us,e,hc,hn⟩:=hv.uncons
     have:=hn.unnil
     subst this
     exact Ct hM ht ho hcal e hc h
    ·exact False.elim h
   ·exact False.elim h
  ·rename_i f hcal
   obtain ⟨fv,h,hf⟩:=eW h ht
   obtain ⟨as,h,has⟩:=dh ht h
   unfold zF at h
   split at h
   ·rename_i fid first cap
    split at h
    ·exact xf hC.pcall hM ht ho hcal hf has h
    ·replace h:=ae h; obtain ⟨hnl,h⟩:=h
     exact vm hM ht ho hcal hf has hnl (hC.scall _ _ _ _ h)
   ·exact False.elim h
  ·exact False.elim h
 ·exact False.elim h
theorem DZ (hC:eT C) (hM:ap G pn E S w) (ht:TR E S.t a) (h:AM C pl o S K):dz C.P G pn o a w K:=by
 unfold AM at h
 split at h
 ·exact xm hM ht h
 ·exact xn hC hM ht h
 ·exact xo hM ht h
 ·exact zZ hC (fun _ _ _=>rfl) hM ht h
theorem z3 (hC:eT C) (hM:ap G pn E S w) (ht:TR E S.t a) (h:Hm C pl o S K):dz C.P G pn o a w K:=by
 unfold Hm at h
 split at h
 ·exact xl hM ht h
 ·exact DZ hC hM ht h
def rd (r:Option Nat):Fence:={ Fence.wide with round:=r }
theorem xp {r:Option Nat} {n:Nat} {P:Program} {f:FuncId} {args:Array Value} {w:World} {R:Ending→World→Prop}:CallsIn (rd r) n P f args w R↔Calls P f args w R:=callsIn_wide (n:=n)
theorem HA {r:Option Nat} {P:Program} {m m':Machine}:StepsIn (Machine.fenced P (rd r)) P m m'↔Steps P m m':=stepsIn_wide
theorem Fi {r:Option Nat} {n:Nat} {P:Program} {o:Oper} {a:Act} {w:World} {next:Act→World→Prop} {Q:Exit→Act→World→Prop} (hd:∀ c,o.op≠.defer c) (h:o.wp P a w next Q):o.wpIn (rd r) n P a w next Q:=by
 refine ⟨fun _ _=>trivial,?_⟩
 rw [Oper.semAt_eq _ _ _ hd]
 unfold Oper.wp at h
 revert h
 generalize (execOp a.eval o).run P w=x
 intro h
 have hn:((rd r).depth.isSome=true→1≤n):=fun h=>by cases h
 cases x with
 | ok x w' =>
  cases x with
  | enter f args=>exact ⟨hn,xp.2 (Calls.mono h (fun e w'' he=>by cases e <;> exact he))⟩
  | row row args=>exact ⟨hn,fun c cs _=>let ⟨v,w',hr,s⟩:=h c cs; ⟨v,w',hr,HA.2 s⟩⟩
  | _=>first | exact h | exact False.elim h
 | halt x w'=>cases x <;> first | exact h | exact False.elim h
theorem HB {C:Ctx} {pl:bz} {o:Oper} {S:St} {K:St→Prop} (h:Hm C pl o S K) (c:Call):o.op≠.defer c:=by
 intro ho
 have hc:Hl o=3:=by unfold Hl; rw [ho]
 have hw:gJ pl o=false:=by unfold gJ; rw [ho]
 have h0:AM C pl o S K:=by unfold Hm at h; rw [hw] at h; exact h
 have h1:yS C pl o S K:=by unfold AM at h0; rw [hc] at h0; exact h0
 unfold yS at h1
 rw [ho] at h1
 exact h1
theorem TR.lit {d:Nat} {b:Bool} (ht:TR E S.t a) (hd:S.t[d]?=some (.v (.bool b))):a.tmps[d]?=some (.bool b):=by
 have hlt:d<a.tmps.size:=by rw [← ht.len]; exact (List.getElem?_eq_some_iff.1 hd).1
 rw [Array.getElem?_eq_getElem hlt]
 have:=ht.val d _ _ hd (Array.getElem?_eq_getElem hlt)
 rw [this.vI.1]
theorem TR.relit {d:Nat} {b:Bool} (ht:TR E S.t a) (hd:S.t[d]?=some (.v (.bool b))):TR E (S.t.set d (.v (.bool b))) a:=by
 have:S.t.set d (.v (.bool b))=S.t:=by
  apply List.ext_getElem?
  intro j
  rw [List.getElem?_set]
  by_cases hj:d=j
  ·subst hj
   rw [if_pos rfl,if_pos (List.getElem?_eq_some_iff.1 hd).1,hd]
  ·rw [if_neg hj]
 rw [this]
 exact ht
theorem Cx {d:Nat} {k:Bool→St→Prop} (hM:ap G pd E S w) (ht:TR E S.t a) (h:wL d S k):∃ b S1,k b S1∧a.tmps[d]?=some (.bool b)∧ap G pd E S1 w∧TR E S1.t a:=by
 unfold wL at h
 rw [cf] at h
 obtain ⟨c,hc,h⟩:=h
 split at h
 ·rename_i b
  rcases nB h with ⟨hb,h2⟩ | ⟨hb,h2⟩
  ·subst hb
   rw [eK] at h2
   exact ⟨true,_,h2,ht.lit hc,hM.congr rfl rfl rfl,ht.relit hc⟩
  ·subst hb
   rw [eK] at h2
   exact ⟨false,_,h2,ht.lit hc,hM.congr rfl rfl rfl,ht.relit hc⟩
 ·exact False.elim h
theorem ol {d:Nat} {k:Option Bool→St→Prop} (hM:ap G pd E S w) (ht:TR E S.t a) (h:jp d S k) :
  ∃ b S1,k b S1∧(match b with | some b=>a.tmps[d]?=some (.bool b) | none=>a.tmps[d]?=some (.tuple #[]))∧ap G pd E S1 w∧TR E S1.t a:=by
 unfold jp at h
 rw [cf] at h
 obtain ⟨c,hc,h⟩:=h
 split at h
 ·rename_i b
  rcases nB h with ⟨hb,h2⟩ | ⟨hb,h2⟩
  ·subst hb
   rw [eK] at h2
   exact ⟨some true,_,h2,ht.lit hc,hM.congr rfl rfl rfl,ht.relit hc⟩
  ·subst hb
   rw [eK] at h2
   exact ⟨some false,_,h2,ht.lit hc,hM.congr rfl rfl rfl,ht.relit hc⟩
 ·refine ⟨none,S,h,?_,hM,ht⟩
  have hlt:d<a.tmps.size:=by rw [← ht.len]; exact (List.getElem?_eq_some_iff.1 hc).1
  show a.tmps[d]?=_
  rw [Array.getElem?_eq_getElem hlt]
  obtain ⟨us,hu,hv⟩:=(ht.val d _ _ hc (Array.getElem?_eq_getElem hlt)).tupI
  rw [hu]
  have:=hv.unnil
  have:us=#[]:=by apply Array.ext'; simpa using this
  rw [this]
 ·exact False.elim h
theorem rL {ops:Array Oper} {j d:Nat} {b:Option Bool} (hd:wR ops j=some d) (hb:match b with | some b=>a.tmps[d]?=some (.bool b) | none=>a.tmps[d]?=some (.tuple #[])):yielded ops a.tmps j=b:=by
 unfold yielded
 unfold wR at hd
 rw [hd]
 cases b with
 | some b=>simp [hb]
 | none=>simp [hb]
theorem xr (E:Env):VR E (.tup []) undef:=.tup #[] rfl (fun m c u h=>by simp at h)
theorem pM {o:Oper} {f:Nat→Option Bool} {j:Nat} {want:Bool} {b:Option Bool} {X Y:Prop} (hg:o.guard=some (j,want)) (hf:f j=b) (h:gsel b want X Y):(Region.wanted o f=true∧X)∨(Region.wanted o f=false∧Y):=by
 unfold Region.wanted
 rw [hg]
 simp only [hf]
 cases b with
 | none=>exact .inr ⟨rfl,h⟩
 | some b =>
  cases b <;> cases want
  ·exact .inl ⟨rfl,h⟩
  ·exact .inr ⟨rfl,h⟩
  ·exact .inr ⟨rfl,h⟩
  ·exact .inl ⟨rfl,h⟩
theorem rM (hC:eT C) {rr:Option Nat} {all:Array Oper} {Q:Exit→Act→World→Prop}:∀ {ops:List Oper} {E:Env} {S:St} {w:World} {a:Act} {K:St→Prop},ap G pn E S w→TR E S.t a→ua C pl all ops S K →
  (∀ S' E' a' w',K S'→ap G pn E' S' w'→TR E' S'.t a'→Q .normal a' w')→wpListIn (rd rr) 0 C.P all Q ops a w
 | [],E,S,w,a,K,hM,ht,h,hQ=>hQ _ _ _ _ h hM ht
 | o::rest,E,S,w,a,K,hM,ht,h,hQ=>by
  have step:∀ {S1:St},ap G pn E S1 w→TR E S1.t a→Region.wanted o (yielded all a.tmps)=true→(Hm C pl o S1 fun S'=>ua C pl all rest S' K)→wpListIn (rd rr) 0 C.P all Q (o::rest) a w:=by
   intro S1 hM1 ht1 hw h
   unfold wpListIn
   rw [if_pos hw]
   refine Fi (HB h) (z3 hC hM1 ht1 h _ _ (fun S' E' a' w' hk hS htr=>?_))
   exact rM hC hS htr hk hQ
  unfold ua at h
  split at h
  ·rename_i hg
   exact step hM ht (by unfold Region.wanted; rw [hg]) h
  ·rename_i j want hg
   split at h
   ·exact False.elim h
   ·rename_i d hd
    obtain ⟨b,S1,h,hb,hM1,ht1⟩:=ol hM ht h
    rcases pM hg (rL hd hb) h with ⟨hw,h⟩ | ⟨hw,h⟩
    ·exact step hM1 ht1 hw h
    ·rw [aK] at h
     unfold wpListIn
     rw [if_neg (by rw [hw]; exact fun h=>by cases h)]
     exact ⟨fun _ _=>trivial,rM hC (hM1.congr cZ c_ di) (ht1.put (xr _)) h hQ⟩
end
def Ml:Ex→Exit
 | .nrm=>.normal
 | .ex i=>.exit i
 | .ret=>.ret
def JM (G:Gh) (K:Ex→St→Prop) (Q:Exit→Act→World→Prop):Prop:=∀ e S' E' a' w',K e S'→ap G pn E' S' w'→TR E' S'.t a'→Q (Ml e) a' w'
def om (C:Ctx):Prop:=∀ pl c S K,C.loop pl c S K→∀ (r:Option Nat) (G:Gh) (E:Env) (a:Act) (w:World) (Q:Exit→Act→World→Prop),ap G pn E S w→TR E S.t a→JM G K Q→(Code.loop c).wpIn (rd r) 0 C.P Q a w
def m_ (C:Ctx):Prop:=∀ pl id ops S K,iq C pl (.region id ops true) S K→∀ (r:Option Nat) (G:Gh) (E:Env) (a:Act) (w:World) (Q:Exit→Act→World→Prop),ap G pn E S w→TR E S.t a→JM G K Q→(Code.region id ops true).wpIn (rd r) 0 C.P Q a w
theorem vn {G:Gh} {E:Env} {S:St} {w:World} {a:Act} {c:Operand} {k:Bool→St→Prop} (hM:ap G pn E S w) (ht:TR E S.t a) (h:rq c S k):∃ b S1,k b S1∧a.eval c=.bool b∧ap G pn E S1 w∧TR E S1.t a:=by
 unfold rq at h
 split at h
 ·rename_i d
  obtain ⟨b,S1,h1,h2,h3,h4⟩:=Cx hM ht h
  refine ⟨b,S1,h1,?_,h3,h4⟩
  show a.tmps.getD d undef=_
  rw [Array.getD_eq_getD_getElem?,h2]
  rfl
 ·rename_i b
  rcases nB h with ⟨hb,h2⟩ | ⟨hb,h2⟩
  ·subst hb; exact ⟨true,S,h2,rfl,hM,ht⟩
  ·subst hb; exact ⟨false,S,h2,rfl,hM,ht⟩
 ·exact False.elim h
theorem pN {C:Ctx} (hC:eT C) (hL:om C) (hD:m_ C) {pl:bz}:∀ (c:Code) {S:St} {K:Ex→St→Prop},iq C pl c S K→∀ (r:Option Nat) (G:Gh) (E:Env) (a:Act) (w:World) (Q:Exit→Act→World→Prop),ap G pn E S w→TR E S.t a→JM G K Q→c.wpIn (rd r) 0 C.P Q a w:=by
 intro c
 induction c with
 | skip=>exact fun h r G E a w Q hM ht hQ=>wpIn_skip (hQ .nrm _ E _ _ h hM ht)
 | region id ops draw =>
  intro S K h r G E a w Q hM ht hQ
  cases draw with
  | true=>exact hD pl id ops S K h r G E a w Q hM ht hQ
  | false=>exact wpIn_region_list (rM hC hM ht h (fun S' E' a' w' hk hS htr=>by
   obtain ⟨S2,E2,h2,hS2,ht2⟩:=pK hS htr hk
   exact hQ .nrm _ _ _ _ h2 hS2 ht2))
 | seq x y ihx ihy =>
  intro S K h r G E a w Q hM ht hQ
  refine wpIn_seq (ihx h r G E a w _ hM ht (fun e S' E' a' w' hk hS htr=>?_))
  cases e with
  | nrm=>exact ihy hk r G E' a' w' Q hS htr hQ
  | ex i=>exact hQ (.ex i) _ _ _ _ hk hS htr
  | ret=>exact hQ .ret _ _ _ _ hk hS htr
 | cond c x y ihx ihy =>
  intro S K h r G E a w Q hM ht hQ
  obtain ⟨b,S1,h1,h2,h3,h4⟩:=vn hM ht h
  cases b with
  | true=>exact wpIn_cond_true h2 (ihx h1 r G E a w Q h3 h4 hQ)
  | false=>exact wpIn_cond_false h2 (ihy h1 r G E a w Q h3 h4 hQ)
 | block id c ih =>
  intro S K h r G E a w Q hM ht hQ
  refine wpIn_block (ih h r G E a w _ hM ht (fun e S' E' a' w' hk hS htr=>?_))
  cases e with
  | nrm=>exact hQ .nrm _ _ _ _ hk hS htr
  | ret=>exact hQ .ret _ _ _ _ hk hS htr
  | ex i =>
   show Exit.inBlock id Q (.exit i) a' w'
   unfold Exit.inBlock
   dsimp only at hk
   split at hk
   ·rename_i hb
    have:=Nat.eq_of_beq_eq_true hb
    subst this
    simp only [if_pos]
    exact hQ .nrm _ _ _ _ hk hS htr
   ·rename_i hb
    have hne:¬ i=id:=fun e=>by subst e; simp at hb
    simp only [if_neg hne]
    exact hQ (.ex i) _ _ _ _ hk hS htr
 | loop c ih=>exact fun h r G E a w Q hM ht hQ=>hL pl c _ _ h r G E a w Q hM ht hQ
 | exit id=>exact fun h r G E a w Q hM ht hQ=>wpIn_exit (hQ (.ex id) _ E _ _ h hM ht)
 | ret=>exact fun h r G E a w Q hM ht hQ=>wpIn_ret (hQ .ret _ E _ _ h hM ht)
 | _=>exact fun h=>False.elim h
theorem Cy {P:Program} {α β:Type} {f:α→Sem β}:∀ (xs:List α) (w:World) (ys:List β),xs.length=ys.length→(∀ (i:Nat) (x:α) (y:β),xs[i]?=some x→ys[i]?=some y→(f x).run P w=.ok y w)→(xs.mapM f).run P w=.ok ys w
 | [],w,ys,hl,_=>by
  have:ys=[]:=List.eq_nil_of_length_eq_zero (by simpa using hl.symm)
  subst this
  rfl
 | x::xs,w,[],hl,_=>by simp at hl
 | x::xs,w,y::ys,hl,h=>by
  have h0:=h 0 x y rfl rfl
  have ih:=Cy xs w ys (by simpa using hl) (fun i a b h1 h2=>h (i + 1) a b (by simpa using h1) (by simpa using h2))
  simp only [List.mapM_cons,Sem.run_bind,h0,Result.andThen_ok,ih,Sem.run_pure]
section
variable {G:Gh} {E:Env} {S:St} {w:World} {P:Program} {a:Act}
theorem rN (hM:ap G pn E S w) (ht:TR E S.t a):∀ {rs:List ResultVar} {k:List AV→Prop},yU P S rs k→∃ as us,k as∧ca E as us∧rs.length=us.length ∧
  ∀ (i:Nat) (r:ResultVar) (u:Value),rs[i]?=some r→us[i]?=some u→(match r with | .tmp t=>(pure (a.tmps.getD t undef):Sem Value) | .cell c t=>(do loadVar t (← asAddr (a.tmps.getD c undef)):Sem Value)).run P w=.ok u w
 | [],k,h=>⟨[],[],h,.nil _,rfl,fun i r u h1=>by simp at h1⟩
 | .tmp t::rs,k,h=>by
  obtain ⟨c,hc,h⟩:=cf.1 h
  obtain ⟨as,us,hk,hv,hl,hr⟩:=rN hM ht h
  have hlt:t<a.tmps.size:=by rw [← ht.len]; exact (List.getElem?_eq_some_iff.1 hc).1
  refine ⟨c::as,a.tmps.getD t undef::us,hk,.cons (ht.val t c _ hc ?_) hv,by simp [hl],fun i r u h1 h2=>?_⟩
  ·rw [Array.getD_eq_getD_getElem?,Array.getElem?_eq_getElem hlt]; rfl
  ·cases i with
   | zero =>
    simp only [List.getElem?_cons_zero,Option.some.injEq] at h1 h2
    subst h1 h2
    rfl
   | succ i=>exact hr i r u (by simpa using h1) (by simpa using h2)
 | .cell c t::rs,k,h=>by
  obtain ⟨pc,hpc,h⟩:=cf.1 h
  have hlt:c<a.tmps.size:=by rw [← ht.len]; exact (List.getElem?_eq_some_iff.1 hpc).1
  have e0:a.tmps.getD c undef=a.tmps[c]:=by rw [Array.getD_eq_getD_getElem?,Array.getElem?_eq_getElem hlt]; rfl
  have hv0:=ht.val c pc _ hpc (Array.getElem?_eq_getElem hlt)
  obtain ⟨row,j,us',b,off,hk,hu0,hu,hcell⟩:=zM hM hv0 h
  obtain ⟨r0,z,hk',hr0,hrun⟩:=rx (P:=P) hk hu w hcell
  obtain ⟨as,us,hk,hv,hl,hr⟩:=rN hM ht hk'
  refine ⟨r0::as,z::us,hk,.cons hr0 hv,by simp [hl],fun i r u h1 h2=>?_⟩
  cases i with
  | zero =>
   simp at h1 h2
   subst h1 h2
   simp only [Sem.run_bind]
   rw [e0,hu0]
   show (loadVar t ⟨b,off + j,none⟩).run P w=_
   exact hrun
  | succ i=>exact hr i r u (by simpa using h1) (by simpa using h2)
theorem D1 {as:List AV} {us:List Value} {k:AV→Prop} (h:B9 as k) (hv:ca E as us):∃ r,k r∧VR E r (if h:us.toArray.size=1 then us.toArray[0] else .tuple us.toArray):=by
 unfold B9 at h
 split at h
 ·rename_i c
  obtain ⟨u,us',rfl,hc,hn⟩:=hv.uncons
  have:=hn.unnil
  subst this
  exact ⟨c,h,by simpa using hc⟩
 ·rename_i hne
  refine ⟨_,h,?_⟩
  have hl:=hv.1
  rw [dif_neg (by
   intro h1
   simp at h1
   cases as with
   | nil=>simp at hl; omega
   | cons c cs =>
    cases cs with
    | nil=>exact hne c rfl
    | cons _ _=>simp at hl; omega)]
  exact .tup _ (by simpa using hl) (fun m c u h1 h2=>hv.2 m c u h1 (by simpa using h2))
theorem kA {fn:Func} (hM:ap G pn E S w) (ht:TR E S.t a) {k:AV→Prop} (h:yU P S fn.results.toList fun rs=>B9 rs k):∃ r u,k r∧VR E r u∧(results fn a.tmps).run P w=.ok u w:=by
 obtain ⟨as,us,h,hv,hl,hr⟩:=rN hM ht h
 obtain ⟨r,hk,hvr⟩:=D1 h hv
 refine ⟨r,_,hk,hvr,?_⟩
 unfold results
 have hm:=Cy fn.results.toList w us hl hr
 rw [Sem.run_bind,Array.mapM_eq_mapM_toList]
 simp only [map_eq_pure_bind,Sem.run_bind]
 erw [hm]
 rfl
end
theorem xt:∀ {n i:Nat} {c:AV},(AP n)[i]?=some c→c=.bad
 | 0,i,c,h=>by simp [AP] at h
 | n + 1,0,c,h=>by simp [AP] at h; exact h.symm
 | n + 1,i + 1,c,h=>xt (n:=n) (i:=i) (by simpa [AP] using h)
theorem xu:∀ {n:Nat},(AP n).length=n
 | 0=>rfl
 | n + 1=>by simp [AP,xu]
def mN (P : Program) : Prop := ∀ (f : Nat) (fn : Func), P.funcs[f]? = some fn → (fn.name == "runtime.NumGoroutine") = false
theorem rO {C:Ctx} {k:Ctx→Prop}:wT C k↔k C:=by cases C; exact Iff.rfl
theorem xv {p:bz} {k:bz→Prop}:DK p k↔k p:=by cases p; exact Iff.rfl
theorem z7 {C:Ctx} {f:Nat} {args:List AV} {o:List Ob} {K:AV→St→Prop}:va C f args o K↔wU C f args o K:=rO
theorem vo {C:Ctx} (hC:eT C) (hL:om C) (hD:m_ C) (hN:mN C.P) {f:Nat} {args:List AV} {o:List Ob} {K:AV→St→Prop} (h:va C f args o K) :
  sJ C.P f∧∀ (G:Gh) (E:Env) (w:World) (us:Array Value),ap G pn E (JL o o.length) w→Dz E→ca E args us.toList→Calls C.P f us w fun e w'=>∃ v r S' E',K r S'∧e=.returned v∧ap G pn E' S' w'∧VR E' r v:=by
 rw [z7] at h
 unfold wU at h
 split at h
 ·rename_i fn hf
  split at h
  ·rename_i c hb
   rw [xv] at h
   refine ⟨⟨fn,c,hf,hb,hN f fn hf⟩,fun G E w us hM hg hv=>?_⟩
   refine xp.1 (callsIn_of_wp (F:=rd none) (n:=0) hf hb trivial ?_)
   have hl:args.length=us.size:=by simpa using hv.1
   refine pN hC hL hD c h none G E _ w _ (hM.congr rfl rfl rfl) ⟨?_,fun n c' u h1 h2=>?_,rfl,hg⟩ (fun e S' E' a' w' hk hS htr=>?_)
   ·simp [xu,hl]
   ·dsimp only at h1 h2
    by_cases hn:n<args.length
    ·rw [List.getElem?_append_left hn] at h1
     rw [Array.getElem?_append_left (by omega)] at h2
     exact hv.2 n c' u h1 (by simpa using h2)
    ·rw [List.getElem?_append_right (by omega)] at h1
     rw [xt h1]
     exact .bad _ _
   ·cases e with
    | ex i=>exact False.elim hk
    | nrm =>
     obtain ⟨r,u,hk',hr,hrun⟩:=kA hS htr hk
     exact ⟨htr.df,u,hrun,u,r,S',E',hk',rfl,hS,hr⟩
    | ret =>
     obtain ⟨r,u,hk',hr,hrun⟩:=kA hS htr hk
     exact ⟨htr.df,u,hrun,u,r,S',E',hk',rfl,hS,hr⟩
  ·exact False.elim h
 ·exact False.elim h
section
variable {G:Gh} {E:Env} {S:St} {w:World}
theorem ap.obj_only (hM:ap G pn E S w):ap G pn E.ob (JL S.o S.b) w :=
 ⟨hM.hp,hM.os,hM.tape,hM.output,hM.size,hM.keep,hM.F0,hM.Flt,hM.Fnew,fun k b o s n h=>hM.own k b o s n (ju h),fun k k' b o s n o' s' n' h h'=>hM.inj k k' b o s n o' s' n' (ju h) (ju h'),
  fun _=>rfl,fun id=>(hM.obj id).ob,hM.old,hM.bl,hM.szs,fun _ _ h=>(by cases h),fun id=>(hM.ow id).ob⟩
end
theorem sS {C:Ctx} (hC:eT C) (hL:om C) (hD:m_ C) (hN:mN C.P) {f:Nat} {args:List AV} {o:List Ob} {K:AV→List Ob→Prop} (h:ud C f args o K):qY C.P f args o K:=by
 obtain ⟨h1,h2⟩:=vo hC hL hD hN h
 refine ⟨h1,fun E w us hM hg hv=>(h2 _ E w us hM hg hv).mono ?_⟩
 rintro e w' ⟨v,r,S',E',hk,rfl,hS,hr⟩
 replace hk:=ae hk
 obtain ⟨hb,hk⟩:=hk
 simp only [Bool.and_eq_true] at hb
 have:=hS.obj_only
 rw [Nat.eq_of_beq_eq_true hb.2] at this
 exact ⟨v,r,S'.o,E'.ob,hk,rfl,this,l5 4 hb.1 hr⟩
def xw (C:Ctx):Prop:=∀ f args K,sF C f args K→∃ r,K r∧sF C f args (fun x=>x=r)
theorem pO {C:Ctx} (hC:eT C) (hL:om C) (hD:m_ C) (hN:mN C.P) (hA:xw C) {f:Nat} {args:List AV} {K:AV→Prop} (h:sF C f args K):aw C.P f args K:=by
 obtain ⟨r,hk,h⟩:=hA f args K h
 obtain ⟨h1,h2⟩:=vo hC hL hD hN h
 refine ⟨r,⟨h1,fun F w us hF hg hv=>?_⟩,hk⟩
 have hM:ap { w0:=w,M:=fun _=>False,F:=F,mu:=fun _=>none } pn ⟨F,fun _=>none,w.heap⟩ (JL [] 0) w :=
  ⟨rfl,rfl,rfl,rfl,Nat.le_refl _,fun _ _ _=>rfl,fun _ h=>h,hF,fun _ h _=>.inl h,fun _ _ _ _ _ h=>(by cases h),fun _ _ _ _ _ _ _ _ _ h _=>(by cases h),fun _=>rfl,fun _=>trivial,fun _ h=>(by cases h),Nat.le_refl _,fun _ _=>rfl,fun _ _ h=>(by cases h),fun _ _=>rfl⟩
 refine (h2 _ _ w us hM hg hv).mono ?_
 rintro e w' ⟨v,c,S',E',hk,rfl,hS,hr⟩
 unfold AJ at hk
 split at hk
 ·rename_i b hb
  rw [cw] at hk
  subst hk
  have hd:=iT hS _ hb hr (ids:=dX S'.o 6 c) (fun i hi=>hi)
  refine ⟨v,FD E' (dX S'.o 6 c),rfl,?_,⟨hS.os,hS.tape,hS.output,hS.size,fun b' hb'=>hS.keep b' hb' (fun h=>h)⟩,fun b' h=>.inl (hS.F0 b' h),Hq hS,fun b' h hlt=>?_⟩
  ·have e:(⟨FD E' (dX S'.o 6 c),fun _=>none,w'.heap⟩:Env)=E'.fd (dX S'.o 6 c):=by
    unfold Env.fd
    rw [hS.hp]
   rw [e]
   exact hd
  ·rcases h with h | ⟨id,_,o',s,n,h⟩
   ·rcases hS.Fnew b' h hlt with h3 | h3
    ·exact h3
    ·exact h3.elim
   ·rcases (hS.own _ _ _ _ _ h).2.2 with h3 | h3
    ·exact h3.elim
    ·have h3:w.heap.size≤b':=h3
     omega
 ·exact False.elim hk
theorem least {p:Nat→Prop}:∀ (n:Nat),p n→∃ m,p m∧∀ k,p k→m≤k:=by
 intro n
 induction n using Nat.strongRecOn with
 | _ n ih =>
  intro h
  by_cases hl:∃ k,k<n∧p k
  ·obtain ⟨k,hk,hp⟩:=hl
   exact ih k hk hp
  ·exact ⟨n,h,fun k hk=>Nat.le_of_not_lt fun hlt=>hl ⟨k,hlt,hk⟩⟩
open Classical in
noncomputable def sT (p:Nat→Prop):Nat:=if h:∃ m,p m∧∀ k,p k→m≤k then Classical.choose h else 0
theorem Cz {p:Nat→Prop} {n:Nat} (h:p n):p (sT p)∧sT p≤n:=by
 have hl:=least n h
 unfold sT
 rw [dif_pos hl]
 exact ⟨(Classical.choose_spec hl).1,(Classical.choose_spec hl).2 n h⟩
def LP (cfg:sA) (G:Gh) (pl:bz) (c:Code) (K:Ex→St→Prop) (a:Act) (w:World) (n:Nat):Prop:=∃ S E,(gY cfg n).loop pl c S K∧ap G pn E S w∧TR E S.t a
theorem oq (cfg:sA):∀ n,(gY cfg n).P=cfg.P
 | 0=>rfl
 | _ + 1=>rfl
theorem JW {cfg:sA} {N:Nat} (h:∀ m,m<N→eT (gY cfg m)∧om (gY cfg m)∧m_ (gY cfg m)):om (gY cfg N):=by
 intro pl c S K hl r G E a w Q hM ht hQ
 rw [oq]
 refine wpIn_loop (fun a w=>∃ n,n≤N∧LP cfg G pl c K a w n) (fun a w=>sT fun n=>n≤N∧LP cfg G pl c K a w n) ⟨N,Nat.le_refl _,S,E,hl,hM,ht⟩ (fun a1 w1 hI=>?_)
 obtain ⟨n0,hn0⟩:=hI
 have hsp:=(Cz (p:=fun n=>n≤N∧LP cfg G pl c K a1 w1 n) hn0).1
 generalize hmu:(sT fun n=>n≤N∧LP cfg G pl c K a1 w1 n)=mu
 rw [hmu] at hsp
 obtain ⟨hle,S1,E1,hl1,hM1,ht1⟩:=hsp
 cases mu with
 | zero=>exact False.elim hl1
 | succ m =>
  obtain ⟨h1,h2,h3⟩:=h m hle
  have hl2:iq (gY cfg m) pl c S1 fun e S'=>match e with
   | .nrm=>(gY cfg m).loop pl c S' K
   | .ex i=>K (.ex i) S'
   | .ret=>K .ret S':=(rO (C:=gY cfg m) (k:=fun C=>iq C pl c S1 fun e S'=>match e with
   | .nrm=>C.loop pl c S' K
   | .ex i=>K (.ex i) S'
   | .ret=>K .ret S')).1 hl1
  have:=pN h1 h2 h3 c hl2 r G E1 a1 w1 (Exit.then (fun a' w'=>(∃ n,n≤N∧LP cfg G pl c K a' w' n)∧(sT fun n=>n≤N∧LP cfg G pl c K a' w' n)<m + 1) Q) hM1 ht1 (fun e S' E' a' w' hk hS htr=>by
   cases e with
   | nrm =>
    have hp:m≤N∧LP cfg G pl c K a' w' m:=⟨Nat.le_of_succ_le hle,S',E',hk,hS,htr⟩
    exact ⟨⟨m,hp⟩,Nat.lt_succ_of_le (Cz (p:=fun n=>n≤N∧LP cfg G pl c K a' w' n) hp).2⟩
   | ex i=>exact hQ (.ex i) _ _ _ _ hk hS htr
   | ret=>exact hQ .ret _ _ _ _ hk hS htr)
  rw [oq] at this
  exact this
theorem JX {cfg:sA} (hQ:∀ f args r,cfg.xq f args=some r→DT cfg.P f args r) (hX:∀ f args o K,cfg.xc f args o K→qY cfg.P f args o K) (hN:mN cfg.P) (hA:∀ n,xw (gY cfg n)) (hD:∀ n,eT (gY cfg n)→m_ (gY cfg n)):∀ n,eT (gY cfg n)∧om (gY cfg n)∧m_ (gY cfg n):=by
 intro n
 induction n using Nat.strongRecOn with
 | _ n ih =>
  have hC:eT (gY cfg n):=by
   cases n with
   | zero=>exact ⟨fun f args K h=>False.elim h,fun f args o K h=>False.elim h⟩
   | succ n =>
    obtain ⟨h1,h2,h3⟩:=ih n (Nat.lt_succ_self n)
    have hN':mN (gY cfg n).P:=by rw [oq]; exact hN
    refine ⟨fun f args K h=>?_,fun f args o K h=>?_⟩
    ·rw [oq]
     have h:(match cfg.xq f args with | some r=>K r | none=>sF (gY cfg n) f args K):=h
     split at h
     ·rename_i r hr
      exact ⟨r,hQ _ _ _ hr,h⟩
     ·have:=pO h1 h2 h3 hN' (hA n) h
      rw [oq] at this
      exact this
    ·rw [oq]
     have h:(match cfg.xs f with | true=>cfg.xc f args o K | false=>ud (gY cfg n) f args o K):=h
     split at h
     ·exact hX _ _ _ _ h
     ·have:=sS h1 h2 h3 hN' h
      rw [oq] at this
      exact this
  exact ⟨hC,JW ih,hD n hC⟩
def aD {α:Type} (X:(α→Prop)→Prop):Prop:=∀ K,X K→∃ r,K r∧∀ K',K' r→X K'
def ay {α β:Type} (X:(α→β→Prop)→Prop):Prop:=∀ K,X K→∃ a b,K a b∧∀ K',K' a b→X K'
def cm {α β γ:Type} (X:(α→β→γ→Prop)→Prop):Prop:=∀ K,X K→∃ a b c,K a b c∧∀ K',K' a b c→X K'
theorem aD.failN {α:Type} {n:Nat}:aD (fun _:α→Prop=>ak n):=fun _ h=>False.elim h
theorem ay.failN {α β:Type} {n:Nat}:ay (fun _:α→β→Prop=>ak n):=fun _ h=>False.elim h
theorem cm.failN {α β γ:Type} {n:Nat}:cm (fun _:α→β→γ→Prop=>ak n):=fun _ h=>False.elim h
theorem aD.ret {α:Type} (a:α):aD (fun K=>K a):=fun _ h=>⟨a,h,fun _ h=>h⟩
theorem ay.ret {α β:Type} (a:α) (b:β):ay (fun K=>K a b):=fun _ h=>⟨a,b,h,fun _ h=>h⟩
theorem cm.ret {α β γ:Type} (a:α) (b:β) (c:γ):cm (fun K=>K a b c):=fun _ h=>⟨a,b,c,h,fun _ h=>h⟩
theorem aD.chk {α:Type} {b:Bool} {X:(α→Prop)→Prop} (h:aD X):aD (fun K=>bA b (X K)):=fun K hk=>by
 obtain ⟨hb,hx⟩:=ae hk
 obtain ⟨r,h1,h2⟩:=h K hx
 exact ⟨r,h1,fun K' hk'=>av hb (h2 K' hk')⟩
theorem ay.chk {α β:Type} {b:Bool} {X:(α→β→Prop)→Prop} (h:ay X):ay (fun K=>bA b (X K)):=fun K hk=>by
 obtain ⟨hb,hx⟩:=ae hk
 obtain ⟨r,s,h1,h2⟩:=h K hx
 exact ⟨r,s,h1,fun K' hk'=>av hb (h2 K' hk')⟩
theorem cm.chk {α β γ:Type} {b:Bool} {X:(α→β→γ→Prop)→Prop} (h:cm X):cm (fun K=>bA b (X K)):=fun K hk=>by
 obtain ⟨hb,hx⟩:=ae hk
 obtain ⟨r,s,t,h1,h2⟩:=h K hx
 exact ⟨r,s,t,h1,fun K' hk'=>av hb (h2 K' hk')⟩
theorem aD.fork {α:Type} {b:Bool} {X Y:(α→Prop)→Prop} (h:aD X) (k:aD Y):aD (fun K=>B2 b (X K) (Y K)):=by
 cases b
 ·exact k
 ·exact h
theorem ay.fork {α β:Type} {b:Bool} {X Y:(α→β→Prop)→Prop} (h:ay X) (k:ay Y):ay (fun K=>B2 b (X K) (Y K)):=by
 cases b
 ·exact k
 ·exact h
theorem aD.gsel {α:Type} {b:Option Bool} {w:Bool} {X Y:(α→Prop)→Prop} (h:aD X) (k:aD Y):aD (fun K=>gsel b w (X K) (Y K)):=by
 unfold A.gsel
 split
 ·exact h
 ·exact h
 ·exact k
theorem aD.bind {α β:Type} {X:(α→Prop)→Prop} {Y:α→(β→Prop)→Prop} (h:aD X) (k:∀ a,aD (Y a)):aD (fun K=>X fun a=>Y a K):=fun K hk=>by
 obtain ⟨r,h1,h2⟩:=h _ hk
 obtain ⟨s,h3,h4⟩:=k r K h1
 exact ⟨s,h3,fun K' hk'=>h2 _ (h4 K' hk')⟩
theorem aD.bind2 {α β γ:Type} {X:(α→Prop)→Prop} {Y:α→(β→γ→Prop)→Prop} (h:aD X) (k:∀ a,ay (Y a)):ay (fun K=>X fun a=>Y a K):=fun K hk=>by
 obtain ⟨r,h1,h2⟩:=h _ hk
 obtain ⟨s,t,h3,h4⟩:=k r K h1
 exact ⟨s,t,h3,fun K' hk'=>h2 _ (h4 K' hk')⟩
theorem ay.bind {α β γ:Type} {X:(α→β→Prop)→Prop} {Y:α→β→(γ→Prop)→Prop} (h:ay X) (k:∀ a b,aD (Y a b)):aD (fun K=>X fun a b=>Y a b K):=fun K hk=>by
 obtain ⟨r,s,h1,h2⟩:=h _ hk
 obtain ⟨t,h3,h4⟩:=k r s K h1
 exact ⟨t,h3,fun K' hk'=>h2 _ (h4 K' hk')⟩
theorem ay.bind2 {α β γ δ:Type} {X:(α→β→Prop)→Prop} {Y:α→β→(γ→δ→Prop)→Prop} (h:ay X) (k:∀ a b,ay (Y a b)):ay (fun K=>X fun a b=>Y a b K):=fun K hk=>by
 obtain ⟨r,s,h1,h2⟩:=h _ hk
 obtain ⟨t,u,h3,h4⟩:=k r s K h1
 exact ⟨t,u,h3,fun K' hk'=>h2 _ (h4 K' hk')⟩
theorem cm.bind {α β γ δ:Type} {X:(α→β→γ→Prop)→Prop} {Y:α→β→γ→(δ→Prop)→Prop} (h:cm X) (k:∀ a b c,aD (Y a b c)):aD (fun K=>X fun a b c=>Y a b c K):=fun K hk=>by
 obtain ⟨r,s,q,h1,h2⟩:=h _ hk
 obtain ⟨t,h3,h4⟩:=k r s q K h1
 exact ⟨t,h3,fun K' hk'=>h2 _ (h4 K' hk')⟩
theorem dF {α:Type} {n:Nat}:aD (fun _:α→Prop=>ak n):=aD.failN
theorem hT {α β:Type} {n:Nat}:ay (fun _:α→β→Prop=>ak n):=ay.failN
theorem hU {α β γ:Type} {n:Nat}:cm (fun _:α→β→γ→Prop=>ak n):=cm.failN
theorem dR {α:Type} (a:α):aD (fun K=>K a):=aD.ret a
theorem h_ {α β:Type} (a:α) (b:β):ay (fun K=>K a b):=ay.ret a b
theorem ia {α β γ:Type} (a:α) (b:β) (c:γ):cm (fun K=>K a b c):=cm.ret a b c
theorem dC {α:Type} {b:Bool} {X:(α→Prop)→Prop} (h:aD X):aD (fun K=>bA b (X K)):=aD.chk h
theorem ib {α β:Type} {b:Bool} {X:(α→β→Prop)→Prop} (h:ay X):ay (fun K=>bA b (X K)):=ay.chk h
theorem ic {α β γ:Type} {b:Bool} {X:(α→β→γ→Prop)→Prop} (h:cm X):cm (fun K=>bA b (X K)):=cm.chk h
theorem db {α β:Type} {X:(α→Prop)→Prop} {Y:α→(β→Prop)→Prop} (h:aD X) (k:∀ a,aD (Y a)):aD (fun K=>X fun a=>Y a K):=aD.bind h k
theorem bF {α β γ:Type} {X:(α→Prop)→Prop} {Y:α→(β→γ→Prop)→Prop} (h:aD X) (k:∀ a,ay (Y a)):ay (fun K=>X fun a=>Y a K):=aD.bind2 h k
theorem dd {α β γ:Type} {X:(α→β→Prop)→Prop} {Y:α→β→(γ→Prop)→Prop} (h:ay X) (k:∀ a b,aD (Y a b)):aD (fun K=>X fun a b=>Y a b K):=ay.bind h k
theorem wo {α β γ δ:Type} {X:(α→β→Prop)→Prop} {Y:α→β→(γ→δ→Prop)→Prop} (h:ay X) (k:∀ a b,ay (Y a b)):ay (fun K=>X fun a b=>Y a b K):=ay.bind2 h k
theorem dt {α β γ δ:Type} {X:(α→β→γ→Prop)→Prop} {Y:α→β→γ→(δ→Prop)→Prop} (h:cm X) (k:∀ a b c,aD (Y a b c)):aD (fun K=>X fun a b c=>Y a b c K):=cm.bind h k
theorem aD.of_iff {α:Type} {X:(α→Prop)→Prop} {a:α} (h:∀ K:α→Prop,X K↔K a):aD X:=fun K hk=>⟨a,(h K).1 hk,fun K' hk'=>(h K').2 hk'⟩
theorem gM {a:AV}:aD (lU a):=.of_iff fun _=>cw
theorem bv {xs:List AV}:aD (ji xs):=.of_iff fun _=>dO
theorem pQ {xs:List AV}:aD (wl xs):=.of_iff fun _=>iS
theorem ot {xs:List (Nat×List AV)}:aD (pu xs):=.of_iff fun _=>jr
theorem ar {xs:List Ob}:aD (bf xs):=.of_iff fun _=>aC
theorem iu {xs:List AV} {n:Nat}:aD (rp xs n):=fun K h=>by
 obtain ⟨a,h1,h2⟩:=cf.1 h
 exact ⟨a,h2,fun K' h3=>cf.2 ⟨a,h1,h3⟩⟩
theorem kK {xs:List AV} {n:Nat} {v:AV}:aD (tW xs n v):=.of_iff fun _=>eK
theorem bk {dst:Option Tmp} {a:AV} {S:St}:aD (bG dst a S):=.of_iff fun _=>aK
theorem bM {k:Key} {xs:List AV}:aD (nx k xs):=.of_iff fun _=>iV
theorem bB {k:Key} {xs:List (Nat×List AV)}:aD (nU k xs):=.of_iff fun _=>iW
theorem fp {k:Key} {xs:List Ob}:aD (jj k xs):=.of_iff fun _=>eg
theorem cg {S:St} {x:Operand}:aD (cL S x):=by
 unfold cL
 repeat' first
  |exact dF|exact iu|exact gM|exact dR _|refine aD.bind gM (fun _=>?_)|split
theorem a6 {S:St}:∀ {xs:List Operand},aD (dH S xs)
 | []=>aD.ret _
 | x::xs=>by
  show aD (fun K=>cL S x fun a=>dH S xs fun as=>K (a::as))
  exact aD.bind cg (fun a=>aD.bind a6 (fun as=>aD.ret (a::as)))
theorem D2 {d:Nat} {S:St}:ay (wL d S):=by
 unfold wL
 refine aD.bind2 iu (fun a=>?_)
 split
 ·exact ay.fork (aD.bind2 kK (fun _=>ay.ret _ _)) (aD.bind2 kK (fun _=>ay.ret _ _))
 ·exact ay.failN
theorem D3 {c:Operand} {S:St}:ay (rq c S):=by
 unfold rq
 split
 ·exact D2
 ·exact ay.fork (ay.ret _ _) (ay.ret _ _)
 ·exact ay.failN
structure g7 (C:Ctx):Prop where
 pcall:∀ f args,aD (C.pcall f args)
 scall:∀ f args o,ay (C.scall f args o)
 loop:∀ pl c S,ay (C.loop pl c S)
theorem bY {a:AV}:aD (nV a):=by
 unfold nV
 repeat' first
  |exact dF|exact hT|exact hU|exact dR _|exact h_ _ _|exact ia _ _ _|refine dC ?_|refine ib ?_|refine ic ?_|split
theorem sU {S:St} {key:Key} {i:Nat}:aD (yR S key i):=by
 unfold yR
 repeat' first
  |exact dF|exact hT|exact hU|exact dR _|exact h_ _ _|exact ia _ _ _|refine dC ?_|refine ib ?_|refine ic ?_|split
theorem wq {S:St} {a:AV}:ay (He S a):=by
 unfold He
 repeat' first
  |exact dF|exact hT|exact hU|exact dR _|exact h_ _ _|exact ia _ _ _|refine dC ?_|refine ib ?_|refine ic ?_|exact sU|refine db sU fun _=>?_
  |refine bF sU fun _=>?_|split
theorem dj {P:Program} {t:TypeId} {row:List AV} {j:Nat}:aD (jk P t row j):=by
 unfold jk
 repeat' first
  |exact dF|exact hT|exact hU|exact dR _|exact h_ _ _|exact ia _ _ _|refine dC ?_|refine ib ?_|refine ic ?_|exact bv|refine db bv fun _=>?_
  |refine bF bv fun _=>?_|split
theorem rP {S:St} {a:AV} {cs:List AV}:aD (m4 S a cs):=by
 unfold m4
 repeat' first
  |exact dF|exact hT|exact hU|exact dR _|exact h_ _ _|exact ia _ _ _|refine dC ?_|refine ib ?_|refine ic ?_|exact bv|refine db bv fun _=>?_
  |refine bF bv fun _=>?_|exact ot|refine db ot fun _=>?_|refine bF ot fun _=>?_|exact ar|refine db ar fun _=>?_
  |refine bF ar fun _=>?_|split
theorem un {op:BinOp} {x y:Value}:aD (wN op x y):=by
 unfold wN
 repeat' first
  |exact dF|exact hT|exact hU|exact dR _|exact h_ _ _|exact ia _ _ _|refine dC ?_|refine ib ?_|refine ic ?_|split
theorem uo {P:Program} {op:BinOp} {t:TypeId} {a b:Bool}:aD (B3 P op t a b):=by
 unfold B3
 repeat' first
  |exact dF|exact hT|exact hU|exact dR _|exact h_ _ _|exact ia _ _ _|refine dC ?_|refine ib ?_|refine ic ?_|split
theorem uq {P:Program} {op:BinOp} {t:TypeId} {a b:Value}:aD (zD P op t a b):=by
 unfold zD
 repeat' first
  |exact dF|exact hT|exact hU|exact dR _|exact h_ _ _|exact ia _ _ _|refine dC ?_|refine ib ?_|refine ic ?_|exact uo|refine db uo fun _=>?_
  |refine bF uo fun _=>?_|exact un|refine db un fun _=>?_|refine bF un fun _=>?_|split
theorem xx {op:BinOp} {x y:AV}:aD (Hg op x y):=by
 unfold Hg
 repeat' first
  |exact dF|exact hT|exact hU|exact dR _|exact h_ _ _|exact ia _ _ _|refine dC ?_|refine ib ?_|refine ic ?_|split
theorem sV {P:Program} {op:BinOp} {t:TypeId} {x y:AV}:aD (DF P op t x y):=by
 unfold DF
 repeat' first
  |exact dF|exact hT|exact hU|exact dR _|exact h_ _ _|exact ia _ _ _|refine dC ?_|refine ib ?_|refine ic ?_|exact uq|refine db uq fun _=>?_
  |refine bF uq fun _=>?_|exact xx|refine db xx fun _=>?_|refine bF xx fun _=>?_|split
theorem A9 {op:UnOp} {x:AV}:aD (OO op x):=by
 unfold OO
 repeat' first
  |exact dF|exact hT|exact hU|exact dR _|exact h_ _ _|exact ia _ _ _|refine dC ?_|refine ib ?_|refine ic ?_|split
theorem aP {P:Program} {e:TypeId}:aD (cP P e):=by
 unfold cP
 repeat' first
  |exact dF|exact hT|exact hU|exact dR _|exact h_ _ _|exact ia _ _ _|refine dC ?_|refine ib ?_|refine ic ?_|exact pQ|refine db pQ fun _=>?_
  |refine bF pQ fun _=>?_|split
theorem g9 {d:Nat} {S:St}:aD (zE d S):=by
 unfold zE
 repeat' first
  |exact dF|exact hT|exact hU|exact dR _|exact h_ _ _|exact ia _ _ _|refine dC ?_|refine ib ?_|refine ic ?_|exact bM|refine db bM fun _=>?_
  |refine bF bM fun _=>?_|exact bB|refine db bB fun _=>?_|refine bF bB fun _=>?_|split
theorem gd:∀ (ds:List Nat) (S:St),aD (nW ds S)
 | [],S=>by
  show aD (fun K=>nW [] S K)
  unfold nW
  repeat' first
   | exact aD.failN
   | exact ay.failN
   | exact cm.failN
   | exact aD.ret _
   | exact ay.ret _ _
   | exact cm.ret _ _ _
   | refine aD.chk ?_
   | refine ay.chk ?_
   | refine cm.chk ?_
   | exact gd _ _
   | refine db (gd _ _) fun _=>?_
   | refine bF (gd _ _) fun _=>?_
   | exact g9
   | refine db g9 fun _=>?_
   | refine bF g9 fun _=>?_
   | split
 | d::ds,S=>by
  show aD (fun K=>nW (d::ds) S K)
  unfold nW
  repeat' first
   | exact aD.failN
   | exact ay.failN
   | exact cm.failN
   | exact aD.ret _
   | exact ay.ret _ _
   | exact cm.ret _ _ _
   | refine aD.chk ?_
   | refine ay.chk ?_
   | refine cm.chk ?_
   | exact gd _ _
   | refine db (gd _ _) fun _=>?_
   | refine bF (gd _ _) fun _=>?_
   | exact g9
   | refine db g9 fun _=>?_
   | refine bF g9 fun _=>?_
   | split
theorem xy {pl:bz} {dst:Option Tmp} {cs:List AV} {S:St}:aD (B4 pl dst cs S):=by
 unfold B4
 repeat' first
  |exact dF|exact hT|exact hU|exact dR _|exact h_ _ _|exact ia _ _ _|refine dC ?_|refine ib ?_|refine ic ?_|exact ar|refine db ar fun _=>?_
  |refine bF ar fun _=>?_|exact kK|refine db kK fun _=>?_|refine bF kK fun _=>?_|exact g9|refine db g9 fun _=>?_
  |refine bF g9 fun _=>?_|exact bM|refine db bM fun _=>?_|refine bF bM fun _=>?_|split
theorem dk:∀ (ps:List (Nat×AV)) (place:Nat→Option (Nat×Nat)) (cells:List AV),aD (oS place cells ps)
 | [],p,c=>by
  show aD (fun K=>oS p c [] K)
  unfold oS
  repeat' first
   | exact aD.failN
   | exact ay.failN
   | exact cm.failN
   | exact aD.ret _
   | exact ay.ret _ _
   | exact cm.ret _ _ _
   | refine aD.chk ?_
   | refine ay.chk ?_
   | refine cm.chk ?_
   | exact dk _ _ _
   | refine db (dk _ _ _) fun _=>?_
   | refine bF (dk _ _ _) fun _=>?_
   | exact bv
   | refine db bv fun _=>?_
   | refine bF bv fun _=>?_
   | exact bY
   | refine db bY fun _=>?_
   | refine bF bY fun _=>?_
   | split
 | (i,x)::rest,p,c=>by
  show aD (fun K=>oS p c ((i,x)::rest) K)
  unfold oS
  repeat' first
   | exact aD.failN
   | exact ay.failN
   | exact cm.failN
   | exact aD.ret _
   | exact ay.ret _ _
   | exact cm.ret _ _ _
   | refine aD.chk ?_
   | refine ay.chk ?_
   | refine cm.chk ?_
   | exact dk _ _ _
   | refine db (dk _ _ _) fun _=>?_
   | refine bF (dk _ _ _) fun _=>?_
   | exact bv
   | refine db bv fun _=>?_
   | refine bF bv fun _=>?_
   | exact bY
   | refine db bY fun _=>?_
   | refine bF bY fun _=>?_
   | split
theorem rQ {P:Program} {t:TypeId} {parts:List (Nat×AV)}:aD (wO P t parts):=by
 unfold wO
 repeat' first
  |exact dF|exact hT|exact hU|exact dR _|exact h_ _ _|exact ia _ _ _|refine dC ?_|refine ib ?_|refine ic ?_|exact aP|refine db aP fun _=>?_
  |refine bF aP fun _=>?_|exact dk _ _ _|refine db (dk _ _ _) fun _=>?_|refine bF (dk _ _ _) fun _=>?_|split
theorem bZ:∀ (xs:List (List AV)),aD (gz xs)
 | []=>by
  show aD (fun K=>gz [] K)
  unfold gz
  repeat' first
   | exact aD.failN
   | exact ay.failN
   | exact cm.failN
   | exact aD.ret _
   | exact ay.ret _ _
   | exact cm.ret _ _ _
   | refine aD.chk ?_
   | refine ay.chk ?_
   | refine cm.chk ?_
   | exact bZ _
   | refine db (bZ _) fun _=>?_
   | refine bF (bZ _) fun _=>?_
   | exact bv
   | refine db bv fun _=>?_
   | refine bF bv fun _=>?_
   | split
 | x::xs=>by
  show aD (fun K=>gz (x::xs) K)
  unfold gz
  repeat' first
   | exact aD.failN
   | exact ay.failN
   | exact cm.failN
   | exact aD.ret _
   | exact ay.ret _ _
   | exact cm.ret _ _ _
   | refine aD.chk ?_
   | refine ay.chk ?_
   | refine cm.chk ?_
   | exact bZ _
   | refine db (bZ _) fun _=>?_
   | refine bF (bZ _) fun _=>?_
   | exact bv
   | refine db bv fun _=>?_
   | refine bF bv fun _=>?_
   | split
theorem kZ {P:Program} {pl:bz} {dst:Option Tmp} {t:TypeId} {len:Nat} {parts:List (Nat×AV)} {S:St}:aD (kF P pl dst t len parts S):=by
 unfold kF
 repeat' first
  |exact dF|exact hT|exact hU|exact dR _|exact h_ _ _|exact ia _ _ _|refine dC ?_|refine ib ?_|refine ic ?_|exact bk|refine db bk fun _=>?_
  |refine bF bk fun _=>?_|exact aP|refine db aP fun _=>?_|refine bF aP fun _=>?_|exact dk _ _ _|refine db (dk _ _ _) fun _=>?_
  |refine bF (dk _ _ _) fun _=>?_|exact bZ _|refine db (bZ _) fun _=>?_|refine bF (bZ _) fun _=>?_|exact ar
  |refine db ar fun _=>?_|refine bF ar fun _=>?_|split
theorem ou {P:Program} {pl:bz} {dst:Option Tmp} {t:TypeId} {len:Nat} {parts:List (Nat×AV)}:aD (px P pl dst t len parts):=by
 unfold px
 repeat' first
  |exact dF|exact hT|exact hU|exact dR _|exact h_ _ _|exact ia _ _ _|refine dC ?_|refine ib ?_|refine ic ?_|exact aP|refine db aP fun _=>?_
  |refine bF aP fun _=>?_|exact dk _ _ _|refine db (dk _ _ _) fun _=>?_|refine bF (dk _ _ _) fun _=>?_|exact bZ _
  |refine db (bZ _) fun _=>?_|refine bF (bZ _) fun _=>?_|split
theorem xz {P:Program} {t:TypeId} {S:St} {x:AV}:aD (Hh P t S x):=by
 unfold Hh
 repeat' first
  |exact dF|exact hT|exact hU|exact dR _|exact h_ _ _|exact ia _ _ _|refine dC ?_|refine ib ?_|refine ic ?_|split
theorem eu {size:Nat} {S:St} {x:AV}:ay (lg size S x):=by
 unfold lg
 repeat' first
  |exact dF|exact hT|exact hU|exact dR _|exact h_ _ _|exact ia _ _ _|refine dC ?_|refine ib ?_|refine ic ?_|refine bF sU fun _=>?_|split
theorem ut {S:St} {id:Nat} {ob:Ob}:ay (qT S id ob):=by
 unfold qT
 repeat' first
  |exact dF|exact hT|exact hU|exact dR _|exact h_ _ _|exact ia _ _ _|refine dC ?_|refine ib ?_|refine ic ?_|exact bM|refine db bM fun _=>?_
  |refine bF bM fun _=>?_|exact bB|refine db bB fun _=>?_|refine bF bB fun _=>?_|exact fp|refine db fp fun _=>?_
  |refine bF fp fun _=>?_|exact ar|refine db ar fun _=>?_|refine bF ar fun _=>?_|split
theorem pR {P:Program} {ts:List TypeId} {base x:AV} {S:St}:ay (mH P ts base x S):=by
 unfold mH
 repeat' first
  |exact dF|exact hT|exact hU|exact dR _|exact h_ _ _|exact ia _ _ _|refine dC ?_|refine ib ?_|refine ic ?_|exact eu|refine dd eu fun _ _=>?_
  |refine wo eu fun _ _=>?_|exact ar|refine db ar fun _=>?_|refine bF ar fun _=>?_|exact ut|refine dd ut fun _ _=>?_
  |refine wo ut fun _ _=>?_|split
theorem Ba {P:Program} {ts:List TypeId} {base x:AV}:aD (lV P ts base x):=by
 unfold lV
 repeat' first
  |exact dF|exact hT|exact hU|exact dR _|exact h_ _ _|exact ia _ _ _|refine dC ?_|refine ib ?_|refine ic ?_|exact eu|refine dd eu fun _ _=>?_
  |refine wo eu fun _ _=>?_|split
theorem ov {P:Program} {ts:List TypeId} {base:AV} {n:Int} {S:St}:ay (lW P ts base n S):=by
 unfold lW
 repeat' first
  |exact dF|exact hT|exact hU|exact dR _|exact h_ _ _|exact ia _ _ _|refine dC ?_|refine ib ?_|refine ic ?_|exact aP|refine db aP fun _=>?_
  |refine bF aP fun _=>?_|exact ar|refine db ar fun _=>?_|refine bF ar fun _=>?_|split
theorem xA {P:Program} {ts:List TypeId} {x:AV}:aD (Hi P ts x):=by
 unfold Hi
 repeat' first
  |exact dF|exact hT|exact hU|exact dR _|exact h_ _ _|exact ia _ _ _|refine dC ?_|refine ib ?_|refine ic ?_|split
theorem uu {P:Program} {ts:List TypeId} {x y:AV} {M:St}:ay (u7 P ts x y M):=by
 unfold u7
 repeat' first
  |exact dF|exact hT|exact hU|exact dR _|exact h_ _ _|exact ia _ _ _|refine dC ?_|refine ib ?_|refine ic ?_|exact eu|refine dd eu fun _ _=>?_
  |refine wo eu fun _ _=>?_|exact ar|refine db ar fun _=>?_|refine bF ar fun _=>?_|split
theorem D4 {P:Program} {ts:List TypeId} {x:AV} {M:St}:aD (tX P ts x M):=by
 unfold tX
 repeat' first
  |exact dF|exact hT|exact hU|exact dR _|exact h_ _ _|exact ia _ _ _|refine dC ?_|refine ib ?_|refine ic ?_|refine db aP fun _=>?_|refine db ar fun _=>?_|split
theorem a7 {a:AV}:aD (intOf a):=by
 unfold intOf
 repeat' first
  |exact dF|exact hT|exact hU|exact dR _|exact h_ _ _|exact ia _ _ _|refine dC ?_|refine ib ?_|refine ic ?_|split
theorem gN {P:Program} {t:TypeId} {l c:AV} {S:St}:ay (bo P t l c S):=by
 unfold bo
 repeat' first
  |exact dF|exact hT|exact hU|exact dR _|exact h_ _ _|exact ia _ _ _|refine dC ?_|refine ib ?_|refine ic ?_|exact a7|refine db a7 fun _=>?_
  |refine bF a7 fun _=>?_|exact aP|refine db aP fun _=>?_|refine bF aP fun _=>?_|exact ar|refine db ar fun _=>?_
  |refine bF ar fun _=>?_|split
theorem CB {len cap:Nat} {lo hi mx:Option Int}:cm (tY len cap lo hi mx):=by
 unfold tY
 repeat' first
  |exact dF|exact hT|exact hU|exact dR _|exact h_ _ _|exact ia _ _ _|refine dC ?_|refine ib ?_|refine ic ?_|split
theorem rS {P:Program} {t:TypeId} {x:AV} {lo hi mx:Option Int} {S:St}:aD (jT P t x lo hi mx S):=by
 unfold jT
 repeat' first
  |exact dF|exact hT|exact hU|exact dR _|exact h_ _ _|exact ia _ _ _|refine dC ?_|refine ib ?_|refine ic ?_|exact CB|refine dt CB fun _ _ _=>?_
  |split
theorem l9 {P:Program} {t:TypeId} {x ix:AV} {S:St}:aD (iF P t x ix S):=by
 unfold iF
 repeat' first
  |exact dF|exact hT|exact hU|exact dR _|exact h_ _ _|exact ia _ _ _|refine dC ?_|refine ib ?_|refine ic ?_|exact a7|refine db a7 fun _=>?_
  |refine bF a7 fun _=>?_|split
theorem rT {P:Program} {t:TypeId} {x ix:AV}:aD (rt P t x ix):=by
 unfold rt
 repeat' first
  |exact dF|exact hT|exact hU|exact dR _|exact h_ _ _|exact ia _ _ _|refine dC ?_|refine ib ?_|refine ic ?_|exact a7|refine db a7 fun _=>?_
  |refine bF a7 fun _=>?_|exact dj|refine db dj fun _=>?_|refine bF dj fun _=>?_|split
theorem l_ {P:Program} {t:TypeId} {x:AV} {f:Nat}:aD (lX P t x f):=by
 unfold lX
 repeat' first
  |exact dF|exact hT|exact hU|exact dR _|exact h_ _ _|exact ia _ _ _|refine dC ?_|refine ib ?_|refine ic ?_|split
theorem rU {P:Program} {t:TypeId} {x:AV} {f:Nat}:aD (wQ P t x f):=by
 unfold wQ
 repeat' first
  |exact dF|exact hT|exact hU|exact dR _|exact h_ _ _|exact ia _ _ _|refine dC ?_|refine ib ?_|refine ic ?_|exact dj|refine db dj fun _=>?_
  |refine bF dj fun _=>?_|split
theorem Bb {P:Program} {src dst:TypeId} {x:AV}:aD (py P src dst x):=by
 unfold py
 repeat' first
  |exact dF|exact hT|exact hU|exact dR _|exact h_ _ _|exact ia _ _ _|refine dC ?_|refine ib ?_|refine ic ?_|split
theorem na {P:Program} {src dst:TypeId} {x:AV} {S:St}:aD (iR P src dst x S):=by
 unfold iR
 repeat' first
  |exact dF|exact hT|exact hU|exact dR _|exact h_ _ _|exact ia _ _ _|refine dC ?_|refine ib ?_|refine ic ?_|exact Bb|refine dd eu fun _ _=>?_|split
theorem Gv {P:Program} {op:BinOp} {t:TypeId} {x y:AV} {S:St}:aD (B5 P op t x y S):=by
 unfold B5
 repeat' first
  |exact dF|exact hT|exact hU|exact dR _|exact h_ _ _|exact ia _ _ _|refine dC ?_|refine ib ?_|refine ic ?_|exact sV|split
theorem mc {o:List Ob} {a:AV}:aD (AJ o a):=by
 unfold AJ
 repeat' first
  |exact dF|exact hT|exact hU|exact dR _|exact h_ _ _|exact ia _ _ _|refine dC ?_|refine ib ?_|refine ic ?_|exact gM|refine db gM fun _=>?_
  |refine bF gM fun _=>?_|split
theorem dI:∀ (xs:List AV) (o:List Ob),aD (jH o xs)
 | [],o=>by
  show aD (fun K=>jH o [] K)
  unfold jH
  repeat' first
   | exact aD.failN
   | exact ay.failN
   | exact cm.failN
   | exact aD.ret _
   | exact ay.ret _ _
   | exact cm.ret _ _ _
   | refine aD.chk ?_
   | refine ay.chk ?_
   | refine cm.chk ?_
   | exact dI _ _
   | refine db (dI _ _) fun _=>?_
   | refine bF (dI _ _) fun _=>?_
   | exact mc
   | refine db mc fun _=>?_
   | refine bF mc fun _=>?_
   | split
 | x::xs,o=>by
  show aD (fun K=>jH o (x::xs) K)
  unfold jH
  repeat' first
   | exact aD.failN
   | exact ay.failN
   | exact cm.failN
   | exact aD.ret _
   | exact ay.ret _ _
   | exact cm.ret _ _ _
   | refine aD.chk ?_
   | refine ay.chk ?_
   | refine cm.chk ?_
   | exact dI _ _
   | refine db (dI _ _) fun _=>?_
   | refine bF (dI _ _) fun _=>?_
   | exact mc
   | refine db mc fun _=>?_
   | refine bF mc fun _=>?_
   | split
theorem cW:∀ (xs:List Nat) (S:St),aD (gW xs S)
 | [],S=>by
  show aD (fun K=>gW [] S K)
  unfold gW
  repeat' first
   | exact aD.failN
   | exact ay.failN
   | exact cm.failN
   | exact aD.ret _
   | exact ay.ret _ _
   | exact cm.ret _ _ _
   | refine aD.chk ?_
   | refine ay.chk ?_
   | refine cm.chk ?_
   | exact cW _ _
   | refine db (cW _ _) fun _=>?_
   | refine bF (cW _ _) fun _=>?_
   | exact bM
   | refine db bM fun _=>?_
   | refine bF bM fun _=>?_
   | exact bB
   | refine db bB fun _=>?_
   | refine bF bB fun _=>?_
   | exact fp
   | refine db fp fun _=>?_
   | refine bF fp fun _=>?_
   | exact ar
   | refine db ar fun _=>?_
   | refine bF ar fun _=>?_
   | split
 | x::xs,S=>by
  show aD (fun K=>gW (x::xs) S K)
  unfold gW
  repeat' first
   | exact aD.failN
   | exact ay.failN
   | exact cm.failN
   | exact aD.ret _
   | exact ay.ret _ _
   | exact cm.ret _ _ _
   | refine aD.chk ?_
   | refine ay.chk ?_
   | refine cm.chk ?_
   | exact cW _ _
   | refine db (cW _ _) fun _=>?_
   | refine bF (cW _ _) fun _=>?_
   | exact bM
   | refine db bM fun _=>?_
   | refine bF bM fun _=>?_
   | exact bB
   | refine db bB fun _=>?_
   | refine bF bB fun _=>?_
   | exact fp
   | refine db fp fun _=>?_
   | refine bF fp fun _=>?_
   | exact ar
   | refine db ar fun _=>?_
   | refine bF ar fun _=>?_
   | split
theorem ge:∀ (xs:List Nat) (t:List AV) (l:List (Nat×List AV)),ay (kW xs t l)
 | [],t,l=>by
  show ay (fun K=>kW [] t l K)
  unfold kW
  repeat' first
   | exact aD.failN
   | exact ay.failN
   | exact cm.failN
   | exact aD.ret _
   | exact ay.ret _ _
   | exact cm.ret _ _ _
   | refine aD.chk ?_
   | refine ay.chk ?_
   | refine cm.chk ?_
   | exact ge _ _ _
   | refine dd (ge _ _ _) fun _ _=>?_
   | refine wo (ge _ _ _) fun _ _=>?_
   | exact bM
   | refine db bM fun _=>?_
   | refine bF bM fun _=>?_
   | exact bB
   | refine db bB fun _=>?_
   | refine bF bB fun _=>?_
   | split
 | x::xs,t,l=>by
  show ay (fun K=>kW (x::xs) t l K)
  unfold kW
  repeat' first
   | exact aD.failN
   | exact ay.failN
   | exact cm.failN
   | exact aD.ret _
   | exact ay.ret _ _
   | exact cm.ret _ _ _
   | refine aD.chk ?_
   | refine ay.chk ?_
   | refine cm.chk ?_
   | exact ge _ _ _
   | refine dd (ge _ _ _) fun _ _=>?_
   | refine wo (ge _ _ _) fun _ _=>?_
   | exact bM
   | refine db bM fun _=>?_
   | refine bF bM fun _=>?_
   | exact bB
   | refine db bB fun _=>?_
   | refine bF bB fun _=>?_
   | split
theorem uv {C:Ctx} {f:AV} {args:List AV} {S:St} (hC:g7 C):ay (zF C f args S):=by
 unfold zF
 repeat' first
  |exact dF|exact hT|exact hU|exact dR _|exact h_ _ _|exact ia _ _ _|refine dC ?_|refine ib ?_|refine ic ?_|exact dI _ _|refine db (dI _ _) fun _=>?_
  |refine bF (dI _ _) fun _=>?_|exact cW _ _|refine db (cW _ _) fun _=>?_|refine bF (cW _ _) fun _=>?_|exact ge _ _ _
  |refine dd (ge _ _ _) fun _ _=>?_|refine wo (ge _ _ _) fun _ _=>?_|exact hC.pcall _ _|refine db (hC.pcall _ _) fun _=>?_|refine bF (hC.pcall _ _) fun _=>?_
  |refine wo (hC.scall _ _ _) fun _ _=>?_|refine dd (hC.scall _ _ _) fun _ _=>?_|split
theorem dl {P:Program} {kt:TypeId} {key:AV} {es:List (AV×AV)}:ay (cU P kt key es):=by
 unfold cU
 repeat' first
  |exact dF|exact hT|exact hU|exact dR _|exact h_ _ _|exact ia _ _ _|refine dC ?_|refine ib ?_|refine ic ?_|split
theorem gA {ok:Bool} {x:AV} {b:Bool}:aD (pz ok x b):=by
 unfold pz
 repeat' first
  |exact dF|exact hT|exact hU|exact dR _|exact h_ _ _|exact ia _ _ _|refine dC ?_|refine ib ?_|refine ic ?_|split
theorem fA {P:Program} {e:TypeId} {ok:Bool}:aD (jl P e ok):=by
 unfold jl
 repeat' first
  |exact dF|exact hT|exact hU|exact dR _|exact h_ _ _|exact ia _ _ _|refine dC ?_|refine ib ?_|refine ic ?_|exact gM|refine db gM fun _=>?_
  |refine bF gM fun _=>?_|exact gA|refine db gA fun _=>?_|refine bF gA fun _=>?_|split
theorem pS {P:Program} {e:TypeId} {ok:Bool} {es:List (AV×AV)} {r:Option Nat}:aD (fj P e ok es r):=by
 unfold fj
 repeat' first
  |exact dF|exact hT|exact hU|exact dR _|exact h_ _ _|exact ia _ _ _|refine dC ?_|refine ib ?_|refine ic ?_|exact gA|refine db gA fun _=>?_
  |refine bF gA fun _=>?_|exact fA|refine db fA fun _=>?_|refine bF fA fun _=>?_|split
theorem pT {P:Program} {t:TypeId} {m key:AV} {ok:Bool} {S:St}:aD (qw P t m key ok S):=by
 unfold qw
 repeat' first
  |exact dF|exact hT|exact hU|exact dR _|exact h_ _ _|exact ia _ _ _|refine dC ?_|refine ib ?_|refine ic ?_|exact dl|refine dd dl fun _ _=>?_
  |refine wo dl fun _ _=>?_|exact fA|refine db fA fun _=>?_|refine bF fA fun _=>?_|exact pS|refine db pS fun _=>?_
  |refine bF pS fun _=>?_|split
theorem md {P:Program} {t:TypeId} {m key x:AV} {S:St}:aD (fy P t m key x S):=by
 unfold fy
 repeat' first
  |exact dF|exact hT|exact hU|exact dR _|exact h_ _ _|exact ia _ _ _|refine dC ?_|refine ib ?_|refine ic ?_|exact dl|refine dd dl fun _ _=>?_
  |refine wo dl fun _ _=>?_|exact ar|refine db ar fun _=>?_|refine bF ar fun _=>?_|split
theorem wt {C:Ctx} {pl:bz} {o:Oper} {vs:List AV}:aD (pop C pl o vs):=by
 unfold pop
 repeat' first
  |exact dF|exact hT|exact hU|exact dR _|exact h_ _ _|exact ia _ _ _|refine dC ?_|refine ib ?_|refine ic ?_|refine aD.fork ?_ ?_|refine ay.fork ?_ ?_
  |exact rQ|refine db rQ fun _=>?_|refine bF rQ fun _=>?_|exact ou|refine db ou fun _=>?_|refine bF ou fun _=>?_
  |exact sV|refine db sV fun _=>?_|refine bF sV fun _=>?_|exact A9|refine db A9 fun _=>?_|refine bF A9 fun _=>?_|exact bv
  |refine db bv fun _=>?_|refine bF bv fun _=>?_|exact l_|refine db l_ fun _=>?_|refine bF l_ fun _=>?_
  |exact rU|refine db rU fun _=>?_|refine bF rU fun _=>?_|exact rT|refine db rT fun _=>?_|refine bF rT fun _=>?_
  |exact iu|refine db iu fun _=>?_|refine bF iu fun _=>?_|exact xA|refine db xA fun _=>?_|refine bF xA fun _=>?_
  |split
theorem wu {C:Ctx} {o:Oper} {vs:List AV} {M:St} (hC:g7 C):aD (sE C o vs M):=by
 unfold sE
 repeat' first
  |exact dF|exact hT|exact hU|exact dR _|exact h_ _ _|exact ia _ _ _|refine dC ?_|refine ib ?_|refine ic ?_|exact wq|refine dd wq fun _ _=>?_
  |refine wo wq fun _ _=>?_|exact dj|refine db dj fun _=>?_|refine bF dj fun _=>?_|exact Gv|exact na|refine db na fun _=>?_
  |refine bF na fun _=>?_|exact rS|refine db rS fun _=>?_|refine bF rS fun _=>?_|exact a7|refine db a7 fun _=>?_
  |refine bF a7 fun _=>?_|exact l9|refine db l9 fun _=>?_|refine bF l9 fun _=>?_|exact pT|refine db pT fun _=>?_
  |refine bF pT fun _=>?_|exact xz|refine db xz fun _=>?_|refine bF xz fun _=>?_|exact dI _ _|refine db (dI _ _) fun _=>?_
  |refine bF (dI _ _) fun _=>?_|exact hC.pcall _ _|refine db (hC.pcall _ _) fun _=>?_|refine bF (hC.pcall _ _) fun _=>?_|split
theorem mO {C:Ctx} {o:Oper} {vs:List AV} {M:St}:ay (zG C o vs M):=by
 unfold zG
 repeat' first
  |exact dF|exact hT|exact hU|exact dR _|exact h_ _ _|exact ia _ _ _|refine dC ?_|refine ib ?_|refine ic ?_|exact bY|refine db bY fun _=>?_
  |refine bF bY fun _=>?_|exact rP|refine db rP fun _=>?_|refine bF rP fun _=>?_|split
theorem wv {C:Ctx} {o:Oper} {vs:List AV}:aD (Mc C o vs):=by
 unfold Mc
 repeat' first
  |exact dF|exact hT|exact hU|exact dR _|exact h_ _ _|exact ia _ _ _|refine dC ?_|refine ib ?_|refine ic ?_|exact Ba|split
theorem xB {C:Ctx} {o:Oper} {S:St}:aD (Gd C o S):=by
 unfold Gd
 repeat' first
  |exact dF|exact hT|exact hU|exact dR _|exact h_ _ _|exact ia _ _ _|refine dC ?_|refine ib ?_|refine ic ?_|exact a6|refine db a6 fun _=>?_
  |refine bF a6 fun _=>?_|exact wv|refine db wv fun _=>?_|refine bF wv fun _=>?_|exact bk|refine db bk fun _=>?_
  |refine bF bk fun _=>?_|split
theorem nF {C:Ctx} {pl:bz} {o:Oper} {S:St}:aD (Ga C pl o S):=by
 unfold Ga
 repeat' first
  |exact dF|exact hT|exact hU|exact dR _|exact h_ _ _|exact ia _ _ _|refine dC ?_|refine ib ?_|refine ic ?_|exact a6|refine db a6 fun _=>?_
  |refine bF a6 fun _=>?_|exact wt|refine db wt fun _=>?_|refine bF wt fun _=>?_|exact bk|refine db bk fun _=>?_
  |refine bF bk fun _=>?_|split
theorem nG {C:Ctx} {o:Oper} {S:St} (hC:g7 C):aD (Gb C o S):=by
 unfold Gb
 repeat' first
  |exact dF|exact hT|exact hU|exact dR _|exact h_ _ _|exact ia _ _ _|refine dC ?_|refine ib ?_|refine ic ?_|exact a6|refine db a6 fun _=>?_
  |refine bF a6 fun _=>?_|exact wu hC|refine db (wu hC) fun _=>?_|refine bF (wu hC) fun _=>?_|exact bk|refine db bk fun _=>?_
  |refine bF bk fun _=>?_|split
theorem xC {C:Ctx} {o:Oper} {S:St}:aD (Gc C o S):=by
 unfold Gc
 repeat' first
  |exact dF|exact hT|exact hU|exact dR _|exact h_ _ _|exact ia _ _ _|refine dC ?_|refine ib ?_|refine ic ?_|exact a6|refine db a6 fun _=>?_
  |refine bF a6 fun _=>?_|exact mO|refine dd mO fun _ _=>?_|refine wo mO fun _ _=>?_|exact bk|refine db bk fun _=>?_
  |refine bF bk fun _=>?_|split
theorem qB {C:Ctx} {pl:bz} {o:Oper} {S:St} (hC:g7 C):aD (yS C pl o S):=by
 unfold yS
 repeat' first
  |exact dF|exact hT|exact hU|exact dR _|exact h_ _ _|exact ia _ _ _|refine dC ?_|refine ib ?_|refine ic ?_|exact aP|refine db aP fun _=>?_
  |refine bF aP fun _=>?_|exact xy|refine db xy fun _=>?_|refine bF xy fun _=>?_|exact cg|refine db cg fun _=>?_
  |refine bF cg fun _=>?_|exact bY|refine db bY fun _=>?_|refine bF bY fun _=>?_|exact a6|refine db a6 fun _=>?_
  |refine bF a6 fun _=>?_|exact kZ|refine db kZ fun _=>?_|refine bF kZ fun _=>?_|exact ar|refine db ar fun _=>?_
  |refine bF ar fun _=>?_|exact bk|refine db bk fun _=>?_|refine bF bk fun _=>?_|exact gN|refine dd gN fun _ _=>?_
  |refine wo gN fun _ _=>?_|exact md|refine db md fun _=>?_|refine bF md fun _=>?_|exact ov
  |refine dd ov fun _ _=>?_|refine wo ov fun _ _=>?_|exact pR|refine dd pR fun _ _=>?_|refine wo pR fun _ _=>?_
  |refine db D4 fun _=>?_|exact uu|refine dd uu fun _ _=>?_|refine wo uu fun _ _=>?_|exact uv hC|refine dd (uv hC) fun _ _=>?_|refine wo (uv hC) fun _ _=>?_
  |split
theorem ay.swap {α β:Type} {X:(α→β→Prop)→Prop} (h:ay X):ay (fun k:β→α→Prop=>X fun a b=>k b a):=fun k hk=>by
 obtain ⟨a,b,h1,h2⟩:=h _ hk
 exact ⟨b,a,h1,fun k' hk'=>h2 _ hk'⟩
theorem Gw {C:Ctx} {o:Oper} {vs:List AV} {M:St} (hC:g7 C):ay (mK C o vs M):=by
 unfold mK
 split
 ·exact ay.swap gN
 ·split
  ·refine ay.chk ?_
   refine ay.bind2 (hC.scall _ _ _) (fun _ _=>?_)
   exact ay.chk (ay.ret _ _)
  ·exact ay.failN
 ·exact mO
theorem sW {S:St} {id:Nat}:aD (jm S id):=by
 unfold jm
 repeat' first
  |exact dF|exact hT|exact hU|exact dR _|exact h_ _ _|exact ia _ _ _|refine dC ?_|refine ib ?_|refine ic ?_
  |exact ar|refine db ar fun _=>?_|refine bF ar fun _=>?_
  |exact (cW _ _)|refine db (cW _ _) fun _=>?_|refine bF (cW _ _) fun _=>?_
  |split
theorem pU:∀ (ids:List Nat) (S:St),aD (qx ids S)
 | [],_=>aD.ret _
 | id::ids,S=>by
  show aD (fun K=>jm S id fun S'=>qx ids S' K)
  exact aD.bind sW (fun S'=>pU ids S')
theorem vp {S:St} {id:Nat}:aD (lw S id):=by
 unfold lw
 split
 ·exact aD.bind ar (fun _=>aD.ret _)
 ·exact aD.ret _
theorem sX:∀ (ids:List Nat) (S:St),aD (ny ids S)
 | [],_=>aD.ret _
 | id::ids,S=>by
  show aD (fun K=>lw S id fun S'=>ny ids S' K)
  exact aD.bind vp (fun S'=>sX ids S')
theorem uw {pl:bz} {id:Nat} {S:St}:aD (mJ pl id S):=by
 unfold mJ
 split
 ·exact aD.ret _
 ·refine aD.bind (pU _ _) (fun S1=>?_)
  split
  ·exact aD.ret _
  ·exact sX _ _
theorem g_ {S:St} {id i:Nat}:ay (gu S id i):=by
 unfold gu
 repeat' first
  |exact dF|exact hT|exact hU|exact dR _|exact h_ _ _|exact ia _ _ _|refine dC ?_|refine ib ?_|refine ic ?_
  |exact ar|refine db ar fun _=>?_|refine bF ar fun _=>?_
  |split
theorem Bc {P:Program} {t:TypeId} {same:Bool} {S:St} {id i:Nat}:ay (jn P t same S id i):=by
 unfold jn
 repeat' first
  |exact dF|exact hT|exact hU|exact dR _|exact h_ _ _|exact ia _ _ _|refine dC ?_|refine ib ?_|refine ic ?_
  |exact dj|refine db dj fun _=>?_|refine bF dj fun _=>?_
  |exact g_|refine dd g_ fun _ _=>?_|refine wo g_ fun _ _=>?_
  |split
theorem zg {P:Program} {t:TypeId} {S:St} {id i:Nat} {v:AV}:aD (gX P t S id i v):=by
 unfold gX
 repeat' first
  |exact dF|exact hT|exact hU|exact dR _|exact h_ _ _|exact ia _ _ _|refine dC ?_|refine ib ?_|refine ic ?_
  |exact ar|refine db ar fun _=>?_|refine bF ar fun _=>?_
  |split
theorem Bd {P:Program} {t:TypeId} {l c:AV} {S:St}:ay (ip P t l c S):=by
 unfold ip
 repeat' first
  |exact dF|exact hT|exact hU|exact dR _|exact h_ _ _|exact ia _ _ _|refine dC ?_|refine ib ?_|refine ic ?_
  |exact ar|refine db ar fun _=>?_|refine bF ar fun _=>?_
  |exact a7|refine db a7 fun _=>?_|refine bF a7 fun _=>?_
  |exact aP|refine db aP fun _=>?_|refine bF aP fun _=>?_
  |split
theorem vV {P:Program} {t:TypeId} {S:St}:ay (gK P t S):=by
 unfold gK
 repeat' first
  |exact dF|exact hT|exact hU|exact dR _|exact h_ _ _|exact ia _ _ _|refine dC ?_|refine ib ?_|refine ic ?_
  |exact ar|refine db ar fun _=>?_|refine bF ar fun _=>?_
  |split
theorem Be {P:Program} {t:TypeId} {m key:AV} {ok:Bool} {S:St}:ay (jo P t m key ok S):=by
 unfold jo
 repeat' first
  |exact dF|exact hT|exact hU|exact dR _|exact h_ _ _|exact ia _ _ _|refine dC ?_|refine ib ?_|refine ic ?_
  |exact gA|refine db gA fun _=>?_|refine bF gA fun _=>?_
  |exact fA|refine db fA fun _=>?_|refine bF fA fun _=>?_
  |exact dl|refine dd dl fun _ _=>?_|refine wo dl fun _ _=>?_
  |exact g_|refine dd g_ fun _ _=>?_|refine wo g_ fun _ _=>?_
  |split
theorem vq {P:Program} {t:TypeId} {m key x:AV} {S:St}:aD (kw P t m key x S):=by
 unfold kw
 repeat' first
  |exact dF|exact hT|exact hU|exact dR _|exact h_ _ _|exact ia _ _ _|refine dC ?_|refine ib ?_|refine ic ?_
  |exact ar|refine db ar fun _=>?_|refine bF ar fun _=>?_
  |exact dl|refine dd dl fun _ _=>?_|refine wo dl fun _ _=>?_
  |split
theorem z8 {M:St} {x:AV} {X:Nat→Nat→(AV→St→Prop)→Prop} (h:∀ id i,ay (X id i)):ay (fun k=>jU M x fun id i=>X id i k):=by
 unfold jU
 split
 ·split
  ·exact h _ _
  ·exact ay.failN
 ·exact ay.failN
theorem xD {P:Program} {pl:bz} {o:Oper} {vs:List AV} {M:St}:ay (mz P pl o vs M):=by
 unfold mz
 split
 ·exact z8 fun _ _=>Bc
 ·exact z8 fun _ _=>aD.bind2 zg (fun _=>ay.ret _ _)
 ·exact Bd
 ·exact vV
 ·exact Be
 ·exact aD.bind2 vq (fun _=>ay.ret _ _)
 ·exact aD.bind2 vq (fun _=>ay.ret _ _)
 ·exact ay.failN
theorem CC {C:Ctx} {pl:bz} {o:Oper} {S:St}:aD (AL C pl o S):=by
 unfold AL
 exact aD.bind a6 (fun _=>ay.bind xD (fun _ _=>bk))
theorem CE {C:Ctx} {pl:bz} {o:Oper} {vs:List AV} {M:St} (hC:g7 C):ay (nX C pl o vs M):=by
 unfold nX
 split
 ·exact xD
 ·exact Gw hC
theorem uz {C:Ctx} {pl:bz} {o:Oper} {S:St} (hC:g7 C):aD (qU C pl o S):=by
 unfold qU
 exact aD.bind a6 (fun _=>ay.bind (CE hC) (fun _ _=>bk))
theorem jw {C:Ctx} {pl:bz} {o:Oper} {S:St} (hC:g7 C):aD (yP C pl o S):=by
 unfold yP
 repeat' first
  |exact dF|exact hT|exact hU|exact dR _|exact h_ _ _|exact ia _ _ _|refine dC ?_|refine ib ?_|refine ic ?_|exact nF|refine db nF fun _=>?_
  |refine bF nF fun _=>?_|exact nG hC|refine db (nG hC) fun _=>?_|refine bF (nG hC) fun _=>?_|exact uz hC|refine db (uz hC) fun _=>?_
  |refine bF (uz hC) fun _=>?_|exact xB|refine db xB fun _=>?_|refine bF xB fun _=>?_|exact bk|refine db bk fun _=>?_
  |refine bF bk fun _=>?_|exact qB hC|refine db (qB hC) fun _=>?_|refine bF (qB hC) fun _=>?_|split
theorem CF {C:Ctx} {pl:bz} {o:Oper} {S:St} (hC:g7 C):aD (AM C pl o S):=by
 unfold AM
 repeat' first
  |exact dF|exact hT|exact hU|exact dR _|exact h_ _ _|exact ia _ _ _|refine dC ?_|refine ib ?_|refine ic ?_|exact nF|refine db nF fun _=>?_
  |refine bF nF fun _=>?_|exact nG hC|refine db (nG hC) fun _=>?_|refine bF (nG hC) fun _=>?_|exact xC|refine db xC fun _=>?_
  |refine bF xC fun _=>?_|exact qB hC|refine db (qB hC) fun _=>?_|refine bF (qB hC) fun _=>?_|split
theorem qC {C:Ctx} {pl:bz} {o:Oper} {S:St} (hC:g7 C):aD (Hm C pl o S):=by
 unfold Hm
 split
 ·exact CC
 ·exact CF hC
theorem eh {d:Nat} {S:St}:ay (jp d S):=by
 unfold jp
 repeat' first
  |exact dF|exact hT|exact hU|exact dR _|exact h_ _ _|exact ia _ _ _|refine dC ?_|refine ib ?_|refine ic ?_|refine aD.fork ?_ ?_|refine ay.fork ?_ ?_
  |exact iu|refine db iu fun _=>?_|refine bF iu fun _=>?_|exact kK|refine db kK fun _=>?_|refine bF kK fun _=>?_
  |split
theorem xE {C:Ctx} {pl:bz} {all:Array Oper} {o:Oper} {S:St} (hC:g7 C):aD (vO C pl all o S):=by
 unfold vO
 repeat' first
  |exact dF|exact hT|exact hU|exact dR _|exact h_ _ _|exact ia _ _ _|refine dC ?_|refine ib ?_|refine ic ?_|exact jw hC|refine db (jw hC) fun _=>?_
  |refine bF (jw hC) fun _=>?_|split
theorem HC {C:Ctx} {pl:bz} {all:Array Oper} {o:Oper} {S:St} (hC:g7 C):aD (ag C pl all o S):=by
 unfold ag
 repeat' first
  |exact dF|exact hT|exact hU|exact dR _|exact h_ _ _|exact ia _ _ _|refine dC ?_|refine ib ?_|refine ic ?_|exact xE hC|refine db (xE hC) fun _=>?_
  |refine bF (xE hC) fun _=>?_|exact eh|refine dd eh fun _ _=>?_|refine wo eh fun _ _=>?_|exact bk|refine db bk fun _=>?_
  |refine bF bk fun _=>?_|exact jw hC|refine db (jw hC) fun _=>?_|refine bF (jw hC) fun _=>?_|refine aD.gsel ?_ ?_|split
theorem mg {C:Ctx} {pl:bz} {all:Array Oper} (hC:g7 C):∀ (os:List Oper) (S:St),aD (ua C pl all os S)
 | [],S=>by
  show aD (fun K=>ua C pl all [] S K)
  unfold ua
  repeat' first
   | exact aD.failN
   | exact ay.failN
   | exact cm.failN
   | exact aD.ret _
   | exact ay.ret _ _
   | exact cm.ret _ _ _
   | refine aD.chk ?_
   | refine ay.chk ?_
   | refine cm.chk ?_
   | exact mg hC _ _
   | refine db (mg hC _ _) fun _=>?_
   | refine bF (mg hC _ _) fun _=>?_
   | exact qC hC
   | refine db (qC hC) fun _=>?_
   | refine bF (qC hC) fun _=>?_
   | exact eh
   | refine dd eh fun _ _=>?_
   | refine wo eh fun _ _=>?_
   | exact bk
   | refine db bk fun _=>?_
   | refine bF bk fun _=>?_
   | refine aD.gsel ?_ ?_
   | split
 | x::xs,S=>by
  show aD (fun K=>ua C pl all (x::xs) S K)
  unfold ua
  repeat' first
   | exact aD.failN
   | exact ay.failN
   | exact cm.failN
   | exact aD.ret _
   | exact ay.ret _ _
   | exact cm.ret _ _ _
   | refine aD.chk ?_
   | refine ay.chk ?_
   | refine cm.chk ?_
   | exact mg hC _ _
   | refine db (mg hC _ _) fun _=>?_
   | refine bF (mg hC _ _) fun _=>?_
   | exact qC hC
   | refine db (qC hC) fun _=>?_
   | refine bF (qC hC) fun _=>?_
   | exact eh
   | refine dd eh fun _ _=>?_
   | refine wo eh fun _ _=>?_
   | exact bk
   | refine db bk fun _=>?_
   | refine bF bk fun _=>?_
   | refine aD.gsel ?_ ?_
   | split
theorem jx:∀ (xs:List (Nat×TypeId)) (P:Program) (S:St),aD (AO P xs S)
 | [],P,S=>by
  show aD (fun K=>AO P [] S K)
  unfold AO
  repeat' first
   | exact aD.failN
   | exact ay.failN
   | exact cm.failN
   | exact aD.ret _
   | exact ay.ret _ _
   | exact cm.ret _ _ _
   | refine aD.chk ?_
   | refine ay.chk ?_
   | refine cm.chk ?_
   | exact jx _ _ _
   | refine db (jx _ _ _) fun _=>?_
   | refine bF (jx _ _ _) fun _=>?_
   | exact aP
   | refine db aP fun _=>?_
   | refine bF aP fun _=>?_
   | split
 | (d,e)::xs,P,S=>by
  show aD (fun K=>AO P ((d,e)::xs) S K)
  unfold AO
  repeat' first
   | exact aD.failN
   | exact ay.failN
   | exact cm.failN
   | exact aD.ret _
   | exact ay.ret _ _
   | exact cm.ret _ _ _
   | refine aD.chk ?_
   | refine ay.chk ?_
   | refine cm.chk ?_
   | exact jx _ _ _
   | refine db (jx _ _ _) fun _=>?_
   | refine bF (jx _ _ _) fun _=>?_
   | exact aP
   | refine db aP fun _=>?_
   | refine bF aP fun _=>?_
   | split
theorem CG {P:Program} {xs:List (Nat×TypeId)} {S:St}:aD (B8 P xs S):=by
 unfold B8
 repeat' first
  |exact dF|exact hT|exact hU|exact dR _|exact h_ _ _|exact ia _ _ _|refine dC ?_|refine ib ?_|refine ic ?_|exact gd _ _|refine db (gd _ _) fun _=>?_
  |refine bF (gd _ _) fun _=>?_|exact jx _ _ _|refine db (jx _ _ _) fun _=>?_|refine bF (jx _ _ _) fun _=>?_|split
end A
end Go.Proofs.YtomahedcdcnnhaaGreatDoor
