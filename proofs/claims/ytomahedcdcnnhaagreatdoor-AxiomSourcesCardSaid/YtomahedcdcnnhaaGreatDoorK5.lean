/- Code, functions, fuel. Nothing is claimed here of the program. -/
import Derived.Test.YtomahedcdcnnhaaGreatDoorK4
import Derived.TacticsIn
import Derived.OrdersIn
import Derived.LoopNIn
namespace Go.Proofs.YtomahedcdcnnhaaGreatDoor
namespace A
open Go
open Go.RowKit (Below)
def If (E:Env) (w:World):Gh:={ w0:=w,M:=fun b=>∃ k o s n,yj E.mu k=some (.blk b o s n),F:=E.F,mu:=fun id=>E.mu (.O id) }
def H6 (o:List Ob) (b:Nat):St:={ t:=[],l:=[],o:=o,b:=b }
def pZ (P:Program) (f:Nat) (args:List AV) (o:List Ob) (K:AV→List Ob→Prop):Prop :=
 rh P f∧∀ (E:Env) (w:World) (us:Array Value),al (If E w) pn E (H6 o o.length) w→Cg E→bT E args us.toList →
  Calls P f us w fun e w'=>∃ v r o' E',K r o'∧e=.returned v∧al (If E w) pn E' (H6 o' o.length) w'∧VR E' r v
theorem tW:∀ {xs ys:List Ob} {n j:Nat} {x:Ob},xs[j]?=some x→x≠.dead→ys[j]?=some .dead→n + j∈bK xs ys n
 | [],_,_,_,_,h,_,_=>by simp at h
 | _::_,[],_,_,_,_,_,h=>by simp at h
 | x0::xs,y0::ys,n,0,x,h1,h2,h3=>by
  simp at h1 h3
  subst h1 h3
  cases x0 with
  | dead=>exact absurd rfl h2
  | arr _ _ _=>simp [bK]
  | mapo _ _=>simp [bK]
  | own _ _ _ _=>simp [bK]
 | x0::xs,y0::ys,n,j + 1,x,h1,h2,h3=>by
  have ih:=tW (xs:=xs) (ys:=ys) (n:=n + 1) (j:=j) (by simpa using h1) h2 (by simpa using h3)
  rw [show n + 1 + j=n + (j + 1) by omega] at ih
  cases x0 <;> cases y0 <;> simp [bK,ih]
def zK (ids:List Nat) (t:List AV):List AV:=ids.foldl (fun t id=>t.map (cQ 4 (.O id))) t
def qD (ids:List Nat) (l:List (Nat×List AV)):List (Nat×List AV):=ids.foldl (fun l id=>l.map (gV (.O id))) l
theorem vP:∀ {ids:List Nat} {t:List AV} {l:List (Nat×List AV)} {K:List AV→List (Nat×List AV)→Prop},j8 ids t l K↔K (zK ids t) (qD ids l)
 | [],_,_,_=>Iff.rfl
 | id::ids,t,l,K=>by
  show mD _ _ _↔_
  rw [il,im]
  exact vP (ids:=ids)
theorem rm {a:Act}:∀ {ids:List Nat} {E:Env} {t:List AV},TR E t a→TR ⟨E.F,ma ids E.mu,E.h⟩ (zK ids t) a
 | [],_,_,h=>h
 | id::ids,E,_,h=>rm (ids:=ids) (E:=⟨E.F,aY E.mu (.O id),E.h⟩) (h.kill mH)
theorem tX {e:Nat} {row:List AV}:∀ {ids:List Nat} {l:List (Nat×List AV)},aQ l e=some row→(∀ k,row.map (cQ 4 k)=row)→aQ (qD ids l) e=some row
 | [],_,h,_=>h
 | id::ids,l,h,hk=>tX (ids:=ids) (l:=l.map (gV (.O id))) (by
   rw [fq,h]
   show some _=_
   rw [hk]) hk
theorem rn {pd:Nat→Option (List AV)}:∀ {ids:List Nat} {E:Env} {l:List (Nat×List AV)},(∀ d,gY pd E (aQ l d) d)→∀ d,gY pd ⟨E.F,ma ids E.mu,E.h⟩ (aQ (qD ids l) d) d
 | [],_,_,h=>h
 | id::ids,E,l,h=>rn (ids:=ids) (E:=⟨E.F,aY E.mu (.O id),E.h⟩) (fun e=>by
  rw [fq]
  have hmu:aY E.mu (.O id) (.L e)=E.mu (.L e):=pz (fun h=>by cases h)
  have:=h e
  revert this
  cases aQ l e with
  | none=>exact fun h=>hmu.trans h
  | some row =>
   rintro (⟨b',h1,h2⟩ | ⟨h1,h2⟩)
   ·refine .inl ⟨b',hmu.trans (by simpa using h1),?_⟩
    have:=h2.kill (mH (E:=E) (k:=.O id)) (h':=E.h) rfl
    simpa using this
   ·exact gY.pend_kill hmu h1 h2)
theorem om:∀ {ids:List Nat} {mu:Key→Option MV} {d:Nat},ma ids mu (.L d)=mu (.L d)
 | [],_,_=>rfl
 | id::ids,mu,d=>by
  show ma ids (aY mu (.O id)) (.L d)=_
  rw [om]
  exact pz (fun h=>by cases h)
theorem Kl (E:Env):E.ob.ob=E.ob:=by
 have:yj (yj E.mu)=yj E.mu:=by
  funext k
  cases k <;> rfl
 unfold Env.ob
 rw [this]
theorem iS {E:Env} {k:Key} {x:MV} (h:E.ob.mu k=some x):E.mu k=some x:=fX (k:=k) h
theorem gx.ob {E:Env} {x:Option Ob} {mv:Option MV} (h:gx E x mv):gx E.ob x mv:=by
 revert h
 cases x with
 | none=>cases mv <;> exact fun h=>h
 | some ob =>
  cases ob with
  | dead=>cases mv <;> exact fun h=>h
  | arr fl sz' rows =>
   cases mv with
   | none=>exact fun h=>h
   | some mv =>
    cases mv with
    | virt=>exact fun h=>h
    | blk b o s n =>
     cases fl with
     | true=>exact fun h=>h
     | false =>
      rintro ⟨h1,h2⟩
      refine ⟨h1,?_⟩
      show cg E.ob.ob _ _ _ _ _
      rw [Kl]
      exact h2
  | own _ _ _ _ =>
   cases mv with
   | none=>exact fun h=>h.elim
   | some mv=>cases mv <;> exact fun h=>h
  | mapo fl es =>
   cases mv with
   | none=>exact fun h=>h
   | some mv =>
    cases mv with
    | virt=>exact fun h=>h
    | blk b o s n =>
     rintro ⟨ms,clock,h1,h2,h3⟩
     refine ⟨ms,clock,h1,h2,fun i e m h4 h5=>?_⟩
     obtain ⟨h6,h7⟩:=h3 i e m h4 h5
     refine ⟨h6,?_⟩
     cases fl with
     | true=>exact h7
     | false =>
      show VR E.ob.ob _ _
      rw [Kl]
      exact h7
theorem eB.ob {E:Env} {id:Nat} {x:Option Ob} (h:eB E id x):eB E.ob id x:=h.mono rfl (fun _=>rfl) (LE.refl _) (by rw [Kl]; exact LE.refl _) (fun _ _ _ _ _ _ _=>rfl)
section
variable {G:Gh} {pd:Nat→Option (List AV)} {E:Env} {S:St} {w:World} {P:Program} {o:Oper} {a:Act}
theorem al.sub (hM:al G pd E S w):al (If E.ob w) pn E.ob (H6 S.o S.o.length) w :=
 ⟨hM.hp,rfl,rfl,rfl,Nat.le_refl _,fun _ _ _=>rfl,fun _ h=>h,hM.Flt,fun _ h _=>.inl h,
  fun k b o s n h=>by
   cases k with
   | L d=>cases h
   | O id =>
    obtain ⟨h1,h2,_⟩:=hM.own _ b o s n (iS h)
    exact ⟨h1,h2,.inl ⟨.O id,o,s,n,h⟩⟩
   | S id i =>
    obtain ⟨h1,h2,_⟩:=hM.own _ b o s n (iS h)
    exact ⟨h1,h2,.inl ⟨.S id i,o,s,n,h⟩⟩,
  fun k k' b o s n o' s' n' h h'=>hM.inj k k' b o s n o' s' n' (iS h) (iS h'),fun _=>rfl,fun id=>(hM.obj id).ob,fun _ _=>.inr rfl,Nat.le_refl _,fun _ _=>rfl,fun _ _ h=>(by cases h),fun id=>(hM.ow id).ob⟩
def rp (mu mu':Key→Option MV):Key→Option MV
 | .L d=>mu (.L d)
 | .O id=>mu' (.O id)
 | .S id i=>mu' (.S id i)
theorem al.back (hM:al G pd E S w) (ht:TR E S.t a) {E':Env} {o':List Ob} {w':World} (hM':al (If E.ob w) pn E' (H6 o' S.o.length) w') :
  al G pd ⟨E'.F,rp E.mu E'.mu,E'.h⟩ { t:=zK (bK S.o o' 0) S.t,l:=qD (bK S.o o' 0) S.l,o:=o',b:=S.b } w'∧TR ⟨E'.F,rp E.mu E'.mu,E'.h⟩ (zK (bK S.o o' 0) S.t) a∧LE E' ⟨E'.F,rp E.mu E'.mu,E'.h⟩:=by
 have hL':∀ d,E'.mu (.L d)=none:=fun d=>hM'.loc d
 have hsz:w.heap.size≤w'.heap.size:=hM'.size
 have notM:∀ b,E.F b→¬ (If E.ob w).M b:=by
  rintro b hF ⟨k,x,s,n,h⟩
  exact (hM.own _ _ _ _ _ (iS (fX h))).1 hF
 have MG:∀ b,(If E.ob w).M b→G.M b∨G.w0.heap.size≤b:=by
  rintro b ⟨k,x,s,n,h⟩
  exact (hM.own _ _ _ _ _ (iS (fX h))).2.2
 have Mlt:∀ b,(If E.ob w).M b→b<w.heap.size:=by
  rintro b ⟨k,x,s,n,h⟩
  exact (hM.own _ _ _ _ _ (iS (fX h))).2.1
 have LnotM:∀ d b x s n,E.mu (.L d)=some (.blk b x s n)→¬ (If E.ob w).M b:=by
  rintro d b x s n h ⟨k,x',s',n',h'⟩
  have:=hM.inj _ _ _ _ _ _ _ _ _ h (iS (fX h'))
  subst this
  cases h'
 have hle:LE ⟨E.F,ma (bK S.o o' 0) E.mu,E.h⟩ ⟨E'.F,rp E.mu E'.mu,E'.h⟩:=by
  have kept:∀ id x,ma (bK S.o o' 0) E.mu (.O id)=some x→E.mu (.O id)=some x∧E'.mu (.O id)=some x:=by
   intro id x h
   obtain ⟨h1,h2⟩:=jY h
   refine ⟨h1,?_⟩
   have hob:=hM.obj id
   rw [h1] at hob
   have hid:id<S.o.length:=by
    rcases Nat.lt_or_ge id S.o.length with h3 | h3
    ·exact h3
    ·rw [List.getElem?_eq_none h3] at hob
     exact hob.elim
   rcases hM'.old id hid with h3 | h3
   ·exfalso
    have hx:=List.getElem?_eq_getElem hid
    rw [hx] at hob
    have hnd:S.o[id]≠.dead:=fun hd=>by rw [hd] at hob; exact hob.elim
    have:=tW (n:=0) hx hnd h3
    rw [Nat.zero_add] at this
    exact h2 _ this rfl
   ·rw [h3]; exact h1
  refine ⟨fun b h=>hM'.F0 b h,fun k x hs h=>?_,fun b h=>?_,fun k b x s n hs h=>?_⟩
  ·cases k with
   | S _ _=>cases hs
   | L d =>
    show E.mu (.L d)=_
    exact (om (ids:=bK S.o o' 0)).symm.trans h
   | O id=>exact (kept id x h).2
  ·show E'.h[b]?=E.h[b]?
   rw [hM'.hp,hM.hp]
   exact hM'.keep b (hM.Flt b h) (notM b h)
  ·show bf E'.h b=bf E.h b
   rw [hM'.hp,hM.hp]
   have:b<w.heap.size:=(hM.own _ _ _ _ _ (jY h).1).2.1
   exact hM'.szs b this
 refine ⟨⟨hM'.hp,hM'.os.trans hM.os,hM'.tape.trans hM.tape,hM'.output.trans hM.output,Nat.le_trans hM.size hsz,fun b h1 h2=>?_,fun b h=>hM'.F0 b (hM.F0 b h),hM'.Flt,fun b h1 h2=>?_,fun k b x s n h=>?_,fun k k' b x s n x' s' n' h h'=>?_,
  fun d=>?_,fun id=>?_,fun id hid=>?_,?_,fun b hb=>?_,fun e row h=>?_,fun id=>(hM'.ow id).mono rfl (fun _=>rfl) (LE.refl _) ⟨fun _ h=>h,fun k x hs h=>(by
   cases k with
   | L d=>cases h
   | O i=>exact h
   | S i j=>cases hs),fun _ _=>rfl,fun _ _ _ _ _ _ _=>rfl⟩ (fun _ _ _ _ _ _ _=>rfl)⟩,(rm ht).mono hle,⟨fun _ h=>h,fun k x hs h=>?_,fun _ _=>rfl,fun _ _ _ _ _ _ _=>rfl⟩⟩
 ·rw [hM'.keep b (Nat.lt_of_lt_of_le h1 hM.size) (fun h=>by
   rcases MG b h with h3 | h3
   ·exact h2 h3
   ·omega)]
  exact hM.keep b h1 h2
 ·rcases hM'.Fnew b h1 (Nat.lt_of_lt_of_le h2 hM.size) with h3 | h3
  ·exact hM.Fnew b h3 h2
  ·rcases MG b h3 with h4 | h4
   ·exact .inr h4
   ·omega
 ·cases k with
  | L d =>
   obtain ⟨h1,h2,h3⟩:=hM.own _ b x s n h
   refine ⟨fun hF=>?_,Nat.lt_of_lt_of_le h2 hsz,h3⟩
   rcases hM'.Fnew b hF h2 with h4 | h4
   ·exact h1 h4
   ·exact LnotM d b x s n h h4
  | O id =>
   obtain ⟨h1,h2,h3⟩:=hM'.own _ b x s n h
   refine ⟨h1,h2,?_⟩
   rcases h3 with h3 | h3
   ·exact MG b h3
   ·exact .inr (Nat.le_trans hM.size h3)
  | S id i =>
   obtain ⟨h1,h2,h3⟩:=hM'.own _ b x s n h
   refine ⟨h1,h2,?_⟩
   rcases h3 with h3 | h3
   ·exact MG b h3
   ·exact .inr (Nat.le_trans hM.size h3)
 ·have mix:∀ {d:Nat} {key:Key} {b x s n x' s' n':Nat},E.mu (.L d)=some (.blk b x s n)→E'.mu key=some (.blk b x' s' n')→False:=by
   intro d key b x s n x' s' n' h h'
   rcases (hM'.own _ _ _ _ _ h').2.2 with h3 | h3
   ·exact LnotM d b x s n h h3
   ·have h2:=(hM.own _ _ _ _ _ h).2.1
    have h3:w.heap.size≤b:=h3
    omega
  cases k with
  | L d =>
   cases k' with
   | L d'=>exact hM.inj _ _ _ _ _ _ _ _ _ h h'
   | O id=>exact (mix h h').elim
   | S id i=>exact (mix h h').elim
  | O id =>
   cases k' with
   | L d'=>exact (mix h' h).elim
   | O id'=>exact hM'.inj _ _ _ _ _ _ _ _ _ h h'
   | S id' i=>exact hM'.inj _ _ _ _ _ _ _ _ _ h h'
  | S id i =>
   cases k' with
   | L d'=>exact (mix h' h).elim
   | O id'=>exact hM'.inj _ _ _ _ _ _ _ _ _ h h'
   | S id' i=>exact hM'.inj _ _ _ _ _ _ _ _ _ h h'
 ·have:=rn (ids:=bK S.o o' 0) hM.loc d
  revert this
  show gY _ _ (aQ (qD (bK S.o o' 0) S.l) d) d→gY _ _ (aQ (qD (bK S.o o' 0) S.l) d) d
  cases aQ (qD (bK S.o o' 0) S.l) d with
  | none =>
   intro h
   show E.mu (.L d)=none
   exact (om (ids:=bK S.o o' 0)).symm.trans h
  | some row =>
   rintro (⟨b,h1,h2,h3,us,ty,h4,h5,h6⟩ | ⟨h0,h⟩)
   ·have h1':E.mu (.L d)=some (.blk b 0 row.length 1):=om.symm.trans h1
    refine .inl ⟨b,h1',h2,h3,us,ty,?_,h5,fun m c hc=>?_⟩
    ·show E'.h[b]?=_
     rw [hM'.hp,hM'.keep b (hM.own _ _ _ _ _ h1').2.1 (LnotM d b _ _ _ h1')]
     have:E.h[b]?=_:=h4
     rw [hM.hp] at this
     exact this
    ·obtain ⟨u,hu,hv⟩:=h6 m c hc
     exact ⟨u,hu,hv.mono hle⟩
   ·exact .inr ⟨show E.mu (.L d)=none from (om (ids:=bK S.o o' 0)).symm.trans h0,h⟩
 ·have:=hM'.obj id
  refine this.mono2 (E':=⟨E'.F,rp E.mu E'.mu,E'.h⟩) ⟨fun _ h=>h,fun _ _ _ h=>(by cases h),fun _ _=>rfl,fun _ _ _ _ _ _ h=>(by cases h)⟩ ⟨fun _ h=>h,fun k x hs h=>?_,fun _ _=>rfl,fun _ _ _ _ _ _ _=>rfl⟩ (fun _ _ _ _ _=>rfl)
  cases k with
  | S _ _=>cases hs
  | L d=>cases h
  | O i=>exact h
 ·have hid':id<S.o.length:=Nat.lt_of_lt_of_le hid hM.bl
  rcases hM'.old id hid' with h | h
  ·exact .inl h
  ·rcases hM.old id hid with h2 | h2
   ·refine .inl ?_
    have hob:=hM.obj id
    rw [h2] at hob
    have hn:E.mu (.O id)=none:=by
     revert hob
     cases E.mu (.O id) with
     | none=>exact fun _=>rfl
     | some _=>exact fun h=>h.elim
    have hob':=hM'.obj id
    rw [h] at hob'
    have hn':(If E.ob w).mu id=none:=hn
    rw [hn'] at hob'
    show o'[id]?=some .dead
    have hlt:id<o'.length:=Nat.lt_of_lt_of_le hid' hM'.bl
    have hx:(H6 o' S.o.length).o[id]?=some o'[id]:=List.getElem?_eq_getElem hlt
    rw [hx] at hob'
    rw [List.getElem?_eq_getElem hlt]
    revert hob'
    cases o'[id] with
    | dead=>exact fun _=>rfl
    | arr _ _ _=>exact fun h=>h.elim
    | mapo _ _=>exact fun h=>h.elim
    | own _ _ _ _=>exact fun h=>h.elim
   ·refine .inr ?_
    show E'.mu (.O id)=G.mu id
    rw [h,← h2]
    rfl
 ·exact Nat.le_trans hM.bl hM'.bl
 ·rw [← hM.szs b hb]
  exact hM'.szs b (Nat.lt_of_lt_of_le hb hM.size)
 ·obtain ⟨h1,h2⟩:=hM.pk e row h
  exact ⟨h1,tX h2 (hM.pend_inv h)⟩
 ·cases k with
  | S _ _=>cases hs
  | L d=>rw [hL' d] at h; cases h
  | O id=>exact h
theorem tY {K:St→Prop} {c:Call} {x:Operand} {fid:Nat} {first cap as:List AV} (hM:al G pd E S w) (ht:TR E S.t a) (ho:o.op=.call c) (hcal:c.callee=.value x)
  (hx:VR E (.fn fid first cap) (a.eval x)) (has:bT E as (c.args.toList.map a.eval)) (hnl:(first++as++cap).all (u4 4)=true)
  (h:pZ P fid (first++as++cap) S.o fun r o'=>j8 (bK S.o o' 0) S.t S.l fun t l=>bC o.dst r { t:=t,l:=l,o:=o',b:=S.b } K):dl P G pd o a w K:=by
 obtain ⟨us,ws,hfv,h1,h2⟩:∃ us ws,a.eval x=.func (.func fid) us ws∧bT E first us.toList∧bT E cap ws.toList:=by
  generalize a.eval x=u at hx
  cases hx with
  | fn us ws h1 h2 h3 h4=>exact ⟨us,ws,rfl,⟨by simpa using h1,fun m c u hc hu=>h2 m c u hc (by simpa using hu)⟩,⟨by simpa using h3,fun m c u hc hu=>h4 m c u hc (by simpa using hu)⟩⟩
 have hall:=(h1.append has).append h2
 intro next Q hn
 unfold Oper.wp
 rw [yq ho hcal hfv h.1 w,Oper.upon_enter]
 refine (h.2 E.ob w _ hM.sub ht.gt (by
  refine ⟨by simpa using hall.1,fun m c u hc hu=>?_⟩
  exact kZ 4 (List.all_eq_true.1 hnl c (List.mem_of_getElem? hc)) (hall.2 m c u hc (by simpa using hu)))).mono ?_
 rintro e w' ⟨v,r,o',E',hK,rfl,hM',hv⟩
 rw [vP,aJ] at hK
 obtain ⟨hS,htr,hle⟩:=hM.back ht hM'
 exact hn _ _ _ w' hK (hS.congr cO cP cT) (htr.put (hv.mono hle))
end
section
variable {G:Gh} {p:Nat→Option (List AV)} {E:Env} {S M:St} {w:World} {P:Program} {a:Act}
theorem al.reS (hM:al G p E M w) {id:Nat} {mu':Key→Option MV} (hsame:∀ k,(∀ j,k≠.S id j)→mu' k=E.mu k)
  (hown:∀ j b o s n,mu' (.S id j)=some (.blk b o s n)→¬ E.F b∧b<w.heap.size∧(G.M b∨G.w0.heap.size≤b)∧∀ k o' s' n',(∀ i,k≠.S id i)→E.mu k≠some (.blk b o' s' n'))
  (hinj:∀ j j' b o s n o' s' n',mu' (.S id j)=some (.blk b o s n)→mu' (.S id j')=some (.blk b o' s' n')→j=j')
  {x y:Ob} (hx:M.o[id]?=some x) (hnx:x≠.dead) (hO:gx ⟨E.F,mu',E.h⟩ (some y) (E.mu (.O id))) (hW:eB ⟨E.F,mu',E.h⟩ id (some y)) :
  LE E ⟨E.F,mu',E.h⟩∧al G p ⟨E.F,mu',E.h⟩ { t:=M.t,l:=M.l,o:=M.o.set id y,b:=M.b } w:=by
 have hlt:id<M.o.length:=(List.getElem?_eq_some_iff.1 hx).1
 have hns:∀ k:Key,k.isS=false→mu' k=E.mu k:=fun k hk=>hsame k (fun j e=>by subst e; cases hk)
 have hle:LE E ⟨E.F,mu',E.h⟩:=⟨fun _ h=>h,fun k z hs h=>(hns k hs).trans h,fun _ _=>rfl,fun _ _ _ _ _ _ _=>rfl⟩
 have isit:∀ k:Key,(∃ j,k=.S id j)∨∀ j,k≠.S id j:=fun k=>by
  cases k with
  | L d=>exact .inr (fun j e=>by cases e)
  | O i=>exact .inr (fun j e=>by cases e)
  | S c j =>
   by_cases h:c=id
   ·subst h
    exact .inl ⟨j,rfl⟩
   ·exact .inr (fun j' e=>h (by cases e; rfl))
 refine ⟨hle,hM.hp,hM.os,hM.tape,hM.output,hM.size,hM.keep,hM.F0,hM.Flt,hM.Fnew,fun k b o s n h=>?_,fun k k' b o s n o' s' n' h h'=>?_,fun d=>?_,fun i=>?_,fun i hi=>?_,by simpa using hM.bl,hM.szs,fun d row h=>?_,fun i=>?_⟩
 ·rcases isit k with ⟨j,rfl⟩ | hk
  ·obtain ⟨h1,h2,h3,_⟩:=hown j b o s n h
   exact ⟨h1,h2,h3⟩
  ·exact hM.own k b o s n ((hsame k hk).symm.trans h)
 ·rcases isit k with ⟨j,rfl⟩ | hk
  ·rcases isit k' with ⟨j',rfl⟩ | hk'
   ·rw [hinj j j' _ _ _ _ _ _ _ h h']
   ·exact absurd ((hsame k' hk').symm.trans h') ((hown j _ _ _ _ h).2.2.2 k' _ _ _ hk')
  ·rcases isit k' with ⟨j',rfl⟩ | hk'
   ·exact absurd ((hsame k hk).symm.trans h) ((hown j' _ _ _ _ h').2.2.2 k _ _ _ hk)
   ·exact hM.inj _ _ _ _ _ _ _ _ _ ((hsame k hk).symm.trans h) ((hsame k' hk').symm.trans h')
 ·have:=hM.loc d
  revert this
  show gY p E (aQ M.l d) d→gY p _ (aQ M.l d) d
  cases aQ M.l d with
  | none=>exact fun h=>(hns (.L d) rfl).trans h
  | some row =>
   rintro (⟨b',h1,h2⟩ | ⟨h1,h2⟩)
   ·exact .inl ⟨b',(hns (.L d) rfl).trans h1,h2.mono hle⟩
   ·exact .inr ⟨(hns (.L d) rfl).trans h1,h2⟩
 ·show gx _ (M.o.set id y)[i]? (mu' (.O i))
  rw [hns (.O i) rfl]
  by_cases h:id=i
  ·subst h
   rw [List.getElem?_set_self hlt]
   exact hO
  ·rw [List.getElem?_set,if_neg h]
   exact (hM.obj i).mono hle (fun _ _ _ _ _=>rfl)
 ·show (M.o.set id y)[i]?=some .dead∨mu' (.O i)=G.mu i
  rw [hns (.O i) rfl]
  by_cases h:id=i
  ·subst h
   rcases hM.old id hi with h1 | h1
   ·rw [hx] at h1
    cases h1
    exact absurd rfl hnx
   ·exact .inr h1
  ·rw [List.getElem?_set,if_neg h]
   exact hM.old i hi
 ·obtain ⟨h1,h2⟩:=hM.pk d row h
  exact ⟨(hns (.L d) rfl).trans h1,h2⟩
 ·show eB _ i (M.o.set id y)[i]?
  by_cases h:id=i
  ·subst h
   rw [List.getElem?_set_self hlt]
   exact hW
  ·rw [List.getElem?_set,if_neg h]
   exact (hM.ow i).mono (hns (.O i) rfl) (fun j=>hsame (.S i j) (fun j' e=>h (by cases e; rfl))) hle.fz hle.ob (fun _ _ _ _ _ _ _=>rfl)
theorem al.ownS (hM:al G p E M w) {id j b o s n:Nat} (h:E.mu (.S id j)=some (.blk b o s n)) :
  ¬ E.F b∧b<w.heap.size∧(G.M b∨G.w0.heap.size≤b)∧∀ k o' s' n',k≠.S id j→E.mu k≠some (.blk b o' s' n'):=by
 obtain ⟨h1,h2,h3⟩:=hM.own _ _ _ _ _ h
 exact ⟨h1,h2,h3,fun k o' s' n' hk h'=>hk (hM.inj _ _ _ _ _ _ _ _ _ h' h)⟩
theorem xG (hM:al G p E S w) {id i sz:Nat} {ks:Option (List AV)} {cells:List (Option (List (List AV)))} {rows:List (List AV)} (hob:S.o[id]?=some (.own ks sz cells none)) (hc:cells[i]?=some (some rows))
  {b o s n:Nat} (hmu:E.mu (.O id)=some (.blk b o s n)) :
  ∃ E' u,al G p E' { t:=S.t,l:=S.l,o:=S.o.set id (.own ks sz cells (some (i,.mf S.o.length)))++[.arr true sz rows],b:=S.b } w∧LE E E'∧VR E' (.mf S.o.length) u∧iP w.heap b o i=some u:=by
 have hlt:id<S.o.length:=(List.getElem?_eq_some_iff.1 hob).1
 have hw:=hM.ow id
 rw [hob] at hw
 obtain ⟨hz,hbey,hcells⟩:=hw
 obtain ⟨hbase,hall⟩:=hcells b o s n hmu
 obtain ⟨u,hu,hcell⟩:=hall i _ hc
 have hcell:ck E sz (some rows) (E.mu (.S id i)) u:=hcell
 have hOb:=hM.obj id
 rw [hob,hmu] at hOb
 have hOb:ks=none→s=1∧n=cells.length:=hOb
 obtain ⟨mu1,hmu1⟩:∃ mu1:Key→Option MV,mu1=fun k=>if k=.S id i then none else E.mu k:=⟨_,rfl⟩
 have hm1i:mu1 (.S id i)=none:=by rw [hmu1]; simp
 have hm1:∀ k,k≠.S id i→mu1 k=E.mu k:=fun k hk=>by rw [hmu1]; show (if k=.S id i then none else E.mu k)=_; rw [if_neg hk]
 have hfz:LE E.fz (Env.fz ⟨E.F,mu1,E.h⟩):=LE.refl _
 have hW1:eB ⟨E.F,mu1,E.h⟩ id (some (.own ks sz cells (some (i,.bad)))):=by
  refine ⟨hz,fun j hj=>?_,fun b' o' s' n' hm=>?_⟩
  ·show mu1 (.S id j)=none
   by_cases h:Key.S id j=.S id i
   ·rw [h]; exact hm1i
   ·rw [hm1 _ h]; exact hbey j hj
  ·have hm:E.mu (.O id)=some (.blk b' o' s' n'):=(hm1 _ (fun e=>by cases e)).symm.trans hm
   obtain ⟨h4,h6⟩:=hcells b' o' s' n' hm
   refine ⟨h4,fun j c hj=>?_⟩
   obtain ⟨u',hu',h7⟩:=h6 j c hj
   refine ⟨u',hu',?_⟩
   show if i=j then mu1 (.S id j)=none∧VR _ .bad u' else ck _ sz c (mu1 (.S id j)) u'
   by_cases hij:i=j
   ·subst hij
    rw [if_pos rfl]
    exact ⟨hm1i,.bad _ _⟩
   ·rw [if_neg hij,hm1 _ (fun e=>hij (by cases e; rfl))]
    exact ck.mono h7 hfz (fun _ _ _ _ _=>rfl)
 obtain ⟨hle1,hS1⟩:=hM.reS (mu':=mu1) (fun k hk=>hm1 k (hk i)) (fun j b' o' s' n' h=>by
   by_cases hj:Key.S id j=.S id i
   ·rw [hj,hm1i] at h; cases h
   ·rw [hm1 _ hj] at h
    obtain ⟨h1,h2,h3,h4⟩:=hM.ownS h
    exact ⟨h1,h2,h3,fun k o2 s2 n2 hk=>h4 k o2 s2 n2 (hk j)⟩)
  (fun j j' b' o' s' n' o2 s2 n2 h h'=>by
   by_cases hj:Key.S id j=.S id i
   ·rw [hj,hm1i] at h; cases h
   ·by_cases hj':Key.S id j'=.S id i
    ·rw [hj',hm1i] at h'; cases h'
    ·rw [hm1 _ hj] at h
     rw [hm1 _ hj'] at h'
     have:=hM.inj _ _ _ _ _ _ _ _ _ h h'
     cases this
     rfl) hob (fun e=>by cases e) (y:=.own ks sz cells (some (i,.bad))) (by rw [hmu]; exact hOb) hW1
 have hlen:(S.o.set id (.own ks sz cells (some (i,.bad)))).length=S.o.length:=by simp
 obtain ⟨mvi,hmvi⟩:∃ mvi,E.mu (.S id i)=some mvi:=by
  cases h:E.mu (.S id i) with
  | none=>rw [h] at hcell; exact hcell.elim
  | some mv=>exact ⟨mv,rfl⟩
 rw [hmvi] at hcell
 have hnew1:mu1 (.O S.o.length)=none:=(hm1 _ (fun e=>by cases e)).trans (DF hM)
 have hS2:=hS1.addkey (key:=.O S.o.length) (mv:=mvi) (fun d e=>by cases e) hnew1 (fun b' o' s' n' e=>by
   subst e
   obtain ⟨h1,h2,h3,h4⟩:=hM.ownS hmvi
   refine ⟨h1,h2,h3,fun k o2 s2 n2 h=>?_⟩
   by_cases hk:k=.S id i
   ·subst hk
    rw [show (Env.mu ⟨E.F,mu1,E.h⟩ (.S id i))=none from hm1i] at h
    cases h
   ·exact h4 k o2 s2 n2 hk ((hm1 k hk).symm.trans h))
  (M':={ t:=S.t,l:=S.l,o:=S.o.set id (.own ks sz cells (some (i,.bad)))++[.arr true sz rows],b:=S.b }) (fun _ _=>rfl)
  (fun j hj=>by
   show (S.o.set id _++[_])[j]?=(S.o.set id _)[j]?
   rcases Nat.lt_trichotomy j S.o.length with h | h | h
   ·rw [List.getElem?_append_left (by rw [hlen]; exact h)]
   ·exact absurd (by rw [h]) hj
   ·rw [List.getElem?_eq_none (by rw [List.length_append,hlen]; simp; omega),List.getElem?_eq_none (by rw [hlen]; omega)])
  rfl (by have:=hM.bl; show S.b≤(S.o.set id _++[_]).length; rw [List.length_append,hlen]; simp; omega) (fun j e=>by cases e; exact hM.bl) (fun d e=>by cases e)
  (fun j e=>by
   cases e
   show gx _ (S.o.set id _++[_])[S.o.length]? _
   rw [List.getElem?_append_right (by rw [hlen]; exact Nat.le_refl _),hlen,Nat.sub_self]
   cases mvi with
   | virt=>exact hcell.1
   | blk b1 o1 s1 n1=>exact ⟨hcell.1,hcell.2.1⟩)
  (fun j e=>by
   rcases e with e | ⟨i',e⟩ <;> cases e
   rw [List.getElem?_append_right (by rw [hlen]; exact Nat.le_refl _),hlen,Nat.sub_self]
   exact hS1.ow_new rfl (by rw [List.getElem?_eq_none (by show (S.o.set id _).length≤_; rw [hlen]; exact Nat.le_refl _)]; rfl) rfl)
 have hle2:LE ⟨E.F,mu1,E.h⟩ ⟨E.F,aO mu1 (.O S.o.length) mvi,E.h⟩:=k_ (E:=⟨E.F,mu1,E.h⟩) hnew1
 have hm2:aO mu1 (.O S.o.length) mvi (.O S.o.length)=some mvi:=by unfold aO; rw [if_pos rfl]
 have hm2i:aO mu1 (.O S.o.length) mvi (.S id i)=none:=by unfold aO; rw [if_neg (fun e=>by cases e)]; exact hm1i
 have hv:∀ E':Env,E'.mu (.O S.o.length)=some mvi→E'.h=E.h→VR E' (.mf S.o.length) u:=by
  intro E' hE hE2
  cases mvi with
  | virt =>
   obtain ⟨_,c,rfl⟩:=hcell
   cases c with
   | none=>exact .mfn hE
   | some c=>exact .mfe c hE
  | blk b1 o1 s1 n1 =>
   obtain ⟨_,_,cap,h6,h7,rfl⟩:=hcell
   exact .mf cap hE h6 (by rw [hE2]; exact h7)
 have hW3:eB ⟨E.F,aO mu1 (.O S.o.length) mvi,E.h⟩ id (some (.own ks sz cells (some (i,.mf S.o.length)))):=by
  have hS2w:=hS2.ow id
  have hget:(S.o.set id (.own ks sz cells (some (i,.bad)))++[.arr true sz rows])[id]?=some (.own ks sz cells (some (i,.bad))):=by
   rw [List.getElem?_append_left (by rw [hlen]; exact hlt),List.getElem?_set_self hlt]
  rw [hget] at hS2w
  obtain ⟨q1,q2,q3⟩:=hS2w
  refine ⟨q1,q2,fun b' o' s' n' hm=>?_⟩
  have hm0:E.mu (.O id)=some (.blk b' o' s' n'):=by
   have h:aO mu1 (.O S.o.length) mvi (.O id)=some (.blk b' o' s' n'):=hm
   unfold aO at h
   rw [if_neg (fun e=>by cases e; omega),hm1 _ (fun e=>by cases e)] at h
   exact h
  obtain ⟨h4,h6⟩:=q3 b' o' s' n' hm
  refine ⟨h4,fun j c hj=>?_⟩
  obtain ⟨u',hu',h7⟩:=h6 j c hj
  refine ⟨u',hu',?_⟩
  have h7:(if i=j then aO mu1 (.O S.o.length) mvi (.S id j)=none∧VR _ .bad u' else ck _ sz c (aO mu1 (.O S.o.length) mvi (.S id j)) u'):=h7
  show (if i=j then aO mu1 (.O S.o.length) mvi (.S id j)=none∧VR _ (.mf S.o.length) u' else ck _ sz c (aO mu1 (.O S.o.length) mvi (.S id j)) u')
  by_cases hij:i=j
  ·subst hij
   rw [if_pos rfl]
   refine ⟨hm2i,?_⟩
   rw [hmu] at hm0
   cases hm0
   have hu':iP E.h b o i=some u':=hu'
   rw [hu] at hu'
   cases hu'
   exact hv _ hm2 rfl
  ·rw [if_neg hij] at h7 ⊢
   exact h7
 obtain ⟨hle3,hS3⟩:=hS2.reS (id:=id) (mu':=aO mu1 (.O S.o.length) mvi) (fun _ _=>rfl) (fun j b' o' s' n' h=>by
   obtain ⟨h1,h2,h3,h4⟩:=hS2.ownS (id:=id) (j:=j) h
   exact ⟨h1,h2,h3,fun k o2 s2 n2 hk=>h4 k o2 s2 n2 (hk j)⟩)
  (fun j j' b' o' s' n' o2 s2 n2 h h'=>by
   have:=hS2.inj (.S id j) (.S id j') _ _ _ _ _ _ _ h h'
   cases this
   rfl)
  (x:=.own ks sz cells (some (i,.bad))) (y:=.own ks sz cells (some (i,.mf S.o.length))) (by
   show (S.o.set id _++[_])[id]?=_
   rw [List.getElem?_append_left (by rw [hlen]; exact hlt),List.getElem?_set_self hlt]) (fun e=>by cases e) (by
   have h:aO mu1 (.O S.o.length) mvi (.O id)=some (.blk b o s n):=by
    unfold aO
    rw [if_neg (fun e=>by cases e; omega),hm1 _ (fun e=>by cases e)]
    exact hmu
   show gx _ _ (aO mu1 (.O S.o.length) mvi (.O id))
   rw [h]
   exact hOb) hW3
 refine ⟨_,u,?_,(hle1.trans hle2).trans hle3,hv _ hm2 rfl,?_⟩
 ·have e:(S.o.set id (Ob.own ks sz cells (some (i,.bad)))++[Ob.arr true sz rows]).set id (Ob.own ks sz cells (some (i,.mf S.o.length)))=S.o.set id (Ob.own ks sz cells (some (i,.mf S.o.length)))++[Ob.arr true sz rows]:=by
   rw [List.set_append_left _ _ (by rw [hlen]; exact hlt),List.set_set]
  have hS3:al G p _ { t:=S.t,l:=S.l,o:=(S.o.set id (Ob.own ks sz cells (some (i,.bad)))++[Ob.arr true sz rows]).set id (Ob.own ks sz cells (some (i,.mf S.o.length))),b:=S.b } w:=hS3
  rw [e] at hS3
  exact hS3
 ·rw [← hM.hp]
  exact hu
theorem xH (hM:al G p E S w) (ht:TR E S.t a) {id j k sz:Nat} {ks:Option (List AV)} {cells:List (Option (List (List AV)))} {rows:List (List AV)} (hob:S.o[id]?=some (.own ks sz cells (some (j,.mf k)))) (hk:S.o[k]?=some (.arr true sz rows)) (hj:j<cells.length) :
  ∃ E',al G p E' { t:=(fR k S).t,l:=(fR k S).l,o:=(fR k S).o.set id (.own ks sz (cells.set j (some rows)) none),b:=S.b } w∧TR E' (fR k S).t a∧E'.mu (.O id)=E.mu (.O id):=by
 have hklt:k<S.o.length:=(List.getElem?_eq_some_iff.1 hk).1
 have hne:k≠id:=fun e=>by subst e; rw [hob] at hk; cases hk
 have hw:=hM.ow id
 rw [hob] at hw
 obtain ⟨hz,hbey,hcells⟩:=hw
 have hOb:=hM.obj id
 rw [hob] at hOb
 have hOk:=hM.obj k
 rw [hk] at hOk
 obtain ⟨mvk,hmk⟩:∃ mvk,E.mu (.O k)=some mvk:=by
  cases h:E.mu (.O k) with
  | none=>rw [h] at hOk; exact hOk.elim
  | some mv=>exact ⟨mv,rfl⟩
 rw [hmk] at hOk
 obtain ⟨hS1,ht1,hke⟩:=qz hM ht hklt
 have hgl:(fR k S).o.length=S.o.length:=by simp [fR]
 have hidlt:id<S.o.length:=(List.getElem?_eq_some_iff.1 hob).1
 obtain ⟨mu1,hmu1⟩:∃ mu1:Key→Option MV,mu1=fun x=>if x=.S id j then some mvk else aY E.mu (.O k) x:=⟨_,rfl⟩
 have hm1j:mu1 (.S id j)=some mvk:=by rw [hmu1]; simp
 have hm1:∀ x,x≠.S id j→mu1 x=aY E.mu (.O k) x:=fun x hx=>by rw [hmu1]; show (if x=.S id j then some mvk else aY E.mu (.O k) x)=_; rw [if_neg hx]
 have hS:∀ i,aY E.mu (.O k) (.S id i)=E.mu (.S id i):=fun i=>zF (k:=.O k) (a:=id) (i:=i) (by intro e; cases e) (by intro e; cases e; exact hne rfl)
 have hgid:(fR k S).o[id]?=some (et (.O k) (.own ks sz cells (some (j,.mf k)))):=by
  show ((S.o.map (et (.O k))).set k .dead)[id]?=_
  rw [List.getElem?_set,if_neg hne,List.getElem?_map,hob]
  rfl
 have hfree:∀ b o s n,mvk=.blk b o s n→¬ E.F b∧b<w.heap.size∧(G.M b∨G.w0.heap.size≤b)∧∀ x o' s' n',aY E.mu (.O k) x≠some (.blk b o' s' n'):=by
  intro b o s n e
  subst e
  obtain ⟨h1,h2,h3⟩:=hM.own _ _ _ _ _ hmk
  refine ⟨h1,h2,h3,fun x o' s' n' h=>?_⟩
  obtain ⟨h4,h5⟩:=cF h
  exact h4 (hM.inj _ _ _ _ _ _ _ _ _ h5 hmk)
 have hW1:eB ⟨E.F,mu1,E.h⟩ id (some (.own ks sz (cells.set j (some rows)) none)):=by
  refine ⟨hz,fun i hi=>?_,fun b o s n hm=>?_⟩
  ·rw [List.length_set] at hi
   show mu1 (.S id i)=none
   rw [hm1 _ (fun e=>by cases e; omega),hS]
   exact hbey i hi
  ·have hm:E.mu (.O id)=some (.blk b o s n):=by
    have h:mu1 (.O id)=some (.blk b o s n):=hm
    rw [hm1 _ (fun e=>by cases e),jM (fun e=>hne (by cases e; rfl))] at h
    exact h
   obtain ⟨h4,h6⟩:=hcells b o s n hm
   refine ⟨by rw [List.length_set]; exact h4,fun i c hi=>?_⟩
   rw [List.getElem?_set] at hi
   by_cases hij:j=i
   ·subst hij
    rw [if_pos rfl,if_pos hj] at hi
    cases hi
    obtain ⟨u,hu,h7⟩:=h6 j cells[j] (List.getElem?_eq_getElem hj)
    have h7:(if j=j then E.mu (.S id j)=none∧VR E.ob (.mf k) u else ck E sz cells[j] (E.mu (.S id j)) u):=h7
    rw [if_pos rfl] at h7
    refine ⟨u,hu,?_⟩
    show ck _ sz (some rows) (mu1 (.S id j)) u
    rw [hm1j]
    obtain ⟨_,hv⟩:=h7
    cases hv with
    | mfn hx =>
     have hx:E.mu (.O k)=some .virt:=hx
     rw [hmk] at hx
     cases hx
     exact ⟨hOk,none,rfl⟩
    | mfe c hx =>
     have hx:E.mu (.O k)=some .virt:=hx
     rw [hmk] at hx
     cases hx
     exact ⟨hOk,some c,rfl⟩
    | mf cap hx hn hc =>
     have hx:E.mu (.O k)=some _:=hx
     rw [hmk] at hx
     cases hx
     exact ⟨hOk.1,hOk.2,cap,hn,hc,rfl⟩
   ·rw [if_neg hij] at hi
    obtain ⟨u,hu,h7⟩:=h6 i c hi
    have h7:(if j=i then E.mu (.S id i)=none∧VR E.ob (.mf k) u else ck E sz c (E.mu (.S id i)) u):=h7
    rw [if_neg hij] at h7
    refine ⟨u,hu,?_⟩
    show ck _ sz c (mu1 (.S id i)) u
    rw [hm1 _ (fun e=>hij (by cases e; rfl)),hS]
    exact ck.mono h7 (LE.refl _) (fun _ _ _ _ _=>rfl)
 obtain ⟨hle,hS2⟩:=hS1.reS (id:=id) (mu':=mu1) (fun x hx=>hm1 x (hx j)) (fun i b o s n h=>by
   by_cases hij:Key.S id i=.S id j
   ·rw [hij,hm1j] at h
    obtain ⟨h1,h2,h3,h4⟩:=hfree b o s n (Option.some.inj h)
    exact ⟨h1,h2,h3,fun x o' s' n' _=>h4 x o' s' n'⟩
   ·rw [hm1 _ hij] at h
    obtain ⟨h1,h2,h3,h4⟩:=hS1.ownS (id:=id) (j:=i) h
    exact ⟨h1,h2,h3,fun x o' s' n' hx=>h4 x o' s' n' (hx i)⟩)
  (fun i i' b o s n o' s' n' h h'=>by
   by_cases hij:Key.S id i=.S id j
   ·by_cases hij':Key.S id i'=.S id j
    ·cases hij
     cases hij'
     rfl
    ·rw [hij,hm1j] at h
     rw [hm1 _ hij'] at h'
     exact absurd h' ((hfree b o s n (Option.some.inj h)).2.2.2 _ _ _ _)
   ·by_cases hij':Key.S id i'=.S id j
    ·rw [hij',hm1j] at h'
     rw [hm1 _ hij] at h
     exact absurd h ((hfree b o' s' n' (Option.some.inj h')).2.2.2 _ _ _ _)
    ·rw [hm1 _ hij] at h
     rw [hm1 _ hij'] at h'
     have:=hS1.inj (.S id i) (.S id i') _ _ _ _ _ _ _ h h'
     cases this
     rfl)
  hgid (fun e=>by cases e) (y:=.own ks sz (cells.set j (some rows)) none) (by
   show gx _ _ (aY E.mu (.O k) (.O id))
   rw [jM (fun e=>hne (by cases e; rfl))]
   revert hOb
   cases E.mu (.O id) with
   | none=>exact fun h=>h.elim
   | some mv =>
    cases mv with
    | virt =>
     intro h
     have h:ks=none∧cells=[]:=h
     rw [h.2] at hj
     cases hj
    | blk b o s n =>
     intro h
     have h:ks=none→s=1∧n=cells.length:=h
     exact fun e=>⟨(h e).1,by rw [List.length_set]; exact (h e).2⟩) hW1
 exact ⟨_,hS2,ht1.mono hle,(hm1 _ (fun e=>by cases e)).trans (jM (fun e=>hne (by cases e; rfl)))⟩
theorem Be {k:Nat} {K:St→Prop}:gu [k] S K↔K (fR k S):=ol (ids:=[k])
theorem vQ (hM:al G p E S w) (ht:TR E S.t a) {id:Nat} {K:St→Prop} (h:iL S id K) :
  ∃ S' E',K S'∧al G p E' S' w∧TR E' S'.t a:=by
 unfold iL at h
 split at h
 ·rename_i ks sz cells j hob
  obtain ⟨hj,h⟩:=ac h
  rw [az] at h
  rw [Nat.blt_eq] at hj
  have hw:=hM.ow id
  rw [hob] at hw
  obtain ⟨hz,hbey,hcells⟩:=hw
  have hOb:=hM.obj id
  rw [hob] at hOb
  obtain ⟨hle,hS⟩:=hM.reS (id:=id) (mu':=E.mu) (fun _ _=>rfl) (fun j b o s n h=>by
    obtain ⟨h1,h2,h3,h4⟩:=hM.ownS (id:=id) (j:=j) h
    exact ⟨h1,h2,h3,fun k o2 s2 n2 hk=>h4 k o2 s2 n2 (hk j)⟩)
   (fun j j' b o s n o2 s2 n2 h h'=>by
    have:=hM.inj (.S id j) (.S id j') _ _ _ _ _ _ _ h h'
    cases this
    rfl) hob (fun e=>by cases e) (y:=.own ks sz (cells.set j none) none) (by
    revert hOb
    cases E.mu (.O id) with
    | none=>exact fun h=>h.elim
    | some mv =>
     cases mv with
     | virt =>
      intro h
      have h:ks=none∧cells=[]:=h
      rw [h.2] at hj
      cases hj
     | blk b o s n =>
      intro h
      have h:ks=none→s=1∧n=cells.length:=h
      exact fun e=>⟨(h e).1,by rw [List.length_set]; exact (h e).2⟩) ⟨hz,fun i hi=>hbey i (by rw [List.length_set] at hi; exact hi),fun b o s n hm=>by
    obtain ⟨h4,h6⟩:=hcells b o s n hm
    refine ⟨by rw [List.length_set]; exact h4,fun i c hi=>?_⟩
    rw [List.getElem?_set] at hi
    by_cases hij:j=i
    ·subst hij
     rw [if_pos rfl,if_pos hj] at hi
     cases hi
     obtain ⟨u,hu,h7⟩:=h6 j cells[j] (List.getElem?_eq_getElem hj)
     have h7:(if j=j then E.mu (.S id j)=none∧VR E.ob .nilsl u else ck E sz cells[j] (E.mu (.S id j)) u):=h7
     rw [if_pos rfl] at h7
     obtain ⟨h8,hv⟩:=h7
     refine ⟨u,hu,?_⟩
     show ck _ sz none (E.mu (.S id j)) u
     rw [h8]
     cases hv
     rfl
    ·rw [if_neg hij] at hi
     obtain ⟨u,hu,h7⟩:=h6 i c hi
     have h7:(if j=i then E.mu (.S id i)=none∧VR E.ob .nilsl u else ck E sz c (E.mu (.S id i)) u):=h7
     rw [if_neg hij] at h7
     exact ⟨u,hu,h7⟩⟩
  exact ⟨_,_,h,hS,ht.mono hle⟩
 ·rename_i ks sz cells j k hob
  split at h
  ·rename_i sz' rows hk
   obtain ⟨hb,h⟩:=ac h
   simp only [Bool.and_eq_true,Nat.blt_eq] at hb
   obtain ⟨hsz,hj⟩:=hb
   have hsz:=Nat.eq_of_beq_eq_true hsz
   subst hsz
   rw [Be,az] at h
   have hne:k≠id:=fun e=>by subst e; rw [hob] at hk; cases hk
   obtain ⟨E',hS,htr,hmu'⟩:=xH hM ht hob hk hj
   exact ⟨_,E',h,hS,htr⟩
  ·exact h.elim
 ·exact h.elim
 ·exact ⟨S,E,h,hM,ht⟩
theorem p0:∀ {ids:List Nat} {S:St} {E:Env} {K:St→Prop},al G p E S w→TR E S.t a→py ids S K→∃ S' E',K S'∧al G p E' S' w∧TR E' S'.t a
 | [],S,E,_,hM,ht,h=>⟨S,E,h,hM,ht⟩
 | id::ids,_,_,_,hM,ht,h=>by
  obtain ⟨S1,E1,h,hM1,ht1⟩:=vQ hM ht h
  exact p0 hM1 ht1 h
def F6 (id:Nat) (mu:Key→Option MV):Key→Option MV
 | .L d=>mu (.L d)
 | .O i=>mu (.O i)
 | .S c j=>if c=id then none else mu (.S c j)
theorem F7 {id:Nat} {mu:Key→Option MV} (k:Key) (h:∀ j,k≠.S id j):F6 id mu k=mu k:=by
 cases k with
 | L d=>rfl
 | O i=>rfl
 | S c j =>
  show (if c=id then none else mu (.S c j))=_
  rw [if_neg (fun e=>h j (by rw [e]))]
theorem Ig {id:Nat} {mu:Key→Option MV} (j:Nat):F6 id mu (.S id j)=none:=by
 show (if id=id then none else mu (.S id j))=_
 rw [if_pos rfl]
theorem pA:∀ {ks:List AV},(eN ks).length=ks.length
 | []=>rfl
 | _::ks=>congrArg (· + 1) (pA (ks:=ks))
theorem pB:∀ {ks:List AV} {i:Nat} {e:AV×AV},(eN ks)[i]?=some e→ks[i]?=some e.1∧e.2=.bad
 | [],_,_,h=>by simp [eN] at h
 | k::ks,0,e,h=>by
  have h:some (k,AV.bad)=some e:=h
  cases h
  exact ⟨rfl,rfl⟩
 | k::ks,i + 1,e,h=>pB (ks:=ks) (i:=i) h
theorem yx:∀ {ks:List AV} {cells:List (Option (List (List AV)))},ks.length=cells.length→(lK ks cells).length=ks.length
 | [],[],_=>rfl
 | _::ks,_::cells,h=>congrArg (· + 1) (yx (ks:=ks) (cells:=cells) (by simpa using h))
theorem yy:∀ {ks:List AV} {cells:List (Option (List (List AV)))} {i:Nat} {e:AV×AV},(lK ks cells)[i]?=some e→ks[i]?=some e.1∧∃ c,cells[i]?=some c∧e.2=zp c
 | [],_,_,_,h=>by simp [lK] at h
 | _::_,[],_,_,h=>by simp [lK] at h
 | k::ks,c::cells,0,e,h=>by
  have h:some (k,zp c)=some e:=h
  cases h
  exact ⟨rfl,c,rfl,rfl⟩
 | k::ks,c::cells,i + 1,e,h=>yy (ks:=ks) (cells:=cells) (i:=i) h
theorem xI (hM:al G p E S w) (ht:TR E S.t a) {id:Nat} {K:St→Prop} (h:kx S id K):∃ S' E',K S'∧al G p E' S' w∧TR E' S'.t a:=by
 unfold kx at h
 split at h
 ·rename_i ks sz cells hob
  rw [az] at h
  have hlt:id<S.o.length:=(List.getElem?_eq_some_iff.1 hob).1
  have hw:=hM.ow id
  rw [hob] at hw
  obtain ⟨hz,hbey,hcells⟩:=hw
  have hOb:=hM.obj id
  rw [hob] at hOb
  obtain ⟨b,o,s,n,hmu⟩:∃ b o s n,E.mu (.O id)=some (.blk b o s n):=by
   revert hOb
   cases E.mu (.O id) with
   | none=>exact fun h=>h.elim
   | some mv =>
    cases mv with
    | virt=>exact fun h=>by cases h.1
    | blk b o s n=>exact fun _=>⟨b,o,s,n,rfl⟩
  obtain ⟨⟨ms,clock,hb,⟨hl1,hl2,hbn⟩,hk⟩,hall⟩:=hcells b o s n hmu
  obtain ⟨mu1,hmu1⟩:∃ mu1,mu1=F6 id E.mu:=⟨_,rfl⟩
  have hm1:∀ k,(∀ j,k≠.S id j)→mu1 k=E.mu k:=fun k hk=>by rw [hmu1]; exact F7 k hk
  have hm1S:∀ j,mu1 (.S id j)=none:=fun j=>by rw [hmu1]; exact Ig j
  obtain ⟨hle1,hS1⟩:=hM.reS (mu':=mu1) hm1 (fun j b o s n h=>by rw [hm1S] at h; cases h) (fun j j' b o s n o2 s2 n2 h h'=>by rw [hm1S] at h; cases h) hob (fun e=>by cases e)
   (y:=.mapo true (eN ks)) (by
    rw [hmu]
    exact ⟨ms,clock,hb,⟨by rw [pA]; omega,hbn⟩,fun i e m h1 h2=>by
     obtain ⟨h3,h4⟩:=pB h1
     exact ⟨hk i e.1 m h3 h2,by rw [h4]; exact .bad _ _⟩⟩) (fun i=>hm1S i)
  obtain ⟨hle2,hS2⟩:=hS1.freeze (F':=fun x=>E.F x∨∃ j o s n,E.mu (.S id j)=some (.blk x o s n)) (fun _ h=>.inl h) (fun x hx=>by
   rcases hx with hx | ⟨j,o',s',n',hx⟩
   ·exact .inl hx
   ·obtain ⟨h1,h2,h3⟩:=hM.own _ _ _ _ _ hx
    refine .inr ⟨h2,h3,fun k o2 s2 n2 hk2=>?_⟩
    have hk2:mu1 k=some (.blk x o2 s2 n2):=hk2
    have hne:∀ j,k≠.S id j:=fun j e=>by rw [e,hm1S] at hk2; cases hk2
    rw [hm1 k hne] at hk2
    exact hne j (hM.inj _ _ _ _ _ _ _ _ _ hk2 hx))
  have hget:(S.o.set id (.mapo true (eN ks)))[id]?=some (.mapo true (eN ks)):=List.getElem?_set_self hlt
  have hfz:LE E.fz (Env.fz ⟨fun x=>E.F x∨∃ j o s n,E.mu (.S id j)=some (.blk x o s n),mu1,E.h⟩):=⟨fun _ h=>.inl h,fun _ _ _ h=>(by cases h),fun _ _=>rfl,fun _ _ _ _ _ _ h=>(by cases h)⟩
  obtain ⟨hle3,hS3⟩:=hS2.reS (id:=id) (mu':=mu1) (fun _ _=>rfl) (fun j b o s n h=>by rw [hm1S] at h; cases h) (fun j j' b o s n o2 s2 n2 h h'=>by rw [hm1S] at h; cases h) hget (fun e=>by cases e)
   (y:=.mapo true (lK ks cells)) (by
    show gx _ _ (mu1 (.O id))
    rw [hm1 _ (fun j e=>by cases e),hmu]
    refine ⟨ms,clock,hb,⟨by rw [yx (by omega)]; omega,hbn⟩,fun i e m h1 h2=>?_⟩
    obtain ⟨h3,c,h4,h5⟩:=yy h1
    refine ⟨hk i e.1 m h3 h2,?_⟩
    obtain ⟨u,hu,hc⟩:=hall i c h4
    have hu:u=m.val:=by
     unfold iP at hu
     rw [hb] at hu
     simp only [h2,Option.map_some,Option.some.injEq] at hu
     exact hu.symm
    subst hu
    have hc:ck E sz c (E.mu (.S id i)) m.val:=hc
    rw [h5]
    generalize m.val=u at hc
    show VR (Env.fz ⟨fun x=>E.F x∨∃ j o s n,E.mu (.S id j)=some (.blk x o s n),mu1,E.h⟩) (zp c) u
    revert hc
    cases c with
    | none =>
     cases E.mu (.S id i) with
     | none=>exact fun h=>by rw [show u=Value.slice none 0 0 from h]; exact .nilsl _
     | some mv=>cases mv <;> exact fun h=>h.elim
    | some rows =>
     cases hmi:E.mu (.S id i) with
     | none=>exact fun h=>h.elim
     | some mv =>
      cases mv with
      | virt =>
       rintro ⟨rfl,c,rfl⟩
       cases c with
       | none=>exact .sln _
       | some c=>exact .sle _ c 0
      | blk b1 o1 s1 n1 =>
       rintro ⟨⟨rfl,rfl⟩,⟨q1,q2,us,ty,q3,q4,q5⟩,cap,h6,h7,rfl⟩
       exact cg.sl (E':=Env.fz ⟨fun x=>E.F x∨∃ j o s n,E.mu (.S id j)=some (.blk x o s n),mu1,E.h⟩) ⟨q1,q2,us,ty,q3,q4,fun m c hc=>by
        obtain ⟨u,hu,hv⟩:=q5 m c hc
        exact ⟨u,hu,hv.mono hfz⟩⟩ (.inr ⟨i,_,_,_,hmi⟩) h6) (fun i=>hm1S i)
  refine ⟨_,_,h,?_,((ht.mono hle1).mono hle2).mono hle3⟩
  have e:(S.o.set id (Ob.mapo true (eN ks))).set id (Ob.mapo true (lK ks cells))=S.o.set id (Ob.mapo true (lK ks cells)):=List.set_set ..
  have hS3:al G p _ { t:=S.t,l:=S.l,o:=(S.o.set id (Ob.mapo true (eN ks))).set id (Ob.mapo true (lK ks cells)),b:=S.b } w:=hS3
  rw [e] at hS3
  exact hS3
 ·exact ⟨S,E,h,hM,ht⟩
theorem oq:∀ {ids:List Nat} {S:St} {E:Env} {K:St→Prop},al G p E S w→TR E S.t a→mE ids S K→∃ S' E',K S'∧al G p E' S' w∧TR E' S'.t a
 | [],S,E,_,hM,ht,h=>⟨S,E,h,hM,ht⟩
 | id::ids,_,_,_,hM,ht,h=>by
  obtain ⟨S1,E1,h,hM1,ht1⟩:=xI hM ht h
  exact oq hM1 ht1 h
theorem ot (hM:al G p E S w) (ht:TR E S.t a) {pl:br} {id:Nat} {K:St→Prop} (h:lL pl id S K):∃ S' E',K S'∧al G p E' S' w∧TR E' S'.t a:=by
 unfold lL at h
 split at h
 ·exact ⟨S,E,h,hM,ht⟩
 ·obtain ⟨S1,E1,h,hM1,ht1⟩:=p0 hM ht h
  split at h
  ·exact ⟨S1,E1,h,hM1,ht1⟩
  ·exact oq hM1 ht1 h
theorem Km (hM:al G p E S w) {id sz b o s n:Nat} {cells:List (Option (List (List AV)))} {hole:Option (Nat×AV)} (hob:S.o[id]?=some (.own none sz cells hole)) (hmu:E.mu (.O id)=some (.blk b o s n)):s=1∧n=cells.length:=by
 have h:=hM.obj id
 rw [hob,hmu] at h
 exact h rfl
theorem ER {hole:Option (Nat×AV)} {i:Nat} (h:cM hole i=true):hole=none∨∃ a0,hole=some (i,a0):=by
 cases hole with
 | none=>exact .inl rfl
 | some z =>
  obtain ⟨j,a0⟩:=z
  have:=Nat.eq_of_beq_eq_true (show Nat.beq i j=true from h)
  subst this
  exact .inr ⟨a0,rfl⟩
theorem ou (hM:al G p E M w) {id i:Nat} {k:AV→St→Prop} {b o s n:Nat} (hmu:E.mu (.O id)=some (.blk b o s n)) (h:fC M id i k) :
  ∃ M' E' v u,k v M'∧al G p E' M' w∧LE E E'∧VR E' v u∧iP w.heap b o i=some u:=by
 unfold fC at h
 split at h
 ·rename_i ks sz cells hob
  split at h
  ·rename_i hc
   have hw:=hM.ow id
   rw [hob] at hw
   obtain ⟨_,_,hcells⟩:=hw
   obtain ⟨_,hall⟩:=hcells b o s n hmu
   obtain ⟨u,hu,hcell⟩:=hall i _ hc
   have hcell:ck E sz none (E.mu (.S id i)) u:=hcell
   have hnil:u=.slice none 0 0:=by
    revert hcell
    cases E.mu (.S id i) with
    | none=>exact fun h=>h
    | some mv=>cases mv <;> exact fun h=>h.elim
   subst hnil
   exact ⟨M,E,_,_,h,hM,.refl _,.nilsl _,by rw [← hM.hp]; exact hu⟩
  ·rename_i rows hc
   rw [az] at h
   obtain ⟨E',u,hS,hle,hv,hcl⟩:=xG hM hob hc hmu
   have e:({ t:=M.t,l:=M.l,o:=M.o.set id (.own ks sz cells (some (i,.mf M.o.length)))++[.arr true sz rows],b:=M.b }:St)=_:=rfl
   exact ⟨_,E',_,u,h,hS,hle,hv,hcl⟩
  ·exact h.elim
 ·exact h.elim
theorem rq (hM:al G p E M w) {x:AV} {u:Value} {k:Nat→Nat→Prop} (hv:VR E x u) (h:jj M x k) :
  ∃ id i b o n sz cells hole,k id i∧M.o[id]?=some (.own none sz cells hole)∧E.mu (.O id)=some (.blk b o 1 n)∧u=.pointer (some ⟨b,o + i,none⟩):=by
 unfold jj at h
 split at h
 ·rename_i id i
  split at h
  ·rename_i sz cells hole hob
   cases hv with
   | ptr _ _ hs hmu =>
    rename_i b o s n
    obtain ⟨rfl,_⟩:=Km hM hob hmu
    exact ⟨id,i,b,o,n,sz,cells,hole,h,hob,hmu,by simp⟩
  ·exact h.elim
 ·exact h.elim
theorem vR (hM:al G p E M w) {t:TypeId} {same:Bool} {id i:Nat} {k:AV→St→Prop} {b o s n sz:Nat} {cells:List (Option (List (List AV)))} {hole:Option (Nat×AV)} (hob:M.o[id]?=some (.own none sz cells hole)) (hmu:E.mu (.O id)=some (.blk b o s n)) (h:iM P t same M id i k) :
  ∃ M' E' r z,k r M'∧al G p E' M' w∧LE E E'∧VR E' r z∧(Instr.loadAt t (.pointer (some ⟨b,o + i,none⟩))).run P w=.ok z w:=by
 have hbase:yk w.heap none b o cells.length:=by
  have hw:=hM.ow id
  rw [hob] at hw
  rw [← hM.hp]
  exact (hw.2.2 b o s n hmu).1
 have ld:∀ {E':Env} {v:AV} {u:Value} {k:AV→Prop},VR E' v u→iP w.heap b o i=some u→iJ P t [v] 0 k→∃ r z,k r∧VR E' r z∧(Instr.loadAt t (.pointer (some ⟨b,o + i,none⟩))).run P w=.ok z w:=by
  intro E' v u k hv hc hk
  obtain ⟨r,z,h1,h2,h3⟩:=qq (P:=P) hk (bT.cons hv (bT.nil E')) w (b:=b) (o:=o + i) (fun m u' hu'=>by
   cases m with
   | zero =>
    simp at hu'
    subst hu'
    show ei w.heap b (o + i)=some u
    exact AT hbase hc
   | succ m=>simp at hu')
  exact ⟨r,z,h1,h2,h3⟩
 unfold iM at h
 split at h
 ·split at h
  ·rename_i sz' cells' j v hob'
   rw [hob] at hob'
   cases hob'
   replace h:=ac h
   obtain ⟨hb,h⟩:=h
   simp only [Bool.and_eq_true,Nat.blt_eq] at hb
   obtain ⟨hij,hj⟩:=hb
   have hij:=Nat.eq_of_beq_eq_true hij
   subst hij
   have hw:=hM.ow id
   rw [hob] at hw
   obtain ⟨_,_,hcells⟩:=hw
   obtain ⟨_,hall⟩:=hcells b o s n hmu
   obtain ⟨u,hu,hcell⟩:=hall i _ (List.getElem?_eq_getElem hj)
   have h7:(if i=i then E.mu (.S id i)=none∧VR E.ob v u else ck E sz cells[i] (E.mu (.S id i)) u):=hcell
   rw [if_pos rfl] at h7
   obtain ⟨r,z,h3,h4,h5⟩:=ld h7.2.of_ob (by rw [← hM.hp]; exact hu) h
   exact ⟨M,E,r,z,h3,hM,.refl _,h4,h5⟩
  ·exact h.elim
 ·obtain ⟨M',E',v,u,h,hM',hle,hv,hc⟩:=ou hM hmu h
  obtain ⟨r,z,h3,h4,h5⟩:=ld hv hc h
  exact ⟨M',E',r,z,h3,hM',hle,h4,h5⟩
theorem vS (hM:al G p E S w) {id i sz:Nat} {ks:Option (List AV)} {cells:List (Option (List (List AV)))} {hole:Option (Nat×AV)} (hob:S.o[id]?=some (.own ks sz cells hole)) (hh:cM hole i=true) :
  ∃ E',LE E E'∧E'.h=E.h∧E'.mu (.O id)=E.mu (.O id)∧al G p E' { t:=S.t,l:=S.l,o:=S.o.set id (.own ks sz cells (some (i,.bad))),b:=S.b } w:=by
 have hw:=hM.ow id
 rw [hob] at hw
 obtain ⟨hz,hbey,hcells⟩:=hw
 have hOb:=hM.obj id
 rw [hob] at hOb
 obtain ⟨mu1,hmu1⟩:∃ mu1:Key→Option MV,mu1=fun k=>if k=.S id i then none else E.mu k:=⟨_,rfl⟩
 have hm1i:mu1 (.S id i)=none:=by rw [hmu1]; simp
 have hm1:∀ k,k≠.S id i→mu1 k=E.mu k:=fun k hk=>by rw [hmu1]; show (if k=.S id i then none else E.mu k)=_; rw [if_neg hk]
 have hW1:eB ⟨E.F,mu1,E.h⟩ id (some (.own ks sz cells (some (i,.bad)))):=by
  refine ⟨hz,fun j hj=>?_,fun b' o' s' n' hm=>?_⟩
  ·show mu1 (.S id j)=none
   by_cases h:Key.S id j=.S id i
   ·rw [h]; exact hm1i
   ·rw [hm1 _ h]; exact hbey j hj
  ·have hm:E.mu (.O id)=some (.blk b' o' s' n'):=(hm1 _ (fun e=>by cases e)).symm.trans hm
   obtain ⟨h4,h6⟩:=hcells b' o' s' n' hm
   refine ⟨h4,fun j c hj=>?_⟩
   obtain ⟨u',hu',h7⟩:=h6 j c hj
   refine ⟨u',hu',?_⟩
   show if i=j then mu1 (.S id j)=none∧VR _ .bad u' else ck _ sz c (mu1 (.S id j)) u'
   by_cases hij:i=j
   ·subst hij
    rw [if_pos rfl]
    exact ⟨hm1i,.bad _ _⟩
   ·rw [if_neg hij,hm1 _ (fun e=>hij (by cases e; rfl))]
    have h8:ck E sz c (E.mu (.S id j)) u':=by
     rcases ER hh with rfl | ⟨a0,rfl⟩
     ·exact h7
     ·have h7:(if i=j then E.mu (.S id j)=none∧VR E.ob a0 u' else ck E sz c (E.mu (.S id j)) u'):=h7
      rw [if_neg hij] at h7
      exact h7
    exact ck.mono h8 (LE.refl _) (fun _ _ _ _ _=>rfl)
 obtain ⟨hle1,hS1⟩:=hM.reS (mu':=mu1) (fun k hk=>hm1 k (hk i)) (fun j b' o' s' n' h=>by
   by_cases hj:Key.S id j=.S id i
   ·rw [hj,hm1i] at h; cases h
   ·rw [hm1 _ hj] at h
    obtain ⟨h1,h2,h3,h4⟩:=hM.ownS h
    exact ⟨h1,h2,h3,fun k o2 s2 n2 hk=>h4 k o2 s2 n2 (hk j)⟩)
  (fun j j' b' o' s' n' o2 s2 n2 h h'=>by
   by_cases hj:Key.S id j=.S id i
   ·rw [hj,hm1i] at h; cases h
   ·by_cases hj':Key.S id j'=.S id i
    ·rw [hj',hm1i] at h'; cases h'
    ·rw [hm1 _ hj] at h
     rw [hm1 _ hj'] at h'
     have:=hM.inj _ _ _ _ _ _ _ _ _ h h'
     cases this
     rfl) hob (fun e=>by cases e) (y:=.own ks sz cells (some (i,.bad))) (by
   revert hOb
   cases E.mu (.O id) with
   | none=>exact fun h=>h.elim
   | some mv=>cases mv <;> exact fun h=>h) hW1
 exact ⟨_,hle1,rfl,hm1 _ (fun e=>by cases e),hS1⟩
theorem zL (hM:al G p E S w) {id i sz:Nat} {cells:List (Option (List (List AV)))} {hole:Option (Nat×AV)} (hob:S.o[id]?=some (.own none sz cells hole)) (hh:cM hole i=true) (hi:i<cells.length)
  {b o s n:Nat} (hmu:E.mu (.O id)=some (.blk b o s n)) {v:AV} {u:Value} (hv:VR E v u) (hn:u4 4 v=true) :
  ∃ us ty E',w.heap[b]?=some (.cells us ty (0,0))∧o + i<us.size∧al G p E' { t:=S.t,l:=S.l,o:=S.o.set id (.own none sz cells (some (i,v))),b:=S.b } (aU w b (.cells (bZ us (o + i) [u] 0) ty (0,0)))∧LE E E':=by
 obtain ⟨E1,hle1,hh1,hmu1,hS1⟩:=vS hM hob hh
 have hlt:id<S.o.length:=(List.getElem?_eq_some_iff.1 hob).1
 have hmu1:E1.mu (.O id)=some (.blk b o s n):=hmu1.trans hmu
 have hget1:(S.o.set id (.own none sz cells (some (i,.bad))))[id]?=some (.own none sz cells (some (i,.bad))):=List.getElem?_set_self hlt
 have hw:=hS1.ow id
 rw [hget1] at hw
 obtain ⟨hz,hbey,hcells⟩:=hw
 obtain ⟨⟨us,ty,hb,hul⟩,hall⟩:=hcells b o s n hmu1
 have hbw:w.heap[b]?=some (.cells us ty (0,0)):=by rw [← hS1.hp]; exact hb
 have hblt:b<w.heap.size:=(Array.getElem?_eq_some_iff.1 hbw).1
 have hsz:bf (aU w b (.cells (bZ us (o + i) [u] 0) ty (0,0))).heap b=bf w.heap b:=by
  unfold bf
  rw [co hblt,hbw]
  simp [cm]
 have hle2:=hS1.setblk_le hmu1 hsz
 have hOb:=hS1.obj id
 rw [hget1,hmu1] at hOb
 obtain ⟨_,hS2⟩:=hS1.setblk hmu1 hsz (M':={ t:=S.t,l:=S.l,o:=S.o.set id (.own none sz cells (some (i,v))),b:=S.b })
  (fun _ _=>rfl) (fun j hj=>by
   show (S.o.set id _)[j]?=(S.o.set id _)[j]?
   rw [List.getElem?_set,List.getElem?_set,if_neg (fun e=>hj (by rw [e])),if_neg (fun e=>hj (by rw [e]))]) rfl (by simp) (fun d e=>by cases e)
  (fun j e=>by
   cases e
   show gx _ (S.o.set id _)[id]? _
   rw [List.getElem?_set_self hlt,hmu1]
   exact hOb)
  (fun j e=>by
   rcases e with e | ⟨i',e⟩ <;> cases e
   show eB _ id (S.o.set id _)[id]?
   rw [List.getElem?_set_self hlt]
   refine ⟨hz,hbey,fun b' o' s' n' hm=>?_⟩
   have hm:E1.mu (.O id)=some (.blk b' o' s' n'):=hm
   rw [hmu1] at hm
   cases hm
   have hnew:=co (ob:=.cells (bZ us (o + i) [u] 0) ty (0,0)) hblt
   refine ⟨⟨_,ty,hnew,by rw [cm]; exact hul⟩,fun j c hj=>?_⟩
   obtain ⟨u',hu',h7⟩:=hall j c hj
   have hu':us[o + j]?=some u':=by unfold iP at hu'; rw [hb] at hu'; exact hu'
   have hval:∀ z,(bZ us (o + i) [u] 0)[o + j]?=some z→iP (aU w b (.cells (bZ us (o + i) [u] 0) ty (0,0))).heap b o j=some z:=fun z hz=>by
    unfold iP
    rw [hnew]
    exact hz
   have hjl:j<cells.length:=(List.getElem?_eq_some_iff.1 hj).1
   have h7:(if i=j then E1.mu (.S id j)=none∧VR E1.ob .bad u' else ck E1 sz c (E1.mu (.S id j)) u'):=h7
   by_cases hij:i=j
   ·subst hij
    rw [if_pos rfl] at h7
    refine ⟨u,hval _ ?_,?_⟩
    ·rw [jm,if_pos ⟨by omega,by simp,by omega⟩]
     simp
    ·show (if i=i then E1.mu (.S id i)=none∧VR _ v u else ck _ sz c (E1.mu (.S id i)) u)
     rw [if_pos rfl]
     exact ⟨h7.1,kZ 4 hn ((hv.mono hle1).mono hle2)⟩
   ·rw [if_neg hij] at h7
    refine ⟨u',hval _ ?_,?_⟩
    ·rw [jm,if_neg (fun h=>by have h1:=h.1; have h2:=h.2.1; simp at h2; omega)]
     exact hu'
    ·show (if i=j then E1.mu (.S id j)=none∧VR _ v u' else ck _ sz c (E1.mu (.S id j)) u')
     rw [if_neg hij]
     refine ck.mono h7 hle2.fz (fun b' o' s' n' hmj=>?_)
     show (aU w b _).heap[b']?=E1.h[b']?
     rw [hS1.hp]
     have hne:b≠b':=fun e=>by
      subst e
      have:=hS1.inj _ _ _ _ _ _ _ _ _ hmj hmu1
      cases this
     simp only [aU,Array.getElem?_setIfInBounds]
     rw [if_neg hne])
 exact ⟨us,ty,_,hbw,by omega,hS2,hle1.trans hle2⟩
theorem qE {v:AV} (h:sF v=true):u4 4 v=true:=by
 cases v <;> first | rfl | cases h
theorem zM {v:AV} {u:Value} (h:sF v=true) (hv:VR E v u):∃ A q c,u=.slice A q c:=by
 cases v <;> first | (cases h; done) | skip
 ·cases hv; exact ⟨_,_,_,rfl⟩
 ·cases hv <;> exact ⟨_,_,_,rfl⟩
theorem uG (hM:al G p E M w) {t:TypeId} {id i:Nat} {v:AV} {u:Value} {K:St→Prop} {b o s n:Nat} (hmu:E.mu (.O id)=some (.blk b o s n)) (hv:VR E v u) (h:gv P t M id i v K) :
  ∃ M' E' w',K M'∧al G p E' M' w'∧LE E E'∧(Instr.storeAt t (.pointer (some ⟨b,o + i,none⟩)) u).run P w=.ok () w':=by
 unfold gv at h
 split at h
 ·rename_i inf sz cells hole hi hob
  obtain ⟨hb,h⟩:=ac h
  simp only [Bool.and_eq_true,Nat.blt_eq] at hb
  obtain ⟨⟨⟨hsl,hil⟩,hsz⟩,hh⟩:=hb
  have hsz:=Nat.eq_of_beq_eq_true hsz
  rw [az] at h
  obtain ⟨us,ty,E',hbw,hlt,hS,hle⟩:=zL hM hob hh hil hmu hv (qE hsl)
  obtain ⟨A,q,c,rfl⟩:=zM hsl hv
  refine ⟨_,E',_,h,hS,hle,?_⟩
  exact oe (P:=P) (t:=t) (b:=b) (off:=o + i) hi hbw (by rw [hsz]; rfl) (fun v hv=>by
   have:v=.slice A q c:=by simpa [Value.cells] using hv
   subst this
   rfl) (by show o + i + 1≤us.size; omega)
 ·exact h.elim
theorem rt (hM:al G p E M w) {id i sz:Nat} {ks ks':List AV} {cells cells':List (Option (List (List AV)))} {hole:Option (Nat×AV)} (hob:M.o[id]?=some (.own (some ks) sz cells hole)) (hh:cM hole i=true)
  {b o s n clock clock':Nat} {ms ms':Array MapEntry} (hmu:E.mu (.O id)=some (.blk b o s n)) (hb:w.heap[b]?=some (.map ms clock)) {v:AV} {u:Value} (hv:VR E v u) (hn:u4 4 v=true)
  (hl:cells'.length=ms'.size∧cells'.length=ks'.length∧uD ms' clock') (hk:∀ (i:Nat) (k:AV) (m:MapEntry),ks'[i]?=some k→ms'[i]?=some m→tL k=some m.key)
  (hlen:cells.length≤cells'.length) (_:∀ j,cells.length≤j→j<cells'.length→j=i) (hsame:∀ j,j≠i→cells'[j]?=cells[j]?) (hval:∀ j,j≠i→j<cells'.length→(ms'[j]?).map (·.val)=(ms[j]?).map (·.val)) (hat:∃ m,ms'[i]?=some m∧m.val=u) :
  ∃ E',al G p E' { t:=M.t,l:=M.l,o:=M.o.set id (.own (some ks') sz cells' (some (i,v))),b:=M.b } (aU w b (.map ms' clock'))∧LE E E':=by
 obtain ⟨E1,hle1,hh1,hmu1,hS1⟩:=vS hM hob hh
 have hlt:id<M.o.length:=(List.getElem?_eq_some_iff.1 hob).1
 have hmu1:E1.mu (.O id)=some (.blk b o s n):=hmu1.trans hmu
 have hget1:(M.o.set id (.own (some ks) sz cells (some (i,.bad))))[id]?=some (.own (some ks) sz cells (some (i,.bad))):=List.getElem?_set_self hlt
 have hw:=hS1.ow id
 rw [hget1] at hw
 obtain ⟨hz,hbey,hcells⟩:=hw
 obtain ⟨_,hall⟩:=hcells b o s n hmu1
 have hb1:E1.h[b]?=some (.map ms clock):=by rw [hS1.hp]; exact hb
 have hblt:b<w.heap.size:=(Array.getElem?_eq_some_iff.1 hb).1
 have hnb:=co (ob:=.map ms' clock') hblt
 have hss:bf (aU w b (.map ms' clock')).heap b=bf w.heap b:=by
  unfold bf
  rw [hnb,hb]
 have hle2:=hS1.setblk_le hmu1 hss
 have hSi:E1.mu (.S id i)=none:=by
  by_cases hi:i<cells.length
  ·obtain ⟨u',_,h7⟩:=hall i _ (List.getElem?_eq_getElem hi)
   have h7:(if i=i then E1.mu (.S id i)=none∧VR E1.ob .bad u' else ck E1 sz cells[i] (E1.mu (.S id i)) u'):=h7
   rw [if_pos rfl] at h7
   exact h7.1
  ·exact hbey i (by omega)
 have hOb:=hS1.obj id
 rw [hget1,hmu1] at hOb
 obtain ⟨_,hS2⟩:=hS1.setblk hmu1 hss (M':={ t:=M.t,l:=M.l,o:=M.o.set id (.own (some ks') sz cells' (some (i,v))),b:=M.b })
  (fun _ _=>rfl) (fun j hj=>by
   show (M.o.set id _)[j]?=(M.o.set id _)[j]?
   rw [List.getElem?_set,List.getElem?_set,if_neg (fun e=>hj (by rw [e])),if_neg (fun e=>hj (by rw [e]))]) rfl (by simp) (fun d e=>by cases e)
  (fun j e=>by
   cases e
   show gx _ (M.o.set id _)[id]? _
   rw [List.getElem?_set_self hlt,hmu1]
   exact fun e=>by cases e)
  (fun j e=>by
   rcases e with e | ⟨i',e⟩ <;> cases e
   show eB _ id (M.o.set id _)[id]?
   rw [List.getElem?_set_self hlt]
   refine ⟨hz,fun j hj=>hbey j (by omega),fun b' o' s' n' hm=>?_⟩
   have hm:E1.mu (.O id)=some (.blk b' o' s' n'):=hm
   rw [hmu1] at hm
   cases hm
   refine ⟨⟨ms',clock',hnb,hl,hk⟩,fun j c hj=>?_⟩
   have hjl:j<cells'.length:=(List.getElem?_eq_some_iff.1 hj).1
   have hva:∀ z,(ms'[j]?).map (·.val)=some z→iP (aU w b (.map ms' clock')).heap b o j=some z:=fun z hz=>by
    unfold iP
    rw [hnb]
    exact hz
   by_cases hij:i=j
   ·subst hij
    obtain ⟨m,hm1,hm2⟩:=hat
    refine ⟨u,hva _ (by rw [hm1,← hm2]; rfl),?_⟩
    show (if i=i then E1.mu (.S id i)=none∧VR _ v u else ck _ sz c (E1.mu (.S id i)) u)
    rw [if_pos rfl]
    exact ⟨hSi,kZ 4 hn ((hv.mono hle1).mono hle2)⟩
   ·rw [hsame j (fun e=>hij e.symm)] at hj
    obtain ⟨u',hu',h7⟩:=hall j c hj
    have h7:(if i=j then E1.mu (.S id j)=none∧VR E1.ob .bad u' else ck E1 sz c (E1.mu (.S id j)) u'):=h7
    rw [if_neg hij] at h7
    refine ⟨u',hva _ ?_,?_⟩
    ·rw [hval j (fun e=>hij e.symm) hjl]
     unfold iP at hu'
     rw [hb1] at hu'
     exact hu'
    ·show (if i=j then E1.mu (.S id j)=none∧VR _ v u' else ck _ sz c (E1.mu (.S id j)) u')
     rw [if_neg hij]
     refine ck.mono h7 hle2.fz (fun b' o' s' n' hmj=>?_)
     show (aU w b _).heap[b']?=E1.h[b']?
     rw [hS1.hp]
     have hne:b≠b':=fun e=>by
      subst e
      have:=hS1.inj _ _ _ _ _ _ _ _ _ hmj hmu1
      cases this
     simp only [aU,Array.getElem?_setIfInBounds]
     rw [if_neg hne])
 exact ⟨_,hS2,hle1.trans hle2⟩
theorem Cx {e:TypeId} {ok:Bool} {k:AV→Prop} (hh:iK P e ok k):∃ r zz z,k r∧VR E r zz∧(zeroValue e).run P w=.ok z w∧zz=(if ok then .tuple #[z,.bool false] else z):=by
 unfold iK at hh
 split at hh
 ·rename_i i hi
  split at hh
  ·rename_i z hz
   rw [ci] at hh
   unfold nY at hh
   cases ok with
   | true=>exact ⟨_,_,z,hh,.tup #[z,.bool false] rfl (fun m c u h1 h2=>by
     match m,h1,h2 with
     | 0,h1,h2=>simp at h1 h2; subst h1 h2; exact zw E z
     | 1,h1,h2=>simp at h1 h2; subst h1 h2; exact .v _ _ rfl),de hi hz w,rfl⟩
   | false=>exact ⟨_,_,z,hh,zw E z,de hi hz w,rfl⟩
  ·exact False.elim hh
 ·exact False.elim hh
theorem vV (hM:al G p E M w) {t:TypeId} {m key:AV} {um uk:Value} {ok:Bool} {k:AV→St→Prop} (hm:VR E m um) (hkey:VR E key uk) (h:iN P t m key ok M k) :
  ∃ M' E' r z,k r M'∧al G p E' M' w∧LE E E'∧VR E' r z∧(Instr.lookup t um uk ok).run P w=.ok z w:=by
 unfold iN at h
 split at h
 ·rename_i kt e hu
  split at h
  ·rename_i id
   split at h
   ·rename_i ks sz cells hob
    cases hm with
    | mp hmu =>
     rename_i b o s n
     have hw:=hM.ow id
     rw [hob] at hw
     obtain ⟨⟨ms,clock,hb,⟨hl1,hl2,_⟩,hk⟩,_⟩:=hw.2.2 b o s n hmu
     rw [hM.hp] at hb
     obtain ⟨r,hr,_,hc,hf,hv⟩:=jW (ms:=ms) h hkey (by rw [pA]; omega) (fun i e m h4 h5=>hk i e.1 m (pB h4).1 h5) w
     have hc':=hc ms.isEmpty rfl
     cases r with
     | none =>
      obtain ⟨r,zz,z,h4,h5,h6,h7⟩:=Cx (E:=E) (w:=w) hr
      refine ⟨M,E,r,zz,h4,hM,.refl _,h5,?_⟩
      unfold Instr.lookup
      simp only [Sem.run_bind,run_underlying hu,Result.andThen_ok,Sem.run_pure,fp hb,hc',hf,h6,h7]
     | some jv =>
      obtain ⟨j,vv⟩:=jv
      simp only [Option.map_some] at hr
      obtain ⟨M',E',v,u,hr,hM',hle,hvu,hva⟩:=ou hM hmu hr
      have hj:=hv j vv rfl
      unfold iP at hva
      rw [hb] at hva
      have hva:(ms[j]?).map (·.val)=some u:=hva
      rw [hj] at hva
      have hva:=Option.some.inj hva
      subst hva
      unfold nY at hr
      cases ok with
      | true =>
       refine ⟨M',E',_,.tuple #[vv,.bool true],hr,hM',hle,.tup #[vv,.bool true] rfl (fun m c z h1 h2=>by
        match m,h1,h2 with
        | 0,h1,h2=>simp at h1 h2; subst h1 h2; exact hvu
        | 1,h1,h2=>simp at h1 h2; subst h1 h2; exact .v _ _ rfl),?_⟩
       unfold Instr.lookup
       simp only [Sem.run_bind,run_underlying hu,Result.andThen_ok,Sem.run_pure,fp hb,hc',hf]
       rfl
      | false =>
       refine ⟨M',E',_,vv,hr,hM',hle,hvu,?_⟩
       unfold Instr.lookup
       simp only [Sem.run_bind,run_underlying hu,Result.andThen_ok,Sem.run_pure,fp hb,hc',hf]
       rfl
   ·exact h.elim
  ·exact h.elim
 ·exact h.elim
theorem p5 (hM:al G p E M w) {t:TypeId} {m key x:AV} {um uk ux:Value} {K:St→Prop} (hm:VR E m um) (hkey:VR E key uk) (hx:VR E x ux) (h:jK P t m key x M K) :
  ∃ M' E' w',K M'∧al G p E' M' w'∧LE E E'∧(Instr.mapUpdate t um uk ux).run P w=.ok () w':=by
 unfold jK at h
 split at h
 ·rename_i kt e hu
  split at h
  ·rename_i id
   split at h
   ·rename_i ks sz cells hole hob
    obtain ⟨hsl,h⟩:=ac h
    cases hm with
    | mp hmu =>
     rename_i b o s n
     have hw:=hM.ow id
     rw [hob] at hw
     obtain ⟨⟨ms,clock,hb,⟨hl1,hl2,hbn⟩,hk⟩,_⟩:=hw.2.2 b o s n hmu
     rw [hM.hp] at hb
     obtain ⟨r,hr,htk,_,hfind,hval⟩:=jW (ms:=ms) h hkey (by rw [pA]; omega) (fun i e m h4 h5=>hk i e.1 m (pB h4).1 h5) w
     obtain ⟨hck,hr⟩:=ac hr
     have hck':(Instr.checkKey false 10000 kt uk).run P w=.ok () w:=by
      unfold qp at hck
      split at hck
      ·rename_i c hc
       exact fk _ w hc
      ·cases hck
     cases r with
     | none =>
      simp only [Option.map_none] at hr
      split at hr
      ·rw [az] at hr
       obtain ⟨E',hS,hle⟩:=rt hM (i:=cells.length) hob rfl hmu hb (ms':=ms.push { key:=uk,val:=ux,born:=clock }) (clock':=clock + 1) (ks':=ks++[key]) (cells':=cells++[none]) hx (qE hsl)
        ⟨by simp [hl1],by simp [hl2],hbn.push _ _⟩ (fun i k m h1 h2=>by
         rcases Nat.lt_trichotomy i ks.length with hi | hi | hi
         ·rw [List.getElem?_append_left hi] at h1
          rw [Array.getElem?_push,if_neg (by omega)] at h2
          exact hk i k m h1 h2
         ·subst hi
          rw [List.getElem?_append_right (Nat.le_refl _),Nat.sub_self] at h1
          rw [Array.getElem?_push,if_pos (by omega)] at h2
          cases h1
          cases h2
          exact htk
         ·rw [List.getElem?_eq_none (by simp; omega)] at h1
          cases h1) (by simp) (fun j h1 h2=>by simp at h2; omega) (fun j hj=>by
         rcases Nat.lt_or_ge j cells.length with h1 | h1
         ·rw [List.getElem?_append_left h1]
         ·rw [List.getElem?_eq_none (by simp; omega),List.getElem?_eq_none h1]) (fun j hj h1=>by
         rw [Array.getElem?_push,if_neg (by omega)]) ⟨_,by rw [Array.getElem?_push,if_pos hl1],rfl⟩
       refine ⟨_,E',_,hr,hS,hle,?_⟩
       unfold Instr.mapUpdate
       simp only [Sem.run_bind,run_underlying hu,Result.andThen_ok,fp hb,hck',hfind,m_ hb]
      ·exact hr.elim
     | some r =>
      obtain ⟨i,v⟩:=r
      simp only [Option.map_some] at hr
      obtain ⟨hsb,hr⟩:=ac hr
      rw [Bool.and_eq_true] at hsb
      rw [az] at hr
      have hv0:=hval i v rfl
      rw [Option.map_eq_some_iff] at hv0
      obtain ⟨m0,hm0,_⟩:=hv0
      have hims:i<ms.size:=(Array.getElem?_eq_some_iff.1 hm0).1
      have hie:ks[i]?=some ks[i]:=List.getElem?_eq_getElem (by omega)
      have hkey0:=hk i _ m0 hie hm0
      have hsb1:=hsb.1
      rw [hie] at hsb1
      simp only [Option.bind_some,hkey0,Option.getD_some] at hsb1
      obtain ⟨E',hS,hle⟩:=rt hM (i:=i) hob hsb.2 hmu hb (ms':=ms.modify i fun e=>{ e with key:=uk,val:=ux }) (clock':=clock) (ks':=ks.set i key) (cells':=cells) hx (qE hsl)
       ⟨by simp [hl1],by simp [hl2],hbn.modify _ _ _⟩ (fun j k m h1 h2=>by
        rw [List.getElem?_set] at h1
        rw [Array.getElem?_modify] at h2
        by_cases hj:i=j
        ·subst hj
         rw [if_pos rfl,if_pos (by omega)] at h1
         rw [if_pos rfl,hm0] at h2
         cases h1
         cases h2
         exact htk
        ·rw [if_neg hj] at h1 h2
         exact hk j k m h1 h2) (Nat.le_refl _) (fun j h1 h2=>by omega) (fun _ _=>rfl) (fun j hj _=>by
        rw [Array.getElem?_modify,if_neg (fun e=>hj e.symm)]) ⟨{ m0 with key:=uk,val:=ux },by rw [Array.getElem?_modify,if_pos rfl,hm0]; rfl,rfl⟩
      refine ⟨_,E',_,hr,hS,hle,?_⟩
      have hstay:(Instr.keyThatStays (((ms[i]?).map (·.key)).getD uk) uk).run P w=.ok uk w:=by
       rw [hm0]
       unfold Instr.keyThatStays
       simp only [Option.map_some,Option.getD_some]
       rw [if_pos hsb1]
       rfl
      unfold Instr.mapUpdate
      simp only [Sem.run_bind,run_underlying hu,Result.andThen_ok,fp hb,hck',hfind,hstay,m_ hb]
   ·exact h.elim
  ·exact h.elim
 ·exact h.elim
theorem Bf {x:AV}:∀ n:Nat,(List.replicate n [x]).flatten=List.replicate n x
 | 0=>rfl
 | n + 1=>by
  show [x]++(List.replicate n [x]).flatten=_
  rw [Bf n]
  rfl
theorem Bg (hM:al G p E S w) {id n sz:Nat} (hsz:0<sz) (hob:S.o[id]?=some (.arr true 1 (List.replicate n [.nilsl]))) :
  al G p E { t:=S.t,l:=S.l,o:=S.o.set id (.own none sz (List.replicate n none) none),b:=S.b } w:=by
 have hw:=hM.ow id
 rw [hob] at hw
 have hw:∀ i,E.mu (.S id i)=none:=hw
 have hOb:=hM.obj id
 rw [hob] at hOb
 have h:=hM.reS (id:=id) (mu':=E.mu) (fun _ _=>rfl) (fun j b o s n h=>by rw [hw j] at h; cases h) (fun j j' b o s n o2 s2 n2 h h'=>by rw [hw j] at h; cases h) hob (fun e=>by cases e)
  (y:=.own none sz (List.replicate n none) none) (by
   revert hOb
   cases E.mu (.O id) with
   | none=>exact fun h=>h.elim
   | some mv =>
    cases mv with
    | virt =>
     intro h
     have h:List.replicate n [AV.nilsl]=[]:=h
     have h0:n=0:=by simpa using congrArg List.length h
     subst h0
     exact ⟨rfl,rfl⟩
    | blk b o s m =>
     rintro ⟨⟨h1,h2⟩,_⟩
     exact fun _=>⟨h1,by simpa using h2⟩) ⟨hsz,fun i _=>hw i,fun b o s m hm=>by
   rw [hm] at hOb
   obtain ⟨⟨h1,h2⟩,_,_,us,ty,h3,h4,h5⟩:=hOb
   subst h1
   refine ⟨⟨us,ty,h3,by simpa using h4⟩,fun i c hi=>?_⟩
   rw [List.getElem?_replicate] at hi
   split at hi
   ·rename_i hin
    cases hi
    obtain ⟨u,hu,hv⟩:=h5 i .nilsl (by
     rw [Bf,List.getElem?_replicate,if_pos hin])
    refine ⟨u,by unfold iP; rw [h3]; exact hu,?_⟩
    show ck E sz none (E.mu (.S id i)) u
    rw [hw i]
    cases hv
    rfl
   ·cases hi⟩
 exact h.2
theorem dl.then {o:Oper} {K K1:St→Prop} (h:dl P G p o a w K1) (hk:∀ S' E' a' w',K1 S'→al G p E' S' w'→TR E' S'.t a'→∃ S2 E2,K S2∧al G p E2 S2 w'∧TR E2 S2.t a'):dl P G p o a w K:=by
 intro next Q hn
 refine h next Q (fun S' E' a' w' h1 h2 h3=>?_)
 obtain ⟨S2,E2,h4,h5,h6⟩:=hk S' E' a' w' h1 h2 h3
 exact hn S2 E2 a' w' h4 h5 h6
theorem jo {x:AV} {k k':Int→Prop} (h:intOf x k) (hk:∀ n,k n→k' n):intOf x k':=by
 unfold intOf at h ⊢
 split at h
 ·exact hk _ h
 ·exact h.elim
theorem na {e:TypeId} {k k':List AV→Prop} (h:cE P e k) (hk:∀ z,k z→k' z):cE P e k':=by
 unfold cE at h ⊢
 split at h
 ·split at h
  ·obtain ⟨hb,h⟩:=ac h
   refine ar hb ?_
   rw [ig] at h ⊢
   exact hk _ h
  ·exact h.elim
 ·exact h.elim
theorem yz {x:Operand} {k k':AV→Prop} (h:cz S x k) (hk:∀ v,k v→k' v):cz S x k':=by
 unfold cz at h ⊢
 split at h
 ·obtain ⟨v,h1,h2⟩:=bW.1 h
  exact bW.2 ⟨v,h1,hk v h2⟩
 ·exact ci.2 (hk _ (ci.1 h))
 ·exact hk _ h
 ·split at h
  ·exact hk _ h
  ·exact h.elim
theorem zN {t:TypeId} {l c:AV} {k:AV→St→Prop} (h:gN P t l c S k):bo P t l c S fun S' r=>∃ n sz,0<sz∧S'={ t:=S.t,l:=S.l,o:=S.o++[.arr true 1 (List.replicate n [.nilsl])],b:=S.b }∧r=.mf S.o.length ∧
  k (.mf S.o.length) { t:=S.t,l:=S.l,o:=S.o++[.own none sz (List.replicate n none) none],b:=S.b }:=by
 unfold gN at h
 unfold bo
 split at h
 ·rename_i e hu
  try rw [hu]
  try dsimp only
  split at h
  ·rename_i i e2 hi he
   try rw [hi]
   try dsimp only
   split at h
   ·rename_i i2 hi2
    refine jo h (fun nl h=>?_)
    refine jo h (fun nc h=>?_)
    obtain ⟨hb,h⟩:=ac h
    rw [Bool.and_eq_true,Bool.and_eq_true] at hb
    refine ar hb.1.1 ?_
    have h1:=Nat.eq_of_beq_eq_true hb.1.2
    have h2:0<i2.size:=by have:=hb.2; rwa [Nat.blt_eq] at this
    refine na h (fun z h=>?_)
    split at h
    ·rw [az] at h
     refine ar rfl ?_
     rw [az]
     exact ⟨nl.toNat,i2.size,h2,by rw [h1],rfl,h⟩
    ·exact h.elim
   ·exact h.elim
  ·exact h.elim
 ·exact h.elim
theorem xJ {o:Oper} {t:TypeId} {X Y:Operand} {K:St→Prop} (hM:al G p E S w) (ht:TR E S.t a) (ho:o.op=.makeSlice t X Y) (h:cz S X fun l=>cz S Y fun c=>gN P t l c (cJ S) fun r M=>bC o.dst r (fB S M) K):dl P G p o a w K:=by
 have h1:cz S X fun l=>cz S Y fun c=>bo P t l c S fun S' r=>bC o.dst r S' fun S2=>∃ n sz,0<sz∧S2=kW { t:=S.t,l:=S.l,o:=S.o++[.arr true 1 (List.replicate n [.nilsl])],b:=S.b } o.dst (.mf S.o.length) ∧
   K (kW { t:=S.t,l:=S.l,o:=S.o++[.own none sz (List.replicate n none) none],b:=S.b } o.dst (.mf S.o.length)):=by
  refine yz h (fun l h=>?_)
  refine yz h (fun c h=>?_)
  unfold bo
  have h2:=zN h
  unfold bo at h2
  split at h2
  ·split at h2
   ·refine jo h2 (fun nl h2=>?_)
    refine jo h2 (fun nc h2=>?_)
    obtain ⟨hb,h2⟩:=ac h2
    refine ar hb ?_
    refine na h2 (fun z h2=>?_)
    obtain ⟨hb,h2⟩:=ac h2
    refine ar hb ?_
    rw [az] at h2 ⊢
    show bC o.dst (.mf S.o.length) _ _
    rw [aJ]
    obtain ⟨n,sz,h3,h4,h5,h6⟩:=h2
    rw [aJ] at h6
    exact ⟨n,sz,h3,congrArg (fun oo=>kW { t:=S.t,l:=S.l,o:=oo,b:=S.b } o.dst (.mf S.o.length)) (congrArg St.o h4),h6⟩
   ·exact h2.elim
  ·exact h2.elim
 refine (j_ hM ht ho h1).then (fun S' E' a' w' hk hS htr=>?_)
 obtain ⟨n,sz,hsz,rfl,hK⟩:=hk
 have hS':=hS.congr (M':={ t:=S.t,l:=S.l,o:=S.o++[.arr true 1 (List.replicate n [.nilsl])],b:=S.b }) cO.symm cP.symm cT.symm
 have hS2:=Bg hS' (id:=S.o.length) (n:=n) hsz (by
  show (S.o++[_])[S.o.length]?=_
  rw [List.getElem?_append_right (Nat.le_refl _),Nat.sub_self]
  rfl)
 have e:(S.o++[Ob.arr true 1 (List.replicate n [.nilsl])]).set S.o.length (Ob.own none sz (List.replicate n none) none)=S.o++[Ob.own none sz (List.replicate n none) none]:=by
  rw [List.set_append_right _ _ (Nat.le_refl _),Nat.sub_self]
  rfl
 refine ⟨_,E',hK,hS2.congr ?_ ?_ ?_,?_⟩
 ·exact cO
 ·rw [cP]; exact e.symm
 ·exact cT
 ·have:(kW { t:=S.t,l:=S.l,o:=S.o++[.own none sz (List.replicate n none) none],b:=S.b } o.dst (.mf S.o.length)).t=(kW { t:=S.t,l:=S.l,o:=S.o++[.arr true 1 (List.replicate n [.nilsl])],b:=S.b } o.dst (.mf S.o.length)).t:=by cases o.dst <;> rfl
  rw [this]
  exact htr
theorem sQ {o:Oper} {t:TypeId} {K:St→Prop} (hM:al G p E S w) (ht:TR E S.t a) (ho:o.op=.makeMap t none) (h:fW P t (cJ S) fun r M=>bC o.dst r (fB S M) K):dl P G p o a w K:=by
 unfold fW at h
 split at h
 ·split at h
  ·split at h
   ·rename_i i2 _
    obtain ⟨hsz,h⟩:=ac h
    rw [Nat.blt_eq] at hsz
    rw [az,aJ] at h
    have h1:ba (S.o++[.mapo true []]) fun o'=>bC o.dst (.mp S.o.length) { t:=S.t,l:=S.l,o:=o',b:=S.b } fun S2=>S2=kW { t:=S.t,l:=S.l,o:=S.o++[.mapo true []],b:=S.b } o.dst (.mp S.o.length):=by
     rw [az,aJ]
    refine (pY hM ht ho h1).then (fun S' E' a' w' hk hS htr=>?_)
    subst hk
    have hS':=hS.congr (M':={ t:=S.t,l:=S.l,o:=S.o++[.mapo true []],b:=S.b }) cO.symm cP.symm cT.symm
    have hob:(S.o++[Ob.mapo true []])[S.o.length]?=some (.mapo true []):=by
     rw [List.getElem?_append_right (Nat.le_refl _),Nat.sub_self]
     rfl
    have hw:=hS'.ow S.o.length
    rw [show ({ t:=S.t,l:=S.l,o:=S.o++[.mapo true []],b:=S.b }:St).o[S.o.length]?=_ from hob] at hw
    have hw:∀ i,E'.mu (.S S.o.length i)=none:=hw
    have hOb:=hS'.obj S.o.length
    rw [show ({ t:=S.t,l:=S.l,o:=S.o++[.mapo true []],b:=S.b }:St).o[S.o.length]?=_ from hob] at hOb
    obtain ⟨_,hS2⟩:=hS'.reS (id:=S.o.length) (mu':=E'.mu) (fun _ _=>rfl) (fun j b o s n h=>by rw [hw j] at h; cases h) (fun j j' b o s n o2 s2 n2 h h'=>by rw [hw j] at h; cases h) hob (fun e=>by cases e)
     (y:=.own (some []) i2.size [] none) (by
      revert hOb
      cases E'.mu (.O S.o.length) with
      | none=>exact fun h=>h.elim
      | some mv =>
       cases mv with
       | virt=>exact fun h=>h.elim
       | blk b o s n=>exact fun _ e=>by cases e) ⟨hsz,fun i _=>hw i,fun b o s n hm=>by
      rw [hm] at hOb
      obtain ⟨ms,clock,h1,⟨h2,h3⟩,_⟩:=hOb
      exact ⟨⟨ms,clock,h1,⟨h2,rfl,h3⟩,fun i k m hk=>by simp at hk⟩,fun i c hi=>by simp at hi⟩⟩
    have e:(S.o++[Ob.mapo true []]).set S.o.length (Ob.own (some []) i2.size [] none)=S.o++[Ob.own (some []) i2.size [] none]:=by
     rw [List.set_append_right _ _ (Nat.le_refl _),Nat.sub_self]
     rfl
    refine ⟨_,E',h,hS2.congr ?_ ?_ ?_,?_⟩
    ·exact cO
    ·rw [cP]; exact e.symm
    ·exact cT
    ·have:(kW (fB S { t:=(cJ S).t,l:=(cJ S).l,o:=(cJ S).o++[Ob.own (some []) i2.size [] none],b:=(cJ S).b }) o.dst (.mp (cJ S).o.length)).t=(kW { t:=S.t,l:=S.l,o:=S.o++[.mapo true []],b:=S.b } o.dst (.mp S.o.length)).t:=by cases o.dst <;> rfl
     rw [this]
     exact htr
   ·exact h.elim
  ·exact h.elim
 ·exact h.elim
theorem vW {C:Ctx} {pl:br} {o:Oper} {K:St→Prop} (hM:al G p E S w) (ht:TR E S.t a) (h:zq C pl o S K):dl C.P G p o a w K:=by
 have fin:∀ {M':St} {E':Env} {w':World} {r:AV} {z:Value},bC o.dst r (fB S M') K→al G p E' M' w'→LE E E'→VR E' r z→(execOp a.eval o).run C.P w=.ok (.value z) w'→∀ (next:Act→World→Prop) (Q:Exit→Act→World→Prop),(∀ S' E' a' w',K S'→al G p E' S' w'→TR E' S'.t a'→next a' w')→o.wp C.P a w next Q:=by
  intro M' E' w' r z hk hS hle hv hrun next Q hn
  rw [aJ] at hk
  refine ed hrun ?_
  exact hn _ E' _ w' hk (hS.congr (by rw [cO]; rfl) (by rw [cP]; rfl) (by rw [cT]; rfl)) ((TR.mono (t:=S.t) ht hle).put (S:=fB S M') hv)
 have fin2:∀ {M':St} {E':Env} {w':World},bC o.dst .bad (fB S M') K→al G p E' M' w'→LE E E'→(execOp a.eval o).run C.P w=.ok .skip w'→∀ (next:Act→World→Prop) (Q:Exit→Act→World→Prop),(∀ S' E' a' w',K S'→al G p E' S' w'→TR E' S'.t a'→next a' w')→o.wp C.P a w next Q:=by
  intro M' E' w' hk hS hle hrun next Q hn
  rw [aJ] at hk
  unfold Oper.wp
  rw [hrun]
  exact hn _ E' (a.put o.dst undef) w' hk (hS.congr (by rw [cO]; rfl) (by rw [cP]; rfl) (by rw [cT]; rfl)) ((TR.mono (t:=S.t) ht hle).put (S:=fB S M') (.bad _ _))
 have hM0:al G p E (cJ S) w:=hM.congr rfl rfl rfl
 by_cases hmk:∃ t X Y,o.op=.makeSlice t X Y
 ·obtain ⟨t,X,Y,ho⟩:=hmk
  refine xJ hM ht ho ?_
  unfold zq at h
  unfold lz at h
  rw [ho] at h
  exact h
 by_cases hmm:∃ t,o.op=.makeMap t none
 ·obtain ⟨t,ho⟩:=hmm
  refine sQ hM ht ho ?_
  unfold zq at h
  unfold lz at h
  rw [ho] at h
  exact h
 unfold zq at h
 obtain ⟨vs,h,hv⟩:=cS ht h
 unfold lz at h
 intro next Q hn
 split at h
 ·rename_i t x pv ho
  rw [ho] at hv
  have hv:bT E [pv] [a.eval x]:=by simpa [Op.operands] using hv
  obtain ⟨u,us,e,hp,hnl⟩:=hv.uncons
  cases e
  obtain ⟨id,i,b,off,n,sz,cells,hole,h,hob,hmu,hu⟩:=rq hM0 hp h
  obtain ⟨M',E',r,z,hk,hS,hle,hr,hrun⟩:=vR hM0 hob hmu h
  exact fin hk hS hle hr (by simp [execOp,ho,hu,hrun]) next Q hn
 ·rename_i t x y pv v ho
  rw [ho] at hv
  have hv:bT E [pv,v] [a.eval x,a.eval y]:=by simpa [Op.operands] using hv
  obtain ⟨u,us,e,hp,hv⟩:=hv.uncons
  cases e
  obtain ⟨u,us,e,hy,hv⟩:=hv.uncons
  cases e
  obtain ⟨id,i,b,off,n,sz,cells,hole,h,hob,hmu,hu⟩:=rq hM0 hp h
  obtain ⟨M',E',w',hk,hS,hle,hrun⟩:=uG hM0 hmu hy h
  exact fin2 hk hS hle (by simp [execOp,ho,hu,hrun]) next Q hn
 ·rename_i t X Y l c ho
  exact absurd ⟨t,X,Y,ho⟩ hmk
 ·rename_i t ho
  exact absurd ⟨t,ho⟩ hmm
 ·rename_i t X Y ok m key ho
  rw [ho] at hv
  have hv:bT E [m,key] [a.eval X,a.eval Y]:=by simpa [Op.operands] using hv
  obtain ⟨u,us,e,hm,hv⟩:=hv.uncons
  cases e
  obtain ⟨u,us,e,hkey,hv⟩:=hv.uncons
  cases e
  obtain ⟨M',E',r,z,hk,hS,hle,hr,hrun⟩:=vV hM0 hm hkey h
  exact fin hk hS hle hr (by simp [execOp,ho,hrun]) next Q hn
 ·rename_i t X Y Z m key x ho
  rw [ho] at hv
  have hv:bT E [m,key,x] [a.eval X,a.eval Y,a.eval Z]:=by simpa [Op.operands] using hv
  obtain ⟨u,us,e,hm,hv⟩:=hv.uncons
  cases e
  obtain ⟨u,us,e,hkey,hv⟩:=hv.uncons
  cases e
  obtain ⟨u,us,e,hx,hv⟩:=hv.uncons
  cases e
  obtain ⟨M',E',w',hk,hS,hle,hrun⟩:=p5 hM0 hm hkey hx h
  exact fin2 hk hS hle (by simp [execOp,ho,hrun]) next Q hn
 ·rename_i t X Y Z m key x ho
  rw [ho] at hv
  have hv:bT E [m,key,x] [a.eval X,a.eval Y,a.eval Z]:=by simpa [Op.operands] using hv
  obtain ⟨u,us,e,hm,hv⟩:=hv.uncons
  cases e
  obtain ⟨u,us,e,hkey,hv⟩:=hv.uncons
  cases e
  obtain ⟨u,us,e,hx,hv⟩:=hv.uncons
  cases e
  obtain ⟨M',E',w',hk,hS,hle,hrun⟩:=p5 hM0 hm hkey hx h
  exact fin2 hk hS hle (by simp [execOp,ho,hrun]) next Q hn
 ·exact h.elim
end
structure eu (C:Ctx):Prop where
 pcall:∀ f args K,C.pcall f args K→ax C.P f args K
 scall:∀ f args o K,C.scall f args o K→pZ C.P f args o K
section
variable {G:Gh} {pd:Nat→Option (List AV)} {E:Env} {S:St} {w:World} {C:Ctx} {pl:br} {o:Oper} {a:Act} {K:St→Prop}
theorem yA (hM:al G pd E S w):al G pd E (cJ S) w:=hM.congr rfl rfl rfl
theorem vX (hM:al G pd E S w) (ht:TR E S.t a) (h:Ez C pl o S K):dl C.P G pd o a w K:=by
 obtain ⟨vs,h,hv⟩:=cS ht h
 by_cases hb:∃ t len parts,o.op=.buildSlice t len parts
 ·obtain ⟨t,len,parts,ho⟩:=hb
  unfold pop at h
  rw [ho] at h
  replace h:=ac h; obtain ⟨hp,h⟩:=h
  have hl:parts.toList.length=vs.length:=by simpa using Nat.eq_of_beq_eq_true hp
  have hv':bT E vs ((parts.toList.map (·.2)).map a.eval):=by
   rw [ho] at hv
   simpa [Op.operands] using hv
  refine dl.of1 (S:=S) ⟨rfl,rfl,rfl⟩ ht (xD hM ho hl hv' h) (fun r M' hk=>?_)
  obtain ⟨hk,rfl⟩:=hk
  rw [aJ] at hk
  exact ⟨_,hk,rfl⟩
 ·have hs:∀ t len parts,o.op≠.buildSlice t len parts:=fun t len parts he=>hb ⟨t,len,parts,he⟩
  obtain ⟨r,z,hk,hr,hrun⟩:=EG h hs hv w
  rw [aJ] at hk
  intro next Q hn
  exact ed hrun (hn _ E _ w hk (hM.congr cO cP cT) (ht.put hr))
theorem vY (hC:eu C) (hM:al G pd E S w) (ht:TR E S.t a) (h:EA C o S K):dl C.P G pd o a w K:=by
 obtain ⟨vs,h,hv⟩:=cS ht h
 refine dl.of1 (S:=S) (M:=cJ S) ⟨rfl,rfl,rfl⟩ ht (EL hC.pcall (yA hM) ht.gt h hv) (fun r M' hk=>?_)
 obtain ⟨hk,rfl⟩:=hk
 rw [aJ] at hk
 exact ⟨_,hk,rfl⟩
theorem vZ (hM:al G pd E S w) (ht:TR E S.t a) (h:EB C o S K):dl C.P G pd o a w K:=by
 obtain ⟨vs,h,hv⟩:=cS ht h
 refine dl.of1 (S:=S) (M:=cJ S) ⟨rfl,rfl,rfl⟩ ht (EK (yA hM) h hv) (fun r M' hk=>?_)
 rw [aJ] at hk
 exact ⟨_,hk,by cases o.dst <;> rfl⟩
theorem yB (hC:eu C) (hpd:AO pl o=true→∀ d,o.dst=some d→pd d=none) (hM:al G pd E S w) (ht:TR E S.t a) (h:xw C pl o S K):dl C.P G pd o a w K:=by
 unfold xw at h
 split at h
 ·rename_i e ho
  exact A4 (fun d hd _=>hpd (by unfold AO; rw [ho]) d hd) hM ht ho h
 ·rename_i e x ho
  exact A5 (fun d hd he=>hpd (by unfold AO; rw [ho]; dsimp only; rw [hd]; show (!(fa pl.esc d))=true; rw [he]; rfl) d hd) hM ht ho h
 ·rename_i t len parts ho
  exact sM hM ht ho h
 ·rename_i t r ho
  cases r with
  | none=>exact pY hM ht ho h
  | some r=>exact False.elim h
 ·rename_i t l c ho
  exact j_ hM ht ho h
 ·rename_i t m key x ho
  exact uF hM ht ho h
 ·rename_i t m key x ho
  exact zJ hM ht ho h
 ·rename_i c ho
  split at h
  ·rename_i b hcal
   split at h
   ·obtain ⟨vs,h,hv⟩:=cS ht h
    split at h
    ·rename_i x kd n
     obtain ⟨u,us,e,hc,hn⟩:=hv.uncons
     obtain ⟨u1,us1,rfl,hc1,hn1⟩:=hn.uncons
     have:=hn1.unnil
     subst this
     obtain ⟨rfl,_⟩:=hc1.vI
     exact xF hM ht ho hcal e hc h
    ·rename_i x y _
     obtain ⟨u,us,e,hc,hn⟩:=hv.uncons
     obtain ⟨u1,us1,rfl,hc1,hn1⟩:=hn.uncons
     have:=hn1.unnil
     subst this
     exact zH hM ht ho hcal e hc hc1 h
    ·exact False.elim h
   ·obtain ⟨vs,h,hv⟩:=cS ht h
    split at h
    ·rename_i x y
     obtain ⟨u,us,e,hc,hn⟩:=hv.uncons
     obtain ⟨u1,us1,rfl,hc1,hn1⟩:=hn.uncons
     have:=hn1.unnil
     subst this
     exact Cv hM ht ho hcal e hc hc1 h
    ·exact False.elim h
   ·obtain ⟨vs,h,hv⟩:=cS ht h
    split at h
    ·rename_i x
     obtain ⟨u,us,e,hc,hn⟩:=hv.uncons
     have:=hn.unnil
     subst this
     exact Bd hM ht ho hcal e hc h
    ·exact False.elim h
   ·exact False.elim h
  ·rename_i f hcal
   obtain ⟨fv,h,hf⟩:=ez h ht
   obtain ⟨as,h,has⟩:=cS ht h
   unfold yf at h
   split at h
   ·rename_i fid first cap
    split at h
    ·exact vO hC.pcall hM ht ho hcal hf has h
    ·replace h:=ac h; obtain ⟨hnl,h⟩:=h
     exact tY hM ht ho hcal hf has hnl (hC.scall _ _ _ _ h)
   ·exact False.elim h
  ·exact False.elim h
 ·exact False.elim h
theorem Cy (hC:eu C) (hM:al G pn E S w) (ht:TR E S.t a) (h:zr C pl o S K):dl C.P G pn o a w K:=by
 unfold zr at h
 split at h
 ·exact vX hM ht h
 ·exact vY hC hM ht h
 ·exact vZ hM ht h
 ·exact yB hC (fun _ _ _=>rfl) hM ht h
theorem yC (hC:eu C) (hM:al G pn E S w) (ht:TR E S.t a) (h:FU C pl o S K):dl C.P G pn o a w K:=by
 unfold FU at h
 split at h
 ·exact vW hM ht h
 ·exact Cy hC hM ht h
def rd (r:Option Nat):Fence:={ Fence.wide with round:=r }
theorem v0 {r:Option Nat} {n:Nat} {P:Program} {f:FuncId} {args:Array Value} {w:World} {R:Ending→World→Prop}:CallsIn (rd r) n P f args w R↔Calls P f args w R:=callsIn_wide (n:=n)
theorem F8 {r:Option Nat} {P:Program} {m m':Machine}:StepsIn (Machine.fenced P (rd r)) P m m'↔Steps P m m':=stepsIn_wide
theorem DJ {r:Option Nat} {n:Nat} {P:Program} {o:Oper} {a:Act} {w:World} {next:Act→World→Prop} {Q:Exit→Act→World→Prop} (hd:∀ c,o.op≠.defer c) (h:o.wp P a w next Q):o.wpIn (rd r) n P a w next Q:=by
 refine ⟨fun _ _=>trivial,?_⟩
 rw [Oper.semAt_eq _ _ _ hd]
 unfold Oper.wp at h
 revert h
 generalize (execOp a.eval o).run P w=x
 intro h
 have hn:((rd r).depth.isSome=true→1≤n):=fun h=>by cases h
 cases x with
 | ok x w' =>
  cases x with
  | enter f args=>exact ⟨hn,v0.2 (Calls.mono h (fun e w'' he=>by cases e <;> exact he))⟩
  | row row args=>exact ⟨hn,fun c cs _=>let ⟨v,w',hr,s⟩:=h c cs; ⟨v,w',hr,F8.2 s⟩⟩
  | _=>first | exact h | exact False.elim h
 | halt x w'=>cases x <;> first | exact h | exact False.elim h
theorem F9 {C:Ctx} {pl:br} {o:Oper} {S:St} {K:St→Prop} (h:FU C pl o S K) (c:Call):o.op≠.defer c:=by
 intro ho
 have hc:FT o=3:=by unfold FT; rw [ho]
 have hw:fV pl o=false:=by unfold fV; rw [ho]
 have h0:zr C pl o S K:=by unfold FU at h; rw [hw] at h; exact h
 have h1:xw C pl o S K:=by unfold zr at h0; rw [hc] at h0; exact h0
 unfold xw at h1
 rw [ho] at h1
 exact h1
theorem TR.lit {d:Nat} {b:Bool} (ht:TR E S.t a) (hd:S.t[d]?=some (.v (.bool b))):a.tmps[d]?=some (.bool b):=by
 have hlt:d<a.tmps.size:=by rw [← ht.len]; exact (List.getElem?_eq_some_iff.1 hd).1
 rw [Array.getElem?_eq_getElem hlt]
 have:=ht.val d _ _ hd (Array.getElem?_eq_getElem hlt)
 rw [this.vI.1]
theorem TR.relit {d:Nat} {b:Bool} (ht:TR E S.t a) (hd:S.t[d]?=some (.v (.bool b))):TR E (S.t.set d (.v (.bool b))) a:=by
 have:S.t.set d (.v (.bool b))=S.t:=by
  apply List.ext_getElem?
  intro j
  rw [List.getElem?_set]
  by_cases hj:d=j
  ·subst hj
   rw [if_pos rfl,if_pos (List.getElem?_eq_some_iff.1 hd).1,hd]
  ·rw [if_neg hj]
 rw [this]
 exact ht
theorem Bh {d:Nat} {k:Bool→St→Prop} (hM:al G pd E S w) (ht:TR E S.t a) (h:vp d S k):∃ b S1,k b S1∧a.tmps[d]?=some (.bool b)∧al G pd E S1 w∧TR E S1.t a:=by
 unfold vp at h
 rw [bW] at h
 obtain ⟨c,hc,h⟩:=h
 split at h
 ·rename_i b
  rcases mG h with ⟨hb,h2⟩ | ⟨hb,h2⟩
  ·subst hb
   rw [eb] at h2
   exact ⟨true,_,h2,ht.lit hc,hM.congr rfl rfl rfl,ht.relit hc⟩
  ·subst hb
   rw [eb] at h2
   exact ⟨false,_,h2,ht.lit hc,hM.congr rfl rfl rfl,ht.relit hc⟩
 ·exact False.elim h
theorem nd {d:Nat} {k:Option Bool→St→Prop} (hM:al G pd E S w) (ht:TR E S.t a) (h:iO d S k) :
  ∃ b S1,k b S1∧(match b with | some b=>a.tmps[d]?=some (.bool b) | none=>a.tmps[d]?=some (.tuple #[]))∧al G pd E S1 w∧TR E S1.t a:=by
 unfold iO at h
 rw [bW] at h
 obtain ⟨c,hc,h⟩:=h
 split at h
 ·rename_i b
  rcases mG h with ⟨hb,h2⟩ | ⟨hb,h2⟩
  ·subst hb
   rw [eb] at h2
   exact ⟨some true,_,h2,ht.lit hc,hM.congr rfl rfl rfl,ht.relit hc⟩
  ·subst hb
   rw [eb] at h2
   exact ⟨some false,_,h2,ht.lit hc,hM.congr rfl rfl rfl,ht.relit hc⟩
 ·refine ⟨none,S,h,?_,hM,ht⟩
  have hlt:d<a.tmps.size:=by rw [← ht.len]; exact (List.getElem?_eq_some_iff.1 hc).1
  show a.tmps[d]?=_
  rw [Array.getElem?_eq_getElem hlt]
  obtain ⟨us,hu,hv⟩:=(ht.val d _ _ hc (Array.getElem?_eq_getElem hlt)).tupI
  rw [hu]
  have:=hv.unnil
  have:us=#[]:=by apply Array.ext'; simpa using this
  rw [this]
 ·exact False.elim h
theorem qF {ops:Array Oper} {j d:Nat} {b:Option Bool} (hd:vy ops j=some d) (hb:match b with | some b=>a.tmps[d]?=some (.bool b) | none=>a.tmps[d]?=some (.tuple #[])):yielded ops a.tmps j=b:=by
 unfold yielded
 unfold vy at hd
 rw [hd]
 cases b with
 | some b=>simp [hb]
 | none=>simp [hb]
theorem v1 (E:Env):VR E (.tup []) undef:=.tup #[] rfl (fun m c u h=>by simp at h)
theorem ov {o:Oper} {f:Nat→Option Bool} {j:Nat} {want:Bool} {b:Option Bool} {X Y:Prop} (hg:o.guard=some (j,want)) (hf:f j=b) (h:gsel b want X Y):(Region.wanted o f=true∧X)∨(Region.wanted o f=false∧Y):=by
 unfold Region.wanted
 rw [hg]
 simp only [hf]
 cases b with
 | none=>exact .inr ⟨rfl,h⟩
 | some b =>
  cases b <;> cases want
  ·exact .inl ⟨rfl,h⟩
  ·exact .inr ⟨rfl,h⟩
  ·exact .inr ⟨rfl,h⟩
  ·exact .inl ⟨rfl,h⟩
theorem qG (hC:eu C) {rr:Option Nat} {all:Array Oper} {Q:Exit→Act→World→Prop}:∀ {ops:List Oper} {E:Env} {S:St} {w:World} {a:Act} {K:St→Prop},al G pn E S w→TR E S.t a→sG C pl all ops S K →
  (∀ S' E' a' w',K S'→al G pn E' S' w'→TR E' S'.t a'→Q .normal a' w')→wpListIn (rd rr) 0 C.P all Q ops a w
 | [],E,S,w,a,K,hM,ht,h,hQ=>hQ _ _ _ _ h hM ht
 | o::rest,E,S,w,a,K,hM,ht,h,hQ=>by
  have step:∀ {S1:St},al G pn E S1 w→TR E S1.t a→Region.wanted o (yielded all a.tmps)=true→(FU C pl o S1 fun S'=>sG C pl all rest S' K)→wpListIn (rd rr) 0 C.P all Q (o::rest) a w:=by
   intro S1 hM1 ht1 hw h
   unfold wpListIn
   rw [if_pos hw]
   refine DJ (F9 h) (yC hC hM1 ht1 h _ _ (fun S' E' a' w' hk hS htr=>?_))
   exact qG hC hS htr hk hQ
  unfold sG at h
  split at h
  ·rename_i hg
   exact step hM ht (by unfold Region.wanted; rw [hg]) h
  ·rename_i j want hg
   split at h
   ·exact False.elim h
   ·rename_i d hd
    obtain ⟨b,S1,h,hb,hM1,ht1⟩:=nd hM ht h
    rcases ov hg (qF hd hb) h with ⟨hw,h⟩ | ⟨hw,h⟩
    ·exact step hM1 ht1 hw h
    ·rw [aJ] at h
     unfold wpListIn
     rw [if_neg (by rw [hw]; exact fun h=>by cases h)]
     exact ⟨fun _ _=>trivial,qG hC (hM1.congr cO cP cT) (ht1.put (v1 _)) h hQ⟩
end
def Kn:Ex→Exit
 | .nrm=>.normal
 | .ex i=>.exit i
 | .ret=>.ret
def H7 (G:Gh) (K:Ex→St→Prop) (Q:Exit→Act→World→Prop):Prop:=∀ e S' E' a' w',K e S'→al G pn E' S' w'→TR E' S'.t a'→Q (Kn e) a' w'
def nf (C:Ctx):Prop:=∀ pl c S K,C.loop pl c S K→∀ (r:Option Nat) (G:Gh) (E:Env) (a:Act) (w:World) (Q:Exit→Act→World→Prop),al G pn E S w→TR E S.t a→H7 G K Q→(Code.loop c).wpIn (rd r) 0 C.P Q a w
def mc (C:Ctx):Prop:=∀ pl id ops S K,gO C pl (.region id ops true) S K→∀ (r:Option Nat) (G:Gh) (E:Env) (a:Act) (w:World) (Q:Exit→Act→World→Prop),al G pn E S w→TR E S.t a→H7 G K Q→(Code.region id ops true).wpIn (rd r) 0 C.P Q a w
theorem tZ {G:Gh} {E:Env} {S:St} {w:World} {a:Act} {c:Operand} {k:Bool→St→Prop} (hM:al G pn E S w) (ht:TR E S.t a) (h:qn c S k):∃ b S1,k b S1∧a.eval c=.bool b∧al G pn E S1 w∧TR E S1.t a:=by
 unfold qn at h
 split at h
 ·rename_i d
  obtain ⟨b,S1,h1,h2,h3,h4⟩:=Bh hM ht h
  refine ⟨b,S1,h1,?_,h3,h4⟩
  show a.tmps.getD d undef=_
  rw [Array.getD_eq_getD_getElem?,h2]
  rfl
 ·rename_i b
  rcases mG h with ⟨hb,h2⟩ | ⟨hb,h2⟩
  ·subst hb; exact ⟨true,S,h2,rfl,hM,ht⟩
  ·subst hb; exact ⟨false,S,h2,rfl,hM,ht⟩
 ·exact False.elim h
theorem ox {C:Ctx} (hC:eu C) (hL:nf C) (hD:mc C) {pl:br}:∀ (c:Code) {S:St} {K:Ex→St→Prop},gO C pl c S K→∀ (r:Option Nat) (G:Gh) (E:Env) (a:Act) (w:World) (Q:Exit→Act→World→Prop),al G pn E S w→TR E S.t a→H7 G K Q→c.wpIn (rd r) 0 C.P Q a w:=by
 intro c
 induction c with
 | skip=>exact fun h r G E a w Q hM ht hQ=>wpIn_skip (hQ .nrm _ E _ _ h hM ht)
 | region id ops draw =>
  intro S K h r G E a w Q hM ht hQ
  cases draw with
  | true=>exact hD pl id ops S K h r G E a w Q hM ht hQ
  | false=>exact wpIn_region_list (qG hC hM ht h (fun S' E' a' w' hk hS htr=>by
   obtain ⟨S2,E2,h2,hS2,ht2⟩:=ot hS htr hk
   exact hQ .nrm _ _ _ _ h2 hS2 ht2))
 | seq x y ihx ihy =>
  intro S K h r G E a w Q hM ht hQ
  refine wpIn_seq (ihx h r G E a w _ hM ht (fun e S' E' a' w' hk hS htr=>?_))
  cases e with
  | nrm=>exact ihy hk r G E' a' w' Q hS htr hQ
  | ex i=>exact hQ (.ex i) _ _ _ _ hk hS htr
  | ret=>exact hQ .ret _ _ _ _ hk hS htr
 | cond c x y ihx ihy =>
  intro S K h r G E a w Q hM ht hQ
  obtain ⟨b,S1,h1,h2,h3,h4⟩:=tZ hM ht h
  cases b with
  | true=>exact wpIn_cond_true h2 (ihx h1 r G E a w Q h3 h4 hQ)
  | false=>exact wpIn_cond_false h2 (ihy h1 r G E a w Q h3 h4 hQ)
 | block id c ih =>
  intro S K h r G E a w Q hM ht hQ
  refine wpIn_block (ih h r G E a w _ hM ht (fun e S' E' a' w' hk hS htr=>?_))
  cases e with
  | nrm=>exact hQ .nrm _ _ _ _ hk hS htr
  | ret=>exact hQ .ret _ _ _ _ hk hS htr
  | ex i =>
   show Exit.inBlock id Q (.exit i) a' w'
   unfold Exit.inBlock
   dsimp only at hk
   split at hk
   ·rename_i hb
    have:=Nat.eq_of_beq_eq_true hb
    subst this
    simp only [if_pos]
    exact hQ .nrm _ _ _ _ hk hS htr
   ·rename_i hb
    have hne:¬ i=id:=fun e=>by subst e; simp at hb
    simp only [if_neg hne]
    exact hQ (.ex i) _ _ _ _ hk hS htr
 | loop c ih=>exact fun h r G E a w Q hM ht hQ=>hL pl c _ _ h r G E a w Q hM ht hQ
 | exit id=>exact fun h r G E a w Q hM ht hQ=>wpIn_exit (hQ (.ex id) _ E _ _ h hM ht)
 | ret=>exact fun h r G E a w Q hM ht hQ=>wpIn_ret (hQ .ret _ E _ _ h hM ht)
 | _=>exact fun h=>False.elim h
theorem Bi {P:Program} {α β:Type} {f:α→Sem β}:∀ (xs:List α) (w:World) (ys:List β),xs.length=ys.length→(∀ (i:Nat) (x:α) (y:β),xs[i]?=some x→ys[i]?=some y→(f x).run P w=.ok y w)→(xs.mapM f).run P w=.ok ys w
 | [],w,ys,hl,_=>by
  have:ys=[]:=List.eq_nil_of_length_eq_zero (by simpa using hl.symm)
  subst this
  rfl
 | x::xs,w,[],hl,_=>by simp at hl
 | x::xs,w,y::ys,hl,h=>by
  have h0:=h 0 x y rfl rfl
  have ih:=Bi xs w ys (by simpa using hl) (fun i a b h1 h2=>h (i + 1) a b (by simpa using h1) (by simpa using h2))
  simp only [List.mapM_cons,Sem.run_bind,h0,Result.andThen_ok,ih,Sem.run_pure]
section
variable {G:Gh} {E:Env} {S:St} {w:World} {P:Program} {a:Act}
theorem qH (hM:al G pn E S w) (ht:TR E S.t a):∀ {rs:List ResultVar} {k:List AV→Prop},xy P S rs k→∃ as us,k as∧bT E as us∧rs.length=us.length ∧
  ∀ (i:Nat) (r:ResultVar) (u:Value),rs[i]?=some r→us[i]?=some u→(match r with | .tmp t=>(pure (a.tmps.getD t undef):Sem Value) | .cell c t=>(do loadVar t (← asAddr (a.tmps.getD c undef)):Sem Value)).run P w=.ok u w
 | [],k,h=>⟨[],[],h,.nil _,rfl,fun i r u h1=>by simp at h1⟩
 | .tmp t::rs,k,h=>by
  obtain ⟨c,hc,h⟩:=bW.1 h
  obtain ⟨as,us,hk,hv,hl,hr⟩:=qH hM ht h
  have hlt:t<a.tmps.size:=by rw [← ht.len]; exact (List.getElem?_eq_some_iff.1 hc).1
  refine ⟨c::as,a.tmps.getD t undef::us,hk,.cons (ht.val t c _ hc ?_) hv,by simp [hl],fun i r u h1 h2=>?_⟩
  ·rw [Array.getD_eq_getD_getElem?,Array.getElem?_eq_getElem hlt]; rfl
  ·cases i with
   | zero =>
    simp only [List.getElem?_cons_zero,Option.some.injEq] at h1 h2
    subst h1 h2
    rfl
   | succ i=>exact hr i r u (by simpa using h1) (by simpa using h2)
 | .cell c t::rs,k,h=>by
  obtain ⟨pc,hpc,h⟩:=bW.1 h
  have hlt:c<a.tmps.size:=by rw [← ht.len]; exact (List.getElem?_eq_some_iff.1 hpc).1
  have e0:a.tmps.getD c undef=a.tmps[c]:=by rw [Array.getD_eq_getD_getElem?,Array.getElem?_eq_getElem hlt]; rfl
  have hv0:=ht.val c pc _ hpc (Array.getElem?_eq_getElem hlt)
  obtain ⟨row,j,us',b,off,hk,hu0,hu,hcell⟩:=ym hM hv0 h
  obtain ⟨r0,z,hk',hr0,hrun⟩:=qq (P:=P) hk hu w hcell
  obtain ⟨as,us,hk,hv,hl,hr⟩:=qH hM ht hk'
  refine ⟨r0::as,z::us,hk,.cons hr0 hv,by simp [hl],fun i r u h1 h2=>?_⟩
  cases i with
  | zero =>
   simp at h1 h2
   subst h1 h2
   simp only [Sem.run_bind]
   rw [e0,hu0]
   show (loadVar t ⟨b,off + j,none⟩).run P w=_
   exact hrun
  | succ i=>exact hr i r u (by simpa using h1) (by simpa using h2)
theorem Cz {as:List AV} {us:List Value} {k:AV→Prop} (h:AR as k) (hv:bT E as us):∃ r,k r∧VR E r (if h:us.toArray.size=1 then us.toArray[0] else .tuple us.toArray):=by
 unfold AR at h
 split at h
 ·rename_i c
  obtain ⟨u,us',rfl,hc,hn⟩:=hv.uncons
  have:=hn.unnil
  subst this
  exact ⟨c,h,by simpa using hc⟩
 ·rename_i hne
  refine ⟨_,h,?_⟩
  have hl:=hv.1
  rw [dif_neg (by
   intro h1
   simp at h1
   cases as with
   | nil=>simp at hl; omega
   | cons c cs =>
    cases cs with
    | nil=>exact hne c rfl
    | cons _ _=>simp at hl; omega)]
  exact .tup _ (by simpa using hl) (fun m c u h1 h2=>hv.2 m c u h1 (by simpa using h2))
theorem jN {fn:Func} (hM:al G pn E S w) (ht:TR E S.t a) {k:AV→Prop} (h:xy P S fn.results.toList fun rs=>AR rs k):∃ r u,k r∧VR E r u∧(results fn a.tmps).run P w=.ok u w:=by
 obtain ⟨as,us,h,hv,hl,hr⟩:=qH hM ht h
 obtain ⟨r,hk,hvr⟩:=Cz h hv
 refine ⟨r,_,hk,hvr,?_⟩
 unfold results
 have hm:=Bi fn.results.toList w us hl hr
 rw [Sem.run_bind,Array.mapM_eq_mapM_toList]
 simp only [map_eq_pure_bind,Sem.run_bind]
 erw [hm]
 rfl
end
theorem v2:∀ {n i:Nat} {c:AV},(zv n)[i]?=some c→c=.bad
 | 0,i,c,h=>by simp [zv] at h
 | n + 1,0,c,h=>by simp [zv] at h; exact h.symm
 | n + 1,i + 1,c,h=>v2 (n:=n) (i:=i) (by simpa [zv] using h)
theorem v3:∀ {n:Nat},(zv n).length=n
 | 0=>rfl
 | n + 1=>by simp [zv,v3]
def lQ (P : Program) : Prop := ∀ (f : Nat) (fn : Func), P.funcs[f]? = some fn → (fn.name == "runtime.NumGoroutine") = false
theorem qI {C:Ctx} {k:Ctx→Prop}:vA C k↔k C:=by cases C; exact Iff.rfl
theorem v4 {p:br} {k:br→Prop}:Co p k↔k p:=by cases p; exact Iff.rfl
theorem yD {C:Ctx} {f:Nat} {args:List AV} {o:List Ob} {K:AV→St→Prop}:tN C f args o K↔vB C f args o K:=qI
theorem t_ {C:Ctx} (hC:eu C) (hL:nf C) (hD:mc C) (hN:lQ C.P) {f:Nat} {args:List AV} {o:List Ob} {K:AV→St→Prop} (h:tN C f args o K) :
  rh C.P f∧∀ (G:Gh) (E:Env) (w:World) (us:Array Value),al G pn E (H6 o o.length) w→Cg E→bT E args us.toList→Calls C.P f us w fun e w'=>∃ v r S' E',K r S'∧e=.returned v∧al G pn E' S' w'∧VR E' r v:=by
 rw [yD] at h
 unfold vB at h
 split at h
 ·rename_i fn hf
  split at h
  ·rename_i c hb
   rw [v4] at h
   refine ⟨⟨fn,c,hf,hb,hN f fn hf⟩,fun G E w us hM hg hv=>?_⟩
   refine v0.1 (callsIn_of_wp (F:=rd none) (n:=0) hf hb trivial ?_)
   have hl:args.length=us.size:=by simpa using hv.1
   refine ox hC hL hD c h none G E _ w _ (hM.congr rfl rfl rfl) ⟨?_,fun n c' u h1 h2=>?_,rfl,hg⟩ (fun e S' E' a' w' hk hS htr=>?_)
   ·simp [v3,hl]
   ·dsimp only at h1 h2
    by_cases hn:n<args.length
    ·rw [List.getElem?_append_left hn] at h1
     rw [Array.getElem?_append_left (by omega)] at h2
     exact hv.2 n c' u h1 (by simpa using h2)
    ·rw [List.getElem?_append_right (by omega)] at h1
     rw [v2 h1]
     exact .bad _ _
   ·cases e with
    | ex i=>exact False.elim hk
    | nrm =>
     obtain ⟨r,u,hk',hr,hrun⟩:=jN hS htr hk
     exact ⟨htr.df,u,hrun,u,r,S',E',hk',rfl,hS,hr⟩
    | ret =>
     obtain ⟨r,u,hk',hr,hrun⟩:=jN hS htr hk
     exact ⟨htr.df,u,hrun,u,r,S',E',hk',rfl,hS,hr⟩
  ·exact False.elim h
 ·exact False.elim h
section
variable {G:Gh} {E:Env} {S:St} {w:World}
theorem al.obj_only (hM:al G pn E S w):al G pn E.ob (H6 S.o S.b) w :=
 ⟨hM.hp,hM.os,hM.tape,hM.output,hM.size,hM.keep,hM.F0,hM.Flt,hM.Fnew,fun k b o s n h=>hM.own k b o s n (iS h),fun k k' b o s n o' s' n' h h'=>hM.inj k k' b o s n o' s' n' (iS h) (iS h'),
  fun _=>rfl,fun id=>(hM.obj id).ob,hM.old,hM.bl,hM.szs,fun _ _ h=>(by cases h),fun id=>(hM.ow id).ob⟩
end
theorem ru {C:Ctx} (hC:eu C) (hL:nf C) (hD:mc C) (hN:lQ C.P) {f:Nat} {args:List AV} {o:List Ob} {K:AV→List Ob→Prop} (h:sI C f args o K):pZ C.P f args o K:=by
 obtain ⟨h1,h2⟩:=t_ hC hL hD hN h
 refine ⟨h1,fun E w us hM hg hv=>(h2 _ E w us hM hg hv).mono ?_⟩
 rintro e w' ⟨v,r,S',E',hk,rfl,hS,hr⟩
 replace hk:=ac hk
 obtain ⟨hb,hk⟩:=hk
 simp only [Bool.and_eq_true] at hb
 have:=hS.obj_only
 rw [Nat.eq_of_beq_eq_true hb.2] at this
 exact ⟨v,r,S'.o,E'.ob,hk,rfl,this,kZ 4 hb.1 hr⟩
def v5 (C:Ctx):Prop:=∀ f args K,ra C f args K→∃ r,K r∧ra C f args (fun x=>x=r)
theorem oy {C:Ctx} (hC:eu C) (hL:nf C) (hD:mc C) (hN:lQ C.P) (hA:v5 C) {f:Nat} {args:List AV} {K:AV→Prop} (h:ra C f args K):ax C.P f args K:=by
 obtain ⟨r,hk,h⟩:=hA f args K h
 obtain ⟨h1,h2⟩:=t_ hC hL hD hN h
 refine ⟨r,⟨h1,fun F w us hF hg hv=>?_⟩,hk⟩
 have hM:al { w0:=w,M:=fun _=>False,F:=F,mu:=fun _=>none } pn ⟨F,fun _=>none,w.heap⟩ (H6 [] 0) w :=
  ⟨rfl,rfl,rfl,rfl,Nat.le_refl _,fun _ _ _=>rfl,fun _ h=>h,hF,fun _ h _=>.inl h,fun _ _ _ _ _ h=>(by cases h),fun _ _ _ _ _ _ _ _ _ h _=>(by cases h),fun _=>rfl,fun _=>trivial,fun _ h=>(by cases h),Nat.le_refl _,fun _ _=>rfl,fun _ _ h=>(by cases h),fun _ _=>rfl⟩
 refine (h2 _ _ w us hM hg hv).mono ?_
 rintro e w' ⟨v,c,S',E',hk,rfl,hS,hr⟩
 unfold zo at hk
 split at hk
 ·rename_i b hb
  rw [ci] at hk
  subst hk
  have hd:=ij hS _ hb hr (ids:=dH S'.o 6 c) (fun i hi=>hi)
  refine ⟨v,FD E' (dH S'.o 6 c),rfl,?_,⟨hS.os,hS.tape,hS.output,hS.size,fun b' hb'=>hS.keep b' hb' (fun h=>h)⟩,fun b' h=>.inl (hS.F0 b' h),FY hS,fun b' h hlt=>?_⟩
  ·have e:(⟨FD E' (dH S'.o 6 c),fun _=>none,w'.heap⟩:Env)=E'.fd (dH S'.o 6 c):=by
    unfold Env.fd
    rw [hS.hp]
   rw [e]
   exact hd
  ·rcases h with h | ⟨id,_,o',s,n,h⟩
   ·rcases hS.Fnew b' h hlt with h3 | h3
    ·exact h3
    ·exact h3.elim
   ·rcases (hS.own _ _ _ _ _ h).2.2 with h3 | h3
    ·exact h3.elim
    ·have h3:w.heap.size≤b':=h3
     omega
 ·exact False.elim hk
theorem least {p:Nat→Prop}:∀ (n:Nat),p n→∃ m,p m∧∀ k,p k→m≤k:=by
 intro n
 induction n using Nat.strongRecOn with
 | _ n ih =>
  intro h
  by_cases hl:∃ k,k<n∧p k
  ·obtain ⟨k,hk,hp⟩:=hl
   exact ih k hk hp
  ·exact ⟨n,h,fun k hk=>Nat.le_of_not_lt fun hlt=>hl ⟨k,hlt,hk⟩⟩
open Classical in
noncomputable def rx (p:Nat→Prop):Nat:=if h:∃ m,p m∧∀ k,p k→m≤k then Classical.choose h else 0
theorem Bj {p:Nat→Prop} {n:Nat} (h:p n):p (rx p)∧rx p≤n:=by
 have hl:=least n h
 unfold rx
 rw [dif_pos hl]
 exact ⟨(Classical.choose_spec hl).1,(Classical.choose_spec hl).2 n h⟩
def LP (cfg:q7) (G:Gh) (pl:br) (c:Code) (K:Ex→St→Prop) (a:Act) (w:World) (n:Nat):Prop:=∃ S E,(gw cfg n).loop pl c S K∧al G pn E S w∧TR E S.t a
theorem ng (cfg:q7):∀ n,(gw cfg n).P=cfg.P
 | 0=>rfl
 | _ + 1=>rfl
theorem Ih {cfg:q7} {N:Nat} (h:∀ m,m<N→eu (gw cfg m)∧nf (gw cfg m)∧mc (gw cfg m)):nf (gw cfg N):=by
 intro pl c S K hl r G E a w Q hM ht hQ
 rw [ng]
 refine wpIn_loop (fun a w=>∃ n,n≤N∧LP cfg G pl c K a w n) (fun a w=>rx fun n=>n≤N∧LP cfg G pl c K a w n) ⟨N,Nat.le_refl _,S,E,hl,hM,ht⟩ (fun a1 w1 hI=>?_)
 obtain ⟨n0,hn0⟩:=hI
 have hsp:=(Bj (p:=fun n=>n≤N∧LP cfg G pl c K a1 w1 n) hn0).1
 generalize hmu:(rx fun n=>n≤N∧LP cfg G pl c K a1 w1 n)=mu
 rw [hmu] at hsp
 obtain ⟨hle,S1,E1,hl1,hM1,ht1⟩:=hsp
 cases mu with
 | zero=>exact False.elim hl1
 | succ m =>
  obtain ⟨h1,h2,h3⟩:=h m hle
  have hl2:gO (gw cfg m) pl c S1 fun e S'=>match e with
   | .nrm=>(gw cfg m).loop pl c S' K
   | .ex i=>K (.ex i) S'
   | .ret=>K .ret S':=(qI (C:=gw cfg m) (k:=fun C=>gO C pl c S1 fun e S'=>match e with
   | .nrm=>C.loop pl c S' K
   | .ex i=>K (.ex i) S'
   | .ret=>K .ret S')).1 hl1
  have:=ox h1 h2 h3 c hl2 r G E1 a1 w1 (Exit.then (fun a' w'=>(∃ n,n≤N∧LP cfg G pl c K a' w' n)∧(rx fun n=>n≤N∧LP cfg G pl c K a' w' n)<m + 1) Q) hM1 ht1 (fun e S' E' a' w' hk hS htr=>by
   cases e with
   | nrm =>
    have hp:m≤N∧LP cfg G pl c K a' w' m:=⟨Nat.le_of_succ_le hle,S',E',hk,hS,htr⟩
    exact ⟨⟨m,hp⟩,Nat.lt_succ_of_le (Bj (p:=fun n=>n≤N∧LP cfg G pl c K a' w' n) hp).2⟩
   | ex i=>exact hQ (.ex i) _ _ _ _ hk hS htr
   | ret=>exact hQ .ret _ _ _ _ hk hS htr)
  rw [ng] at this
  exact this
theorem Ii {cfg:q7} (hQ:∀ f args r,cfg.xq f args=some r→Ct cfg.P f args r) (hX:∀ f args o K,cfg.xc f args o K→pZ cfg.P f args o K) (hN:lQ cfg.P) (hA:∀ n,v5 (gw cfg n)) (hD:∀ n,eu (gw cfg n)→mc (gw cfg n)):∀ n,eu (gw cfg n)∧nf (gw cfg n)∧mc (gw cfg n):=by
 intro n
 induction n using Nat.strongRecOn with
 | _ n ih =>
  have hC:eu (gw cfg n):=by
   cases n with
   | zero=>exact ⟨fun f args K h=>False.elim h,fun f args o K h=>False.elim h⟩
   | succ n =>
    obtain ⟨h1,h2,h3⟩:=ih n (Nat.lt_succ_self n)
    have hN':lQ (gw cfg n).P:=by rw [ng]; exact hN
    refine ⟨fun f args K h=>?_,fun f args o K h=>?_⟩
    ·rw [ng]
     have h:(match cfg.xq f args with | some r=>K r | none=>ra (gw cfg n) f args K):=h
     split at h
     ·rename_i r hr
      exact ⟨r,hQ _ _ _ hr,h⟩
     ·have:=oy h1 h2 h3 hN' (hA n) h
      rw [ng] at this
      exact this
    ·rw [ng]
     have h:(match cfg.xs f with | true=>cfg.xc f args o K | false=>sI (gw cfg n) f args o K):=h
     split at h
     ·exact hX _ _ _ _ h
     ·have:=ru h1 h2 h3 hN' h
      rw [ng] at this
      exact this
  exact ⟨hC,Ih ih,hD n hC⟩
def aA {α:Type} (X:(α→Prop)→Prop):Prop:=∀ K,X K→∃ r,K r∧∀ K',K' r→X K'
def au {α β:Type} (X:(α→β→Prop)→Prop):Prop:=∀ K,X K→∃ a b,K a b∧∀ K',K' a b→X K'
def b9 {α β γ:Type} (X:(α→β→γ→Prop)→Prop):Prop:=∀ K,X K→∃ a b c,K a b c∧∀ K',K' a b c→X K'
theorem aA.failN {α:Type} {n:Nat}:aA (fun _:α→Prop=>ai n):=fun _ h=>False.elim h
theorem au.failN {α β:Type} {n:Nat}:au (fun _:α→β→Prop=>ai n):=fun _ h=>False.elim h
theorem b9.failN {α β γ:Type} {n:Nat}:b9 (fun _:α→β→γ→Prop=>ai n):=fun _ h=>False.elim h
theorem aA.ret {α:Type} (a:α):aA (fun K=>K a):=fun _ h=>⟨a,h,fun _ h=>h⟩
theorem au.ret {α β:Type} (a:α) (b:β):au (fun K=>K a b):=fun _ h=>⟨a,b,h,fun _ h=>h⟩
theorem b9.ret {α β γ:Type} (a:α) (b:β) (c:γ):b9 (fun K=>K a b c):=fun _ h=>⟨a,b,c,h,fun _ h=>h⟩
theorem aA.chk {α:Type} {b:Bool} {X:(α→Prop)→Prop} (h:aA X):aA (fun K=>bu b (X K)):=fun K hk=>by
 obtain ⟨hb,hx⟩:=ac hk
 obtain ⟨r,h1,h2⟩:=h K hx
 exact ⟨r,h1,fun K' hk'=>ar hb (h2 K' hk')⟩
theorem au.chk {α β:Type} {b:Bool} {X:(α→β→Prop)→Prop} (h:au X):au (fun K=>bu b (X K)):=fun K hk=>by
 obtain ⟨hb,hx⟩:=ac hk
 obtain ⟨r,s,h1,h2⟩:=h K hx
 exact ⟨r,s,h1,fun K' hk'=>ar hb (h2 K' hk')⟩
theorem b9.chk {α β γ:Type} {b:Bool} {X:(α→β→γ→Prop)→Prop} (h:b9 X):b9 (fun K=>bu b (X K)):=fun K hk=>by
 obtain ⟨hb,hx⟩:=ac hk
 obtain ⟨r,s,t,h1,h2⟩:=h K hx
 exact ⟨r,s,t,h1,fun K' hk'=>ar hb (h2 K' hk')⟩
theorem aA.fork {α:Type} {b:Bool} {X Y:(α→Prop)→Prop} (h:aA X) (k:aA Y):aA (fun K=>AK b (X K) (Y K)):=by
 cases b
 ·exact k
 ·exact h
theorem au.fork {α β:Type} {b:Bool} {X Y:(α→β→Prop)→Prop} (h:au X) (k:au Y):au (fun K=>AK b (X K) (Y K)):=by
 cases b
 ·exact k
 ·exact h
theorem aA.gsel {α:Type} {b:Option Bool} {w:Bool} {X Y:(α→Prop)→Prop} (h:aA X) (k:aA Y):aA (fun K=>gsel b w (X K) (Y K)):=by
 unfold A.gsel
 split
 ·exact h
 ·exact h
 ·exact k
theorem aA.bind {α β:Type} {X:(α→Prop)→Prop} {Y:α→(β→Prop)→Prop} (h:aA X) (k:∀ a,aA (Y a)):aA (fun K=>X fun a=>Y a K):=fun K hk=>by
 obtain ⟨r,h1,h2⟩:=h _ hk
 obtain ⟨s,h3,h4⟩:=k r K h1
 exact ⟨s,h3,fun K' hk'=>h2 _ (h4 K' hk')⟩
theorem aA.bind2 {α β γ:Type} {X:(α→Prop)→Prop} {Y:α→(β→γ→Prop)→Prop} (h:aA X) (k:∀ a,au (Y a)):au (fun K=>X fun a=>Y a K):=fun K hk=>by
 obtain ⟨r,h1,h2⟩:=h _ hk
 obtain ⟨s,t,h3,h4⟩:=k r K h1
 exact ⟨s,t,h3,fun K' hk'=>h2 _ (h4 K' hk')⟩
theorem au.bind {α β γ:Type} {X:(α→β→Prop)→Prop} {Y:α→β→(γ→Prop)→Prop} (h:au X) (k:∀ a b,aA (Y a b)):aA (fun K=>X fun a b=>Y a b K):=fun K hk=>by
 obtain ⟨r,s,h1,h2⟩:=h _ hk
 obtain ⟨t,h3,h4⟩:=k r s K h1
 exact ⟨t,h3,fun K' hk'=>h2 _ (h4 K' hk')⟩
theorem au.bind2 {α β γ δ:Type} {X:(α→β→Prop)→Prop} {Y:α→β→(γ→δ→Prop)→Prop} (h:au X) (k:∀ a b,au (Y a b)):au (fun K=>X fun a b=>Y a b K):=fun K hk=>by
 obtain ⟨r,s,h1,h2⟩:=h _ hk
 obtain ⟨t,u,h3,h4⟩:=k r s K h1
 exact ⟨t,u,h3,fun K' hk'=>h2 _ (h4 K' hk')⟩
theorem b9.bind {α β γ δ:Type} {X:(α→β→γ→Prop)→Prop} {Y:α→β→γ→(δ→Prop)→Prop} (h:b9 X) (k:∀ a b c,aA (Y a b c)):aA (fun K=>X fun a b c=>Y a b c K):=fun K hk=>by
 obtain ⟨r,s,q,h1,h2⟩:=h _ hk
 obtain ⟨t,h3,h4⟩:=k r s q K h1
 exact ⟨t,h3,fun K' hk'=>h2 _ (h4 K' hk')⟩
theorem dF {α:Type} {n:Nat}:aA (fun _:α→Prop=>ai n):=aA.failN
theorem gD {α β:Type} {n:Nat}:au (fun _:α→β→Prop=>ai n):=au.failN
theorem gE {α β γ:Type} {n:Nat}:b9 (fun _:α→β→γ→Prop=>ai n):=b9.failN
theorem dR {α:Type} (a:α):aA (fun K=>K a):=aA.ret a
theorem gF {α β:Type} (a:α) (b:β):au (fun K=>K a b):=au.ret a b
theorem gG {α β γ:Type} (a:α) (b:β) (c:γ):b9 (fun K=>K a b c):=b9.ret a b c
theorem dC {α:Type} {b:Bool} {X:(α→Prop)→Prop} (h:aA X):aA (fun K=>bu b (X K)):=aA.chk h
theorem gH {α β:Type} {b:Bool} {X:(α→β→Prop)→Prop} (h:au X):au (fun K=>bu b (X K)):=au.chk h
theorem gI {α β γ:Type} {b:Bool} {X:(α→β→γ→Prop)→Prop} (h:b9 X):b9 (fun K=>bu b (X K)):=b9.chk h
theorem db {α β:Type} {X:(α→Prop)→Prop} {Y:α→(β→Prop)→Prop} (h:aA X) (k:∀ a,aA (Y a)):aA (fun K=>X fun a=>Y a K):=aA.bind h k
theorem bB {α β γ:Type} {X:(α→Prop)→Prop} {Y:α→(β→γ→Prop)→Prop} (h:aA X) (k:∀ a,au (Y a)):au (fun K=>X fun a=>Y a K):=aA.bind2 h k
theorem dd {α β γ:Type} {X:(α→β→Prop)→Prop} {Y:α→β→(γ→Prop)→Prop} (h:au X) (k:∀ a b,aA (Y a b)):aA (fun K=>X fun a b=>Y a b K):=au.bind h k
theorem u6 {α β γ δ:Type} {X:(α→β→Prop)→Prop} {Y:α→β→(γ→δ→Prop)→Prop} (h:au X) (k:∀ a b,au (Y a b)):au (fun K=>X fun a b=>Y a b K):=au.bind2 h k
theorem dt {α β γ δ:Type} {X:(α→β→γ→Prop)→Prop} {Y:α→β→γ→(δ→Prop)→Prop} (h:b9 X) (k:∀ a b c,aA (Y a b c)):aA (fun K=>X fun a b c=>Y a b c K):=b9.bind h k
theorem aA.of_iff {α:Type} {X:(α→Prop)→Prop} {a:α} (h:∀ K:α→Prop,X K↔K a):aA X:=fun K hk=>⟨a,(h K).1 hk,fun K' hk'=>(h K').2 hk'⟩
theorem fY {a:AV}:aA (kO a):=.of_iff fun _=>ci
theorem bp {xs:List AV}:aA (iH xs):=.of_iff fun _=>dv
theorem oz {xs:List AV}:aA (u0 xs):=.of_iff fun _=>ig
theorem nh {xs:List (Nat×List AV)}:aA (nU xs):=.of_iff fun _=>iQ
theorem ao {xs:List Ob}:aA (ba xs):=.of_iff fun _=>az
theorem gQ {xs:List AV} {n:Nat}:aA (qm xs n):=fun K h=>by
 obtain ⟨a,h1,h2⟩:=bW.1 h
 exact ⟨a,h2,fun K' h3=>bW.2 ⟨a,h1,h3⟩⟩
theorem jZ {xs:List AV} {n:Nat} {v:AV}:aA (sA xs n v):=.of_iff fun _=>eb
theorem bh {dst:Option Tmp} {a:AV} {S:St}:aA (bC dst a S):=.of_iff fun _=>aJ
theorem bH {k:Key} {xs:List AV}:aA (mD k xs):=.of_iff fun _=>il
theorem bv {k:Key} {xs:List (Nat×List AV)}:aA (mZ k xs):=.of_iff fun _=>im
theorem eE {k:Key} {xs:List Ob}:aA (iI k xs):=.of_iff fun _=>dO
theorem bX {S:St} {x:Operand}:aA (cz S x):=by
 unfold cz
 repeat' first
  |exact dF|exact gQ|exact fY|exact dR _|refine aA.bind fY (fun _=>?_)|split
theorem a6 {S:St}:∀ {xs:List Operand},aA (dn S xs)
 | []=>aA.ret _
 | x::xs=>by
  show aA (fun K=>cz S x fun a=>dn S xs fun as=>K (a::as))
  exact aA.bind bX (fun a=>aA.bind a6 (fun as=>aA.ret (a::as)))
theorem CB {d:Nat} {S:St}:au (vp d S):=by
 unfold vp
 refine aA.bind2 gQ (fun a=>?_)
 split
 ·exact au.fork (aA.bind2 jZ (fun _=>au.ret _ _)) (aA.bind2 jZ (fun _=>au.ret _ _))
 ·exact au.failN
theorem CC {c:Operand} {S:St}:au (qn c S):=by
 unfold qn
 split
 ·exact CB
 ·exact au.fork (au.ret _ _) (au.ret _ _)
 ·exact au.failN
structure gz (C:Ctx):Prop where
 pcall:∀ f args,aA (C.pcall f args)
 scall:∀ f args o,au (C.scall f args o)
 loop:∀ pl c S,au (C.loop pl c S)
theorem bR {a:AV}:aA (m3 a):=by
 unfold m3
 repeat' first
  |exact dF|exact gD|exact gE|exact dR _|exact gF _ _|exact gG _ _ _|refine dC ?_|refine gH ?_|refine gI ?_|split
theorem ry {S:St} {key:Key} {i:Nat}:aA (xv S key i):=by
 unfold xv
 repeat' first
  |exact dF|exact gD|exact gE|exact dR _|exact gF _ _|exact gG _ _ _|refine dC ?_|refine gH ?_|refine gI ?_|split
theorem u7 {S:St} {a:AV}:au (FI S a):=by
 unfold FI
 repeat' first
  |exact dF|exact gD|exact gE|exact dR _|exact gF _ _|exact gG _ _ _|refine dC ?_|refine gH ?_|refine gI ?_|exact ry|refine db ry fun _=>?_
  |refine bB ry fun _=>?_|split
theorem cU {P:Program} {t:TypeId} {row:List AV} {j:Nat}:aA (iJ P t row j):=by
 unfold iJ
 repeat' first
  |exact dF|exact gD|exact gE|exact dR _|exact gF _ _|exact gG _ _ _|refine dC ?_|refine gH ?_|refine gI ?_|exact bp|refine db bp fun _=>?_
  |refine bB bp fun _=>?_|split
theorem qJ {S:St} {a:AV} {cs:List AV}:aA (l7 S a cs):=by
 unfold l7
 repeat' first
  |exact dF|exact gD|exact gE|exact dR _|exact gF _ _|exact gG _ _ _|refine dC ?_|refine gH ?_|refine gI ?_|exact bp|refine db bp fun _=>?_
  |refine bB bp fun _=>?_|exact nh|refine db nh fun _=>?_|refine bB nh fun _=>?_|exact ao|refine db ao fun _=>?_
  |refine bB ao fun _=>?_|split
theorem sR {op:BinOp} {x y:Value}:aA (vr op x y):=by
 unfold vr
 repeat' first
  |exact dF|exact gD|exact gE|exact dR _|exact gF _ _|exact gG _ _ _|refine dC ?_|refine gH ?_|refine gI ?_|split
theorem sS {P:Program} {op:BinOp} {t:TypeId} {a b:Bool}:aA (AL P op t a b):=by
 unfold AL
 repeat' first
  |exact dF|exact gD|exact gE|exact dR _|exact gF _ _|exact gG _ _ _|refine dC ?_|refine gH ?_|refine gI ?_|split
theorem sT {P:Program} {op:BinOp} {t:TypeId} {a b:Value}:aA (yd P op t a b):=by
 unfold yd
 repeat' first
  |exact dF|exact gD|exact gE|exact dR _|exact gF _ _|exact gG _ _ _|refine dC ?_|refine gH ?_|refine gI ?_|exact sS|refine db sS fun _=>?_
  |refine bB sS fun _=>?_|exact sR|refine db sR fun _=>?_|refine bB sR fun _=>?_|split
theorem v6 {op:BinOp} {x y:AV}:aA (FO op x y):=by
 unfold FO
 repeat' first
  |exact dF|exact gD|exact gE|exact dR _|exact gF _ _|exact gG _ _ _|refine dC ?_|refine gH ?_|refine gI ?_|split
theorem rz {P:Program} {op:BinOp} {t:TypeId} {x y:AV}:aA (Ck P op t x y):=by
 unfold Ck
 repeat' first
  |exact dF|exact gD|exact gE|exact dR _|exact gF _ _|exact gG _ _ _|refine dC ?_|refine gH ?_|refine gI ?_|exact sT|refine db sT fun _=>?_
  |refine bB sT fun _=>?_|exact v6|refine db v6 fun _=>?_|refine bB v6 fun _=>?_|split
theorem zO {op:UnOp} {x:AV}:aA (Mz op x):=by
 unfold Mz
 repeat' first
  |exact dF|exact gD|exact gE|exact dR _|exact gF _ _|exact gG _ _ _|refine dC ?_|refine gH ?_|refine gI ?_|split
theorem aP {P:Program} {e:TypeId}:aA (cE P e):=by
 unfold cE
 repeat' first
  |exact dF|exact gD|exact gE|exact dR _|exact gF _ _|exact gG _ _ _|refine dC ?_|refine gH ?_|refine gI ?_|exact oz|refine db oz fun _=>?_
  |refine bB oz fun _=>?_|split
theorem gA {d:Nat} {S:St}:aA (ye d S):=by
 unfold ye
 repeat' first
  |exact dF|exact gD|exact gE|exact dR _|exact gF _ _|exact gG _ _ _|refine dC ?_|refine gH ?_|refine gI ?_|exact bH|refine db bH fun _=>?_
  |refine bB bH fun _=>?_|exact bv|refine db bv fun _=>?_|refine bB bv fun _=>?_|split
theorem ft:∀ (ds:List Nat) (S:St),aA (m4 ds S)
 | [],S=>by
  show aA (fun K=>m4 [] S K)
  unfold m4
  repeat' first
   | exact aA.failN
   | exact au.failN
   | exact b9.failN
   | exact aA.ret _
   | exact au.ret _ _
   | exact b9.ret _ _ _
   | refine aA.chk ?_
   | refine au.chk ?_
   | refine b9.chk ?_
   | exact ft _ _
   | refine db (ft _ _) fun _=>?_
   | refine bB (ft _ _) fun _=>?_
   | exact gA
   | refine db gA fun _=>?_
   | refine bB gA fun _=>?_
   | split
 | d::ds,S=>by
  show aA (fun K=>m4 (d::ds) S K)
  unfold m4
  repeat' first
   | exact aA.failN
   | exact au.failN
   | exact b9.failN
   | exact aA.ret _
   | exact au.ret _ _
   | exact b9.ret _ _ _
   | refine aA.chk ?_
   | refine au.chk ?_
   | refine b9.chk ?_
   | exact ft _ _
   | refine db (ft _ _) fun _=>?_
   | refine bB (ft _ _) fun _=>?_
   | exact gA
   | refine db gA fun _=>?_
   | refine bB gA fun _=>?_
   | split
theorem v7 {pl:br} {dst:Option Tmp} {cs:List AV} {S:St}:aA (AM pl dst cs S):=by
 unfold AM
 repeat' first
  |exact dF|exact gD|exact gE|exact dR _|exact gF _ _|exact gG _ _ _|refine dC ?_|refine gH ?_|refine gI ?_|exact ao|refine db ao fun _=>?_
  |refine bB ao fun _=>?_|exact jZ|refine db jZ fun _=>?_|refine bB jZ fun _=>?_|exact gA|refine db gA fun _=>?_
  |refine bB gA fun _=>?_|exact bH|refine db bH fun _=>?_|refine bB bH fun _=>?_|split
theorem cV:∀ (ps:List (Nat×AV)) (place:Nat→Option (Nat×Nat)) (cells:List AV),aA (nC place cells ps)
 | [],p,c=>by
  show aA (fun K=>nC p c [] K)
  unfold nC
  repeat' first
   | exact aA.failN
   | exact au.failN
   | exact b9.failN
   | exact aA.ret _
   | exact au.ret _ _
   | exact b9.ret _ _ _
   | refine aA.chk ?_
   | refine au.chk ?_
   | refine b9.chk ?_
   | exact cV _ _ _
   | refine db (cV _ _ _) fun _=>?_
   | refine bB (cV _ _ _) fun _=>?_
   | exact bp
   | refine db bp fun _=>?_
   | refine bB bp fun _=>?_
   | exact bR
   | refine db bR fun _=>?_
   | refine bB bR fun _=>?_
   | split
 | (i,x)::rest,p,c=>by
  show aA (fun K=>nC p c ((i,x)::rest) K)
  unfold nC
  repeat' first
   | exact aA.failN
   | exact au.failN
   | exact b9.failN
   | exact aA.ret _
   | exact au.ret _ _
   | exact b9.ret _ _ _
   | refine aA.chk ?_
   | refine au.chk ?_
   | refine b9.chk ?_
   | exact cV _ _ _
   | refine db (cV _ _ _) fun _=>?_
   | refine bB (cV _ _ _) fun _=>?_
   | exact bp
   | refine db bp fun _=>?_
   | refine bB bp fun _=>?_
   | exact bR
   | refine db bR fun _=>?_
   | refine bB bR fun _=>?_
   | split
theorem qK {P:Program} {t:TypeId} {parts:List (Nat×AV)}:aA (vu P t parts):=by
 unfold vu
 repeat' first
  |exact dF|exact gD|exact gE|exact dR _|exact gF _ _|exact gG _ _ _|refine dC ?_|refine gH ?_|refine gI ?_|exact aP|refine db aP fun _=>?_
  |refine bB aP fun _=>?_|exact cV _ _ _|refine db (cV _ _ _) fun _=>?_|refine bB (cV _ _ _) fun _=>?_|split
theorem bS:∀ (xs:List (List AV)),aA (fI xs)
 | []=>by
  show aA (fun K=>fI [] K)
  unfold fI
  repeat' first
   | exact aA.failN
   | exact au.failN
   | exact b9.failN
   | exact aA.ret _
   | exact au.ret _ _
   | exact b9.ret _ _ _
   | refine aA.chk ?_
   | refine au.chk ?_
   | refine b9.chk ?_
   | exact bS _
   | refine db (bS _) fun _=>?_
   | refine bB (bS _) fun _=>?_
   | exact bp
   | refine db bp fun _=>?_
   | refine bB bp fun _=>?_
   | split
 | x::xs=>by
  show aA (fun K=>fI (x::xs) K)
  unfold fI
  repeat' first
   | exact aA.failN
   | exact au.failN
   | exact b9.failN
   | exact aA.ret _
   | exact au.ret _ _
   | exact b9.ret _ _ _
   | refine aA.chk ?_
   | refine au.chk ?_
   | refine b9.chk ?_
   | exact bS _
   | refine db (bS _) fun _=>?_
   | refine bB (bS _) fun _=>?_
   | exact bp
   | refine db bp fun _=>?_
   | refine bB bp fun _=>?_
   | split
theorem kg {P:Program} {pl:br} {dst:Option Tmp} {t:TypeId} {len:Nat} {parts:List (Nat×AV)} {S:St}:aA (jU P pl dst t len parts S):=by
 unfold jU
 repeat' first
  |exact dF|exact gD|exact gE|exact dR _|exact gF _ _|exact gG _ _ _|refine dC ?_|refine gH ?_|refine gI ?_|exact bh|refine db bh fun _=>?_
  |refine bB bh fun _=>?_|exact aP|refine db aP fun _=>?_|refine bB aP fun _=>?_|exact cV _ _ _|refine db (cV _ _ _) fun _=>?_
  |refine bB (cV _ _ _) fun _=>?_|exact bS _|refine db (bS _) fun _=>?_|refine bB (bS _) fun _=>?_|exact ao
  |refine db ao fun _=>?_|refine bB ao fun _=>?_|split
theorem ni {P:Program} {pl:br} {dst:Option Tmp} {t:TypeId} {len:Nat} {parts:List (Nat×AV)}:aA (nW P pl dst t len parts):=by
 unfold nW
 repeat' first
  |exact dF|exact gD|exact gE|exact dR _|exact gF _ _|exact gG _ _ _|refine dC ?_|refine gH ?_|refine gI ?_|exact aP|refine db aP fun _=>?_
  |refine bB aP fun _=>?_|exact cV _ _ _|refine db (cV _ _ _) fun _=>?_|refine bB (cV _ _ _) fun _=>?_|exact bS _
  |refine db (bS _) fun _=>?_|refine bB (bS _) fun _=>?_|split
theorem v8 {P:Program} {t:TypeId} {S:St} {x:AV}:aA (FP P t S x):=by
 unfold FP
 repeat' first
  |exact dF|exact gD|exact gE|exact dR _|exact gF _ _|exact gG _ _ _|refine dC ?_|refine gH ?_|refine gI ?_|split
theorem dU {size:Nat} {S:St} {x:AV}:au (km size S x):=by
 unfold km
 repeat' first
  |exact dF|exact gD|exact gE|exact dR _|exact gF _ _|exact gG _ _ _|refine dC ?_|refine gH ?_|refine gI ?_|refine bB ry fun _=>?_|split
theorem sU {S:St} {id:Nat} {ob:Ob}:au (pU S id ob):=by
 unfold pU
 repeat' first
  |exact dF|exact gD|exact gE|exact dR _|exact gF _ _|exact gG _ _ _|refine dC ?_|refine gH ?_|refine gI ?_|exact bH|refine db bH fun _=>?_
  |refine bB bH fun _=>?_|exact bv|refine db bv fun _=>?_|refine bB bv fun _=>?_|exact eE|refine db eE fun _=>?_
  |refine bB eE fun _=>?_|exact ao|refine db ao fun _=>?_|refine bB ao fun _=>?_|split
theorem oH {P:Program} {ts:List TypeId} {base x:AV} {S:St}:au (lJ P ts base x S):=by
 unfold lJ
 repeat' first
  |exact dF|exact gD|exact gE|exact dR _|exact gF _ _|exact gG _ _ _|refine dC ?_|refine gH ?_|refine gI ?_|exact dU|refine dd dU fun _ _=>?_
  |refine u6 dU fun _ _=>?_|exact ao|refine db ao fun _=>?_|refine bB ao fun _=>?_|exact sU|refine dd sU fun _ _=>?_
  |refine u6 sU fun _ _=>?_|split
theorem zP {P:Program} {ts:List TypeId} {base x:AV}:aA (kT P ts base x):=by
 unfold kT
 repeat' first
  |exact dF|exact gD|exact gE|exact dR _|exact gF _ _|exact gG _ _ _|refine dC ?_|refine gH ?_|refine gI ?_|exact dU|refine dd dU fun _ _=>?_
  |refine u6 dU fun _ _=>?_|split
theorem nj {P:Program} {ts:List TypeId} {base:AV} {n:Int} {S:St}:au (kU P ts base n S):=by
 unfold kU
 repeat' first
  |exact dF|exact gD|exact gE|exact dR _|exact gF _ _|exact gG _ _ _|refine dC ?_|refine gH ?_|refine gI ?_|exact aP|refine db aP fun _=>?_
  |refine bB aP fun _=>?_|exact ao|refine db ao fun _=>?_|refine bB ao fun _=>?_|split
theorem v9 {P:Program} {ts:List TypeId} {x:AV}:aA (FQ P ts x):=by
 unfold FQ
 repeat' first
  |exact dF|exact gD|exact gE|exact dR _|exact gF _ _|exact gG _ _ _|refine dC ?_|refine gH ?_|refine gI ?_|split
theorem sV {P:Program} {ts:List TypeId} {x y:AV} {M:St}:au (tK P ts x y M):=by
 unfold tK
 repeat' first
  |exact dF|exact gD|exact gE|exact dR _|exact gF _ _|exact gG _ _ _|refine dC ?_|refine gH ?_|refine gI ?_|exact dU|refine dd dU fun _ _=>?_
  |refine u6 dU fun _ _=>?_|exact ao|refine db ao fun _=>?_|refine bB ao fun _=>?_|split
theorem CE {P:Program} {ts:List TypeId} {x:AV} {M:St}:aA (sC P ts x M):=by
 unfold sC
 repeat' first
  |exact dF|exact gD|exact gE|exact dR _|exact gF _ _|exact gG _ _ _|refine dC ?_|refine gH ?_|refine gI ?_|refine db aP fun _=>?_|refine db ao fun _=>?_|split
theorem a7 {a:AV}:aA (intOf a):=by
 unfold intOf
 repeat' first
  |exact dF|exact gD|exact gE|exact dR _|exact gF _ _|exact gG _ _ _|refine dC ?_|refine gH ?_|refine gI ?_|split
theorem fZ {P:Program} {t:TypeId} {l c:AV} {S:St}:au (bo P t l c S):=by
 unfold bo
 repeat' first
  |exact dF|exact gD|exact gE|exact dR _|exact gF _ _|exact gG _ _ _|refine dC ?_|refine gH ?_|refine gI ?_|exact a7|refine db a7 fun _=>?_
  |refine bB a7 fun _=>?_|exact aP|refine db aP fun _=>?_|refine bB aP fun _=>?_|exact ao|refine db ao fun _=>?_
  |refine bB ao fun _=>?_|split
theorem Bl {len cap:Nat} {lo hi mx:Option Int}:b9 (sD len cap lo hi mx):=by
 unfold sD
 repeat' first
  |exact dF|exact gD|exact gE|exact dR _|exact gF _ _|exact gG _ _ _|refine dC ?_|refine gH ?_|refine gI ?_|split
theorem qL {P:Program} {t:TypeId} {x:AV} {lo hi mx:Option Int} {S:St}:aA (ji P t x lo hi mx S):=by
 unfold ji
 repeat' first
  |exact dF|exact gD|exact gE|exact dR _|exact gF _ _|exact gG _ _ _|refine dC ?_|refine gH ?_|refine gI ?_|exact Bl|refine dt Bl fun _ _ _=>?_
  |split
theorem lf {P:Program} {t:TypeId} {x ix:AV} {S:St}:aA (gX P t x ix S):=by
 unfold gX
 repeat' first
  |exact dF|exact gD|exact gE|exact dR _|exact gF _ _|exact gG _ _ _|refine dC ?_|refine gH ?_|refine gI ?_|exact a7|refine db a7 fun _=>?_
  |refine bB a7 fun _=>?_|split
theorem qM {P:Program} {t:TypeId} {x ix:AV}:aA (qo P t x ix):=by
 unfold qo
 repeat' first
  |exact dF|exact gD|exact gE|exact dR _|exact gF _ _|exact gG _ _ _|refine dC ?_|refine gH ?_|refine gI ?_|exact a7|refine db a7 fun _=>?_
  |refine bB a7 fun _=>?_|exact cU|refine db cU fun _=>?_|refine bB cU fun _=>?_|split
theorem lg {P:Program} {t:TypeId} {x:AV} {f:Nat}:aA (kV P t x f):=by
 unfold kV
 repeat' first
  |exact dF|exact gD|exact gE|exact dR _|exact gF _ _|exact gG _ _ _|refine dC ?_|refine gH ?_|refine gI ?_|split
theorem qN {P:Program} {t:TypeId} {x:AV} {f:Nat}:aA (vx P t x f):=by
 unfold vx
 repeat' first
  |exact dF|exact gD|exact gE|exact dR _|exact gF _ _|exact gG _ _ _|refine dC ?_|refine gH ?_|refine gI ?_|exact cU|refine db cU fun _=>?_
  |refine bB cU fun _=>?_|split
theorem zQ {P:Program} {src dst:TypeId} {x:AV}:aA (nX P src dst x):=by
 unfold nX
 repeat' first
  |exact dF|exact gD|exact gE|exact dR _|exact gF _ _|exact gG _ _ _|refine dC ?_|refine gH ?_|refine gI ?_|split
theorem md {P:Program} {src dst:TypeId} {x:AV} {S:St}:aA (ic P src dst x S):=by
 unfold ic
 repeat' first
  |exact dF|exact gD|exact gE|exact dR _|exact gF _ _|exact gG _ _ _|refine dC ?_|refine gH ?_|refine gI ?_|exact zQ|refine dd dU fun _ _=>?_|split
theorem ES {P:Program} {op:BinOp} {t:TypeId} {x y:AV} {S:St}:aA (AN P op t x y S):=by
 unfold AN
 repeat' first
  |exact dF|exact gD|exact gE|exact dR _|exact gF _ _|exact gG _ _ _|refine dC ?_|refine gH ?_|refine gI ?_|exact rz|split
theorem lh {o:List Ob} {a:AV}:aA (zo o a):=by
 unfold zo
 repeat' first
  |exact dF|exact gD|exact gE|exact dR _|exact gF _ _|exact gG _ _ _|refine dC ?_|refine gH ?_|refine gI ?_|exact fY|refine db fY fun _=>?_
  |refine bB fY fun _=>?_|split
theorem dp:∀ (xs:List AV) (o:List Ob),aA (i8 o xs)
 | [],o=>by
  show aA (fun K=>i8 o [] K)
  unfold i8
  repeat' first
   | exact aA.failN
   | exact au.failN
   | exact b9.failN
   | exact aA.ret _
   | exact au.ret _ _
   | exact b9.ret _ _ _
   | refine aA.chk ?_
   | refine au.chk ?_
   | refine b9.chk ?_
   | exact dp _ _
   | refine db (dp _ _) fun _=>?_
   | refine bB (dp _ _) fun _=>?_
   | exact lh
   | refine db lh fun _=>?_
   | refine bB lh fun _=>?_
   | split
 | x::xs,o=>by
  show aA (fun K=>i8 o (x::xs) K)
  unfold i8
  repeat' first
   | exact aA.failN
   | exact au.failN
   | exact b9.failN
   | exact aA.ret _
   | exact au.ret _ _
   | exact b9.ret _ _ _
   | refine aA.chk ?_
   | refine au.chk ?_
   | refine b9.chk ?_
   | exact dp _ _
   | refine db (dp _ _) fun _=>?_
   | refine bB (dp _ _) fun _=>?_
   | exact lh
   | refine db lh fun _=>?_
   | refine bB lh fun _=>?_
   | split
theorem cK:∀ (xs:List Nat) (S:St),aA (gu xs S)
 | [],S=>by
  show aA (fun K=>gu [] S K)
  unfold gu
  repeat' first
   | exact aA.failN
   | exact au.failN
   | exact b9.failN
   | exact aA.ret _
   | exact au.ret _ _
   | exact b9.ret _ _ _
   | refine aA.chk ?_
   | refine au.chk ?_
   | refine b9.chk ?_
   | exact cK _ _
   | refine db (cK _ _) fun _=>?_
   | refine bB (cK _ _) fun _=>?_
   | exact bH
   | refine db bH fun _=>?_
   | refine bB bH fun _=>?_
   | exact bv
   | refine db bv fun _=>?_
   | refine bB bv fun _=>?_
   | exact eE
   | refine db eE fun _=>?_
   | refine bB eE fun _=>?_
   | exact ao
   | refine db ao fun _=>?_
   | refine bB ao fun _=>?_
   | split
 | x::xs,S=>by
  show aA (fun K=>gu (x::xs) S K)
  unfold gu
  repeat' first
   | exact aA.failN
   | exact au.failN
   | exact b9.failN
   | exact aA.ret _
   | exact au.ret _ _
   | exact b9.ret _ _ _
   | refine aA.chk ?_
   | refine au.chk ?_
   | refine b9.chk ?_
   | exact cK _ _
   | refine db (cK _ _) fun _=>?_
   | refine bB (cK _ _) fun _=>?_
   | exact bH
   | refine db bH fun _=>?_
   | refine bB bH fun _=>?_
   | exact bv
   | refine db bv fun _=>?_
   | refine bB bv fun _=>?_
   | exact eE
   | refine db eE fun _=>?_
   | refine bB eE fun _=>?_
   | exact ao
   | refine db ao fun _=>?_
   | refine bB ao fun _=>?_
   | split
theorem fu:∀ (xs:List Nat) (t:List AV) (l:List (Nat×List AV)),au (j8 xs t l)
 | [],t,l=>by
  show au (fun K=>j8 [] t l K)
  unfold j8
  repeat' first
   | exact aA.failN
   | exact au.failN
   | exact b9.failN
   | exact aA.ret _
   | exact au.ret _ _
   | exact b9.ret _ _ _
   | refine aA.chk ?_
   | refine au.chk ?_
   | refine b9.chk ?_
   | exact fu _ _ _
   | refine dd (fu _ _ _) fun _ _=>?_
   | refine u6 (fu _ _ _) fun _ _=>?_
   | exact bH
   | refine db bH fun _=>?_
   | refine bB bH fun _=>?_
   | exact bv
   | refine db bv fun _=>?_
   | refine bB bv fun _=>?_
   | split
 | x::xs,t,l=>by
  show au (fun K=>j8 (x::xs) t l K)
  unfold j8
  repeat' first
   | exact aA.failN
   | exact au.failN
   | exact b9.failN
   | exact aA.ret _
   | exact au.ret _ _
   | exact b9.ret _ _ _
   | refine aA.chk ?_
   | refine au.chk ?_
   | refine b9.chk ?_
   | exact fu _ _ _
   | refine dd (fu _ _ _) fun _ _=>?_
   | refine u6 (fu _ _ _) fun _ _=>?_
   | exact bH
   | refine db bH fun _=>?_
   | refine bB bH fun _=>?_
   | exact bv
   | refine db bv fun _=>?_
   | refine bB bv fun _=>?_
   | split
theorem sW {C:Ctx} {f:AV} {args:List AV} {S:St} (hC:gz C):au (yf C f args S):=by
 unfold yf
 repeat' first
  |exact dF|exact gD|exact gE|exact dR _|exact gF _ _|exact gG _ _ _|refine dC ?_|refine gH ?_|refine gI ?_|exact dp _ _|refine db (dp _ _) fun _=>?_
  |refine bB (dp _ _) fun _=>?_|exact cK _ _|refine db (cK _ _) fun _=>?_|refine bB (cK _ _) fun _=>?_|exact fu _ _ _
  |refine dd (fu _ _ _) fun _ _=>?_|refine u6 (fu _ _ _) fun _ _=>?_|exact hC.pcall _ _|refine db (hC.pcall _ _) fun _=>?_|refine bB (hC.pcall _ _) fun _=>?_
  |refine u6 (hC.scall _ _ _) fun _ _=>?_|refine dd (hC.scall _ _ _) fun _ _=>?_|split
theorem cW {P:Program} {kt:TypeId} {key:AV} {es:List (AV×AV)}:au (cw P kt key es):=by
 unfold cw
 repeat' first
  |exact dF|exact gD|exact gE|exact dR _|exact gF _ _|exact gG _ _ _|refine dC ?_|refine gH ?_|refine gI ?_|split
theorem fJ {ok:Bool} {x:AV} {b:Bool}:aA (nY ok x b):=by
 unfold nY
 repeat' first
  |exact dF|exact gD|exact gE|exact dR _|exact gF _ _|exact gG _ _ _|refine dC ?_|refine gH ?_|refine gI ?_|split
theorem eK {P:Program} {e:TypeId} {ok:Bool}:aA (iK P e ok):=by
 unfold iK
 repeat' first
  |exact dF|exact gD|exact gE|exact dR _|exact gF _ _|exact gG _ _ _|refine dC ?_|refine gH ?_|refine gI ?_|exact fY|refine db fY fun _=>?_
  |refine bB fY fun _=>?_|exact fJ|refine db fJ fun _=>?_|refine bB fJ fun _=>?_|split
theorem oI {P:Program} {e:TypeId} {ok:Bool} {es:List (AV×AV)} {r:Option Nat}:aA (dI P e ok es r):=by
 unfold dI
 repeat' first
  |exact dF|exact gD|exact gE|exact dR _|exact gF _ _|exact gG _ _ _|refine dC ?_|refine gH ?_|refine gI ?_|exact fJ|refine db fJ fun _=>?_
  |refine bB fJ fun _=>?_|exact eK|refine db eK fun _=>?_|refine bB eK fun _=>?_|split
theorem oJ {P:Program} {t:TypeId} {m key:AV} {ok:Bool} {S:St}:aA (px P t m key ok S):=by
 unfold px
 repeat' first
  |exact dF|exact gD|exact gE|exact dR _|exact gF _ _|exact gG _ _ _|refine dC ?_|refine gH ?_|refine gI ?_|exact cW|refine dd cW fun _ _=>?_
  |refine u6 cW fun _ _=>?_|exact eK|refine db eK fun _=>?_|refine bB eK fun _=>?_|exact oI|refine db oI fun _=>?_
  |refine bB oI fun _=>?_|split
theorem li {P:Program} {t:TypeId} {m key x:AV} {S:St}:aA (eJ P t m key x S):=by
 unfold eJ
 repeat' first
  |exact dF|exact gD|exact gE|exact dR _|exact gF _ _|exact gG _ _ _|refine dC ?_|refine gH ?_|refine gI ?_|exact cW|refine dd cW fun _ _=>?_
  |refine u6 cW fun _ _=>?_|exact ao|refine db ao fun _=>?_|refine bB ao fun _=>?_|split
theorem u9 {C:Ctx} {pl:br} {o:Oper} {vs:List AV}:aA (pop C pl o vs):=by
 unfold pop
 repeat' first
  |exact dF|exact gD|exact gE|exact dR _|exact gF _ _|exact gG _ _ _|refine dC ?_|refine gH ?_|refine gI ?_|refine aA.fork ?_ ?_|refine au.fork ?_ ?_
  |exact qK|refine db qK fun _=>?_|refine bB qK fun _=>?_|exact ni|refine db ni fun _=>?_|refine bB ni fun _=>?_
  |exact rz|refine db rz fun _=>?_|refine bB rz fun _=>?_|exact zO|refine db zO fun _=>?_|refine bB zO fun _=>?_|exact bp
  |refine db bp fun _=>?_|refine bB bp fun _=>?_|exact lg|refine db lg fun _=>?_|refine bB lg fun _=>?_
  |exact qN|refine db qN fun _=>?_|refine bB qN fun _=>?_|exact qM|refine db qM fun _=>?_|refine bB qM fun _=>?_
  |exact gQ|refine db gQ fun _=>?_|refine bB gQ fun _=>?_|exact v9|refine db v9 fun _=>?_|refine bB v9 fun _=>?_
  |split
theorem u_ {C:Ctx} {o:Oper} {vs:List AV} {M:St} (hC:gz C):aA (q_ C o vs M):=by
 unfold q_
 repeat' first
  |exact dF|exact gD|exact gE|exact dR _|exact gF _ _|exact gG _ _ _|refine dC ?_|refine gH ?_|refine gI ?_|exact u7|refine dd u7 fun _ _=>?_
  |refine u6 u7 fun _ _=>?_|exact cU|refine db cU fun _=>?_|refine bB cU fun _=>?_|exact ES|exact md|refine db md fun _=>?_
  |refine bB md fun _=>?_|exact qL|refine db qL fun _=>?_|refine bB qL fun _=>?_|exact a7|refine db a7 fun _=>?_
  |refine bB a7 fun _=>?_|exact lf|refine db lf fun _=>?_|refine bB lf fun _=>?_|exact oJ|refine db oJ fun _=>?_
  |refine bB oJ fun _=>?_|exact v8|refine db v8 fun _=>?_|refine bB v8 fun _=>?_|exact dp _ _|refine db (dp _ _) fun _=>?_
  |refine bB (dp _ _) fun _=>?_|exact hC.pcall _ _|refine db (hC.pcall _ _) fun _=>?_|refine bB (hC.pcall _ _) fun _=>?_|split
theorem lR {C:Ctx} {o:Oper} {vs:List AV} {M:St}:au (yg C o vs M):=by
 unfold yg
 repeat' first
  |exact dF|exact gD|exact gE|exact dR _|exact gF _ _|exact gG _ _ _|refine dC ?_|refine gH ?_|refine gI ?_|exact bR|refine db bR fun _=>?_
  |refine bB bR fun _=>?_|exact qJ|refine db qJ fun _=>?_|refine bB qJ fun _=>?_|split
theorem va {C:Ctx} {o:Oper} {vs:List AV}:aA (Ke C o vs):=by
 unfold Ke
 repeat' first
  |exact dF|exact gD|exact gE|exact dR _|exact gF _ _|exact gG _ _ _|refine dC ?_|refine gH ?_|refine gI ?_|exact zP|split
theorem v_ {C:Ctx} {o:Oper} {S:St}:aA (EC C o S):=by
 unfold EC
 repeat' first
  |exact dF|exact gD|exact gE|exact dR _|exact gF _ _|exact gG _ _ _|refine dC ?_|refine gH ?_|refine gI ?_|exact a6|refine db a6 fun _=>?_
  |refine bB a6 fun _=>?_|exact va|refine db va fun _=>?_|refine bB va fun _=>?_|exact bh|refine db bh fun _=>?_
  |refine bB bh fun _=>?_|split
theorem mK {C:Ctx} {pl:br} {o:Oper} {S:St}:aA (Ez C pl o S):=by
 unfold Ez
 repeat' first
  |exact dF|exact gD|exact gE|exact dR _|exact gF _ _|exact gG _ _ _|refine dC ?_|refine gH ?_|refine gI ?_|exact a6|refine db a6 fun _=>?_
  |refine bB a6 fun _=>?_|exact u9|refine db u9 fun _=>?_|refine bB u9 fun _=>?_|exact bh|refine db bh fun _=>?_
  |refine bB bh fun _=>?_|split
theorem mL {C:Ctx} {o:Oper} {S:St} (hC:gz C):aA (EA C o S):=by
 unfold EA
 repeat' first
  |exact dF|exact gD|exact gE|exact dR _|exact gF _ _|exact gG _ _ _|refine dC ?_|refine gH ?_|refine gI ?_|exact a6|refine db a6 fun _=>?_
  |refine bB a6 fun _=>?_|exact u_ hC|refine db (u_ hC) fun _=>?_|refine bB (u_ hC) fun _=>?_|exact bh|refine db bh fun _=>?_
  |refine bB bh fun _=>?_|split
theorem wa {C:Ctx} {o:Oper} {S:St}:aA (EB C o S):=by
 unfold EB
 repeat' first
  |exact dF|exact gD|exact gE|exact dR _|exact gF _ _|exact gG _ _ _|refine dC ?_|refine gH ?_|refine gI ?_|exact a6|refine db a6 fun _=>?_
  |refine bB a6 fun _=>?_|exact lR|refine dd lR fun _ _=>?_|refine u6 lR fun _ _=>?_|exact bh|refine db bh fun _=>?_
  |refine bB bh fun _=>?_|split
theorem pC {C:Ctx} {pl:br} {o:Oper} {S:St} (hC:gz C):aA (xw C pl o S):=by
 unfold xw
 repeat' first
  |exact dF|exact gD|exact gE|exact dR _|exact gF _ _|exact gG _ _ _|refine dC ?_|refine gH ?_|refine gI ?_|exact aP|refine db aP fun _=>?_
  |refine bB aP fun _=>?_|exact v7|refine db v7 fun _=>?_|refine bB v7 fun _=>?_|exact bX|refine db bX fun _=>?_
  |refine bB bX fun _=>?_|exact bR|refine db bR fun _=>?_|refine bB bR fun _=>?_|exact a6|refine db a6 fun _=>?_
  |refine bB a6 fun _=>?_|exact kg|refine db kg fun _=>?_|refine bB kg fun _=>?_|exact ao|refine db ao fun _=>?_
  |refine bB ao fun _=>?_|exact bh|refine db bh fun _=>?_|refine bB bh fun _=>?_|exact fZ|refine dd fZ fun _ _=>?_
  |refine u6 fZ fun _ _=>?_|exact li|refine db li fun _=>?_|refine bB li fun _=>?_|exact nj
  |refine dd nj fun _ _=>?_|refine u6 nj fun _ _=>?_|exact oH|refine dd oH fun _ _=>?_|refine u6 oH fun _ _=>?_
  |refine db CE fun _=>?_|exact sV|refine dd sV fun _ _=>?_|refine u6 sV fun _ _=>?_|exact sW hC|refine dd (sW hC) fun _ _=>?_|refine u6 (sW hC) fun _ _=>?_
  |split
theorem au.swap {α β:Type} {X:(α→β→Prop)→Prop} (h:au X):au (fun k:β→α→Prop=>X fun a b=>k b a):=fun k hk=>by
 obtain ⟨a,b,h1,h2⟩:=h _ hk
 exact ⟨b,a,h1,fun k' hk'=>h2 _ hk'⟩
theorem ET {C:Ctx} {o:Oper} {vs:List AV} {M:St} (hC:gz C):au (lM C o vs M):=by
 unfold lM
 split
 ·exact au.swap fZ
 ·split
  ·refine au.chk ?_
   refine au.bind2 (hC.scall _ _ _) (fun _ _=>?_)
   exact au.chk (au.ret _ _)
  ·exact au.failN
 ·exact lR
theorem rA {S:St} {id:Nat}:aA (iL S id):=by
 unfold iL
 repeat' first
  |exact dF|exact gD|exact gE|exact dR _|exact gF _ _|exact gG _ _ _|refine dC ?_|refine gH ?_|refine gI ?_
  |exact ao|refine db ao fun _=>?_|refine bB ao fun _=>?_
  |exact (cK _ _)|refine db (cK _ _) fun _=>?_|refine bB (cK _ _) fun _=>?_
  |split
theorem oK:∀ (ids:List Nat) (S:St),aA (py ids S)
 | [],_=>aA.ret _
 | id::ids,S=>by
  show aA (fun K=>iL S id fun S'=>py ids S' K)
  exact aA.bind rA (fun S'=>oK ids S')
theorem ua {S:St} {id:Nat}:aA (kx S id):=by
 unfold kx
 split
 ·exact aA.bind ao (fun _=>aA.ret _)
 ·exact aA.ret _
theorem rB:∀ (ids:List Nat) (S:St),aA (mE ids S)
 | [],_=>aA.ret _
 | id::ids,S=>by
  show aA (fun K=>kx S id fun S'=>mE ids S' K)
  exact aA.bind ua (fun S'=>rB ids S')
theorem sX {pl:br} {id:Nat} {S:St}:aA (lL pl id S):=by
 unfold lL
 split
 ·exact aA.ret _
 ·refine aA.bind (oK _ _) (fun S1=>?_)
  split
  ·exact aA.ret _
  ·exact rB _ _
theorem gB {S:St} {id i:Nat}:au (fC S id i):=by
 unfold fC
 repeat' first
  |exact dF|exact gD|exact gE|exact dR _|exact gF _ _|exact gG _ _ _|refine dC ?_|refine gH ?_|refine gI ?_
  |exact ao|refine db ao fun _=>?_|refine bB ao fun _=>?_
  |split
theorem zR {P:Program} {t:TypeId} {same:Bool} {S:St} {id i:Nat}:au (iM P t same S id i):=by
 unfold iM
 repeat' first
  |exact dF|exact gD|exact gE|exact dR _|exact gF _ _|exact gG _ _ _|refine dC ?_|refine gH ?_|refine gI ?_
  |exact cU|refine db cU fun _=>?_|refine bB cU fun _=>?_
  |exact gB|refine dd gB fun _ _=>?_|refine u6 gB fun _ _=>?_
  |split
theorem xK {P:Program} {t:TypeId} {S:St} {id i:Nat} {v:AV}:aA (gv P t S id i v):=by
 unfold gv
 repeat' first
  |exact dF|exact gD|exact gE|exact dR _|exact gF _ _|exact gG _ _ _|refine dC ?_|refine gH ?_|refine gI ?_
  |exact ao|refine db ao fun _=>?_|refine bB ao fun _=>?_
  |split
theorem zS {P:Program} {t:TypeId} {l c:AV} {S:St}:au (gN P t l c S):=by
 unfold gN
 repeat' first
  |exact dF|exact gD|exact gE|exact dR _|exact gF _ _|exact gG _ _ _|refine dC ?_|refine gH ?_|refine gI ?_
  |exact ao|refine db ao fun _=>?_|refine bB ao fun _=>?_
  |exact a7|refine db a7 fun _=>?_|refine bB a7 fun _=>?_
  |exact aP|refine db aP fun _=>?_|refine bB aP fun _=>?_
  |split
theorem uH {P:Program} {t:TypeId} {S:St}:au (fW P t S):=by
 unfold fW
 repeat' first
  |exact dF|exact gD|exact gE|exact dR _|exact gF _ _|exact gG _ _ _|refine dC ?_|refine gH ?_|refine gI ?_
  |exact ao|refine db ao fun _=>?_|refine bB ao fun _=>?_
  |split
theorem zT {P:Program} {t:TypeId} {m key:AV} {ok:Bool} {S:St}:au (iN P t m key ok S):=by
 unfold iN
 repeat' first
  |exact dF|exact gD|exact gE|exact dR _|exact gF _ _|exact gG _ _ _|refine dC ?_|refine gH ?_|refine gI ?_
  |exact fJ|refine db fJ fun _=>?_|refine bB fJ fun _=>?_
  |exact eK|refine db eK fun _=>?_|refine bB eK fun _=>?_
  |exact cW|refine dd cW fun _ _=>?_|refine u6 cW fun _ _=>?_
  |exact gB|refine dd gB fun _ _=>?_|refine u6 gB fun _ _=>?_
  |split
theorem uc {P:Program} {t:TypeId} {m key x:AV} {S:St}:aA (jK P t m key x S):=by
 unfold jK
 repeat' first
  |exact dF|exact gD|exact gE|exact dR _|exact gF _ _|exact gG _ _ _|refine dC ?_|refine gH ?_|refine gI ?_
  |exact ao|refine db ao fun _=>?_|refine bB ao fun _=>?_
  |exact cW|refine dd cW fun _ _=>?_|refine u6 cW fun _ _=>?_
  |split
theorem yE {M:St} {x:AV} {X:Nat→Nat→(AV→St→Prop)→Prop} (h:∀ id i,au (X id i)):au (fun k=>jj M x fun id i=>X id i k):=by
 unfold jj
 split
 ·split
  ·exact h _ _
  ·exact au.failN
 ·exact au.failN
theorem wb {P:Program} {pl:br} {o:Oper} {vs:List AV} {M:St}:au (lz P pl o vs M):=by
 unfold lz
 split
 ·exact yE fun _ _=>zR
 ·exact yE fun _ _=>aA.bind2 xK (fun _=>au.ret _ _)
 ·exact zS
 ·exact uH
 ·exact zT
 ·exact aA.bind2 uc (fun _=>au.ret _ _)
 ·exact aA.bind2 uc (fun _=>au.ret _ _)
 ·exact au.failN
theorem Bm {C:Ctx} {pl:br} {o:Oper} {S:St}:aA (zq C pl o S):=by
 unfold zq
 exact aA.bind a6 (fun _=>au.bind wb (fun _ _=>bh))
theorem Bn {C:Ctx} {pl:br} {o:Oper} {vs:List AV} {M:St} (hC:gz C):au (m5 C pl o vs M):=by
 unfold m5
 split
 ·exact wb
 ·exact ET hC
theorem sY {C:Ctx} {pl:br} {o:Oper} {S:St} (hC:gz C):aA (pV C pl o S):=by
 unfold pV
 exact aA.bind a6 (fun _=>au.bind (Bn hC) (fun _ _=>bh))
theorem iT {C:Ctx} {pl:br} {o:Oper} {S:St} (hC:gz C):aA (xt C pl o S):=by
 unfold xt
 repeat' first
  |exact dF|exact gD|exact gE|exact dR _|exact gF _ _|exact gG _ _ _|refine dC ?_|refine gH ?_|refine gI ?_|exact mK|refine db mK fun _=>?_
  |refine bB mK fun _=>?_|exact mL hC|refine db (mL hC) fun _=>?_|refine bB (mL hC) fun _=>?_|exact sY hC|refine db (sY hC) fun _=>?_
  |refine bB (sY hC) fun _=>?_|exact v_|refine db v_ fun _=>?_|refine bB v_ fun _=>?_|exact bh|refine db bh fun _=>?_
  |refine bB bh fun _=>?_|exact pC hC|refine db (pC hC) fun _=>?_|refine bB (pC hC) fun _=>?_|split
theorem Bo {C:Ctx} {pl:br} {o:Oper} {S:St} (hC:gz C):aA (zr C pl o S):=by
 unfold zr
 repeat' first
  |exact dF|exact gD|exact gE|exact dR _|exact gF _ _|exact gG _ _ _|refine dC ?_|refine gH ?_|refine gI ?_|exact mK|refine db mK fun _=>?_
  |refine bB mK fun _=>?_|exact mL hC|refine db (mL hC) fun _=>?_|refine bB (mL hC) fun _=>?_|exact wa|refine db wa fun _=>?_
  |refine bB wa fun _=>?_|exact pC hC|refine db (pC hC) fun _=>?_|refine bB (pC hC) fun _=>?_|split
theorem pD {C:Ctx} {pl:br} {o:Oper} {S:St} (hC:gz C):aA (FU C pl o S):=by
 unfold FU
 split
 ·exact Bm
 ·exact Bo hC
theorem dQ {d:Nat} {S:St}:au (iO d S):=by
 unfold iO
 repeat' first
  |exact dF|exact gD|exact gE|exact dR _|exact gF _ _|exact gG _ _ _|refine dC ?_|refine gH ?_|refine gI ?_|refine aA.fork ?_ ?_|refine au.fork ?_ ?_
  |exact gQ|refine db gQ fun _=>?_|refine bB gQ fun _=>?_|exact jZ|refine db jZ fun _=>?_|refine bB jZ fun _=>?_
  |split
theorem wc {C:Ctx} {pl:br} {all:Array Oper} {o:Oper} {S:St} (hC:gz C):aA (uC C pl all o S):=by
 unfold uC
 repeat' first
  |exact dF|exact gD|exact gE|exact dR _|exact gF _ _|exact gG _ _ _|refine dC ?_|refine gH ?_|refine gI ?_|exact iT hC|refine db (iT hC) fun _=>?_
  |refine bB (iT hC) fun _=>?_|split
theorem F_ {C:Ctx} {pl:br} {all:Array Oper} {o:Oper} {S:St} (hC:gz C):aA (ag C pl all o S):=by
 unfold ag
 repeat' first
  |exact dF|exact gD|exact gE|exact dR _|exact gF _ _|exact gG _ _ _|refine dC ?_|refine gH ?_|refine gI ?_|exact wc hC|refine db (wc hC) fun _=>?_
  |refine bB (wc hC) fun _=>?_|exact dQ|refine dd dQ fun _ _=>?_|refine u6 dQ fun _ _=>?_|exact bh|refine db bh fun _=>?_
  |refine bB bh fun _=>?_|exact iT hC|refine db (iT hC) fun _=>?_|refine bB (iT hC) fun _=>?_|refine aA.gsel ?_ ?_|split
theorem lj {C:Ctx} {pl:br} {all:Array Oper} (hC:gz C):∀ (os:List Oper) (S:St),aA (sG C pl all os S)
 | [],S=>by
  show aA (fun K=>sG C pl all [] S K)
  unfold sG
  repeat' first
   | exact aA.failN
   | exact au.failN
   | exact b9.failN
   | exact aA.ret _
   | exact au.ret _ _
   | exact b9.ret _ _ _
   | refine aA.chk ?_
   | refine au.chk ?_
   | refine b9.chk ?_
   | exact lj hC _ _
   | refine db (lj hC _ _) fun _=>?_
   | refine bB (lj hC _ _) fun _=>?_
   | exact pD hC
   | refine db (pD hC) fun _=>?_
   | refine bB (pD hC) fun _=>?_
   | exact dQ
   | refine dd dQ fun _ _=>?_
   | refine u6 dQ fun _ _=>?_
   | exact bh
   | refine db bh fun _=>?_
   | refine bB bh fun _=>?_
   | refine aA.gsel ?_ ?_
   | split
 | x::xs,S=>by
  show aA (fun K=>sG C pl all (x::xs) S K)
  unfold sG
  repeat' first
   | exact aA.failN
   | exact au.failN
   | exact b9.failN
   | exact aA.ret _
   | exact au.ret _ _
   | exact b9.ret _ _ _
   | refine aA.chk ?_
   | refine au.chk ?_
   | refine b9.chk ?_
   | exact lj hC _ _
   | refine db (lj hC _ _) fun _=>?_
   | refine bB (lj hC _ _) fun _=>?_
   | exact pD hC
   | refine db (pD hC) fun _=>?_
   | refine bB (pD hC) fun _=>?_
   | exact dQ
   | refine dd dQ fun _ _=>?_
   | refine u6 dQ fun _ _=>?_
   | exact bh
   | refine db bh fun _=>?_
   | refine bB bh fun _=>?_
   | refine aA.gsel ?_ ?_
   | split
theorem iU:∀ (xs:List (Nat×TypeId)) (P:Program) (S:St),aA (zu P xs S)
 | [],P,S=>by
  show aA (fun K=>zu P [] S K)
  unfold zu
  repeat' first
   | exact aA.failN
   | exact au.failN
   | exact b9.failN
   | exact aA.ret _
   | exact au.ret _ _
   | exact b9.ret _ _ _
   | refine aA.chk ?_
   | refine au.chk ?_
   | refine b9.chk ?_
   | exact iU _ _ _
   | refine db (iU _ _ _) fun _=>?_
   | refine bB (iU _ _ _) fun _=>?_
   | exact aP
   | refine db aP fun _=>?_
   | refine bB aP fun _=>?_
   | split
 | (d,e)::xs,P,S=>by
  show aA (fun K=>zu P ((d,e)::xs) S K)
  unfold zu
  repeat' first
   | exact aA.failN
   | exact au.failN
   | exact b9.failN
   | exact aA.ret _
   | exact au.ret _ _
   | exact b9.ret _ _ _
   | refine aA.chk ?_
   | refine au.chk ?_
   | refine b9.chk ?_
   | exact iU _ _ _
   | refine db (iU _ _ _) fun _=>?_
   | refine bB (iU _ _ _) fun _=>?_
   | exact aP
   | refine db aP fun _=>?_
   | refine bB aP fun _=>?_
   | split
theorem Bp {P:Program} {xs:List (Nat×TypeId)} {S:St}:aA (AQ P xs S):=by
 unfold AQ
 repeat' first
  |exact dF|exact gD|exact gE|exact dR _|exact gF _ _|exact gG _ _ _|refine dC ?_|refine gH ?_|refine gI ?_|exact ft _ _|refine db (ft _ _) fun _=>?_
  |refine bB (ft _ _) fun _=>?_|exact iU _ _ _|refine db (iU _ _ _) fun _=>?_|refine bB (iU _ _ _) fun _=>?_|split
end A
end Go.Proofs.YtomahedcdcnnhaaGreatDoor
