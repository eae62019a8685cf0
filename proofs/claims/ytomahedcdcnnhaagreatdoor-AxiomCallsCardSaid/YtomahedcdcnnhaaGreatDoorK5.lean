/- Code, functions, fuel. Nothing is claimed here of the program. -/
import Derived.Test.YtomahedcdcnnhaaGreatDoorK4
import Derived.TacticsIn
import Derived.OrdersIn
import Derived.LoopNIn
namespace Go.Proofs.YtomahedcdcnnhaaGreatDoor
namespace A
open Go
open Go.RowKit (Below)
def IQ (E:Env) (w:World):Gh:={ w0:=w,M:=fun b=>∃ k o s n,zF E.mu k=some (.blk b o s n),F:=E.F,mu:=fun id=>E.mu (.O id) }
def IH (o:List Ob) (b:Nat):St:={ t:=[],l:=[],o:=o,b:=b }
def sT (P:Program) (f:Nat) (args:List AV) (o:List Ob) (K:AV→List Ob→Prop):Prop :=
 sQ P f∧∀ (E:Env) (w:World) (us:Array Value),al (IQ E w) pn E (IH o o.length) w→Cc E→bO E args us.toList →
  Calls P f us w fun e w'=>∃ v r o' E',K r o'∧e=.returned v∧al (IQ E w) pn E' (IH o' o.length) w'∧VR E' r v
theorem vi:∀ {xs ys:List Ob} {n j:Nat} {x:Ob},xs[j]?=some x→x≠.dead→ys[j]?=some .dead→n + j∈bH xs ys n
 | [],_,_,_,_,h,_,_=>by simp at h
 | _::_,[],_,_,_,_,_,h=>by simp at h
 | x0::xs,y0::ys,n,0,x,h1,h2,h3=>by
  simp at h1 h3
  subst h1 h3
  cases x0 with
  | dead=>exact absurd rfl h2
  | arr _ _ _=>simp [bH]
  | mapo _ _=>simp [bH]
  | own _ _ _ _=>simp [bH]
 | x0::xs,y0::ys,n,j + 1,x,h1,h2,h3=>by
  have ih:=vi (xs:=xs) (ys:=ys) (n:=n + 1) (j:=j) (by simpa using h1) h2 (by simpa using h3)
  rw [show n + 1 + j=n + (j + 1) by omega] at ih
  cases x0 <;> cases y0 <;> simp [bH,ih]
def A9 (ids:List Nat) (t:List AV):List AV:=ids.foldl (fun t id=>t.map (cK 4 (.O id))) t
def rT (ids:List Nat) (l:List (Nat×List AV)):List (Nat×List AV):=ids.foldl (fun l id=>l.map (ir (.O id))) l
theorem w_:∀ {ids:List Nat} {t:List AV} {l:List (Nat×List AV)} {K:List AV→List (Nat×List AV)→Prop},kz ids t l K↔K (A9 ids t) (rT ids l)
 | [],_,_,_=>Iff.rfl
 | id::ids,t,l,K=>by
  show nf _ _ _↔_
  rw [iJ,iK]
  exact w_ (ids:=ids)
theorem sU {a:Act}:∀ {ids:List Nat} {E:Env} {t:List AV},TR E t a→TR ⟨E.F,mW ids E.mu,E.h⟩ (A9 ids t) a
 | [],_,_,h=>h
 | id::ids,E,_,h=>sU (ids:=ids) (E:=⟨E.F,aK E.mu (.O id),E.h⟩) (h.kill nh)
theorem vj {e:Nat} {row:List AV}:∀ {ids:List Nat} {l:List (Nat×List AV)},aG l e=some row→(∀ k,row.map (cK 4 k)=row)→aG (rT ids l) e=some row
 | [],_,h,_=>h
 | id::ids,l,h,hk=>vj (ids:=ids) (l:=l.map (ir (.O id))) (by
   rw [fP,h]
   show some _=_
   rw [hk]) hk
theorem sV {pd:Nat→Option (List AV)}:∀ {ids:List Nat} {E:Env} {l:List (Nat×List AV)},(∀ d,iz pd E (aG l d) d)→∀ d,iz pd ⟨E.F,mW ids E.mu,E.h⟩ (aG (rT ids l) d) d
 | [],_,_,h=>h
 | id::ids,E,l,h=>sV (ids:=ids) (E:=⟨E.F,aK E.mu (.O id),E.h⟩) (fun e=>by
  rw [fP]
  have hmu:aK E.mu (.O id) (.L e)=E.mu (.L e):=qF (fun h=>by cases h)
  have:=h e
  revert this
  cases aG l e with
  | none=>exact fun h=>hmu.trans h
  | some row =>
   rintro (⟨b',h1,h2⟩ | ⟨h1,h2⟩)
   ·refine .inl ⟨b',hmu.trans (by simpa using h1),?_⟩
    have:=h2.kill (nh (E:=E) (k:=.O id)) (h':=E.h) rfl
    simpa using this
   ·exact iz.pend_kill hmu h1 h2)
theorem pV:∀ {ids:List Nat} {mu:Key→Option MV} {d:Nat},mW ids mu (.L d)=mu (.L d)
 | [],_,_=>rfl
 | id::ids,mu,d=>by
  show mW ids (aK mu (.O id)) (.L d)=_
  rw [pV]
  exact qF (fun h=>by cases h)
theorem Kj (E:Env):E.ob.ob=E.ob:=by
 have:zF (zF E.mu)=zF E.mu:=by
  funext k
  cases k <;> rfl
 unfold Env.ob
 rw [this]
theorem je {E:Env} {k:Key} {x:MV} (h:E.ob.mu k=some x):E.mu k=some x:=gB (k:=k) h
theorem gN.ob {E:Env} {x:Option Ob} {mv:Option MV} (h:gN E x mv):gN E.ob x mv:=by
 revert h
 cases x with
 | none=>cases mv <;> exact fun h=>h
 | some ob =>
  cases ob with
  | dead=>cases mv <;> exact fun h=>h
  | arr fl sz' rows =>
   cases mv with
   | none=>exact fun h=>h
   | some mv =>
    cases mv with
    | virt=>exact fun h=>h
    | blk b o s n =>
     cases fl with
     | true=>exact fun h=>h
     | false =>
      rintro ⟨h1,h2⟩
      refine ⟨h1,?_⟩
      show ce E.ob.ob _ _ _ _ _
      rw [Kj]
      exact h2
  | own _ _ _ _ =>
   cases mv with
   | none=>exact fun h=>h.elim
   | some mv=>cases mv <;> exact fun h=>h
  | mapo fl es =>
   cases mv with
   | none=>exact fun h=>h
   | some mv =>
    cases mv with
    | virt=>exact fun h=>h
    | blk b o s n =>
     rintro ⟨ms,clock,h1,h2,h3⟩
     refine ⟨ms,clock,h1,h2,fun i e m h4 h5=>?_⟩
     obtain ⟨h6,h7⟩:=h3 i e m h4 h5
     refine ⟨h6,?_⟩
     cases fl with
     | true=>exact h7
     | false =>
      show VR E.ob.ob _ _
      rw [Kj]
      exact h7
theorem eV.ob {E:Env} {id:Nat} {x:Option Ob} (h:eV E id x):eV E.ob id x:=h.mono rfl (fun _=>rfl) (LE.refl _) (by rw [Kj]; exact LE.refl _) (fun _ _ _ _ _ _ _=>rfl)
section
variable {G:Gh} {pd:Nat→Option (List AV)} {E:Env} {S:St} {w:World} {P:Program} {o:Oper} {a:Act}
theorem al.sub (hM:al G pd E S w):al (IQ E.ob w) pn E.ob (IH S.o S.o.length) w :=
 ⟨hM.hp,rfl,rfl,rfl,Nat.le_refl _,fun _ _ _=>rfl,fun _ h=>h,hM.Flt,fun _ h _=>.inl h,
  fun k b o s n h=>by
   cases k with
   | L d=>cases h
   | O id =>
    obtain ⟨h1,h2,_⟩:=hM.own _ b o s n (je h)
    exact ⟨h1,h2,.inl ⟨.O id,o,s,n,h⟩⟩
   | S id i =>
    obtain ⟨h1,h2,_⟩:=hM.own _ b o s n (je h)
    exact ⟨h1,h2,.inl ⟨.S id i,o,s,n,h⟩⟩,
  fun k k' b o s n o' s' n' h h'=>hM.inj k k' b o s n o' s' n' (je h) (je h'),fun _=>rfl,fun id=>(hM.obj id).ob,fun _ _=>.inr rfl,Nat.le_refl _,fun _ _=>rfl,fun _ _ h=>(by cases h),fun id=>(hM.ow id).ob⟩
def sW (mu mu':Key→Option MV):Key→Option MV
 | .L d=>mu (.L d)
 | .O id=>mu' (.O id)
 | .S id i=>mu' (.S id i)
theorem al.back (hM:al G pd E S w) (ht:TR E S.t a) {E':Env} {o':List Ob} {w':World} (hM':al (IQ E.ob w) pn E' (IH o' S.o.length) w') :
  al G pd ⟨E'.F,sW E.mu E'.mu,E'.h⟩ { t:=A9 (bH S.o o' 0) S.t,l:=rT (bH S.o o' 0) S.l,o:=o',b:=S.b } w'∧TR ⟨E'.F,sW E.mu E'.mu,E'.h⟩ (A9 (bH S.o o' 0) S.t) a∧LE E' ⟨E'.F,sW E.mu E'.mu,E'.h⟩:=by
 have hL':∀ d,E'.mu (.L d)=none:=fun d=>hM'.loc d
 have hsz:w.heap.size≤w'.heap.size:=hM'.size
 have notM:∀ b,E.F b→¬ (IQ E.ob w).M b:=by
  rintro b hF ⟨k,x,s,n,h⟩
  exact (hM.own _ _ _ _ _ (je (gB h))).1 hF
 have MG:∀ b,(IQ E.ob w).M b→G.M b∨G.w0.heap.size≤b:=by
  rintro b ⟨k,x,s,n,h⟩
  exact (hM.own _ _ _ _ _ (je (gB h))).2.2
 have Mlt:∀ b,(IQ E.ob w).M b→b<w.heap.size:=by
  rintro b ⟨k,x,s,n,h⟩
  exact (hM.own _ _ _ _ _ (je (gB h))).2.1
 have LnotM:∀ d b x s n,E.mu (.L d)=some (.blk b x s n)→¬ (IQ E.ob w).M b:=by
  rintro d b x s n h ⟨k,x',s',n',h'⟩
  have:=hM.inj _ _ _ _ _ _ _ _ _ h (je (gB h'))
  subst this
  cases h'
 have hle:LE ⟨E.F,mW (bH S.o o' 0) E.mu,E.h⟩ ⟨E'.F,sW E.mu E'.mu,E'.h⟩:=by
  have kept:∀ id x,mW (bH S.o o' 0) E.mu (.O id)=some x→E.mu (.O id)=some x∧E'.mu (.O id)=some x:=by
   intro id x h
   obtain ⟨h1,h2⟩:=ko h
   refine ⟨h1,?_⟩
   have hob:=hM.obj id
   rw [h1] at hob
   have hid:id<S.o.length:=by
    rcases Nat.lt_or_ge id S.o.length with h3 | h3
    ·exact h3
    ·rw [List.getElem?_eq_none h3] at hob
     exact hob.elim
   rcases hM'.old id hid with h3 | h3
   ·exfalso
    have hx:=List.getElem?_eq_getElem hid
    rw [hx] at hob
    have hnd:S.o[id]≠.dead:=fun hd=>by rw [hd] at hob; exact hob.elim
    have:=vi (n:=0) hx hnd h3
    rw [Nat.zero_add] at this
    exact h2 _ this rfl
   ·rw [h3]; exact h1
  refine ⟨fun b h=>hM'.F0 b h,fun k x hs h=>?_,fun b h=>?_,fun k b x s n hs h=>?_⟩
  ·cases k with
   | S _ _=>cases hs
   | L d =>
    show E.mu (.L d)=_
    exact (pV (ids:=bH S.o o' 0)).symm.trans h
   | O id=>exact (kept id x h).2
  ·show E'.h[b]?=E.h[b]?
   rw [hM'.hp,hM.hp]
   exact hM'.keep b (hM.Flt b h) (notM b h)
  ·show aU E'.h b=aU E.h b
   rw [hM'.hp,hM.hp]
   have:b<w.heap.size:=(hM.own _ _ _ _ _ (ko h).1).2.1
   exact hM'.szs b this
 refine ⟨⟨hM'.hp,hM'.os.trans hM.os,hM'.tape.trans hM.tape,hM'.output.trans hM.output,Nat.le_trans hM.size hsz,fun b h1 h2=>?_,fun b h=>hM'.F0 b (hM.F0 b h),hM'.Flt,fun b h1 h2=>?_,fun k b x s n h=>?_,fun k k' b x s n x' s' n' h h'=>?_,
  fun d=>?_,fun id=>?_,fun id hid=>?_,?_,fun b hb=>?_,fun e row h=>?_,fun id=>(hM'.ow id).mono rfl (fun _=>rfl) (LE.refl _) ⟨fun _ h=>h,fun k x hs h=>(by
   cases k with
   | L d=>cases h
   | O i=>exact h
   | S i j=>cases hs),fun _ _=>rfl,fun _ _ _ _ _ _ _=>rfl⟩ (fun _ _ _ _ _ _ _=>rfl)⟩,(sU ht).mono hle,⟨fun _ h=>h,fun k x hs h=>?_,fun _ _=>rfl,fun _ _ _ _ _ _ _=>rfl⟩⟩
 ·rw [hM'.keep b (Nat.lt_of_lt_of_le h1 hM.size) (fun h=>by
   rcases MG b h with h3 | h3
   ·exact h2 h3
   ·omega)]
  exact hM.keep b h1 h2
 ·rcases hM'.Fnew b h1 (Nat.lt_of_lt_of_le h2 hM.size) with h3 | h3
  ·exact hM.Fnew b h3 h2
  ·rcases MG b h3 with h4 | h4
   ·exact .inr h4
   ·omega
 ·cases k with
  | L d =>
   obtain ⟨h1,h2,h3⟩:=hM.own _ b x s n h
   refine ⟨fun hF=>?_,Nat.lt_of_lt_of_le h2 hsz,h3⟩
   rcases hM'.Fnew b hF h2 with h4 | h4
   ·exact h1 h4
   ·exact LnotM d b x s n h h4
  | O id =>
   obtain ⟨h1,h2,h3⟩:=hM'.own _ b x s n h
   refine ⟨h1,h2,?_⟩
   rcases h3 with h3 | h3
   ·exact MG b h3
   ·exact .inr (Nat.le_trans hM.size h3)
  | S id i =>
   obtain ⟨h1,h2,h3⟩:=hM'.own _ b x s n h
   refine ⟨h1,h2,?_⟩
   rcases h3 with h3 | h3
   ·exact MG b h3
   ·exact .inr (Nat.le_trans hM.size h3)
 ·have mix:∀ {d:Nat} {key:Key} {b x s n x' s' n':Nat},E.mu (.L d)=some (.blk b x s n)→E'.mu key=some (.blk b x' s' n')→False:=by
   intro d key b x s n x' s' n' h h'
   rcases (hM'.own _ _ _ _ _ h').2.2 with h3 | h3
   ·exact LnotM d b x s n h h3
   ·have h2:=(hM.own _ _ _ _ _ h).2.1
    have h3:w.heap.size≤b:=h3
    omega
  cases k with
  | L d =>
   cases k' with
   | L d'=>exact hM.inj _ _ _ _ _ _ _ _ _ h h'
   | O id=>exact (mix h h').elim
   | S id i=>exact (mix h h').elim
  | O id =>
   cases k' with
   | L d'=>exact (mix h' h).elim
   | O id'=>exact hM'.inj _ _ _ _ _ _ _ _ _ h h'
   | S id' i=>exact hM'.inj _ _ _ _ _ _ _ _ _ h h'
  | S id i =>
   cases k' with
   | L d'=>exact (mix h' h).elim
   | O id'=>exact hM'.inj _ _ _ _ _ _ _ _ _ h h'
   | S id' i=>exact hM'.inj _ _ _ _ _ _ _ _ _ h h'
 ·have:=sV (ids:=bH S.o o' 0) hM.loc d
  revert this
  show iz _ _ (aG (rT (bH S.o o' 0) S.l) d) d→iz _ _ (aG (rT (bH S.o o' 0) S.l) d) d
  cases aG (rT (bH S.o o' 0) S.l) d with
  | none =>
   intro h
   show E.mu (.L d)=none
   exact (pV (ids:=bH S.o o' 0)).symm.trans h
  | some row =>
   rintro (⟨b,h1,h2,h3,us,ty,h4,h5,h6⟩ | ⟨h0,h⟩)
   ·have h1':E.mu (.L d)=some (.blk b 0 row.length 1):=pV.symm.trans h1
    refine .inl ⟨b,h1',h2,h3,us,ty,?_,h5,fun m c hc=>?_⟩
    ·show E'.h[b]?=_
     rw [hM'.hp,hM'.keep b (hM.own _ _ _ _ _ h1').2.1 (LnotM d b _ _ _ h1')]
     have:E.h[b]?=_:=h4
     rw [hM.hp] at this
     exact this
    ·obtain ⟨u,hu,hv⟩:=h6 m c hc
     exact ⟨u,hu,hv.mono hle⟩
   ·exact .inr ⟨show E.mu (.L d)=none from (pV (ids:=bH S.o o' 0)).symm.trans h0,h⟩
 ·have:=hM'.obj id
  refine this.mono2 (E':=⟨E'.F,sW E.mu E'.mu,E'.h⟩) ⟨fun _ h=>h,fun _ _ _ h=>(by cases h),fun _ _=>rfl,fun _ _ _ _ _ _ h=>(by cases h)⟩ ⟨fun _ h=>h,fun k x hs h=>?_,fun _ _=>rfl,fun _ _ _ _ _ _ _=>rfl⟩ (fun _ _ _ _ _=>rfl)
  cases k with
  | S _ _=>cases hs
  | L d=>cases h
  | O i=>exact h
 ·have hid':id<S.o.length:=Nat.lt_of_lt_of_le hid hM.bl
  rcases hM'.old id hid' with h | h
  ·exact .inl h
  ·rcases hM.old id hid with h2 | h2
   ·refine .inl ?_
    have hob:=hM.obj id
    rw [h2] at hob
    have hn:E.mu (.O id)=none:=by
     revert hob
     cases E.mu (.O id) with
     | none=>exact fun _=>rfl
     | some _=>exact fun h=>h.elim
    have hob':=hM'.obj id
    rw [h] at hob'
    have hn':(IQ E.ob w).mu id=none:=hn
    rw [hn'] at hob'
    show o'[id]?=some .dead
    have hlt:id<o'.length:=Nat.lt_of_lt_of_le hid' hM'.bl
    have hx:(IH o' S.o.length).o[id]?=some o'[id]:=List.getElem?_eq_getElem hlt
    rw [hx] at hob'
    rw [List.getElem?_eq_getElem hlt]
    revert hob'
    cases o'[id] with
    | dead=>exact fun _=>rfl
    | arr _ _ _=>exact fun h=>h.elim
    | mapo _ _=>exact fun h=>h.elim
    | own _ _ _ _=>exact fun h=>h.elim
   ·refine .inr ?_
    show E'.mu (.O id)=G.mu id
    rw [h,← h2]
    rfl
 ·exact Nat.le_trans hM.bl hM'.bl
 ·rw [← hM.szs b hb]
  exact hM'.szs b (Nat.lt_of_lt_of_le hb hM.size)
 ·obtain ⟨h1,h2⟩:=hM.pk e row h
  exact ⟨h1,vj h2 (hM.pend_inv h)⟩
 ·cases k with
  | S _ _=>cases hs
  | L d=>rw [hL' d] at h; cases h
  | O id=>exact h
theorem vk {K:St→Prop} {c:Call} {x:Operand} {fid:Nat} {first cap as:List AV} (hM:al G pd E S w) (ht:TR E S.t a) (ho:o.op=.call c) (hcal:c.callee=.value x)
  (hx:VR E (.fn fid first cap) (a.eval x)) (has:bO E as (c.args.toList.map a.eval)) (hnl:(first++as++cap).all (wa 4)=true)
  (h:sT P fid (first++as++cap) S.o fun r o'=>kz (bH S.o o' 0) S.t S.l fun t l=>bd o.dst r { t:=t,l:=l,o:=o',b:=S.b } K):di P G pd o a w K:=by
 obtain ⟨us,ws,hfv,h1,h2⟩:∃ us ws,a.eval x=.func (.func fid) us ws∧bO E first us.toList∧bO E cap ws.toList:=by
  generalize a.eval x=u at hx
  cases hx with
  | fn us ws h1 h2 h3 h4=>exact ⟨us,ws,rfl,⟨by simpa using h1,fun m c u hc hu=>h2 m c u hc (by simpa using hu)⟩,⟨by simpa using h3,fun m c u hc hu=>h4 m c u hc (by simpa using hu)⟩⟩
 have hall:=(h1.append has).append h2
 intro next Q hn
 unfold Oper.wp
 rw [zM ho hcal hfv h.1 w,Oper.upon_enter]
 refine (h.2 E.ob w _ hM.sub ht.gt (by
  refine ⟨by simpa using hall.1,fun m c u hc hu=>?_⟩
  exact lK 4 (List.all_eq_true.1 hnl c (List.mem_of_getElem? hc)) (hall.2 m c u hc (by simpa using hu)))).mono ?_
 rintro e w' ⟨v,r,o',E',hK,rfl,hM',hv⟩
 rw [w_,aA] at hK
 obtain ⟨hS,htr,hle⟩:=hM.back ht hM'
 exact hn _ _ _ w' hK (hS.congr cu cv cF) (htr.put (hv.mono hle))
end
section
variable {G:Gh} {p:Nat→Option (List AV)} {E:Env} {S M:St} {w:World} {P:Program} {a:Act}
theorem al.reS (hM:al G p E M w) {id:Nat} {mu':Key→Option MV} (hsame:∀ k,(∀ j,k≠.S id j)→mu' k=E.mu k)
  (hown:∀ j b o s n,mu' (.S id j)=some (.blk b o s n)→¬ E.F b∧b<w.heap.size∧(G.M b∨G.w0.heap.size≤b)∧∀ k o' s' n',(∀ i,k≠.S id i)→E.mu k≠some (.blk b o' s' n'))
  (hinj:∀ j j' b o s n o' s' n',mu' (.S id j)=some (.blk b o s n)→mu' (.S id j')=some (.blk b o' s' n')→j=j')
  {x y:Ob} (hx:M.o[id]?=some x) (hnx:x≠.dead) (hO:gN ⟨E.F,mu',E.h⟩ (some y) (E.mu (.O id))) (hW:eV ⟨E.F,mu',E.h⟩ id (some y)) :
  LE E ⟨E.F,mu',E.h⟩∧al G p ⟨E.F,mu',E.h⟩ { t:=M.t,l:=M.l,o:=M.o.set id y,b:=M.b } w:=by
 have hlt:id<M.o.length:=(List.getElem?_eq_some_iff.1 hx).1
 have hns:∀ k:Key,k.isS=false→mu' k=E.mu k:=fun k hk=>hsame k (fun j e=>by subst e; cases hk)
 have hle:LE E ⟨E.F,mu',E.h⟩:=⟨fun _ h=>h,fun k z hs h=>(hns k hs).trans h,fun _ _=>rfl,fun _ _ _ _ _ _ _=>rfl⟩
 have isit:∀ k:Key,(∃ j,k=.S id j)∨∀ j,k≠.S id j:=fun k=>by
  cases k with
  | L d=>exact .inr (fun j e=>by cases e)
  | O i=>exact .inr (fun j e=>by cases e)
  | S c j =>
   by_cases h:c=id
   ·subst h
    exact .inl ⟨j,rfl⟩
   ·exact .inr (fun j' e=>h (by cases e; rfl))
 refine ⟨hle,hM.hp,hM.os,hM.tape,hM.output,hM.size,hM.keep,hM.F0,hM.Flt,hM.Fnew,fun k b o s n h=>?_,fun k k' b o s n o' s' n' h h'=>?_,fun d=>?_,fun i=>?_,fun i hi=>?_,by simpa using hM.bl,hM.szs,fun d row h=>?_,fun i=>?_⟩
 ·rcases isit k with ⟨j,rfl⟩ | hk
  ·obtain ⟨h1,h2,h3,_⟩:=hown j b o s n h
   exact ⟨h1,h2,h3⟩
  ·exact hM.own k b o s n ((hsame k hk).symm.trans h)
 ·rcases isit k with ⟨j,rfl⟩ | hk
  ·rcases isit k' with ⟨j',rfl⟩ | hk'
   ·rw [hinj j j' _ _ _ _ _ _ _ h h']
   ·exact absurd ((hsame k' hk').symm.trans h') ((hown j _ _ _ _ h).2.2.2 k' _ _ _ hk')
  ·rcases isit k' with ⟨j',rfl⟩ | hk'
   ·exact absurd ((hsame k hk).symm.trans h) ((hown j' _ _ _ _ h').2.2.2 k _ _ _ hk)
   ·exact hM.inj _ _ _ _ _ _ _ _ _ ((hsame k hk).symm.trans h) ((hsame k' hk').symm.trans h')
 ·have:=hM.loc d
  revert this
  show iz p E (aG M.l d) d→iz p _ (aG M.l d) d
  cases aG M.l d with
  | none=>exact fun h=>(hns (.L d) rfl).trans h
  | some row =>
   rintro (⟨b',h1,h2⟩ | ⟨h1,h2⟩)
   ·exact .inl ⟨b',(hns (.L d) rfl).trans h1,h2.mono hle⟩
   ·exact .inr ⟨(hns (.L d) rfl).trans h1,h2⟩
 ·show gN _ (M.o.set id y)[i]? (mu' (.O i))
  rw [hns (.O i) rfl]
  by_cases h:id=i
  ·subst h
   rw [List.getElem?_set_self hlt]
   exact hO
  ·rw [List.getElem?_set,if_neg h]
   exact (hM.obj i).mono hle (fun _ _ _ _ _=>rfl)
 ·show (M.o.set id y)[i]?=some .dead∨mu' (.O i)=G.mu i
  rw [hns (.O i) rfl]
  by_cases h:id=i
  ·subst h
   rcases hM.old id hi with h1 | h1
   ·rw [hx] at h1
    cases h1
    exact absurd rfl hnx
   ·exact .inr h1
  ·rw [List.getElem?_set,if_neg h]
   exact hM.old i hi
 ·obtain ⟨h1,h2⟩:=hM.pk d row h
  exact ⟨(hns (.L d) rfl).trans h1,h2⟩
 ·show eV _ i (M.o.set id y)[i]?
  by_cases h:id=i
  ·subst h
   rw [List.getElem?_set_self hlt]
   exact hW
  ·rw [List.getElem?_set,if_neg h]
   exact (hM.ow i).mono (hns (.O i) rfl) (fun j=>hsame (.S i j) (fun j' e=>h (by cases e; rfl))) hle.fz hle.ob (fun _ _ _ _ _ _ _=>rfl)
theorem al.ownS (hM:al G p E M w) {id j b o s n:Nat} (h:E.mu (.S id j)=some (.blk b o s n)) :
  ¬ E.F b∧b<w.heap.size∧(G.M b∨G.w0.heap.size≤b)∧∀ k o' s' n',k≠.S id j→E.mu k≠some (.blk b o' s' n'):=by
 obtain ⟨h1,h2,h3⟩:=hM.own _ _ _ _ _ h
 exact ⟨h1,h2,h3,fun k o' s' n' hk h'=>hk (hM.inj _ _ _ _ _ _ _ _ _ h' h)⟩
theorem yX (hM:al G p E S w) {id i sz:Nat} {ks:Option (List AV)} {cells:List (Option (List (List AV)))} {rows:List (List AV)} (hob:S.o[id]?=some (.own ks sz cells none)) (hc:cells[i]?=some (some rows))
  {b o s n:Nat} (hmu:E.mu (.O id)=some (.blk b o s n)) :
  ∃ E' u,al G p E' { t:=S.t,l:=S.l,o:=S.o.set id (.own ks sz cells (some (i,.mf S.o.length)))++[.arr true sz rows],b:=S.b } w∧LE E E'∧VR E' (.mf S.o.length) u∧jb w.heap b o i=some u:=by
 have hlt:id<S.o.length:=(List.getElem?_eq_some_iff.1 hob).1
 have hw:=hM.ow id
 rw [hob] at hw
 obtain ⟨hz,hbey,hcells⟩:=hw
 obtain ⟨hbase,hall⟩:=hcells b o s n hmu
 obtain ⟨u,hu,hcell⟩:=hall i _ hc
 have hcell:cm E sz (some rows) (E.mu (.S id i)) u:=hcell
 have hOb:=hM.obj id
 rw [hob,hmu] at hOb
 have hOb:ks=none→s=1∧n=cells.length:=hOb
 obtain ⟨mu1,hmu1⟩:∃ mu1:Key→Option MV,mu1=fun k=>if k=.S id i then none else E.mu k:=⟨_,rfl⟩
 have hm1i:mu1 (.S id i)=none:=by rw [hmu1]; simp
 have hm1:∀ k,k≠.S id i→mu1 k=E.mu k:=fun k hk=>by rw [hmu1]; show (if k=.S id i then none else E.mu k)=_; rw [if_neg hk]
 have hfz:LE E.fz (Env.fz ⟨E.F,mu1,E.h⟩):=LE.refl _
 have hW1:eV ⟨E.F,mu1,E.h⟩ id (some (.own ks sz cells (some (i,.bad)))):=by
  refine ⟨hz,fun j hj=>?_,fun b' o' s' n' hm=>?_⟩
  ·show mu1 (.S id j)=none
   by_cases h:Key.S id j=.S id i
   ·rw [h]; exact hm1i
   ·rw [hm1 _ h]; exact hbey j hj
  ·have hm:E.mu (.O id)=some (.blk b' o' s' n'):=(hm1 _ (fun e=>by cases e)).symm.trans hm
   obtain ⟨h4,h6⟩:=hcells b' o' s' n' hm
   refine ⟨h4,fun j c hj=>?_⟩
   obtain ⟨u',hu',h7⟩:=h6 j c hj
   refine ⟨u',hu',?_⟩
   show if i=j then mu1 (.S id j)=none∧VR _ .bad u' else cm _ sz c (mu1 (.S id j)) u'
   by_cases hij:i=j
   ·subst hij
    rw [if_pos rfl]
    exact ⟨hm1i,.bad _ _⟩
   ·rw [if_neg hij,hm1 _ (fun e=>hij (by cases e; rfl))]
    exact cm.mono h7 hfz (fun _ _ _ _ _=>rfl)
 obtain ⟨hle1,hS1⟩:=hM.reS (mu':=mu1) (fun k hk=>hm1 k (hk i)) (fun j b' o' s' n' h=>by
   by_cases hj:Key.S id j=.S id i
   ·rw [hj,hm1i] at h; cases h
   ·rw [hm1 _ hj] at h
    obtain ⟨h1,h2,h3,h4⟩:=hM.ownS h
    exact ⟨h1,h2,h3,fun k o2 s2 n2 hk=>h4 k o2 s2 n2 (hk j)⟩)
  (fun j j' b' o' s' n' o2 s2 n2 h h'=>by
   by_cases hj:Key.S id j=.S id i
   ·rw [hj,hm1i] at h; cases h
   ·by_cases hj':Key.S id j'=.S id i
    ·rw [hj',hm1i] at h'; cases h'
    ·rw [hm1 _ hj] at h
     rw [hm1 _ hj'] at h'
     have:=hM.inj _ _ _ _ _ _ _ _ _ h h'
     cases this
     rfl) hob (fun e=>by cases e) (y:=.own ks sz cells (some (i,.bad))) (by rw [hmu]; exact hOb) hW1
 have hlen:(S.o.set id (.own ks sz cells (some (i,.bad)))).length=S.o.length:=by simp
 obtain ⟨mvi,hmvi⟩:∃ mvi,E.mu (.S id i)=some mvi:=by
  cases h:E.mu (.S id i) with
  | none=>rw [h] at hcell; exact hcell.elim
  | some mv=>exact ⟨mv,rfl⟩
 rw [hmvi] at hcell
 have hnew1:mu1 (.O S.o.length)=none:=(hm1 _ (fun e=>by cases e)).trans (EZ hM)
 have hS2:=hS1.addkey (key:=.O S.o.length) (mv:=mvi) (fun d e=>by cases e) hnew1 (fun b' o' s' n' e=>by
   subst e
   obtain ⟨h1,h2,h3,h4⟩:=hM.ownS hmvi
   refine ⟨h1,h2,h3,fun k o2 s2 n2 h=>?_⟩
   by_cases hk:k=.S id i
   ·subst hk
    rw [show (Env.mu ⟨E.F,mu1,E.h⟩ (.S id i))=none from hm1i] at h
    cases h
   ·exact h4 k o2 s2 n2 hk ((hm1 k hk).symm.trans h))
  (M':={ t:=S.t,l:=S.l,o:=S.o.set id (.own ks sz cells (some (i,.bad)))++[.arr true sz rows],b:=S.b }) (fun _ _=>rfl)
  (fun j hj=>by
   show (S.o.set id _++[_])[j]?=(S.o.set id _)[j]?
   rcases Nat.lt_trichotomy j S.o.length with h | h | h
   ·rw [List.getElem?_append_left (by rw [hlen]; exact h)]
   ·exact absurd (by rw [h]) hj
   ·rw [List.getElem?_eq_none (by rw [List.length_append,hlen]; simp; omega),List.getElem?_eq_none (by rw [hlen]; omega)])
  rfl (by have:=hM.bl; show S.b≤(S.o.set id _++[_]).length; rw [List.length_append,hlen]; simp; omega) (fun j e=>by cases e; exact hM.bl) (fun d e=>by cases e)
  (fun j e=>by
   cases e
   show gN _ (S.o.set id _++[_])[S.o.length]? _
   rw [List.getElem?_append_right (by rw [hlen]; exact Nat.le_refl _),hlen,Nat.sub_self]
   cases mvi with
   | virt=>exact hcell.1
   | blk b1 o1 s1 n1=>exact ⟨hcell.1,hcell.2.1⟩)
  (fun j e=>by
   rcases e with e | ⟨i',e⟩ <;> cases e
   rw [List.getElem?_append_right (by rw [hlen]; exact Nat.le_refl _),hlen,Nat.sub_self]
   exact hS1.ow_new rfl (by rw [List.getElem?_eq_none (by show (S.o.set id _).length≤_; rw [hlen]; exact Nat.le_refl _)]; rfl) rfl)
 have hle2:LE ⟨E.F,mu1,E.h⟩ ⟨E.F,aD mu1 (.O S.o.length) mvi,E.h⟩:=lL (E:=⟨E.F,mu1,E.h⟩) hnew1
 have hm2:aD mu1 (.O S.o.length) mvi (.O S.o.length)=some mvi:=by unfold aD; rw [if_pos rfl]
 have hm2i:aD mu1 (.O S.o.length) mvi (.S id i)=none:=by unfold aD; rw [if_neg (fun e=>by cases e)]; exact hm1i
 have hv:∀ E':Env,E'.mu (.O S.o.length)=some mvi→E'.h=E.h→VR E' (.mf S.o.length) u:=by
  intro E' hE hE2
  cases mvi with
  | virt =>
   obtain ⟨_,c,rfl⟩:=hcell
   cases c with
   | none=>exact .mfn hE
   | some c=>exact .mfe c hE
  | blk b1 o1 s1 n1 =>
   obtain ⟨_,_,cap,h6,h7,rfl⟩:=hcell
   exact .mf cap hE h6 (by rw [hE2]; exact h7)
 have hW3:eV ⟨E.F,aD mu1 (.O S.o.length) mvi,E.h⟩ id (some (.own ks sz cells (some (i,.mf S.o.length)))):=by
  have hS2w:=hS2.ow id
  have hget:(S.o.set id (.own ks sz cells (some (i,.bad)))++[.arr true sz rows])[id]?=some (.own ks sz cells (some (i,.bad))):=by
   rw [List.getElem?_append_left (by rw [hlen]; exact hlt),List.getElem?_set_self hlt]
  rw [hget] at hS2w
  obtain ⟨q1,q2,q3⟩:=hS2w
  refine ⟨q1,q2,fun b' o' s' n' hm=>?_⟩
  have hm0:E.mu (.O id)=some (.blk b' o' s' n'):=by
   have h:aD mu1 (.O S.o.length) mvi (.O id)=some (.blk b' o' s' n'):=hm
   unfold aD at h
   rw [if_neg (fun e=>by cases e; omega),hm1 _ (fun e=>by cases e)] at h
   exact h
  obtain ⟨h4,h6⟩:=q3 b' o' s' n' hm
  refine ⟨h4,fun j c hj=>?_⟩
  obtain ⟨u',hu',h7⟩:=h6 j c hj
  refine ⟨u',hu',?_⟩
  have h7:(if i=j then aD mu1 (.O S.o.length) mvi (.S id j)=none∧VR _ .bad u' else cm _ sz c (aD mu1 (.O S.o.length) mvi (.S id j)) u'):=h7
  show (if i=j then aD mu1 (.O S.o.length) mvi (.S id j)=none∧VR _ (.mf S.o.length) u' else cm _ sz c (aD mu1 (.O S.o.length) mvi (.S id j)) u')
  by_cases hij:i=j
  ·subst hij
   rw [if_pos rfl]
   refine ⟨hm2i,?_⟩
   rw [hmu] at hm0
   cases hm0
   have hu':jb E.h b o i=some u':=hu'
   rw [hu] at hu'
   cases hu'
   exact hv _ hm2 rfl
  ·rw [if_neg hij] at h7 ⊢
   exact h7
 obtain ⟨hle3,hS3⟩:=hS2.reS (id:=id) (mu':=aD mu1 (.O S.o.length) mvi) (fun _ _=>rfl) (fun j b' o' s' n' h=>by
   obtain ⟨h1,h2,h3,h4⟩:=hS2.ownS (id:=id) (j:=j) h
   exact ⟨h1,h2,h3,fun k o2 s2 n2 hk=>h4 k o2 s2 n2 (hk j)⟩)
  (fun j j' b' o' s' n' o2 s2 n2 h h'=>by
   have:=hS2.inj (.S id j) (.S id j') _ _ _ _ _ _ _ h h'
   cases this
   rfl)
  (x:=.own ks sz cells (some (i,.bad))) (y:=.own ks sz cells (some (i,.mf S.o.length))) (by
   show (S.o.set id _++[_])[id]?=_
   rw [List.getElem?_append_left (by rw [hlen]; exact hlt),List.getElem?_set_self hlt]) (fun e=>by cases e) (by
   have h:aD mu1 (.O S.o.length) mvi (.O id)=some (.blk b o s n):=by
    unfold aD
    rw [if_neg (fun e=>by cases e; omega),hm1 _ (fun e=>by cases e)]
    exact hmu
   show gN _ _ (aD mu1 (.O S.o.length) mvi (.O id))
   rw [h]
   exact hOb) hW3
 refine ⟨_,u,?_,(hle1.trans hle2).trans hle3,hv _ hm2 rfl,?_⟩
 ·have e:(S.o.set id (Ob.own ks sz cells (some (i,.bad)))++[Ob.arr true sz rows]).set id (Ob.own ks sz cells (some (i,.mf S.o.length)))=S.o.set id (Ob.own ks sz cells (some (i,.mf S.o.length)))++[Ob.arr true sz rows]:=by
   rw [List.set_append_left _ _ (by rw [hlen]; exact hlt),List.set_set]
  have hS3:al G p _ { t:=S.t,l:=S.l,o:=(S.o.set id (Ob.own ks sz cells (some (i,.bad)))++[Ob.arr true sz rows]).set id (Ob.own ks sz cells (some (i,.mf S.o.length))),b:=S.b } w:=hS3
  rw [e] at hS3
  exact hS3
 ·rw [← hM.hp]
  exact hu
theorem yY (hM:al G p E S w) (ht:TR E S.t a) {id j k sz:Nat} {ks:Option (List AV)} {cells:List (Option (List (List AV)))} {rows:List (List AV)} (hob:S.o[id]?=some (.own ks sz cells (some (j,.mf k)))) (hk:S.o[k]?=some (.arr true sz rows)) (hj:j<cells.length) :
  ∃ E',al G p E' { t:=(gu k S).t,l:=(gu k S).l,o:=(gu k S).o.set id (.own ks sz (cells.set j (some rows)) none),b:=S.b } w∧TR E' (gu k S).t a∧E'.mu (.O id)=E.mu (.O id):=by
 have hklt:k<S.o.length:=(List.getElem?_eq_some_iff.1 hk).1
 have hne:k≠id:=fun e=>by subst e; rw [hob] at hk; cases hk
 have hw:=hM.ow id
 rw [hob] at hw
 obtain ⟨hz,hbey,hcells⟩:=hw
 have hOb:=hM.obj id
 rw [hob] at hOb
 have hOk:=hM.obj k
 rw [hk] at hOk
 obtain ⟨mvk,hmk⟩:∃ mvk,E.mu (.O k)=some mvk:=by
  cases h:E.mu (.O k) with
  | none=>rw [h] at hOk; exact hOk.elim
  | some mv=>exact ⟨mv,rfl⟩
 rw [hmk] at hOk
 obtain ⟨hS1,ht1,hke⟩:=rP hM ht hklt
 have hgl:(gu k S).o.length=S.o.length:=by simp [gu]
 have hidlt:id<S.o.length:=(List.getElem?_eq_some_iff.1 hob).1
 obtain ⟨mu1,hmu1⟩:∃ mu1:Key→Option MV,mu1=fun x=>if x=.S id j then some mvk else aK E.mu (.O k) x:=⟨_,rfl⟩
 have hm1j:mu1 (.S id j)=some mvk:=by rw [hmu1]; simp
 have hm1:∀ x,x≠.S id j→mu1 x=aK E.mu (.O k) x:=fun x hx=>by rw [hmu1]; show (if x=.S id j then some mvk else aK E.mu (.O k) x)=_; rw [if_neg hx]
 have hS:∀ i,aK E.mu (.O k) (.S id i)=E.mu (.S id i):=fun i=>A4 (k:=.O k) (a:=id) (i:=i) (by intro e; cases e) (by intro e; cases e; exact hne rfl)
 have hgid:(gu k S).o[id]?=some (eB (.O k) (.own ks sz cells (some (j,.mf k)))):=by
  show ((S.o.map (eB (.O k))).set k .dead)[id]?=_
  rw [List.getElem?_set,if_neg hne,List.getElem?_map,hob]
  rfl
 have hfree:∀ b o s n,mvk=.blk b o s n→¬ E.F b∧b<w.heap.size∧(G.M b∨G.w0.heap.size≤b)∧∀ x o' s' n',aK E.mu (.O k) x≠some (.blk b o' s' n'):=by
  intro b o s n e
  subst e
  obtain ⟨h1,h2,h3⟩:=hM.own _ _ _ _ _ hmk
  refine ⟨h1,h2,h3,fun x o' s' n' h=>?_⟩
  obtain ⟨h4,h5⟩:=cE h
  exact h4 (hM.inj _ _ _ _ _ _ _ _ _ h5 hmk)
 have hW1:eV ⟨E.F,mu1,E.h⟩ id (some (.own ks sz (cells.set j (some rows)) none)):=by
  refine ⟨hz,fun i hi=>?_,fun b o s n hm=>?_⟩
  ·rw [List.length_set] at hi
   show mu1 (.S id i)=none
   rw [hm1 _ (fun e=>by cases e; omega),hS]
   exact hbey i hi
  ·have hm:E.mu (.O id)=some (.blk b o s n):=by
    have h:mu1 (.O id)=some (.blk b o s n):=hm
    rw [hm1 _ (fun e=>by cases e),j6 (fun e=>hne (by cases e; rfl))] at h
    exact h
   obtain ⟨h4,h6⟩:=hcells b o s n hm
   refine ⟨by rw [List.length_set]; exact h4,fun i c hi=>?_⟩
   rw [List.getElem?_set] at hi
   by_cases hij:j=i
   ·subst hij
    rw [if_pos rfl,if_pos hj] at hi
    cases hi
    obtain ⟨u,hu,h7⟩:=h6 j cells[j] (List.getElem?_eq_getElem hj)
    have h7:(if j=j then E.mu (.S id j)=none∧VR E.ob (.mf k) u else cm E sz cells[j] (E.mu (.S id j)) u):=h7
    rw [if_pos rfl] at h7
    refine ⟨u,hu,?_⟩
    show cm _ sz (some rows) (mu1 (.S id j)) u
    rw [hm1j]
    obtain ⟨_,hv⟩:=h7
    cases hv with
    | mfn hx =>
     have hx:E.mu (.O k)=some .virt:=hx
     rw [hmk] at hx
     cases hx
     exact ⟨hOk,none,rfl⟩
    | mfe c hx =>
     have hx:E.mu (.O k)=some .virt:=hx
     rw [hmk] at hx
     cases hx
     exact ⟨hOk,some c,rfl⟩
    | mf cap hx hn hc =>
     have hx:E.mu (.O k)=some _:=hx
     rw [hmk] at hx
     cases hx
     exact ⟨hOk.1,hOk.2,cap,hn,hc,rfl⟩
   ·rw [if_neg hij] at hi
    obtain ⟨u,hu,h7⟩:=h6 i c hi
    have h7:(if j=i then E.mu (.S id i)=none∧VR E.ob (.mf k) u else cm E sz c (E.mu (.S id i)) u):=h7
    rw [if_neg hij] at h7
    refine ⟨u,hu,?_⟩
    show cm _ sz c (mu1 (.S id i)) u
    rw [hm1 _ (fun e=>hij (by cases e; rfl)),hS]
    exact cm.mono h7 (LE.refl _) (fun _ _ _ _ _=>rfl)
 obtain ⟨hle,hS2⟩:=hS1.reS (id:=id) (mu':=mu1) (fun x hx=>hm1 x (hx j)) (fun i b o s n h=>by
   by_cases hij:Key.S id i=.S id j
   ·rw [hij,hm1j] at h
    obtain ⟨h1,h2,h3,h4⟩:=hfree b o s n (Option.some.inj h)
    exact ⟨h1,h2,h3,fun x o' s' n' _=>h4 x o' s' n'⟩
   ·rw [hm1 _ hij] at h
    obtain ⟨h1,h2,h3,h4⟩:=hS1.ownS (id:=id) (j:=i) h
    exact ⟨h1,h2,h3,fun x o' s' n' hx=>h4 x o' s' n' (hx i)⟩)
  (fun i i' b o s n o' s' n' h h'=>by
   by_cases hij:Key.S id i=.S id j
   ·by_cases hij':Key.S id i'=.S id j
    ·cases hij
     cases hij'
     rfl
    ·rw [hij,hm1j] at h
     rw [hm1 _ hij'] at h'
     exact absurd h' ((hfree b o s n (Option.some.inj h)).2.2.2 _ _ _ _)
   ·by_cases hij':Key.S id i'=.S id j
    ·rw [hij',hm1j] at h'
     rw [hm1 _ hij] at h
     exact absurd h ((hfree b o' s' n' (Option.some.inj h')).2.2.2 _ _ _ _)
    ·rw [hm1 _ hij] at h
     rw [hm1 _ hij'] at h'
     have:=hS1.inj (.S id i) (.S id i') _ _ _ _ _ _ _ h h'
     cases this
     rfl)
  hgid (fun e=>by cases e) (y:=.own ks sz (cells.set j (some rows)) none) (by
   show gN _ _ (aK E.mu (.O k) (.O id))
   rw [j6 (fun e=>hne (by cases e; rfl))]
   revert hOb
   cases E.mu (.O id) with
   | none=>exact fun h=>h.elim
   | some mv =>
    cases mv with
    | virt =>
     intro h
     have h:ks=none∧cells=[]:=h
     rw [h.2] at hj
     cases hj
    | blk b o s n =>
     intro h
     have h:ks=none→s=1∧n=cells.length:=h
     exact fun e=>⟨(h e).1,by rw [List.length_set]; exact (h e).2⟩) hW1
 exact ⟨_,hS2,ht1.mono hle,(hm1 _ (fun e=>by cases e)).trans (j6 (fun e=>hne (by cases e; rfl)))⟩
theorem Cw {k:Nat} {K:St→Prop}:gK [k] S K↔K (gu k S):=pU (ids:=[k])
theorem xd (hM:al G p E S w) (ht:TR E S.t a) {id:Nat} {K:St→Prop} (h:i8 S id K) :
  ∃ S' E',K S'∧al G p E' S' w∧TR E' S'.t a:=by
 unfold i8 at h
 split at h
 ·rename_i ks sz cells j hob
  obtain ⟨hj,h⟩:=ae h
  rw [ax] at h
  rw [Nat.blt_eq] at hj
  have hw:=hM.ow id
  rw [hob] at hw
  obtain ⟨hz,hbey,hcells⟩:=hw
  have hOb:=hM.obj id
  rw [hob] at hOb
  obtain ⟨hle,hS⟩:=hM.reS (id:=id) (mu':=E.mu) (fun _ _=>rfl) (fun j b o s n h=>by
    obtain ⟨h1,h2,h3,h4⟩:=hM.ownS (id:=id) (j:=j) h
    exact ⟨h1,h2,h3,fun k o2 s2 n2 hk=>h4 k o2 s2 n2 (hk j)⟩)
   (fun j j' b o s n o2 s2 n2 h h'=>by
    have:=hM.inj (.S id j) (.S id j') _ _ _ _ _ _ _ h h'
    cases this
    rfl) hob (fun e=>by cases e) (y:=.own ks sz (cells.set j none) none) (by
    revert hOb
    cases E.mu (.O id) with
    | none=>exact fun h=>h.elim
    | some mv =>
     cases mv with
     | virt =>
      intro h
      have h:ks=none∧cells=[]:=h
      rw [h.2] at hj
      cases hj
     | blk b o s n =>
      intro h
      have h:ks=none→s=1∧n=cells.length:=h
      exact fun e=>⟨(h e).1,by rw [List.length_set]; exact (h e).2⟩) ⟨hz,fun i hi=>hbey i (by rw [List.length_set] at hi; exact hi),fun b o s n hm=>by
    obtain ⟨h4,h6⟩:=hcells b o s n hm
    refine ⟨by rw [List.length_set]; exact h4,fun i c hi=>?_⟩
    rw [List.getElem?_set] at hi
    by_cases hij:j=i
    ·subst hij
     rw [if_pos rfl,if_pos hj] at hi
     cases hi
     obtain ⟨u,hu,h7⟩:=h6 j cells[j] (List.getElem?_eq_getElem hj)
     have h7:(if j=j then E.mu (.S id j)=none∧VR E.ob .nilsl u else cm E sz cells[j] (E.mu (.S id j)) u):=h7
     rw [if_pos rfl] at h7
     obtain ⟨h8,hv⟩:=h7
     refine ⟨u,hu,?_⟩
     show cm _ sz none (E.mu (.S id j)) u
     rw [h8]
     cases hv
     rfl
    ·rw [if_neg hij] at hi
     obtain ⟨u,hu,h7⟩:=h6 i c hi
     have h7:(if j=i then E.mu (.S id i)=none∧VR E.ob .nilsl u else cm E sz c (E.mu (.S id i)) u):=h7
     rw [if_neg hij] at h7
     exact ⟨u,hu,h7⟩⟩
  exact ⟨_,_,h,hS,ht.mono hle⟩
 ·rename_i ks sz cells j k hob
  split at h
  ·rename_i sz' rows hk
   obtain ⟨hb,h⟩:=ae h
   simp only [Bool.and_eq_true,Nat.blt_eq] at hb
   obtain ⟨hsz,hj⟩:=hb
   have hsz:=Nat.eq_of_beq_eq_true hsz
   subst hsz
   rw [Cw,ax] at h
   have hne:k≠id:=fun e=>by subst e; rw [hob] at hk; cases hk
   obtain ⟨E',hS,htr,hmu'⟩:=yY hM ht hob hk hj
   exact ⟨_,E',h,hS,htr⟩
  ·exact h.elim
 ·exact h.elim
 ·exact ⟨S,E,h,hM,ht⟩
theorem q_:∀ {ids:List Nat} {S:St} {E:Env} {K:St→Prop},al G p E S w→TR E S.t a→nU ids S K→∃ S' E',K S'∧al G p E' S' w∧TR E' S'.t a
 | [],S,E,_,hM,ht,h=>⟨S,E,h,hM,ht⟩
 | id::ids,_,_,_,hM,ht,h=>by
  obtain ⟨S1,E1,h,hM1,ht1⟩:=xd hM ht h
  exact q_ hM1 ht1 h
def G8 (id:Nat) (mu:Key→Option MV):Key→Option MV
 | .L d=>mu (.L d)
 | .O i=>mu (.O i)
 | .S c j=>if c=id then none else mu (.S c j)
theorem G9 {id:Nat} {mu:Key→Option MV} (k:Key) (h:∀ j,k≠.S id j):G8 id mu k=mu k:=by
 cases k with
 | L d=>rfl
 | O i=>rfl
 | S c j =>
  show (if c=id then none else mu (.S c j))=_
  rw [if_neg (fun e=>h j (by rw [e]))]
theorem IR {id:Nat} {mu:Key→Option MV} (j:Nat):G8 id mu (.S id j)=none:=by
 show (if id=id then none else mu (.S id j))=_
 rw [if_pos rfl]
theorem qG:∀ {ks:List AV},(gV ks).length=ks.length
 | []=>rfl
 | _::ks=>congrArg (· + 1) (qG (ks:=ks))
theorem qH:∀ {ks:List AV} {i:Nat} {e:AV×AV},(gV ks)[i]?=some e→ks[i]?=some e.1∧e.2=.bad
 | [],_,_,h=>by simp [gV] at h
 | k::ks,0,e,h=>by
  have h:some (k,AV.bad)=some e:=h
  cases h
  exact ⟨rfl,rfl⟩
 | k::ks,i + 1,e,h=>qH (ks:=ks) (i:=i) h
theorem zR:∀ {ks:List AV} {cells:List (Option (List (List AV)))},ks.length=cells.length→(mq ks cells).length=ks.length
 | [],[],_=>rfl
 | _::ks,_::cells,h=>congrArg (· + 1) (zR (ks:=ks) (cells:=cells) (by simpa using h))
theorem zS:∀ {ks:List AV} {cells:List (Option (List (List AV)))} {i:Nat} {e:AV×AV},(mq ks cells)[i]?=some e→ks[i]?=some e.1∧∃ c,cells[i]?=some c∧e.2=AM c
 | [],_,_,_,h=>by simp [mq] at h
 | _::_,[],_,_,h=>by simp [mq] at h
 | k::ks,c::cells,0,e,h=>by
  have h:some (k,AM c)=some e:=h
  cases h
  exact ⟨rfl,c,rfl,rfl⟩
 | k::ks,c::cells,i + 1,e,h=>zS (ks:=ks) (cells:=cells) (i:=i) h
theorem yZ (hM:al G p E S w) (ht:TR E S.t a) {id:Nat} {K:St→Prop} (h:kU S id K):∃ S' E',K S'∧al G p E' S' w∧TR E' S'.t a:=by
 unfold kU at h
 split at h
 ·rename_i ks sz cells hob
  rw [ax] at h
  have hlt:id<S.o.length:=(List.getElem?_eq_some_iff.1 hob).1
  have hw:=hM.ow id
  rw [hob] at hw
  obtain ⟨hz,hbey,hcells⟩:=hw
  have hOb:=hM.obj id
  rw [hob] at hOb
  obtain ⟨b,o,s,n,hmu⟩:∃ b o s n,E.mu (.O id)=some (.blk b o s n):=by
   revert hOb
   cases E.mu (.O id) with
   | none=>exact fun h=>h.elim
   | some mv =>
    cases mv with
    | virt=>exact fun h=>by cases h.1
    | blk b o s n=>exact fun _=>⟨b,o,s,n,rfl⟩
  obtain ⟨⟨ms,clock,hb,⟨hl1,hl2,hbn⟩,hk⟩,hall⟩:=hcells b o s n hmu
  obtain ⟨mu1,hmu1⟩:∃ mu1,mu1=G8 id E.mu:=⟨_,rfl⟩
  have hm1:∀ k,(∀ j,k≠.S id j)→mu1 k=E.mu k:=fun k hk=>by rw [hmu1]; exact G9 k hk
  have hm1S:∀ j,mu1 (.S id j)=none:=fun j=>by rw [hmu1]; exact IR j
  obtain ⟨hle1,hS1⟩:=hM.reS (mu':=mu1) hm1 (fun j b o s n h=>by rw [hm1S] at h; cases h) (fun j j' b o s n o2 s2 n2 h h'=>by rw [hm1S] at h; cases h) hob (fun e=>by cases e)
   (y:=.mapo true (gV ks)) (by
    rw [hmu]
    exact ⟨ms,clock,hb,⟨by rw [qG]; omega,hbn⟩,fun i e m h1 h2=>by
     obtain ⟨h3,h4⟩:=qH h1
     exact ⟨hk i e.1 m h3 h2,by rw [h4]; exact .bad _ _⟩⟩) (fun i=>hm1S i)
  obtain ⟨hle2,hS2⟩:=hS1.freeze (F':=fun x=>E.F x∨∃ j o s n,E.mu (.S id j)=some (.blk x o s n)) (fun _ h=>.inl h) (fun x hx=>by
   rcases hx with hx | ⟨j,o',s',n',hx⟩
   ·exact .inl hx
   ·obtain ⟨h1,h2,h3⟩:=hM.own _ _ _ _ _ hx
    refine .inr ⟨h2,h3,fun k o2 s2 n2 hk2=>?_⟩
    have hk2:mu1 k=some (.blk x o2 s2 n2):=hk2
    have hne:∀ j,k≠.S id j:=fun j e=>by rw [e,hm1S] at hk2; cases hk2
    rw [hm1 k hne] at hk2
    exact hne j (hM.inj _ _ _ _ _ _ _ _ _ hk2 hx))
  have hget:(S.o.set id (.mapo true (gV ks)))[id]?=some (.mapo true (gV ks)):=List.getElem?_set_self hlt
  have hfz:LE E.fz (Env.fz ⟨fun x=>E.F x∨∃ j o s n,E.mu (.S id j)=some (.blk x o s n),mu1,E.h⟩):=⟨fun _ h=>.inl h,fun _ _ _ h=>(by cases h),fun _ _=>rfl,fun _ _ _ _ _ _ h=>(by cases h)⟩
  obtain ⟨hle3,hS3⟩:=hS2.reS (id:=id) (mu':=mu1) (fun _ _=>rfl) (fun j b o s n h=>by rw [hm1S] at h; cases h) (fun j j' b o s n o2 s2 n2 h h'=>by rw [hm1S] at h; cases h) hget (fun e=>by cases e)
   (y:=.mapo true (mq ks cells)) (by
    show gN _ _ (mu1 (.O id))
    rw [hm1 _ (fun j e=>by cases e),hmu]
    refine ⟨ms,clock,hb,⟨by rw [zR (by omega)]; omega,hbn⟩,fun i e m h1 h2=>?_⟩
    obtain ⟨h3,c,h4,h5⟩:=zS h1
    refine ⟨hk i e.1 m h3 h2,?_⟩
    obtain ⟨u,hu,hc⟩:=hall i c h4
    have hu:u=m.val:=by
     unfold jb at hu
     rw [hb] at hu
     simp only [h2,Option.map_some,Option.some.injEq] at hu
     exact hu.symm
    subst hu
    have hc:cm E sz c (E.mu (.S id i)) m.val:=hc
    rw [h5]
    generalize m.val=u at hc
    show VR (Env.fz ⟨fun x=>E.F x∨∃ j o s n,E.mu (.S id j)=some (.blk x o s n),mu1,E.h⟩) (AM c) u
    revert hc
    cases c with
    | none =>
     cases E.mu (.S id i) with
     | none=>exact fun h=>by rw [show u=Value.slice none 0 0 from h]; exact .nilsl _
     | some mv=>cases mv <;> exact fun h=>h.elim
    | some rows =>
     cases hmi:E.mu (.S id i) with
     | none=>exact fun h=>h.elim
     | some mv =>
      cases mv with
      | virt =>
       rintro ⟨rfl,c,rfl⟩
       cases c with
       | none=>exact .sln _
       | some c=>exact .sle _ c 0
      | blk b1 o1 s1 n1 =>
       rintro ⟨⟨rfl,rfl⟩,⟨q1,q2,us,ty,q3,q4,q5⟩,cap,h6,h7,rfl⟩
       exact ce.sl (E':=Env.fz ⟨fun x=>E.F x∨∃ j o s n,E.mu (.S id j)=some (.blk x o s n),mu1,E.h⟩) ⟨q1,q2,us,ty,q3,q4,fun m c hc=>by
        obtain ⟨u,hu,hv⟩:=q5 m c hc
        exact ⟨u,hu,hv.mono hfz⟩⟩ (.inr ⟨i,_,_,_,hmi⟩) h6) (fun i=>hm1S i)
  refine ⟨_,_,h,?_,((ht.mono hle1).mono hle2).mono hle3⟩
  have e:(S.o.set id (Ob.mapo true (gV ks))).set id (Ob.mapo true (mq ks cells))=S.o.set id (Ob.mapo true (mq ks cells)):=List.set_set ..
  have hS3:al G p _ { t:=S.t,l:=S.l,o:=(S.o.set id (Ob.mapo true (gV ks))).set id (Ob.mapo true (mq ks cells)),b:=S.b } w:=hS3
  rw [e] at hS3
  exact hS3
 ·exact ⟨S,E,h,hM,ht⟩
theorem pW:∀ {ids:List Nat} {S:St} {E:Env} {K:St→Prop},al G p E S w→TR E S.t a→lF ids S K→∃ S' E',K S'∧al G p E' S' w∧TR E' S'.t a
 | [],S,E,_,hM,ht,h=>⟨S,E,h,hM,ht⟩
 | id::ids,_,_,_,hM,ht,h=>by
  obtain ⟨S1,E1,h,hM1,ht1⟩:=yZ hM ht h
  exact pW hM1 ht1 h
theorem mz (hM:al G p E S w) (ht:TR E S.t a) {pl:br} {id:Nat} {K:St→Prop} (h:kH pl id S K):∃ S' E',K S'∧al G p E' S' w∧TR E' S'.t a:=by
 unfold kH at h
 split at h
 ·exact ⟨S,E,h,hM,ht⟩
 ·obtain ⟨S1,E1,h,hM1,ht1⟩:=q_ hM ht h
  split at h
  ·exact ⟨S1,E1,h,hM1,ht1⟩
  ·exact pW hM1 ht1 h
theorem Kk (hM:al G p E S w) {id sz b o s n:Nat} {cells:List (Option (List (List AV)))} {hole:Option (Nat×AV)} (hob:S.o[id]?=some (.own none sz cells hole)) (hmu:E.mu (.O id)=some (.blk b o s n)):s=1∧n=cells.length:=by
 have h:=hM.obj id
 rw [hob,hmu] at h
 exact h rfl
theorem F6 {hole:Option (Nat×AV)} {i:Nat} (h:mU hole i=true):hole=none∨∃ a0,hole=some (i,a0):=by
 cases hole with
 | none=>exact .inl rfl
 | some z =>
  obtain ⟨j,a0⟩:=z
  have:=Nat.eq_of_beq_eq_true (show Nat.beq i j=true from h)
  subst this
  exact .inr ⟨a0,rfl⟩
theorem pX (hM:al G p E M w) {id i:Nat} {k:AV→St→Prop} {b o s n:Nat} (hmu:E.mu (.O id)=some (.blk b o s n)) (h:f7 M id i k) :
  ∃ M' E' v u,k v M'∧al G p E' M' w∧LE E E'∧VR E' v u∧jb w.heap b o i=some u:=by
 unfold f7 at h
 split at h
 ·rename_i ks sz cells hob
  split at h
  ·rename_i hc
   have hw:=hM.ow id
   rw [hob] at hw
   obtain ⟨_,_,hcells⟩:=hw
   obtain ⟨_,hall⟩:=hcells b o s n hmu
   obtain ⟨u,hu,hcell⟩:=hall i _ hc
   have hcell:cm E sz none (E.mu (.S id i)) u:=hcell
   have hnil:u=.slice none 0 0:=by
    revert hcell
    cases E.mu (.S id i) with
    | none=>exact fun h=>h
    | some mv=>cases mv <;> exact fun h=>h.elim
   subst hnil
   exact ⟨M,E,_,_,h,hM,.refl _,.nilsl _,by rw [← hM.hp]; exact hu⟩
  ·rename_i rows hc
   rw [ax] at h
   obtain ⟨E',u,hS,hle,hv,hcl⟩:=yX hM hob hc hmu
   have e:({ t:=M.t,l:=M.l,o:=M.o.set id (.own ks sz cells (some (i,.mf M.o.length)))++[.arr true sz rows],b:=M.b }:St)=_:=rfl
   exact ⟨_,E',_,u,h,hS,hle,hv,hcl⟩
  ·exact h.elim
 ·exact h.elim
theorem sX (hM:al G p E M w) {x:AV} {u:Value} {k:Nat→Nat→Prop} (hv:VR E x u) (h:jK M x k) :
  ∃ id i b o n sz cells hole,k id i∧M.o[id]?=some (.own none sz cells hole)∧E.mu (.O id)=some (.blk b o 1 n)∧u=.pointer (some ⟨b,o + i,none⟩):=by
 unfold jK at h
 split at h
 ·rename_i id i
  split at h
  ·rename_i sz cells hole hob
   cases hv with
   | ptr _ _ hs hmu =>
    rename_i b o s n
    obtain ⟨rfl,_⟩:=Kk hM hob hmu
    exact ⟨id,i,b,o,n,sz,cells,hole,h,hob,hmu,by simp⟩
  ·exact h.elim
 ·exact h.elim
theorem xe (hM:al G p E M w) {t:TypeId} {same:Bool} {id i:Nat} {k:AV→St→Prop} {b o s n sz:Nat} {cells:List (Option (List (List AV)))} {hole:Option (Nat×AV)} (hob:M.o[id]?=some (.own none sz cells hole)) (hmu:E.mu (.O id)=some (.blk b o s n)) (h:i_ P t same M id i k) :
  ∃ M' E' r z,k r M'∧al G p E' M' w∧LE E E'∧VR E' r z∧(Instr.loadAt t (.pointer (some ⟨b,o + i,none⟩))).run P w=.ok z w:=by
 have hbase:zG w.heap none b o cells.length:=by
  have hw:=hM.ow id
  rw [hob] at hw
  rw [← hM.hp]
  exact (hw.2.2 b o s n hmu).1
 have ld:∀ {E':Env} {v:AV} {u:Value} {k:AV→Prop},VR E' v u→jb w.heap b o i=some u→i6 P t [v] 0 k→∃ r z,k r∧VR E' r z∧(Instr.loadAt t (.pointer (some ⟨b,o + i,none⟩))).run P w=.ok z w:=by
  intro E' v u k hv hc hk
  obtain ⟨r,z,h1,h2,h3⟩:=rI (P:=P) hk (bO.cons hv (bO.nil E')) w (b:=b) (o:=o + i) (fun m u' hu'=>by
   cases m with
   | zero =>
    simp at hu'
    subst hu'
    show cD w.heap b (o + i)=some u
    exact Cb hbase hc
   | succ m=>simp at hu')
  exact ⟨r,z,h1,h2,h3⟩
 unfold i_ at h
 split at h
 ·split at h
  ·rename_i sz' cells' j v hob'
   rw [hob] at hob'
   cases hob'
   replace h:=ae h
   obtain ⟨hb,h⟩:=h
   simp only [Bool.and_eq_true,Nat.blt_eq] at hb
   obtain ⟨hij,hj⟩:=hb
   have hij:=Nat.eq_of_beq_eq_true hij
   subst hij
   have hw:=hM.ow id
   rw [hob] at hw
   obtain ⟨_,_,hcells⟩:=hw
   obtain ⟨_,hall⟩:=hcells b o s n hmu
   obtain ⟨u,hu,hcell⟩:=hall i _ (List.getElem?_eq_getElem hj)
   have h7:(if i=i then E.mu (.S id i)=none∧VR E.ob v u else cm E sz cells[i] (E.mu (.S id i)) u):=hcell
   rw [if_pos rfl] at h7
   obtain ⟨r,z,h3,h4,h5⟩:=ld h7.2.of_ob (by rw [← hM.hp]; exact hu) h
   exact ⟨M,E,r,z,h3,hM,.refl _,h4,h5⟩
  ·exact h.elim
 ·obtain ⟨M',E',v,u,h,hM',hle,hv,hc⟩:=pX hM hmu h
  obtain ⟨r,z,h3,h4,h5⟩:=ld hv hc h
  exact ⟨M',E',r,z,h3,hM',hle,h4,h5⟩
theorem xf (hM:al G p E S w) {id i sz:Nat} {ks:Option (List AV)} {cells:List (Option (List (List AV)))} {hole:Option (Nat×AV)} (hob:S.o[id]?=some (.own ks sz cells hole)) (hh:mU hole i=true) :
  ∃ E',LE E E'∧E'.h=E.h∧E'.mu (.O id)=E.mu (.O id)∧al G p E' { t:=S.t,l:=S.l,o:=S.o.set id (.own ks sz cells (some (i,.bad))),b:=S.b } w:=by
 have hw:=hM.ow id
 rw [hob] at hw
 obtain ⟨hz,hbey,hcells⟩:=hw
 have hOb:=hM.obj id
 rw [hob] at hOb
 obtain ⟨mu1,hmu1⟩:∃ mu1:Key→Option MV,mu1=fun k=>if k=.S id i then none else E.mu k:=⟨_,rfl⟩
 have hm1i:mu1 (.S id i)=none:=by rw [hmu1]; simp
 have hm1:∀ k,k≠.S id i→mu1 k=E.mu k:=fun k hk=>by rw [hmu1]; show (if k=.S id i then none else E.mu k)=_; rw [if_neg hk]
 have hW1:eV ⟨E.F,mu1,E.h⟩ id (some (.own ks sz cells (some (i,.bad)))):=by
  refine ⟨hz,fun j hj=>?_,fun b' o' s' n' hm=>?_⟩
  ·show mu1 (.S id j)=none
   by_cases h:Key.S id j=.S id i
   ·rw [h]; exact hm1i
   ·rw [hm1 _ h]; exact hbey j hj
  ·have hm:E.mu (.O id)=some (.blk b' o' s' n'):=(hm1 _ (fun e=>by cases e)).symm.trans hm
   obtain ⟨h4,h6⟩:=hcells b' o' s' n' hm
   refine ⟨h4,fun j c hj=>?_⟩
   obtain ⟨u',hu',h7⟩:=h6 j c hj
   refine ⟨u',hu',?_⟩
   show if i=j then mu1 (.S id j)=none∧VR _ .bad u' else cm _ sz c (mu1 (.S id j)) u'
   by_cases hij:i=j
   ·subst hij
    rw [if_pos rfl]
    exact ⟨hm1i,.bad _ _⟩
   ·rw [if_neg hij,hm1 _ (fun e=>hij (by cases e; rfl))]
    have h8:cm E sz c (E.mu (.S id j)) u':=by
     rcases F6 hh with rfl | ⟨a0,rfl⟩
     ·exact h7
     ·have h7:(if i=j then E.mu (.S id j)=none∧VR E.ob a0 u' else cm E sz c (E.mu (.S id j)) u'):=h7
      rw [if_neg hij] at h7
      exact h7
    exact cm.mono h8 (LE.refl _) (fun _ _ _ _ _=>rfl)
 obtain ⟨hle1,hS1⟩:=hM.reS (mu':=mu1) (fun k hk=>hm1 k (hk i)) (fun j b' o' s' n' h=>by
   by_cases hj:Key.S id j=.S id i
   ·rw [hj,hm1i] at h; cases h
   ·rw [hm1 _ hj] at h
    obtain ⟨h1,h2,h3,h4⟩:=hM.ownS h
    exact ⟨h1,h2,h3,fun k o2 s2 n2 hk=>h4 k o2 s2 n2 (hk j)⟩)
  (fun j j' b' o' s' n' o2 s2 n2 h h'=>by
   by_cases hj:Key.S id j=.S id i
   ·rw [hj,hm1i] at h; cases h
   ·by_cases hj':Key.S id j'=.S id i
    ·rw [hj',hm1i] at h'; cases h'
    ·rw [hm1 _ hj] at h
     rw [hm1 _ hj'] at h'
     have:=hM.inj _ _ _ _ _ _ _ _ _ h h'
     cases this
     rfl) hob (fun e=>by cases e) (y:=.own ks sz cells (some (i,.bad))) (by
   revert hOb
   cases E.mu (.O id) with
   | none=>exact fun h=>h.elim
   | some mv=>cases mv <;> exact fun h=>h) hW1
 exact ⟨_,hle1,rfl,hm1 _ (fun e=>by cases e),hS1⟩
theorem Ba (hM:al G p E S w) {id i sz:Nat} {cells:List (Option (List (List AV)))} {hole:Option (Nat×AV)} (hob:S.o[id]?=some (.own none sz cells hole)) (hh:mU hole i=true) (hi:i<cells.length)
  {b o s n:Nat} (hmu:E.mu (.O id)=some (.blk b o s n)) {v:AV} {u:Value} (hv:VR E v u) (hn:wa 4 v=true) :
  ∃ us ty E',w.heap[b]?=some (.cells us ty (0,0))∧o + i<us.size∧al G p E' { t:=S.t,l:=S.l,o:=S.o.set id (.own none sz cells (some (i,v))),b:=S.b } (aI w b (.cells (bV us (o + i) [u] 0) ty (0,0)))∧LE E E':=by
 obtain ⟨E1,hle1,hh1,hmu1,hS1⟩:=xf hM hob hh
 have hlt:id<S.o.length:=(List.getElem?_eq_some_iff.1 hob).1
 have hmu1:E1.mu (.O id)=some (.blk b o s n):=hmu1.trans hmu
 have hget1:(S.o.set id (.own none sz cells (some (i,.bad))))[id]?=some (.own none sz cells (some (i,.bad))):=List.getElem?_set_self hlt
 have hw:=hS1.ow id
 rw [hget1] at hw
 obtain ⟨hz,hbey,hcells⟩:=hw
 obtain ⟨⟨us,ty,hb,hul⟩,hall⟩:=hcells b o s n hmu1
 have hbw:w.heap[b]?=some (.cells us ty (0,0)):=by rw [← hS1.hp]; exact hb
 have hblt:b<w.heap.size:=(Array.getElem?_eq_some_iff.1 hbw).1
 have hsz:aU (aI w b (.cells (bV us (o + i) [u] 0) ty (0,0))).heap b=aU w.heap b:=by
  unfold aU
  rw [cq hblt,hbw]
  simp [cn]
 have hle2:=hS1.setblk_le hmu1 hsz
 have hOb:=hS1.obj id
 rw [hget1,hmu1] at hOb
 obtain ⟨_,hS2⟩:=hS1.setblk hmu1 hsz (M':={ t:=S.t,l:=S.l,o:=S.o.set id (.own none sz cells (some (i,v))),b:=S.b })
  (fun _ _=>rfl) (fun j hj=>by
   show (S.o.set id _)[j]?=(S.o.set id _)[j]?
   rw [List.getElem?_set,List.getElem?_set,if_neg (fun e=>hj (by rw [e])),if_neg (fun e=>hj (by rw [e]))]) rfl (by simp) (fun d e=>by cases e)
  (fun j e=>by
   cases e
   show gN _ (S.o.set id _)[id]? _
   rw [List.getElem?_set_self hlt,hmu1]
   exact hOb)
  (fun j e=>by
   rcases e with e | ⟨i',e⟩ <;> cases e
   show eV _ id (S.o.set id _)[id]?
   rw [List.getElem?_set_self hlt]
   refine ⟨hz,hbey,fun b' o' s' n' hm=>?_⟩
   have hm:E1.mu (.O id)=some (.blk b' o' s' n'):=hm
   rw [hmu1] at hm
   cases hm
   have hnew:=cq (ob:=.cells (bV us (o + i) [u] 0) ty (0,0)) hblt
   refine ⟨⟨_,ty,hnew,by rw [cn]; exact hul⟩,fun j c hj=>?_⟩
   obtain ⟨u',hu',h7⟩:=hall j c hj
   have hu':us[o + j]?=some u':=by unfold jb at hu'; rw [hb] at hu'; exact hu'
   have hval:∀ z,(bV us (o + i) [u] 0)[o + j]?=some z→jb (aI w b (.cells (bV us (o + i) [u] 0) ty (0,0))).heap b o j=some z:=fun z hz=>by
    unfold jb
    rw [hnew]
    exact hz
   have hjl:j<cells.length:=(List.getElem?_eq_some_iff.1 hj).1
   have h7:(if i=j then E1.mu (.S id j)=none∧VR E1.ob .bad u' else cm E1 sz c (E1.mu (.S id j)) u'):=h7
   by_cases hij:i=j
   ·subst hij
    rw [if_pos rfl] at h7
    refine ⟨u,hval _ ?_,?_⟩
    ·rw [jO,if_pos ⟨by omega,by simp,by omega⟩]
     simp
    ·show (if i=i then E1.mu (.S id i)=none∧VR _ v u else cm _ sz c (E1.mu (.S id i)) u)
     rw [if_pos rfl]
     exact ⟨h7.1,lK 4 hn ((hv.mono hle1).mono hle2)⟩
   ·rw [if_neg hij] at h7
    refine ⟨u',hval _ ?_,?_⟩
    ·rw [jO,if_neg (fun h=>by have h1:=h.1; have h2:=h.2.1; simp at h2; omega)]
     exact hu'
    ·show (if i=j then E1.mu (.S id j)=none∧VR _ v u' else cm _ sz c (E1.mu (.S id j)) u')
     rw [if_neg hij]
     refine cm.mono h7 hle2.fz (fun b' o' s' n' hmj=>?_)
     show (aI w b _).heap[b']?=E1.h[b']?
     rw [hS1.hp]
     have hne:b≠b':=fun e=>by
      subst e
      have:=hS1.inj _ _ _ _ _ _ _ _ _ hmj hmu1
      cases this
     simp only [aI,Array.getElem?_setIfInBounds]
     rw [if_neg hne])
 exact ⟨us,ty,_,hbw,by omega,hS2,hle1.trans hle2⟩
theorem rU {v:AV} (h:uh v=true):wa 4 v=true:=by
 cases v <;> first | rfl | cases h
theorem Bb {v:AV} {u:Value} (h:uh v=true) (hv:VR E v u):∃ A q c,u=.slice A q c:=by
 cases v <;> first | (cases h; done) | skip
 ·cases hv; exact ⟨_,_,_,rfl⟩
 ·cases hv <;> exact ⟨_,_,_,rfl⟩
theorem vO (hM:al G p E M w) {t:TypeId} {id i:Nat} {v:AV} {u:Value} {K:St→Prop} {b o s n:Nat} (hmu:E.mu (.O id)=some (.blk b o s n)) (hv:VR E v u) (h:gL P t M id i v K) :
  ∃ M' E' w',K M'∧al G p E' M' w'∧LE E E'∧(Instr.storeAt t (.pointer (some ⟨b,o + i,none⟩)) u).run P w=.ok () w':=by
 unfold gL at h
 split at h
 ·rename_i inf sz cells hole hi hob
  obtain ⟨hb,h⟩:=ae h
  simp only [Bool.and_eq_true,Nat.blt_eq] at hb
  obtain ⟨⟨⟨hsl,hil⟩,hsz⟩,hh⟩:=hb
  have hsz:=Nat.eq_of_beq_eq_true hsz
  rw [ax] at h
  obtain ⟨us,ty,E',hbw,hlt,hS,hle⟩:=Ba hM hob hh hil hmu hv (rU hsl)
  obtain ⟨A,q,c,rfl⟩:=Bb hsl hv
  refine ⟨_,E',_,h,hS,hle,?_⟩
  exact pS (P:=P) (t:=t) (b:=b) (off:=o + i) hi hbw (by rw [hsz]; rfl) (fun v hv=>by
   have:v=.slice A q c:=by simpa [Value.cells] using hv
   subst this
   rfl) (by show o + i + 1≤us.size; omega)
 ·exact h.elim
theorem sY (hM:al G p E M w) {id i sz:Nat} {ks ks':List AV} {cells cells':List (Option (List (List AV)))} {hole:Option (Nat×AV)} (hob:M.o[id]?=some (.own (some ks) sz cells hole)) (hh:mU hole i=true)
  {b o s n clock clock':Nat} {ms ms':Array MapEntry} (hmu:E.mu (.O id)=some (.blk b o s n)) (hb:w.heap[b]?=some (.map ms clock)) {v:AV} {u:Value} (hv:VR E v u) (hn:wa 4 v=true)
  (hl:cells'.length=ms'.size∧cells'.length=ks'.length∧vL ms' clock') (hk:∀ (i:Nat) (k:AV) (m:MapEntry),ks'[i]?=some k→ms'[i]?=some m→yE k=some m.key)
  (hlen:cells.length≤cells'.length) (_:∀ j,cells.length≤j→j<cells'.length→j=i) (hsame:∀ j,j≠i→cells'[j]?=cells[j]?) (hval:∀ j,j≠i→j<cells'.length→(ms'[j]?).map (·.val)=(ms[j]?).map (·.val)) (hat:∃ m,ms'[i]?=some m∧m.val=u) :
  ∃ E',al G p E' { t:=M.t,l:=M.l,o:=M.o.set id (.own (some ks') sz cells' (some (i,v))),b:=M.b } (aI w b (.map ms' clock'))∧LE E E':=by
 obtain ⟨E1,hle1,hh1,hmu1,hS1⟩:=xf hM hob hh
 have hlt:id<M.o.length:=(List.getElem?_eq_some_iff.1 hob).1
 have hmu1:E1.mu (.O id)=some (.blk b o s n):=hmu1.trans hmu
 have hget1:(M.o.set id (.own (some ks) sz cells (some (i,.bad))))[id]?=some (.own (some ks) sz cells (some (i,.bad))):=List.getElem?_set_self hlt
 have hw:=hS1.ow id
 rw [hget1] at hw
 obtain ⟨hz,hbey,hcells⟩:=hw
 obtain ⟨_,hall⟩:=hcells b o s n hmu1
 have hb1:E1.h[b]?=some (.map ms clock):=by rw [hS1.hp]; exact hb
 have hblt:b<w.heap.size:=(Array.getElem?_eq_some_iff.1 hb).1
 have hnb:=cq (ob:=.map ms' clock') hblt
 have hss:aU (aI w b (.map ms' clock')).heap b=aU w.heap b:=by
  unfold aU
  rw [hnb,hb]
 have hle2:=hS1.setblk_le hmu1 hss
 have hSi:E1.mu (.S id i)=none:=by
  by_cases hi:i<cells.length
  ·obtain ⟨u',_,h7⟩:=hall i _ (List.getElem?_eq_getElem hi)
   have h7:(if i=i then E1.mu (.S id i)=none∧VR E1.ob .bad u' else cm E1 sz cells[i] (E1.mu (.S id i)) u'):=h7
   rw [if_pos rfl] at h7
   exact h7.1
  ·exact hbey i (by omega)
 have hOb:=hS1.obj id
 rw [hget1,hmu1] at hOb
 obtain ⟨_,hS2⟩:=hS1.setblk hmu1 hss (M':={ t:=M.t,l:=M.l,o:=M.o.set id (.own (some ks') sz cells' (some (i,v))),b:=M.b })
  (fun _ _=>rfl) (fun j hj=>by
   show (M.o.set id _)[j]?=(M.o.set id _)[j]?
   rw [List.getElem?_set,List.getElem?_set,if_neg (fun e=>hj (by rw [e])),if_neg (fun e=>hj (by rw [e]))]) rfl (by simp) (fun d e=>by cases e)
  (fun j e=>by
   cases e
   show gN _ (M.o.set id _)[id]? _
   rw [List.getElem?_set_self hlt,hmu1]
   exact fun e=>by cases e)
  (fun j e=>by
   rcases e with e | ⟨i',e⟩ <;> cases e
   show eV _ id (M.o.set id _)[id]?
   rw [List.getElem?_set_self hlt]
   refine ⟨hz,fun j hj=>hbey j (by omega),fun b' o' s' n' hm=>?_⟩
   have hm:E1.mu (.O id)=some (.blk b' o' s' n'):=hm
   rw [hmu1] at hm
   cases hm
   refine ⟨⟨ms',clock',hnb,hl,hk⟩,fun j c hj=>?_⟩
   have hjl:j<cells'.length:=(List.getElem?_eq_some_iff.1 hj).1
   have hva:∀ z,(ms'[j]?).map (·.val)=some z→jb (aI w b (.map ms' clock')).heap b o j=some z:=fun z hz=>by
    unfold jb
    rw [hnb]
    exact hz
   by_cases hij:i=j
   ·subst hij
    obtain ⟨m,hm1,hm2⟩:=hat
    refine ⟨u,hva _ (by rw [hm1,← hm2]; rfl),?_⟩
    show (if i=i then E1.mu (.S id i)=none∧VR _ v u else cm _ sz c (E1.mu (.S id i)) u)
    rw [if_pos rfl]
    exact ⟨hSi,lK 4 hn ((hv.mono hle1).mono hle2)⟩
   ·rw [hsame j (fun e=>hij e.symm)] at hj
    obtain ⟨u',hu',h7⟩:=hall j c hj
    have h7:(if i=j then E1.mu (.S id j)=none∧VR E1.ob .bad u' else cm E1 sz c (E1.mu (.S id j)) u'):=h7
    rw [if_neg hij] at h7
    refine ⟨u',hva _ ?_,?_⟩
    ·rw [hval j (fun e=>hij e.symm) hjl]
     unfold jb at hu'
     rw [hb1] at hu'
     exact hu'
    ·show (if i=j then E1.mu (.S id j)=none∧VR _ v u' else cm _ sz c (E1.mu (.S id j)) u')
     rw [if_neg hij]
     refine cm.mono h7 hle2.fz (fun b' o' s' n' hmj=>?_)
     show (aI w b _).heap[b']?=E1.h[b']?
     rw [hS1.hp]
     have hne:b≠b':=fun e=>by
      subst e
      have:=hS1.inj _ _ _ _ _ _ _ _ _ hmj hmu1
      cases this
     simp only [aI,Array.getElem?_setIfInBounds]
     rw [if_neg hne])
 exact ⟨_,hS2,hle1.trans hle2⟩
theorem D2 {e:TypeId} {ok:Bool} {k:AV→Prop} (hh:i7 P e ok k):∃ r zz z,k r∧VR E r zz∧(zeroValue e).run P w=.ok z w∧zz=(if ok then .tuple #[z,.bool false] else z):=by
 unfold i7 at hh
 split at hh
 ·rename_i i hi
  split at hh
  ·rename_i z hz
   rw [cf] at hh
   unfold pL at hh
   cases ok with
   | true=>exact ⟨_,_,z,hh,.tup #[z,.bool false] rfl (fun m c u h1 h2=>by
     match m,h1,h2 with
     | 0,h1,h2=>simp at h1 h2; subst h1 h2; exact AU E z
     | 1,h1,h2=>simp at h1 h2; subst h1 h2; exact .v _ _ rfl),cU hi hz w,rfl⟩
   | false=>exact ⟨_,_,z,hh,AU E z,cU hi hz w,rfl⟩
  ·exact False.elim hh
 ·exact False.elim hh
theorem xg (hM:al G p E M w) {t:TypeId} {m key:AV} {um uk:Value} {ok:Bool} {k:AV→St→Prop} (hm:VR E m um) (hkey:VR E key uk) (h:ja P t m key ok M k) :
  ∃ M' E' r z,k r M'∧al G p E' M' w∧LE E E'∧VR E' r z∧(Instr.lookup t um uk ok).run P w=.ok z w:=by
 unfold ja at h
 split at h
 ·rename_i kt e hu
  split at h
  ·rename_i id
   split at h
   ·rename_i ks sz cells hob
    cases hm with
    | mp hmu =>
     rename_i b o s n
     have hw:=hM.ow id
     rw [hob] at hw
     obtain ⟨⟨ms,clock,hb,⟨hl1,hl2,_⟩,hk⟩,_⟩:=hw.2.2 b o s n hmu
     rw [hM.hp] at hb
     obtain ⟨r,hr,_,hc,hf,hv⟩:=km (ms:=ms) h hkey (by rw [qG]; omega) (fun i e m h4 h5=>hk i e.1 m (qH h4).1 h5) w
     have hc':=hc ms.isEmpty rfl
     cases r with
     | none =>
      obtain ⟨r,zz,z,h4,h5,h6,h7⟩:=D2 (E:=E) (w:=w) hr
      refine ⟨M,E,r,zz,h4,hM,.refl _,h5,?_⟩
      unfold Instr.lookup
      simp only [Sem.run_bind,run_underlying hu,Result.andThen_ok,Sem.run_pure,fO hb,hc',hf,h6,h7]
     | some jv =>
      obtain ⟨j,vv⟩:=jv
      simp only [Option.map_some] at hr
      obtain ⟨M',E',v,u,hr,hM',hle,hvu,hva⟩:=pX hM hmu hr
      have hj:=hv j vv rfl
      unfold jb at hva
      rw [hb] at hva
      have hva:(ms[j]?).map (·.val)=some u:=hva
      rw [hj] at hva
      have hva:=Option.some.inj hva
      subst hva
      unfold pL at hr
      cases ok with
      | true =>
       refine ⟨M',E',_,.tuple #[vv,.bool true],hr,hM',hle,.tup #[vv,.bool true] rfl (fun m c z h1 h2=>by
        match m,h1,h2 with
        | 0,h1,h2=>simp at h1 h2; subst h1 h2; exact hvu
        | 1,h1,h2=>simp at h1 h2; subst h1 h2; exact .v _ _ rfl),?_⟩
       unfold Instr.lookup
       simp only [Sem.run_bind,run_underlying hu,Result.andThen_ok,Sem.run_pure,fO hb,hc',hf]
       rfl
      | false =>
       refine ⟨M',E',_,vv,hr,hM',hle,hvu,?_⟩
       unfold Instr.lookup
       simp only [Sem.run_bind,run_underlying hu,Result.andThen_ok,Sem.run_pure,fO hb,hc',hf]
       rfl
   ·exact h.elim
  ·exact h.elim
 ·exact h.elim
theorem ra (hM:al G p E M w) {t:TypeId} {m key x:AV} {um uk ux:Value} {K:St→Prop} (hm:VR E m um) (hkey:VR E key uk) (hx:VR E x ux) (h:j4 P t m key x M K) :
  ∃ M' E' w',K M'∧al G p E' M' w'∧LE E E'∧(Instr.mapUpdate t um uk ux).run P w=.ok () w':=by
 unfold j4 at h
 split at h
 ·rename_i kt e hu
  split at h
  ·rename_i id
   split at h
   ·rename_i ks sz cells hole hob
    obtain ⟨hsl,h⟩:=ae h
    cases hm with
    | mp hmu =>
     rename_i b o s n
     have hw:=hM.ow id
     rw [hob] at hw
     obtain ⟨⟨ms,clock,hb,⟨hl1,hl2,hbn⟩,hk⟩,_⟩:=hw.2.2 b o s n hmu
     rw [hM.hp] at hb
     obtain ⟨r,hr,htk,_,hfind,hval⟩:=km (ms:=ms) h hkey (by rw [qG]; omega) (fun i e m h4 h5=>hk i e.1 m (qH h4).1 h5) w
     obtain ⟨hck,hr⟩:=ae hr
     have hck':(Instr.checkKey false 10000 kt uk).run P w=.ok () w:=by
      unfold wO at hck
      split at hck
      ·rename_i c hc
       exact fL _ w hc
      ·cases hck
     cases r with
     | none =>
      simp only [Option.map_none] at hr
      split at hr
      ·rw [ax] at hr
       obtain ⟨E',hS,hle⟩:=sY hM (i:=cells.length) hob rfl hmu hb (ms':=ms.push { key:=uk,val:=ux,born:=clock }) (clock':=clock + 1) (ks':=ks++[key]) (cells':=cells++[none]) hx (rU hsl)
        ⟨by simp [hl1],by simp [hl2],hbn.push _ _⟩ (fun i k m h1 h2=>by
         rcases Nat.lt_trichotomy i ks.length with hi | hi | hi
         ·rw [List.getElem?_append_left hi] at h1
          rw [Array.getElem?_push,if_neg (by omega)] at h2
          exact hk i k m h1 h2
         ·subst hi
          rw [List.getElem?_append_right (Nat.le_refl _),Nat.sub_self] at h1
          rw [Array.getElem?_push,if_pos (by omega)] at h2
          cases h1
          cases h2
          exact htk
         ·rw [List.getElem?_eq_none (by simp; omega)] at h1
          cases h1) (by simp) (fun j h1 h2=>by simp at h2; omega) (fun j hj=>by
         rcases Nat.lt_or_ge j cells.length with h1 | h1
         ·rw [List.getElem?_append_left h1]
         ·rw [List.getElem?_eq_none (by simp; omega),List.getElem?_eq_none h1]) (fun j hj h1=>by
         rw [Array.getElem?_push,if_neg (by omega)]) ⟨_,by rw [Array.getElem?_push,if_pos hl1],rfl⟩
       refine ⟨_,E',_,hr,hS,hle,?_⟩
       unfold Instr.mapUpdate
       simp only [Sem.run_bind,run_underlying hu,Result.andThen_ok,fO hb,hck',hfind,oa hb]
      ·exact hr.elim
     | some r =>
      obtain ⟨i,v⟩:=r
      simp only [Option.map_some] at hr
      obtain ⟨hsb,hr⟩:=ae hr
      rw [Bool.and_eq_true] at hsb
      rw [ax] at hr
      have hv0:=hval i v rfl
      rw [Option.map_eq_some_iff] at hv0
      obtain ⟨m0,hm0,_⟩:=hv0
      have hims:i<ms.size:=(Array.getElem?_eq_some_iff.1 hm0).1
      have hie:ks[i]?=some ks[i]:=List.getElem?_eq_getElem (by omega)
      have hkey0:=hk i _ m0 hie hm0
      have hsb1:=hsb.1
      rw [hie] at hsb1
      simp only [Option.bind_some,hkey0,Option.getD_some] at hsb1
      obtain ⟨E',hS,hle⟩:=sY hM (i:=i) hob hsb.2 hmu hb (ms':=ms.modify i fun e=>{ e with key:=uk,val:=ux }) (clock':=clock) (ks':=ks.set i key) (cells':=cells) hx (rU hsl)
       ⟨by simp [hl1],by simp [hl2],hbn.modify _ _ _⟩ (fun j k m h1 h2=>by
        rw [List.getElem?_set] at h1
        rw [Array.getElem?_modify] at h2
        by_cases hj:i=j
        ·subst hj
         rw [if_pos rfl,if_pos (by omega)] at h1
         rw [if_pos rfl,hm0] at h2
         cases h1
         cases h2
         exact htk
        ·rw [if_neg hj] at h1 h2
         exact hk j k m h1 h2) (Nat.le_refl _) (fun j h1 h2=>by omega) (fun _ _=>rfl) (fun j hj _=>by
        rw [Array.getElem?_modify,if_neg (fun e=>hj e.symm)]) ⟨{ m0 with key:=uk,val:=ux },by rw [Array.getElem?_modify,if_pos rfl,hm0]; rfl,rfl⟩
      refine ⟨_,E',_,hr,hS,hle,?_⟩
      have hstay:(Instr.keyThatStays (((ms[i]?).map (·.key)).getD uk) uk).run P w=.ok uk w:=by
       rw [hm0]
       unfold Instr.keyThatStays
       simp only [Option.map_some,Option.getD_some]
       rw [if_pos hsb1]
       rfl
      unfold Instr.mapUpdate
      simp only [Sem.run_bind,run_underlying hu,Result.andThen_ok,fO hb,hck',hfind,hstay,oa hb]
   ·exact h.elim
  ·exact h.elim
 ·exact h.elim
theorem Cx {x:AV}:∀ n:Nat,(List.replicate n [x]).flatten=List.replicate n x
 | 0=>rfl
 | n + 1=>by
  show [x]++(List.replicate n [x]).flatten=_
  rw [Cx n]
  rfl
theorem Cy (hM:al G p E S w) {id n sz:Nat} (hsz:0<sz) (hob:S.o[id]?=some (.arr true 1 (List.replicate n [.nilsl]))) :
  al G p E { t:=S.t,l:=S.l,o:=S.o.set id (.own none sz (List.replicate n none) none),b:=S.b } w:=by
 have hw:=hM.ow id
 rw [hob] at hw
 have hw:∀ i,E.mu (.S id i)=none:=hw
 have hOb:=hM.obj id
 rw [hob] at hOb
 have h:=hM.reS (id:=id) (mu':=E.mu) (fun _ _=>rfl) (fun j b o s n h=>by rw [hw j] at h; cases h) (fun j j' b o s n o2 s2 n2 h h'=>by rw [hw j] at h; cases h) hob (fun e=>by cases e)
  (y:=.own none sz (List.replicate n none) none) (by
   revert hOb
   cases E.mu (.O id) with
   | none=>exact fun h=>h.elim
   | some mv =>
    cases mv with
    | virt =>
     intro h
     have h:List.replicate n [AV.nilsl]=[]:=h
     have h0:n=0:=by simpa using congrArg List.length h
     subst h0
     exact ⟨rfl,rfl⟩
    | blk b o s m =>
     rintro ⟨⟨h1,h2⟩,_⟩
     exact fun _=>⟨h1,by simpa using h2⟩) ⟨hsz,fun i _=>hw i,fun b o s m hm=>by
   rw [hm] at hOb
   obtain ⟨⟨h1,h2⟩,_,_,us,ty,h3,h4,h5⟩:=hOb
   subst h1
   refine ⟨⟨us,ty,h3,by simpa using h4⟩,fun i c hi=>?_⟩
   rw [List.getElem?_replicate] at hi
   split at hi
   ·rename_i hin
    cases hi
    obtain ⟨u,hu,hv⟩:=h5 i .nilsl (by
     rw [Cx,List.getElem?_replicate,if_pos hin])
    refine ⟨u,by unfold jb; rw [h3]; exact hu,?_⟩
    show cm E sz none (E.mu (.S id i)) u
    rw [hw i]
    cases hv
    rfl
   ·cases hi⟩
 exact h.2
theorem di.then {o:Oper} {K K1:St→Prop} (h:di P G p o a w K1) (hk:∀ S' E' a' w',K1 S'→al G p E' S' w'→TR E' S'.t a'→∃ S2 E2,K S2∧al G p E2 S2 w'∧TR E2 S2.t a'):di P G p o a w K:=by
 intro next Q hn
 refine h next Q (fun S' E' a' w' h1 h2 h3=>?_)
 obtain ⟨S2,E2,h4,h5,h6⟩:=hk S' E' a' w' h1 h2 h3
 exact hn S2 E2 a' w' h4 h5 h6
theorem jQ {x:AV} {k k':Int→Prop} (h:intOf x k) (hk:∀ n,k n→k' n):intOf x k':=by
 unfold intOf at h ⊢
 split at h
 ·exact hk _ h
 ·exact h.elim
theorem oc {e:TypeId} {k k':List AV→Prop} (h:cC P e k) (hk:∀ z,k z→k' z):cC P e k':=by
 unfold cC at h ⊢
 split at h
 ·split at h
  ·obtain ⟨hb,h⟩:=ae h
   refine ap hb ?_
   rw [iG] at h ⊢
   exact hk _ h
  ·exact h.elim
 ·exact h.elim
theorem zT {x:Operand} {k k':AV→Prop} (h:cz S x k) (hk:∀ v,k v→k' v):cz S x k':=by
 unfold cz at h ⊢
 split at h
 ·obtain ⟨v,h1,h2⟩:=bS.1 h
  exact bS.2 ⟨v,h1,hk v h2⟩
 ·exact cf.2 (hk _ (cf.1 h))
 ·exact hk _ h
 ·split at h
  ·exact hk _ h
  ·exact h.elim
theorem Bc {t:TypeId} {l c:AV} {k:AV→St→Prop} (h:ij P t l c S k):a8 P t l c S fun S' r=>∃ n sz,0<sz∧S'={ t:=S.t,l:=S.l,o:=S.o++[.arr true 1 (List.replicate n [.nilsl])],b:=S.b }∧r=.mf S.o.length ∧
  k (.mf S.o.length) { t:=S.t,l:=S.l,o:=S.o++[.own none sz (List.replicate n none) none],b:=S.b }:=by
 unfold ij at h
 unfold a8
 split at h
 ·rename_i e hu
  try rw [hu]
  try dsimp only
  split at h
  ·rename_i i e2 hi he
   try rw [hi]
   try dsimp only
   split at h
   ·rename_i i2 hi2
    refine jQ h (fun nl h=>?_)
    refine jQ h (fun nc h=>?_)
    obtain ⟨hb,h⟩:=ae h
    rw [Bool.and_eq_true,Bool.and_eq_true] at hb
    refine ap hb.1.1 ?_
    have h1:=Nat.eq_of_beq_eq_true hb.1.2
    have h2:0<i2.size:=by have:=hb.2; rwa [Nat.blt_eq] at this
    refine oc h (fun z h=>?_)
    split at h
    ·rw [ax] at h
     refine ap rfl ?_
     rw [ax]
     exact ⟨nl.toNat,i2.size,h2,by rw [h1],rfl,h⟩
    ·exact h.elim
   ·exact h.elim
  ·exact h.elim
 ·exact h.elim
theorem y_ {o:Oper} {t:TypeId} {X Y:Operand} {K:St→Prop} (hM:al G p E S w) (ht:TR E S.t a) (ho:o.op=.makeSlice t X Y) (h:cz S X fun l=>cz S Y fun c=>ij P t l c (cH S) fun r M=>bd o.dst r (f6 S M) K):di P G p o a w K:=by
 have h1:cz S X fun l=>cz S Y fun c=>a8 P t l c S fun S' r=>bd o.dst r S' fun S2=>∃ n sz,0<sz∧S2=lH { t:=S.t,l:=S.l,o:=S.o++[.arr true 1 (List.replicate n [.nilsl])],b:=S.b } o.dst (.mf S.o.length) ∧
   K (lH { t:=S.t,l:=S.l,o:=S.o++[.own none sz (List.replicate n none) none],b:=S.b } o.dst (.mf S.o.length)):=by
  refine zT h (fun l h=>?_)
  refine zT h (fun c h=>?_)
  unfold a8
  have h2:=Bc h
  unfold a8 at h2
  split at h2
  ·split at h2
   ·refine jQ h2 (fun nl h2=>?_)
    refine jQ h2 (fun nc h2=>?_)
    obtain ⟨hb,h2⟩:=ae h2
    refine ap hb ?_
    refine oc h2 (fun z h2=>?_)
    obtain ⟨hb,h2⟩:=ae h2
    refine ap hb ?_
    rw [ax] at h2 ⊢
    show bd o.dst (.mf S.o.length) _ _
    rw [aA]
    obtain ⟨n,sz,h3,h4,h5,h6⟩:=h2
    rw [aA] at h6
    exact ⟨n,sz,h3,congrArg (fun oo=>lH { t:=S.t,l:=S.l,o:=oo,b:=S.b } o.dst (.mf S.o.length)) (congrArg St.o h4),h6⟩
   ·exact h2.elim
  ·exact h2.elim
 refine (kB hM ht ho h1).then (fun S' E' a' w' hk hS htr=>?_)
 obtain ⟨n,sz,hsz,rfl,hK⟩:=hk
 have hS':=hS.congr (M':={ t:=S.t,l:=S.l,o:=S.o++[.arr true 1 (List.replicate n [.nilsl])],b:=S.b }) cu.symm cv.symm cF.symm
 have hS2:=Cy hS' (id:=S.o.length) (n:=n) hsz (by
  show (S.o++[_])[S.o.length]?=_
  rw [List.getElem?_append_right (Nat.le_refl _),Nat.sub_self]
  rfl)
 have e:(S.o++[Ob.arr true 1 (List.replicate n [.nilsl])]).set S.o.length (Ob.own none sz (List.replicate n none) none)=S.o++[Ob.own none sz (List.replicate n none) none]:=by
  rw [List.set_append_right _ _ (Nat.le_refl _),Nat.sub_self]
  rfl
 refine ⟨_,E',hK,hS2.congr ?_ ?_ ?_,?_⟩
 ·exact cu
 ·rw [cv]; exact e.symm
 ·exact cF
 ·have:(lH { t:=S.t,l:=S.l,o:=S.o++[.own none sz (List.replicate n none) none],b:=S.b } o.dst (.mf S.o.length)).t=(lH { t:=S.t,l:=S.l,o:=S.o++[.arr true 1 (List.replicate n [.nilsl])],b:=S.b } o.dst (.mf S.o.length)).t:=by cases o.dst <;> rfl
  rw [this]
  exact htr
theorem uw {o:Oper} {t:TypeId} {K:St→Prop} (hM:al G p E S w) (ht:TR E S.t a) (ho:o.op=.makeMap t none) (h:gA P t (cH S) fun r M=>bd o.dst r (f6 S M) K):di P G p o a w K:=by
 unfold gA at h
 split at h
 ·split at h
  ·split at h
   ·rename_i i2 _
    obtain ⟨hsz,h⟩:=ae h
    rw [Nat.blt_eq] at hsz
    rw [ax,aA] at h
    have h1:aR (S.o++[.mapo true []]) fun o'=>bd o.dst (.mp S.o.length) { t:=S.t,l:=S.l,o:=o',b:=S.b } fun S2=>S2=lH { t:=S.t,l:=S.l,o:=S.o++[.mapo true []],b:=S.b } o.dst (.mp S.o.length):=by
     rw [ax,aA]
    refine (q9 hM ht ho h1).then (fun S' E' a' w' hk hS htr=>?_)
    subst hk
    have hS':=hS.congr (M':={ t:=S.t,l:=S.l,o:=S.o++[.mapo true []],b:=S.b }) cu.symm cv.symm cF.symm
    have hob:(S.o++[Ob.mapo true []])[S.o.length]?=some (.mapo true []):=by
     rw [List.getElem?_append_right (Nat.le_refl _),Nat.sub_self]
     rfl
    have hw:=hS'.ow S.o.length
    rw [show ({ t:=S.t,l:=S.l,o:=S.o++[.mapo true []],b:=S.b }:St).o[S.o.length]?=_ from hob] at hw
    have hw:∀ i,E'.mu (.S S.o.length i)=none:=hw
    have hOb:=hS'.obj S.o.length
    rw [show ({ t:=S.t,l:=S.l,o:=S.o++[.mapo true []],b:=S.b }:St).o[S.o.length]?=_ from hob] at hOb
    obtain ⟨_,hS2⟩:=hS'.reS (id:=S.o.length) (mu':=E'.mu) (fun _ _=>rfl) (fun j b o s n h=>by rw [hw j] at h; cases h) (fun j j' b o s n o2 s2 n2 h h'=>by rw [hw j] at h; cases h) hob (fun e=>by cases e)
     (y:=.own (some []) i2.size [] none) (by
      revert hOb
      cases E'.mu (.O S.o.length) with
      | none=>exact fun h=>h.elim
      | some mv =>
       cases mv with
       | virt=>exact fun h=>h.elim
       | blk b o s n=>exact fun _ e=>by cases e) ⟨hsz,fun i _=>hw i,fun b o s n hm=>by
      rw [hm] at hOb
      obtain ⟨ms,clock,h1,⟨h2,h3⟩,_⟩:=hOb
      exact ⟨⟨ms,clock,h1,⟨h2,rfl,h3⟩,fun i k m hk=>by simp at hk⟩,fun i c hi=>by simp at hi⟩⟩
    have e:(S.o++[Ob.mapo true []]).set S.o.length (Ob.own (some []) i2.size [] none)=S.o++[Ob.own (some []) i2.size [] none]:=by
     rw [List.set_append_right _ _ (Nat.le_refl _),Nat.sub_self]
     rfl
    refine ⟨_,E',h,hS2.congr ?_ ?_ ?_,?_⟩
    ·exact cu
    ·rw [cv]; exact e.symm
    ·exact cF
    ·have:(lH (f6 S { t:=(cH S).t,l:=(cH S).l,o:=(cH S).o++[Ob.own (some []) i2.size [] none],b:=(cH S).b }) o.dst (.mp (cH S).o.length)).t=(lH { t:=S.t,l:=S.l,o:=S.o++[.mapo true []],b:=S.b } o.dst (.mp S.o.length)).t:=by cases o.dst <;> rfl
     rw [this]
     exact htr
   ·exact h.elim
  ·exact h.elim
 ·exact h.elim
theorem xh {C:Ctx} {pl:br} {o:Oper} {K:St→Prop} (hM:al G p E S w) (ht:TR E S.t a) (h:AN C pl o S K):di C.P G p o a w K:=by
 have fin:∀ {M':St} {E':Env} {w':World} {r:AV} {z:Value},bd o.dst r (f6 S M') K→al G p E' M' w'→LE E E'→VR E' r z→(execOp a.eval o).run C.P w=.ok (.value z) w'→∀ (next:Act→World→Prop) (Q:Exit→Act→World→Prop),(∀ S' E' a' w',K S'→al G p E' S' w'→TR E' S'.t a'→next a' w')→o.wp C.P a w next Q:=by
  intro M' E' w' r z hk hS hle hv hrun next Q hn
  rw [aA] at hk
  refine dB hrun ?_
  exact hn _ E' _ w' hk (hS.congr (by rw [cu]; rfl) (by rw [cv]; rfl) (by rw [cF]; rfl)) ((TR.mono (t:=S.t) ht hle).put (S:=f6 S M') hv)
 have fin2:∀ {M':St} {E':Env} {w':World},bd o.dst .bad (f6 S M') K→al G p E' M' w'→LE E E'→(execOp a.eval o).run C.P w=.ok .skip w'→∀ (next:Act→World→Prop) (Q:Exit→Act→World→Prop),(∀ S' E' a' w',K S'→al G p E' S' w'→TR E' S'.t a'→next a' w')→o.wp C.P a w next Q:=by
  intro M' E' w' hk hS hle hrun next Q hn
  rw [aA] at hk
  unfold Oper.wp
  rw [hrun]
  exact hn _ E' (a.put o.dst undef) w' hk (hS.congr (by rw [cu]; rfl) (by rw [cv]; rfl) (by rw [cF]; rfl)) ((TR.mono (t:=S.t) ht hle).put (S:=f6 S M') (.bad _ _))
 have hM0:al G p E (cH S) w:=hM.congr rfl rfl rfl
 by_cases hmk:∃ t X Y,o.op=.makeSlice t X Y
 ·obtain ⟨t,X,Y,ho⟩:=hmk
  refine y_ hM ht ho ?_
  unfold AN at h
  unfold l_ at h
  rw [ho] at h
  exact h
 by_cases hmm:∃ t,o.op=.makeMap t none
 ·obtain ⟨t,ho⟩:=hmm
  refine uw hM ht ho ?_
  unfold AN at h
  unfold l_ at h
  rw [ho] at h
  exact h
 unfold AN at h
 obtain ⟨vs,h,hv⟩:=cM ht h
 unfold l_ at h
 intro next Q hn
 split at h
 ·rename_i t x pv ho
  rw [ho] at hv
  have hv:bO E [pv] [a.eval x]:=by simpa [Op.operands] using hv
  obtain ⟨u,us,e,hp,hnl⟩:=hv.uncons
  cases e
  obtain ⟨id,i,b,off,n,sz,cells,hole,h,hob,hmu,hu⟩:=sX hM0 hp h
  obtain ⟨M',E',r,z,hk,hS,hle,hr,hrun⟩:=xe hM0 hob hmu h
  exact fin hk hS hle hr (by simp [execOp,ho,hu,hrun]) next Q hn
 ·rename_i t x y pv v ho
  rw [ho] at hv
  have hv:bO E [pv,v] [a.eval x,a.eval y]:=by simpa [Op.operands] using hv
  obtain ⟨u,us,e,hp,hv⟩:=hv.uncons
  cases e
  obtain ⟨u,us,e,hy,hv⟩:=hv.uncons
  cases e
  obtain ⟨id,i,b,off,n,sz,cells,hole,h,hob,hmu,hu⟩:=sX hM0 hp h
  obtain ⟨M',E',w',hk,hS,hle,hrun⟩:=vO hM0 hmu hy h
  exact fin2 hk hS hle (by simp [execOp,ho,hu,hrun]) next Q hn
 ·rename_i t X Y l c ho
  exact absurd ⟨t,X,Y,ho⟩ hmk
 ·rename_i t ho
  exact absurd ⟨t,ho⟩ hmm
 ·rename_i t X Y ok m key ho
  rw [ho] at hv
  have hv:bO E [m,key] [a.eval X,a.eval Y]:=by simpa [Op.operands] using hv
  obtain ⟨u,us,e,hm,hv⟩:=hv.uncons
  cases e
  obtain ⟨u,us,e,hkey,hv⟩:=hv.uncons
  cases e
  obtain ⟨M',E',r,z,hk,hS,hle,hr,hrun⟩:=xg hM0 hm hkey h
  exact fin hk hS hle hr (by simp [execOp,ho,hrun]) next Q hn
 ·rename_i t X Y Z m key x ho
  rw [ho] at hv
  have hv:bO E [m,key,x] [a.eval X,a.eval Y,a.eval Z]:=by simpa [Op.operands] using hv
  obtain ⟨u,us,e,hm,hv⟩:=hv.uncons
  cases e
  obtain ⟨u,us,e,hkey,hv⟩:=hv.uncons
  cases e
  obtain ⟨u,us,e,hx,hv⟩:=hv.uncons
  cases e
  obtain ⟨M',E',w',hk,hS,hle,hrun⟩:=ra hM0 hm hkey hx h
  exact fin2 hk hS hle (by simp [execOp,ho,hrun]) next Q hn
 ·rename_i t X Y Z m key x ho
  rw [ho] at hv
  have hv:bO E [m,key,x] [a.eval X,a.eval Y,a.eval Z]:=by simpa [Op.operands] using hv
  obtain ⟨u,us,e,hm,hv⟩:=hv.uncons
  cases e
  obtain ⟨u,us,e,hkey,hv⟩:=hv.uncons
  cases e
  obtain ⟨u,us,e,hx,hv⟩:=hv.uncons
  cases e
  obtain ⟨M',E',w',hk,hS,hle,hrun⟩:=ra hM0 hm hkey hx h
  exact fin2 hk hS hle (by simp [execOp,ho,hrun]) next Q hn
 ·exact h.elim
end
structure fQ (C:Ctx):Prop where
 pcall:∀ f args K,C.pcall f args K→ft C.P f args K
 scall:∀ f args o K,C.scall f args o K→sT C.P f args o K
section
variable {G:Gh} {pd:Nat→Option (List AV)} {E:Env} {S:St} {w:World} {C:Ctx} {pl:br} {o:Oper} {a:Act} {K:St→Prop}
theorem zU (hM:al G pd E S w):al G pd E (cH S) w:=hM.congr rfl rfl rfl
theorem xi (hM:al G pd E S w) (ht:TR E S.t a) (h:FM C pl o S K):di C.P G pd o a w K:=by
 obtain ⟨vs,h,hv⟩:=cM ht h
 by_cases hb:∃ t len parts,o.op=.buildSlice t len parts
 ·obtain ⟨t,len,parts,ho⟩:=hb
  unfold pop at h
  rw [ho] at h
  replace h:=ae h; obtain ⟨hp,h⟩:=h
  have hl:parts.toList.length=vs.length:=by simpa using Nat.eq_of_beq_eq_true hp
  have hv':bO E vs ((parts.toList.map (·.2)).map a.eval):=by
   rw [ho] at hv
   simpa [Op.operands] using hv
  refine di.of1 (S:=S) ⟨rfl,rfl,rfl⟩ ht (yU hM ho hl hv' h) (fun r M' hk=>?_)
  obtain ⟨hk,rfl⟩:=hk
  rw [aA] at hk
  exact ⟨_,hk,rfl⟩
 ·have hs:∀ t len parts,o.op≠.buildSlice t len parts:=fun t len parts he=>hb ⟨t,len,parts,he⟩
  obtain ⟨r,z,hk,hr,hrun⟩:=FU h hs hv w
  rw [aA] at hk
  intro next Q hn
  exact dB hrun (hn _ E _ w hk (hM.congr cu cv cF) (ht.put hr))
theorem xj (hC:fQ C) (hM:al G pd E S w) (ht:TR E S.t a) (h:FN C o S K):di C.P G pd o a w K:=by
 obtain ⟨vs,h,hv⟩:=cM ht h
 refine di.of1 (S:=S) (M:=cH S) ⟨rfl,rfl,rfl⟩ ht (FZ hC.pcall (zU hM) ht.gt h hv) (fun r M' hk=>?_)
 obtain ⟨hk,rfl⟩:=hk
 rw [aA] at hk
 exact ⟨_,hk,rfl⟩
theorem xk (hM:al G pd E S w) (ht:TR E S.t a) (h:FO C o S K):di C.P G pd o a w K:=by
 obtain ⟨vs,h,hv⟩:=cM ht h
 refine di.of1 (S:=S) (M:=cH S) ⟨rfl,rfl,rfl⟩ ht (FY (zU hM) h hv) (fun r M' hk=>?_)
 rw [aA] at hk
 exact ⟨_,hk,by cases o.dst <;> rfl⟩
theorem zV (hC:fQ C) (hpd:B8 pl o=true→∀ d,o.dst=some d→pd d=none) (hM:al G pd E S w) (ht:TR E S.t a) (h:yM C pl o S K):di C.P G pd o a w K:=by
 unfold yM at h
 split at h
 ·rename_i e ho
  exact Cm (fun d hd _=>hpd (by unfold B8; rw [ho]) d hd) hM ht ho h
 ·rename_i e x ho
  exact Cn (fun d hd he=>hpd (by unfold B8; rw [ho]; dsimp only; rw [hd]; show (!(fq pl.esc d))=true; rw [he]; rfl) d hd) hM ht ho h
 ·rename_i t len parts ho
  exact ut hM ht ho h
 ·rename_i t r ho
  cases r with
  | none=>exact q9 hM ht ho h
  | some r=>exact False.elim h
 ·rename_i t l c ho
  exact kB hM ht ho h
 ·rename_i t m key x ho
  exact vN hM ht ho h
 ·rename_i t m key x ho
  exact A8 hM ht ho h
 ·rename_i c ho
  split at h
  ·rename_i b hcal
   split at h
   ·obtain ⟨vs,h,hv⟩:=cM ht h
    split at h
    ·rename_i x kd n
     obtain ⟨u,us,e,hc,hn⟩:=hv.uncons
     obtain ⟨u1,us1,rfl,hc1,hn1⟩:=hn.uncons
     have:=hn1.unnil
     subst this
     obtain ⟨rfl,_⟩:=hc1.vI
     exact yW hM ht ho hcal e hc h
    ·rename_i x y _
     obtain ⟨u,us,e,hc,hn⟩:=hv.uncons
     obtain ⟨u1,us1,rfl,hc1,hn1⟩:=hn.uncons
     have:=hn1.unnil
     subst this
     exact A6 hM ht ho hcal e hc hc1 h
    ·exact False.elim h
   ·obtain ⟨vs,h,hv⟩:=cM ht h
    split at h
    ·rename_i x y
     obtain ⟨u,us,e,hc,hn⟩:=hv.uncons
     obtain ⟨u1,us1,rfl,hc1,hn1⟩:=hn.uncons
     have:=hn1.unnil
     subst this
     exact DZ hM ht ho hcal e hc hc1 h
    ·exact False.elim h
   ·obtain ⟨vs,h,hv⟩:=cM ht h
    split at h
    ·rename_i x
     obtain ⟨u,us,e,hc,hn⟩:=hv.uncons
     have:=hn.unnil
     subst this
     exact Cv hM ht ho hcal e hc h
    ·exact False.elim h
   ·exact False.elim h
  ·rename_i f hcal
   obtain ⟨fv,h,hf⟩:=dQ h ht
   obtain ⟨as,h,has⟩:=cM ht h
   unfold zA at h
   split at h
   ·rename_i fid first cap
    split at h
    ·exact w9 hC.pcall hM ht ho hcal hf has h
    ·replace h:=ae h; obtain ⟨hnl,h⟩:=h
     exact vk hM ht ho hcal hf has hnl (hC.scall _ _ _ _ h)
   ·exact False.elim h
  ·exact False.elim h
 ·exact False.elim h
theorem D3 (hC:fQ C) (hM:al G pn E S w) (ht:TR E S.t a) (h:AO C pl o S K):di C.P G pn o a w K:=by
 unfold AO at h
 split at h
 ·exact xi hM ht h
 ·exact xj hC hM ht h
 ·exact xk hM ht h
 ·exact zV hC (fun _ _ _=>rfl) hM ht h
theorem uz (hC:fQ C) (hM:al G pn E S w) (ht:TR E S.t a) (h:GX C pl o S K):di C.P G pn o a w K:=by
 unfold GX at h
 split at h
 ·exact xh hM ht h
 ·exact D3 hC hM ht h
def rd (r:Option Nat):Fence:={ Fence.wide with round:=r }
theorem xl {r:Option Nat} {n:Nat} {P:Program} {f:FuncId} {args:Array Value} {w:World} {R:Ending→World→Prop}:CallsIn (rd r) n P f args w R↔Calls P f args w R:=callsIn_wide (n:=n)
theorem G_ {r:Option Nat} {P:Program} {m m':Machine}:StepsIn (Machine.fenced P (rd r)) P m m'↔Steps P m m':=stepsIn_wide
theorem zW {r:Option Nat} {n:Nat} {P:Program} {o:Oper} {a:Act} {w:World} {next:Act→World→Prop} {Q:Exit→Act→World→Prop} (hd:∀ c,o.op≠.defer c) (h:o.wp P a w next Q):o.wpIn (rd r) n P a w next Q:=by
 refine ⟨fun _ _=>trivial,?_⟩
 rw [Oper.semAt_eq _ _ _ hd]
 unfold Oper.wp at h
 revert h
 generalize (execOp a.eval o).run P w=x
 intro h
 have hn:((rd r).depth.isSome=true→1≤n):=fun h=>by cases h
 cases x with
 | ok x w' =>
  cases x with
  | enter f args=>exact ⟨hn,xl.2 (Calls.mono h (fun e w'' he=>by cases e <;> exact he))⟩
  | row row args=>exact ⟨hn,fun c cs _=>let ⟨v,w',hr,s⟩:=h c cs; ⟨v,w',hr,G_.2 s⟩⟩
  | _=>first | exact h | exact False.elim h
 | halt x w'=>cases x <;> first | exact h | exact False.elim h
theorem D4 {C:Ctx} {pl:br} {o:Oper} {S:St} {K:St→Prop} (h:GX C pl o S K) (c:Call):o.op≠.defer c:=by
 intro ho
 have hc:GW o=3:=by unfold GW; rw [ho]
 have hw:gz pl o=false:=by unfold gz; rw [ho]
 have h0:AO C pl o S K:=by unfold GX at h; rw [hw] at h; exact h
 have h1:yM C pl o S K:=by unfold AO at h0; rw [hc] at h0; exact h0
 unfold yM at h1
 rw [ho] at h1
 exact h1
theorem TR.lit {d:Nat} {b:Bool} (ht:TR E S.t a) (hd:S.t[d]?=some (.v (.bool b))):a.tmps[d]?=some (.bool b):=by
 have hlt:d<a.tmps.size:=by rw [← ht.len]; exact (List.getElem?_eq_some_iff.1 hd).1
 rw [Array.getElem?_eq_getElem hlt]
 have:=ht.val d _ _ hd (Array.getElem?_eq_getElem hlt)
 rw [this.vI.1]
theorem TR.relit {d:Nat} {b:Bool} (ht:TR E S.t a) (hd:S.t[d]?=some (.v (.bool b))):TR E (S.t.set d (.v (.bool b))) a:=by
 have:S.t.set d (.v (.bool b))=S.t:=by
  apply List.ext_getElem?
  intro j
  rw [List.getElem?_set]
  by_cases hj:d=j
  ·subst hj
   rw [if_pos rfl,if_pos (List.getElem?_eq_some_iff.1 hd).1,hd]
  ·rw [if_neg hj]
 rw [this]
 exact ht
theorem Cz {d:Nat} {k:Bool→St→Prop} (hM:al G pd E S w) (ht:TR E S.t a) (h:wH d S k):∃ b S1,k b S1∧a.tmps[d]?=some (.bool b)∧al G pd E S1 w∧TR E S1.t a:=by
 unfold wH at h
 rw [bS] at h
 obtain ⟨c,hc,h⟩:=h
 split at h
 ·rename_i b
  rcases ng h with ⟨hb,h2⟩ | ⟨hb,h2⟩
  ·subst hb
   rw [d_] at h2
   exact ⟨true,_,h2,ht.lit hc,hM.congr rfl rfl rfl,ht.relit hc⟩
  ·subst hb
   rw [d_] at h2
   exact ⟨false,_,h2,ht.lit hc,hM.congr rfl rfl rfl,ht.relit hc⟩
 ·exact False.elim h
theorem kW {d:Nat} {k:Option Bool→St→Prop} (hM:al G pd E S w) (ht:TR E S.t a) (h:gM d S k) :
  ∃ b S1,k b S1∧(match b with | some b=>a.tmps[d]?=some (.bool b) | none=>a.tmps[d]?=some (.tuple #[]))∧al G pd E S1 w∧TR E S1.t a:=by
 unfold gM at h
 rw [bS] at h
 obtain ⟨c,hc,h⟩:=h
 split at h
 ·rename_i b
  rcases ng h with ⟨hb,h2⟩ | ⟨hb,h2⟩
  ·subst hb
   rw [d_] at h2
   exact ⟨some true,_,h2,ht.lit hc,hM.congr rfl rfl rfl,ht.relit hc⟩
  ·subst hb
   rw [d_] at h2
   exact ⟨some false,_,h2,ht.lit hc,hM.congr rfl rfl rfl,ht.relit hc⟩
 ·refine ⟨none,S,h,?_,hM,ht⟩
  have hlt:d<a.tmps.size:=by rw [← ht.len]; exact (List.getElem?_eq_some_iff.1 hc).1
  show a.tmps[d]?=_
  rw [Array.getElem?_eq_getElem hlt]
  obtain ⟨us,hu,hv⟩:=(ht.val d _ _ hc (Array.getElem?_eq_getElem hlt)).tupI
  rw [hu]
  have:=hv.unnil
  have:us=#[]:=by apply Array.ext'; simpa using this
  rw [this]
 ·exact False.elim h
theorem od {ops:Array Oper} {j d:Nat} {b:Option Bool} (hd:sL ops j=some d) (hb:match b with | some b=>a.tmps[d]?=some (.bool b) | none=>a.tmps[d]?=some (.tuple #[])):yielded ops a.tmps j=b:=by
 unfold yielded
 unfold sL at hd
 rw [hd]
 cases b with
 | some b=>simp [hb]
 | none=>simp [hb]
theorem sZ (E:Env):VR E (.tup []) undef:=.tup #[] rfl (fun m c u h=>by simp at h)
theorem mB {o:Oper} {f:Nat→Option Bool} {j:Nat} {want:Bool} {b:Option Bool} {X Y:Prop} (hg:o.guard=some (j,want)) (hf:f j=b) (h:gsel b want X Y):(Region.wanted o f=true∧X)∨(Region.wanted o f=false∧Y):=by
 unfold Region.wanted
 rw [hg]
 simp only [hf]
 cases b with
 | none=>exact .inr ⟨rfl,h⟩
 | some b =>
  cases b <;> cases want
  ·exact .inl ⟨rfl,h⟩
  ·exact .inr ⟨rfl,h⟩
  ·exact .inr ⟨rfl,h⟩
  ·exact .inl ⟨rfl,h⟩
theorem rV (hC:fQ C) {rr:Option Nat} {all:Array Oper} {Q:Exit→Act→World→Prop}:∀ {ops:List Oper} {E:Env} {S:St} {w:World} {a:Act} {K:St→Prop},al G pn E S w→TR E S.t a→ui C pl all ops S K →
  (∀ S' E' a' w',K S'→al G pn E' S' w'→TR E' S'.t a'→Q .normal a' w')→wpListIn (rd rr) 0 C.P all Q ops a w
 | [],E,S,w,a,K,hM,ht,h,hQ=>hQ _ _ _ _ h hM ht
 | o::rest,E,S,w,a,K,hM,ht,h,hQ=>by
  have step:∀ {S1:St},al G pn E S1 w→TR E S1.t a→Region.wanted o (yielded all a.tmps)=true→(GX C pl o S1 fun S'=>ui C pl all rest S' K)→wpListIn (rd rr) 0 C.P all Q (o::rest) a w:=by
   intro S1 hM1 ht1 hw h
   unfold wpListIn
   rw [if_pos hw]
   refine zW (D4 h) (uz hC hM1 ht1 h _ _ (fun S' E' a' w' hk hS htr=>?_))
   exact rV hC hS htr hk hQ
  unfold ui at h
  split at h
  ·rename_i hg
   exact step hM ht (by unfold Region.wanted; rw [hg]) h
  ·rename_i j want hg
   split at h
   ·exact False.elim h
   ·rename_i d hd
    obtain ⟨b,S1,h,hb,hM1,ht1⟩:=kW hM ht h
    rcases mB hg (od hd hb) h with ⟨hw,h⟩ | ⟨hw,h⟩
    ·exact step hM1 ht1 hw h
    ·rw [aA] at h
     unfold wpListIn
     rw [if_neg (by rw [hw]; exact fun h=>by cases h)]
     exact ⟨fun _ _=>trivial,rV hC (hM1.congr cu cv cF) (ht1.put (sZ _)) h hQ⟩
end
def IS:Ex→Exit
 | .nrm=>.normal
 | .ex i=>.exit i
 | .ret=>.ret
def Ha (G:Gh) (K:Ex→St→Prop) (Q:Exit→Act→World→Prop):Prop:=∀ e S' E' a' w',K e S'→al G pn E' S' w'→TR E' S'.t a'→Q (IS e) a' w'
def rW (C:Ctx):Prop:=∀ pl c S K,C.loop pl c S K→∀ (r:Option Nat) (G:Gh) (E:Env) (a:Act) (w:World) (Q:Exit→Act→World→Prop),al G pn E S w→TR E S.t a→Ha G K Q→(Code.loop c).wpIn (rd r) 0 C.P Q a w
def rX (C:Ctx):Prop:=∀ pl id ops S K,ju C pl (.region id ops true) S K→∀ (r:Option Nat) (G:Gh) (E:Env) (a:Act) (w:World) (Q:Exit→Act→World→Prop),al G pn E S w→TR E S.t a→Ha G K Q→(Code.region id ops true).wpIn (rd r) 0 C.P Q a w
theorem pY {G:Gh} {E:Env} {S:St} {w:World} {a:Act} {c:Operand} {k:Bool→St→Prop} (hM:al G pn E S w) (ht:TR E S.t a) (h:pH c S k):∃ b S1,k b S1∧a.eval c=.bool b∧al G pn E S1 w∧TR E S1.t a:=by
 unfold pH at h
 split at h
 ·rename_i d
  obtain ⟨b,S1,h1,h2,h3,h4⟩:=Cz hM ht h
  refine ⟨b,S1,h1,?_,h3,h4⟩
  show a.tmps.getD d undef=_
  rw [Array.getD_eq_getD_getElem?,h2]
  rfl
 ·rename_i b
  rcases ng h with ⟨hb,h2⟩ | ⟨hb,h2⟩
  ·subst hb; exact ⟨true,S,h2,rfl,hM,ht⟩
  ·subst hb; exact ⟨false,S,h2,rfl,hM,ht⟩
 ·exact False.elim h
theorem pZ {C:Ctx} (hC:fQ C) (hL:rW C) (hD:rX C) {pl:br}:∀ (c:Code) {S:St} {K:Ex→St→Prop},ju C pl c S K→∀ (r:Option Nat) (G:Gh) (E:Env) (a:Act) (w:World) (Q:Exit→Act→World→Prop),al G pn E S w→TR E S.t a→Ha G K Q→c.wpIn (rd r) 0 C.P Q a w:=by
 intro c
 induction c with
 | skip=>exact fun h r G E a w Q hM ht hQ=>wpIn_skip (hQ .nrm _ E _ _ h hM ht)
 | region id ops draw =>
  intro S K h r G E a w Q hM ht hQ
  cases draw with
  | true=>exact hD pl id ops S K h r G E a w Q hM ht hQ
  | false=>exact wpIn_region_list (rV hC hM ht h (fun S' E' a' w' hk hS htr=>by
   obtain ⟨S2,E2,h2,hS2,ht2⟩:=mz hS htr hk
   exact hQ .nrm _ _ _ _ h2 hS2 ht2))
 | seq x y ihx ihy =>
  intro S K h r G E a w Q hM ht hQ
  refine wpIn_seq (ihx h r G E a w _ hM ht (fun e S' E' a' w' hk hS htr=>?_))
  cases e with
  | nrm=>exact ihy hk r G E' a' w' Q hS htr hQ
  | ex i=>exact hQ (.ex i) _ _ _ _ hk hS htr
  | ret=>exact hQ .ret _ _ _ _ hk hS htr
 | cond c x y ihx ihy =>
  intro S K h r G E a w Q hM ht hQ
  obtain ⟨b,S1,h1,h2,h3,h4⟩:=pY hM ht h
  cases b with
  | true=>exact wpIn_cond_true h2 (ihx h1 r G E a w Q h3 h4 hQ)
  | false=>exact wpIn_cond_false h2 (ihy h1 r G E a w Q h3 h4 hQ)
 | block id c ih =>
  intro S K h r G E a w Q hM ht hQ
  refine wpIn_block (ih h r G E a w _ hM ht (fun e S' E' a' w' hk hS htr=>?_))
  cases e with
  | nrm=>exact hQ .nrm _ _ _ _ hk hS htr
  | ret=>exact hQ .ret _ _ _ _ hk hS htr
  | ex i =>
   show Exit.inBlock id Q (.exit i) a' w'
   unfold Exit.inBlock
   dsimp only at hk
   split at hk
   ·rename_i hb
    have:=Nat.eq_of_beq_eq_true hb
    subst this
    simp only [if_pos]
    exact hQ .nrm _ _ _ _ hk hS htr
   ·rename_i hb
    have hne:¬ i=id:=fun e=>by subst e; simp at hb
    simp only [if_neg hne]
    exact hQ (.ex i) _ _ _ _ hk hS htr
 | loop c ih=>exact fun h r G E a w Q hM ht hQ=>hL pl c _ _ h r G E a w Q hM ht hQ
 | exit id=>exact fun h r G E a w Q hM ht hQ=>wpIn_exit (hQ (.ex id) _ E _ _ h hM ht)
 | ret=>exact fun h r G E a w Q hM ht hQ=>wpIn_ret (hQ .ret _ E _ _ h hM ht)
 | _=>exact fun h=>False.elim h
theorem CB {P:Program} {α β:Type} {f:α→Sem β}:∀ (xs:List α) (w:World) (ys:List β),xs.length=ys.length→(∀ (i:Nat) (x:α) (y:β),xs[i]?=some x→ys[i]?=some y→(f x).run P w=.ok y w)→(xs.mapM f).run P w=.ok ys w
 | [],w,ys,hl,_=>by
  have:ys=[]:=List.eq_nil_of_length_eq_zero (by simpa using hl.symm)
  subst this
  rfl
 | x::xs,w,[],hl,_=>by simp at hl
 | x::xs,w,y::ys,hl,h=>by
  have h0:=h 0 x y rfl rfl
  have ih:=CB xs w ys (by simpa using hl) (fun i a b h1 h2=>h (i + 1) a b (by simpa using h1) (by simpa using h2))
  simp only [List.mapM_cons,Sem.run_bind,h0,Result.andThen_ok,ih,Sem.run_pure]
section
variable {G:Gh} {E:Env} {S:St} {w:World} {P:Program} {a:Act}
theorem rY (hM:al G pn E S w) (ht:TR E S.t a):∀ {rs:List ResultVar} {k:List AV→Prop},yP P S rs k→∃ as us,k as∧bO E as us∧rs.length=us.length ∧
  ∀ (i:Nat) (r:ResultVar) (u:Value),rs[i]?=some r→us[i]?=some u→(match r with | .tmp t=>(pure (a.tmps.getD t undef):Sem Value) | .cell c t=>(do loadVar t (← asAddr (a.tmps.getD c undef)):Sem Value)).run P w=.ok u w
 | [],k,h=>⟨[],[],h,.nil _,rfl,fun i r u h1=>by simp at h1⟩
 | .tmp t::rs,k,h=>by
  obtain ⟨c,hc,h⟩:=bS.1 h
  obtain ⟨as,us,hk,hv,hl,hr⟩:=rY hM ht h
  have hlt:t<a.tmps.size:=by rw [← ht.len]; exact (List.getElem?_eq_some_iff.1 hc).1
  refine ⟨c::as,a.tmps.getD t undef::us,hk,.cons (ht.val t c _ hc ?_) hv,by simp [hl],fun i r u h1 h2=>?_⟩
  ·rw [Array.getD_eq_getD_getElem?,Array.getElem?_eq_getElem hlt]; rfl
  ·cases i with
   | zero =>
    simp only [List.getElem?_cons_zero,Option.some.injEq] at h1 h2
    subst h1 h2
    rfl
   | succ i=>exact hr i r u (by simpa using h1) (by simpa using h2)
 | .cell c t::rs,k,h=>by
  obtain ⟨pc,hpc,h⟩:=bS.1 h
  have hlt:c<a.tmps.size:=by rw [← ht.len]; exact (List.getElem?_eq_some_iff.1 hpc).1
  have e0:a.tmps.getD c undef=a.tmps[c]:=by rw [Array.getD_eq_getD_getElem?,Array.getElem?_eq_getElem hlt]; rfl
  have hv0:=ht.val c pc _ hpc (Array.getElem?_eq_getElem hlt)
  obtain ⟨row,j,us',b,off,hk,hu0,hu,hcell⟩:=zI hM hv0 h
  obtain ⟨r0,z,hk',hr0,hrun⟩:=rI (P:=P) hk hu w hcell
  obtain ⟨as,us,hk,hv,hl,hr⟩:=rY hM ht hk'
  refine ⟨r0::as,z::us,hk,.cons hr0 hv,by simp [hl],fun i r u h1 h2=>?_⟩
  cases i with
  | zero =>
   simp at h1 h2
   subst h1 h2
   simp only [Sem.run_bind]
   rw [e0,hu0]
   show (loadVar t ⟨b,off + j,none⟩).run P w=_
   exact hrun
  | succ i=>exact hr i r u (by simpa using h1) (by simpa using h2)
theorem D5 {as:List AV} {us:List Value} {k:AV→Prop} (h:B_ as k) (hv:bO E as us):∃ r,k r∧VR E r (if h:us.toArray.size=1 then us.toArray[0] else .tuple us.toArray):=by
 unfold B_ at h
 split at h
 ·rename_i c
  obtain ⟨u,us',rfl,hc,hn⟩:=hv.uncons
  have:=hn.unnil
  subst this
  exact ⟨c,h,by simpa using hc⟩
 ·rename_i hne
  refine ⟨_,h,?_⟩
  have hl:=hv.1
  rw [dif_neg (by
   intro h1
   simp at h1
   cases as with
   | nil=>simp at hl; omega
   | cons c cs =>
    cases cs with
    | nil=>exact hne c rfl
    | cons _ _=>simp at hl; omega)]
  exact .tup _ (by simpa using hl) (fun m c u h1 h2=>hv.2 m c u h1 (by simpa using h2))
theorem j7 {fn:Func} (hM:al G pn E S w) (ht:TR E S.t a) {k:AV→Prop} (h:yP P S fn.results.toList fun rs=>B_ rs k):∃ r u,k r∧VR E r u∧(results fn a.tmps).run P w=.ok u w:=by
 obtain ⟨as,us,h,hv,hl,hr⟩:=rY hM ht h
 obtain ⟨r,hk,hvr⟩:=D5 h hv
 refine ⟨r,_,hk,hvr,?_⟩
 unfold results
 have hm:=CB fn.results.toList w us hl hr
 rw [Sem.run_bind,Array.mapM_eq_mapM_toList]
 simp only [map_eq_pure_bind,Sem.run_bind]
 erw [hm]
 rfl
end
theorem xm:∀ {n i:Nat} {c:AV},(AR n)[i]?=some c→c=.bad
 | 0,i,c,h=>by simp [AR] at h
 | n + 1,0,c,h=>by simp [AR] at h; exact h.symm
 | n + 1,i + 1,c,h=>xm (n:=n) (i:=i) (by simpa [AR] using h)
theorem xn:∀ {n:Nat},(AR n).length=n
 | 0=>rfl
 | n + 1=>by simp [AR,xn]
def rb (P : Program) : Prop := ∀ (f : Nat) (fn : Func), P.funcs[f]? = some fn → (fn.name == "runtime.NumGoroutine") = false
theorem xo {C:Ctx} {k:Ctx→Prop}:DN C k↔k C:=by cases C; exact Iff.rfl
theorem xp {p:br} {k:br→Prop}:DO p k↔k p:=by cases p; exact Iff.rfl
theorem zX {C:Ctx} {f:Nat} {args:List AV} {o:List Ob} {K:AV→St→Prop}:u7 C f args o K↔wQ C f args o K:=xo
theorem vl {C:Ctx} (hC:fQ C) (hL:rW C) (hD:rX C) (hN:rb C.P) {f:Nat} {args:List AV} {o:List Ob} {K:AV→St→Prop} (h:u7 C f args o K) :
  sQ C.P f∧∀ (G:Gh) (E:Env) (w:World) (us:Array Value),al G pn E (IH o o.length) w→Cc E→bO E args us.toList→Calls C.P f us w fun e w'=>∃ v r S' E',K r S'∧e=.returned v∧al G pn E' S' w'∧VR E' r v:=by
 rw [zX] at h
 unfold wQ at h
 split at h
 ·rename_i fn hf
  split at h
  ·rename_i c hb
   rw [xp] at h
   refine ⟨⟨fn,c,hf,hb,hN f fn hf⟩,fun G E w us hM hg hv=>?_⟩
   refine xl.1 (callsIn_of_wp (F:=rd none) (n:=0) hf hb trivial ?_)
   have hl:args.length=us.size:=by simpa using hv.1
   refine pZ hC hL hD c h none G E _ w _ (hM.congr rfl rfl rfl) ⟨?_,fun n c' u h1 h2=>?_,rfl,hg⟩ (fun e S' E' a' w' hk hS htr=>?_)
   ·simp [xn,hl]
   ·dsimp only at h1 h2
    by_cases hn:n<args.length
    ·rw [List.getElem?_append_left hn] at h1
     rw [Array.getElem?_append_left (by omega)] at h2
     exact hv.2 n c' u h1 (by simpa using h2)
    ·rw [List.getElem?_append_right (by omega)] at h1
     rw [xm h1]
     exact .bad _ _
   ·cases e with
    | ex i=>exact False.elim hk
    | nrm =>
     obtain ⟨r,u,hk',hr,hrun⟩:=j7 hS htr hk
     exact ⟨htr.df,u,hrun,u,r,S',E',hk',rfl,hS,hr⟩
    | ret =>
     obtain ⟨r,u,hk',hr,hrun⟩:=j7 hS htr hk
     exact ⟨htr.df,u,hrun,u,r,S',E',hk',rfl,hS,hr⟩
  ·exact False.elim h
 ·exact False.elim h
section
variable {G:Gh} {E:Env} {S:St} {w:World}
theorem al.obj_only (hM:al G pn E S w):al G pn E.ob (IH S.o S.b) w :=
 ⟨hM.hp,hM.os,hM.tape,hM.output,hM.size,hM.keep,hM.F0,hM.Flt,hM.Fnew,fun k b o s n h=>hM.own k b o s n (je h),fun k k' b o s n o' s' n' h h'=>hM.inj k k' b o s n o' s' n' (je h) (je h'),
  fun _=>rfl,fun id=>(hM.obj id).ob,hM.old,hM.bl,hM.szs,fun _ _ h=>(by cases h),fun id=>(hM.ow id).ob⟩
end
theorem Bd {C:Ctx} (hC:fQ C) (hL:rW C) (hD:rX C) (hN:rb C.P) {f:Nat} {args:List AV} {o:List Ob} {K:AV→List Ob→Prop} (h:AS C f args o K):sT C.P f args o K:=by
 obtain ⟨h1,h2⟩:=vl hC hL hD hN h
 refine ⟨h1,fun E w us hM hg hv=>(h2 _ E w us hM hg hv).mono ?_⟩
 rintro e w' ⟨v,r,S',E',hk,rfl,hS,hr⟩
 replace hk:=ae hk
 obtain ⟨hb,hk⟩:=hk
 simp only [Bool.and_eq_true] at hb
 have:=hS.obj_only
 rw [Nat.eq_of_beq_eq_true hb.2] at this
 exact ⟨v,r,S'.o,E'.ob,hk,rfl,this,lK 4 hb.1 hr⟩
def Hb (C:Ctx):Prop:=∀ f args K,zE C f args K→∃ r,K r∧zE C f args (fun x=>x=r)
theorem CC {C:Ctx} (hC:fQ C) (hL:rW C) (hD:rX C) (hN:rb C.P) (hA:Hb C) {f:Nat} {args:List AV} {K:AV→Prop} (h:zE C f args K):ft C.P f args K:=by
 obtain ⟨r,hk,h⟩:=hA f args K h
 obtain ⟨h1,h2⟩:=vl hC hL hD hN h
 refine ⟨r,⟨h1,fun F w us hF hg hv=>?_⟩,hk⟩
 have hM:al { w0:=w,M:=fun _=>False,F:=F,mu:=fun _=>none } pn ⟨F,fun _=>none,w.heap⟩ (IH [] 0) w :=
  ⟨rfl,rfl,rfl,rfl,Nat.le_refl _,fun _ _ _=>rfl,fun _ h=>h,hF,fun _ h _=>.inl h,fun _ _ _ _ _ h=>(by cases h),fun _ _ _ _ _ _ _ _ _ h _=>(by cases h),fun _=>rfl,fun _=>trivial,fun _ h=>(by cases h),Nat.le_refl _,fun _ _=>rfl,fun _ _ h=>(by cases h),fun _ _=>rfl⟩
 refine (h2 _ _ w us hM hg hv).mono ?_
 rintro e w' ⟨v,c,S',E',hk,rfl,hS,hr⟩
 unfold AL at hk
 split at hk
 ·rename_i b hb
  rw [cf] at hk
  subst hk
  have hd:=iH hS _ hb hr (ids:=dH S'.o 6 c) (fun i hi=>hi)
  refine ⟨v,FD E' (dH S'.o 6 c),rfl,?_,⟨hS.os,hS.tape,hS.output,hS.size,fun b' hb'=>hS.keep b' hb' (fun h=>h)⟩,fun b' h=>.inl (hS.F0 b' h),G1 hS,fun b' h hlt=>?_⟩
  ·have e:(⟨FD E' (dH S'.o 6 c),fun _=>none,w'.heap⟩:Env)=E'.fd (dH S'.o 6 c):=by
    unfold Env.fd
    rw [hS.hp]
   rw [e]
   exact hd
  ·rcases h with h | ⟨id,_,o',s,n,h⟩
   ·rcases hS.Fnew b' h hlt with h3 | h3
    ·exact h3
    ·exact h3.elim
   ·rcases (hS.own _ _ _ _ _ h).2.2 with h3 | h3
    ·exact h3.elim
    ·have h3:w.heap.size≤b':=h3
     omega
 ·exact False.elim hk
theorem least {p:Nat→Prop}:∀ (n:Nat),p n→∃ m,p m∧∀ k,p k→m≤k:=by
 intro n
 induction n using Nat.strongRecOn with
 | _ n ih =>
  intro h
  by_cases hl:∃ k,k<n∧p k
  ·obtain ⟨k,hk,hp⟩:=hl
   exact ih k hk hp
  ·exact ⟨n,h,fun k hk=>Nat.le_of_not_lt fun hlt=>hl ⟨k,hlt,hk⟩⟩
open Classical in
noncomputable def s5 (p:Nat→Prop):Nat:=if h:∃ m,p m∧∀ k,p k→m≤k then Classical.choose h else 0
theorem CE {p:Nat→Prop} {n:Nat} (h:p n):p (s5 p)∧s5 p≤n:=by
 have hl:=least n h
 unfold s5
 rw [dif_pos hl]
 exact ⟨(Classical.choose_spec hl).1,(Classical.choose_spec hl).2 n h⟩
def LP (cfg:u9) (G:Gh) (pl:br) (c:Code) (K:Ex→St→Prop) (a:Act) (w:World) (n:Nat):Prop:=∃ S E,(vK cfg n).loop pl c S K∧al G pn E S w∧TR E S.t a
theorem Hc (cfg:u9):∀ n,(vK cfg n).P=cfg.P
 | 0=>rfl
 | _ + 1=>rfl
theorem wc {cfg:u9} {N:Nat} (h:∀ m,m<N→fQ (vK cfg m)∧rW (vK cfg m)∧rX (vK cfg m)):rW (vK cfg N):=by
 intro pl c S K hl r G E a w Q hM ht hQ
 rw [Hc]
 refine wpIn_loop (fun a w=>∃ n,n≤N∧LP cfg G pl c K a w n) (fun a w=>s5 fun n=>n≤N∧LP cfg G pl c K a w n) ⟨N,Nat.le_refl _,S,E,hl,hM,ht⟩ (fun a1 w1 hI=>?_)
 obtain ⟨n0,hn0⟩:=hI
 have hsp:=(CE (p:=fun n=>n≤N∧LP cfg G pl c K a1 w1 n) hn0).1
 generalize hmu:(s5 fun n=>n≤N∧LP cfg G pl c K a1 w1 n)=mu
 rw [hmu] at hsp
 obtain ⟨hle,S1,E1,hl1,hM1,ht1⟩:=hsp
 cases mu with
 | zero=>exact False.elim hl1
 | succ m =>
  obtain ⟨h1,h2,h3⟩:=h m hle
  have hl2:ju (vK cfg m) pl c S1 fun e S'=>match e with
   | .nrm=>(vK cfg m).loop pl c S' K
   | .ex i=>K (.ex i) S'
   | .ret=>K .ret S':=(xo (C:=vK cfg m) (k:=fun C=>ju C pl c S1 fun e S'=>match e with
   | .nrm=>C.loop pl c S' K
   | .ex i=>K (.ex i) S'
   | .ret=>K .ret S')).1 hl1
  have:=pZ h1 h2 h3 c hl2 r G E1 a1 w1 (Exit.then (fun a' w'=>(∃ n,n≤N∧LP cfg G pl c K a' w' n)∧(s5 fun n=>n≤N∧LP cfg G pl c K a' w' n)<m + 1) Q) hM1 ht1 (fun e S' E' a' w' hk hS htr=>by
   cases e with
   | nrm =>
    have hp:m≤N∧LP cfg G pl c K a' w' m:=⟨Nat.le_of_succ_le hle,S',E',hk,hS,htr⟩
    exact ⟨⟨m,hp⟩,Nat.lt_succ_of_le (CE (p:=fun n=>n≤N∧LP cfg G pl c K a' w' n) hp).2⟩
   | ex i=>exact hQ (.ex i) _ _ _ _ hk hS htr
   | ret=>exact hQ .ret _ _ _ _ hk hS htr)
  rw [Hc] at this
  exact this
def ay {α:Type} (X:(α→Prop)→Prop):Prop:=∀ K,X K→∃ r,K r∧∀ K',K' r→X K'
def au {α β:Type} (X:(α→β→Prop)→Prop):Prop:=∀ K,X K→∃ a b,K a b∧∀ K',K' a b→X K'
def bW {α β γ:Type} (X:(α→β→γ→Prop)→Prop):Prop:=∀ K,X K→∃ a b c,K a b c∧∀ K',K' a b c→X K'
theorem ay.failN {α:Type} {n:Nat}:ay (fun _:α→Prop=>aj n):=fun _ h=>False.elim h
theorem au.failN {α β:Type} {n:Nat}:au (fun _:α→β→Prop=>aj n):=fun _ h=>False.elim h
theorem bW.failN {α β γ:Type} {n:Nat}:bW (fun _:α→β→γ→Prop=>aj n):=fun _ h=>False.elim h
theorem ay.ret {α:Type} (a:α):ay (fun K=>K a):=fun _ h=>⟨a,h,fun _ h=>h⟩
theorem au.ret {α β:Type} (a:α) (b:β):au (fun K=>K a b):=fun _ h=>⟨a,b,h,fun _ h=>h⟩
theorem bW.ret {α β γ:Type} (a:α) (b:β) (c:γ):bW (fun K=>K a b c):=fun _ h=>⟨a,b,c,h,fun _ h=>h⟩
theorem ay.chk {α:Type} {b:Bool} {X:(α→Prop)→Prop} (h:ay X):ay (fun K=>bo b (X K)):=fun K hk=>by
 obtain ⟨hb,hx⟩:=ae hk
 obtain ⟨r,h1,h2⟩:=h K hx
 exact ⟨r,h1,fun K' hk'=>ap hb (h2 K' hk')⟩
theorem au.chk {α β:Type} {b:Bool} {X:(α→β→Prop)→Prop} (h:au X):au (fun K=>bo b (X K)):=fun K hk=>by
 obtain ⟨hb,hx⟩:=ae hk
 obtain ⟨r,s,h1,h2⟩:=h K hx
 exact ⟨r,s,h1,fun K' hk'=>ap hb (h2 K' hk')⟩
theorem bW.chk {α β γ:Type} {b:Bool} {X:(α→β→γ→Prop)→Prop} (h:bW X):bW (fun K=>bo b (X K)):=fun K hk=>by
 obtain ⟨hb,hx⟩:=ae hk
 obtain ⟨r,s,t,h1,h2⟩:=h K hx
 exact ⟨r,s,t,h1,fun K' hk'=>ap hb (h2 K' hk')⟩
theorem ay.fork {α:Type} {b:Bool} {X Y:(α→Prop)→Prop} (h:ay X) (k:ay Y):ay (fun K=>B4 b (X K) (Y K)):=by
 cases b
 ·exact k
 ·exact h
theorem au.fork {α β:Type} {b:Bool} {X Y:(α→β→Prop)→Prop} (h:au X) (k:au Y):au (fun K=>B4 b (X K) (Y K)):=by
 cases b
 ·exact k
 ·exact h
theorem ay.gsel {α:Type} {b:Option Bool} {w:Bool} {X Y:(α→Prop)→Prop} (h:ay X) (k:ay Y):ay (fun K=>gsel b w (X K) (Y K)):=by
 unfold A.gsel
 split
 ·exact h
 ·exact h
 ·exact k
theorem ay.bind {α β:Type} {X:(α→Prop)→Prop} {Y:α→(β→Prop)→Prop} (h:ay X) (k:∀ a,ay (Y a)):ay (fun K=>X fun a=>Y a K):=fun K hk=>by
 obtain ⟨r,h1,h2⟩:=h _ hk
 obtain ⟨s,h3,h4⟩:=k r K h1
 exact ⟨s,h3,fun K' hk'=>h2 _ (h4 K' hk')⟩
theorem ay.bind2 {α β γ:Type} {X:(α→Prop)→Prop} {Y:α→(β→γ→Prop)→Prop} (h:ay X) (k:∀ a,au (Y a)):au (fun K=>X fun a=>Y a K):=fun K hk=>by
 obtain ⟨r,h1,h2⟩:=h _ hk
 obtain ⟨s,t,h3,h4⟩:=k r K h1
 exact ⟨s,t,h3,fun K' hk'=>h2 _ (h4 K' hk')⟩
theorem au.bind {α β γ:Type} {X:(α→β→Prop)→Prop} {Y:α→β→(γ→Prop)→Prop} (h:au X) (k:∀ a b,ay (Y a b)):ay (fun K=>X fun a b=>Y a b K):=fun K hk=>by
 obtain ⟨r,s,h1,h2⟩:=h _ hk
 obtain ⟨t,h3,h4⟩:=k r s K h1
 exact ⟨t,h3,fun K' hk'=>h2 _ (h4 K' hk')⟩
theorem au.bind2 {α β γ δ:Type} {X:(α→β→Prop)→Prop} {Y:α→β→(γ→δ→Prop)→Prop} (h:au X) (k:∀ a b,au (Y a b)):au (fun K=>X fun a b=>Y a b K):=fun K hk=>by
 obtain ⟨r,s,h1,h2⟩:=h _ hk
 obtain ⟨t,u,h3,h4⟩:=k r s K h1
 exact ⟨t,u,h3,fun K' hk'=>h2 _ (h4 K' hk')⟩
theorem bW.bind {α β γ δ:Type} {X:(α→β→γ→Prop)→Prop} {Y:α→β→γ→(δ→Prop)→Prop} (h:bW X) (k:∀ a b c,ay (Y a b c)):ay (fun K=>X fun a b c=>Y a b c K):=fun K hk=>by
 obtain ⟨r,s,q,h1,h2⟩:=h _ hk
 obtain ⟨t,h3,h4⟩:=k r s q K h1
 exact ⟨t,h3,fun K' hk'=>h2 _ (h4 K' hk')⟩
theorem dF {α:Type} {n:Nat}:ay (fun _:α→Prop=>aj n):=ay.failN
theorem gW {α β:Type} {n:Nat}:au (fun _:α→β→Prop=>aj n):=au.failN
theorem gX {α β γ:Type} {n:Nat}:bW (fun _:α→β→γ→Prop=>aj n):=bW.failN
theorem dR {α:Type} (a:α):ay (fun K=>K a):=ay.ret a
theorem gY {α β:Type} (a:α) (b:β):au (fun K=>K a b):=au.ret a b
theorem gZ {α β γ:Type} (a:α) (b:β) (c:γ):bW (fun K=>K a b c):=bW.ret a b c
theorem dC {α:Type} {b:Bool} {X:(α→Prop)→Prop} (h:ay X):ay (fun K=>bo b (X K)):=ay.chk h
theorem g0 {α β:Type} {b:Bool} {X:(α→β→Prop)→Prop} (h:au X):au (fun K=>bo b (X K)):=au.chk h
theorem g7 {α β γ:Type} {b:Bool} {X:(α→β→γ→Prop)→Prop} (h:bW X):bW (fun K=>bo b (X K)):=bW.chk h
theorem db {α β:Type} {X:(α→Prop)→Prop} {Y:α→(β→Prop)→Prop} (h:ay X) (k:∀ a,ay (Y a)):ay (fun K=>X fun a=>Y a K):=ay.bind h k
theorem bu {α β γ:Type} {X:(α→Prop)→Prop} {Y:α→(β→γ→Prop)→Prop} (h:ay X) (k:∀ a,au (Y a)):au (fun K=>X fun a=>Y a K):=ay.bind2 h k
theorem dd {α β γ:Type} {X:(α→β→Prop)→Prop} {Y:α→β→(γ→Prop)→Prop} (h:au X) (k:∀ a b,ay (Y a b)):ay (fun K=>X fun a b=>Y a b K):=au.bind h k
theorem wh {α β γ δ:Type} {X:(α→β→Prop)→Prop} {Y:α→β→(γ→δ→Prop)→Prop} (h:au X) (k:∀ a b,au (Y a b)):au (fun K=>X fun a b=>Y a b K):=au.bind2 h k
theorem dt {α β γ δ:Type} {X:(α→β→γ→Prop)→Prop} {Y:α→β→γ→(δ→Prop)→Prop} (h:bW X) (k:∀ a b c,ay (Y a b c)):ay (fun K=>X fun a b c=>Y a b c K):=bW.bind h k
theorem ay.of_iff {α:Type} {X:(α→Prop)→Prop} {a:α} (h:∀ K:α→Prop,X K↔K a):ay X:=fun K hk=>⟨a,(h K).1 hk,fun K' hk'=>(h K').2 hk'⟩
theorem gC {a:AV}:ay (lA a):=.of_iff fun _=>cf
theorem bf {xs:List AV}:ay (iY xs):=.of_iff fun _=>dv
theorem p5 {xs:List AV}:ay (v_ xs):=.of_iff fun _=>iG
theorem oe {xs:List (Nat×List AV)}:ay (pI xs):=.of_iff fun _=>jc
theorem ao {xs:List Ob}:ay (aR xs):=.of_iff fun _=>ax
theorem il {xs:List AV} {n:Nat}:ay (rF xs n):=fun K h=>by
 obtain ⟨a,h1,h2⟩:=bS.1 h
 exact ⟨a,h2,fun K' h3=>bS.2 ⟨a,h1,h3⟩⟩
theorem kp {xs:List AV} {n:Nat} {v:AV}:ay (ud xs n v):=.of_iff fun _=>d_
theorem aV {dst:Option Tmp} {a:AV} {S:St}:ay (bd dst a S):=.of_iff fun _=>aA
theorem bC {k:Key} {xs:List AV}:ay (nf k xs):=.of_iff fun _=>iJ
theorem bj {k:Key} {xs:List (Nat×List AV)}:ay (nR k xs):=.of_iff fun _=>iK
theorem eY {k:Key} {xs:List Ob}:ay (iZ k xs):=.of_iff fun _=>dN
theorem bT {S:St} {x:Operand}:ay (cz S x):=by
 unfold cz
 repeat' first
  |exact dF|exact il|exact gC|exact dR _|refine ay.bind gC (fun _=>?_)|split
theorem aN {S:St}:∀ {xs:List Operand},ay (dp S xs)
 | []=>ay.ret _
 | x::xs=>by
  show ay (fun K=>cz S x fun a=>dp S xs fun as=>K (a::as))
  exact ay.bind bT (fun a=>ay.bind aN (fun as=>ay.ret (a::as)))
theorem D6 {d:Nat} {S:St}:au (wH d S):=by
 unfold wH
 refine ay.bind2 il (fun a=>?_)
 split
 ·exact au.fork (ay.bind2 kp (fun _=>au.ret _ _)) (ay.bind2 kp (fun _=>au.ret _ _))
 ·exact au.failN
theorem D7 {c:Operand} {S:St}:au (pH c S):=by
 unfold pH
 split
 ·exact D6
 ·exact au.fork (au.ret _ _) (au.ret _ _)
 ·exact au.failN
structure hU (C:Ctx):Prop where
 pcall:∀ f args,ay (C.pcall f args)
 scall:∀ f args o,au (C.scall f args o)
 loop:∀ pl c S,au (C.loop pl c S)
theorem bL {a:AV}:ay (nS a):=by
 unfold nS
 repeat' first
  |exact dF|exact gW|exact gX|exact dR _|exact gY _ _|exact gZ _ _ _|refine dC ?_|refine g0 ?_|refine g7 ?_|split
theorem s9 {S:St} {key:Key} {i:Nat}:ay (yL S key i):=by
 unfold yL
 repeat' first
  |exact dF|exact gW|exact gX|exact dR _|exact gY _ _|exact gZ _ _ _|refine dC ?_|refine g0 ?_|refine g7 ?_|split
theorem wi {S:St} {a:AV}:au (GO S a):=by
 unfold GO
 repeat' first
  |exact dF|exact gW|exact gX|exact dR _|exact gY _ _|exact gZ _ _ _|refine dC ?_|refine g0 ?_|refine g7 ?_|exact s9|refine db s9 fun _=>?_
  |refine bu s9 fun _=>?_|split
theorem cN {P:Program} {t:TypeId} {row:List AV} {j:Nat}:ay (i6 P t row j):=by
 unfold i6
 repeat' first
  |exact dF|exact gW|exact gX|exact dR _|exact gY _ _|exact gZ _ _ _|refine dC ?_|refine g0 ?_|refine g7 ?_|exact bf|refine db bf fun _=>?_
  |refine bu bf fun _=>?_|split
theorem rZ {S:St} {a:AV} {cs:List AV}:ay (mT S a cs):=by
 unfold mT
 repeat' first
  |exact dF|exact gW|exact gX|exact dR _|exact gY _ _|exact gZ _ _ _|refine dC ?_|refine g0 ?_|refine g7 ?_|exact bf|refine db bf fun _=>?_
  |refine bu bf fun _=>?_|exact oe|refine db oe fun _=>?_|refine bu oe fun _=>?_|exact ao|refine db ao fun _=>?_
  |refine bu ao fun _=>?_|split
theorem uA {op:BinOp} {x y:Value}:ay (wJ op x y):=by
 unfold wJ
 repeat' first
  |exact dF|exact gW|exact gX|exact dR _|exact gY _ _|exact gZ _ _ _|refine dC ?_|refine g0 ?_|refine g7 ?_|split
theorem uB {P:Program} {op:BinOp} {t:TypeId} {a b:Bool}:ay (B5 P op t a b):=by
 unfold B5
 repeat' first
  |exact dF|exact gW|exact gX|exact dR _|exact gY _ _|exact gZ _ _ _|refine dC ?_|refine g0 ?_|refine g7 ?_|split
theorem uC {P:Program} {op:BinOp} {t:TypeId} {a b:Value}:ay (zx P op t a b):=by
 unfold zx
 repeat' first
  |exact dF|exact gW|exact gX|exact dR _|exact gY _ _|exact gZ _ _ _|refine dC ?_|refine g0 ?_|refine g7 ?_|exact uB|refine db uB fun _=>?_
  |refine bu uB fun _=>?_|exact uA|refine db uA fun _=>?_|refine bu uA fun _=>?_|split
theorem xr {op:BinOp} {x y:AV}:ay (GR op x y):=by
 unfold GR
 repeat' first
  |exact dF|exact gW|exact gX|exact dR _|exact gY _ _|exact gZ _ _ _|refine dC ?_|refine g0 ?_|refine g7 ?_|split
theorem ta {P:Program} {op:BinOp} {t:TypeId} {x y:AV}:ay (DG P op t x y):=by
 unfold DG
 repeat' first
  |exact dF|exact gW|exact gX|exact dR _|exact gY _ _|exact gZ _ _ _|refine dC ?_|refine g0 ?_|refine g7 ?_|exact uC|refine db uC fun _=>?_
  |refine bu uC fun _=>?_|exact xr|refine db xr fun _=>?_|refine bu xr fun _=>?_|split
theorem Be {op:UnOp} {x:AV}:ay (Lz op x):=by
 unfold Lz
 repeat' first
  |exact dF|exact gW|exact gX|exact dR _|exact gY _ _|exact gZ _ _ _|refine dC ?_|refine g0 ?_|refine g7 ?_|split
theorem aE {P:Program} {e:TypeId}:ay (cC P e):=by
 unfold cC
 repeat' first
  |exact dF|exact gW|exact gX|exact dR _|exact gY _ _|exact gZ _ _ _|refine dC ?_|refine g0 ?_|refine g7 ?_|exact p5|refine db p5 fun _=>?_
  |refine bu p5 fun _=>?_|split
theorem gP {d:Nat} {S:St}:ay (zy d S):=by
 unfold zy
 repeat' first
  |exact dF|exact gW|exact gX|exact dR _|exact gY _ _|exact gZ _ _ _|refine dC ?_|refine g0 ?_|refine g7 ?_|exact bC|refine db bC fun _=>?_
  |refine bu bC fun _=>?_|exact bj|refine db bj fun _=>?_|refine bu bj fun _=>?_|split
theorem fR:∀ (ds:List Nat) (S:St),ay (nT ds S)
 | [],S=>by
  show ay (fun K=>nT [] S K)
  unfold nT
  repeat' first
   | exact ay.failN
   | exact au.failN
   | exact bW.failN
   | exact ay.ret _
   | exact au.ret _ _
   | exact bW.ret _ _ _
   | refine ay.chk ?_
   | refine au.chk ?_
   | refine bW.chk ?_
   | exact fR _ _
   | refine db (fR _ _) fun _=>?_
   | refine bu (fR _ _) fun _=>?_
   | exact gP
   | refine db gP fun _=>?_
   | refine bu gP fun _=>?_
   | split
 | d::ds,S=>by
  show ay (fun K=>nT (d::ds) S K)
  unfold nT
  repeat' first
   | exact ay.failN
   | exact au.failN
   | exact bW.failN
   | exact ay.ret _
   | exact au.ret _ _
   | exact bW.ret _ _ _
   | refine ay.chk ?_
   | refine au.chk ?_
   | refine bW.chk ?_
   | exact fR _ _
   | refine db (fR _ _) fun _=>?_
   | refine bu (fR _ _) fun _=>?_
   | exact gP
   | refine db gP fun _=>?_
   | refine bu gP fun _=>?_
   | split
theorem xt {pl:br} {dst:Option Tmp} {cs:List AV} {S:St}:ay (B6 pl dst cs S):=by
 unfold B6
 repeat' first
  |exact dF|exact gW|exact gX|exact dR _|exact gY _ _|exact gZ _ _ _|refine dC ?_|refine g0 ?_|refine g7 ?_|exact ao|refine db ao fun _=>?_
  |refine bu ao fun _=>?_|exact kp|refine db kp fun _=>?_|refine bu kp fun _=>?_|exact gP|refine db gP fun _=>?_
  |refine bu gP fun _=>?_|exact bC|refine db bC fun _=>?_|refine bu bC fun _=>?_|split
theorem cO:∀ (ps:List (Nat×AV)) (place:Nat→Option (Nat×Nat)) (cells:List AV),ay (oP place cells ps)
 | [],p,c=>by
  show ay (fun K=>oP p c [] K)
  unfold oP
  repeat' first
   | exact ay.failN
   | exact au.failN
   | exact bW.failN
   | exact ay.ret _
   | exact au.ret _ _
   | exact bW.ret _ _ _
   | refine ay.chk ?_
   | refine au.chk ?_
   | refine bW.chk ?_
   | exact cO _ _ _
   | refine db (cO _ _ _) fun _=>?_
   | refine bu (cO _ _ _) fun _=>?_
   | exact bf
   | refine db bf fun _=>?_
   | refine bu bf fun _=>?_
   | exact bL
   | refine db bL fun _=>?_
   | refine bu bL fun _=>?_
   | split
 | (i,x)::rest,p,c=>by
  show ay (fun K=>oP p c ((i,x)::rest) K)
  unfold oP
  repeat' first
   | exact ay.failN
   | exact au.failN
   | exact bW.failN
   | exact ay.ret _
   | exact au.ret _ _
   | exact bW.ret _ _ _
   | refine ay.chk ?_
   | refine au.chk ?_
   | refine bW.chk ?_
   | exact cO _ _ _
   | refine db (cO _ _ _) fun _=>?_
   | refine bu (cO _ _ _) fun _=>?_
   | exact bf
   | refine db bf fun _=>?_
   | refine bu bf fun _=>?_
   | exact bL
   | refine db bL fun _=>?_
   | refine bu bL fun _=>?_
   | split
theorem r4 {P:Program} {t:TypeId} {parts:List (Nat×AV)}:ay (wL P t parts):=by
 unfold wL
 repeat' first
  |exact dF|exact gW|exact gX|exact dR _|exact gY _ _|exact gZ _ _ _|refine dC ?_|refine g0 ?_|refine g7 ?_|exact aE|refine db aE fun _=>?_
  |refine bu aE fun _=>?_|exact cO _ _ _|refine db (cO _ _ _) fun _=>?_|refine bu (cO _ _ _) fun _=>?_|split
theorem bN:∀ (xs:List (List AV)),ay (gh xs)
 | []=>by
  show ay (fun K=>gh [] K)
  unfold gh
  repeat' first
   | exact ay.failN
   | exact au.failN
   | exact bW.failN
   | exact ay.ret _
   | exact au.ret _ _
   | exact bW.ret _ _ _
   | refine ay.chk ?_
   | refine au.chk ?_
   | refine bW.chk ?_
   | exact bN _
   | refine db (bN _) fun _=>?_
   | refine bu (bN _) fun _=>?_
   | exact bf
   | refine db bf fun _=>?_
   | refine bu bf fun _=>?_
   | split
 | x::xs=>by
  show ay (fun K=>gh (x::xs) K)
  unfold gh
  repeat' first
   | exact ay.failN
   | exact au.failN
   | exact bW.failN
   | exact ay.ret _
   | exact au.ret _ _
   | exact bW.ret _ _ _
   | refine ay.chk ?_
   | refine au.chk ?_
   | refine bW.chk ?_
   | exact bN _
   | refine db (bN _) fun _=>?_
   | refine bu (bN _) fun _=>?_
   | exact bf
   | refine db bf fun _=>?_
   | refine bu bf fun _=>?_
   | split
theorem kC {P:Program} {pl:br} {dst:Option Tmp} {t:TypeId} {len:Nat} {parts:List (Nat×AV)} {S:St}:ay (kh P pl dst t len parts S):=by
 unfold kh
 repeat' first
  |exact dF|exact gW|exact gX|exact dR _|exact gY _ _|exact gZ _ _ _|refine dC ?_|refine g0 ?_|refine g7 ?_|exact aV|refine db aV fun _=>?_
  |refine bu aV fun _=>?_|exact aE|refine db aE fun _=>?_|refine bu aE fun _=>?_|exact cO _ _ _|refine db (cO _ _ _) fun _=>?_
  |refine bu (cO _ _ _) fun _=>?_|exact bN _|refine db (bN _) fun _=>?_|refine bu (bN _) fun _=>?_|exact ao
  |refine db ao fun _=>?_|refine bu ao fun _=>?_|split
theorem og {P:Program} {pl:br} {dst:Option Tmp} {t:TypeId} {len:Nat} {parts:List (Nat×AV)}:ay (pJ P pl dst t len parts):=by
 unfold pJ
 repeat' first
  |exact dF|exact gW|exact gX|exact dR _|exact gY _ _|exact gZ _ _ _|refine dC ?_|refine g0 ?_|refine g7 ?_|exact aE|refine db aE fun _=>?_
  |refine bu aE fun _=>?_|exact cO _ _ _|refine db (cO _ _ _) fun _=>?_|refine bu (cO _ _ _) fun _=>?_|exact bN _
  |refine db (bN _) fun _=>?_|refine bu (bN _) fun _=>?_|split
theorem xu {P:Program} {t:TypeId} {S:St} {x:AV}:ay (GT P t S x):=by
 unfold GT
 repeat' first
  |exact dF|exact gW|exact gX|exact dR _|exact gY _ _|exact gZ _ _ _|refine dC ?_|refine g0 ?_|refine g7 ?_|split
theorem dS {size:Nat} {S:St} {x:AV}:au (kG size S x):=by
 unfold kG
 repeat' first
  |exact dF|exact gW|exact gX|exact dR _|exact gY _ _|exact gZ _ _ _|refine dC ?_|refine g0 ?_|refine g7 ?_|refine bu s9 fun _=>?_|split
theorem uD {S:St} {id:Nat} {ob:Ob}:au (q0 S id ob):=by
 unfold q0
 repeat' first
  |exact dF|exact gW|exact gX|exact dR _|exact gY _ _|exact gZ _ _ _|refine dC ?_|refine g0 ?_|refine g7 ?_|exact bC|refine db bC fun _=>?_
  |refine bu bC fun _=>?_|exact bj|refine db bj fun _=>?_|refine bu bj fun _=>?_|exact eY|refine db eY fun _=>?_
  |refine bu eY fun _=>?_|exact ao|refine db ao fun _=>?_|refine bu ao fun _=>?_|split
theorem p6 {P:Program} {ts:List TypeId} {base x:AV} {S:St}:au (mo P ts base x S):=by
 unfold mo
 repeat' first
  |exact dF|exact gW|exact gX|exact dR _|exact gY _ _|exact gZ _ _ _|refine dC ?_|refine g0 ?_|refine g7 ?_|exact dS|refine dd dS fun _ _=>?_
  |refine wh dS fun _ _=>?_|exact ao|refine db ao fun _=>?_|refine bu ao fun _=>?_|exact uD|refine dd uD fun _ _=>?_
  |refine wh uD fun _ _=>?_|split
theorem Bf {P:Program} {ts:List TypeId} {base x:AV}:ay (lB P ts base x):=by
 unfold lB
 repeat' first
  |exact dF|exact gW|exact gX|exact dR _|exact gY _ _|exact gZ _ _ _|refine dC ?_|refine g0 ?_|refine g7 ?_|exact dS|refine dd dS fun _ _=>?_
  |refine wh dS fun _ _=>?_|split
theorem ol {P:Program} {ts:List TypeId} {base:AV} {n:Int} {S:St}:au (lD P ts base n S):=by
 unfold lD
 repeat' first
  |exact dF|exact gW|exact gX|exact dR _|exact gY _ _|exact gZ _ _ _|refine dC ?_|refine g0 ?_|refine g7 ?_|exact aE|refine db aE fun _=>?_
  |refine bu aE fun _=>?_|exact ao|refine db ao fun _=>?_|refine bu ao fun _=>?_|split
theorem xv {P:Program} {ts:List TypeId} {x:AV}:ay (GU P ts x):=by
 unfold GU
 repeat' first
  |exact dF|exact gW|exact gX|exact dR _|exact gY _ _|exact gZ _ _ _|refine dC ?_|refine g0 ?_|refine g7 ?_|split
theorem uE {P:Program} {ts:List TypeId} {x y:AV} {M:St}:au (u4 P ts x y M):=by
 unfold u4
 repeat' first
  |exact dF|exact gW|exact gX|exact dR _|exact gY _ _|exact gZ _ _ _|refine dC ?_|refine g0 ?_|refine g7 ?_|exact dS|refine dd dS fun _ _=>?_
  |refine wh dS fun _ _=>?_|exact ao|refine db ao fun _=>?_|refine bu ao fun _=>?_|split
theorem D8 {P:Program} {ts:List TypeId} {x:AV} {M:St}:ay (ue P ts x M):=by
 unfold ue
 repeat' first
  |exact dF|exact gW|exact gX|exact dR _|exact gY _ _|exact gZ _ _ _|refine dC ?_|refine g0 ?_|refine g7 ?_|refine db aE fun _=>?_|refine db ao fun _=>?_|split
theorem aO {a:AV}:ay (intOf a):=by
 unfold intOf
 repeat' first
  |exact dF|exact gW|exact gX|exact dR _|exact gY _ _|exact gZ _ _ _|refine dC ?_|refine g0 ?_|refine g7 ?_|split
theorem gD {P:Program} {t:TypeId} {l c:AV} {S:St}:au (a8 P t l c S):=by
 unfold a8
 repeat' first
  |exact dF|exact gW|exact gX|exact dR _|exact gY _ _|exact gZ _ _ _|refine dC ?_|refine g0 ?_|refine g7 ?_|exact aO|refine db aO fun _=>?_
  |refine bu aO fun _=>?_|exact aE|refine db aE fun _=>?_|refine bu aE fun _=>?_|exact ao|refine db ao fun _=>?_
  |refine bu ao fun _=>?_|split
theorem CF {len cap:Nat} {lo hi mx:Option Int}:bW (uf len cap lo hi mx):=by
 unfold uf
 repeat' first
  |exact dF|exact gW|exact gX|exact dR _|exact gY _ _|exact gZ _ _ _|refine dC ?_|refine g0 ?_|refine g7 ?_|split
theorem r5 {P:Program} {t:TypeId} {x:AV} {lo hi mx:Option Int} {S:St}:ay (jJ P t x lo hi mx S):=by
 unfold jJ
 repeat' first
  |exact dF|exact gW|exact gX|exact dR _|exact gY _ _|exact gZ _ _ _|refine dC ?_|refine g0 ?_|refine g7 ?_|exact CF|refine dt CF fun _ _ _=>?_
  |split
theorem lO {P:Program} {t:TypeId} {x ix:AV} {S:St}:ay (iy P t x ix S):=by
 unfold iy
 repeat' first
  |exact dF|exact gW|exact gX|exact dR _|exact gY _ _|exact gZ _ _ _|refine dC ?_|refine g0 ?_|refine g7 ?_|exact aO|refine db aO fun _=>?_
  |refine bu aO fun _=>?_|split
theorem r6 {P:Program} {t:TypeId} {x ix:AV}:ay (rG P t x ix):=by
 unfold rG
 repeat' first
  |exact dF|exact gW|exact gX|exact dR _|exact gY _ _|exact gZ _ _ _|refine dC ?_|refine g0 ?_|refine g7 ?_|exact aO|refine db aO fun _=>?_
  |refine bu aO fun _=>?_|exact cN|refine db cN fun _=>?_|refine bu cN fun _=>?_|split
theorem lQ {P:Program} {t:TypeId} {x:AV} {f:Nat}:ay (lE P t x f):=by
 unfold lE
 repeat' first
  |exact dF|exact gW|exact gX|exact dR _|exact gY _ _|exact gZ _ _ _|refine dC ?_|refine g0 ?_|refine g7 ?_|split
theorem r7 {P:Program} {t:TypeId} {x:AV} {f:Nat}:ay (wN P t x f):=by
 unfold wN
 repeat' first
  |exact dF|exact gW|exact gX|exact dR _|exact gY _ _|exact gZ _ _ _|refine dC ?_|refine g0 ?_|refine g7 ?_|exact cN|refine db cN fun _=>?_
  |refine bu cN fun _=>?_|split
theorem Bg {P:Program} {src dst:TypeId} {x:AV}:ay (pK P src dst x):=by
 unfold pK
 repeat' first
  |exact dF|exact gW|exact gX|exact dR _|exact gY _ _|exact gZ _ _ _|refine dC ?_|refine g0 ?_|refine g7 ?_|split
theorem mY {P:Program} {src dst:TypeId} {x:AV} {S:St}:ay (iF P src dst x S):=by
 unfold iF
 repeat' first
  |exact dF|exact gW|exact gX|exact dR _|exact gY _ _|exact gZ _ _ _|refine dC ?_|refine g0 ?_|refine g7 ?_|exact Bg|refine dd dS fun _ _=>?_|split
theorem F7 {P:Program} {op:BinOp} {t:TypeId} {x y:AV} {S:St}:ay (B7 P op t x y S):=by
 unfold B7
 repeat' first
  |exact dF|exact gW|exact gX|exact dR _|exact gY _ _|exact gZ _ _ _|refine dC ?_|refine g0 ?_|refine g7 ?_|exact ta|split
theorem lR {o:List Ob} {a:AV}:ay (AL o a):=by
 unfold AL
 repeat' first
  |exact dF|exact gW|exact gX|exact dR _|exact gY _ _|exact gZ _ _ _|refine dC ?_|refine g0 ?_|refine g7 ?_|exact gC|refine db gC fun _=>?_
  |refine bu gC fun _=>?_|split
theorem dq:∀ (xs:List AV) (o:List Ob),ay (jt o xs)
 | [],o=>by
  show ay (fun K=>jt o [] K)
  unfold jt
  repeat' first
   | exact ay.failN
   | exact au.failN
   | exact bW.failN
   | exact ay.ret _
   | exact au.ret _ _
   | exact bW.ret _ _ _
   | refine ay.chk ?_
   | refine au.chk ?_
   | refine bW.chk ?_
   | exact dq _ _
   | refine db (dq _ _) fun _=>?_
   | refine bu (dq _ _) fun _=>?_
   | exact lR
   | refine db lR fun _=>?_
   | refine bu lR fun _=>?_
   | split
 | x::xs,o=>by
  show ay (fun K=>jt o (x::xs) K)
  unfold jt
  repeat' first
   | exact ay.failN
   | exact au.failN
   | exact bW.failN
   | exact ay.ret _
   | exact au.ret _ _
   | exact bW.ret _ _ _
   | refine ay.chk ?_
   | refine au.chk ?_
   | refine bW.chk ?_
   | exact dq _ _
   | refine db (dq _ _) fun _=>?_
   | refine bu (dq _ _) fun _=>?_
   | exact lR
   | refine db lR fun _=>?_
   | refine bu lR fun _=>?_
   | split
theorem cI:∀ (xs:List Nat) (S:St),ay (gK xs S)
 | [],S=>by
  show ay (fun K=>gK [] S K)
  unfold gK
  repeat' first
   | exact ay.failN
   | exact au.failN
   | exact bW.failN
   | exact ay.ret _
   | exact au.ret _ _
   | exact bW.ret _ _ _
   | refine ay.chk ?_
   | refine au.chk ?_
   | refine bW.chk ?_
   | exact cI _ _
   | refine db (cI _ _) fun _=>?_
   | refine bu (cI _ _) fun _=>?_
   | exact bC
   | refine db bC fun _=>?_
   | refine bu bC fun _=>?_
   | exact bj
   | refine db bj fun _=>?_
   | refine bu bj fun _=>?_
   | exact eY
   | refine db eY fun _=>?_
   | refine bu eY fun _=>?_
   | exact ao
   | refine db ao fun _=>?_
   | refine bu ao fun _=>?_
   | split
 | x::xs,S=>by
  show ay (fun K=>gK (x::xs) S K)
  unfold gK
  repeat' first
   | exact ay.failN
   | exact au.failN
   | exact bW.failN
   | exact ay.ret _
   | exact au.ret _ _
   | exact bW.ret _ _ _
   | refine ay.chk ?_
   | refine au.chk ?_
   | refine bW.chk ?_
   | exact cI _ _
   | refine db (cI _ _) fun _=>?_
   | refine bu (cI _ _) fun _=>?_
   | exact bC
   | refine db bC fun _=>?_
   | refine bu bC fun _=>?_
   | exact bj
   | refine db bj fun _=>?_
   | refine bu bj fun _=>?_
   | exact eY
   | refine db eY fun _=>?_
   | refine bu eY fun _=>?_
   | exact ao
   | refine db ao fun _=>?_
   | refine bu ao fun _=>?_
   | split
theorem fS:∀ (xs:List Nat) (t:List AV) (l:List (Nat×List AV)),au (kz xs t l)
 | [],t,l=>by
  show au (fun K=>kz [] t l K)
  unfold kz
  repeat' first
   | exact ay.failN
   | exact au.failN
   | exact bW.failN
   | exact ay.ret _
   | exact au.ret _ _
   | exact bW.ret _ _ _
   | refine ay.chk ?_
   | refine au.chk ?_
   | refine bW.chk ?_
   | exact fS _ _ _
   | refine dd (fS _ _ _) fun _ _=>?_
   | refine wh (fS _ _ _) fun _ _=>?_
   | exact bC
   | refine db bC fun _=>?_
   | refine bu bC fun _=>?_
   | exact bj
   | refine db bj fun _=>?_
   | refine bu bj fun _=>?_
   | split
 | x::xs,t,l=>by
  show au (fun K=>kz (x::xs) t l K)
  unfold kz
  repeat' first
   | exact ay.failN
   | exact au.failN
   | exact bW.failN
   | exact ay.ret _
   | exact au.ret _ _
   | exact bW.ret _ _ _
   | refine ay.chk ?_
   | refine au.chk ?_
   | refine bW.chk ?_
   | exact fS _ _ _
   | refine dd (fS _ _ _) fun _ _=>?_
   | refine wh (fS _ _ _) fun _ _=>?_
   | exact bC
   | refine db bC fun _=>?_
   | refine bu bC fun _=>?_
   | exact bj
   | refine db bj fun _=>?_
   | refine bu bj fun _=>?_
   | split
theorem uF {C:Ctx} {f:AV} {args:List AV} {S:St} (hC:hU C):au (zA C f args S):=by
 unfold zA
 repeat' first
  |exact dF|exact gW|exact gX|exact dR _|exact gY _ _|exact gZ _ _ _|refine dC ?_|refine g0 ?_|refine g7 ?_|exact dq _ _|refine db (dq _ _) fun _=>?_
  |refine bu (dq _ _) fun _=>?_|exact cI _ _|refine db (cI _ _) fun _=>?_|refine bu (cI _ _) fun _=>?_|exact fS _ _ _
  |refine dd (fS _ _ _) fun _ _=>?_|refine wh (fS _ _ _) fun _ _=>?_|exact hC.pcall _ _|refine db (hC.pcall _ _) fun _=>?_|refine bu (hC.pcall _ _) fun _=>?_
  |refine wh (hC.scall _ _ _) fun _ _=>?_|refine dd (hC.scall _ _ _) fun _ _=>?_|split
theorem cQ {P:Program} {kt:TypeId} {key:AV} {es:List (AV×AV)}:au (gy P kt key es):=by
 unfold gy
 repeat' first
  |exact dF|exact gW|exact gX|exact dR _|exact gY _ _|exact gZ _ _ _|refine dC ?_|refine g0 ?_|refine g7 ?_|split
theorem gi {ok:Bool} {x:AV} {b:Bool}:ay (pL ok x b):=by
 unfold pL
 repeat' first
  |exact dF|exact gW|exact gX|exact dR _|exact gY _ _|exact gZ _ _ _|refine dC ?_|refine g0 ?_|refine g7 ?_|split
theorem ff {P:Program} {e:TypeId} {ok:Bool}:ay (i7 P e ok):=by
 unfold i7
 repeat' first
  |exact dF|exact gW|exact gX|exact dR _|exact gY _ _|exact gZ _ _ _|refine dC ?_|refine g0 ?_|refine g7 ?_|exact gC|refine db gC fun _=>?_
  |refine bu gC fun _=>?_|exact gi|refine db gi fun _=>?_|refine bu gi fun _=>?_|split
theorem p7 {P:Program} {e:TypeId} {ok:Bool} {es:List (AV×AV)} {r:Option Nat}:ay (kT P e ok es r):=by
 unfold kT
 repeat' first
  |exact dF|exact gW|exact gX|exact dR _|exact gY _ _|exact gZ _ _ _|refine dC ?_|refine g0 ?_|refine g7 ?_|exact gi|refine db gi fun _=>?_
  |refine bu gi fun _=>?_|exact ff|refine db ff fun _=>?_|refine bu ff fun _=>?_|split
theorem p8 {P:Program} {t:TypeId} {m key:AV} {ok:Bool} {S:St}:ay (qE P t m key ok S):=by
 unfold qE
 repeat' first
  |exact dF|exact gW|exact gX|exact dR _|exact gY _ _|exact gZ _ _ _|refine dC ?_|refine g0 ?_|refine g7 ?_|exact cQ|refine dd cQ fun _ _=>?_
  |refine wh cQ fun _ _=>?_|exact ff|refine db ff fun _=>?_|refine bu ff fun _=>?_|exact p7|refine db p7 fun _=>?_
  |refine bu p7 fun _=>?_|split
theorem lS {P:Program} {t:TypeId} {m key x:AV} {S:St}:ay (fe P t m key x S):=by
 unfold fe
 repeat' first
  |exact dF|exact gW|exact gX|exact dR _|exact gY _ _|exact gZ _ _ _|refine dC ?_|refine g0 ?_|refine g7 ?_|exact cQ|refine dd cQ fun _ _=>?_
  |refine wh cQ fun _ _=>?_|exact ao|refine db ao fun _=>?_|refine bu ao fun _=>?_|split
theorem wl {C:Ctx} {pl:br} {o:Oper} {vs:List AV}:ay (pop C pl o vs):=by
 unfold pop
 repeat' first
  |exact dF|exact gW|exact gX|exact dR _|exact gY _ _|exact gZ _ _ _|refine dC ?_|refine g0 ?_|refine g7 ?_|refine ay.fork ?_ ?_|refine au.fork ?_ ?_
  |exact r4|refine db r4 fun _=>?_|refine bu r4 fun _=>?_|exact og|refine db og fun _=>?_|refine bu og fun _=>?_
  |exact ta|refine db ta fun _=>?_|refine bu ta fun _=>?_|exact Be|refine db Be fun _=>?_|refine bu Be fun _=>?_|exact bf
  |refine db bf fun _=>?_|refine bu bf fun _=>?_|exact lQ|refine db lQ fun _=>?_|refine bu lQ fun _=>?_
  |exact r7|refine db r7 fun _=>?_|refine bu r7 fun _=>?_|exact r6|refine db r6 fun _=>?_|refine bu r6 fun _=>?_
  |exact il|refine db il fun _=>?_|refine bu il fun _=>?_|exact xv|refine db xv fun _=>?_|refine bu xv fun _=>?_
  |split
theorem wm {C:Ctx} {o:Oper} {vs:List AV} {M:St} (hC:hU C):ay (sK C o vs M):=by
 unfold sK
 repeat' first
  |exact dF|exact gW|exact gX|exact dR _|exact gY _ _|exact gZ _ _ _|refine dC ?_|refine g0 ?_|refine g7 ?_|exact wi|refine dd wi fun _ _=>?_
  |refine wh wi fun _ _=>?_|exact cN|refine db cN fun _=>?_|refine bu cN fun _=>?_|exact F7|exact mY|refine db mY fun _=>?_
  |refine bu mY fun _=>?_|exact r5|refine db r5 fun _=>?_|refine bu r5 fun _=>?_|exact aO|refine db aO fun _=>?_
  |refine bu aO fun _=>?_|exact lO|refine db lO fun _=>?_|refine bu lO fun _=>?_|exact p8|refine db p8 fun _=>?_
  |refine bu p8 fun _=>?_|exact xu|refine db xu fun _=>?_|refine bu xu fun _=>?_|exact dq _ _|refine db (dq _ _) fun _=>?_
  |refine bu (dq _ _) fun _=>?_|exact hC.pcall _ _|refine db (hC.pcall _ _) fun _=>?_|refine bu (hC.pcall _ _) fun _=>?_|split
theorem mC {C:Ctx} {o:Oper} {vs:List AV} {M:St}:au (zB C o vs M):=by
 unfold zB
 repeat' first
  |exact dF|exact gW|exact gX|exact dR _|exact gY _ _|exact gZ _ _ _|refine dC ?_|refine g0 ?_|refine g7 ?_|exact bL|refine db bL fun _=>?_
  |refine bu bL fun _=>?_|exact rZ|refine db rZ fun _=>?_|refine bu rZ fun _=>?_|split
theorem wn {C:Ctx} {o:Oper} {vs:List AV}:ay (Kc C o vs):=by
 unfold Kc
 repeat' first
  |exact dF|exact gW|exact gX|exact dR _|exact gY _ _|exact gZ _ _ _|refine dC ?_|refine g0 ?_|refine g7 ?_|exact Bf|split
theorem xw {C:Ctx} {o:Oper} {S:St}:ay (FP C o S):=by
 unfold FP
 repeat' first
  |exact dF|exact gW|exact gX|exact dR _|exact gY _ _|exact gZ _ _ _|refine dC ?_|refine g0 ?_|refine g7 ?_|exact aN|refine db aN fun _=>?_
  |refine bu aN fun _=>?_|exact wn|refine db wn fun _=>?_|refine bu wn fun _=>?_|exact aV|refine db aV fun _=>?_
  |refine bu aV fun _=>?_|split
theorem nk {C:Ctx} {pl:br} {o:Oper} {S:St}:ay (FM C pl o S):=by
 unfold FM
 repeat' first
  |exact dF|exact gW|exact gX|exact dR _|exact gY _ _|exact gZ _ _ _|refine dC ?_|refine g0 ?_|refine g7 ?_|exact aN|refine db aN fun _=>?_
  |refine bu aN fun _=>?_|exact wl|refine db wl fun _=>?_|refine bu wl fun _=>?_|exact aV|refine db aV fun _=>?_
  |refine bu aV fun _=>?_|split
theorem nm {C:Ctx} {o:Oper} {S:St} (hC:hU C):ay (FN C o S):=by
 unfold FN
 repeat' first
  |exact dF|exact gW|exact gX|exact dR _|exact gY _ _|exact gZ _ _ _|refine dC ?_|refine g0 ?_|refine g7 ?_|exact aN|refine db aN fun _=>?_
  |refine bu aN fun _=>?_|exact wm hC|refine db (wm hC) fun _=>?_|refine bu (wm hC) fun _=>?_|exact aV|refine db aV fun _=>?_
  |refine bu aV fun _=>?_|split
theorem xx {C:Ctx} {o:Oper} {S:St}:ay (FO C o S):=by
 unfold FO
 repeat' first
  |exact dF|exact gW|exact gX|exact dR _|exact gY _ _|exact gZ _ _ _|refine dC ?_|refine g0 ?_|refine g7 ?_|exact aN|refine db aN fun _=>?_
  |refine bu aN fun _=>?_|exact mC|refine dd mC fun _ _=>?_|refine wh mC fun _ _=>?_|exact aV|refine db aV fun _=>?_
  |refine bu aV fun _=>?_|split
theorem qI {C:Ctx} {pl:br} {o:Oper} {S:St} (hC:hU C):ay (yM C pl o S):=by
 unfold yM
 repeat' first
  |exact dF|exact gW|exact gX|exact dR _|exact gY _ _|exact gZ _ _ _|refine dC ?_|refine g0 ?_|refine g7 ?_|exact aE|refine db aE fun _=>?_
  |refine bu aE fun _=>?_|exact xt|refine db xt fun _=>?_|refine bu xt fun _=>?_|exact bT|refine db bT fun _=>?_
  |refine bu bT fun _=>?_|exact bL|refine db bL fun _=>?_|refine bu bL fun _=>?_|exact aN|refine db aN fun _=>?_
  |refine bu aN fun _=>?_|exact kC|refine db kC fun _=>?_|refine bu kC fun _=>?_|exact ao|refine db ao fun _=>?_
  |refine bu ao fun _=>?_|exact aV|refine db aV fun _=>?_|refine bu aV fun _=>?_|exact gD|refine dd gD fun _ _=>?_
  |refine wh gD fun _ _=>?_|exact lS|refine db lS fun _=>?_|refine bu lS fun _=>?_|exact ol
  |refine dd ol fun _ _=>?_|refine wh ol fun _ _=>?_|exact p6|refine dd p6 fun _ _=>?_|refine wh p6 fun _ _=>?_
  |refine db D8 fun _=>?_|exact uE|refine dd uE fun _ _=>?_|refine wh uE fun _ _=>?_|exact uF hC|refine dd (uF hC) fun _ _=>?_|refine wh (uF hC) fun _ _=>?_
  |split
theorem au.swap {α β:Type} {X:(α→β→Prop)→Prop} (h:au X):au (fun k:β→α→Prop=>X fun a b=>k b a):=fun k hk=>by
 obtain ⟨a,b,h1,h2⟩:=h _ hk
 exact ⟨b,a,h1,fun k' hk'=>h2 _ hk'⟩
theorem F8 {C:Ctx} {o:Oper} {vs:List AV} {M:St} (hC:hU C):au (mr C o vs M):=by
 unfold mr
 split
 ·exact au.swap gD
 ·split
  ·refine au.chk ?_
   refine au.bind2 (hC.scall _ _ _) (fun _ _=>?_)
   exact au.chk (au.ret _ _)
  ·exact au.failN
 ·exact mC
theorem om {S:St} {id:Nat}:ay (i8 S id):=by
 unfold i8
 repeat' first
  |exact dF|exact gW|exact gX|exact dR _|exact gY _ _|exact gZ _ _ _|refine dC ?_|refine g0 ?_|refine g7 ?_
  |exact ao|refine db ao fun _=>?_|refine bu ao fun _=>?_
  |exact (cI _ _)|refine db (cI _ _) fun _=>?_|refine bu (cI _ _) fun _=>?_
  |split
theorem kq:∀ (ids:List Nat) (S:St),ay (nU ids S)
 | [],_=>ay.ret _
 | id::ids,S=>by
  show ay (fun K=>i8 S id fun S'=>nU ids S' K)
  exact ay.bind om (fun S'=>kq ids S')
theorem p9 {S:St} {id:Nat}:ay (kU S id):=by
 unfold kU
 split
 ·exact ay.bind ao (fun _=>ay.ret _)
 ·exact ay.ret _
theorem tc:∀ (ids:List Nat) (S:St),ay (lF ids S)
 | [],_=>ay.ret _
 | id::ids,S=>by
  show ay (fun K=>kU S id fun S'=>lF ids S' K)
  exact ay.bind p9 (fun S'=>tc ids S')
theorem qJ {pl:br} {id:Nat} {S:St}:ay (kH pl id S):=by
 unfold kH
 split
 ·exact ay.ret _
 ·refine ay.bind (kq _ _) (fun S1=>?_)
  split
  ·exact ay.ret _
  ·exact tc _ _
theorem gQ {S:St} {id i:Nat}:au (f7 S id i):=by
 unfold f7
 repeat' first
  |exact dF|exact gW|exact gX|exact dR _|exact gY _ _|exact gZ _ _ _|refine dC ?_|refine g0 ?_|refine g7 ?_
  |exact ao|refine db ao fun _=>?_|refine bu ao fun _=>?_
  |split
theorem Bh {P:Program} {t:TypeId} {same:Bool} {S:St} {id i:Nat}:au (i_ P t same S id i):=by
 unfold i_
 repeat' first
  |exact dF|exact gW|exact gX|exact dR _|exact gY _ _|exact gZ _ _ _|refine dC ?_|refine g0 ?_|refine g7 ?_
  |exact cN|refine db cN fun _=>?_|refine bu cN fun _=>?_
  |exact gQ|refine dd gQ fun _ _=>?_|refine wh gQ fun _ _=>?_
  |split
theorem za {P:Program} {t:TypeId} {S:St} {id i:Nat} {v:AV}:ay (gL P t S id i v):=by
 unfold gL
 repeat' first
  |exact dF|exact gW|exact gX|exact dR _|exact gY _ _|exact gZ _ _ _|refine dC ?_|refine g0 ?_|refine g7 ?_
  |exact ao|refine db ao fun _=>?_|refine bu ao fun _=>?_
  |split
theorem Bi {P:Program} {t:TypeId} {l c:AV} {S:St}:au (ij P t l c S):=by
 unfold ij
 repeat' first
  |exact dF|exact gW|exact gX|exact dR _|exact gY _ _|exact gZ _ _ _|refine dC ?_|refine g0 ?_|refine g7 ?_
  |exact ao|refine db ao fun _=>?_|refine bu ao fun _=>?_
  |exact aO|refine db aO fun _=>?_|refine bu aO fun _=>?_
  |exact aE|refine db aE fun _=>?_|refine bu aE fun _=>?_
  |split
theorem vP {P:Program} {t:TypeId} {S:St}:au (gA P t S):=by
 unfold gA
 repeat' first
  |exact dF|exact gW|exact gX|exact dR _|exact gY _ _|exact gZ _ _ _|refine dC ?_|refine g0 ?_|refine g7 ?_
  |exact ao|refine db ao fun _=>?_|refine bu ao fun _=>?_
  |split
theorem Bj {P:Program} {t:TypeId} {m key:AV} {ok:Bool} {S:St}:au (ja P t m key ok S):=by
 unfold ja
 repeat' first
  |exact dF|exact gW|exact gX|exact dR _|exact gY _ _|exact gZ _ _ _|refine dC ?_|refine g0 ?_|refine g7 ?_
  |exact gi|refine db gi fun _=>?_|refine bu gi fun _=>?_
  |exact ff|refine db ff fun _=>?_|refine bu ff fun _=>?_
  |exact cQ|refine dd cQ fun _ _=>?_|refine wh cQ fun _ _=>?_
  |exact gQ|refine dd gQ fun _ _=>?_|refine wh gQ fun _ _=>?_
  |split
theorem vm {P:Program} {t:TypeId} {m key x:AV} {S:St}:ay (j4 P t m key x S):=by
 unfold j4
 repeat' first
  |exact dF|exact gW|exact gX|exact dR _|exact gY _ _|exact gZ _ _ _|refine dC ?_|refine g0 ?_|refine g7 ?_
  |exact ao|refine db ao fun _=>?_|refine bu ao fun _=>?_
  |exact cQ|refine dd cQ fun _ _=>?_|refine wh cQ fun _ _=>?_
  |split
theorem zY {M:St} {x:AV} {X:Nat→Nat→(AV→St→Prop)→Prop} (h:∀ id i,au (X id i)):au (fun k=>jK M x fun id i=>X id i k):=by
 unfold jK
 split
 ·split
  ·exact h _ _
  ·exact au.failN
 ·exact au.failN
theorem xy {P:Program} {pl:br} {o:Oper} {vs:List AV} {M:St}:au (l_ P pl o vs M):=by
 unfold l_
 split
 ·exact zY fun _ _=>Bh
 ·exact zY fun _ _=>ay.bind2 za (fun _=>au.ret _ _)
 ·exact Bi
 ·exact vP
 ·exact Bj
 ·exact ay.bind2 vm (fun _=>au.ret _ _)
 ·exact ay.bind2 vm (fun _=>au.ret _ _)
 ·exact au.failN
theorem CG {C:Ctx} {pl:br} {o:Oper} {S:St}:ay (AN C pl o S):=by
 unfold AN
 exact ay.bind aN (fun _=>au.bind xy (fun _ _=>aV))
theorem CH {C:Ctx} {pl:br} {o:Oper} {vs:List AV} {M:St} (hC:hU C):au (nV C pl o vs M):=by
 unfold nV
 split
 ·exact xy
 ·exact F8 hC
theorem uG {C:Ctx} {pl:br} {o:Oper} {S:St} (hC:hU C):ay (q6 C pl o S):=by
 unfold q6
 exact ay.bind aN (fun _=>au.bind (CH hC) (fun _ _=>aV))
theorem iu {C:Ctx} {pl:br} {o:Oper} {S:St} (hC:hU C):ay (yF C pl o S):=by
 unfold yF
 repeat' first
  |exact dF|exact gW|exact gX|exact dR _|exact gY _ _|exact gZ _ _ _|refine dC ?_|refine g0 ?_|refine g7 ?_|exact nk|refine db nk fun _=>?_
  |refine bu nk fun _=>?_|exact nm hC|refine db (nm hC) fun _=>?_|refine bu (nm hC) fun _=>?_|exact uG hC|refine db (uG hC) fun _=>?_
  |refine bu (uG hC) fun _=>?_|exact xw|refine db xw fun _=>?_|refine bu xw fun _=>?_|exact aV|refine db aV fun _=>?_
  |refine bu aV fun _=>?_|exact qI hC|refine db (qI hC) fun _=>?_|refine bu (qI hC) fun _=>?_|split
theorem CI {C:Ctx} {pl:br} {o:Oper} {S:St} (hC:hU C):ay (AO C pl o S):=by
 unfold AO
 repeat' first
  |exact dF|exact gW|exact gX|exact dR _|exact gY _ _|exact gZ _ _ _|refine dC ?_|refine g0 ?_|refine g7 ?_|exact nk|refine db nk fun _=>?_
  |refine bu nk fun _=>?_|exact nm hC|refine db (nm hC) fun _=>?_|refine bu (nm hC) fun _=>?_|exact xx|refine db xx fun _=>?_
  |refine bu xx fun _=>?_|exact qI hC|refine db (qI hC) fun _=>?_|refine bu (qI hC) fun _=>?_|split
theorem qK {C:Ctx} {pl:br} {o:Oper} {S:St} (hC:hU C):ay (GX C pl o S):=by
 unfold GX
 split
 ·exact CG
 ·exact CI hC
theorem dj {d:Nat} {S:St}:au (gM d S):=by
 unfold gM
 repeat' first
  |exact dF|exact gW|exact gX|exact dR _|exact gY _ _|exact gZ _ _ _|refine dC ?_|refine g0 ?_|refine g7 ?_|refine ay.fork ?_ ?_|refine au.fork ?_ ?_
  |exact il|refine db il fun _=>?_|refine bu il fun _=>?_|exact kp|refine db kp fun _=>?_|refine bu kp fun _=>?_
  |split
theorem xz {C:Ctx} {pl:br} {all:Array Oper} {o:Oper} {S:St} (hC:hU C):ay (rH C pl all o S):=by
 unfold rH
 repeat' first
  |exact dF|exact gW|exact gX|exact dR _|exact gY _ _|exact gZ _ _ _|refine dC ?_|refine g0 ?_|refine g7 ?_|exact iu hC|refine db (iu hC) fun _=>?_
  |refine bu (iu hC) fun _=>?_|split
theorem Hd {C:Ctx} {pl:br} {all:Array Oper} {o:Oper} {S:St} (hC:hU C):ay (ag C pl all o S):=by
 unfold ag
 repeat' first
  |exact dF|exact gW|exact gX|exact dR _|exact gY _ _|exact gZ _ _ _|refine dC ?_|refine g0 ?_|refine g7 ?_|exact xz hC|refine db (xz hC) fun _=>?_
  |refine bu (xz hC) fun _=>?_|exact dj|refine dd dj fun _ _=>?_|refine wh dj fun _ _=>?_|exact aV|refine db aV fun _=>?_
  |refine bu aV fun _=>?_|exact iu hC|refine db (iu hC) fun _=>?_|refine bu (iu hC) fun _=>?_|refine ay.gsel ?_ ?_|split
theorem lT {C:Ctx} {pl:br} {all:Array Oper} (hC:hU C):∀ (os:List Oper) (S:St),ay (ui C pl all os S)
 | [],S=>by
  show ay (fun K=>ui C pl all [] S K)
  unfold ui
  repeat' first
   | exact ay.failN
   | exact au.failN
   | exact bW.failN
   | exact ay.ret _
   | exact au.ret _ _
   | exact bW.ret _ _ _
   | refine ay.chk ?_
   | refine au.chk ?_
   | refine bW.chk ?_
   | exact lT hC _ _
   | refine db (lT hC _ _) fun _=>?_
   | refine bu (lT hC _ _) fun _=>?_
   | exact qK hC
   | refine db (qK hC) fun _=>?_
   | refine bu (qK hC) fun _=>?_
   | exact dj
   | refine dd dj fun _ _=>?_
   | refine wh dj fun _ _=>?_
   | exact aV
   | refine db aV fun _=>?_
   | refine bu aV fun _=>?_
   | refine ay.gsel ?_ ?_
   | split
 | x::xs,S=>by
  show ay (fun K=>ui C pl all (x::xs) S K)
  unfold ui
  repeat' first
   | exact ay.failN
   | exact au.failN
   | exact bW.failN
   | exact ay.ret _
   | exact au.ret _ _
   | exact bW.ret _ _ _
   | refine ay.chk ?_
   | refine au.chk ?_
   | refine bW.chk ?_
   | exact lT hC _ _
   | refine db (lT hC _ _) fun _=>?_
   | refine bu (lT hC _ _) fun _=>?_
   | exact qK hC
   | refine db (qK hC) fun _=>?_
   | refine bu (qK hC) fun _=>?_
   | exact dj
   | refine dd dj fun _ _=>?_
   | refine wh dj fun _ _=>?_
   | exact aV
   | refine db aV fun _=>?_
   | refine bu aV fun _=>?_
   | refine ay.gsel ?_ ?_
   | split
theorem jf:∀ (xs:List (Nat×TypeId)) (P:Program) (S:St),ay (AQ P xs S)
 | [],P,S=>by
  show ay (fun K=>AQ P [] S K)
  unfold AQ
  repeat' first
   | exact ay.failN
   | exact au.failN
   | exact bW.failN
   | exact ay.ret _
   | exact au.ret _ _
   | exact bW.ret _ _ _
   | refine ay.chk ?_
   | refine au.chk ?_
   | refine bW.chk ?_
   | exact jf _ _ _
   | refine db (jf _ _ _) fun _=>?_
   | refine bu (jf _ _ _) fun _=>?_
   | exact aE
   | refine db aE fun _=>?_
   | refine bu aE fun _=>?_
   | split
 | (d,e)::xs,P,S=>by
  show ay (fun K=>AQ P ((d,e)::xs) S K)
  unfold AQ
  repeat' first
   | exact ay.failN
   | exact au.failN
   | exact bW.failN
   | exact ay.ret _
   | exact au.ret _ _
   | exact bW.ret _ _ _
   | refine ay.chk ?_
   | refine au.chk ?_
   | refine bW.chk ?_
   | exact jf _ _ _
   | refine db (jf _ _ _) fun _=>?_
   | refine bu (jf _ _ _) fun _=>?_
   | exact aE
   | refine db aE fun _=>?_
   | refine bu aE fun _=>?_
   | split
theorem xA {P:Program} {xs:List (Nat×TypeId)} {S:St}:ay (yO P xs S):=by
 unfold yO
 repeat' first
  |exact dF|exact gW|exact gX|exact dR _|exact gY _ _|exact gZ _ _ _|refine dC ?_|refine g0 ?_|refine g7 ?_|exact fR _ _|refine db (fR _ _) fun _=>?_
  |refine bu (fR _ _) fun _=>?_|exact jf _ _ _|refine db (jf _ _ _) fun _=>?_|refine bu (jf _ _ _) fun _=>?_|split
end A
end Go.Proofs.YtomahedcdcnnhaaGreatDoor
