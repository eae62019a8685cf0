/- Code, functions, fuel. Nothing is claimed here of the program. -/
import Derived.Test.YtaekcekecdocnaaK4
import Derived.TacticsIn
import Derived.OrdersIn
import Derived.LoopNIn
import Derived.RangeFuncSeq
import Derived.RangeFuncRecord
namespace Go.Proofs.Ytaekcekecdocnaa
namespace A
open Go
open Go.RowKit (Below)
def rK (E:Env) (w:World):Gh:={ w0:=w,M:=fun b=>∃ k o s n,o7 E.mu k=some (.blk b o s n),F:=E.F,mu:=fun id=>E.mu (.O id) }
def og (o:List Ob) (b:Nat):St:={ t:=[],l:=[],o:=o,b:=b }
def i4 (P:Program) (f:Nat) (args:List AV) (o:List Ob) (K:AV→List Ob→Prop):Prop :=
  j2 P f∧∀ (E:Env) (w:World) (us:Array Value),ad (rK E w) pn E (og o o.length) w→qh E→aO E args us.toList →
    Calls P f us w fun e w'=>∃ v r o' E',K r o'∧e=.returned v∧ad (rK E w) pn E' (og o' o.length) w'∧VR E' r v
theorem lD:∀ {xs ys:List Ob} {n j:Nat} {x:Ob},xs[j]?=some x→x≠.dead→ys[j]?=some .dead→n + j∈aF xs ys n
  | [],_,_,_,_,h,_,_=>by simp at h
  | _::_,[],_,_,_,_,_,h=>by simp at h
  | x0::xs,y0::ys,n,0,x,h1,h2,h3=>by
    simp at h1 h3
    subst h1 h3
    cases x0 with
    | dead=>exact absurd rfl h2
    | arr _ _ _=>simp [aF]
    | mapo _ _=>simp [aF]
    | own _ _ _ _=>simp [aF]
    | lp _ _ _ _ _ _=>simp [aF]
  | x0::xs,y0::ys,n,j + 1,x,h1,h2,h3=>by
    have ih:=lD (xs:=xs) (ys:=ys) (n:=n + 1) (j:=j) (by simpa using h1) h2 (by simpa using h3)
    rw [show n + 1 + j=n + (j + 1) by omega] at ih
    cases x0 <;> cases y0 <;> simp [aF,ih]
def mZ (ids:List Nat) (t:List AV):List AV:=ids.foldl (fun t id=>t.map (a5 4 (.O id))) t
def jz (ids:List Nat) (l:List (Nat×List AV)):List (Nat×List AV):=ids.foldl (fun l id=>l.map (dl (.O id))) l
theorem fg:∀ {ids:List Nat} {t:List AV} {l:List (Nat×List AV)} {K:List AV→List (Nat×List AV)→Prop},dq ids t l K↔K (mZ ids t) (jz ids l)
  | [],_,_,_=>Iff.rfl
  | id::ids,t,l,K=>by
    show eZ _ _ _↔_
    rw [cx,dA]
    exact fg (ids:=ids)
theorem j6 {G:Gh} {a:Act}:∀ {ids:List Nat} {E:Env} {t:List AV},TR G E t a→TR G ⟨E.F,ed ids E.mu,E.h⟩ (mZ ids t) a
  | [],_,_,h=>h
  | id::ids,E,_,h=>j6 (ids:=ids) (E:=⟨E.F,ao E.mu (.O id),E.h⟩) (h.kill dj)
theorem lE {e:Nat} {row:List AV}:∀ {ids:List Nat} {l:List (Nat×List AV)},ap l e=some row→(∀ k,row.map (a5 4 k)=row)→ap (jz ids l) e=some row
  | [],_,h,_=>h
  | id::ids,l,h,hk=>lE (ids:=ids) (l:=l.map (dl (.O id))) (by
      rw [cn,h]
      show some _=_
      rw [hk]) hk
theorem j7 {pd:Nat→Option (List AV)}:∀ {ids:List Nat} {E:Env} {l:List (Nat×List AV)},(∀ d,c_ pd E (ap l d) d)→∀ d,c_ pd ⟨E.F,ed ids E.mu,E.h⟩ (ap (jz ids l) d) d
  | [],_,_,h=>h
  | id::ids,E,l,h=>j7 (ids:=ids) (E:=⟨E.F,ao E.mu (.O id),E.h⟩) (fun e=>by
    rw [cn]
    have hmu:ao E.mu (.O id) (.L e)=E.mu (.L e):=gx (fun h=>by cases h)
    have:=h e
    revert this
    cases ap l e with
    | none=>exact fun h=>hmu.trans h
    | some row =>
      rintro (⟨b',h1,h2⟩ | ⟨h1,h2⟩)
      · refine .inl ⟨b',hmu.trans (by simpa using h1),?_⟩
        have:=h2.kill (dj (E:=E) (k:=.O id)) (h':=E.h) rfl
        simpa using this
      · exact c_.pend_kill hmu h1 h2)
theorem ib:∀ {ids:List Nat} {mu:Key→Option MV} {d:Nat},ed ids mu (.L d)=mu (.L d)
  | [],_,_=>rfl
  | id::ids,mu,d=>by
    show ed ids (ao mu (.O id)) (.L d)=_
    rw [ib]
    exact gx (fun h=>by cases h)
theorem w4 (E:Env):E.ob.ob=E.ob:=by
  have:o7 (o7 E.mu)=o7 E.mu:=by
    funext k
    cases k <;> rfl
  unfold Env.ob
  rw [this]
theorem dm {E:Env} {k:Key} {x:MV} (h:E.ob.mu k=some x):E.mu k=some x:=b7 (k:=k) h
theorem b9.ob {E:Env} {x:Option Ob} {mv:Option MV} (h:b9 E x mv):b9 E.ob x mv:=by
  revert h
  cases x with
  | none=>cases mv <;> exact fun h=>h
  | some ob =>
    cases ob with
    | dead=>cases mv <;> exact fun h=>h
    | arr fl sz' rows =>
      cases mv with
      | none=>exact fun h=>h
      | some mv =>
        cases mv with
        | virt=>exact fun h=>h
        | blk b o s n =>
          cases fl with
          | true=>exact fun h=>h
          | false =>
            rintro ⟨h1,h2⟩
            refine ⟨h1,?_⟩
            show aX E.ob.ob _ _ _ _ _
            rw [w4]
            exact h2
    | lp pl ps t asg body st =>
      cases mv with
      | none=>exact fun h=>h
      | some mv =>
        cases mv with
        | virt=>exact fun h=>h
        | blk b o s n =>
          rintro ⟨r,h1,h2⟩
          refine ⟨r,h1,?_⟩
          show wV E.ob.ob _ _ _ _ _ _
          rw [w4]
          exact h2
    | own _ _ _ _ =>
      cases mv with
      | none=>exact fun h=>h.elim
      | some mv=>cases mv <;> exact fun h=>h
    | mapo fl es =>
      cases mv with
      | none=>exact fun h=>h
      | some mv =>
        cases mv with
        | virt=>exact fun h=>h
        | blk b o s n =>
          rintro ⟨ms,clock,h1,h2,h3⟩
          refine ⟨ms,clock,h1,h2,fun i e m h4 h5=>?_⟩
          obtain ⟨h6,h7⟩:=h3 i e m h4 h5
          refine ⟨h6,?_⟩
          cases fl with
          | true=>exact h7
          | false =>
            show VR E.ob.ob _ _
            rw [w4]
            exact h7
theorem bi.ob {E:Env} {id:Nat} {x:Option Ob} (h:bi E id x):bi E.ob id x:=h.mono rfl (fun _=>rfl) (LE.refl _) (by rw [w4]; exact LE.refl _) (fun _ _ _ _ _ _ _=>rfl)
section
variable {G:Gh} {pd:Nat→Option (List AV)} {E:Env} {S:St} {w:World} {P:Program} {o:Oper} {a:Act}
theorem ad.sub (hM:ad G pd E S w):ad (rK E.ob w) pn E.ob (og S.o S.o.length) w :=
  ⟨hM.hp,rfl,rfl,rfl,Nat.le_refl _,fun _ _ _=>rfl,fun _ h=>h,hM.Flt,fun _ h _=>.inl h,
    fun k b o s n h=>by
      cases k with
      | L d=>cases h
      | O id =>
        obtain ⟨h1,h2,_⟩:=hM.own _ b o s n (dm h)
        exact ⟨h1,h2,.inl ⟨.O id,o,s,n,h⟩⟩
      | S id i =>
        obtain ⟨h1,h2,_⟩:=hM.own _ b o s n (dm h)
        exact ⟨h1,h2,.inl ⟨.S id i,o,s,n,h⟩⟩,
    fun k k' b o s n o' s' n' h h'=>hM.inj k k' b o s n o' s' n' (dm h) (dm h'),fun _=>rfl,fun id=>(hM.obj id).ob,fun _ _=>.inr rfl,Nat.le_refl _,fun _ _=>rfl,fun _ _ h=>(by cases h),fun id=>(hM.ow id).ob⟩
def j8 (mu mu':Key→Option MV):Key→Option MV
  | .L d=>mu (.L d)
  | .O id=>mu' (.O id)
  | .S id i=>mu' (.S id i)
theorem ad.back (hM:ad G pd E S w) (ht:TR G E S.t a) {E':Env} {o':List Ob} {w':World} (hM':ad (rK E.ob w) pn E' (og o' S.o.length) w') :
    ad G pd ⟨E'.F,j8 E.mu E'.mu,E'.h⟩ { t:=mZ (aF S.o o' 0) S.t,l:=jz (aF S.o o' 0) S.l,o:=o',b:=S.b } w'∧TR G ⟨E'.F,j8 E.mu E'.mu,E'.h⟩ (mZ (aF S.o o' 0) S.t) a∧LE E' ⟨E'.F,j8 E.mu E'.mu,E'.h⟩:=by
  have hL':∀ d,E'.mu (.L d)=none:=fun d=>hM'.loc d
  have hsz:w.heap.size≤w'.heap.size:=hM'.size
  have notM:∀ b,E.F b→¬ (rK E.ob w).M b:=by
    rintro b hF ⟨k,x,s,n,h⟩
    exact (hM.own _ _ _ _ _ (dm (b7 h))).1 hF
  have MG:∀ b,(rK E.ob w).M b→G.M b∨G.w0.heap.size≤b:=by
    rintro b ⟨k,x,s,n,h⟩
    exact (hM.own _ _ _ _ _ (dm (b7 h))).2.2
  have Mlt:∀ b,(rK E.ob w).M b→b<w.heap.size:=by
    rintro b ⟨k,x,s,n,h⟩
    exact (hM.own _ _ _ _ _ (dm (b7 h))).2.1
  have LnotM:∀ d b x s n,E.mu (.L d)=some (.blk b x s n)→¬ (rK E.ob w).M b:=by
    rintro d b x s n h ⟨k,x',s',n',h'⟩
    have:=hM.inj _ _ _ _ _ _ _ _ _ h (dm (b7 h'))
    subst this
    cases h'
  have hle:LE ⟨E.F,ed (aF S.o o' 0) E.mu,E.h⟩ ⟨E'.F,j8 E.mu E'.mu,E'.h⟩:=by
    have kept:∀ id x,ed (aF S.o o' 0) E.mu (.O id)=some x→E.mu (.O id)=some x∧E'.mu (.O id)=some x:=by
      intro id x h
      obtain ⟨h1,h2⟩:=dD h
      refine ⟨h1,?_⟩
      have hob:=hM.obj id
      rw [h1] at hob
      have hid:id<S.o.length:=by
        rcases Nat.lt_or_ge id S.o.length with h3 | h3
        · exact h3
        · rw [List.getElem?_eq_none h3] at hob
          exact hob.elim
      rcases hM'.old id hid with h3 | h3
      · exfalso
        have hx:=List.getElem?_eq_getElem hid
        rw [hx] at hob
        have hnd:S.o[id]≠.dead:=fun hd=>by rw [hd] at hob; exact hob.elim
        have:=lD (n:=0) hx hnd h3
        rw [Nat.zero_add] at this
        exact h2 _ this rfl
      · rw [h3]; exact h1
    refine ⟨fun b h=>hM'.F0 b h,fun k x hs h=>?_,fun b h=>?_,fun k b x s n hs h=>?_⟩
    · cases k with
      | S _ _=>cases hs
      | L d =>
        show E.mu (.L d)=_
        exact (ib (ids:=aF S.o o' 0)).symm.trans h
      | O id=>exact (kept id x h).2
    · show E'.h[b]?=E.h[b]?
      rw [hM'.hp,hM.hp]
      exact hM'.keep b (hM.Flt b h) (notM b h)
    · show au E'.h b=au E.h b
      rw [hM'.hp,hM.hp]
      have:b<w.heap.size:=(hM.own _ _ _ _ _ (dD h).1).2.1
      exact hM'.szs b this
  refine ⟨⟨hM'.hp,hM'.os.trans hM.os,hM'.tape.trans hM.tape,hM'.output.trans hM.output,Nat.le_trans hM.size hsz,fun b h1 h2=>?_,fun b h=>hM'.F0 b (hM.F0 b h),hM'.Flt,fun b h1 h2=>?_,fun k b x s n h=>?_,fun k k' b x s n x' s' n' h h'=>?_,
    fun d=>?_,fun id=>?_,fun id hid=>?_,?_,fun b hb=>?_,fun e row h=>?_,fun id=>(hM'.ow id).mono rfl (fun _=>rfl) (LE.refl _) ⟨fun _ h=>h,fun k x hs h=>(by
      cases k with
      | L d=>cases h
      | O i=>exact h
      | S i j=>cases hs),fun _ _=>rfl,fun _ _ _ _ _ _ _=>rfl⟩ (fun _ _ _ _ _ _ _=>rfl)⟩,(j6 ht).mono hle,⟨fun _ h=>h,fun k x hs h=>?_,fun _ _=>rfl,fun _ _ _ _ _ _ _=>rfl⟩⟩
  · rw [hM'.keep b (Nat.lt_of_lt_of_le h1 hM.size) (fun h=>by
      rcases MG b h with h3 | h3
      · exact h2 h3
      · omega)]
    exact hM.keep b h1 h2
  · rcases hM'.Fnew b h1 (Nat.lt_of_lt_of_le h2 hM.size) with h3 | h3
    · exact hM.Fnew b h3 h2
    · rcases MG b h3 with h4 | h4
      · exact .inr h4
      · omega
  · cases k with
    | L d =>
      obtain ⟨h1,h2,h3⟩:=hM.own _ b x s n h
      refine ⟨fun hF=>?_,Nat.lt_of_lt_of_le h2 hsz,h3⟩
      rcases hM'.Fnew b hF h2 with h4 | h4
      · exact h1 h4
      · exact LnotM d b x s n h h4
    | O id =>
      obtain ⟨h1,h2,h3⟩:=hM'.own _ b x s n h
      refine ⟨h1,h2,?_⟩
      rcases h3 with h3 | h3
      · exact MG b h3
      · exact .inr (Nat.le_trans hM.size h3)
    | S id i =>
      obtain ⟨h1,h2,h3⟩:=hM'.own _ b x s n h
      refine ⟨h1,h2,?_⟩
      rcases h3 with h3 | h3
      · exact MG b h3
      · exact .inr (Nat.le_trans hM.size h3)
  · have mix:∀ {d:Nat} {key:Key} {b x s n x' s' n':Nat},E.mu (.L d)=some (.blk b x s n)→E'.mu key=some (.blk b x' s' n')→False:=by
      intro d key b x s n x' s' n' h h'
      rcases (hM'.own _ _ _ _ _ h').2.2 with h3 | h3
      · exact LnotM d b x s n h h3
      · have h2:=(hM.own _ _ _ _ _ h).2.1
        have h3:w.heap.size≤b:=h3
        omega
    cases k with
    | L d =>
      cases k' with
      | L d'=>exact hM.inj _ _ _ _ _ _ _ _ _ h h'
      | O id=>exact (mix h h').elim
      | S id i=>exact (mix h h').elim
    | O id =>
      cases k' with
      | L d'=>exact (mix h' h).elim
      | O id'=>exact hM'.inj _ _ _ _ _ _ _ _ _ h h'
      | S id' i=>exact hM'.inj _ _ _ _ _ _ _ _ _ h h'
    | S id i =>
      cases k' with
      | L d'=>exact (mix h' h).elim
      | O id'=>exact hM'.inj _ _ _ _ _ _ _ _ _ h h'
      | S id' i=>exact hM'.inj _ _ _ _ _ _ _ _ _ h h'
  · have:=j7 (ids:=aF S.o o' 0) hM.loc d
    revert this
    show c_ _ _ (ap (jz (aF S.o o' 0) S.l) d) d→c_ _ _ (ap (jz (aF S.o o' 0) S.l) d) d
    cases ap (jz (aF S.o o' 0) S.l) d with
    | none =>
      intro h
      show E.mu (.L d)=none
      exact (ib (ids:=aF S.o o' 0)).symm.trans h
    | some row =>
      rintro (⟨b,h1,h2,h3,us,ty,h4,h5,h6⟩ | ⟨h0,h⟩)
      · have h1':E.mu (.L d)=some (.blk b 0 row.length 1):=ib.symm.trans h1
        refine .inl ⟨b,h1',h2,h3,us,ty,?_,h5,fun m c hc=>?_⟩
        · show E'.h[b]?=_
          rw [hM'.hp,hM'.keep b (hM.own _ _ _ _ _ h1').2.1 (LnotM d b _ _ _ h1')]
          have:E.h[b]?=_:=h4
          rw [hM.hp] at this
          exact this
        · obtain ⟨u,hu,hv⟩:=h6 m c hc
          exact ⟨u,hu,hv.mono hle⟩
      · exact .inr ⟨show E.mu (.L d)=none from (ib (ids:=aF S.o o' 0)).symm.trans h0,h⟩
  · have:=hM'.obj id
    refine this.mono2 (E':=⟨E'.F,j8 E.mu E'.mu,E'.h⟩) ⟨fun _ h=>h,fun _ _ _ h=>(by cases h),fun _ _=>rfl,fun _ _ _ _ _ _ h=>(by cases h)⟩ ⟨fun _ h=>h,fun k x hs h=>?_,fun _ _=>rfl,fun _ _ _ _ _ _ _=>rfl⟩ (fun _ _ _ _ _=>rfl)
    cases k with
    | S _ _=>cases hs
    | L d=>cases h
    | O i=>exact h
  · have hid':id<S.o.length:=Nat.lt_of_lt_of_le hid hM.bl
    rcases hM'.old id hid' with h | h
    · exact .inl h
    · rcases hM.old id hid with h2 | h2
      · refine .inl ?_
        have hob:=hM.obj id
        rw [h2] at hob
        have hn:E.mu (.O id)=none:=by
          revert hob
          cases E.mu (.O id) with
          | none=>exact fun _=>rfl
          | some _=>exact fun h=>h.elim
        have hob':=hM'.obj id
        rw [h] at hob'
        have hn':(rK E.ob w).mu id=none:=hn
        rw [hn'] at hob'
        show o'[id]?=some .dead
        have hlt:id<o'.length:=Nat.lt_of_lt_of_le hid' hM'.bl
        have hx:(og o' S.o.length).o[id]?=some o'[id]:=List.getElem?_eq_getElem hlt
        rw [hx] at hob'
        rw [List.getElem?_eq_getElem hlt]
        revert hob'
        cases o'[id] with
        | dead=>exact fun _=>rfl
        | arr _ _ _=>exact fun h=>h.elim
        | mapo _ _=>exact fun h=>h.elim
        | own _ _ _ _=>exact fun h=>h.elim
        | lp _ _ _ _ _ _=>exact fun h=>h.elim
      · refine .inr ?_
        show E'.mu (.O id)=G.mu id
        rw [h,← h2]
        rfl
  · exact Nat.le_trans hM.bl hM'.bl
  · rw [← hM.szs b hb]
    exact hM'.szs b (Nat.lt_of_lt_of_le hb hM.size)
  · obtain ⟨h1,h2⟩:=hM.pk e row h
    exact ⟨h1,lE h2 (hM.pend_inv h)⟩
  · cases k with
    | S _ _=>cases hs
    | L d=>rw [hL' d] at h; cases h
    | O id=>exact h
theorem lF {K:St→Prop} {c:Call} {x:Operand} {fid:Nat} {first cap as:List AV} (hM:ad G pd E S w) (ht:TR G E S.t a) (ho:o.op=.call c) (hcal:c.callee=.value x)
    (hx:VR E (.fn fid first cap) (a.eval x)) (has:aO E as (c.args.toList.map a.eval)) (hnl:(first++as++cap).all (jU 4)=true)
    (h:i4 P fid (first++as++cap) S.o fun r o'=>dq (aF S.o o' 0) S.t S.l fun t l=>aA o.dst r { t:=t,l:=l,o:=o',b:=S.b } K):bv P G pd o a w K:=by
  obtain ⟨us,ws,hfv,h1,h2⟩:∃ us ws,a.eval x=.func (.func fid) us ws∧aO E first us.toList∧aO E cap ws.toList:=by
    generalize a.eval x=u at hx
    cases hx with
    | fn us ws h1 h2 h3 h4=>exact ⟨us,ws,rfl,⟨by simpa using h1,fun m c u hc hu=>h2 m c u hc (by simpa using hu)⟩,⟨by simpa using h3,fun m c u hc hu=>h4 m c u hc (by simpa using hu)⟩⟩
  have hall:=(h1.append has).append h2
  intro next Q hn
  unfold Oper.wp
  rw [pm ho hcal hfv h.1 w,Oper.upon_enter]
  refine (h.2 E.ob w _ hM.sub ht.gt (by
    refine ⟨by simpa using hall.1,fun m c u hc hu=>?_⟩
    exact dv 4 (List.all_eq_true.1 hnl c (List.mem_of_getElem? hc)) (hall.2 m c u hc (by simpa using hu)))).mono ?_
  rintro e w' ⟨v,r,o',E',hK,rfl,hM',hv⟩
  rw [fg,al] at hK
  obtain ⟨hS,htr,hle⟩:=hM.back ht hM'
  exact hn _ _ _ w' hK (hS.congr aV aW a2) (htr.put (hv.mono hle))
end
section
variable {G:Gh} {p:Nat→Option (List AV)} {E:Env} {S M:St} {w:World} {P:Program} {a:Act}
theorem ad.reS (hM:ad G p E M w) {id:Nat} {mu':Key→Option MV} (hsame:∀ k,(∀ j,k≠.S id j)→mu' k=E.mu k)
    (hown:∀ j b o s n,mu' (.S id j)=some (.blk b o s n)→¬ E.F b∧b<w.heap.size∧(G.M b∨G.w0.heap.size≤b)∧∀ k o' s' n',(∀ i,k≠.S id i)→E.mu k≠some (.blk b o' s' n'))
    (hinj:∀ j j' b o s n o' s' n',mu' (.S id j)=some (.blk b o s n)→mu' (.S id j')=some (.blk b o' s' n')→j=j')
    {x y:Ob} (hx:M.o[id]?=some x) (hnx:x≠.dead) (hO:b9 ⟨E.F,mu',E.h⟩ (some y) (E.mu (.O id))) (hW:bi ⟨E.F,mu',E.h⟩ id (some y)) :
    LE E ⟨E.F,mu',E.h⟩∧ad G p ⟨E.F,mu',E.h⟩ { t:=M.t,l:=M.l,o:=M.o.set id y,b:=M.b } w:=by
  have hlt:id<M.o.length:=(List.getElem?_eq_some_iff.1 hx).1
  have hns:∀ k:Key,k.isS=false→mu' k=E.mu k:=fun k hk=>hsame k (fun j e=>by subst e; cases hk)
  have hle:LE E ⟨E.F,mu',E.h⟩:=⟨fun _ h=>h,fun k z hs h=>(hns k hs).trans h,fun _ _=>rfl,fun _ _ _ _ _ _ _=>rfl⟩
  have isit:∀ k:Key,(∃ j,k=.S id j)∨∀ j,k≠.S id j:=fun k=>by
    cases k with
    | L d=>exact .inr (fun j e=>by cases e)
    | O i=>exact .inr (fun j e=>by cases e)
    | S c j =>
      by_cases h:c=id
      · subst h
        exact .inl ⟨j,rfl⟩
      · exact .inr (fun j' e=>h (by cases e; rfl))
  refine ⟨hle,hM.hp,hM.os,hM.tape,hM.output,hM.size,hM.keep,hM.F0,hM.Flt,hM.Fnew,fun k b o s n h=>?_,fun k k' b o s n o' s' n' h h'=>?_,fun d=>?_,fun i=>?_,fun i hi=>?_,by simpa using hM.bl,hM.szs,fun d row h=>?_,fun i=>?_⟩
  · rcases isit k with ⟨j,rfl⟩ | hk
    · obtain ⟨h1,h2,h3,_⟩:=hown j b o s n h
      exact ⟨h1,h2,h3⟩
    · exact hM.own k b o s n ((hsame k hk).symm.trans h)
  · rcases isit k with ⟨j,rfl⟩ | hk
    · rcases isit k' with ⟨j',rfl⟩ | hk'
      · rw [hinj j j' _ _ _ _ _ _ _ h h']
      · exact absurd ((hsame k' hk').symm.trans h') ((hown j _ _ _ _ h).2.2.2 k' _ _ _ hk')
    · rcases isit k' with ⟨j',rfl⟩ | hk'
      · exact absurd ((hsame k hk).symm.trans h) ((hown j' _ _ _ _ h').2.2.2 k _ _ _ hk)
      · exact hM.inj _ _ _ _ _ _ _ _ _ ((hsame k hk).symm.trans h) ((hsame k' hk').symm.trans h')
  · have:=hM.loc d
    revert this
    show c_ p E (ap M.l d) d→c_ p _ (ap M.l d) d
    cases ap M.l d with
    | none=>exact fun h=>(hns (.L d) rfl).trans h
    | some row =>
      rintro (⟨b',h1,h2⟩ | ⟨h1,h2⟩)
      · exact .inl ⟨b',(hns (.L d) rfl).trans h1,h2.mono hle⟩
      · exact .inr ⟨(hns (.L d) rfl).trans h1,h2⟩
  · show b9 _ (M.o.set id y)[i]? (mu' (.O i))
    rw [hns (.O i) rfl]
    by_cases h:id=i
    · subst h
      rw [List.getElem?_set_self hlt]
      exact hO
    · rw [List.getElem?_set,if_neg h]
      exact (hM.obj i).mono hle (fun _ _ _ _ _=>rfl)
  · show (M.o.set id y)[i]?=some .dead∨mu' (.O i)=G.mu i
    rw [hns (.O i) rfl]
    by_cases h:id=i
    · subst h
      rcases hM.old id hi with h1 | h1
      · rw [hx] at h1
        cases h1
        exact absurd rfl hnx
      · exact .inr h1
    · rw [List.getElem?_set,if_neg h]
      exact hM.old i hi
  · obtain ⟨h1,h2⟩:=hM.pk d row h
    exact ⟨(hns (.L d) rfl).trans h1,h2⟩
  · show bi _ i (M.o.set id y)[i]?
    by_cases h:id=i
    · subst h
      rw [List.getElem?_set_self hlt]
      exact hW
    · rw [List.getElem?_set,if_neg h]
      exact (hM.ow i).mono (hns (.O i) rfl) (fun j=>hsame (.S i j) (fun j' e=>h (by cases e; rfl))) hle.fz hle.ob (fun _ _ _ _ _ _ _=>rfl)
theorem ad.ownS (hM:ad G p E M w) {id j b o s n:Nat} (h:E.mu (.S id j)=some (.blk b o s n)) :
    ¬ E.F b∧b<w.heap.size∧(G.M b∨G.w0.heap.size≤b)∧∀ k o' s' n',k≠.S id j→E.mu k≠some (.blk b o' s' n'):=by
  obtain ⟨h1,h2,h3⟩:=hM.own _ _ _ _ _ h
  exact ⟨h1,h2,h3,fun k o' s' n' hk h'=>hk (hM.inj _ _ _ _ _ _ _ _ _ h' h)⟩
theorem oE (hM:ad G p E S w) {id i sz:Nat} {ks:Option (List AV)} {cells:List (Option (List (List AV)))} {rows:List (List AV)} (hob:S.o[id]?=some (.own ks sz cells none)) (hc:cells[i]?=some (some rows))
    {b o s n:Nat} (hmu:E.mu (.O id)=some (.blk b o s n)) :
    ∃ E' u,ad G p E' { t:=S.t,l:=S.l,o:=S.o.set id (.own ks sz cells (some (i,vB sz S.o.length)))++[.arr true (mB sz) rows],b:=S.b } w∧LE E E'∧VR E' (.mf S.o.length) u∧cG w.heap b o i=some u:=by
  have hlt:id<S.o.length:=(List.getElem?_eq_some_iff.1 hob).1
  have hw:=hM.ow id
  rw [hob] at hw
  obtain ⟨hz,hbey,hcells⟩:=hw
  obtain ⟨hbase,hall⟩:=hcells b o s n hmu
  obtain ⟨u,hu,hcell⟩:=hall i _ hc
  have hcell:aN E sz (some rows) (E.mu (.S id i)) u:=hcell
  have hOb:=hM.obj id
  rw [hob,hmu] at hOb
  have hOb:ks=none→s=1∧n=cells.length:=hOb
  obtain ⟨mu1,hmu1⟩:∃ mu1:Key→Option MV,mu1=fun k=>if k=.S id i then none else E.mu k:=⟨_,rfl⟩
  have hm1i:mu1 (.S id i)=none:=by rw [hmu1]; simp
  have hm1:∀ k,k≠.S id i→mu1 k=E.mu k:=fun k hk=>by rw [hmu1]; show (if k=.S id i then none else E.mu k)=_; rw [if_neg hk]
  have hfz:LE E.fz (Env.fz ⟨E.F,mu1,E.h⟩):=LE.refl _
  have hW1:bi ⟨E.F,mu1,E.h⟩ id (some (.own ks sz cells (some (i,.bad)))):=by
    refine ⟨hz,fun j hj=>?_,fun b' o' s' n' hm=>?_⟩
    · show mu1 (.S id j)=none
      by_cases h:Key.S id j=.S id i
      · rw [h]; exact hm1i
      · rw [hm1 _ h]; exact hbey j hj
    · have hm:E.mu (.O id)=some (.blk b' o' s' n'):=(hm1 _ (fun e=>by cases e)).symm.trans hm
      obtain ⟨h4,h6⟩:=hcells b' o' s' n' hm
      refine ⟨h4,fun j c hj=>?_⟩
      obtain ⟨u',hu',h7⟩:=h6 j c hj
      refine ⟨u',hu',?_⟩
      show if i=j then mu1 (.S id j)=none∧VR _ .bad u' else aN _ sz c (mu1 (.S id j)) u'
      by_cases hij:i=j
      · subst hij
        rw [if_pos rfl]
        exact ⟨hm1i,.bad _ _⟩
      · rw [if_neg hij,hm1 _ (fun e=>hij (by cases e; rfl))]
        exact aN.mono h7 hfz (fun _ _ _ _ _=>rfl)
  obtain ⟨hle1,hS1⟩:=hM.reS (mu':=mu1) (fun k hk=>hm1 k (hk i)) (fun j b' o' s' n' h=>by
      by_cases hj:Key.S id j=.S id i
      · rw [hj,hm1i] at h; cases h
      · rw [hm1 _ hj] at h
        obtain ⟨h1,h2,h3,h4⟩:=hM.ownS h
        exact ⟨h1,h2,h3,fun k o2 s2 n2 hk=>h4 k o2 s2 n2 (hk j)⟩)
    (fun j j' b' o' s' n' o2 s2 n2 h h'=>by
      by_cases hj:Key.S id j=.S id i
      · rw [hj,hm1i] at h; cases h
      · by_cases hj':Key.S id j'=.S id i
        · rw [hj',hm1i] at h'; cases h'
        · rw [hm1 _ hj] at h
          rw [hm1 _ hj'] at h'
          have:=hM.inj _ _ _ _ _ _ _ _ _ h h'
          cases this
          rfl) hob (fun e=>by cases e) (y:=.own ks sz cells (some (i,.bad))) (by rw [hmu]; exact hOb) hW1
  have hlen:(S.o.set id (.own ks sz cells (some (i,.bad)))).length=S.o.length:=by simp
  obtain ⟨mvi,hmvi⟩:∃ mvi,E.mu (.S id i)=some mvi:=by
    cases h:E.mu (.S id i) with
    | none=>rw [h] at hcell; exact hcell.elim
    | some mv=>exact ⟨mv,rfl⟩
  rw [hmvi] at hcell
  have hnew1:mu1 (.O S.o.length)=none:=(hm1 _ (fun e=>by cases e)).trans (rB hM)
  have hS2:=hS1.addkey (key:=.O S.o.length) (mv:=mvi) (fun d e=>by cases e) hnew1 (fun b' o' s' n' e=>by
      subst e
      obtain ⟨h1,h2,h3,h4⟩:=hM.ownS hmvi
      refine ⟨h1,h2,h3,fun k o2 s2 n2 h=>?_⟩
      by_cases hk:k=.S id i
      · subst hk
        rw [show (Env.mu ⟨E.F,mu1,E.h⟩ (.S id i))=none from hm1i] at h
        cases h
      · exact h4 k o2 s2 n2 hk ((hm1 k hk).symm.trans h))
    (M':={ t:=S.t,l:=S.l,o:=S.o.set id (.own ks sz cells (some (i,.bad)))++[.arr true (mB sz) rows],b:=S.b }) (fun _ _=>rfl)
    (fun j hj=>by
      show (S.o.set id _++[_])[j]?=(S.o.set id _)[j]?
      rcases Nat.lt_trichotomy j S.o.length with h | h | h
      · rw [List.getElem?_append_left (by rw [hlen]; exact h)]
      · exact absurd (by rw [h]) hj
      · rw [List.getElem?_eq_none (by rw [List.length_append,hlen]; simp; omega),List.getElem?_eq_none (by rw [hlen]; omega)])
    rfl (by have:=hM.bl; show S.b≤(S.o.set id _++[_]).length; rw [List.length_append,hlen]; simp; omega) (fun j e=>by cases e; exact hM.bl) (fun d e=>by cases e)
    (fun j e=>by
      cases e
      show b9 _ (S.o.set id _++[_])[S.o.length]? _
      rw [List.getElem?_append_right (by rw [hlen]; exact Nat.le_refl _),hlen,Nat.sub_self]
      cases mvi with
      | virt=>exact hcell.1
      | blk b1 o1 s1 n1=>exact ⟨hcell.1,hcell.2.1⟩)
    (fun j e=>by
      rcases e with e | ⟨i',e⟩ <;> cases e
      rw [List.getElem?_append_right (by rw [hlen]; exact Nat.le_refl _),hlen,Nat.sub_self]
      exact hS1.ow_new rfl (by rw [List.getElem?_eq_none (by show (S.o.set id _).length≤_; rw [hlen]; exact Nat.le_refl _)]; rfl) rfl)
  have hle2:LE ⟨E.F,mu1,E.h⟩ ⟨E.F,ai mu1 (.O S.o.length) mvi,E.h⟩:=dQ (E:=⟨E.F,mu1,E.h⟩) hnew1
  have hm2:ai mu1 (.O S.o.length) mvi (.O S.o.length)=some mvi:=by unfold ai; rw [if_pos rfl]
  have hm2i:ai mu1 (.O S.o.length) mvi (.S id i)=none:=by unfold ai; rw [if_neg (fun e=>by cases e)]; exact hm1i
  have hv:∀ E':Env,E'.mu (.O S.o.length)=some mvi→E'.h=E.h→VR E' (.mf S.o.length) u∧VR E' (vB sz S.o.length) u:=by
    intro E' hE hE2
    unfold vB
    cases mvi with
    | virt =>
      obtain ⟨_,c,rfl,hnn⟩:=hcell
      cases c with
      | none =>
        cases hz0:q6 sz with
        | true=>exact absurd (hnn hz0) (by simp)
        | false=>exact ⟨.mfn hE,.mfn hE⟩
      | some c =>
        cases q6 sz with
        | true=>exact ⟨.mfe c hE,.mfxe c hE⟩
        | false=>exact ⟨.mfe c hE,.mfe c hE⟩
    | blk b1 o1 s1 n1 =>
      obtain ⟨_,_,cap,h6,h7,rfl⟩:=hcell
      have h8:o1 + cap * s1≤au E'.h b1:=by rw [hE2]; exact h7
      cases q6 sz with
      | true=>exact ⟨.mf cap hE h6 h8,.mfx cap hE h6 h8⟩
      | false=>exact ⟨.mf cap hE h6 h8,.mf cap hE h6 h8⟩
  have hv1:∀ E':Env,E'.mu (.O S.o.length)=some mvi→E'.h=E.h→VR E' (.mf S.o.length) u:=fun E' h1 h2=>(hv E' h1 h2).1
  have hv2:∀ E':Env,E'.mu (.O S.o.length)=some mvi→E'.h=E.h→VR E' (vB sz S.o.length) u:=fun E' h1 h2=>(hv E' h1 h2).2
  have hW3:bi ⟨E.F,ai mu1 (.O S.o.length) mvi,E.h⟩ id (some (.own ks sz cells (some (i,vB sz S.o.length)))):=by
    have hS2w:=hS2.ow id
    have hget:(S.o.set id (.own ks sz cells (some (i,.bad)))++[.arr true (mB sz) rows])[id]?=some (.own ks sz cells (some (i,.bad))):=by
      rw [List.getElem?_append_left (by rw [hlen]; exact hlt),List.getElem?_set_self hlt]
    rw [hget] at hS2w
    obtain ⟨q1,q2,q3⟩:=hS2w
    refine ⟨q1,q2,fun b' o' s' n' hm=>?_⟩
    have hm0:E.mu (.O id)=some (.blk b' o' s' n'):=by
      have h:ai mu1 (.O S.o.length) mvi (.O id)=some (.blk b' o' s' n'):=hm
      unfold ai at h
      rw [if_neg (fun e=>by cases e; omega),hm1 _ (fun e=>by cases e)] at h
      exact h
    obtain ⟨h4,h6⟩:=q3 b' o' s' n' hm
    refine ⟨h4,fun j c hj=>?_⟩
    obtain ⟨u',hu',h7⟩:=h6 j c hj
    refine ⟨u',hu',?_⟩
    have h7:(if i=j then ai mu1 (.O S.o.length) mvi (.S id j)=none∧VR _ .bad u' else aN _ sz c (ai mu1 (.O S.o.length) mvi (.S id j)) u'):=h7
    show (if i=j then ai mu1 (.O S.o.length) mvi (.S id j)=none∧VR _ (vB sz S.o.length) u' else aN _ sz c (ai mu1 (.O S.o.length) mvi (.S id j)) u')
    by_cases hij:i=j
    · subst hij
      rw [if_pos rfl]
      refine ⟨hm2i,?_⟩
      rw [hmu] at hm0
      cases hm0
      have hu':cG E.h b o i=some u':=hu'
      rw [hu] at hu'
      cases hu'
      exact hv2 _ hm2 rfl
    · rw [if_neg hij] at h7 ⊢
      exact h7
  obtain ⟨hle3,hS3⟩:=hS2.reS (id:=id) (mu':=ai mu1 (.O S.o.length) mvi) (fun _ _=>rfl) (fun j b' o' s' n' h=>by
      obtain ⟨h1,h2,h3,h4⟩:=hS2.ownS (id:=id) (j:=j) h
      exact ⟨h1,h2,h3,fun k o2 s2 n2 hk=>h4 k o2 s2 n2 (hk j)⟩)
    (fun j j' b' o' s' n' o2 s2 n2 h h'=>by
      have:=hS2.inj (.S id j) (.S id j') _ _ _ _ _ _ _ h h'
      cases this
      rfl)
    (x:=.own ks sz cells (some (i,.bad))) (y:=.own ks sz cells (some (i,vB sz S.o.length))) (by
      show (S.o.set id _++[_])[id]?=_
      rw [List.getElem?_append_left (by rw [hlen]; exact hlt),List.getElem?_set_self hlt]) (fun e=>by cases e) (by
      have h:ai mu1 (.O S.o.length) mvi (.O id)=some (.blk b o s n):=by
        unfold ai
        rw [if_neg (fun e=>by cases e; omega),hm1 _ (fun e=>by cases e)]
        exact hmu
      show b9 _ _ (ai mu1 (.O S.o.length) mvi (.O id))
      rw [h]
      exact hOb) hW3
  refine ⟨_,u,?_,(hle1.trans hle2).trans hle3,hv1 _ hm2 rfl,?_⟩
  · have e:(S.o.set id (Ob.own ks sz cells (some (i,.bad)))++[Ob.arr true (mB sz) rows]).set id (Ob.own ks sz cells (some (i,vB sz S.o.length)))=S.o.set id (Ob.own ks sz cells (some (i,vB sz S.o.length)))++[Ob.arr true (mB sz) rows]:=by
      rw [List.set_append_left _ _ (by rw [hlen]; exact hlt),List.set_set]
    have hS3:ad G p _ { t:=S.t,l:=S.l,o:=(S.o.set id (Ob.own ks sz cells (some (i,.bad)))++[Ob.arr true (mB sz) rows]).set id (Ob.own ks sz cells (some (i,vB sz S.o.length))),b:=S.b } w:=hS3
    rw [e] at hS3
    exact hS3
  · rw [← hM.hp]
    exact hu
theorem i5 (hM:ad G p E S w) (ht:TR G E S.t a) {id j k sz:Nat} {ks:Option (List AV)} {cells:List (Option (List (List AV)))} {rows:List (List AV)} {ha:AV} (hha:ha=.mf k∧q6 sz=false∨ha=.mfx k) (hob:S.o[id]?=some (.own ks sz cells (some (j,ha)))) (hk:S.o[k]?=some (.arr true (mB sz) rows)) (hj:j<cells.length) :
    ∃ E',ad G p E' { t:=(bG k S).t,l:=(bG k S).l,o:=(bG k S).o.set id (.own ks sz (cells.set j (some rows)) none),b:=S.b } w∧TR G E' (bG k S).t a∧E'.mu (.O id)=E.mu (.O id):=by
  have hklt:k<S.o.length:=(List.getElem?_eq_some_iff.1 hk).1
  have hne:k≠id:=fun e=>by subst e; rw [hob] at hk; cases hk
  have hw:=hM.ow id
  rw [hob] at hw
  obtain ⟨hz,hbey,hcells⟩:=hw
  have hOb:=hM.obj id
  rw [hob] at hOb
  have hOk:=hM.obj k
  rw [hk] at hOk
  obtain ⟨mvk,hmk⟩:∃ mvk,E.mu (.O k)=some mvk:=by
    cases h:E.mu (.O k) with
    | none=>rw [h] at hOk; exact hOk.elim
    | some mv=>exact ⟨mv,rfl⟩
  rw [hmk] at hOk
  obtain ⟨hS1,ht1,hke⟩:=gz hM ht hklt
  have hgl:(bG k S).o.length=S.o.length:=by simp [bG]
  have hidlt:id<S.o.length:=(List.getElem?_eq_some_iff.1 hob).1
  obtain ⟨mu1,hmu1⟩:∃ mu1:Key→Option MV,mu1=fun x=>if x=.S id j then some mvk else ao E.mu (.O k) x:=⟨_,rfl⟩
  have hm1j:mu1 (.S id j)=some mvk:=by rw [hmu1]; simp
  have hm1:∀ x,x≠.S id j→mu1 x=ao E.mu (.O k) x:=fun x hx=>by rw [hmu1]; show (if x=.S id j then some mvk else ao E.mu (.O k) x)=_; rw [if_neg hx]
  have hS:∀ i,ao E.mu (.O k) (.S id i)=E.mu (.S id i):=fun i=>qu (k:=.O k) (a:=id) (i:=i) (by intro e; cases e) (by intro e; cases e; exact hne rfl)
  have hgid:(bG k S).o[id]?=some (bw (.O k) (.own ks sz cells (some (j,ha)))):=by
    show ((S.o.map (bw (.O k))).set k .dead)[id]?=_
    rw [List.getElem?_set,if_neg hne,List.getElem?_map,hob]
    rfl
  have hfree:∀ b o s n,mvk=.blk b o s n→¬ E.F b∧b<w.heap.size∧(G.M b∨G.w0.heap.size≤b)∧∀ x o' s' n',ao E.mu (.O k) x≠some (.blk b o' s' n'):=by
    intro b o s n e
    subst e
    obtain ⟨h1,h2,h3⟩:=hM.own _ _ _ _ _ hmk
    refine ⟨h1,h2,h3,fun x o' s' n' h=>?_⟩
    obtain ⟨h4,h5⟩:=aR h
    exact h4 (hM.inj _ _ _ _ _ _ _ _ _ h5 hmk)
  have hW1:bi ⟨E.F,mu1,E.h⟩ id (some (.own ks sz (cells.set j (some rows)) none)):=by
    refine ⟨hz,fun i hi=>?_,fun b o s n hm=>?_⟩
    · rw [List.length_set] at hi
      show mu1 (.S id i)=none
      rw [hm1 _ (fun e=>by cases e; omega),hS]
      exact hbey i hi
    · have hm:E.mu (.O id)=some (.blk b o s n):=by
        have h:mu1 (.O id)=some (.blk b o s n):=hm
        rw [hm1 _ (fun e=>by cases e),eo (fun e=>hne (by cases e; rfl))] at h
        exact h
      obtain ⟨h4,h6⟩:=hcells b o s n hm
      refine ⟨by rw [List.length_set]; exact h4,fun i c hi=>?_⟩
      rw [List.getElem?_set] at hi
      by_cases hij:j=i
      · subst hij
        rw [if_pos rfl,if_pos hj] at hi
        cases hi
        obtain ⟨u,hu,h7⟩:=h6 j cells[j] (List.getElem?_eq_getElem hj)
        have h7:(if j=j then E.mu (.S id j)=none∧VR E.ob ha u else aN E sz cells[j] (E.mu (.S id j)) u):=h7
        rw [if_pos rfl] at h7
        refine ⟨u,hu,?_⟩
        show aN _ sz (some rows) (mu1 (.S id j)) u
        rw [hm1j]
        obtain ⟨_,hv⟩:=h7
        have virt:∀ c,q6 sz=false∨c.isSome=true→E.mu (.O k)=some .virt→u=.slice c 0 0→aN ⟨E.F,mu1,E.h⟩ sz (some rows) (some mvk) u:=fun c hc hx e=>by
          rw [hmk] at hx
          cases hx
          exact ⟨hOk,c,e,fun h=>hc.elim (fun h2=>by rw [h2] at h; cases h) (fun h2=>h2)⟩
        have blk:∀ {b o s n cap:Nat},E.mu (.O k)=some (.blk b o s n)→n≤cap→o + cap * s≤au E.h b→u=.slice (some ⟨b,o,none⟩) n cap→aN ⟨E.F,mu1,E.h⟩ sz (some rows) (some mvk) u:=fun hx hn hc e=>by
          rw [hmk] at hx
          cases hx
          exact ⟨hOk.1,hOk.2,_,hn,hc,e⟩
        rcases hha with ⟨rfl,hnz⟩ | rfl
        · cases hv with
          | mfn hx=>exact virt none (.inl hnz) hx rfl
          | mfe c hx=>exact virt (some c) (.inl hnz) hx rfl
          | mf cap hx hn hc=>exact blk hx hn hc rfl
        · cases hv with
          | mfxe c hx=>exact virt (some c) (.inr rfl) hx rfl
          | mfx cap hx hn hc=>exact blk hx hn hc rfl
      · rw [if_neg hij] at hi
        obtain ⟨u,hu,h7⟩:=h6 i c hi
        have h7:(if j=i then E.mu (.S id i)=none∧VR E.ob ha u else aN E sz c (E.mu (.S id i)) u):=h7
        rw [if_neg hij] at h7
        refine ⟨u,hu,?_⟩
        show aN _ sz c (mu1 (.S id i)) u
        rw [hm1 _ (fun e=>hij (by cases e; rfl)),hS]
        exact aN.mono h7 (LE.refl _) (fun _ _ _ _ _=>rfl)
  obtain ⟨hle,hS2⟩:=hS1.reS (id:=id) (mu':=mu1) (fun x hx=>hm1 x (hx j)) (fun i b o s n h=>by
      by_cases hij:Key.S id i=.S id j
      · rw [hij,hm1j] at h
        obtain ⟨h1,h2,h3,h4⟩:=hfree b o s n (Option.some.inj h)
        exact ⟨h1,h2,h3,fun x o' s' n' _=>h4 x o' s' n'⟩
      · rw [hm1 _ hij] at h
        obtain ⟨h1,h2,h3,h4⟩:=hS1.ownS (id:=id) (j:=i) h
        exact ⟨h1,h2,h3,fun x o' s' n' hx=>h4 x o' s' n' (hx i)⟩)
    (fun i i' b o s n o' s' n' h h'=>by
      by_cases hij:Key.S id i=.S id j
      · by_cases hij':Key.S id i'=.S id j
        · cases hij
          cases hij'
          rfl
        · rw [hij,hm1j] at h
          rw [hm1 _ hij'] at h'
          exact absurd h' ((hfree b o s n (Option.some.inj h)).2.2.2 _ _ _ _)
      · by_cases hij':Key.S id i'=.S id j
        · rw [hij',hm1j] at h'
          rw [hm1 _ hij] at h
          exact absurd h ((hfree b o' s' n' (Option.some.inj h')).2.2.2 _ _ _ _)
        · rw [hm1 _ hij] at h
          rw [hm1 _ hij'] at h'
          have:=hS1.inj (.S id i) (.S id i') _ _ _ _ _ _ _ h h'
          cases this
          rfl)
    hgid (fun e=>by cases e) (y:=.own ks sz (cells.set j (some rows)) none) (by
      show b9 _ _ (ao E.mu (.O k) (.O id))
      rw [eo (fun e=>hne (by cases e; rfl))]
      revert hOb
      cases E.mu (.O id) with
      | none=>exact fun h=>h.elim
      | some mv =>
        cases mv with
        | virt =>
          intro h
          have h:ks=none∧cells=[]:=h
          rw [h.2] at hj
          cases hj
        | blk b o s n =>
          intro h
          have h:ks=none→s=1∧n=cells.length:=h
          exact fun e=>⟨(h e).1,by rw [List.length_set]; exact (h e).2⟩) hW1
  exact ⟨_,hS2,ht1.mono hle,(hm1 _ (fun e=>by cases e)).trans (eo (fun e=>hne (by cases e; rfl)))⟩
theorem ic {k:Nat} {K:St→Prop}:b_ [k] S K↔K (bG k S):=ia (ids:=[k])
theorem m1 (hM:ad G p E S w) (ht:TR G E S.t a) {id:Nat} {K:St→Prop} (h:dK S id K) :
    ∃ S' E',K S'∧ad G p E' S' w∧TR G E' S'.t a:=by
  unfold dK at h
  split at h
  · rename_i ks sz cells j hob
    obtain ⟨hj,h⟩:=ab h
    rw [ak] at h
    rw [Nat.blt_eq] at hj
    have hw:=hM.ow id
    rw [hob] at hw
    obtain ⟨hz,hbey,hcells⟩:=hw
    have hOb:=hM.obj id
    rw [hob] at hOb
    obtain ⟨hle,hS⟩:=hM.reS (id:=id) (mu':=E.mu) (fun _ _=>rfl) (fun j b o s n h=>by
        obtain ⟨h1,h2,h3,h4⟩:=hM.ownS (id:=id) (j:=j) h
        exact ⟨h1,h2,h3,fun k o2 s2 n2 hk=>h4 k o2 s2 n2 (hk j)⟩)
      (fun j j' b o s n o2 s2 n2 h h'=>by
        have:=hM.inj (.S id j) (.S id j') _ _ _ _ _ _ _ h h'
        cases this
        rfl) hob (fun e=>by cases e) (y:=.own ks sz (cells.set j none) none) (by
        revert hOb
        cases E.mu (.O id) with
        | none=>exact fun h=>h.elim
        | some mv =>
          cases mv with
          | virt =>
            intro h
            have h:ks=none∧cells=[]:=h
            rw [h.2] at hj
            cases hj
          | blk b o s n =>
            intro h
            have h:ks=none→s=1∧n=cells.length:=h
            exact fun e=>⟨(h e).1,by rw [List.length_set]; exact (h e).2⟩) ⟨hz,fun i hi=>hbey i (by rw [List.length_set] at hi; exact hi),fun b o s n hm=>by
        obtain ⟨h4,h6⟩:=hcells b o s n hm
        refine ⟨by rw [List.length_set]; exact h4,fun i c hi=>?_⟩
        rw [List.getElem?_set] at hi
        by_cases hij:j=i
        · subst hij
          rw [if_pos rfl,if_pos hj] at hi
          cases hi
          obtain ⟨u,hu,h7⟩:=h6 j cells[j] (List.getElem?_eq_getElem hj)
          have h7:(if j=j then E.mu (.S id j)=none∧VR E.ob .nilsl u else aN E sz cells[j] (E.mu (.S id j)) u):=h7
          rw [if_pos rfl] at h7
          obtain ⟨h8,hv⟩:=h7
          refine ⟨u,hu,?_⟩
          show aN _ sz none (E.mu (.S id j)) u
          rw [h8]
          cases hv
          rfl
        · rw [if_neg hij] at hi
          obtain ⟨u,hu,h7⟩:=h6 i c hi
          have h7:(if j=i then E.mu (.S id i)=none∧VR E.ob .nilsl u else aN E sz c (E.mu (.S id i)) u):=h7
          rw [if_neg hij] at h7
          exact ⟨u,hu,h7⟩⟩
    exact ⟨_,_,h,hS,ht.mono hle⟩
  · rename_i ks sz cells j k hob
    split at h
    · rename_i sz' rows hk
      replace h:=ab h
      obtain ⟨hb,h⟩:=h
      simp only [Bool.and_eq_true,Nat.blt_eq] at hb
      obtain ⟨⟨hsz,hj⟩,hnz⟩:=hb
      have hsz:=Nat.eq_of_beq_eq_true hsz
      subst hsz
      rw [ic,ak] at h
      have hne:k≠id:=fun e=>by subst e; rw [hob] at hk; cases hk
      obtain ⟨E',hS,htr,hmu'⟩:=i5 hM ht (.inl ⟨rfl,by simpa using hnz⟩) hob hk hj
      exact ⟨_,E',h,hS,htr⟩
    · exact h.elim
  · rename_i ks sz cells j k hob
    split at h
    · rename_i sz' rows hk
      replace h:=ab h
      obtain ⟨hb,h⟩:=h
      simp only [Bool.and_eq_true,Nat.blt_eq] at hb
      obtain ⟨hsz,hj⟩:=hb
      have hsz:=Nat.eq_of_beq_eq_true hsz
      subst hsz
      rw [ic,ak] at h
      have hne:k≠id:=fun e=>by subst e; rw [hob] at hk; cases hk
      obtain ⟨E',hS,htr,hmu'⟩:=i5 hM ht (.inr rfl) hob hk hj
      exact ⟨_,E',h,hS,htr⟩
    · exact h.elim
  · exact h.elim
  · exact ⟨S,E,h,hM,ht⟩
theorem i6:∀ {ids:List Nat} {S:St} {E:Env} {K:St→Prop},ad G p E S w→TR G E S.t a→gp ids S K→∃ S' E',K S'∧ad G p E' S' w∧TR G E' S'.t a
  | [],S,E,_,hM,ht,h=>⟨S,E,h,hM,ht⟩
  | id::ids,_,_,_,hM,ht,h=>by
    obtain ⟨S1,E1,h,hM1,ht1⟩:=m1 hM ht h
    exact i6 hM1 ht1 h
def uc (id:Nat) (mu:Key→Option MV):Key→Option MV
  | .L d=>mu (.L d)
  | .O i=>mu (.O i)
  | .S c j=>if c=id then none else mu (.S c j)
theorem rL {id:Nat} {mu:Key→Option MV} (k:Key) (h:∀ j,k≠.S id j):uc id mu k=mu k:=by
  cases k with
  | L d=>rfl
  | O i=>rfl
  | S c j =>
    show (if c=id then none else mu (.S c j))=_
    rw [if_neg (fun e=>h j (by rw [e]))]
theorem ud {id:Nat} {mu:Key→Option MV} (j:Nat):uc id mu (.S id j)=none:=by
  show (if id=id then none else mu (.S id j))=_
  rw [if_pos rfl]
theorem iJ:∀ {ks:List AV},(fJ ks).length=ks.length
  | []=>rfl
  | _::ks=>congrArg (· + 1) (iJ (ks:=ks))
theorem iK:∀ {ks:List AV} {i:Nat} {e:AV×AV},(fJ ks)[i]?=some e→ks[i]?=some e.1∧e.2=.bad
  | [],_,_,h=>by simp [fJ] at h
  | k::ks,0,e,h=>by
    have h:some (k,AV.bad)=some e:=h
    cases h
    exact ⟨rfl,rfl⟩
  | k::ks,i + 1,e,h=>iK (ks:=ks) (i:=i) h
theorem px:∀ {ks:List AV} {cells:List (Option (List (List AV)))},ks.length=cells.length→(g6 ks cells).length=ks.length
  | [],[],_=>rfl
  | _::ks,_::cells,h=>congrArg (· + 1) (px (ks:=ks) (cells:=cells) (by simpa using h))
theorem py:∀ {ks:List AV} {cells:List (Option (List (List AV)))} {i:Nat} {e:AV×AV},(g6 ks cells)[i]?=some e→ks[i]?=some e.1∧∃ c,cells[i]?=some c∧e.2=fW c
  | [],_,_,_,h=>by simp [g6] at h
  | _::_,[],_,_,h=>by simp [g6] at h
  | k::ks,c::cells,0,e,h=>by
    have h:some (k,fW c)=some e:=h
    cases h
    exact ⟨rfl,c,rfl,rfl⟩
  | k::ks,c::cells,i + 1,e,h=>py (ks:=ks) (cells:=cells) (i:=i) h
theorem m2 {α β:Type} (g:α→β):∀ l:List α,(l.map fun c=>[g c]).flatten=l.map g
  | []=>rfl
  | c::l=>by
    show [g c]++(l.map fun c=>[g c]).flatten=_
    rw [m2 g l]
    rfl
theorem oF (hM:ad G p E S w) (ht:TR G E S.t a) {id sz:Nat} {cells:List (Option (List (List AV)))} (hob:S.o[id]?=some (.own none sz cells none)) :
    ∃ E',ad G p E' { t:=S.t,l:=S.l,o:=S.o.set id (.arr true 1 (cells.map fun c=>[fW c])),b:=S.b } w∧TR G E' S.t a:=by
  have hlt:id<S.o.length:=(List.getElem?_eq_some_iff.1 hob).1
  have hw:=hM.ow id
  rw [hob] at hw
  obtain ⟨hz,hbey,hcells⟩:=hw
  have hOb:=hM.obj id
  rw [hob] at hOb
  obtain ⟨mu1,hmu1⟩:∃ mu1,mu1=uc id E.mu:=⟨_,rfl⟩
  have hm1:∀ k,(∀ j,k≠.S id j)→mu1 k=E.mu k:=fun k hk=>by rw [hmu1]; exact rL k hk
  have hm1S:∀ j,mu1 (.S id j)=none:=fun j=>by rw [hmu1]; exact ud j
  cases hmu:E.mu (.O id) with
  | none=>rw [hmu] at hOb; exact hOb.elim
  | some mv =>
    rw [hmu] at hOb
    cases mv with
    | virt =>
      obtain ⟨_,rfl⟩:=hOb
      obtain ⟨hle1,hS1⟩:=hM.reS (mu':=mu1) hm1 (fun j b o s n h=>by rw [hm1S] at h; cases h) (fun j j' b o s n o2 s2 n2 h h'=>by rw [hm1S] at h; cases h) hob (fun e=>by cases e)
        (y:=.arr true 1 (([]:List (Option (List (List AV)))).map fun c=>[fW c])) (by rw [hmu]; rfl) (fun i=>hm1S i)
      exact ⟨_,hS1,ht.mono hle1⟩
    | blk b o s n =>
      obtain ⟨rfl,rfl⟩:=hOb rfl
      obtain ⟨⟨us,ty,hb,hsz⟩,hall⟩:=hcells b o 1 cells.length hmu
      have hlen:∀ g:Option (List (List AV))→AV,∀ r∈cells.map fun c=>[g c],r.length=1:=fun g r hr=>by
        obtain ⟨c,_,rfl⟩:=List.mem_map.1 hr
        rfl
      obtain ⟨hle1,hS1⟩:=hM.reS (mu':=mu1) hm1 (fun j b o s n h=>by rw [hm1S] at h; cases h) (fun j j' b o s n o2 s2 n2 h h'=>by rw [hm1S] at h; cases h) hob (fun e=>by cases e)
        (y:=.arr true 1 (cells.map fun c=>[(fun _=>AV.bad) c])) (by
          rw [hmu]
          refine ⟨⟨rfl,by simp⟩,by omega,hlen _,us,ty,hb,by simpa using hsz,fun m c hc=>?_⟩
          rw [m2,List.getElem?_map] at hc
          obtain ⟨c0,h1,h2⟩:=Option.map_eq_some_iff.1 hc
          subst h2
          obtain ⟨u,hu,_⟩:=hall m c0 h1
          unfold cG at hu
          rw [hb] at hu
          exact ⟨u,hu,.bad _ _⟩) (fun i=>hm1S i)
      obtain ⟨hle2,hS2⟩:=hS1.freeze (F':=fun x=>E.F x∨∃ j o s n,E.mu (.S id j)=some (.blk x o s n)) (fun _ h=>.inl h) (fun x hx=>by
        rcases hx with hx | ⟨j,o',s',n',hx⟩
        · exact .inl hx
        · obtain ⟨h1,h2,h3⟩:=hM.own _ _ _ _ _ hx
          refine .inr ⟨h2,h3,fun k o2 s2 n2 hk2=>?_⟩
          have hk2:mu1 k=some (.blk x o2 s2 n2):=hk2
          have hne:∀ j,k≠.S id j:=fun j e=>by rw [e,hm1S] at hk2; cases hk2
          rw [hm1 k hne] at hk2
          exact hne j (hM.inj _ _ _ _ _ _ _ _ _ hk2 hx))
      have hget:(S.o.set id (.arr true 1 (cells.map fun c=>[(fun _=>AV.bad) c])))[id]?=some (.arr true 1 (cells.map fun c=>[(fun _=>AV.bad) c])):=List.getElem?_set_self hlt
      have hfz:LE E.fz (Env.fz ⟨fun x=>E.F x∨∃ j o s n,E.mu (.S id j)=some (.blk x o s n),mu1,E.h⟩):=⟨fun _ h=>.inl h,fun _ _ _ h=>(by cases h),fun _ _=>rfl,fun _ _ _ _ _ _ h=>(by cases h)⟩
      obtain ⟨hle3,hS3⟩:=hS2.reS (id:=id) (mu':=mu1) (fun _ _=>rfl) (fun j b o s n h=>by rw [hm1S] at h; cases h) (fun j j' b o s n o2 s2 n2 h h'=>by rw [hm1S] at h; cases h) hget (fun e=>by cases e)
        (y:=.arr true 1 (cells.map fun c=>[fW c])) (by
          show b9 _ _ (mu1 (.O id))
          rw [hm1 _ (fun j e=>by cases e),hmu]
          refine ⟨⟨rfl,by simp⟩,by omega,hlen _,us,ty,hb,by simpa using hsz,fun m c hc=>?_⟩
          rw [m2,List.getElem?_map] at hc
          obtain ⟨c0,h1,h2⟩:=Option.map_eq_some_iff.1 hc
          subst h2
          obtain ⟨u,hu,hc⟩:=hall m c0 h1
          unfold cG at hu
          rw [hb] at hu
          refine ⟨u,hu,?_⟩
          have hc:aN E sz c0 (E.mu (.S id m)) u:=hc
          show VR (Env.fz ⟨fun x=>E.F x∨∃ j o s n,E.mu (.S id j)=some (.blk x o s n),mu1,E.h⟩) (fW c0) u
          revert hc
          cases c0 with
          | none =>
            cases E.mu (.S id m) with
            | none=>exact fun h=>by rw [show u=Value.slice none 0 0 from h]; exact .nilsl _
            | some mv=>cases mv <;> exact fun h=>h.elim
          | some rows =>
            cases hmi:E.mu (.S id m) with
            | none=>exact fun h=>h.elim
            | some mv =>
              cases mv with
              | virt =>
                rintro ⟨rfl,c,rfl,_⟩
                cases c with
                | none=>exact .sln _
                | some c=>exact .sle _ c 0
              | blk b1 o1 s1 n1 =>
                rintro ⟨⟨rfl,rfl⟩,⟨q1,q2,us,ty,q3,q4,q5⟩,cap,h6,h7,rfl⟩
                exact aX.sl (E':=Env.fz ⟨fun x=>E.F x∨∃ j o s n,E.mu (.S id j)=some (.blk x o s n),mu1,E.h⟩) ⟨q1,q2,us,ty,q3,q4,fun m c hc=>by
                  obtain ⟨u,hu,hv⟩:=q5 m c hc
                  exact ⟨u,hu,hv.mono hfz⟩⟩ (.inr ⟨m,_,_,_,hmi⟩) h6) (fun i=>hm1S i)
      refine ⟨_,?_,((ht.mono hle1).mono hle2).mono hle3⟩
      have hS3:ad G p _ { t:=S.t,l:=S.l,o:=(S.o.set id (.arr true 1 (cells.map fun c=>[(fun _=>AV.bad) c]))).set id (.arr true 1 (cells.map fun c=>[fW c])),b:=S.b } w:=hS3
      rw [List.set_set] at hS3
      exact hS3
theorem oG (hM:ad G p E S w) (ht:TR G E S.t a) {id:Nat} {K:St→Prop} (h:eL S id K):∃ S' E',K S'∧ad G p E' S' w∧TR G E' S'.t a:=by
  unfold eL at h
  split at h
  · rename_i ks sz cells hob
    rw [ak] at h
    have hlt:id<S.o.length:=(List.getElem?_eq_some_iff.1 hob).1
    have hw:=hM.ow id
    rw [hob] at hw
    obtain ⟨hz,hbey,hcells⟩:=hw
    have hOb:=hM.obj id
    rw [hob] at hOb
    obtain ⟨b,o,s,n,hmu⟩:∃ b o s n,E.mu (.O id)=some (.blk b o s n):=by
      revert hOb
      cases E.mu (.O id) with
      | none=>exact fun h=>h.elim
      | some mv =>
        cases mv with
        | virt=>exact fun h=>by cases h.1
        | blk b o s n=>exact fun _=>⟨b,o,s,n,rfl⟩
    obtain ⟨⟨ms,clock,hb,⟨hl1,hl2,hbn⟩,hk⟩,hall⟩:=hcells b o s n hmu
    obtain ⟨mu1,hmu1⟩:∃ mu1,mu1=uc id E.mu:=⟨_,rfl⟩
    have hm1:∀ k,(∀ j,k≠.S id j)→mu1 k=E.mu k:=fun k hk=>by rw [hmu1]; exact rL k hk
    have hm1S:∀ j,mu1 (.S id j)=none:=fun j=>by rw [hmu1]; exact ud j
    obtain ⟨hle1,hS1⟩:=hM.reS (mu':=mu1) hm1 (fun j b o s n h=>by rw [hm1S] at h; cases h) (fun j j' b o s n o2 s2 n2 h h'=>by rw [hm1S] at h; cases h) hob (fun e=>by cases e)
      (y:=.mapo true (fJ ks)) (by
        rw [hmu]
        exact ⟨ms,clock,hb,⟨by rw [iJ]; omega,hbn⟩,fun i e m h1 h2=>by
          obtain ⟨h3,h4⟩:=iK h1
          exact ⟨hk i e.1 m h3 h2,by rw [h4]; exact .bad _ _⟩⟩) (fun i=>hm1S i)
    obtain ⟨hle2,hS2⟩:=hS1.freeze (F':=fun x=>E.F x∨∃ j o s n,E.mu (.S id j)=some (.blk x o s n)) (fun _ h=>.inl h) (fun x hx=>by
      rcases hx with hx | ⟨j,o',s',n',hx⟩
      · exact .inl hx
      · obtain ⟨h1,h2,h3⟩:=hM.own _ _ _ _ _ hx
        refine .inr ⟨h2,h3,fun k o2 s2 n2 hk2=>?_⟩
        have hk2:mu1 k=some (.blk x o2 s2 n2):=hk2
        have hne:∀ j,k≠.S id j:=fun j e=>by rw [e,hm1S] at hk2; cases hk2
        rw [hm1 k hne] at hk2
        exact hne j (hM.inj _ _ _ _ _ _ _ _ _ hk2 hx))
    have hget:(S.o.set id (.mapo true (fJ ks)))[id]?=some (.mapo true (fJ ks)):=List.getElem?_set_self hlt
    have hfz:LE E.fz (Env.fz ⟨fun x=>E.F x∨∃ j o s n,E.mu (.S id j)=some (.blk x o s n),mu1,E.h⟩):=⟨fun _ h=>.inl h,fun _ _ _ h=>(by cases h),fun _ _=>rfl,fun _ _ _ _ _ _ h=>(by cases h)⟩
    obtain ⟨hle3,hS3⟩:=hS2.reS (id:=id) (mu':=mu1) (fun _ _=>rfl) (fun j b o s n h=>by rw [hm1S] at h; cases h) (fun j j' b o s n o2 s2 n2 h h'=>by rw [hm1S] at h; cases h) hget (fun e=>by cases e)
      (y:=.mapo true (g6 ks cells)) (by
        show b9 _ _ (mu1 (.O id))
        rw [hm1 _ (fun j e=>by cases e),hmu]
        refine ⟨ms,clock,hb,⟨by rw [px (by omega)]; omega,hbn⟩,fun i e m h1 h2=>?_⟩
        obtain ⟨h3,c,h4,h5⟩:=py h1
        refine ⟨hk i e.1 m h3 h2,?_⟩
        obtain ⟨u,hu,hc⟩:=hall i c h4
        have hu:u=m.val:=by
          unfold cG at hu
          rw [hb] at hu
          simp only [h2,Option.map_some,Option.some.injEq] at hu
          exact hu.symm
        subst hu
        have hc:aN E sz c (E.mu (.S id i)) m.val:=hc
        rw [h5]
        generalize m.val=u at hc
        show VR (Env.fz ⟨fun x=>E.F x∨∃ j o s n,E.mu (.S id j)=some (.blk x o s n),mu1,E.h⟩) (fW c) u
        revert hc
        cases c with
        | none =>
          cases E.mu (.S id i) with
          | none=>exact fun h=>by rw [show u=Value.slice none 0 0 from h]; exact .nilsl _
          | some mv=>cases mv <;> exact fun h=>h.elim
        | some rows =>
          cases hmi:E.mu (.S id i) with
          | none=>exact fun h=>h.elim
          | some mv =>
            cases mv with
            | virt =>
              rintro ⟨rfl,c,rfl,_⟩
              cases c with
              | none=>exact .sln _
              | some c=>exact .sle _ c 0
            | blk b1 o1 s1 n1 =>
              rintro ⟨⟨rfl,rfl⟩,⟨q1,q2,us,ty,q3,q4,q5⟩,cap,h6,h7,rfl⟩
              exact aX.sl (E':=Env.fz ⟨fun x=>E.F x∨∃ j o s n,E.mu (.S id j)=some (.blk x o s n),mu1,E.h⟩) ⟨q1,q2,us,ty,q3,q4,fun m c hc=>by
                obtain ⟨u,hu,hv⟩:=q5 m c hc
                exact ⟨u,hu,hv.mono hfz⟩⟩ (.inr ⟨i,_,_,_,hmi⟩) h6) (fun i=>hm1S i)
    refine ⟨_,_,h,?_,((ht.mono hle1).mono hle2).mono hle3⟩
    have e:(S.o.set id (Ob.mapo true (fJ ks))).set id (Ob.mapo true (g6 ks cells))=S.o.set id (Ob.mapo true (g6 ks cells)):=List.set_set ..
    have hS3:ad G p _ { t:=S.t,l:=S.l,o:=(S.o.set id (Ob.mapo true (fJ ks))).set id (Ob.mapo true (g6 ks cells)),b:=S.b } w:=hS3
    rw [e] at hS3
    exact hS3
  · rename_i hob
    rw [ak] at h
    obtain ⟨E',h1,h2⟩:=oF hM ht hob
    exact ⟨_,E',h,h1,h2⟩
  · exact ⟨S,E,h,hM,ht⟩
theorem ig:∀ {ids:List Nat} {S:St} {E:Env} {K:St→Prop},ad G p E S w→TR G E S.t a→e9 ids S K→∃ S' E',K S'∧ad G p E' S' w∧TR G E' S'.t a
  | [],S,E,_,hM,ht,h=>⟨S,E,h,hM,ht⟩
  | id::ids,_,_,_,hM,ht,h=>by
    obtain ⟨S1,E1,h,hM1,ht1⟩:=oG hM ht h
    exact ig hM1 ht1 h
theorem fN (hM:ad G p E S w) (ht:TR G E S.t a) {pl:aD} {id:Nat} {K:St→Prop} (h:eG pl id S K):∃ S' E',K S'∧ad G p E' S' w∧TR G E' S'.t a:=by
  unfold eG at h
  split at h
  · exact ⟨S,E,h,hM,ht⟩
  · obtain ⟨S1,E1,h,hM1,ht1⟩:=i6 hM ht h
    split at h
    · exact ⟨S1,E1,h,hM1,ht1⟩
    · exact ig hM1 ht1 h
theorem ye (hM:ad G p E S w) {id sz b o s n:Nat} {cells:List (Option (List (List AV)))} {hole:Option (Nat×AV)} (hob:S.o[id]?=some (.own none sz cells hole)) (hmu:E.mu (.O id)=some (.blk b o s n)):s=1∧n=cells.length:=by
  have h:=hM.obj id
  rw [hob,hmu] at h
  exact h rfl
theorem uW {hole:Option (Nat×AV)} {i:Nat} (h:g7 hole i=true):hole=none∨∃ a0,hole=some (i,a0):=by
  cases hole with
  | none=>exact .inl rfl
  | some z =>
    obtain ⟨j,a0⟩:=z
    have:=Nat.eq_of_beq_eq_true (show Nat.beq i j=true from h)
    subst this
    exact .inr ⟨a0,rfl⟩
theorem ij (hM:ad G p E M w) {pk:Bool} {id i:Nat} {k:AV→St→Prop} {b o s n:Nat} (hmu:E.mu (.O id)=some (.blk b o s n)) (h:cr M pk id i k) :
    ∃ M' E' v u,k v M'∧ad G p E' M' w∧LE E E'∧VR E' v u∧cG w.heap b o i=some u:=by
  unfold cr at h
  split at h
  · rename_i ks sz cells hob
    split at h
    · rename_i hc
      have hw:=hM.ow id
      rw [hob] at hw
      obtain ⟨_,_,hcells⟩:=hw
      obtain ⟨_,hall⟩:=hcells b o s n hmu
      obtain ⟨u,hu,hcell⟩:=hall i _ hc
      have hcell:aN E sz none (E.mu (.S id i)) u:=hcell
      have hnil:u=.slice none 0 0:=by
        revert hcell
        cases E.mu (.S id i) with
        | none=>exact fun h=>h
        | some mv=>cases mv <;> exact fun h=>h.elim
      subst hnil
      exact ⟨M,E,_,_,h,hM,.refl _,.nilsl _,by rw [← hM.hp]; exact hu⟩
    · rename_i rows hc
      split at h
      · rename_i hpk
        rw [Bool.and_eq_true] at hpk
        have hw:=hM.ow id
        rw [hob] at hw
        obtain ⟨_,_,hcells⟩:=hw
        obtain ⟨_,hall⟩:=hcells b o s n hmu
        obtain ⟨u,hu,hcell⟩:=hall i _ hc
        have hcell:aN E sz (some rows) (E.mu (.S id i)) u:=hcell
        have hnn:∃ A n c,u=.slice (some A) n c:=by
          revert hcell
          cases E.mu (.S id i) with
          | none=>exact fun h=>h.elim
          | some mv =>
            cases mv with
            | virt =>
              rintro ⟨_,c,rfl,hh⟩
              cases c with
              | none=>exact absurd (hh hpk.2) (by simp)
              | some c=>exact ⟨_,_,_,rfl⟩
            | blk b1 o1 s1 n1 =>
              rintro ⟨_,_,cap,_,_,rfl⟩
              exact ⟨_,_,_,rfl⟩
        obtain ⟨A,n',c,rfl⟩:=hnn
        exact ⟨M,E,_,_,h,hM,.refl _,.nn _ _ _ _,by rw [← hM.hp]; exact hu⟩
      · rw [aQ,ak] at h
        obtain ⟨E',u,hS,hle,hv,hcl⟩:=oE hM hob hc hmu
        exact ⟨_,E',_,u,h,hS,hle,hv,hcl⟩
    · exact h.elim
  · exact h.elim
theorem j9 (hM:ad G p E M w) {x:AV} {u:Value} {k:Nat→Nat→Prop} (hv:VR E x u) (h:dZ M x k) :
    ∃ id i b o n sz cells hole,k id i∧M.o[id]?=some (.own none sz cells hole)∧E.mu (.O id)=some (.blk b o 1 n)∧u=.pointer (some ⟨b,o + i,none⟩):=by
  unfold dZ at h
  split at h
  · rename_i id i
    split at h
    · rename_i sz cells hole hob
      cases hv with
      | ptr _ _ hs hmu =>
        rename_i b o s n
        obtain ⟨rfl,_⟩:=ye hM hob hmu
        exact ⟨id,i,b,o,n,sz,cells,hole,h,hob,hmu,by simp⟩
    · exact h.elim
  · exact h.elim
theorem w5 {E:Env} {a:AV} {u:Value} (h:VR E a u):VR E (zC a) u:=by
  cases a <;> first | exact h | skip
  cases h with
  | mfxe c hx=>exact .mfe c hx
  | mfx cap hx hn hc=>exact .mf cap hx hn hc
theorem m3 (hM:ad G p E M w) {t:TypeId} {same pk:Bool} {id i:Nat} {k:AV→St→Prop} {b o s n sz:Nat} {cells:List (Option (List (List AV)))} {hole:Option (Nat×AV)} (hob:M.o[id]?=some (.own none sz cells hole)) (hmu:E.mu (.O id)=some (.blk b o s n)) (h:dL P t same pk M id i k) :
    ∃ M' E' r z,k r M'∧ad G p E' M' w∧LE E E'∧VR E' r z∧(Instr.loadAt t (.pointer (some ⟨b,o + i,none⟩))).run P w=.ok z w:=by
  have hbase:o8 w.heap none b o cells.length:=by
    have hw:=hM.ow id
    rw [hob] at hw
    rw [← hM.hp]
    exact (hw.2.2 b o s n hmu).1
  have ld:∀ {E':Env} {v:AV} {u:Value} {k:AV→Prop},VR E' v u→cG w.heap b o i=some u→dJ P t [v] 0 k→∃ r z,k r∧VR E' r z∧(Instr.loadAt t (.pointer (some ⟨b,o + i,none⟩))).run P w=.ok z w:=by
    intro E' v u k hv hc hk
    obtain ⟨r,z,h1,h2,h3⟩:=jn (P:=P) hk (aO.cons hv (aO.nil E')) w (b:=b) (o:=o + i) (fun m u' hu'=>by
      cases m with
      | zero =>
        simp at hu'
        subst hu'
        show bq w.heap b (o + i)=some u
        exact rh hbase hc
      | succ m=>simp at hu')
    exact ⟨r,z,h1,h2,h3⟩
  unfold dL at h
  split at h
  · split at h
    · rename_i sz' cells' j v hob'
      rw [hob] at hob'
      cases hob'
      replace h:=ab h
      obtain ⟨hb,h⟩:=h
      simp only [Bool.and_eq_true,Nat.blt_eq] at hb
      obtain ⟨hij,hj⟩:=hb
      have hij:=Nat.eq_of_beq_eq_true hij
      subst hij
      have hw:=hM.ow id
      rw [hob] at hw
      obtain ⟨_,_,hcells⟩:=hw
      obtain ⟨_,hall⟩:=hcells b o s n hmu
      obtain ⟨u,hu,hcell⟩:=hall i _ (List.getElem?_eq_getElem hj)
      have h7:(if i=i then E.mu (.S id i)=none∧VR E.ob v u else aN E sz cells[i] (E.mu (.S id i)) u):=hcell
      rw [if_pos rfl] at h7
      obtain ⟨r,z,h3,h4,h5⟩:=ld (w5 h7.2.of_ob) (by rw [← hM.hp]; exact hu) h
      exact ⟨M,E,r,z,h3,hM,.refl _,h4,h5⟩
    · exact h.elim
  · obtain ⟨M',E',v,u,h,hM',hle,hv,hc⟩:=ij hM hmu h
    obtain ⟨r,z,h3,h4,h5⟩:=ld hv hc h
    exact ⟨M',E',r,z,h3,hM',hle,h4,h5⟩
theorem m4 (hM:ad G p E S w) {id i sz:Nat} {ks:Option (List AV)} {cells:List (Option (List (List AV)))} {hole:Option (Nat×AV)} (hob:S.o[id]?=some (.own ks sz cells hole)) (hh:g7 hole i=true) :
    ∃ E',LE E E'∧E'.h=E.h∧E'.mu (.O id)=E.mu (.O id)∧ad G p E' { t:=S.t,l:=S.l,o:=S.o.set id (.own ks sz cells (some (i,.bad))),b:=S.b } w:=by
  have hw:=hM.ow id
  rw [hob] at hw
  obtain ⟨hz,hbey,hcells⟩:=hw
  have hOb:=hM.obj id
  rw [hob] at hOb
  obtain ⟨mu1,hmu1⟩:∃ mu1:Key→Option MV,mu1=fun k=>if k=.S id i then none else E.mu k:=⟨_,rfl⟩
  have hm1i:mu1 (.S id i)=none:=by rw [hmu1]; simp
  have hm1:∀ k,k≠.S id i→mu1 k=E.mu k:=fun k hk=>by rw [hmu1]; show (if k=.S id i then none else E.mu k)=_; rw [if_neg hk]
  have hW1:bi ⟨E.F,mu1,E.h⟩ id (some (.own ks sz cells (some (i,.bad)))):=by
    refine ⟨hz,fun j hj=>?_,fun b' o' s' n' hm=>?_⟩
    · show mu1 (.S id j)=none
      by_cases h:Key.S id j=.S id i
      · rw [h]; exact hm1i
      · rw [hm1 _ h]; exact hbey j hj
    · have hm:E.mu (.O id)=some (.blk b' o' s' n'):=(hm1 _ (fun e=>by cases e)).symm.trans hm
      obtain ⟨h4,h6⟩:=hcells b' o' s' n' hm
      refine ⟨h4,fun j c hj=>?_⟩
      obtain ⟨u',hu',h7⟩:=h6 j c hj
      refine ⟨u',hu',?_⟩
      show if i=j then mu1 (.S id j)=none∧VR _ .bad u' else aN _ sz c (mu1 (.S id j)) u'
      by_cases hij:i=j
      · subst hij
        rw [if_pos rfl]
        exact ⟨hm1i,.bad _ _⟩
      · rw [if_neg hij,hm1 _ (fun e=>hij (by cases e; rfl))]
        have h8:aN E sz c (E.mu (.S id j)) u':=by
          rcases uW hh with rfl | ⟨a0,rfl⟩
          · exact h7
          · have h7:(if i=j then E.mu (.S id j)=none∧VR E.ob a0 u' else aN E sz c (E.mu (.S id j)) u'):=h7
            rw [if_neg hij] at h7
            exact h7
        exact aN.mono h8 (LE.refl _) (fun _ _ _ _ _=>rfl)
  obtain ⟨hle1,hS1⟩:=hM.reS (mu':=mu1) (fun k hk=>hm1 k (hk i)) (fun j b' o' s' n' h=>by
      by_cases hj:Key.S id j=.S id i
      · rw [hj,hm1i] at h; cases h
      · rw [hm1 _ hj] at h
        obtain ⟨h1,h2,h3,h4⟩:=hM.ownS h
        exact ⟨h1,h2,h3,fun k o2 s2 n2 hk=>h4 k o2 s2 n2 (hk j)⟩)
    (fun j j' b' o' s' n' o2 s2 n2 h h'=>by
      by_cases hj:Key.S id j=.S id i
      · rw [hj,hm1i] at h; cases h
      · by_cases hj':Key.S id j'=.S id i
        · rw [hj',hm1i] at h'; cases h'
        · rw [hm1 _ hj] at h
          rw [hm1 _ hj'] at h'
          have:=hM.inj _ _ _ _ _ _ _ _ _ h h'
          cases this
          rfl) hob (fun e=>by cases e) (y:=.own ks sz cells (some (i,.bad))) (by
      revert hOb
      cases E.mu (.O id) with
      | none=>exact fun h=>h.elim
      | some mv=>cases mv <;> exact fun h=>h) hW1
  exact ⟨_,hle1,rfl,hm1 _ (fun e=>by cases e),hS1⟩
theorem qz (hM:ad G p E S w) {id i sz:Nat} {cells:List (Option (List (List AV)))} {hole:Option (Nat×AV)} (hob:S.o[id]?=some (.own none sz cells hole)) (hh:g7 hole i=true) (hi:i<cells.length)
    {b o s n:Nat} (hmu:E.mu (.O id)=some (.blk b o s n)) {v:AV} {u:Value} (hv:VR E v u) (hn:jU 4 v=true) :
    ∃ us ty E',w.heap[b]?=some (.cells us ty (0,0))∧o + i<us.size∧ad G p E' { t:=S.t,l:=S.l,o:=S.o.set id (.own none sz cells (some (i,v))),b:=S.b } (av w b (.cells (aZ us (o + i) [u] 0) ty (0,0)))∧LE E E':=by
  obtain ⟨E1,hle1,hh1,hmu1,hS1⟩:=m4 hM hob hh
  have hlt:id<S.o.length:=(List.getElem?_eq_some_iff.1 hob).1
  have hmu1:E1.mu (.O id)=some (.blk b o s n):=hmu1.trans hmu
  have hget1:(S.o.set id (.own none sz cells (some (i,.bad))))[id]?=some (.own none sz cells (some (i,.bad))):=List.getElem?_set_self hlt
  have hw:=hS1.ow id
  rw [hget1] at hw
  obtain ⟨hz,hbey,hcells⟩:=hw
  obtain ⟨⟨us,ty,hb,hul⟩,hall⟩:=hcells b o s n hmu1
  have hbw:w.heap[b]?=some (.cells us ty (0,0)):=by rw [← hS1.hp]; exact hb
  have hblt:b<w.heap.size:=(Array.getElem?_eq_some_iff.1 hbw).1
  have hsz:au (av w b (.cells (aZ us (o + i) [u] 0) ty (0,0))).heap b=au w.heap b:=by
    unfold au
    rw [bc hblt,hbw]
    simp [ba]
  have hle2:=hS1.setblk_le hmu1 hsz
  have hOb:=hS1.obj id
  rw [hget1,hmu1] at hOb
  obtain ⟨_,hS2⟩:=hS1.setblk hmu1 hsz (M':={ t:=S.t,l:=S.l,o:=S.o.set id (.own none sz cells (some (i,v))),b:=S.b })
    (fun _ _=>rfl) (fun j hj=>by
      show (S.o.set id _)[j]?=(S.o.set id _)[j]?
      rw [List.getElem?_set,List.getElem?_set,if_neg (fun e=>hj (by rw [e])),if_neg (fun e=>hj (by rw [e]))]) rfl (by simp) (fun d e=>by cases e)
    (fun j e=>by
      cases e
      show b9 _ (S.o.set id _)[id]? _
      rw [List.getElem?_set_self hlt,hmu1]
      exact hOb)
    (fun j e=>by
      rcases e with e | ⟨i',e⟩ <;> cases e
      show bi _ id (S.o.set id _)[id]?
      rw [List.getElem?_set_self hlt]
      refine ⟨hz,hbey,fun b' o' s' n' hm=>?_⟩
      have hm:E1.mu (.O id)=some (.blk b' o' s' n'):=hm
      rw [hmu1] at hm
      cases hm
      have hnew:=bc (ob:=.cells (aZ us (o + i) [u] 0) ty (0,0)) hblt
      refine ⟨⟨_,ty,hnew,by rw [ba]; exact hul⟩,fun j c hj=>?_⟩
      obtain ⟨u',hu',h7⟩:=hall j c hj
      have hu':us[o + j]?=some u':=by unfold cG at hu'; rw [hb] at hu'; exact hu'
      have hval:∀ z,(aZ us (o + i) [u] 0)[o + j]?=some z→cG (av w b (.cells (aZ us (o + i) [u] 0) ty (0,0))).heap b o j=some z:=fun z hz=>by
        unfold cG
        rw [hnew]
        exact hz
      have hjl:j<cells.length:=(List.getElem?_eq_some_iff.1 hj).1
      have h7:(if i=j then E1.mu (.S id j)=none∧VR E1.ob .bad u' else aN E1 sz c (E1.mu (.S id j)) u'):=h7
      by_cases hij:i=j
      · subst hij
        rw [if_pos rfl] at h7
        refine ⟨u,hval _ ?_,?_⟩
        · rw [d_,if_pos ⟨by omega,by simp,by omega⟩]
          simp
        · show (if i=i then E1.mu (.S id i)=none∧VR _ v u else aN _ sz c (E1.mu (.S id i)) u)
          rw [if_pos rfl]
          exact ⟨h7.1,dv 4 hn ((hv.mono hle1).mono hle2)⟩
      · rw [if_neg hij] at h7
        refine ⟨u',hval _ ?_,?_⟩
        · rw [d_,if_neg (fun h=>by have h1:=h.1; have h2:=h.2.1; simp at h2; omega)]
          exact hu'
        · show (if i=j then E1.mu (.S id j)=none∧VR _ v u' else aN _ sz c (E1.mu (.S id j)) u')
          rw [if_neg hij]
          refine aN.mono h7 hle2.fz (fun b' o' s' n' hmj=>?_)
          show (av w b _).heap[b']?=E1.h[b']?
          rw [hS1.hp]
          have hne:b≠b':=fun e=>by
            subst e
            have:=hS1.inj _ _ _ _ _ _ _ _ _ hmj hmu1
            cases this
          simp only [av,Array.getElem?_setIfInBounds]
          rw [if_neg hne])
  exact ⟨us,ty,_,hbw,by omega,hS2,hle1.trans hle2⟩
theorem v4 {sz:Nat} {v:AV} (h:wT sz v=true):jU 4 v=true:=by
  cases v <;> first | rfl | cases h
theorem s6 {sz:Nat} {v:AV} {u:Value} (h:wT sz v=true) (hv:VR E v u):∃ A q c,u=.slice A q c:=by
  cases v <;> first | (cases h; done) | skip
  · cases hv; exact ⟨_,_,_,rfl⟩
  · cases hv <;> exact ⟨_,_,_,rfl⟩
  · cases hv <;> exact ⟨_,_,_,rfl⟩
theorem m5 {v:AV} (h:sQ v=true):jU 4 v=true:=by
  cases v <;> first | rfl | cases h
theorem l7 (hM:ad G p E M w) {t:TypeId} {id i:Nat} {v:AV} {u:Value} {K:St→Prop} {b o s n:Nat} (hmu:E.mu (.O id)=some (.blk b o s n)) (hv:VR E v u) (h:cV P t M id i v K) :
    ∃ M' E' w',K M'∧ad G p E' M' w'∧LE E E'∧(Instr.storeAt t (.pointer (some ⟨b,o + i,none⟩)) u).run P w=.ok () w':=by
  unfold cV at h
  split at h
  · rename_i inf sz cells hole hi hob
    obtain ⟨hb,h⟩:=ab h
    simp only [Bool.and_eq_true,Nat.blt_eq] at hb
    obtain ⟨⟨⟨hsl,hil⟩,hsz⟩,hh⟩:=hb
    have hsz:=Nat.eq_of_beq_eq_true hsz
    rw [ak] at h
    obtain ⟨us,ty,E',hbw,hlt,hS,hle⟩:=qz hM hob hh hil hmu hv (v4 hsl)
    obtain ⟨A,q,c,rfl⟩:=s6 hsl hv
    refine ⟨_,E',_,h,hS,hle,?_⟩
    exact hZ (P:=P) (t:=t) (b:=b) (off:=o + i) hi hbw (by rw [hsz]; rfl) (fun v hv=>by
      have:v=.slice A q c:=by simpa [Value.cells] using hv
      subst this
      rfl) (by show o + i + 1≤us.size; omega)
  · exact h.elim
theorem j_ (hM:ad G p E M w) {id i sz:Nat} {ks ks':List AV} {cells cells':List (Option (List (List AV)))} {hole:Option (Nat×AV)} (hob:M.o[id]?=some (.own (some ks) sz cells hole)) (hh:g7 hole i=true)
    {b o s n clock clock':Nat} {ms ms':Array MapEntry} (hmu:E.mu (.O id)=some (.blk b o s n)) (hb:w.heap[b]?=some (.map ms clock)) {v:AV} {u:Value} (hv:VR E v u) (hn:jU 4 v=true)
    (hl:cells'.length=ms'.size∧cells'.length=ks'.length∧l4 ms' clock') (hk:∀ (i:Nat) (k:AV) (m:MapEntry),ks'[i]?=some k→ms'[i]?=some m→sL k=some m.key)
    (hlen:cells.length≤cells'.length) (_:∀ j,cells.length≤j→j<cells'.length→j=i) (hsame:∀ j,j≠i→cells'[j]?=cells[j]?) (hval:∀ j,j≠i→j<cells'.length→(ms'[j]?).map (·.val)=(ms[j]?).map (·.val)) (hat:∃ m,ms'[i]?=some m∧m.val=u) :
    ∃ E',ad G p E' { t:=M.t,l:=M.l,o:=M.o.set id (.own (some ks') sz cells' (some (i,v))),b:=M.b } (av w b (.map ms' clock'))∧LE E E':=by
  obtain ⟨E1,hle1,hh1,hmu1,hS1⟩:=m4 hM hob hh
  have hlt:id<M.o.length:=(List.getElem?_eq_some_iff.1 hob).1
  have hmu1:E1.mu (.O id)=some (.blk b o s n):=hmu1.trans hmu
  have hget1:(M.o.set id (.own (some ks) sz cells (some (i,.bad))))[id]?=some (.own (some ks) sz cells (some (i,.bad))):=List.getElem?_set_self hlt
  have hw:=hS1.ow id
  rw [hget1] at hw
  obtain ⟨hz,hbey,hcells⟩:=hw
  obtain ⟨_,hall⟩:=hcells b o s n hmu1
  have hb1:E1.h[b]?=some (.map ms clock):=by rw [hS1.hp]; exact hb
  have hblt:b<w.heap.size:=(Array.getElem?_eq_some_iff.1 hb).1
  have hnb:=bc (ob:=.map ms' clock') hblt
  have hss:au (av w b (.map ms' clock')).heap b=au w.heap b:=by
    unfold au
    rw [hnb,hb]
  have hle2:=hS1.setblk_le hmu1 hss
  have hSi:E1.mu (.S id i)=none:=by
    by_cases hi:i<cells.length
    · obtain ⟨u',_,h7⟩:=hall i _ (List.getElem?_eq_getElem hi)
      have h7:(if i=i then E1.mu (.S id i)=none∧VR E1.ob .bad u' else aN E1 sz cells[i] (E1.mu (.S id i)) u'):=h7
      rw [if_pos rfl] at h7
      exact h7.1
    · exact hbey i (by omega)
  have hOb:=hS1.obj id
  rw [hget1,hmu1] at hOb
  obtain ⟨_,hS2⟩:=hS1.setblk hmu1 hss (M':={ t:=M.t,l:=M.l,o:=M.o.set id (.own (some ks') sz cells' (some (i,v))),b:=M.b })
    (fun _ _=>rfl) (fun j hj=>by
      show (M.o.set id _)[j]?=(M.o.set id _)[j]?
      rw [List.getElem?_set,List.getElem?_set,if_neg (fun e=>hj (by rw [e])),if_neg (fun e=>hj (by rw [e]))]) rfl (by simp) (fun d e=>by cases e)
    (fun j e=>by
      cases e
      show b9 _ (M.o.set id _)[id]? _
      rw [List.getElem?_set_self hlt,hmu1]
      exact fun e=>by cases e)
    (fun j e=>by
      rcases e with e | ⟨i',e⟩ <;> cases e
      show bi _ id (M.o.set id _)[id]?
      rw [List.getElem?_set_self hlt]
      refine ⟨hz,fun j hj=>hbey j (by omega),fun b' o' s' n' hm=>?_⟩
      have hm:E1.mu (.O id)=some (.blk b' o' s' n'):=hm
      rw [hmu1] at hm
      cases hm
      refine ⟨⟨ms',clock',hnb,hl,hk⟩,fun j c hj=>?_⟩
      have hjl:j<cells'.length:=(List.getElem?_eq_some_iff.1 hj).1
      have hva:∀ z,(ms'[j]?).map (·.val)=some z→cG (av w b (.map ms' clock')).heap b o j=some z:=fun z hz=>by
        unfold cG
        rw [hnb]
        exact hz
      by_cases hij:i=j
      · subst hij
        obtain ⟨m,hm1,hm2⟩:=hat
        refine ⟨u,hva _ (by rw [hm1,← hm2]; rfl),?_⟩
        show (if i=i then E1.mu (.S id i)=none∧VR _ v u else aN _ sz c (E1.mu (.S id i)) u)
        rw [if_pos rfl]
        exact ⟨hSi,dv 4 hn ((hv.mono hle1).mono hle2)⟩
      · rw [hsame j (fun e=>hij e.symm)] at hj
        obtain ⟨u',hu',h7⟩:=hall j c hj
        have h7:(if i=j then E1.mu (.S id j)=none∧VR E1.ob .bad u' else aN E1 sz c (E1.mu (.S id j)) u'):=h7
        rw [if_neg hij] at h7
        refine ⟨u',hva _ ?_,?_⟩
        · rw [hval j (fun e=>hij e.symm) hjl]
          unfold cG at hu'
          rw [hb1] at hu'
          exact hu'
        · show (if i=j then E1.mu (.S id j)=none∧VR _ v u' else aN _ sz c (E1.mu (.S id j)) u')
          rw [if_neg hij]
          refine aN.mono h7 hle2.fz (fun b' o' s' n' hmj=>?_)
          show (av w b _).heap[b']?=E1.h[b']?
          rw [hS1.hp]
          have hne:b≠b':=fun e=>by
            subst e
            have:=hS1.inj _ _ _ _ _ _ _ _ _ hmj hmu1
            cases this
          simp only [av,Array.getElem?_setIfInBounds]
          rw [if_neg hne])
  exact ⟨_,hS2,hle1.trans hle2⟩
theorem s7 {e:TypeId} {ok:Bool} {k:AV→Prop} (hh:eD P e ok k):∃ r zz z,k r∧VR E r zz∧(zeroValue e).run P w=.ok z w∧zz=(if ok then .tuple #[z,.bool false] else z):=by
  unfold eD at hh
  split at hh
  · rename_i i hi
    split at hh
    · rename_i z hz
      rw [aQ] at hh
      unfold g5 at hh
      cases ok with
      | true=>exact ⟨_,_,z,hh,.tup #[z,.bool false] rfl (fun m c u h1 h2=>by
          match m,h1,h2 with
          | 0,h1,h2=>simp at h1 h2; subst h1 h2; exact qj E z
          | 1,h1,h2=>simp at h1 h2; subst h1 h2; exact .v _ _ rfl),bg hi hz w,rfl⟩
      | false=>exact ⟨_,_,z,hh,qj E z,bg hi hz w,rfl⟩
    · exact False.elim hh
  · exact False.elim hh
theorem m6 (hM:ad G p E M w) {t:TypeId} {m key:AV} {um uk:Value} {ok:Bool} {k:AV→St→Prop} (hm:VR E m um) (hkey:VR E key uk) (h:dM P t m key ok M k) :
    ∃ M' E' r z,k r M'∧ad G p E' M' w∧LE E E'∧VR E' r z∧(Instr.lookup t um uk ok).run P w=.ok z w:=by
  unfold dM at h
  split at h
  · rename_i kt e hu
    split at h
    · rename_i id
      split at h
      · rename_i ks sz cells hob
        cases hm with
        | mp hmu =>
          rename_i b o s n
          have hw:=hM.ow id
          rw [hob] at hw
          obtain ⟨⟨ms,clock,hb,⟨hl1,hl2,_⟩,hk⟩,_⟩:=hw.2.2 b o s n hmu
          rw [hM.hp] at hb
          obtain ⟨r,hr,_,hc,hf,hv⟩:=ew (ms:=ms) h hkey (by rw [iJ]; omega) (fun i e m h4 h5=>hk i e.1 m (iK h4).1 h5) w
          have hc':=hc ms.isEmpty rfl
          cases r with
          | none =>
            obtain ⟨r,zz,z,h4,h5,h6,h7⟩:=s7 (E:=E) (w:=w) hr
            refine ⟨M,E,r,zz,h4,hM,.refl _,h5,?_⟩
            unfold Instr.lookup
            simp only [Sem.run_bind,run_underlying hu,Result.andThen_ok,Sem.run_pure,cm hb,hc',hf,h6,h7]
          | some jv =>
            obtain ⟨j,vv⟩:=jv
            simp only [Option.map_some] at hr
            obtain ⟨M',E',v,u,hr,hM',hle,hvu,hva⟩:=ij hM hmu hr
            have hj:=hv j vv rfl
            unfold cG at hva
            rw [hb] at hva
            have hva:(ms[j]?).map (·.val)=some u:=hva
            rw [hj] at hva
            have hva:=Option.some.inj hva
            subst hva
            unfold g5 at hr
            cases ok with
            | true =>
              refine ⟨M',E',_,.tuple #[vv,.bool true],hr,hM',hle,.tup #[vv,.bool true] rfl (fun m c z h1 h2=>by
                match m,h1,h2 with
                | 0,h1,h2=>simp at h1 h2; subst h1 h2; exact hvu
                | 1,h1,h2=>simp at h1 h2; subst h1 h2; exact .v _ _ rfl),?_⟩
              unfold Instr.lookup
              simp only [Sem.run_bind,run_underlying hu,Result.andThen_ok,Sem.run_pure,cm hb,hc',hf]
              rfl
            | false =>
              refine ⟨M',E',_,vv,hr,hM',hle,hvu,?_⟩
              unfold Instr.lookup
              simp only [Sem.run_bind,run_underlying hu,Result.andThen_ok,Sem.run_pure,cm hb,hc',hf]
              rfl
      · exact h.elim
    · exact h.elim
  · exact h.elim
theorem i7 (hM:ad G p E M w) {t:TypeId} {m key x:AV} {um uk ux:Value} {K:St→Prop} (hm:VR E m um) (hkey:VR E key uk) (hx:VR E x ux) (h:ej P t m key x M K) :
    ∃ M' E' w',K M'∧ad G p E' M' w'∧LE E E'∧(Instr.mapUpdate t um uk ux).run P w=.ok () w':=by
  unfold ej at h
  split at h
  · rename_i kt e hu
    split at h
    · rename_i id
      split at h
      · rename_i ks sz cells hole hob
        obtain ⟨hsl0,h⟩:=ab h
        have hsl:=(Bool.and_eq_true_iff.1 hsl0).1
        cases hm with
        | mp hmu =>
          rename_i b o s n
          have hw:=hM.ow id
          rw [hob] at hw
          obtain ⟨⟨ms,clock,hb,⟨hl1,hl2,hbn⟩,hk⟩,_⟩:=hw.2.2 b o s n hmu
          rw [hM.hp] at hb
          obtain ⟨r,hr,htk,_,hfind,hval⟩:=ew (ms:=ms) h hkey (by rw [iJ]; omega) (fun i e m h4 h5=>hk i e.1 m (iK h4).1 h5) w
          obtain ⟨hck,hr⟩:=ab hr
          have hck':(Instr.checkKey false 10000 kt uk).run P w=.ok () w:=by
            unfold uG at hck
            split at hck
            · rename_i c hc
              exact ci _ w hc
            · cases hck
          cases r with
          | none =>
            simp only [Option.map_none] at hr
            split at hr
            · rw [ak] at hr
              obtain ⟨E',hS,hle⟩:=j_ hM (i:=cells.length) hob rfl hmu hb (ms':=ms.push { key:=uk,val:=ux,born:=clock }) (clock':=clock + 1) (ks':=ks++[key]) (cells':=cells++[none]) hx (m5 hsl)
                ⟨by simp [hl1],by simp [hl2],hbn.push _ _⟩ (fun i k m h1 h2=>by
                  rcases Nat.lt_trichotomy i ks.length with hi | hi | hi
                  · rw [List.getElem?_append_left hi] at h1
                    rw [Array.getElem?_push,if_neg (by omega)] at h2
                    exact hk i k m h1 h2
                  · subst hi
                    rw [List.getElem?_append_right (Nat.le_refl _),Nat.sub_self] at h1
                    rw [Array.getElem?_push,if_pos (by omega)] at h2
                    cases h1
                    cases h2
                    exact htk
                  · rw [List.getElem?_eq_none (by simp; omega)] at h1
                    cases h1) (by simp) (fun j h1 h2=>by simp at h2; omega) (fun j hj=>by
                  rcases Nat.lt_or_ge j cells.length with h1 | h1
                  · rw [List.getElem?_append_left h1]
                  · rw [List.getElem?_eq_none (by simp; omega),List.getElem?_eq_none h1]) (fun j hj h1=>by
                  rw [Array.getElem?_push,if_neg (by omega)]) ⟨_,by rw [Array.getElem?_push,if_pos hl1],rfl⟩
              refine ⟨_,E',_,hr,hS,hle,?_⟩
              unfold Instr.mapUpdate
              simp only [Sem.run_bind,run_underlying hu,Result.andThen_ok,cm hb,hck',hfind,gB hb]
            · exact hr.elim
          | some r =>
            obtain ⟨i,v⟩:=r
            simp only [Option.map_some] at hr
            obtain ⟨hsb,hr⟩:=ab hr
            rw [Bool.and_eq_true] at hsb
            rw [ak] at hr
            have hv0:=hval i v rfl
            rw [Option.map_eq_some_iff] at hv0
            obtain ⟨m0,hm0,_⟩:=hv0
            have hims:i<ms.size:=(Array.getElem?_eq_some_iff.1 hm0).1
            have hie:ks[i]?=some ks[i]:=List.getElem?_eq_getElem (by omega)
            have hkey0:=hk i _ m0 hie hm0
            have hsb1:=hsb.1
            rw [hie] at hsb1
            simp only [Option.bind_some,hkey0,Option.getD_some] at hsb1
            obtain ⟨E',hS,hle⟩:=j_ hM (i:=i) hob hsb.2 hmu hb (ms':=ms.modify i fun e=>{ e with key:=uk,val:=ux }) (clock':=clock) (ks':=ks.set i key) (cells':=cells) hx (m5 hsl)
              ⟨by simp [hl1],by simp [hl2],hbn.modify _ _ _⟩ (fun j k m h1 h2=>by
                rw [List.getElem?_set] at h1
                rw [Array.getElem?_modify] at h2
                by_cases hj:i=j
                · subst hj
                  rw [if_pos rfl,if_pos (by omega)] at h1
                  rw [if_pos rfl,hm0] at h2
                  cases h1
                  cases h2
                  exact htk
                · rw [if_neg hj] at h1 h2
                  exact hk j k m h1 h2) (Nat.le_refl _) (fun j h1 h2=>by omega) (fun _ _=>rfl) (fun j hj _=>by
                rw [Array.getElem?_modify,if_neg (fun e=>hj e.symm)]) ⟨{ m0 with key:=uk,val:=ux },by rw [Array.getElem?_modify,if_pos rfl,hm0]; rfl,rfl⟩
            refine ⟨_,E',_,hr,hS,hle,?_⟩
            have hstay:(Instr.keyThatStays (((ms[i]?).map (·.key)).getD uk) uk).run P w=.ok uk w:=by
              rw [hm0]
              unfold Instr.keyThatStays
              simp only [Option.map_some,Option.getD_some]
              rw [if_pos hsb1]
              rfl
            unfold Instr.mapUpdate
            simp only [Sem.run_bind,run_underlying hu,Result.andThen_ok,cm hb,hck',hfind,hstay,gB hb]
      · exact h.elim
    · exact h.elim
  · exact h.elim
theorem rM {x:AV}:∀ n:Nat,(List.replicate n [x]).flatten=List.replicate n x
  | 0=>rfl
  | n + 1=>by
    show [x]++(List.replicate n [x]).flatten=_
    rw [rM n]
    rfl
theorem rN (hM:ad G p E S w) {id n sz:Nat} (hsz:0<mB sz) (hob:S.o[id]?=some (.arr true 1 (List.replicate n [.nilsl]))) :
    ad G p E { t:=S.t,l:=S.l,o:=S.o.set id (.own none sz (List.replicate n none) none),b:=S.b } w:=by
  have hw:=hM.ow id
  rw [hob] at hw
  have hw:∀ i,E.mu (.S id i)=none:=hw
  have hOb:=hM.obj id
  rw [hob] at hOb
  have h:=hM.reS (id:=id) (mu':=E.mu) (fun _ _=>rfl) (fun j b o s n h=>by rw [hw j] at h; cases h) (fun j j' b o s n o2 s2 n2 h h'=>by rw [hw j] at h; cases h) hob (fun e=>by cases e)
    (y:=.own none sz (List.replicate n none) none) (by
      revert hOb
      cases E.mu (.O id) with
      | none=>exact fun h=>h.elim
      | some mv =>
        cases mv with
        | virt =>
          intro h
          have h:List.replicate n [AV.nilsl]=[]:=h
          have h0:n=0:=by simpa using congrArg List.length h
          subst h0
          exact ⟨rfl,rfl⟩
        | blk b o s m =>
          rintro ⟨⟨h1,h2⟩,_⟩
          exact fun _=>⟨h1,by simpa using h2⟩) ⟨hsz,fun i _=>hw i,fun b o s m hm=>by
      rw [hm] at hOb
      obtain ⟨⟨h1,h2⟩,_,_,us,ty,h3,h4,h5⟩:=hOb
      subst h1
      refine ⟨⟨us,ty,h3,by simpa using h4⟩,fun i c hi=>?_⟩
      rw [List.getElem?_replicate] at hi
      split at hi
      · rename_i hin
        cases hi
        obtain ⟨u,hu,hv⟩:=h5 i .nilsl (by
          rw [rM,List.getElem?_replicate,if_pos hin])
        refine ⟨u,by unfold cG; rw [h3]; exact hu,?_⟩
        show aN E sz none (E.mu (.S id i)) u
        rw [hw i]
        cases hv
        rfl
      · cases hi⟩
  exact h.2
theorem bv.then {o:Oper} {K K1:St→Prop} (h:bv P G p o a w K1) (hk:∀ S' E' a' w',K1 S'→ad G p E' S' w'→TR G E' S'.t a'→∃ S2 E2,K S2∧ad G p E2 S2 w'∧TR G E2 S2.t a'):bv P G p o a w K:=by
  intro next Q hn
  refine h next Q (fun S' E' a' w' h1 h2 h3=>?_)
  obtain ⟨S2,E2,h4,h5,h6⟩:=hk S' E' a' w' h1 h2 h3
  exact hn S2 E2 a' w' h4 h5 h6
theorem gC {x:AV} {k k':Int→Prop} (h:intOf x k) (hk:∀ n,k n→k' n):intOf x k':=by
  unfold intOf at h ⊢
  split at h
  · exact hk _ h
  · exact h.elim
theorem kg {e:TypeId} {k k':List AV→Prop} (h:a9 P e k) (hk:∀ z,k z→k' z):a9 P e k':=by
  unfold a9 at h ⊢
  split at h
  · split at h
    · obtain ⟨hb,h⟩:=ab h
      refine af hb ?_
      rw [ch] at h ⊢
      exact hk _ h
    · exact h.elim
  · exact h.elim
theorem pz {x:Operand} {k k':AV→Prop} (h:a_ S x k) (hk:∀ v,k v→k' v):a_ S x k':=by
  unfold a_ at h ⊢
  split at h
  · obtain ⟨v,h1,h2⟩:=aY.1 h
    exact aY.2 ⟨v,h1,hk v h2⟩
  · exact aQ.2 (hk _ (aQ.1 h))
  · exact hk _ h
  · split at h
    · exact hk _ h
    · exact h.elim
theorem uX {o:Oper} {K:St→Prop} (hM:ad G p E S w) (ht:TR G E S.t a) {j:Nat} (hj:S.o[j]?=some Ob.dead) (hb:S.b≤j) {ob:Obj} {x:Ob} (hx:du (some x)=true) {sz n:Nat} {r:AV} {z:Value} (hrun:(execOp a.eval o).run P w=.ok (.value z) { w with heap:=w.heap.push ob })
    (hO:∀ E':Env,E'.h=w.heap.push ob→b9 E' (some x) (some (.blk w.heap.size 0 sz n)))
    (hv:∀ E':Env,E'.h=w.heap.push ob→E'.mu (.O j)=some (.blk w.heap.size 0 sz n)→VR E' r z)
    (hK:K (fa { t:=S.t,l:=S.l,o:=S.o.set j x,b:=S.b } o.dst r)):bv P G p o a w K:=by
  intro next Q hn
  refine bk hrun ?_
  have hlt:j<S.o.length:=(List.getElem?_eq_some_iff.1 hj).1
  have hnone:E.mu (.O j)=none:=by
    have:=hM.obj j
    rw [hj] at this
    revert this
    cases E.mu (.O j) with
    | none=>exact fun _=>rfl
    | some _=>exact fun h=>h.elim
  obtain ⟨hle,hS⟩:=hM.newkey (ob:=ob) (key:=.O j) (sz:=sz) (n:=n) (fun _ h=>by cases h) hnone
    (M':={ t:=S.t,l:=S.l,o:=S.o.set j x,b:=S.b }) (fun _ _=>rfl)
    (fun id he=>by
      show (S.o.set j x)[id]?=_
      rw [List.getElem?_set_ne (fun e=>he (by rw [e]))]) rfl (by have:=hM.bl; simpa using this) (fun id he=>by cases he; exact hb)
    (fun d he=>by cases he)
    (fun id he hle=>by
      cases he
      show b9 _ (S.o.set j x)[j]? _
      rw [List.getElem?_set_self hlt]
      exact hO _ rfl)
    (fun id he=>by
      rcases he with e | ⟨i,e⟩ <;> cases e
      show bi _ j (S.o.set j x)[j]?
      rw [List.getElem?_set_self hlt]
      exact hM.ow_new rfl (by rw [hj]; rfl) hx)
  refine hn _ _ _ _ hK (hS.congr aV aW a2) ?_
  exact (TR.mono (t:=S.t) ht hle).put (S:={ t:=S.t,l:=S.l,o:=S.o.set j x,b:=S.b }) (hv _ rfl (by
    show ai _ _ _ _=_
    unfold ai
    rw [if_pos rfl]))
def qA (P:Program) (t:TypeId) (l c:AV) (k:Nat→Nat→List AV→Prop):Prop :=
  match P.underlying t with
  | some (.slice e) =>
    match P.info? e with
    | some i=>intOf l fun l=>intOf c fun c=>aB (decide (0≤l)&&decide (l≤c)&&decide (i.bytes * c≤140737488355328)&&decide (c≤140737488355328)&&Nat.blt 0 i.size)
        (a9 P e fun z=>k i.size l.toNat z)
    | none=>ac 61
  | _=>ac 62
theorem s8 {o:Oper} {t:TypeId} {X Y:Operand} {k:Nat→Nat→List AV→Prop} (ht:TR G E S.t a) (ho:o.op=.makeSlice t X Y)
    (h:a_ S X fun l=>a_ S Y fun c=>qA P t l c k):∃ sz n cs ob z,k sz n cs∧(execOp a.eval o).run P w=.ok (.value z) { w with heap:=w.heap.push ob } ∧
      (∀ E':Env,E'.h=w.heap.push ob→b9 E' (some (.arr true sz (List.replicate n cs))) (some (.blk w.heap.size 0 sz n))) ∧
      ∀ (E':Env) (j:Nat),E'.h=w.heap.push ob→E'.mu (.O j)=some (.blk w.heap.size 0 sz n)→VR E' (.mf j) z:=by
  obtain ⟨l,h,hl⟩:=bm h ht
  obtain ⟨c,h,hc⟩:=bm h ht
  unfold qA at h
  split at h
  · rename_i e hu
    split at h
    · rename_i i hi
      replace h:=aI h hl
      obtain ⟨kl,nl,el,h⟩:=h
      replace h:=aI h hc
      obtain ⟨kc,nc,ec,h⟩:=h
      replace h:=ab h; obtain ⟨hb,h⟩:=h
      simp only [Bool.and_eq_true,decide_eq_true_eq] at hb
      obtain ⟨⟨⟨⟨h1,h2⟩,h3⟩,h4⟩,h5⟩:=hb
      have h0:0<i.size:=Nat.le_of_ble_eq_true h5
      obtain ⟨i',z,cs,hi',hz,hzs,h,hcs⟩:=bf h
      rw [hi] at hi'
      cases hi'
      have hcl:cs.length=i.size:=by have:=(hcs E).1; simpa [hzs] using this
      refine ⟨i.size,nl.toNat,cs,.cells (f0 z.cells (nc.toNat * i.size)) e,.slice (some ⟨w.heap.size,0,none⟩) nl.toNat nc.toNat,h,?_,fun E' hh=>?_,fun E' j hh hmu=>?_⟩
      · have hw1:IntKind.i64.wrap nl=nl:=j4 h1 (by omega)
        have hw2:IntKind.i64.wrap nc=nc:=j4 (by omega) (by omega)
        have hx:(execOp a.eval o)=(do pure (.value (← Instr.makeSlice t (.int kl nl) (.int kc nc)))):=by
          unfold execOp
          rw [ho,← el,← ec]
        rw [hx,Sem.run_bind]
        unfold Instr.makeSlice
        simp only [Sem.run_bind,run_underlying hu,Result.andThen_ok,asInt,asIntOf,Sem.run_pure,run_typeInfo w hi,hw1,hw2]
        have hcond:((decide (nc<0)||decide (↑i.bytes * nc>2 ^ 48))||decide (nl<0)||decide (nl>nc))=false:=by
          simp only [Bool.or_eq_false_iff,decide_eq_false_iff_not]
          refine ⟨⟨⟨by omega,?_⟩,by omega⟩,by omega⟩
          have:((2:Int) ^ 48)=281474976710656:=by decide
          rw [this]
          omega
        rw [hcond]
        simp only [Bool.false_eq_true,if_false,Sem.run_bind,run_askRoom,Result.andThen_ok,run_sizeOf hi]
        by_cases hh:nc.toNat * i.size=0
        · rw [if_pos hh]
          have e0:f0 z.cells (nc.toNat * i.size)=(Array.range (nc.toNat * i.size)).map (fun x=>(#[]:Array Value)[x % (#[]:Array Value).size]!):=by
            apply Array.ext_getElem?
            intro m
            rw [hh]
            simp [f0]
          rw [e0]
          rfl
        · rw [if_neg hh]
          simp only [Sem.run_bind,bg hi hz,Result.andThen_ok,Sem.run_pure]
          rfl
      · refine ⟨⟨rfl,by simp⟩,?_⟩
        rw [hh]
        refine aX.of_rows h0 (fun r hr=>by rw [List.eq_of_mem_replicate hr]; exact hcl) (bu w _) ?_ (fun i' row r c' h6 h7=>?_)
        · rw [List.length_replicate,dB,Nat.zero_add]
          exact Nat.mul_le_mul_right _ (by omega)
        · obtain ⟨u,hu',hv⟩:=pt (hcs E'.fz) hzs (n:=nc.toNat * i.size) (Nat.mul_le_mul_right _ (by omega)) h6 h7
          exact ⟨u,hu',hv⟩
      · refine .mf _ hmu (by omega) ?_
        rw [hh]
        unfold au
        rw [bu]
        simp [dB]
    · exact False.elim h
  · exact False.elim h
theorem qB {nw:Bool} {j:Nat} {t:TypeId} {l c:AV} {k:AV→St→Prop} (h:dh P nw j t l c S k):qA P t l c fun sz n cs=>sz=1∧cs=[.nilsl]∧∃ s2,0<mB s2∧gZ j S.o S.b (.own none s2 (List.replicate n none) none) fun o=>k (.mf j) { t:=S.t,l:=S.l,o:=o,b:=S.b }:=by
  unfold dh at h
  unfold qA
  split at h
  · rename_i e hu
    try rw [hu]
    try dsimp only
    split at h
    · rename_i i e2 hi he
      try rw [hi]
      try dsimp only
      split at h
      · rename_i i2 hi2
        refine gC h (fun nl h=>?_)
        refine gC h (fun nc h=>?_)
        obtain ⟨hb,h⟩:=ab h
        rw [Bool.and_eq_true,Bool.and_eq_true] at hb
        refine af hb.1.1 ?_
        have h1:=Nat.eq_of_beq_eq_true hb.1.2
        have hb2:=hb.2
        rw [Bool.and_eq_true,Nat.blt_eq,Nat.blt_eq] at hb2
        have h2:0<i2.size:=hb2.1
        refine kg h (fun z h=>?_)
        split at h
        · refine ⟨h1,rfl,_,?_,h⟩
          cases nw with
          | true =>
            show 0<mB (i2.size + 65536)
            unfold mB q6
            have:Nat.ble 65536 (i2.size + 65536)=true:=by simp
            rw [this]
            show 0<i2.size + 65536 - 65536
            omega
          | false =>
            show 0<mB i2.size
            unfold mB q6
            cases hbb:Nat.ble 65536 i2.size with
            | true =>
              have:=Nat.le_of_ble_eq_true hbb
              have:=hb2.2
              omega
            | false=>exact h2
        · exact h.elim
      · exact h.elim
    · exact h.elim
  · exact h.elim
theorem oH {o:Oper} {nw:Bool} {j:Nat} {t:TypeId} {X Y:Operand} {K:St→Prop} (hM:ad G p E S w) (ht:TR G E S.t a) (ho:o.op=.makeSlice t X Y) (h:a_ S X fun l=>a_ S Y fun c=>dh P nw j t l c (bp S) fun r M=>aA o.dst r (cq S M) K):bv P G p o a w K:=by
  obtain ⟨sz,n,cs,ob,z,⟨h1,h2,s2,hs2,hk⟩,hrun,hO,hv⟩:=s8 (w:=w) ht ho (pz h (fun l h=>pz h (fun c h=>qB h)))
  subst h1
  subst h2
  obtain ⟨hb,hd,hk⟩:=mR hk
  rw [al] at hk
  have hk:K (fa { t:=S.t,l:=S.l,o:=(S.o++List.replicate (j + 1 - S.o.length) Ob.dead).set j (.own none s2 (List.replicate n none) none),b:=S.b } o.dst (.mf j)):=hk
  have hd:(S.o++List.replicate (j + 1 - S.o.length) Ob.dead)[j]?=some .dead:=hd
  have hM1:=hM.pad (j + 1 - S.o.length)
  generalize S.o++List.replicate (j + 1 - S.o.length) Ob.dead=O1 at hk hd hM1
  have hlt:j<O1.length:=(List.getElem?_eq_some_iff.1 hd).1
  refine (uX (S:={ t:=S.t,l:=S.l,o:=O1,b:=S.b }) (x:=.arr true 1 (List.replicate n [.nilsl])) (K:=fun S2=>S2=fa { t:=S.t,l:=S.l,o:=O1.set j (.arr true 1 (List.replicate n [.nilsl])),b:=S.b } o.dst (.mf j)) (r:=.mf j) hM1 ht hd hb rfl hrun hO (fun E' e hmu=>hv E' j e hmu) rfl).then (fun S' E' a' w' hk' hS htr=>?_)
  subst hk'
  have hS':=hS.congr (M':={ t:=S.t,l:=S.l,o:=O1.set j (.arr true 1 (List.replicate n [.nilsl])),b:=S.b }) aV.symm aW.symm a2.symm
  have hS2:=rN hS' (id:=j) (n:=n) hs2 (List.getElem?_set_self hlt)
  refine ⟨_,E',hk,hS2.congr aV ?_ a2,?_⟩
  · rw [aW]
    show _=(O1.set j _).set j _
    rw [List.set_set]
  · have:(fa { t:=S.t,l:=S.l,o:=O1.set j (.own none s2 (List.replicate n none) none),b:=S.b } o.dst (.mf j)).t=(fa { t:=S.t,l:=S.l,o:=O1.set j (.arr true 1 (List.replicate n [.nilsl])),b:=S.b } o.dst (.mf j)).t:=by cases o.dst <;> rfl
    rw [this]
    exact htr
theorem kV {o:Oper} {t:TypeId} {K:St→Prop} (hM:ad G p E S w) (ht:TR G E S.t a) (ho:o.op=.makeMap t none) (h:cL P t (bp S) fun r M=>aA o.dst r (cq S M) K):bv P G p o a w K:=by
  unfold cL at h
  split at h
  · split at h
    · split at h
      · rename_i i2 _
        obtain ⟨hsz0,h⟩:=ab h
        rw [Bool.and_eq_true,Nat.blt_eq,Nat.blt_eq] at hsz0
        have hsz:0<mB i2.size:=by
          unfold mB q6
          cases hbb:Nat.ble 65536 i2.size with
          | true =>
            have:=Nat.le_of_ble_eq_true hbb
            have:=hsz0.2
            omega
          | false=>exact hsz0.1
        rw [ak,al] at h
        have h1:ay (S.o++[.mapo true []]) fun o'=>aA o.dst (.mp S.o.length) { t:=S.t,l:=S.l,o:=o',b:=S.b } fun S2=>S2=fa { t:=S.t,l:=S.l,o:=S.o++[.mapo true []],b:=S.b } o.dst (.mp S.o.length):=by
          rw [ak,al]
        refine (i0 hM ht ho h1).then (fun S' E' a' w' hk hS htr=>?_)
        subst hk
        have hS':=hS.congr (M':={ t:=S.t,l:=S.l,o:=S.o++[.mapo true []],b:=S.b }) aV.symm aW.symm a2.symm
        have hob:(S.o++[Ob.mapo true []])[S.o.length]?=some (.mapo true []):=by
          rw [List.getElem?_append_right (Nat.le_refl _),Nat.sub_self]
          rfl
        have hw:=hS'.ow S.o.length
        rw [show ({ t:=S.t,l:=S.l,o:=S.o++[.mapo true []],b:=S.b }:St).o[S.o.length]?=_ from hob] at hw
        have hw:∀ i,E'.mu (.S S.o.length i)=none:=hw
        have hOb:=hS'.obj S.o.length
        rw [show ({ t:=S.t,l:=S.l,o:=S.o++[.mapo true []],b:=S.b }:St).o[S.o.length]?=_ from hob] at hOb
        obtain ⟨_,hS2⟩:=hS'.reS (id:=S.o.length) (mu':=E'.mu) (fun _ _=>rfl) (fun j b o s n h=>by rw [hw j] at h; cases h) (fun j j' b o s n o2 s2 n2 h h'=>by rw [hw j] at h; cases h) hob (fun e=>by cases e)
          (y:=.own (some []) i2.size [] none) (by
            revert hOb
            cases E'.mu (.O S.o.length) with
            | none=>exact fun h=>h.elim
            | some mv =>
              cases mv with
              | virt=>exact fun h=>h.elim
              | blk b o s n=>exact fun _ e=>by cases e) ⟨hsz,fun i _=>hw i,fun b o s n hm=>by
            rw [hm] at hOb
            obtain ⟨ms,clock,h1,⟨h2,h3⟩,_⟩:=hOb
            exact ⟨⟨ms,clock,h1,⟨h2,rfl,h3⟩,fun i k m hk=>by simp at hk⟩,fun i c hi=>by simp at hi⟩⟩
        have e:(S.o++[Ob.mapo true []]).set S.o.length (Ob.own (some []) i2.size [] none)=S.o++[Ob.own (some []) i2.size [] none]:=by
          rw [List.set_append_right _ _ (Nat.le_refl _),Nat.sub_self]
          rfl
        refine ⟨_,E',h,hS2.congr ?_ ?_ ?_,?_⟩
        · exact aV
        · rw [aW]; exact e.symm
        · exact a2
        · have:(fa (cq S { t:=(bp S).t,l:=(bp S).l,o:=(bp S).o++[Ob.own (some []) i2.size [] none],b:=(bp S).b }) o.dst (.mp (bp S).o.length)).t=(fa { t:=S.t,l:=S.l,o:=S.o++[.mapo true []],b:=S.b } o.dst (.mp S.o.length)).t:=by cases o.dst <;> rfl
          rw [this]
          exact htr
      · exact h.elim
    · exact h.elim
  · exact h.elim
theorem m7 {C:Ctx} {pl:aD} {o:Oper} {K:St→Prop} (hM:ad G p E S w) (ht:TR G E S.t a) (h:qc C pl o S K):bv C.P G p o a w K:=by
  have jR:∀ {M':St} {E':Env} {w':World} {r:AV} {z:Value},aA o.dst r (cq S M') K→ad G p E' M' w'→LE E E'→VR E' r z→(execOp a.eval o).run C.P w=.ok (.value z) w'→∀ (next:Act→World→Prop) (Q:Exit→Act→World→Prop),(∀ S' E' a' w',K S'→ad G p E' S' w'→TR G E' S'.t a'→next a' w')→o.wp C.P a w next Q:=by
    intro M' E' w' r z hk hS hle hv hrun next Q hn
    rw [al] at hk
    refine bk hrun ?_
    exact hn _ E' _ w' hk (hS.congr (by rw [aV]; rfl) (by rw [aW]; rfl) (by rw [a2]; rfl)) ((TR.mono (t:=S.t) ht hle).put (S:=cq S M') hv)
  have fin2:∀ {M':St} {E':Env} {w':World},aA o.dst .bad (cq S M') K→ad G p E' M' w'→LE E E'→(execOp a.eval o).run C.P w=.ok .skip w'→∀ (next:Act→World→Prop) (Q:Exit→Act→World→Prop),(∀ S' E' a' w',K S'→ad G p E' S' w'→TR G E' S'.t a'→next a' w')→o.wp C.P a w next Q:=by
    intro M' E' w' hk hS hle hrun next Q hn
    rw [al] at hk
    unfold Oper.wp
    rw [hrun]
    exact hn _ E' (a.put o.dst undef) w' hk (hS.congr (by rw [aV]; rfl) (by rw [aW]; rfl) (by rw [a2]; rfl)) ((TR.mono (t:=S.t) ht hle).put (S:=cq S M') (.bad _ _))
  have hM0:ad G p E (bp S) w:=hM.congr rfl rfl rfl
  by_cases hmk:∃ t X Y,o.op=.makeSlice t X Y
  · obtain ⟨t,X,Y,ho⟩:=hmk
    refine oH (nw:=bh pl.nw (o.dst.getD 0)) (j:=mE pl.ix o.dst S.o.length) hM ht ho ?_
    unfold qc at h
    unfold fF at h
    rw [ho] at h
    exact h
  by_cases hmm:∃ t,o.op=.makeMap t none
  · obtain ⟨t,ho⟩:=hmm
    refine kV hM ht ho ?_
    unfold qc at h
    unfold fF at h
    rw [ho] at h
    exact h
  unfold qc at h
  obtain ⟨vs,h,hv⟩:=bj ht h
  unfold fF at h
  intro next Q hn
  split at h
  · rename_i t x pv ho
    rw [ho] at hv
    have hv:aO E [pv] [a.eval x]:=by simpa [Op.operands] using hv
    obtain ⟨u,us,e,hp,hnl⟩:=hv.uncons
    cases e
    obtain ⟨id,i,b,off,n,sz,cells,hole,h,hob,hmu,hu⟩:=j9 hM0 hp h
    obtain ⟨M',E',r,z,hk,hS,hle,hr,hrun⟩:=m3 hM0 hob hmu h
    exact jR hk hS hle hr (by simp [execOp,ho,hu,hrun]) next Q hn
  · rename_i t x y pv v ho
    rw [ho] at hv
    have hv:aO E [pv,v] [a.eval x,a.eval y]:=by simpa [Op.operands] using hv
    obtain ⟨u,us,e,hp,hv⟩:=hv.uncons
    cases e
    obtain ⟨u,us,e,hy,hv⟩:=hv.uncons
    cases e
    obtain ⟨id,i,b,off,n,sz,cells,hole,h,hob,hmu,hu⟩:=j9 hM0 hp h
    obtain ⟨M',E',w',hk,hS,hle,hrun⟩:=l7 hM0 hmu hy h
    exact fin2 hk hS hle (by simp [execOp,ho,hu,hrun]) next Q hn
  · rename_i t X Y l c ho
    exact absurd ⟨t,X,Y,ho⟩ hmk
  · rename_i t ho
    exact absurd ⟨t,ho⟩ hmm
  · rename_i t X Y ok m key ho
    rw [ho] at hv
    have hv:aO E [m,key] [a.eval X,a.eval Y]:=by simpa [Op.operands] using hv
    obtain ⟨u,us,e,hm,hv⟩:=hv.uncons
    cases e
    obtain ⟨u,us,e,hkey,hv⟩:=hv.uncons
    cases e
    obtain ⟨M',E',r,z,hk,hS,hle,hr,hrun⟩:=m6 hM0 hm hkey h
    exact jR hk hS hle hr (by simp [execOp,ho,hrun]) next Q hn
  · rename_i t X Y Z m key x ho
    rw [ho] at hv
    have hv:aO E [m,key,x] [a.eval X,a.eval Y,a.eval Z]:=by simpa [Op.operands] using hv
    obtain ⟨u,us,e,hm,hv⟩:=hv.uncons
    cases e
    obtain ⟨u,us,e,hkey,hv⟩:=hv.uncons
    cases e
    obtain ⟨u,us,e,hx,hv⟩:=hv.uncons
    cases e
    obtain ⟨M',E',w',hk,hS,hle,hrun⟩:=i7 hM0 hm hkey hx h
    exact fin2 hk hS hle (by simp [execOp,ho,hrun]) next Q hn
  · rename_i t X Y Z m key x ho
    rw [ho] at hv
    have hv:aO E [m,key,x] [a.eval X,a.eval Y,a.eval Z]:=by simpa [Op.operands] using hv
    obtain ⟨u,us,e,hm,hv⟩:=hv.uncons
    cases e
    obtain ⟨u,us,e,hkey,hv⟩:=hv.uncons
    cases e
    obtain ⟨u,us,e,hx,hv⟩:=hv.uncons
    cases e
    obtain ⟨M',E',w',hk,hS,hle,hrun⟩:=i7 hM0 hm hkey hx h
    exact fin2 hk hS hle (by simp [execOp,ho,hrun]) next Q hn
  · exact h.elim
end
def rd (r:Option Nat):Fence:={ Fence.wide with round:=r }
def xK (P:Program) (id:Nat) (args:List AV) (o:List Ob) (K:AV→List Ob→Prop):Prop :=
  ∀ (rr:Option Nat) (E:Env) (w:World) (us:Array Value),ad (rK E w) pn E (og o o.length) w→qh E→aO E args us.toList →
    ∃ l x y z,E.mu (.O id)=some (.blk l x y z)∧YieldAt (rd rr) 0 P l us w fun e w'=>∃ v r o' E',K r o'∧e=.returned v∧ad (rK E w) pn E' (og o' o.length) w'∧VR E' r v
structure bH (C:Ctx):Prop where
  pcall:∀ f args K,C.pcall f args K→bW C.P f args K
  scall:∀ f args o K,C.scall f args o K→i4 C.P f args o K
  ycall:∀ id args o K,C.ycall id args o K→xK C.P id args o K
section
variable {G:Gh} {pd:Nat→Option (List AV)} {E:Env} {S:St} {w:World} {C:Ctx} {pl:aD} {o:Oper} {a:Act} {K:St→Prop}
theorem pA (hM:ad G pd E S w):ad G pd E (bp S) w:=hM.congr rfl rfl rfl
theorem m8 (hM:ad G pd E S w) (ht:TR G E S.t a) (h:uH C pl o S K):bv C.P G pd o a w K:=by
  obtain ⟨vs,h,hv⟩:=bj ht h
  by_cases hb:∃ t len parts,o.op=.buildSlice t len parts
  · obtain ⟨t,len,parts,ho⟩:=hb
    unfold pop at h
    rw [ho] at h
    replace h:=ab h; obtain ⟨hp,h⟩:=h
    have hl:parts.toList.length=vs.length:=by simpa using Nat.eq_of_beq_eq_true hp
    have hv':aO E vs ((parts.toList.map (·.2)).map a.eval):=by
      rw [ho] at hv
      simpa [Op.operands] using hv
    refine bv.of1 (S:=S) ⟨rfl,rfl,rfl⟩ ht (oB hM ho hl hv' h) (fun r M' hk=>?_)
    obtain ⟨hk,rfl⟩:=hk
    rw [al] at hk
    exact ⟨_,hk,rfl⟩
  · have hs:∀ t len parts,o.op≠.buildSlice t len parts:=fun t len parts he=>hb ⟨t,len,parts,he⟩
    obtain ⟨r,z,hk,hr,hrun⟩:=uN h hs hv w
    rw [al] at hk
    intro next Q hn
    exact bk hrun (hn _ E _ w hk (hM.congr aV aW a2) (ht.put hr))
theorem m9 (hC:bH C) (hM:ad G pd E S w) (ht:TR G E S.t a) (h:uI C o S K):bv C.P G pd o a w K:=by
  obtain ⟨vs,h,hv⟩:=bj ht h
  refine bv.of1 (S:=S) (M:=bp S) ⟨rfl,rfl,rfl⟩ ht (uR hC.pcall (pA hM) ht.gt h hv) (fun r M' hk=>?_)
  obtain ⟨hk,rfl⟩:=hk
  rw [al] at hk
  exact ⟨_,hk,rfl⟩
theorem m_ (hM:ad G pd E S w) (ht:TR G E S.t a) (h:uJ C o S K):bv C.P G pd o a w K:=by
  obtain ⟨vs,h,hv⟩:=bj ht h
  refine bv.of1 (S:=S) (M:=bp S) ⟨rfl,rfl,rfl⟩ ht (uQ (pA hM) h hv) (fun r M' hk=>?_)
  rw [al] at hk
  exact ⟨_,hk,by cases o.dst <;> rfl⟩
theorem pB (hC:bH C) (hpd:rc pl o=true→∀ d,o.dst=some d→pd d=none) (hM:ad G pd E S w) (ht:TR G E S.t a) (h:mJ C pl o S K):bv C.P G pd o a w K:=by
  unfold mJ at h
  split at h
  · rename_i e ho
    exact ry (fun d hd _=>hpd (by unfold rc; rw [ho]) d hd) hM ht ho h
  · rename_i e x ho
    exact rz (fun d hd he=>hpd (by unfold rc; rw [ho]; dsimp only; rw [hd]; show (!(bh pl.esc d))=true; rw [he]; rfl) d hd) hM ht ho h
  · rename_i t len parts ho
    exact kS hM ht ho h
  · rename_i t r ho
    cases r with
    | none=>exact i0 hM ht ho h
    | some r=>exact False.elim h
  · rename_i t l c ho
    exact gS (bx:=bh pl.nn (o.dst.getD 0)) hM ht ho h
  · rename_i t m key x ho
    exact l6 hM ht ho h
  · rename_i t m key x ho
    exact qy hM ht ho h
  · rename_i c ho
    split at h
    · rename_i b hcal
      split at h
      · obtain ⟨vs,h,hv⟩:=bj ht h
        split at h
        · rename_i x kd n
          obtain ⟨u,us,e,hc,hn⟩:=hv.uncons
          obtain ⟨u1,us1,rfl,hc1,hn1⟩:=hn.uncons
          have:=hn1.unnil
          subst this
          obtain ⟨rfl,_⟩:=hc1.vI
          exact oD hM ht ho hcal e hc h
        · rename_i y _
          obtain ⟨u,us,e,hc,hn⟩:=hv.uncons
          obtain ⟨u1,us1,rfl,hc1,hn1⟩:=hn.uncons
          have:=hn1.unnil
          subst this
          exact oC hM ht ho hcal e hc hc1 (ab h).2
        · rename_i x y _ _
          obtain ⟨u,us,e,hc,hn⟩:=hv.uncons
          obtain ⟨u1,us1,rfl,hc1,hn1⟩:=hn.uncons
          have:=hn1.unnil
          subst this
          exact qv hM ht ho hcal e hc hc1 h
        · exact False.elim h
      · obtain ⟨vs,h,hv⟩:=bj ht h
        split at h
        · rename_i x y
          obtain ⟨u,us,e,hc,hn⟩:=hv.uncons
          obtain ⟨u1,us1,rfl,hc1,hn1⟩:=hn.uncons
          have:=hn1.unnil
          subst this
          exact s4 hM ht ho hcal e hc hc1 h
        · exact False.elim h
      · obtain ⟨vs,h,hv⟩:=bj ht h
        split at h
        · rename_i x
          obtain ⟨u,us,e,hc,hn⟩:=hv.uncons
          have:=hn.unnil
          subst this
          exact rJ hM ht ho hcal e hc h
        · exact False.elim h
      · exact False.elim h
    · rename_i f hcal
      obtain ⟨fv,h,hf⟩:=bm h ht
      obtain ⟨as,h,has⟩:=bj ht h
      unfold oY at h
      split at h
      · rename_i fid first cap
        split at h
        · exact mY hC.pcall hM ht ho hcal hf has h
        · replace h:=ab h; obtain ⟨hnl,h⟩:=h
          exact lF hM ht ho hcal hf has hnl (hC.scall _ _ _ _ h)
      · exact False.elim h
    · exact False.elim h
  · exact False.elim h
theorem s9 (hC:bH C) (hM:ad G pn E S w) (ht:TR G E S.t a) (h:qd C pl o S K):bv C.P G pn o a w K:=by
  unfold qd at h
  split at h
  · exact m8 hM ht h
  · exact m9 hC hM ht h
  · exact m_ hM ht h
  · exact pB hC (fun _ _ _=>rfl) hM ht h
theorem kW (hC:bH C) (hM:ad G pn E S w) (ht:TR G E S.t a) (h:wU C pl o S K):bv C.P G pn o a w K:=by
  unfold wU at h
  split at h
  · exact m7 hM ht h
  · exact s9 hC hM ht h
theorem kh {r:Option Nat} {n:Nat} {P:Program} {f:FuncId} {args:Array Value} {w:World} {R:Ending→World→Prop}:CallsIn (rd r) n P f args w R↔Calls P f args w R:=callsIn_wide (n:=n)
theorem v5 {r:Option Nat} {P:Program} {m m':Machine}:StepsIn (Machine.fenced P (rd r)) P m m'↔Steps P m m':=stepsIn_wide
theorem pD {r:Option Nat} {n:Nat} {P:Program} {o:Oper} {a:Act} {w:World} {next:Act→World→Prop} {Q:Exit→Act→World→Prop} (hd:∀ c,o.op≠.defer c) (h:o.wp P a w next Q):o.wpIn (rd r) n P a w next Q:=by
  refine ⟨fun _ _=>trivial,?_⟩
  rw [Oper.semAt_eq _ _ _ hd]
  unfold Oper.wp at h
  revert h
  generalize (execOp a.eval o).run P w=x
  intro h
  have hn:((rd r).depth.isSome=true→1≤n):=fun h=>by cases h
  cases x with
  | ok x w' =>
    cases x with
    | enter f args=>exact ⟨hn,kh.2 (Calls.mono h (fun e w'' he=>by cases e <;> exact he))⟩
    | row row args=>exact ⟨hn,fun c cs _=>let ⟨v,w',hr,s⟩:=h c cs; ⟨v,w',hr,v5.2 s⟩⟩
    | _=>first | exact h | exact False.elim h
  | halt x w'=>cases x <;> first | exact h | exact False.elim h
theorem s_ {C:Ctx} {pl:aD} {o:Oper} {S:St} {K:St→Prop} (h:wU C pl o S K) (c:Call):o.op≠.defer c:=by
  intro ho
  have hc:vM o=3:=by unfold vM; rw [ho]
  have hw:cK pl o=false:=by unfold cK; rw [ho]
  have h0:qd C pl o S K:=by unfold wU at h; rw [hw] at h; exact h
  have h1:mJ C pl o S K:=by unfold qd at h0; rw [hc] at h0; exact h0
  unfold mJ at h1
  rw [ho] at h1
  exact h1
theorem TR.lit {d:Nat} {b:Bool} (ht:TR G E S.t a) (hd:S.t[d]?=some (.v (.bool b))):a.tmps[d]?=some (.bool b):=by
  have hlt:d<a.tmps.size:=by rw [← ht.len]; exact (List.getElem?_eq_some_iff.1 hd).1
  rw [Array.getElem?_eq_getElem hlt]
  have:=ht.val d _ _ hd (Array.getElem?_eq_getElem hlt)
  rw [this.vI.1]
theorem TR.relit {d:Nat} {b:Bool} (ht:TR G E S.t a) (hd:S.t[d]?=some (.v (.bool b))):TR G E (S.t.set d (.v (.bool b))) a:=by
  have:S.t.set d (.v (.bool b))=S.t:=by
    apply List.ext_getElem?
    intro j
    rw [List.getElem?_set]
    by_cases hj:d=j
    · subst hj
      rw [if_pos rfl,if_pos (List.getElem?_eq_some_iff.1 hd).1,hd]
    · rw [if_neg hj]
  rw [this]
  exact ht
theorem rO {d:Nat} {k:Bool→St→Prop} (hM:ad G pd E S w) (ht:TR G E S.t a) (h:mz d S k):∃ b S1,k b S1∧a.tmps[d]?=some (.bool b)∧ad G pd E S1 w∧TR G E S1.t a:=by
  unfold mz at h
  rw [aY] at h
  obtain ⟨c,hc,h⟩:=h
  split at h
  · rename_i b
    rcases ga h with ⟨hb,h2⟩ | ⟨hb,h2⟩
    · subst hb
      rw [bV] at h2
      exact ⟨true,_,h2,ht.lit hc,hM.congr rfl rfl rfl,ht.relit hc⟩
    · subst hb
      rw [bV] at h2
      exact ⟨false,_,h2,ht.lit hc,hM.congr rfl rfl rfl,ht.relit hc⟩
  · exact False.elim h
theorem eN {d:Nat} {k:Option Bool→St→Prop} (hM:ad G pd E S w) (ht:TR G E S.t a) (h:cW d S k) :
    ∃ b S1,k b S1∧(match b with | some b=>a.tmps[d]?=some (.bool b) | none=>a.tmps[d]?=some (.tuple #[]))∧ad G pd E S1 w∧TR G E S1.t a:=by
  unfold cW at h
  rw [aY] at h
  obtain ⟨c,hc,h⟩:=h
  split at h
  · rename_i b
    rcases ga h with ⟨hb,h2⟩ | ⟨hb,h2⟩
    · subst hb
      rw [bV] at h2
      exact ⟨some true,_,h2,ht.lit hc,hM.congr rfl rfl rfl,ht.relit hc⟩
    · subst hb
      rw [bV] at h2
      exact ⟨some false,_,h2,ht.lit hc,hM.congr rfl rfl rfl,ht.relit hc⟩
  · refine ⟨none,S,h,?_,hM,ht⟩
    have hlt:d<a.tmps.size:=by rw [← ht.len]; exact (List.getElem?_eq_some_iff.1 hc).1
    show a.tmps[d]?=_
    rw [Array.getElem?_eq_getElem hlt]
    obtain ⟨us,hu,hv⟩:=(ht.val d _ _ hc (Array.getElem?_eq_getElem hlt)).tupI
    rw [hu]
    have:=hv.unnil
    have:us=#[]:=by apply Array.ext'; simpa using this
    rw [this]
  · exact False.elim h
theorem gD {ops:Array Oper} {j d:Nat} {b:Option Bool} (hd:jX ops j=some d) (hb:match b with | some b=>a.tmps[d]?=some (.bool b) | none=>a.tmps[d]?=some (.tuple #[])):yielded ops a.tmps j=b:=by
  unfold yielded
  unfold jX at hd
  rw [hd]
  cases b with
  | some b=>simp [hb]
  | none=>simp [hb]
theorem ki (E:Env):VR E (.tup []) undef:=.tup #[] rfl (fun m c u h=>by simp at h)
theorem fO {o:Oper} {f:Nat→Option Bool} {j:Nat} {want:Bool} {b:Option Bool} {X Y:Prop} (hg:o.guard=some (j,want)) (hf:f j=b) (h:gsel b want X Y):(Region.wanted o f=true∧X)∨(Region.wanted o f=false∧Y):=by
  unfold Region.wanted
  rw [hg]
  simp only [hf]
  cases b with
  | none=>exact .inr ⟨rfl,h⟩
  | some b =>
    cases b <;> cases want
    · exact .inl ⟨rfl,h⟩
    · exact .inr ⟨rfl,h⟩
    · exact .inr ⟨rfl,h⟩
    · exact .inl ⟨rfl,h⟩
theorem w6 (hC:bH C) {rr:Option Nat} (hM:ad G pn E S w) (ht:TR G E S.t a) (h:sR C pl o S K) (next:Act→World→Prop) (Q:Exit→Act→World→Prop)
    (hn:∀ S' E' a' w',K S'→ad G pn E' S' w'→TR G E' S'.t a'→next a' w'):o.wpIn (rd rr) 0 C.P a w next Q:=by
  unfold sR at h
  split at h
  · rename_i id xs hy
    obtain ⟨c,d,ho,hcal,hd,rfl⟩:∃ c d,o.op=.call c∧c.callee=.value (.tmp d)∧S.t[d]?=some (.yld id)∧xs=c.args.toList:=by
      unfold xJ at hy
      split at hy
      · rename_i c ho
        split at hy
        · rename_i d hcal
          split at hy
          · rename_i id' hd
            cases hy
            exact ⟨c,d,ho,hcal,hd,rfl⟩
          · cases hy
        · cases hy
      · cases hy
    obtain ⟨vs,h,hv⟩:=bj ht h
    obtain ⟨hnl,h⟩:=ab h
    have hlt:d<a.tmps.size:=by rw [← ht.len]; exact (List.getElem?_eq_some_iff.1 hd).1
    have hvd:=ht.val d _ _ hd (Array.getElem?_eq_getElem hlt)
    have hx0:a.eval (.tmp d)=a.tmps[d]:=by
      show a.tmps.getD d undef=_
      rw [Array.getD_eq_getD_getElem?,Array.getElem?_eq_getElem hlt]
      rfl
    obtain ⟨l',x',y',z',hmu',hfv⟩:∃ l x y z,E.mu (.O id)=some (.blk l x y z)∧a.eval (.tmp d)=.func (.yield l) #[] #[]:=by
      rw [hx0]
      generalize a.tmps[d]=u at hvd
      cases hvd with
      | yld hm=>exact ⟨_,_,_,_,hm,rfl⟩
    obtain ⟨l,x,y,z,hmu,fn,tmps,asg,body,hrun,hround⟩:=hC.ycall _ _ _ _ h rr E.ob w (c.args.map a.eval) hM.sub ht.gt ⟨by have:=hv.1; simpa using this,fun m c' u hc hu=>dv 4 (List.all_eq_true.1 hnl c' (List.mem_of_getElem? hc)) (hv.2 m c' u hc (by simpa using hu))⟩
    have hll:l=l':=by
      have h9:E.mu (.O id)=some (.blk l x y z):=hmu
      rw [hmu'] at h9
      cases h9
      rfl
    subst hll
    have hnd:∀ c,o.op≠.defer c:=fun c' h=>by rw [ho] at h; cases h
    refine ⟨fun _ _=>trivial,?_⟩
    rw [Oper.semAt_eq _ _ _ hnd]
    have hex:(execOp a.eval o).run C.P w=.ok (.round l fn tmps asg body) w:=by
      simp [execOp,ho,resolve,hcal,hfv,Deferred.ofValue,invoke,hrun]
    rw [hex,Oper.uponIn_round]
    refine ⟨(fun h=>by cases h),hround.mono ?_⟩
    rintro e w' ⟨v,r,o',E',hK,rfl,hM',hvr⟩
    rw [fg,al] at hK
    obtain ⟨hS,htr,hle⟩:=hM.back ht hM'
    exact hn _ _ _ w' hK (hS.congr aV aW a2) (htr.put (hvr.mono hle))
  · exact pD (s_ h) (kW hC hM ht h _ _ hn)
theorem jA (hC:bH C) {rr:Option Nat} {all:Array Oper} {Q:Exit→Act→World→Prop}:∀ {ops:List Oper} {E:Env} {S:St} {w:World} {a:Act} {K:St→Prop},ad G pn E S w→TR G E S.t a→kM C pl all ops S K →
    (∀ S' E' a' w',K S'→ad G pn E' S' w'→TR G E' S'.t a'→Q .normal a' w')→wpListIn (rd rr) 0 C.P all Q ops a w
  | [],E,S,w,a,K,hM,ht,h,hQ=>hQ _ _ _ _ h hM ht
  | o::rest,E,S,w,a,K,hM,ht,h,hQ=>by
    have step:∀ {S1:St},ad G pn E S1 w→TR G E S1.t a→Region.wanted o (yielded all a.tmps)=true→(sR C pl o S1 fun S'=>kM C pl all rest S' K)→wpListIn (rd rr) 0 C.P all Q (o::rest) a w:=by
      intro S1 hM1 ht1 hw h
      unfold wpListIn
      rw [if_pos hw]
      refine w6 hC hM1 ht1 h _ _ (fun S' E' a' w' hk hS htr=>?_)
      exact jA hC hS htr hk hQ
    unfold kM at h
    split at h
    · rename_i hg
      exact step hM ht (by unfold Region.wanted; rw [hg]) h
    · rename_i j want hg
      split at h
      · exact False.elim h
      · rename_i d hd
        obtain ⟨b,S1,h,hb,hM1,ht1⟩:=eN hM ht h
        rcases fO hg (gD hd hb) h with ⟨hw,h⟩ | ⟨hw,h⟩
        · exact step hM1 ht1 hw h
        · rw [al] at h
          unfold wpListIn
          rw [if_neg (by rw [hw]; exact fun h=>by cases h)]
          exact ⟨fun _ _=>trivial,jA hC (hM1.congr aV aW a2) (ht1.put (ki _)) h hQ⟩
end
def w7:Ex→Exit
  | .nrm=>.normal
  | .ex i=>.exit i
  | .ret=>.ret
def vD (G:Gh) (K:Ex→St→Prop) (Q:Exit→Act→World→Prop):Prop:=∀ e S' E' a' w',K e S'→ad G pn E' S' w'→TR G E' S'.t a'→Q (w7 e) a' w'
def RF (C:Ctx) (c:Code) (r:Option Nat):Prop:=C.rf=true→mL c=true∨r=none
def f5 (C:Ctx):Prop:=∀ pl c S K,C.loop pl c S K→∀ (r:Option Nat),RF C c r→∀ (G:Gh) (E:Env) (a:Act) (w:World) (Q:Exit→Act→World→Prop),ad G pn E S w→TR G E S.t a→vD G K Q→(Code.loop c).wpIn (rd r) 0 C.P Q a w
def fh (C:Ctx):Prop:=∀ pl id ops S K,cF C pl (.region id ops true) S K→∀ (r:Option Nat) (G:Gh) (E:Env) (a:Act) (w:World) (Q:Exit→Act→World→Prop),ad G pn E S w→TR G E S.t a→vD G K Q→(Code.region id ops true).wpIn (rd r) 0 C.P Q a w
theorem ik {G:Gh} {E:Env} {S:St} {w:World} {a:Act} {c:Operand} {k:Bool→St→Prop} (hM:ad G pn E S w) (ht:TR G E S.t a) (h:gX c S k):∃ b S1,k b S1∧a.eval c=.bool b∧ad G pn E S1 w∧TR G E S1.t a:=by
  unfold gX at h
  split at h
  · rename_i d
    obtain ⟨b,S1,h1,h2,h3,h4⟩:=rO hM ht h
    refine ⟨b,S1,h1,?_,h3,h4⟩
    show a.tmps.getD d undef=_
    rw [Array.getD_eq_getD_getElem?,h2]
    rfl
  · rename_i b
    rcases ga h with ⟨hb,h2⟩ | ⟨hb,h2⟩
    · subst hb; exact ⟨true,S,h2,rfl,hM,ht⟩
    · subst hb; exact ⟨false,S,h2,rfl,hM,ht⟩
  · exact False.elim h
theorem pE {h:Array Obj} {b:Nat} {r:Loop} (e:h[b]?=some (.loop r)):au h b=0:=by
  unfold au
  rw [e]
theorem eR {w:World} {l:Nat} {r r':Loop} (h:w.heap[l]?=some (.loop r)):au (w.putObj l (.loop r')).heap l=au w.heap l:=by
  have hl:=(Array.getElem?_eq_some_iff.1 h).1
  rw [pE h,pE (World.putObj_heap_same hl)]
theorem yf {E:Env} {a:AV} {u:Value} (h:VR E a u):VR E.ob (zo a) u:=by
  unfold zo
  split
  · rename_i h1
    exact dv 4 h1 h
  · exact .bad _ _
theorem rP {C:Ctx} (hC:bH C) {pl:aD} {g:Operand} {ps:Array Tmp} {asg body:Code} {S:St} {K:Ex→St→Prop} {G:Gh} {E:Env} {a:Act} {w:World} {Q:Exit→Act→World→Prop} (hM:ad G pn E S w) (ht:TR G E S.t a) (h:hJ C pl g ps asg body S K) (hQ:vD G K Q):(Code.rangeFunc g ps asg body).wpIn (rd none) 0 C.P Q a w:=by
  unfold hJ at h
  split at h
  · exact False.elim h
  · obtain ⟨gv,h,hgv⟩:=bm h ht
    split at h
    · rename_i fid first cap
      obtain ⟨hc,h⟩:=ab h
      simp only [Bool.and_eq_true] at hc
      obtain ⟨⟨hra,hrb⟩,hnl⟩:=hc
      rw [ch] at h
      have hSC:=hC.scall _ _ _ _ h
      obtain ⟨us,ws,hfv,h1,h2⟩:∃ us ws,a.eval g=.func (.func fid) us ws∧aO E first us.toList∧aO E cap ws.toList:=by
        generalize a.eval g=u at hgv
        cases hgv with
        | fn us ws h1 h2 h3 h4=>exact ⟨us,ws,rfl,⟨by simpa using h1,fun m c u hc hu=>h2 m c u hc (by simpa using hu)⟩,⟨by simpa using h3,fun m c u hc hu=>h4 m c u hc (by simpa using hu)⟩⟩
      refine wpIn_rangeFunc (F:=rd none) (fun fn _=>?_)
      obtain ⟨hleB,hMB⟩:=hM.below (w':=w.alloc (.deferred (some []))) (F':=fun b=>E.F b∨b=w.heap.size) ⟨rfl,rfl,rfl,by show _≤(w.heap.push _).size; rw [Array.size_push]; omega,fun b hb=>by
        show (w.heap.push _)[b]?=_
        rw [Array.getElem?_push,if_neg (by omega)]⟩ (fun _ h=>.inl h) (fun b hb=>by
        show b<(w.heap.push _).size
        rw [Array.size_push]
        rcases hb with hb | rfl
        · have:=hM.Flt b hb; omega
        · omega) (fun b hb hlt=>hb.elim id (fun e=>by omega))
      have hBh:(w.alloc (.deferred (some []))).heap[w.heap.size]?=some (.deferred (some [])):=World.alloc_heap_new w _
      have htB:TR G ⟨fun b=>E.F b∨b=w.heap.size,E.mu,(w.alloc (.deferred (some []))).heap⟩ S.t a:=ht.mono hleB
      let r0:Loop:={ state:=.ready,pending:=none,fn,tmps:=a.tmps,params:=ps,assign:=asg,body,defers:=w.heap.size }
      obtain ⟨hleL,hML⟩:=hMB.newkey (ob:=.loop r0) (key:=.O S.o.length) (sz:=0) (n:=0) (fun _ h=>by cases h) (rB hMB)
        (M':={ t:=S.t,l:=S.l,o:=S.o++[.lp pl ps.toList (S.t.map zo) asg body 0],b:=S.b }) (fun _ _=>rfl)
        (fun id he=>by
          show (S.o++[_])[id]?=_
          rcases Nat.lt_trichotomy id S.o.length with h1 | h1 | h1
          · rw [List.getElem?_append_left h1]
          · exact absurd (by rw [h1]) he
          · rw [List.getElem?_eq_none (by simp; omega),List.getElem?_eq_none (by omega)]) rfl (by have:=hM.bl; simp; omega) (fun id he=>by cases he; exact hM.bl)
        (fun d he=>by cases he)
        (fun id he hle=>by
          cases he
          show b9 _ (S.o++[_])[S.o.length]? _
          rw [List.getElem?_append_right (Nat.le_refl _),Nat.sub_self]
          refine ⟨r0,bu (w.alloc (.deferred (some []))) _,rfl,rfl,rfl,⟨by rw [List.length_map]; exact htB.len,fun m c u hc hu=>?_⟩,rfl,rfl⟩
          rw [List.getElem?_map,Option.map_eq_some_iff] at hc
          obtain ⟨c',h8,rfl⟩:=hc
          exact (yf (htB.val m c' u h8 hu)).mono hle.ob) (hMB.ow_push rfl rfl)
      have hl0:(w.alloc (.deferred (some []))).heap.size=w.heap.size + 1:=by show (w.heap.push _).size=_; rw [Array.size_push]
      refine ⟨w.heap.size + 1,[o9 w.heap.size],(w.alloc (.deferred (some []))).alloc (.loop r0),{ target:=.fn (.func fid) ws,args:=us++#[.func (.yield (w.heap.size + 1)) #[] #[]] },(w.alloc (.deferred (some []))).alloc (.loop r0),fid,us++#[.func (.yield (w.heap.size + 1)) #[] #[]]++ws,(w.alloc (.deferred (some []))).alloc (.loop r0),run_enterLoop_outer fn a.tmps ps asg body,?_,fun _ _=>trivial,?_,(fun h=>by cases h),?_⟩
      · simp [resolve,hfv,Deferred.ofValue]
        rfl
      · obtain ⟨f1,c1,hb1,hb2,hb3⟩:=hSC.1
        exact pi hb1 hb2 hb3 _ _
      · have hN:ai E.mu (.O S.o.length) (.blk (w.alloc (.deferred (some []))).heap.size 0 0 0) (.O S.o.length)=some (.blk (w.alloc (.deferred (some []))).heap.size 0 0 0):=by
          unfold ai
          rw [if_pos rfl]
        have htL:=htB.mono hleL
        have hle:LE E ⟨fun b=>E.F b∨b=w.heap.size,ai E.mu (.O S.o.length) (.blk (w.alloc (.deferred (some []))).heap.size 0 0 0),(w.alloc (.deferred (some []))).heap.push (.loop r0)⟩:=hleB.trans hleL
        have hy:aO ⟨fun b=>E.F b∨b=w.heap.size,ai E.mu (.O S.o.length) (.blk (w.alloc (.deferred (some []))).heap.size 0 0 0),(w.alloc (.deferred (some []))).heap.push (.loop r0)⟩ [AV.yld S.o.length] [Value.func (.yield (w.heap.size + 1)) #[] #[]]:=by
          refine .cons ?_ (.nil _)
          rw [← hl0]
          exact .yld hN
        have hall:=(h1.mono hle).append (hy.append (h2.mono hle))
        refine kh.2 ((hSC.2 _ _ _ hML.sub htL.gt ⟨?_,fun m c u hc hu=>?_⟩).mono ?_)
        · have:=hall.1
          simpa using this
        · exact dv 4 (List.all_eq_true.1 hnl c (List.mem_of_getElem? hc)) (hall.2 m c u hc (by simpa using hu))
        rintro e w3 ⟨v,rr,o',E',hK,rfl,hM',hv⟩
        rw [fg] at hK
        have htm:TR G ⟨fun b=>E.F b∨b=w.heap.size,ai E.mu (.O S.o.length) (.blk (w.alloc (.deferred (some []))).heap.size 0 0 0),(w.alloc (.deferred (some []))).heap.push (.loop r0)⟩ S.t { tmps:=a.tmps,defers:=[o9 w.heap.size]++a.defers }:=by
          refine ⟨htL.len,htL.val,?_,htL.gt⟩
          obtain ⟨Bs,d1,d2,d3⟩:=ht.df
          refine ⟨w.heap.size::Bs,by rw [d1]; rfl,List.nodup_cons.2 ⟨fun hb=>Nat.lt_irrefl _ (hM.Flt _ (d3 _ hb).2.1),d2⟩,fun B hB=>?_⟩
          rcases List.mem_cons.1 hB with rfl | hB
          · refine ⟨hM.size,.inr rfl,?_⟩
            exact (hleL.hF _ (.inr rfl)).trans hBh
          · obtain ⟨d4,d5,d6⟩:=d3 B hB
            exact ⟨d4,.inl d5,(hle.hF B d5).trans d6⟩
        obtain ⟨hS3,ht3,_⟩:=hML.back htm hM'
        split at hK
        · rename_i pl' ps' t' asg' body' st ho'
          rw [ic] at hK
          have hNl:E'.mu (.O S.o.length)=some (.blk (w.alloc (.deferred (some []))).heap.size 0 0 0):=by
            rcases hM'.old S.o.length (by show S.o.length<(S.o++[_]).length; simp) with h9 | h9
            · have h10:o'[S.o.length]?=some .dead:=h9
              rw [ho'] at h10
              cases h10
            · exact h9.trans hN
          have hob:=hM'.obj S.o.length
          rw [show (og o' _).o[S.o.length]?=some (.lp pl' ps' t' asg' body' st) from ho',hNl] at hob
          obtain ⟨r3,hr3,_,_,_,_,hst⟩:=hob
          have hr3':w3.heap[w.heap.size + 1]?=some (.loop r3):=by rw [← hM'.hp,← hl0]; exact hr3
          have hbusy:r3.state≠.busy:=by
            match st,hst with
            | 0,hst=>rw [hst.1]; exact fun h=>by cases h
            | 1,hst=>rw [hst.1]; exact fun h=>by cases h
            | n + 2,hst=>rw [hst.1]; exact fun h=>by cases h
          refine ⟨_,_,run_endLoop hr3' hbusy,?_⟩
          obtain ⟨hS4,ht4⟩:=fM hS3 ht3 S.o.length
          obtain ⟨o1,o2,o3⟩:=hS3.own (.O S.o.length) _ _ _ _ hNl
          obtain ⟨hle5,hS5⟩:=hS4.freestep (w':=w3.putObj (w.heap.size + 1) (.loop { r3 with state:=.exhausted })) (b:=w.heap.size + 1) rfl rfl rfl (by rw [World.putObj_size]; exact Nat.le_refl _) (fun b' _ e=>World.putObj_heap_other e) (fun _=>eR hr3') ⟨by rw [← hl0]; exact o1,fun k o'' s n hk=>by
            obtain ⟨q1,q2⟩:=aR hk
            rw [← hl0] at q2
            exact q1 (hS3.inj _ _ _ _ _ _ _ _ _ q2 hNl),by rw [← hl0]; exact o3⟩
          have ht5:=ht4.mono hle5
          generalize hj:r3.pending=jump
          rw [hj] at hst
          have hS6:=hS5
          simp only [hj] at hS6 ht5
          match st,hst,hK with
          | 0,hst,hK=>rw [hst.2] at hS6 ht5 ⊢; exact hQ .nrm _ _ _ _ hK hS6 ht5
          | 1,hst,hK=>rw [hst.2] at hS6 ht5 ⊢; exact wpIn_ret (hQ .ret _ _ _ _ hK hS6 ht5)
          | n + 2,hst,hK=>rw [hst.2] at hS6 ht5 ⊢; exact wpIn_exit (hQ (.ex n) _ _ _ _ hK hS6 ht5)
        · exact False.elim hK
    · exact False.elim h
theorem ez {C:Ctx} (hC:bH C) (hL:f5 C) (hD:fh C) {pl:aD}:∀ (c:Code) {S:St} {K:Ex→St→Prop},cF C pl c S K→∀ (r:Option Nat),RF C c r→∀ (G:Gh) (E:Env) (a:Act) (w:World) (Q:Exit→Act→World→Prop),ad G pn E S w→TR G E S.t a→vD G K Q→c.wpIn (rd r) 0 C.P Q a w:=by
  intro c
  induction c with
  | skip=>exact fun h r _ G E a w Q hM ht hQ=>wpIn_skip (hQ .nrm _ E _ _ h hM ht)
  | region id ops draw =>
    intro S K h r hr G E a w Q hM ht hQ
    cases draw with
    | true=>exact hD pl id ops S K h r G E a w Q hM ht hQ
    | false=>exact wpIn_region_list (jA hC hM ht h (fun S' E' a' w' hk hS htr=>by
      obtain ⟨S2,E2,h2,hS2,ht2⟩:=fN hS htr hk
      exact hQ .nrm _ _ _ _ h2 hS2 ht2))
  | seq x y ihx ihy =>
    intro S K h r hr G E a w Q hM ht hQ
    refine wpIn_seq (ihx h r (fun h=>(hr h).imp (fun h=>(Bool.and_eq_true_iff.1 h).1) id) G E a w _ hM ht (fun e S' E' a' w' hk hS htr=>?_))
    cases e with
    | nrm=>exact ihy hk r (fun h=>(hr h).imp (fun h=>(Bool.and_eq_true_iff.1 h).2) id) G E' a' w' Q hS htr hQ
    | ex i=>exact hQ (.ex i) _ _ _ _ hk hS htr
    | ret=>exact hQ .ret _ _ _ _ hk hS htr
  | cond c x y ihx ihy =>
    intro S K h r hr G E a w Q hM ht hQ
    obtain ⟨b,S1,h1,h2,h3,h4⟩:=ik hM ht h
    cases b with
    | true=>exact wpIn_cond_true h2 (ihx h1 r (fun h=>(hr h).imp (fun h=>(Bool.and_eq_true_iff.1 h).1) id) G E a w Q h3 h4 hQ)
    | false=>exact wpIn_cond_false h2 (ihy h1 r (fun h=>(hr h).imp (fun h=>(Bool.and_eq_true_iff.1 h).2) id) G E a w Q h3 h4 hQ)
  | block id c ih =>
    intro S K h r hr G E a w Q hM ht hQ
    refine wpIn_block (ih h r hr G E a w _ hM ht (fun e S' E' a' w' hk hS htr=>?_))
    cases e with
    | nrm=>exact hQ .nrm _ _ _ _ hk hS htr
    | ret=>exact hQ .ret _ _ _ _ hk hS htr
    | ex i =>
      show Exit.inBlock id Q (.exit i) a' w'
      unfold Exit.inBlock
      dsimp only at hk
      split at hk
      · rename_i hb
        have:=Nat.eq_of_beq_eq_true hb
        subst this
        simp only [if_pos]
        exact hQ .nrm _ _ _ _ hk hS htr
      · rename_i hb
        have hne:¬ i=id:=fun e=>by subst e; simp at hb
        simp only [if_neg hne]
        exact hQ (.ex i) _ _ _ _ hk hS htr
  | loop c ih=>exact fun h r hr G E a w Q hM ht hQ=>hL pl c _ _ h r hr G E a w Q hM ht hQ
  | exit id=>exact fun h r _ G E a w Q hM ht hQ=>wpIn_exit (hQ (.ex id) _ E _ _ h hM ht)
  | ret=>exact fun h r _ G E a w Q hM ht hQ=>wpIn_ret (hQ .ret _ E _ _ h hM ht)
  | rangeFunc g ps asg body =>
    intro S K h r hr G E a w Q hM ht hQ
    have h:hJ C pl g ps asg body S K:=h
    have hrn:r=none:=by
      cases hrf:C.rf with
      | true=>exact (hr hrf).resolve_left (fun h=>by cases h)
      | false =>
        unfold hJ at h
        rw [hrf] at h
        exact False.elim h
    subst hrn
    exact rP hC hM ht h hQ
  | _=>exact fun h=>False.elim h
theorem rQ {P:Program} {α β:Type} {f:α→Sem β}:∀ (xs:List α) (w:World) (ys:List β),xs.length=ys.length→(∀ (i:Nat) (x:α) (y:β),xs[i]?=some x→ys[i]?=some y→(f x).run P w=.ok y w)→(xs.mapM f).run P w=.ok ys w
  | [],w,ys,hl,_=>by
    have:ys=[]:=List.eq_nil_of_length_eq_zero (by simpa using hl.symm)
    subst this
    rfl
  | x::xs,w,[],hl,_=>by simp at hl
  | x::xs,w,y::ys,hl,h=>by
    have h0:=h 0 x y rfl rfl
    have ih:=rQ xs w ys (by simpa using hl) (fun i a b h1 h2=>h (i + 1) a b (by simpa using h1) (by simpa using h2))
    simp only [List.mapM_cons,Sem.run_bind,h0,Result.andThen_ok,ih,Sem.run_pure]
section
variable {G:Gh} {E:Env} {S:St} {w:World} {P:Program} {a:Act}
theorem jB (hM:ad G pn E S w) (ht:TR G E S.t a):∀ {rs:List ResultVar} {k:List AV→Prop},lZ P S rs k→∃ as us,k as∧aO E as us∧rs.length=us.length ∧
    ∀ (i:Nat) (r:ResultVar) (u:Value),rs[i]?=some r→us[i]?=some u→(match r with | .tmp t=>(pure (a.tmps.getD t undef):Sem Value) | .cell c t=>(do loadVar t (← asAddr (a.tmps.getD c undef)):Sem Value)).run P w=.ok u w
  | [],k,h=>⟨[],[],h,.nil _,rfl,fun i r u h1=>by simp at h1⟩
  | .tmp t::rs,k,h=>by
    obtain ⟨c,hc,h⟩:=aY.1 h
    obtain ⟨as,us,hk,hv,hl,hr⟩:=jB hM ht h
    have hlt:t<a.tmps.size:=by rw [← ht.len]; exact (List.getElem?_eq_some_iff.1 hc).1
    refine ⟨c::as,a.tmps.getD t undef::us,hk,.cons (ht.val t c _ hc ?_) hv,by simp [hl],fun i r u h1 h2=>?_⟩
    · rw [Array.getD_eq_getD_getElem?,Array.getElem?_eq_getElem hlt]; rfl
    · cases i with
      | zero =>
        simp only [List.getElem?_cons_zero,Option.some.injEq] at h1 h2
        subst h1 h2
        rfl
      | succ i=>exact hr i r u (by simpa using h1) (by simpa using h2)
  | .cell c t::rs,k,h=>by
    obtain ⟨pc,hpc,h⟩:=aY.1 h
    have hlt:c<a.tmps.size:=by rw [← ht.len]; exact (List.getElem?_eq_some_iff.1 hpc).1
    have e0:a.tmps.getD c undef=a.tmps[c]:=by rw [Array.getD_eq_getD_getElem?,Array.getElem?_eq_getElem hlt]; rfl
    have hv0:=ht.val c pc _ hpc (Array.getElem?_eq_getElem hlt)
    obtain ⟨row,j,us',b,off,hk,hu0,hu,hcell⟩:=pe hM hv0 h
    obtain ⟨r0,z,hk',hr0,hrun⟩:=jn (P:=P) hk hu w hcell
    obtain ⟨as,us,hk,hv,hl,hr⟩:=jB hM ht hk'
    refine ⟨r0::as,z::us,hk,.cons hr0 hv,by simp [hl],fun i r u h1 h2=>?_⟩
    cases i with
    | zero =>
      simp at h1 h2
      subst h1 h2
      simp only [Sem.run_bind]
      rw [e0,hu0]
      show (loadVar t ⟨b,off + j,none⟩).run P w=_
      exact hrun
    | succ i=>exact hr i r u (by simpa using h1) (by simpa using h2)
theorem ta {as:List AV} {us:List Value} {k:AV→Prop} (h:ou as k) (hv:aO E as us):∃ r,k r∧VR E r (if h:us.toArray.size=1 then us.toArray[0] else .tuple us.toArray):=by
  unfold ou at h
  split at h
  · rename_i c
    obtain ⟨u,us',rfl,hc,hn⟩:=hv.uncons
    have:=hn.unnil
    subst this
    exact ⟨c,h,by simpa using hc⟩
  · rename_i hne
    refine ⟨_,h,?_⟩
    have hl:=hv.1
    rw [dif_neg (by
      intro h1
      simp at h1
      cases as with
      | nil=>simp at hl; omega
      | cons c cs =>
        cases cs with
        | nil=>exact hne c rfl
        | cons _ _=>simp at hl; omega)]
    exact .tup _ (by simpa using hl) (fun m c u h1 h2=>hv.2 m c u h1 (by simpa using h2))
theorem i8 {fn:Func} (hM:ad G pn E S w) (ht:TR G E S.t a) {k:AV→Prop} (h:lZ P S fn.results.toList fun rs=>ou rs k):∃ r u,k r∧VR E r u∧(results fn a.tmps).run P w=.ok u w:=by
  obtain ⟨as,us,h,hv,hl,hr⟩:=jB hM ht h
  obtain ⟨r,hk,hvr⟩:=ta h hv
  refine ⟨r,_,hk,hvr,?_⟩
  unfold results
  have hm:=rQ fn.results.toList w us hl hr
  rw [Sem.run_bind,Array.mapM_eq_mapM_toList]
  simp only [map_eq_pure_bind,Sem.run_bind]
  erw [hm]
  rfl
end
structure LC (E E':Env):Prop where
  F:∀ b,E.F b→E'.F b
  mu:∀ k x,k.isS=false→E.mu k=some x→E'.mu k=some x
  hc:∀ b,E.F b→∀ i,bq E'.h b i=bq E.h b i
  sz:∀ k b o s n,k.isS=false→E.mu k=some (.blk b o s n)→au E'.h b=au E.h b
theorem LC.fz {E E':Env} (h:LC E E'):LC E.fz E'.fz:=⟨h.F,fun _ _ _ hx=>(by cases hx),h.hc,fun _ _ _ _ _ _ hx=>(by cases hx)⟩
theorem LC.ob {E E':Env} (h:LC E E'):LC E.ob E'.ob :=
  ⟨h.F,fun k x hs hx=>(by
    cases k with
    | L d=>cases hx
    | O i=>exact h.mu _ _ hs hx
    | S id i=>cases hs),h.hc,fun k b o s n hs hx=>h.sz k b o s n hs (b7 hx)⟩
theorem VR.monoC {E:Env} {a:AV} {u:Value} (hv:VR E a u):∀ {E':Env},LC E E'→VR E' a u:=by
  induction hv with
  | bad E u=>intro E' _; exact .bad _ _
  | v E x hx=>intro E' _; exact .v _ _ hx
  | nilp E=>intro E' _; exact .nilp _
  | ptr i j hs hm=>intro E' h; exact .ptr i j hs (h.mu _ _ hs hm)
  | fptr j us hl hc hF hcell ih=>intro E' h; exact .fptr j us hl (fun m c u h1 h2=>ih m c u h1 h2 h.fz) (h.F _ hF) (fun m u hu=>(h.hc _ hF _).trans (hcell m u hu))
  | nilsl E=>intro E' _; exact .nilsl _
  | esln E=>intro E' _; exact .esln _
  | esl E a=>intro E' _; exact .esl _ a
  | ene E a=>intro E' _; exact .ene _ a
  | sln E=>intro E' _; exact .sln _
  | sle E a cap=>intro E' _; exact .sle _ a cap
  | sl us hsz hr hl hc hF hcell hcap ih=>intro E' h; exact .sl us hsz hr hl (fun m c u h1 h2=>ih m c u h1 h2 h.fz) (h.F _ hF) (fun m u hu=>(h.hc _ hF _).trans (hcell m u hu)) hcap
  | mfn hm=>intro E' h; exact .mfn (h.mu _ _ rfl hm)
  | mfe a hm=>intro E' h; exact .mfe a (h.mu _ _ rfl hm)
  | mf cap hm hn hc=>intro E' h; exact .mf cap (h.mu _ _ rfl hm) hn (by rw [h.sz _ _ _ _ _ rfl hm]; exact hc)
  | mfxe a hm=>intro E' h; exact .mfxe a (h.mu _ _ rfl hm)
  | mfx cap hm hn hc=>intro E' h; exact .mfx cap (h.mu _ _ rfl hm) hn (by rw [h.sz _ _ _ _ _ rfl hm]; exact hc)
  | nn E a n cap=>intro E' _; exact .nn _ a n cap
  | msle off a hm=>intro E' h; exact .msle off a (h.mu _ _ rfl hm)
  | msl off len ext cap hm h1 h2 h3=>intro E' h; exact .msl off len ext cap (h.mu _ _ rfl hm) h1 h2 (by rw [h.sz _ _ _ _ _ rfl hm]; exact h3)
  | bsl off len cap hs hm h1=>intro E' h; exact .bsl off len cap hs (h.mu _ _ hs hm) h1
  | nilmap E=>intro E' _; exact .nilmap _
  | mp hm=>intro E' h; exact .mp (h.mu _ _ rfl hm)
  | yld hm=>intro E' h; exact .yld (h.mu _ _ rfl hm)
  | nilfn E=>intro E' _; exact .nilfn _
  | fn us ws h1 h2 h3 h4 ih1 ih2=>intro E' h; exact .fn us ws h1 (fun m c u hc hu=>ih1 m c u hc hu h) h3 (fun m c u hc hu=>ih2 m c u hc hu h)
  | agg us h1 h2 ih=>intro E' h; exact .agg us h1 (fun m c u hc hu=>ih m c u hc hu h)
  | tup us h1 h2 ih=>intro E' h; exact .tup us h1 (fun m c u hc hu=>ih m c u hc hu h)
theorem qh.monoC {E E':Env} (h:qh E) (hl:LC E E'):qh E':=fun g row e=>by
  obtain ⟨h1,h2⟩:=h g row e
  refine ⟨h1.monoC hl.fz,?_⟩
  cases h1 with
  | fptr j us _ _ hF _=>exact (hl.hc _ hF _).trans h2
def gd (h:Array Obj) (B:Nat):Array Obj:=h.setIfInBounds B (.deferred none)
theorem fj {h:Array Obj} {B b:Nat} (e:b≠B):(gd h B)[b]?=h[b]?:=by
  unfold gd
  rw [Array.getElem?_setIfInBounds_ne (Ne.symm e)]
section
variable {h:Array Obj} {B:Nat} {ds:Option (List Deferred)}
theorem na (hB:h[B]?=some (.deferred ds)):(gd h B)[B]?=some (.deferred none):=by
  have:=(Array.getElem?_eq_some_iff.1 hB).1
  simp [gd,this]
theorem pF (hB:h[B]?=some (.deferred ds)) (b i:Nat):bq (gd h B) b i=bq h b i:=by
  by_cases e:b=B
  · subst e
    unfold bq
    rw [na hB,hB]
  · exact f_ (fj e) i
theorem iL (hB:h[B]?=some (.deferred ds)) (b:Nat):au (gd h B) b=au h b:=by
  by_cases e:b=B
  · subst e
    unfold au
    rw [na hB,hB]
  · unfold au
    rw [fj e]
theorem nd (hB:h[B]?=some (.deferred ds)) {b:Nat} {us:Array Value} {ty:TypeId} {x:Nat×Nat} (hb:h[b]?=some (.cells us ty x)):(gd h B)[b]?=some (.cells us ty x):=by
  rw [fj (fun e=>by subst e; rw [hb] at hB; cases hB)]
  exact hb
theorem shut_map (hB:h[B]?=some (.deferred ds)) {b:Nat} {ms:Array MapEntry} {clock:Nat} (hb:h[b]?=some (.map ms clock)):(gd h B)[b]?=some (.map ms clock):=by
  rw [fj (fun e=>by subst e; rw [hb] at hB; cases hB)]
  exact hb
end
section
variable {E:Env} {B:Nat} {ds:Option (List Deferred)}
abbrev lG (E:Env) (B:Nat):Env:=⟨E.F,E.mu,gd E.h B⟩
theorem iM (hB:E.h[B]?=some (.deferred ds)):LC E (lG E B):=⟨fun _ h=>h,fun _ _ _ h=>h,fun _ _ i=>pF hB _ i,fun _ _ _ _ _ _ _=>iL hB _⟩
theorem aX.shut {X X':Env} {h:Array Obj} {rows:List (List AV)} {b o sz:Nat} (hB:h[B]?=some (.deferred ds)) (ha:aX X h rows b o sz) (hX:LC X X'):aX X' (gd h B) rows b o sz:=by
  obtain ⟨h1,h2,us,ty,h3,h4,h5⟩:=ha
  refine ⟨h1,h2,us,ty,nd hB h3,h4,fun m c hc=>?_⟩
  obtain ⟨u,hu,hv⟩:=h5 m c hc
  exact ⟨u,hu,hv.monoC hX⟩
theorem rR (hB:E.h[B]?=some (.deferred ds)) (fl:Bool):LC (a6 E fl) (a6 (lG E B) fl):=by
  cases fl with
  | true=>exact (iM hB).fz
  | false=>exact (iM hB).ob
theorem wV.monoC {E E':Env} {ps:List Nat} {t:List AV} {asg body:Code} {st:Nat} {r:Loop} (h:wV E ps t asg body st r) (hl:LC E E'):wV E' ps t asg body st r :=
  ⟨h.1,h.2.1,h.2.2.1,⟨h.2.2.2.1.1,fun m c u h1 h2=>(h.2.2.2.1.2 m c u h1 h2).monoC hl⟩,h.2.2.2.2⟩
theorem b9.shut {x:Option Ob} {mv:Option MV} (hB:E.h[B]?=some (.deferred ds)) (h:b9 E x mv):b9 (lG E B) x mv:=by
  revert h
  cases x with
  | none=>cases mv <;> exact fun h=>h
  | some ob =>
    cases ob with
    | dead=>cases mv <;> exact fun h=>h
    | arr fl sz' rows =>
      cases mv with
      | none=>exact fun h=>h
      | some mv =>
        cases mv with
        | virt=>exact fun h=>h
        | blk b o s n=>exact fun ⟨h1,h2⟩=>⟨h1,h2.shut hB (rR hB fl)⟩
    | lp pl ps t asg body st =>
      cases mv with
      | none=>exact fun h=>h
      | some mv =>
        cases mv with
        | virt=>exact fun h=>h
        | blk b o s n =>
          rintro ⟨r,h1,h2⟩
          exact ⟨r,(fj (fun e=>by subst e; rw [h1] at hB; cases hB)).trans h1,h2.monoC (iM hB).ob⟩
    | own _ _ _ _ =>
      cases mv with
      | none=>exact fun h=>h.elim
      | some mv=>cases mv <;> exact fun h=>h
    | mapo fl es =>
      cases mv with
      | none=>exact fun h=>h
      | some mv =>
        cases mv with
        | virt=>exact fun h=>h
        | blk b o s n =>
          rintro ⟨ms,clock,h1,h2,h3⟩
          refine ⟨ms,clock,shut_map hB h1,h2,fun i e m h4 h5=>?_⟩
          obtain ⟨h6,h7⟩:=h3 i e m h4 h5
          exact ⟨h6,h7.monoC (rR hB fl)⟩
theorem aN.shut {sz:Nat} {c:Option (List (List AV))} {mv:Option MV} {u:Value} (hB:E.h[B]?=some (.deferred ds)) (h:aN E sz c mv u):aN (lG E B) sz c mv u:=by
  revert h
  cases c with
  | none =>
    cases mv with
    | none=>exact fun h=>h
    | some mv=>cases mv <;> exact fun h=>h.elim
  | some rows =>
    cases mv with
    | none=>exact fun h=>h.elim
    | some mv =>
      cases mv with
      | virt=>exact fun h=>h
      | blk b o s n =>
        rintro ⟨h0,ha,cap,h6,h7,h8⟩
        exact ⟨h0,ha.shut hB (iM hB).fz,cap,h6,by rw [show au (lG E B).h b=au E.h b from iL hB b]; exact h7,h8⟩
theorem tc (hB:E.h[B]?=some (.deferred ds)) (b o i:Nat):cG (gd E.h B) b o i=cG E.h b o i:=by
  by_cases e:b=B
  · subst e
    unfold cG
    rw [na hB,hB]
  · exact lu (fj e) o i
theorem bi.shut {id:Nat} {x:Option Ob} (hB:E.h[B]?=some (.deferred ds)) (h:bi E id x):bi (lG E B) id x:=by
  revert h
  unfold bi
  split
  · rename_i ks sz cells hole
    rintro ⟨h1,h2,h3⟩
    refine ⟨h1,h2,fun b o s n hm=>?_⟩
    obtain ⟨h4,h6⟩:=h3 b o s n hm
    refine ⟨?_,fun i c hc=>?_⟩
    · cases ks with
      | none =>
        obtain ⟨us,ty,h7,h8⟩:=h4
        exact ⟨us,ty,nd hB h7,h8⟩
      | some ks =>
        obtain ⟨ms,clock,h7,h8⟩:=h4
        exact ⟨ms,clock,shut_map hB h7,h8⟩
    · obtain ⟨u,hu,h7⟩:=h6 i c hc
      refine ⟨u,(tc hB _ _ _).trans hu,?_⟩
      unfold vR at h7 ⊢
      split at h7
      · rename_i j a
        by_cases hj:j=i
        · rw [if_pos hj] at h7 ⊢
          exact ⟨h7.1,h7.2.monoC (iM hB).ob⟩
        · rw [if_neg hj] at h7 ⊢
          exact h7.shut hB
      · exact h7.shut hB
  · exact fun h=>h
end
section
variable {G:Gh} {E:Env} {S:St} {w:World} {B:Nat}
theorem ad.shut (hM:ad G pn E S w) (hB0:G.w0.heap.size≤B) (hB:E.h[B]?=some (.deferred (some []))):ad G pn (lG E B) S (w.putObj B (.deferred none)):=by
  have hh:gd E.h B=(w.putObj B (.deferred none)).heap:=by rw [hM.hp]; rfl
  have hs:(w.putObj B (.deferred none)).heap.size=w.heap.size:=World.putObj_size
  refine ⟨hh,hM.os,hM.tape,hM.output,by rw [hs]; exact hM.size,fun b hb hm=>?_,hM.F0,fun b hb=>by rw [hs]; exact hM.Flt b hb,hM.Fnew,fun k b o s n hk=>by rw [hs]; exact hM.own k b o s n hk,hM.inj,fun d=>?_,fun id=>(hM.obj id).shut hB,hM.old,hM.bl,fun b hb=>?_,hM.pk,fun id=>(hM.ow id).shut hB⟩
  · rw [World.putObj_heap_other (by omega)]
    exact hM.keep b hb hm
  · have h:=hM.loc d
    unfold c_ at h ⊢
    split at h
    · exact h
    · rcases h with ⟨b,h1,h2⟩ | h
      · exact .inl ⟨b,h1,h2.shut hB (iM hB)⟩
      · exact .inr h
  · rw [← hh,iL hB,hM.hp]
    exact hM.szs b hb
end
section
variable {G:Gh} {S:St} {P:Program} {fn:Func} {tmps:Array Value} {R:Ending→World→Prop}
theorem il {F:Fence} {n:Nat}:∀ (Bs:List Nat) {E:Env} {w:World},ad G pn E S w→Bs.Nodup→(∀ B∈Bs,G.w0.heap.size≤B∧E.h[B]?=some (.deferred (some []))) →
    (∀ E' w',ad G pn E' S w'→LC E E'→∃ v,(results fn tmps).run P w'=.ok v w'∧R (.returned v) w')→LeavesInM F n P fn tmps R (Bs.map o9) .returning w
  | [],E,w,hM,_,_,hR=>hR E w hM ⟨fun _ h=>h,fun _ _ _ h=>h,fun _ _ _=>rfl,fun _ _ _ _ _ _ _=>rfl⟩
  | B::Bs,E,w,hM,hn,hB,hR=>by
    obtain ⟨hb0,hb⟩:=hB B (List.mem_cons_self ..)
    obtain ⟨hn1,hn2⟩:=List.nodup_cons.1 hn
    refine ⟨(fun h=>by cases h),.inl ⟨B,w.putObj B (.deferred none),rfl,run_takeDeferred (by rw [← hM.hp]; exact hb),il Bs (hM.shut hb0 hb) hn2 (fun B' hB'=>?_) (fun E' w' h1 h2=>hR E' w' h1 ?_)⟩⟩
    · obtain ⟨h1,h2⟩:=hB B' (List.mem_cons_of_mem _ hB')
      exact ⟨h1,by rw [show (lG E B).h=gd E.h B from rfl,fj (fun e=>hn1 (by rw [← e]; exact hB'))]; exact h2⟩
    · exact ⟨fun b h=>h2.F b h,fun k x hs h=>h2.mu k x hs h,fun b h i=>(h2.hc b h i).trans (pF hb b i),fun k b o s m hs h=>(h2.sz k b o s m hs h).trans (iL hb b)⟩
end
theorem nf:∀ {n i:Nat} {c:AV},(qg n)[i]?=some c→c=.bad
  | 0,i,c,h=>by simp [qg] at h
  | n + 1,0,c,h=>by simp [qg] at h; exact h.symm
  | n + 1,i + 1,c,h=>nf (n:=n) (i:=i) (by simpa [qg] using h)
theorem ng:∀ {n:Nat},(qg n).length=n
  | 0=>rfl
  | n + 1=>by simp [qg,ng]
def fP (P : Program) : Prop := ∀ (f : Nat) (fn : Func), P.funcs[f]? = some fn → (fn.name == "runtime.NumGoroutine") = false
theorem fk {C:Ctx} {k:Ctx→Prop}:gr C k↔k C:=by cases C; exact Iff.rfl
theorem nh {p:aD} {k:aD→Prop}:sW p k↔k p:=by cases p; exact Iff.rfl
theorem pG {C:Ctx} {f:Nat} {args:List AV} {o:List Ob} {K:AV→St→Prop}:lr C f args o K↔mM C f args o K:=fk
theorem lH {C:Ctx} (hC:bH C) (hL:f5 C) (hD:fh C) (hN:fP C.P) {f:Nat} {args:List AV} {o:List Ob} {K:AV→St→Prop} (h:lr C f args o K) :
    j2 C.P f∧∀ (G:Gh) (E:Env) (w:World) (us:Array Value),ad G pn E (og o o.length) w→qh E→aO E args us.toList→Calls C.P f us w fun e w'=>∃ v r S' E',K r S'∧e=.returned v∧ad G pn E' S' w'∧VR E' r v:=by
  rw [pG] at h
  unfold mM at h
  split at h
  · rename_i fn hf
    split at h
    · rename_i c hb
      rw [nh] at h
      refine ⟨⟨fn,c,hf,hb,hN f fn hf⟩,fun G E w us hM hg hv=>?_⟩
      refine kh.1 (callsIn_of_wp_marks (F:=rd none) (n:=0) hf hb trivial ?_)
      have hl:args.length=us.size:=by simpa using hv.1
      refine ez hC hL hD c h none (fun _=>.inr rfl) G E _ w _ (hM.congr rfl rfl rfl) ⟨?_,fun n c' u h1 h2=>?_,⟨[],rfl,List.nodup_nil,fun B h=>by cases h⟩,hg⟩ (fun e S' E' a' w' hk hS htr=>?_)
      · simp [ng,hl]
      · dsimp only at h1 h2
        by_cases hn:n<args.length
        · rw [List.getElem?_append_left hn] at h1
          rw [Array.getElem?_append_left (by omega)] at h2
          exact hv.2 n c' u h1 (by simpa using h2)
        · rw [List.getElem?_append_right (by omega)] at h1
          rw [nf h1]
          exact .bad _ _
      · have jR:∀ {k:AV→Prop},(lZ C.P S' fn.results.toList fun rs=>ou rs fun r=>K r S')→LeavesInM (rd none) 0 C.P fn a'.tmps (fun e w'=>∃ v r S' E',K r S'∧e=.returned v∧ad G pn E' S' w'∧VR E' r v) a'.defers .returning w':=fun {k} hk=>by
          obtain ⟨Bs,h1,h2,h3⟩:=htr.df
          rw [h1]
          refine il Bs hS h2 (fun B hB=>⟨(h3 B hB).1,(h3 B hB).2.2⟩) (fun E2 w2 hS2 hL=>?_)
          obtain ⟨r,u,hk',hr,hrun⟩:=i8 (P:=C.P) (a:={ tmps:=a'.tmps,defers:=[] }) hS2 ⟨htr.len,fun n c u h1 h2=>(htr.val n c u h1 h2).monoC hL,⟨[],rfl,List.nodup_nil,fun B h=>by cases h⟩,htr.gt.monoC hL⟩ hk
          exact ⟨u,hrun,u,r,S',E2,hk',rfl,hS2,hr⟩
        cases e with
        | ex i=>exact False.elim hk
        | nrm=>exact jR (k:=fun _=>True) hk
        | ret=>exact jR (k:=fun _=>True) hk
    · exact False.elim h
  · exact False.elim h
section
variable {G:Gh} {E:Env} {S:St} {w:World}
theorem ad.obj_only (hM:ad G pn E S w):ad G pn E.ob (og S.o S.b) w :=
  ⟨hM.hp,hM.os,hM.tape,hM.output,hM.size,hM.keep,hM.F0,hM.Flt,hM.Fnew,fun k b o s n h=>hM.own k b o s n (dm h),fun k k' b o s n o' s' n' h h'=>hM.inj k k' b o s n o' s' n' (dm h) (dm h'),
    fun _=>rfl,fun id=>(hM.obj id).ob,hM.old,hM.bl,hM.szs,fun _ _ h=>(by cases h),fun id=>(hM.ow id).ob⟩
end
theorem kj {C:Ctx} (hC:bH C) (hL:f5 C) (hD:fh C) (hN:fP C.P) {f:Nat} {args:List AV} {o:List Ob} {K:AV→List Ob→Prop} (h:kO C f args o K):i4 C.P f args o K:=by
  obtain ⟨h1,h2⟩:=lH hC hL hD hN h
  refine ⟨h1,fun E w us hM hg hv=>(h2 _ E w us hM hg hv).mono ?_⟩
  rintro e w' ⟨v,r,S',E',hk,rfl,hS,hr⟩
  replace hk:=ab hk
  obtain ⟨hb,hk⟩:=hk
  simp only [Bool.and_eq_true] at hb
  have:=hS.obj_only
  rw [Nat.eq_of_beq_eq_true hb.2] at this
  exact ⟨v,r,S'.o,E'.ob,hk,rfl,this,dv 4 hb.1 hr⟩
def ni (C:Ctx):Prop:=∀ f args K,jY C f args K→∃ r,K r∧jY C f args (fun x=>x=r)
theorem im {C:Ctx} (hC:bH C) (hL:f5 C) (hD:fh C) (hN:fP C.P) (hA:ni C) {f:Nat} {args:List AV} {K:AV→Prop} (h:jY C f args K):bW C.P f args K:=by
  obtain ⟨r,hk,h⟩:=hA f args K h
  obtain ⟨h1,h2⟩:=lH hC hL hD hN h
  refine ⟨r,⟨h1,fun F w us hF hg hv=>?_⟩,hk⟩
  have hM:ad { w0:=w,M:=fun _=>False,F:=F,mu:=fun _=>none } pn ⟨F,fun _=>none,w.heap⟩ (og [] 0) w :=
    ⟨rfl,rfl,rfl,rfl,Nat.le_refl _,fun _ _ _=>rfl,fun _ h=>h,hF,fun _ h _=>.inl h,fun _ _ _ _ _ h=>(by cases h),fun _ _ _ _ _ _ _ _ _ h _=>(by cases h),fun _=>rfl,fun _=>trivial,fun _ h=>(by cases h),Nat.le_refl _,fun _ _=>rfl,fun _ _ h=>(by cases h),fun _ _=>rfl⟩
  refine (h2 _ _ w us hM hg hv).mono ?_
  rintro e w' ⟨v,c,S',E',hk,rfl,hS,hr⟩
  unfold qb at hk
  split at hk
  · rename_i b hb
    rw [aQ] at hk
    subst hk
    have hd:=cX hS _ hb hr (ids:=bE S'.o 6 c) (fun i hi=>hi)
    refine ⟨v,FD E' (bE S'.o 6 c),rfl,?_,⟨hS.os,hS.tape,hS.output,hS.size,fun b' hb'=>hS.keep b' hb' (fun h=>h)⟩,fun b' h=>.inl (hS.F0 b' h),vW hS,fun b' h hlt=>?_⟩
    · have e:(⟨FD E' (bE S'.o 6 c),fun _=>none,w'.heap⟩:Env)=E'.fd (bE S'.o 6 c):=by
        unfold Env.fd
        rw [hS.hp]
      rw [e]
      exact hd
    · rcases h with h | ⟨id,_,o',s,n,h⟩
      · rcases hS.Fnew b' h hlt with h3 | h3
        · exact h3
        · exact h3.elim
      · rcases (hS.own _ _ _ _ _ h).2.2 with h3 | h3
        · exact h3.elim
        · have h3:w.heap.size≤b':=h3
          omega
  · exact False.elim hk
section
variable {G:Gh} {E:Env} {S:St} {w:World} {l:Nat} {x:Obj}
theorem ad.poke (hM:ad G pn E S w) (hx:au (w.putObj l x).heap l=au w.heap l) (hx0:au (G.w0.putObj l x).heap l=au G.w0.heap l) (hf:¬ E.F l) (hn:∀ k o s n,E.mu k≠some (.blk l o s n)) (hl:l<G.w0.heap.size) :
    LE E ⟨E.F,E.mu,(w.putObj l x).heap⟩∧ad { G with w0:=G.w0.putObj l x } pn ⟨E.F,E.mu,(w.putObj l x).heap⟩ S (w.putObj l x):=by
  have h1:ad { G with M:=fun b=>G.M b∨b=l } pn E S w :=
    ⟨hM.hp,hM.os,hM.tape,hM.output,hM.size,fun b hb h=>hM.keep b hb (fun h2=>h (.inl h2)),hM.F0,hM.Flt,fun b h1 h2=>(hM.Fnew b h1 h2).imp id .inl,fun k b o s n h=>by
      obtain ⟨h1,h2,h3⟩:=hM.own k b o s n h
      exact ⟨h1,h2,h3.imp .inl id⟩,hM.inj,hM.loc,hM.obj,hM.old,hM.bl,hM.szs,hM.pk,hM.ow⟩
  have hs:(w.putObj l x).heap.size=w.heap.size:=World.putObj_size
  have hs0:(G.w0.putObj l x).heap.size=G.w0.heap.size:=World.putObj_size
  obtain ⟨hle,h2⟩:=h1.freestep (w':=w.putObj l x) (b:=l) rfl rfl rfl (by rw [hs]; exact Nat.le_refl _) (fun b' _ e=>World.putObj_heap_other e) (fun _=>hx) ⟨hf,hn,.inl (.inr rfl)⟩
  refine ⟨hle,h2.hp,h2.os,h2.tape,h2.output,by rw [hs0]; exact h2.size,fun b hb h=>?_,h2.F0,h2.Flt,fun b h1 h3=>?_,fun k b o s n h=>?_,h2.inj,h2.loc,h2.obj,h2.old,h2.bl,fun b hb=>?_,h2.pk,h2.ow⟩
  · by_cases e:b=l
    · subst e
      rw [World.putObj_heap_same (by have:=hM.size; omega),World.putObj_heap_same hl]
    · rw [World.putObj_heap_other (w:=G.w0) e]
      exact h2.keep b (by rw [hs0] at hb; exact hb) (fun h3=>h3.elim h e)
  · rcases h2.Fnew b h1 (by rw [hs0] at h3; exact h3) with h4 | h4 | h4
    · exact .inl h4
    · exact .inr h4
    · subst h4
      exact (hf h1).elim
  · obtain ⟨h3,h4,h5⟩:=h2.own k b o s n h
    refine ⟨h3,h4,?_⟩
    rw [hs0]
    rcases h5 with (h5 | h5) | h5
    · exact .inl h5
    · subst h5
      exact (hn k o s n h).elim
    · exact .inr h5
  · rw [h2.szs b (by rw [hs0] at hb; exact hb)]
    by_cases e:b=l
    · subst e
      exact hx0.symm
    · unfold au
      rw [World.putObj_heap_other (w:=G.w0) e]
end
theorem rS {E:Env}:∀ {ps:List Nat} {as:List AV} {us:List Value} {t:List AV} {tm:Array Value},as.length=us.length→(∀ (m:Nat) (c:AV) (u:Value),as[m]?=some c→us[m]?=some u→VR E c u)→t.length=tm.size→(∀ (m:Nat) (c:AV) (u:Value),t[m]?=some c→tm[m]?=some u→VR E c u) →
    (o6 ps as t).length=((ps.zip us).foldl (fun tmps (x:Nat×Value)=>tmps.setIfInBounds x.1 x.2) tm).size∧∀ (m:Nat) (c:AV) (u:Value),(o6 ps as t)[m]?=some c→((ps.zip us).foldl (fun tmps (x:Nat×Value)=>tmps.setIfInBounds x.1 x.2) tm)[m]?=some u→VR E c u
  | [],as,us,t,tm,_,_,h1,h2=>by
    have e:o6 [] as t=t:=by cases as <;> rfl
    rw [e]
    exact ⟨by simpa using h1,by simpa using h2⟩
  | p::ps,[],us,t,tm,hl,_,h1,h2=>by
    have:us=[]:=List.eq_nil_of_length_eq_zero (by simpa using hl.symm)
    subst this
    have e:o6 (p::ps) [] t=t:=rfl
    rw [e]
    exact ⟨by simpa using h1,by simpa using h2⟩
  | p::ps,a::as,[],t,tm,hl,_,_,_=>by simp at hl
  | p::ps,a::as,u0::us,t,tm,hl,ha,h1,h2=>by
    have ih:=rS (E:=E) (ps:=ps) (as:=as) (us:=us) (t:=t.set p a) (tm:=tm.setIfInBounds p u0) (by simpa using hl) (fun m c u hc hu=>ha (m + 1) c u (by simpa using hc) (by simpa using hu)) (by simpa using h1) (fun m c u hc hu=>by
      rw [List.getElem?_set] at hc
      rw [Array.getElem?_setIfInBounds] at hu
      by_cases e:p=m
      · subst e
        rw [if_pos rfl] at hc hu
        split at hc
        · rename_i h3
          rw [if_pos (by omega)] at hu
          cases hc; cases hu
          exact ha 0 _ _ rfl rfl
        · cases hc
      · rw [if_neg e] at hc hu
        exact h2 m c u hc hu)
    exact ih
theorem ad.again {G:Gh} {E:Env} {w:World} {o:List Ob} {b id l x y z:Nat} {ob:Ob} (hM:ad G pn E (og o b) w) (hd:o[id]?=some .dead) (hG:G.mu id=some (.blk l x y z)) (hf:¬ E.F l) (hl:l<w.heap.size) (hm:G.M l) (hn:∀ k o s n,E.mu k≠some (.blk l o s n))
    (hO:b9 ⟨E.F,ai E.mu (.O id) (.blk l x y z),E.h⟩ (some ob) (some (.blk l x y z))) (hno:du (some ob)=true) :
    LE E ⟨E.F,ai E.mu (.O id) (.blk l x y z),E.h⟩∧ad G pn ⟨E.F,ai E.mu (.O id) (.blk l x y z),E.h⟩ (og (o.set id ob) b) w:=by
  have hidl:=(List.getElem?_eq_some_iff.1 hd).1
  have hmu0:E.mu (.O id)=none:=by
    have:=hM.obj id
    rw [show (og o b).o[id]?=some .dead from hd] at this
    cases h:E.mu (.O id) with
    | none=>rfl
    | some mv=>rw [h] at this; exact this.elim
  have hM0:ad G pn E (og o 0) w:=⟨hM.hp,hM.os,hM.tape,hM.output,hM.size,hM.keep,hM.F0,hM.Flt,hM.Fnew,hM.own,hM.inj,hM.loc,hM.obj,fun i h=>(by cases h),Nat.zero_le _,hM.szs,hM.pk,hM.ow⟩
  have hset:(o.set id ob)[id]?=some ob:=by rw [List.getElem?_set,if_pos rfl,if_pos hidl]
  have hS:∀ i,ai E.mu (.O id) (.blk l x y z) (.S id i)=none:=fun i=>by
    have h:=hM.ow id
    rw [show (og o b).o[id]?=some .dead from hd] at h
    unfold ai
    rw [if_neg (fun e=>by cases e)]
    exact bi.deadI.1 h i
  have h:=hM0.addkey' (p':=pn) (key:=.O id) (mv:=.blk l x y z) (M':=og (o.set id ob) 0) (fun _ _=>rfl) (fun d h=>by cases h) hmu0 (fun b' o' s' n' e=>by
      cases e
      exact ⟨hf,hl,.inl hm,fun k o' s' n'=>hn k o' s' n'⟩) (fun _ _=>rfl) (fun j hj=>by
      show (o.set id ob)[j]?=o[j]?
      rw [List.getElem?_set,if_neg (fun e=>hj (by rw [e]))]) rfl (Nat.zero_le _) (fun _ _=>Nat.zero_le _) (fun d h=>by cases h) (fun j hj=>by
      cases hj
      show b9 _ (o.set id ob)[id]? _
      rw [hset]
      exact hO) (fun j hj=>by
      rcases hj with hj | ⟨i,hj⟩
      · cases hj
        show bi _ id (o.set id ob)[id]?
        rw [hset]
        exact (bi.not hno).2 hS
      · cases hj)
  refine ⟨dQ hmu0,h.hp,h.os,h.tape,h.output,h.size,h.keep,h.F0,h.Flt,h.Fnew,h.own,h.inj,h.loc,h.obj,fun i hi=>?_,?_,h.szs,h.pk,h.ow⟩
  · by_cases e:i=id
    · subst e
      refine .inr ?_
      show ai E.mu (.O i) (.blk l x y z) (.O i)=G.mu i
      unfold ai
      rw [if_pos rfl,hG]
    · show (o.set id ob)[i]?=_∨ai E.mu (.O id) (.blk l x y z) (.O i)=_
      rw [List.getElem?_set,if_neg (fun h=>e h.symm)]
      unfold ai
      rw [if_neg (fun h=>e (by cases h; rfl))]
      exact hM.old i hi
  · show b≤(o.set id ob).length
    rw [List.length_set]
    exact hM.bl
theorem oI {w:World} {l:Nat} {x y:Obj}:(w.putObj l x).putObj l y=w.putObj l y:=by
  unfold World.putObj
  simp [Array.setIfInBounds_setIfInBounds]
def w8:Ex→Option Code
  | .nrm=>none
  | .ret=>some .ret
  | .ex n=>some (.exit n)
theorem qC {C:Ctx} (hC:bH C) (hL:f5 C) (hD:fh C) {id:Nat} {args:List AV} {o:List Ob} {K:AV→List Ob→Prop} (h:fX C id args o K):xK C.P id args o K:=by
  intro rr E w us hM hg hv
  unfold fX at h
  split at h
  · rename_i pl ps t asg body hid
    obtain ⟨hc,h⟩:=ab h
    simp only [Bool.and_eq_true] at hc
    obtain ⟨⟨⟨hc1,hnl⟩,hra⟩,hrb⟩:=hc
    have hps:=Nat.eq_of_beq_eq_true hc1
    rw [cx,cx,br,ak] at h
    have hob:=hM.obj id
    rw [show (og o o.length).o[id]?=some (.lp pl ps t asg body 0) from hid] at hob
    obtain ⟨l,x,y,z,hmu,r,hr,hlp⟩:∃ l x y z,E.mu (.O id)=some (.blk l x y z)∧∃ r,E.h[l]?=some (.loop r)∧wV E.ob ps t asg body 0 r:=by
      cases hm:E.mu (.O id) with
      | none=>rw [hm] at hob; exact hob.elim
      | some mv =>
        rw [hm] at hob
        cases mv with
        | virt=>exact hob.elim
        | blk l x y z=>exact ⟨l,x,y,z,rfl,hob⟩
    obtain ⟨hl1,hl2,hl3,⟨hl4,hl5⟩,hst,hpend⟩:=hlp
    have hrw:w.heap[l]?=some (.loop r):=by rw [← hM.hp]; exact hr
    obtain ⟨hFl,hlw,_⟩:=hM.own _ _ _ _ _ hmu
    have hargs:us.size=r.params.size:=by
      have:=hv.1
      rw [← Array.length_toList (xs:=r.params),hl1,← hps,this,Array.length_toList]
    refine ⟨l,x,y,z,hmu,r.fn,_,r.assign,r.body,run_yield hrw hargs,?_⟩
    obtain ⟨hM2,_⟩:=fM (G:=rK E w) (pd:=pn) (S:={ t:=t,l:=[],o:=o,b:=o.length }) (a:={ tmps:=r.tmps,defers:=[] }) (hM.congr rfl rfl rfl) ⟨hl4,fun n c u h1 h2=>(hl5 n c u h1 h2).of_ob,⟨[],rfl,List.nodup_nil,fun B h=>by cases h⟩,hg⟩ id
    have ht2:TR (rK E w) ⟨E.F,ao E.mu (.O id),E.h⟩ (t.map (a5 4 (.O id))) { tmps:=r.tmps,defers:=[] }:=TR.kill ⟨hl4,fun n c u h1 h2=>(hl5 n c u h1 h2).of_ob,⟨[],rfl,List.nodup_nil,fun B h=>by cases h⟩,hg⟩ dj
    have hKo:KE (.O id) E.ob (⟨E.F,ao E.mu (.O id),E.h⟩:Env).ob:=KE.ob dj
    have hfree:∀ k o' s' n',ao E.mu (.O id) k≠some (.blk l o' s' n'):=fun k o' s' n' hk=>by
      obtain ⟨h1,h2⟩:=aR hk
      exact h1 (hM.inj _ _ _ _ _ _ _ _ _ h2 hmu)
    have hI:=hM2.sub
    have ho1:((o.map (bw (.O id))).set id .dead).length=o.length:=by rw [List.length_set,List.length_map]
    have hfold:(r.params.zip us).foldl (fun tmps (x:Tmp×Value)=>tmps.setIfInBounds x.1 x.2) r.tmps=(ps.zip us.toList).foldl (fun tmps (x:Nat×Value)=>tmps.setIfInBounds x.1 x.2) r.tmps:=by
      rw [← Array.foldl_toList,Array.toList_zip,hl1]
    have hsl:=rS (E:=(⟨E.F,ao E.mu (.O id),E.h⟩:Env).ob) (ps:=ps) (as:=args.map (a5 4 (.O id))) (us:=us.toList) (t:=t.map (a5 4 (.O id))) (tm:=r.tmps) (by rw [List.length_map]; exact hv.1) (fun m c u hc hu=>by
        rw [List.getElem?_map,Option.map_eq_some_iff] at hc
        obtain ⟨c',h8,rfl⟩:=hc
        exact b3 4 hKo (dv 4 (List.all_eq_true.1 hnl c' (List.mem_of_getElem? h8)) (hv.2 m c' u h8 hu))) (by rw [List.length_map]; exact hl4) (fun m c u hc hu=>by
        rw [List.getElem?_map,Option.map_eq_some_iff] at hc
        obtain ⟨c',h8,rfl⟩:=hc
        exact b3 4 hKo (hl5 m c' u h8 hu))
    have noM:¬ (rK (⟨E.F,ao E.mu (.O id),E.h⟩:Env).ob w).M l:=by
      rintro ⟨k,o',s',n',hk⟩
      exact hfree k o' s' n' (dm (b7 hk))
    have free:∀ {G':Gh} {E':Env} {S':St} {w':World},ad G' pn E' S' w'→G'.M=(rK (⟨E.F,ao E.mu (.O id),E.h⟩:Env).ob w).M→G'.F=E.F→G'.w0.heap.size=w.heap.size→¬ E'.F l∧∀ k o s n,E'.mu k≠some (.blk l o s n):=fun {G' E' S' w'} hS h1 h2 h3=>by
      refine ⟨fun hf=>?_,fun k o' s' n' hk=>?_⟩
      · rcases hS.Fnew l hf (by rw [h3]; exact hlw) with h4 | h4
        · rw [h2] at h4; exact hFl h4
        · rw [h1] at h4; exact noM h4
      · obtain ⟨_,_,h4 | h4⟩:=hS.own k l o' s' n' hk
        · rw [h1] at h4; exact noM h4
        · rw [h3] at h4; omega
    refine roundIn_of_wpIn (F:=rd rr) trivial ?_
    rw [show (r.params.zip us).foldl (fun tmps (t,a)=>tmps.setIfInBounds t a) r.tmps=_ from hfold,hl2,hl3]
    refine ez hC hL hD asg h (some l) (fun _=>.inl hra) (rK (⟨E.F,ao E.mu (.O id),E.h⟩:Env).ob w) _ { tmps:=_,defers:=[] } w _ (hI.congr rfl rfl ho1.symm) ⟨hsl.1,hsl.2,⟨[],rfl,List.nodup_nil,fun B h=>by cases h⟩,hg.up (fun _ h=>h) rfl⟩ (fun e S1 E1 a1 w1 hk hS1 htr1=>?_)
    cases e with
    | ex n=>exact False.elim hk
    | ret=>exact False.elim hk
    | nrm =>
      have hw1:w1.heap[l]?=some (.loop r):=(hS1.keep l hlw noM).trans hrw
      obtain ⟨hf1,hn1⟩:=free hS1 rfl rfl rfl
      obtain ⟨hle2,hS2⟩:=hS1.poke (x:=.loop { r with state:=.busy }) (eR hw1) (eR (w:=w) hrw) hf1 hn1 hlw
      refine ⟨_,run_beginRound hw1 hst,?_⟩
      have hk:cF C pl body S1 _:=hk
      refine ez hC hL hD body hk (some l) (fun _=>.inl hrb) _ _ a1 _ _ hS2 ⟨htr1.len,fun n c u h1 h2=>(htr1.val n c u h1 h2).mono hle2,vS hle2.F hle2.hF (by
        obtain ⟨Bs,h1,h2,h3⟩:=htr1.df
        exact ⟨Bs,h1,h2,fun B hB=>⟨by show (w.putObj l _).heap.size≤B; rw [World.putObj_size]; exact (h3 B hB).1,(h3 B hB).2⟩⟩),htr1.gt.mono hle2⟩ (fun e2 S2 E3 a3 w3 hk2 hS3 htr3=>?_)
      obtain ⟨hb2,hk2⟩:=ab hk2
      have hb2:=Nat.eq_of_beq_eq_true hb2
      have hs0:(w.putObj l (.loop { r with state:=.busy })).heap.size=w.heap.size:=World.putObj_size
      have hlt0:l<(w.putObj l (.loop { r with state:=.busy })).heap.size:=by rw [hs0]; exact hlw
      have hw3:w3.heap[l]?=some (.loop { r with state:=.busy }):=by
        rw [hS3.keep l hlt0 noM]
        exact World.putObj_heap_same hlw
      obtain ⟨hf3,hn3⟩:=free hS3 rfl rfl hs0
      have jR:∃ v w',(Instr.endRound l (w8 e2)).run C.P w3=.ok v w'∧∃ v' r' o' E',K r' o'∧Ending.returned v=.returned v'∧ad (rK E w) pn E' (og o' o.length) w'∧VR E' r' v':=by
        split at hk2
        · rename_i hdead
          rw [fg,ak] at hk2
          refine ⟨.bool (w8 e2).isNone,_,run_endRound (w8 e2) hw3,?_⟩
          obtain ⟨hle4,hS4⟩:=hS3.poke (x:=.loop { { r with state:=.busy } with state:=if (w8 e2).isNone then .ready else .done,pending:=w8 e2 }) (eR hw3) (eR (w:=w.putObj l (.loop { r with state:=.busy })) (World.putObj_heap_same hlw)) hf3 hn3 hlt0
          have hS5:=hS4.obj_only
          rw [hb2] at hS5
          simp only [oI] at hS5
          obtain ⟨hle6,hM6⟩:=hM2.freestep (w':=w.putObj l (.loop { { r with state:=.busy } with state:=if (w8 e2).isNone then .ready else .done,pending:=w8 e2 })) (b:=l) rfl rfl rfl (by rw [World.putObj_size]; exact Nat.le_refl _) (fun b' _ e=>World.putObj_heap_other e) (fun _=>eR hrw) ⟨hFl,hfree,.inl ⟨.O id,x,y,z,hmu⟩⟩
          obtain ⟨hB,htB,_⟩:=hM6.back (o':=S2.o) (ht2.mono hle6) (by
            show ad _ pn _ (og S2.o ((o.map (bw (.O id))).set id .dead).length) _
            rw [ho1]
            exact hS5)
          have hdead':S2.o[id]?=some .dead:=hdead
          have hmu5:E3.mu (.O id)=none:=by
            have:=hS3.obj id
            rw [hdead'] at this
            cases h:E3.mu (.O id) with
            | none=>rfl
            | some mv=>rw [h] at this; exact this.elim
          have hl4:l<w3.heap.size:=(Array.getElem?_eq_some_iff.1 hw3).1
          obtain ⟨_,hM8⟩:=hB.obj_only.again (id:=id) (l:=l) (x:=x) (y:=y) (z:=z) (ob:=.lp pl ps (mZ (aF ((o.map (bw (.O id))).set id .dead) S2.o 0) (t.map (a5 4 (.O id)))) asg body (vP e2)) hdead' hmu hf3 (by rw [World.putObj_size]; exact hl4) ⟨.O id,x,y,z,hmu⟩ (fun k o' s' n' hk=>by
            cases k with
            | L d=>cases hk
            | O i=>exact hn3 _ _ _ _ hk
            | S a i=>exact hn3 _ _ _ _ hk) ⟨_,World.putObj_heap_same hl4,hl1,hl2,hl3,⟨htB.len,fun m c u hc hu=>(htB.val m c u hc hu).mono ⟨fun _ h=>h,fun k v hs hk=>by
              cases k with
              | S a i=>cases hs
              | L d =>
                have h9:ao E.mu (.O id) (.L d)=some v:=hk
                have h10:E.mu (.L d)=none:=hM.loc d
                rw [gx (fun h=>by cases h),h10] at h9
                cases h9
              | O i =>
                have h9:E3.mu (.O i)=some v:=hk
                show (if Key.O i=Key.O id then some _ else E3.mu (.O i))=some v
                rw [if_neg (fun e=>by cases e; rw [hmu5] at h9; cases h9)]
                exact h9,fun _ _=>rfl,fun _ _ _ _ _ _ _=>rfl⟩⟩,by cases e2 <;> exact ⟨rfl,rfl⟩⟩ rfl
          have hbv:Value.bool (w8 e2).isNone=Value.bool (Nat.beq (vP e2) 0):=by cases e2 <;> rfl
          exact ⟨.bool (w8 e2).isNone,.v (.bool (Nat.beq (vP e2) 0)),_,_,hk2,rfl,hM8,by rw [hbv]; exact .v _ _ rfl⟩
        · exact False.elim hk2
      cases e2 with
      | nrm=>exact jR
      | ret=>exact jR
      | ex n=>exact jR
  · exact False.elim h
end A
end Go.Proofs.Ytaekcekecdocnaa
