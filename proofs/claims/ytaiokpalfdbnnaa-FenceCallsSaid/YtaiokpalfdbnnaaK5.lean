/- Code, functions, fuel. Nothing is claimed here of the program. -/
import Derived.Test.YtaiokpalfdbnnaaK4
import Derived.TacticsIn
import Derived.OrdersIn
import Derived.LoopNIn
namespace Go.Proofs.Ytaiokpalfdbnnaa
namespace A
open Go
open Go.RowKit (Below)
def Hs (E:Env) (w:World):Gh:={ w0:=w,M:=fun b=>∃ k o s n,yw E.mu k=some (.blk b o s n),F:=E.F,mu:=fun id=>E.mu (.O id) }
def Hi (o:List Ob) (b:Nat):St:={ t:=[],l:=[],o:=o,b:=b }
def qi (P:Program) (f:Nat) (args:List AV) (o:List Ob) (K:AV→List Ob→Prop):Prop :=
  rI P f∧∀ (E:Env) (w:World) (us:Array Value),ah (Hs E w) pn E (Hi o o.length) w→Ck E→cb E args us.toList →
    Calls P f us w fun e w'=>∃ v r o' E',K r o'∧e=.returned v∧ah (Hs E w) pn E' (Hi o' o.length) w'∧VR E' r v
theorem uq:∀ {xs ys:List Ob} {n j:Nat} {x:Ob},xs[j]?=some x→x≠.dead→ys[j]?=some .dead→n + j∈bY xs ys n
  | [],_,_,_,_,h,_,_=>by simp at h
  | _::_,[],_,_,_,_,_,h=>by simp at h
  | x0::xs,y0::ys,n,0,x,h1,h2,h3=>by
    simp at h1 h3
    subst h1 h3
    cases x0 with
    | dead=>exact absurd rfl h2
    | arr _ _ _=>simp [bY]
    | mapo _ _=>simp [bY]
    | own _ _ _ _=>simp [bY]
  | x0::xs,y0::ys,n,j + 1,x,h1,h2,h3=>by
    have ih:=uq (xs:=xs) (ys:=ys) (n:=n + 1) (j:=j) (by simpa using h1) h2 (by simpa using h3)
    rw [show n + 1 + j=n + (j + 1) by omega] at ih
    cases x0 <;> cases y0 <;> simp [bY,ih]
def zS (ids:List Nat) (t:List AV):List AV:=ids.foldl (fun t id=>t.map (cX 4 (.O id))) t
def qR (ids:List Nat) (l:List (Nat×List AV)):List (Nat×List AV):=ids.foldl (fun l id=>l.map (gZ (.O id))) l
theorem v8:∀ {ids:List Nat} {t:List AV} {l:List (Nat×List AV)} {K:List AV→List (Nat×List AV)→Prop},j_ ids t l K↔K (zS ids t) (qR ids l)
  | [],_,_,_=>Iff.rfl
  | id::ids,t,l,K=>by
    show mK _ _ _↔_
    rw [im,io]
    exact v8 (ids:=ids)
theorem rM {a:Act}:∀ {ids:List Nat} {E:Env} {t:List AV},TR E t a→TR ⟨E.F,jq ids E.mu,E.h⟩ (zS ids t) a
  | [],_,_,h=>h
  | id::ids,E,_,h=>rM (ids:=ids) (E:=⟨E.F,aS E.mu (.O id),E.h⟩) (h.kill jW)
theorem ut {e:Nat} {row:List AV}:∀ {ids:List Nat} {l:List (Nat×List AV)},aL l e=some row→(∀ k,row.map (cX 4 k)=row)→aL (qR ids l) e=some row
  | [],_,h,_=>h
  | id::ids,l,h,hk=>ut (ids:=ids) (l:=l.map (gZ (.O id))) (by
      rw [eU,h]
      show some _=_
      rw [hk]) hk
theorem rN {pd:Nat→Option (List AV)}:∀ {ids:List Nat} {E:Env} {l:List (Nat×List AV)},(∀ d,gO pd E (aL l d) d)→∀ d,gO pd ⟨E.F,jq ids E.mu,E.h⟩ (aL (qR ids l) d) d
  | [],_,_,h=>h
  | id::ids,E,l,h=>rN (ids:=ids) (E:=⟨E.F,aS E.mu (.O id),E.h⟩) (fun e=>by
    rw [eU]
    have hmu:aS E.mu (.O id) (.L e)=E.mu (.L e):=pH (fun h=>by cases h)
    have:=h e
    revert this
    cases aL l e with
    | none=>exact fun h=>hmu.trans h
    | some row =>
      rintro (⟨b',h1,h2⟩ | ⟨h1,h2⟩)
      · refine .inl ⟨b',hmu.trans (by simpa using h1),?_⟩
        have:=h2.kill (jW (E:=E) (k:=.O id)) (h':=E.h) rfl
        simpa using this
      · exact gO.pend_kill hmu h1 h2)
theorem oM:∀ {ids:List Nat} {mu:Key→Option MV} {d:Nat},jq ids mu (.L d)=mu (.L d)
  | [],_,_=>rfl
  | id::ids,mu,d=>by
    show jq ids (aS mu (.O id)) (.L d)=_
    rw [oM]
    exact pH (fun h=>by cases h)
theorem IS (E:Env):E.ob.ob=E.ob:=by
  have:yw (yw E.mu)=yw E.mu:=by
    funext k
    cases k <;> rfl
  unfold Env.ob
  rw [this]
theorem iS {E:Env} {k:Key} {x:MV} (h:E.ob.mu k=some x):E.mu k=some x:=fZ (k:=k) h
theorem fy.ob {E:Env} {x:Option Ob} {mv:Option MV} (h:fy E x mv):fy E.ob x mv:=by
  revert h
  cases x with
  | none=>cases mv <;> exact fun h=>h
  | some ob =>
    cases ob with
    | dead=>cases mv <;> exact fun h=>h
    | arr fl sz' rows =>
      cases mv with
      | none=>exact fun h=>h
      | some mv =>
        cases mv with
        | virt=>exact fun h=>h
        | blk b o s n =>
          cases fl with
          | true=>exact fun h=>h
          | false =>
            rintro ⟨h1,h2⟩
            refine ⟨h1,?_⟩
            show cz E.ob.ob _ _ _ _ _
            rw [IS]
            exact h2
    | own _ _ _ _ =>
      cases mv with
      | none=>exact fun h=>h.elim
      | some mv=>cases mv <;> exact fun h=>h
    | mapo fl es =>
      cases mv with
      | none=>exact fun h=>h
      | some mv =>
        cases mv with
        | virt=>exact fun h=>h
        | blk b o s n =>
          rintro ⟨ms,clock,h1,h2,h3⟩
          refine ⟨ms,clock,h1,h2,fun i e m h4 h5=>?_⟩
          obtain ⟨h6,h7⟩:=h3 i e m h4 h5
          refine ⟨h6,?_⟩
          cases fl with
          | true=>exact h7
          | false =>
            show VR E.ob.ob _ _
            rw [IS]
            exact h7
theorem dJ.ob {E:Env} {id:Nat} {x:Option Ob} (h:dJ E id x):dJ E.ob id x:=h.mono rfl (fun _=>rfl) (LE.refl _) (by rw [IS]; exact LE.refl _) (fun _ _ _ _ _ _ _=>rfl)
section
variable {G:Gh} {pd:Nat→Option (List AV)} {E:Env} {S:St} {w:World} {P:Program} {o:Oper} {a:Act}
theorem ah.sub (hM:ah G pd E S w):ah (Hs E.ob w) pn E.ob (Hi S.o S.o.length) w :=
  ⟨hM.hp,rfl,rfl,rfl,Nat.le_refl _,fun _ _ _=>rfl,fun _ h=>h,hM.Flt,fun _ h _=>.inl h,
    fun k b o s n h=>by
      cases k with
      | L d=>cases h
      | O id =>
        obtain ⟨h1,h2,_⟩:=hM.own _ b o s n (iS h)
        exact ⟨h1,h2,.inl ⟨.O id,o,s,n,h⟩⟩
      | S id i =>
        obtain ⟨h1,h2,_⟩:=hM.own _ b o s n (iS h)
        exact ⟨h1,h2,.inl ⟨.S id i,o,s,n,h⟩⟩,
    fun k k' b o s n o' s' n' h h'=>hM.inj k k' b o s n o' s' n' (iS h) (iS h'),fun _=>rfl,fun id=>(hM.obj id).ob,fun _ _=>.inr rfl,Nat.le_refl _,fun _ _=>rfl,fun _ _ h=>(by cases h),fun id=>(hM.ow id).ob⟩
def rO (mu mu':Key→Option MV):Key→Option MV
  | .L d=>mu (.L d)
  | .O id=>mu' (.O id)
  | .S id i=>mu' (.S id i)
theorem ah.back (hM:ah G pd E S w) (ht:TR E S.t a) {E':Env} {o':List Ob} {w':World} (hM':ah (Hs E.ob w) pn E' (Hi o' S.o.length) w') :
    ah G pd ⟨E'.F,rO E.mu E'.mu,E'.h⟩ { t:=zS (bY S.o o' 0) S.t,l:=qR (bY S.o o' 0) S.l,o:=o',b:=S.b } w'∧TR ⟨E'.F,rO E.mu E'.mu,E'.h⟩ (zS (bY S.o o' 0) S.t) a∧LE E' ⟨E'.F,rO E.mu E'.mu,E'.h⟩:=by
  have hL':∀ d,E'.mu (.L d)=none:=fun d=>hM'.loc d
  have hsz:w.heap.size≤w'.heap.size:=hM'.size
  have notM:∀ b,E.F b→¬ (Hs E.ob w).M b:=by
    rintro b hF ⟨k,x,s,n,h⟩
    exact (hM.own _ _ _ _ _ (iS (fZ h))).1 hF
  have MG:∀ b,(Hs E.ob w).M b→G.M b∨G.w0.heap.size≤b:=by
    rintro b ⟨k,x,s,n,h⟩
    exact (hM.own _ _ _ _ _ (iS (fZ h))).2.2
  have Mlt:∀ b,(Hs E.ob w).M b→b<w.heap.size:=by
    rintro b ⟨k,x,s,n,h⟩
    exact (hM.own _ _ _ _ _ (iS (fZ h))).2.1
  have LnotM:∀ d b x s n,E.mu (.L d)=some (.blk b x s n)→¬ (Hs E.ob w).M b:=by
    rintro d b x s n h ⟨k,x',s',n',h'⟩
    have:=hM.inj _ _ _ _ _ _ _ _ _ h (iS (fZ h'))
    subst this
    cases h'
  have hle:LE ⟨E.F,jq (bY S.o o' 0) E.mu,E.h⟩ ⟨E'.F,rO E.mu E'.mu,E'.h⟩:=by
    have kept:∀ id x,jq (bY S.o o' 0) E.mu (.O id)=some x→E.mu (.O id)=some x∧E'.mu (.O id)=some x:=by
      intro id x h
      obtain ⟨h1,h2⟩:=iq h
      refine ⟨h1,?_⟩
      have hob:=hM.obj id
      rw [h1] at hob
      have hid:id<S.o.length:=by
        rcases Nat.lt_or_ge id S.o.length with h3 | h3
        · exact h3
        · rw [List.getElem?_eq_none h3] at hob
          exact hob.elim
      rcases hM'.old id hid with h3 | h3
      · exfalso
        have hx:=List.getElem?_eq_getElem hid
        rw [hx] at hob
        have hnd:S.o[id]≠.dead:=fun hd=>by rw [hd] at hob; exact hob.elim
        have:=uq (n:=0) hx hnd h3
        rw [Nat.zero_add] at this
        exact h2 _ this rfl
      · rw [h3]; exact h1
    refine ⟨fun b h=>hM'.F0 b h,fun k x hs h=>?_,fun b h=>?_,fun k b x s n hs h=>?_⟩
    · cases k with
      | S _ _=>cases hs
      | L d =>
        show E.mu (.L d)=_
        exact (oM (ids:=bY S.o o' 0)).symm.trans h
      | O id=>exact (kept id x h).2
    · show E'.h[b]?=E.h[b]?
      rw [hM'.hp,hM.hp]
      exact hM'.keep b (hM.Flt b h) (notM b h)
    · show bj E'.h b=bj E.h b
      rw [hM'.hp,hM.hp]
      have:b<w.heap.size:=(hM.own _ _ _ _ _ (iq h).1).2.1
      exact hM'.szs b this
  refine ⟨⟨hM'.hp,hM'.os.trans hM.os,hM'.tape.trans hM.tape,hM'.output.trans hM.output,Nat.le_trans hM.size hsz,fun b h1 h2=>?_,fun b h=>hM'.F0 b (hM.F0 b h),hM'.Flt,fun b h1 h2=>?_,fun k b x s n h=>?_,fun k k' b x s n x' s' n' h h'=>?_,
    fun d=>?_,fun id=>?_,fun id hid=>?_,?_,fun b hb=>?_,fun e row h=>?_,fun id=>(hM'.ow id).mono rfl (fun _=>rfl) (LE.refl _) ⟨fun _ h=>h,fun k x hs h=>(by
      cases k with
      | L d=>cases h
      | O i=>exact h
      | S i j=>cases hs),fun _ _=>rfl,fun _ _ _ _ _ _ _=>rfl⟩ (fun _ _ _ _ _ _ _=>rfl)⟩,(rM ht).mono hle,⟨fun _ h=>h,fun k x hs h=>?_,fun _ _=>rfl,fun _ _ _ _ _ _ _=>rfl⟩⟩
  · rw [hM'.keep b (Nat.lt_of_lt_of_le h1 hM.size) (fun h=>by
      rcases MG b h with h3 | h3
      · exact h2 h3
      · omega)]
    exact hM.keep b h1 h2
  · rcases hM'.Fnew b h1 (Nat.lt_of_lt_of_le h2 hM.size) with h3 | h3
    · exact hM.Fnew b h3 h2
    · rcases MG b h3 with h4 | h4
      · exact .inr h4
      · omega
  · cases k with
    | L d =>
      obtain ⟨h1,h2,h3⟩:=hM.own _ b x s n h
      refine ⟨fun hF=>?_,Nat.lt_of_lt_of_le h2 hsz,h3⟩
      rcases hM'.Fnew b hF h2 with h4 | h4
      · exact h1 h4
      · exact LnotM d b x s n h h4
    | O id =>
      obtain ⟨h1,h2,h3⟩:=hM'.own _ b x s n h
      refine ⟨h1,h2,?_⟩
      rcases h3 with h3 | h3
      · exact MG b h3
      · exact .inr (Nat.le_trans hM.size h3)
    | S id i =>
      obtain ⟨h1,h2,h3⟩:=hM'.own _ b x s n h
      refine ⟨h1,h2,?_⟩
      rcases h3 with h3 | h3
      · exact MG b h3
      · exact .inr (Nat.le_trans hM.size h3)
  · have mix:∀ {d:Nat} {key:Key} {b x s n x' s' n':Nat},E.mu (.L d)=some (.blk b x s n)→E'.mu key=some (.blk b x' s' n')→False:=by
      intro d key b x s n x' s' n' h h'
      rcases (hM'.own _ _ _ _ _ h').2.2 with h3 | h3
      · exact LnotM d b x s n h h3
      · have h2:=(hM.own _ _ _ _ _ h).2.1
        have h3:w.heap.size≤b:=h3
        omega
    cases k with
    | L d =>
      cases k' with
      | L d'=>exact hM.inj _ _ _ _ _ _ _ _ _ h h'
      | O id=>exact (mix h h').elim
      | S id i=>exact (mix h h').elim
    | O id =>
      cases k' with
      | L d'=>exact (mix h' h).elim
      | O id'=>exact hM'.inj _ _ _ _ _ _ _ _ _ h h'
      | S id' i=>exact hM'.inj _ _ _ _ _ _ _ _ _ h h'
    | S id i =>
      cases k' with
      | L d'=>exact (mix h' h).elim
      | O id'=>exact hM'.inj _ _ _ _ _ _ _ _ _ h h'
      | S id' i=>exact hM'.inj _ _ _ _ _ _ _ _ _ h h'
  · have:=rN (ids:=bY S.o o' 0) hM.loc d
    revert this
    show gO _ _ (aL (qR (bY S.o o' 0) S.l) d) d→gO _ _ (aL (qR (bY S.o o' 0) S.l) d) d
    cases aL (qR (bY S.o o' 0) S.l) d with
    | none =>
      intro h
      show E.mu (.L d)=none
      exact (oM (ids:=bY S.o o' 0)).symm.trans h
    | some row =>
      rintro (⟨b,h1,h2,h3,us,ty,h4,h5,h6⟩ | ⟨h0,h⟩)
      · have h1':E.mu (.L d)=some (.blk b 0 row.length 1):=oM.symm.trans h1
        refine .inl ⟨b,h1',h2,h3,us,ty,?_,h5,fun m c hc=>?_⟩
        · show E'.h[b]?=_
          rw [hM'.hp,hM'.keep b (hM.own _ _ _ _ _ h1').2.1 (LnotM d b _ _ _ h1')]
          have:E.h[b]?=_:=h4
          rw [hM.hp] at this
          exact this
        · obtain ⟨u,hu,hv⟩:=h6 m c hc
          exact ⟨u,hu,hv.mono hle⟩
      · exact .inr ⟨show E.mu (.L d)=none from (oM (ids:=bY S.o o' 0)).symm.trans h0,h⟩
  · have:=hM'.obj id
    refine this.mono2 (E':=⟨E'.F,rO E.mu E'.mu,E'.h⟩) ⟨fun _ h=>h,fun _ _ _ h=>(by cases h),fun _ _=>rfl,fun _ _ _ _ _ _ h=>(by cases h)⟩ ⟨fun _ h=>h,fun k x hs h=>?_,fun _ _=>rfl,fun _ _ _ _ _ _ _=>rfl⟩ (fun _ _ _ _ _=>rfl)
    cases k with
    | S _ _=>cases hs
    | L d=>cases h
    | O i=>exact h
  · have hid':id<S.o.length:=Nat.lt_of_lt_of_le hid hM.bl
    rcases hM'.old id hid' with h | h
    · exact .inl h
    · rcases hM.old id hid with h2 | h2
      · refine .inl ?_
        have hob:=hM.obj id
        rw [h2] at hob
        have hn:E.mu (.O id)=none:=by
          revert hob
          cases E.mu (.O id) with
          | none=>exact fun _=>rfl
          | some _=>exact fun h=>h.elim
        have hob':=hM'.obj id
        rw [h] at hob'
        have hn':(Hs E.ob w).mu id=none:=hn
        rw [hn'] at hob'
        show o'[id]?=some .dead
        have hlt:id<o'.length:=Nat.lt_of_lt_of_le hid' hM'.bl
        have hx:(Hi o' S.o.length).o[id]?=some o'[id]:=List.getElem?_eq_getElem hlt
        rw [hx] at hob'
        rw [List.getElem?_eq_getElem hlt]
        revert hob'
        cases o'[id] with
        | dead=>exact fun _=>rfl
        | arr _ _ _=>exact fun h=>h.elim
        | mapo _ _=>exact fun h=>h.elim
        | own _ _ _ _=>exact fun h=>h.elim
      · refine .inr ?_
        show E'.mu (.O id)=G.mu id
        rw [h,← h2]
        rfl
  · exact Nat.le_trans hM.bl hM'.bl
  · rw [← hM.szs b hb]
    exact hM'.szs b (Nat.lt_of_lt_of_le hb hM.size)
  · obtain ⟨h1,h2⟩:=hM.pk e row h
    exact ⟨h1,ut h2 (hM.pend_inv h)⟩
  · cases k with
    | S _ _=>cases hs
    | L d=>rw [hL' d] at h; cases h
    | O id=>exact h
theorem uu {K:St→Prop} {c:Call} {x:Operand} {fid:Nat} {first cap as:List AV} (hM:ah G pd E S w) (ht:TR E S.t a) (ho:o.op=.call c) (hcal:c.callee=.value x)
    (hx:VR E (.fn fid first cap) (a.eval x)) (has:cb E as (c.args.toList.map a.eval)) (hnl:(first++as++cap).all (uM 4)=true)
    (h:qi P fid (first++as++cap) S.o fun r o'=>j_ (bY S.o o' 0) S.t S.l fun t l=>bB o.dst r { t:=t,l:=l,o:=o',b:=S.b } K):c7 P G pd o a w K:=by
  obtain ⟨us,ws,hfv,h1,h2⟩:∃ us ws,a.eval x=.func (.func fid) us ws∧cb E first us.toList∧cb E cap ws.toList:=by
    generalize a.eval x=u at hx
    cases hx with
    | fn us ws h1 h2 h3 h4=>exact ⟨us,ws,rfl,⟨by simpa using h1,fun m c u hc hu=>h2 m c u hc (by simpa using hu)⟩,⟨by simpa using h3,fun m c u hc hu=>h4 m c u hc (by simpa using hu)⟩⟩
  have hall:=(h1.append has).append h2
  intro next Q hn
  unfold Oper.wp
  rw [yD ho hcal hfv h.1 w,Oper.upon_enter]
  refine (h.2 E.ob w _ hM.sub ht.gt (by
    refine ⟨by simpa using hall.1,fun m c u hc hu=>?_⟩
    exact lc 4 (List.all_eq_true.1 hnl c (List.mem_of_getElem? hc)) (hall.2 m c u hc (by simpa using hu)))).mono ?_
  rintro e w' ⟨v,r,o',E',hK,rfl,hM',hv⟩
  rw [v8,aB] at hK
  obtain ⟨hS,htr,hle⟩:=hM.back ht hM'
  exact hn _ _ _ w' hK (hS.congr cp cq cC) (htr.put (hv.mono hle))
end
section
variable {G:Gh} {p:Nat→Option (List AV)} {E:Env} {S M:St} {w:World} {P:Program} {a:Act}
theorem ah.reS (hM:ah G p E M w) {id:Nat} {mu':Key→Option MV} (hsame:∀ k,(∀ j,k≠.S id j)→mu' k=E.mu k)
    (hown:∀ j b o s n,mu' (.S id j)=some (.blk b o s n)→¬ E.F b∧b<w.heap.size∧(G.M b∨G.w0.heap.size≤b)∧∀ k o' s' n',(∀ i,k≠.S id i)→E.mu k≠some (.blk b o' s' n'))
    (hinj:∀ j j' b o s n o' s' n',mu' (.S id j)=some (.blk b o s n)→mu' (.S id j')=some (.blk b o' s' n')→j=j')
    {x y:Ob} (hx:M.o[id]?=some x) (hnx:x≠.dead) (hO:fy ⟨E.F,mu',E.h⟩ (some y) (E.mu (.O id))) (hW:dJ ⟨E.F,mu',E.h⟩ id (some y)) :
    LE E ⟨E.F,mu',E.h⟩∧ah G p ⟨E.F,mu',E.h⟩ { t:=M.t,l:=M.l,o:=M.o.set id y,b:=M.b } w:=by
  have hlt:id<M.o.length:=(List.getElem?_eq_some_iff.1 hx).1
  have hns:∀ k:Key,k.isS=false→mu' k=E.mu k:=fun k hk=>hsame k (fun j e=>by subst e; cases hk)
  have hle:LE E ⟨E.F,mu',E.h⟩:=⟨fun _ h=>h,fun k z hs h=>(hns k hs).trans h,fun _ _=>rfl,fun _ _ _ _ _ _ _=>rfl⟩
  have isit:∀ k:Key,(∃ j,k=.S id j)∨∀ j,k≠.S id j:=fun k=>by
    cases k with
    | L d=>exact .inr (fun j e=>by cases e)
    | O i=>exact .inr (fun j e=>by cases e)
    | S c j =>
      by_cases h:c=id
      · subst h
        exact .inl ⟨j,rfl⟩
      · exact .inr (fun j' e=>h (by cases e; rfl))
  refine ⟨hle,hM.hp,hM.os,hM.tape,hM.output,hM.size,hM.keep,hM.F0,hM.Flt,hM.Fnew,fun k b o s n h=>?_,fun k k' b o s n o' s' n' h h'=>?_,fun d=>?_,fun i=>?_,fun i hi=>?_,by simpa using hM.bl,hM.szs,fun d row h=>?_,fun i=>?_⟩
  · rcases isit k with ⟨j,rfl⟩ | hk
    · obtain ⟨h1,h2,h3,_⟩:=hown j b o s n h
      exact ⟨h1,h2,h3⟩
    · exact hM.own k b o s n ((hsame k hk).symm.trans h)
  · rcases isit k with ⟨j,rfl⟩ | hk
    · rcases isit k' with ⟨j',rfl⟩ | hk'
      · rw [hinj j j' _ _ _ _ _ _ _ h h']
      · exact absurd ((hsame k' hk').symm.trans h') ((hown j _ _ _ _ h).2.2.2 k' _ _ _ hk')
    · rcases isit k' with ⟨j',rfl⟩ | hk'
      · exact absurd ((hsame k hk).symm.trans h) ((hown j' _ _ _ _ h').2.2.2 k _ _ _ hk)
      · exact hM.inj _ _ _ _ _ _ _ _ _ ((hsame k hk).symm.trans h) ((hsame k' hk').symm.trans h')
  · have:=hM.loc d
    revert this
    show gO p E (aL M.l d) d→gO p _ (aL M.l d) d
    cases aL M.l d with
    | none=>exact fun h=>(hns (.L d) rfl).trans h
    | some row =>
      rintro (⟨b',h1,h2⟩ | ⟨h1,h2⟩)
      · exact .inl ⟨b',(hns (.L d) rfl).trans h1,h2.mono hle⟩
      · exact .inr ⟨(hns (.L d) rfl).trans h1,h2⟩
  · show fy _ (M.o.set id y)[i]? (mu' (.O i))
    rw [hns (.O i) rfl]
    by_cases h:id=i
    · subst h
      rw [List.getElem?_set_self hlt]
      exact hO
    · rw [List.getElem?_set,if_neg h]
      exact (hM.obj i).mono hle (fun _ _ _ _ _=>rfl)
  · show (M.o.set id y)[i]?=some .dead∨mu' (.O i)=G.mu i
    rw [hns (.O i) rfl]
    by_cases h:id=i
    · subst h
      rcases hM.old id hi with h1 | h1
      · rw [hx] at h1
        cases h1
        exact absurd rfl hnx
      · exact .inr h1
    · rw [List.getElem?_set,if_neg h]
      exact hM.old i hi
  · obtain ⟨h1,h2⟩:=hM.pk d row h
    exact ⟨(hns (.L d) rfl).trans h1,h2⟩
  · show dJ _ i (M.o.set id y)[i]?
    by_cases h:id=i
    · subst h
      rw [List.getElem?_set_self hlt]
      exact hW
    · rw [List.getElem?_set,if_neg h]
      exact (hM.ow i).mono (hns (.O i) rfl) (fun j=>hsame (.S i j) (fun j' e=>h (by cases e; rfl))) hle.fz hle.ob (fun _ _ _ _ _ _ _=>rfl)
theorem ah.ownS (hM:ah G p E M w) {id j b o s n:Nat} (h:E.mu (.S id j)=some (.blk b o s n)) :
    ¬ E.F b∧b<w.heap.size∧(G.M b∨G.w0.heap.size≤b)∧∀ k o' s' n',k≠.S id j→E.mu k≠some (.blk b o' s' n'):=by
  obtain ⟨h1,h2,h3⟩:=hM.own _ _ _ _ _ h
  exact ⟨h1,h2,h3,fun k o' s' n' hk h'=>hk (hM.inj _ _ _ _ _ _ _ _ _ h' h)⟩
theorem xQ (hM:ah G p E S w) {id i sz:Nat} {ks:Option (List AV)} {cells:List (Option (List (List AV)))} {rows:List (List AV)} (hob:S.o[id]?=some (.own ks sz cells none)) (hc:cells[i]?=some (some rows))
    {b o s n:Nat} (hmu:E.mu (.O id)=some (.blk b o s n)) :
    ∃ E' u,ah G p E' { t:=S.t,l:=S.l,o:=S.o.set id (.own ks sz cells (some (i,Fx sz S.o.length)))++[.arr true (vC sz) rows],b:=S.b } w∧LE E E'∧VR E' (.mf S.o.length) u∧gP w.heap b o i=some u:=by
  have hlt:id<S.o.length:=(List.getElem?_eq_some_iff.1 hob).1
  have hw:=hM.ow id
  rw [hob] at hw
  obtain ⟨hz,hbey,hcells⟩:=hw
  obtain ⟨hbase,hall⟩:=hcells b o s n hmu
  obtain ⟨u,hu,hcell⟩:=hall i _ hc
  have hcell:cg E sz (some rows) (E.mu (.S id i)) u:=hcell
  have hOb:=hM.obj id
  rw [hob,hmu] at hOb
  have hOb:ks=none→s=1∧n=cells.length:=hOb
  obtain ⟨mu1,hmu1⟩:∃ mu1:Key→Option MV,mu1=fun k=>if k=.S id i then none else E.mu k:=⟨_,rfl⟩
  have hm1i:mu1 (.S id i)=none:=by rw [hmu1]; simp
  have hm1:∀ k,k≠.S id i→mu1 k=E.mu k:=fun k hk=>by rw [hmu1]; show (if k=.S id i then none else E.mu k)=_; rw [if_neg hk]
  have hfz:LE E.fz (Env.fz ⟨E.F,mu1,E.h⟩):=LE.refl _
  have hW1:dJ ⟨E.F,mu1,E.h⟩ id (some (.own ks sz cells (some (i,.bad)))):=by
    refine ⟨hz,fun j hj=>?_,fun b' o' s' n' hm=>?_⟩
    · show mu1 (.S id j)=none
      by_cases h:Key.S id j=.S id i
      · rw [h]; exact hm1i
      · rw [hm1 _ h]; exact hbey j hj
    · have hm:E.mu (.O id)=some (.blk b' o' s' n'):=(hm1 _ (fun e=>by cases e)).symm.trans hm
      obtain ⟨h4,h6⟩:=hcells b' o' s' n' hm
      refine ⟨h4,fun j c hj=>?_⟩
      obtain ⟨u',hu',h7⟩:=h6 j c hj
      refine ⟨u',hu',?_⟩
      show if i=j then mu1 (.S id j)=none∧VR _ .bad u' else cg _ sz c (mu1 (.S id j)) u'
      by_cases hij:i=j
      · subst hij
        rw [if_pos rfl]
        exact ⟨hm1i,.bad _ _⟩
      · rw [if_neg hij,hm1 _ (fun e=>hij (by cases e; rfl))]
        exact cg.mono h7 hfz (fun _ _ _ _ _=>rfl)
  obtain ⟨hle1,hS1⟩:=hM.reS (mu':=mu1) (fun k hk=>hm1 k (hk i)) (fun j b' o' s' n' h=>by
      by_cases hj:Key.S id j=.S id i
      · rw [hj,hm1i] at h; cases h
      · rw [hm1 _ hj] at h
        obtain ⟨h1,h2,h3,h4⟩:=hM.ownS h
        exact ⟨h1,h2,h3,fun k o2 s2 n2 hk=>h4 k o2 s2 n2 (hk j)⟩)
    (fun j j' b' o' s' n' o2 s2 n2 h h'=>by
      by_cases hj:Key.S id j=.S id i
      · rw [hj,hm1i] at h; cases h
      · by_cases hj':Key.S id j'=.S id i
        · rw [hj',hm1i] at h'; cases h'
        · rw [hm1 _ hj] at h
          rw [hm1 _ hj'] at h'
          have:=hM.inj _ _ _ _ _ _ _ _ _ h h'
          cases this
          rfl) hob (fun e=>by cases e) (y:=.own ks sz cells (some (i,.bad))) (by rw [hmu]; exact hOb) hW1
  have hlen:(S.o.set id (.own ks sz cells (some (i,.bad)))).length=S.o.length:=by simp
  obtain ⟨mvi,hmvi⟩:∃ mvi,E.mu (.S id i)=some mvi:=by
    cases h:E.mu (.S id i) with
    | none=>rw [h] at hcell; exact hcell.elim
    | some mv=>exact ⟨mv,rfl⟩
  rw [hmvi] at hcell
  have hnew1:mu1 (.O S.o.length)=none:=(hm1 _ (fun e=>by cases e)).trans (Dq hM)
  have hS2:=hS1.addkey (key:=.O S.o.length) (mv:=mvi) (fun d e=>by cases e) hnew1 (fun b' o' s' n' e=>by
      subst e
      obtain ⟨h1,h2,h3,h4⟩:=hM.ownS hmvi
      refine ⟨h1,h2,h3,fun k o2 s2 n2 h=>?_⟩
      by_cases hk:k=.S id i
      · subst hk
        rw [show (Env.mu ⟨E.F,mu1,E.h⟩ (.S id i))=none from hm1i] at h
        cases h
      · exact h4 k o2 s2 n2 hk ((hm1 k hk).symm.trans h))
    (M':={ t:=S.t,l:=S.l,o:=S.o.set id (.own ks sz cells (some (i,.bad)))++[.arr true (vC sz) rows],b:=S.b }) (fun _ _=>rfl)
    (fun j hj=>by
      show (S.o.set id _++[_])[j]?=(S.o.set id _)[j]?
      rcases Nat.lt_trichotomy j S.o.length with h | h | h
      · rw [List.getElem?_append_left (by rw [hlen]; exact h)]
      · exact absurd (by rw [h]) hj
      · rw [List.getElem?_eq_none (by rw [List.length_append,hlen]; simp; omega),List.getElem?_eq_none (by rw [hlen]; omega)])
    rfl (by have:=hM.bl; show S.b≤(S.o.set id _++[_]).length; rw [List.length_append,hlen]; simp; omega) (fun j e=>by cases e; exact hM.bl) (fun d e=>by cases e)
    (fun j e=>by
      cases e
      show fy _ (S.o.set id _++[_])[S.o.length]? _
      rw [List.getElem?_append_right (by rw [hlen]; exact Nat.le_refl _),hlen,Nat.sub_self]
      cases mvi with
      | virt=>exact hcell.1
      | blk b1 o1 s1 n1=>exact ⟨hcell.1,hcell.2.1⟩)
    (fun j e=>by
      rcases e with e | ⟨i',e⟩ <;> cases e
      rw [List.getElem?_append_right (by rw [hlen]; exact Nat.le_refl _),hlen,Nat.sub_self]
      exact hS1.ow_new rfl (by rw [List.getElem?_eq_none (by show (S.o.set id _).length≤_; rw [hlen]; exact Nat.le_refl _)]; rfl) rfl)
  have hle2:LE ⟨E.F,mu1,E.h⟩ ⟨E.F,aF mu1 (.O S.o.length) mvi,E.h⟩:=jV (E:=⟨E.F,mu1,E.h⟩) hnew1
  have hm2:aF mu1 (.O S.o.length) mvi (.O S.o.length)=some mvi:=by unfold aF; rw [if_pos rfl]
  have hm2i:aF mu1 (.O S.o.length) mvi (.S id i)=none:=by unfold aF; rw [if_neg (fun e=>by cases e)]; exact hm1i
  have hv:∀ E':Env,E'.mu (.O S.o.length)=some mvi→E'.h=E.h→VR E' (.mf S.o.length) u∧VR E' (Fx sz S.o.length) u:=by
    intro E' hE hE2
    unfold Fx
    cases mvi with
    | virt =>
      obtain ⟨_,c,rfl,hnn⟩:=hcell
      cases c with
      | none =>
        cases hz0:Ay sz with
        | true=>exact absurd (hnn hz0) (by simp)
        | false=>exact ⟨.mfn hE,.mfn hE⟩
      | some c =>
        cases Ay sz with
        | true=>exact ⟨.mfe c hE,.mfxe c hE⟩
        | false=>exact ⟨.mfe c hE,.mfe c hE⟩
    | blk b1 o1 s1 n1 =>
      obtain ⟨_,_,cap,h6,h7,rfl⟩:=hcell
      have h8:o1 + cap * s1≤bj E'.h b1:=by rw [hE2]; exact h7
      cases Ay sz with
      | true=>exact ⟨.mf cap hE h6 h8,.mfx cap hE h6 h8⟩
      | false=>exact ⟨.mf cap hE h6 h8,.mf cap hE h6 h8⟩
  have hv1:∀ E':Env,E'.mu (.O S.o.length)=some mvi→E'.h=E.h→VR E' (.mf S.o.length) u:=fun E' h1 h2=>(hv E' h1 h2).1
  have hv2:∀ E':Env,E'.mu (.O S.o.length)=some mvi→E'.h=E.h→VR E' (Fx sz S.o.length) u:=fun E' h1 h2=>(hv E' h1 h2).2
  have hW3:dJ ⟨E.F,aF mu1 (.O S.o.length) mvi,E.h⟩ id (some (.own ks sz cells (some (i,Fx sz S.o.length)))):=by
    have hS2w:=hS2.ow id
    have hget:(S.o.set id (.own ks sz cells (some (i,.bad)))++[.arr true (vC sz) rows])[id]?=some (.own ks sz cells (some (i,.bad))):=by
      rw [List.getElem?_append_left (by rw [hlen]; exact hlt),List.getElem?_set_self hlt]
    rw [hget] at hS2w
    obtain ⟨q1,q2,q3⟩:=hS2w
    refine ⟨q1,q2,fun b' o' s' n' hm=>?_⟩
    have hm0:E.mu (.O id)=some (.blk b' o' s' n'):=by
      have h:aF mu1 (.O S.o.length) mvi (.O id)=some (.blk b' o' s' n'):=hm
      unfold aF at h
      rw [if_neg (fun e=>by cases e; omega),hm1 _ (fun e=>by cases e)] at h
      exact h
    obtain ⟨h4,h6⟩:=q3 b' o' s' n' hm
    refine ⟨h4,fun j c hj=>?_⟩
    obtain ⟨u',hu',h7⟩:=h6 j c hj
    refine ⟨u',hu',?_⟩
    have h7:(if i=j then aF mu1 (.O S.o.length) mvi (.S id j)=none∧VR _ .bad u' else cg _ sz c (aF mu1 (.O S.o.length) mvi (.S id j)) u'):=h7
    show (if i=j then aF mu1 (.O S.o.length) mvi (.S id j)=none∧VR _ (Fx sz S.o.length) u' else cg _ sz c (aF mu1 (.O S.o.length) mvi (.S id j)) u')
    by_cases hij:i=j
    · subst hij
      rw [if_pos rfl]
      refine ⟨hm2i,?_⟩
      rw [hmu] at hm0
      cases hm0
      have hu':gP E.h b o i=some u':=hu'
      rw [hu] at hu'
      cases hu'
      exact hv2 _ hm2 rfl
    · rw [if_neg hij] at h7 ⊢
      exact h7
  obtain ⟨hle3,hS3⟩:=hS2.reS (id:=id) (mu':=aF mu1 (.O S.o.length) mvi) (fun _ _=>rfl) (fun j b' o' s' n' h=>by
      obtain ⟨h1,h2,h3,h4⟩:=hS2.ownS (id:=id) (j:=j) h
      exact ⟨h1,h2,h3,fun k o2 s2 n2 hk=>h4 k o2 s2 n2 (hk j)⟩)
    (fun j j' b' o' s' n' o2 s2 n2 h h'=>by
      have:=hS2.inj (.S id j) (.S id j') _ _ _ _ _ _ _ h h'
      cases this
      rfl)
    (x:=.own ks sz cells (some (i,.bad))) (y:=.own ks sz cells (some (i,Fx sz S.o.length))) (by
      show (S.o.set id _++[_])[id]?=_
      rw [List.getElem?_append_left (by rw [hlen]; exact hlt),List.getElem?_set_self hlt]) (fun e=>by cases e) (by
      have h:aF mu1 (.O S.o.length) mvi (.O id)=some (.blk b o s n):=by
        unfold aF
        rw [if_neg (fun e=>by cases e; omega),hm1 _ (fun e=>by cases e)]
        exact hmu
      show fy _ _ (aF mu1 (.O S.o.length) mvi (.O id))
      rw [h]
      exact hOb) hW3
  refine ⟨_,u,?_,(hle1.trans hle2).trans hle3,hv1 _ hm2 rfl,?_⟩
  · have e:(S.o.set id (Ob.own ks sz cells (some (i,.bad)))++[Ob.arr true (vC sz) rows]).set id (Ob.own ks sz cells (some (i,Fx sz S.o.length)))=S.o.set id (Ob.own ks sz cells (some (i,Fx sz S.o.length)))++[Ob.arr true (vC sz) rows]:=by
      rw [List.set_append_left _ _ (by rw [hlen]; exact hlt),List.set_set]
    have hS3:ah G p _ { t:=S.t,l:=S.l,o:=(S.o.set id (Ob.own ks sz cells (some (i,.bad)))++[Ob.arr true (vC sz) rows]).set id (Ob.own ks sz cells (some (i,Fx sz S.o.length))),b:=S.b } w:=hS3
    rw [e] at hS3
    exact hS3
  · rw [← hM.hp]
    exact hu
theorem qj (hM:ah G p E S w) (ht:TR E S.t a) {id j k sz:Nat} {ks:Option (List AV)} {cells:List (Option (List (List AV)))} {rows:List (List AV)} {ha:AV} (hha:ha=.mf k∧Ay sz=false∨ha=.mfx k) (hob:S.o[id]?=some (.own ks sz cells (some (j,ha)))) (hk:S.o[k]?=some (.arr true (vC sz) rows)) (hj:j<cells.length) :
    ∃ E',ah G p E' { t:=(br k S).t,l:=(br k S).l,o:=(br k S).o.set id (.own ks sz (cells.set j (some rows)) none),b:=S.b } w∧TR E' (br k S).t a∧E'.mu (.O id)=E.mu (.O id):=by
  have hklt:k<S.o.length:=(List.getElem?_eq_some_iff.1 hk).1
  have hne:k≠id:=fun e=>by subst e; rw [hob] at hk; cases hk
  have hw:=hM.ow id
  rw [hob] at hw
  obtain ⟨hz,hbey,hcells⟩:=hw
  have hOb:=hM.obj id
  rw [hob] at hOb
  have hOk:=hM.obj k
  rw [hk] at hOk
  obtain ⟨mvk,hmk⟩:∃ mvk,E.mu (.O k)=some mvk:=by
    cases h:E.mu (.O k) with
    | none=>rw [h] at hOk; exact hOk.elim
    | some mv=>exact ⟨mv,rfl⟩
  rw [hmk] at hOk
  obtain ⟨hS1,ht1,hke⟩:=nh hM ht hklt
  have hgl:(br k S).o.length=S.o.length:=by simp [br]
  have hidlt:id<S.o.length:=(List.getElem?_eq_some_iff.1 hob).1
  obtain ⟨mu1,hmu1⟩:∃ mu1:Key→Option MV,mu1=fun x=>if x=.S id j then some mvk else aS E.mu (.O k) x:=⟨_,rfl⟩
  have hm1j:mu1 (.S id j)=some mvk:=by rw [hmu1]; simp
  have hm1:∀ x,x≠.S id j→mu1 x=aS E.mu (.O k) x:=fun x hx=>by rw [hmu1]; show (if x=.S id j then some mvk else aS E.mu (.O k) x)=_; rw [if_neg hx]
  have hS:∀ i,aS E.mu (.O k) (.S id i)=E.mu (.S id i):=fun i=>zN (k:=.O k) (a:=id) (i:=i) (by intro e; cases e) (by intro e; cases e; exact hne rfl)
  have hgid:(br k S).o[id]?=some (dT (.O k) (.own ks sz cells (some (j,ha)))):=by
    show ((S.o.map (dT (.O k))).set k .dead)[id]?=_
    rw [List.getElem?_set,if_neg hne,List.getElem?_map,hob]
    rfl
  have hfree:∀ b o s n,mvk=.blk b o s n→¬ E.F b∧b<w.heap.size∧(G.M b∨G.w0.heap.size≤b)∧∀ x o' s' n',aS E.mu (.O k) x≠some (.blk b o' s' n'):=by
    intro b o s n e
    subst e
    obtain ⟨h1,h2,h3⟩:=hM.own _ _ _ _ _ hmk
    refine ⟨h1,h2,h3,fun x o' s' n' h=>?_⟩
    obtain ⟨h4,h5⟩:=cH h
    exact h4 (hM.inj _ _ _ _ _ _ _ _ _ h5 hmk)
  have hW1:dJ ⟨E.F,mu1,E.h⟩ id (some (.own ks sz (cells.set j (some rows)) none)):=by
    refine ⟨hz,fun i hi=>?_,fun b o s n hm=>?_⟩
    · rw [List.length_set] at hi
      show mu1 (.S id i)=none
      rw [hm1 _ (fun e=>by cases e; omega),hS]
      exact hbey i hi
    · have hm:E.mu (.O id)=some (.blk b o s n):=by
        have h:mu1 (.O id)=some (.blk b o s n):=hm
        rw [hm1 _ (fun e=>by cases e),jI (fun e=>hne (by cases e; rfl))] at h
        exact h
      obtain ⟨h4,h6⟩:=hcells b o s n hm
      refine ⟨by rw [List.length_set]; exact h4,fun i c hi=>?_⟩
      rw [List.getElem?_set] at hi
      by_cases hij:j=i
      · subst hij
        rw [if_pos rfl,if_pos hj] at hi
        cases hi
        obtain ⟨u,hu,h7⟩:=h6 j cells[j] (List.getElem?_eq_getElem hj)
        have h7:(if j=j then E.mu (.S id j)=none∧VR E.ob ha u else cg E sz cells[j] (E.mu (.S id j)) u):=h7
        rw [if_pos rfl] at h7
        refine ⟨u,hu,?_⟩
        show cg _ sz (some rows) (mu1 (.S id j)) u
        rw [hm1j]
        obtain ⟨_,hv⟩:=h7
        have virt:∀ c,Ay sz=false∨c.isSome=true→E.mu (.O k)=some .virt→u=.slice c 0 0→cg ⟨E.F,mu1,E.h⟩ sz (some rows) (some mvk) u:=fun c hc hx e=>by
          rw [hmk] at hx
          cases hx
          exact ⟨hOk,c,e,fun h=>hc.elim (fun h2=>by rw [h2] at h; cases h) (fun h2=>h2)⟩
        have blk:∀ {b o s n cap:Nat},E.mu (.O k)=some (.blk b o s n)→n≤cap→o + cap * s≤bj E.h b→u=.slice (some ⟨b,o,none⟩) n cap→cg ⟨E.F,mu1,E.h⟩ sz (some rows) (some mvk) u:=fun hx hn hc e=>by
          rw [hmk] at hx
          cases hx
          exact ⟨hOk.1,hOk.2,_,hn,hc,e⟩
        rcases hha with ⟨rfl,hnz⟩ | rfl
        · cases hv with
          | mfn hx=>exact virt none (.inl hnz) hx rfl
          | mfe c hx=>exact virt (some c) (.inl hnz) hx rfl
          | mf cap hx hn hc=>exact blk hx hn hc rfl
        · cases hv with
          | mfxe c hx=>exact virt (some c) (.inr rfl) hx rfl
          | mfx cap hx hn hc=>exact blk hx hn hc rfl
      · rw [if_neg hij] at hi
        obtain ⟨u,hu,h7⟩:=h6 i c hi
        have h7:(if j=i then E.mu (.S id i)=none∧VR E.ob ha u else cg E sz c (E.mu (.S id i)) u):=h7
        rw [if_neg hij] at h7
        refine ⟨u,hu,?_⟩
        show cg _ sz c (mu1 (.S id i)) u
        rw [hm1 _ (fun e=>hij (by cases e; rfl)),hS]
        exact cg.mono h7 (LE.refl _) (fun _ _ _ _ _=>rfl)
  obtain ⟨hle,hS2⟩:=hS1.reS (id:=id) (mu':=mu1) (fun x hx=>hm1 x (hx j)) (fun i b o s n h=>by
      by_cases hij:Key.S id i=.S id j
      · rw [hij,hm1j] at h
        obtain ⟨h1,h2,h3,h4⟩:=hfree b o s n (Option.some.inj h)
        exact ⟨h1,h2,h3,fun x o' s' n' _=>h4 x o' s' n'⟩
      · rw [hm1 _ hij] at h
        obtain ⟨h1,h2,h3,h4⟩:=hS1.ownS (id:=id) (j:=i) h
        exact ⟨h1,h2,h3,fun x o' s' n' hx=>h4 x o' s' n' (hx i)⟩)
    (fun i i' b o s n o' s' n' h h'=>by
      by_cases hij:Key.S id i=.S id j
      · by_cases hij':Key.S id i'=.S id j
        · cases hij
          cases hij'
          rfl
        · rw [hij,hm1j] at h
          rw [hm1 _ hij'] at h'
          exact absurd h' ((hfree b o s n (Option.some.inj h)).2.2.2 _ _ _ _)
      · by_cases hij':Key.S id i'=.S id j
        · rw [hij',hm1j] at h'
          rw [hm1 _ hij] at h
          exact absurd h ((hfree b o' s' n' (Option.some.inj h')).2.2.2 _ _ _ _)
        · rw [hm1 _ hij] at h
          rw [hm1 _ hij'] at h'
          have:=hS1.inj (.S id i) (.S id i') _ _ _ _ _ _ _ h h'
          cases this
          rfl)
    hgid (fun e=>by cases e) (y:=.own ks sz (cells.set j (some rows)) none) (by
      show fy _ _ (aS E.mu (.O k) (.O id))
      rw [jI (fun e=>hne (by cases e; rfl))]
      revert hOb
      cases E.mu (.O id) with
      | none=>exact fun h=>h.elim
      | some mv =>
        cases mv with
        | virt =>
          intro h
          have h:ks=none∧cells=[]:=h
          rw [h.2] at hj
          cases hj
        | blk b o s n =>
          intro h
          have h:ks=none→s=1∧n=cells.length:=h
          exact fun e=>⟨(h e).1,by rw [List.length_set]; exact (h e).2⟩) hW1
  exact ⟨_,hS2,ht1.mono hle,(hm1 _ (fun e=>by cases e)).trans (jI (fun e=>hne (by cases e; rfl)))⟩
theorem uv {k:Nat} {K:St→Prop}:eN [k] S K↔K (br k S):=oL (ids:=[k])
theorem v9 (hM:ah G p E S w) (ht:TR E S.t a) {id:Nat} {K:St→Prop} (h:iM S id K) :
    ∃ S' E',K S'∧ah G p E' S' w∧TR E' S'.t a:=by
  unfold iM at h
  split at h
  · rename_i ks sz cells j hob
    obtain ⟨hj,h⟩:=ac h
    rw [ax] at h
    rw [Nat.blt_eq] at hj
    have hw:=hM.ow id
    rw [hob] at hw
    obtain ⟨hz,hbey,hcells⟩:=hw
    have hOb:=hM.obj id
    rw [hob] at hOb
    obtain ⟨hle,hS⟩:=hM.reS (id:=id) (mu':=E.mu) (fun _ _=>rfl) (fun j b o s n h=>by
        obtain ⟨h1,h2,h3,h4⟩:=hM.ownS (id:=id) (j:=j) h
        exact ⟨h1,h2,h3,fun k o2 s2 n2 hk=>h4 k o2 s2 n2 (hk j)⟩)
      (fun j j' b o s n o2 s2 n2 h h'=>by
        have:=hM.inj (.S id j) (.S id j') _ _ _ _ _ _ _ h h'
        cases this
        rfl) hob (fun e=>by cases e) (y:=.own ks sz (cells.set j none) none) (by
        revert hOb
        cases E.mu (.O id) with
        | none=>exact fun h=>h.elim
        | some mv =>
          cases mv with
          | virt =>
            intro h
            have h:ks=none∧cells=[]:=h
            rw [h.2] at hj
            cases hj
          | blk b o s n =>
            intro h
            have h:ks=none→s=1∧n=cells.length:=h
            exact fun e=>⟨(h e).1,by rw [List.length_set]; exact (h e).2⟩) ⟨hz,fun i hi=>hbey i (by rw [List.length_set] at hi; exact hi),fun b o s n hm=>by
        obtain ⟨h4,h6⟩:=hcells b o s n hm
        refine ⟨by rw [List.length_set]; exact h4,fun i c hi=>?_⟩
        rw [List.getElem?_set] at hi
        by_cases hij:j=i
        · subst hij
          rw [if_pos rfl,if_pos hj] at hi
          cases hi
          obtain ⟨u,hu,h7⟩:=h6 j cells[j] (List.getElem?_eq_getElem hj)
          have h7:(if j=j then E.mu (.S id j)=none∧VR E.ob .nilsl u else cg E sz cells[j] (E.mu (.S id j)) u):=h7
          rw [if_pos rfl] at h7
          obtain ⟨h8,hv⟩:=h7
          refine ⟨u,hu,?_⟩
          show cg _ sz none (E.mu (.S id j)) u
          rw [h8]
          cases hv
          rfl
        · rw [if_neg hij] at hi
          obtain ⟨u,hu,h7⟩:=h6 i c hi
          have h7:(if j=i then E.mu (.S id i)=none∧VR E.ob .nilsl u else cg E sz c (E.mu (.S id i)) u):=h7
          rw [if_neg hij] at h7
          exact ⟨u,hu,h7⟩⟩
    exact ⟨_,_,h,hS,ht.mono hle⟩
  · rename_i ks sz cells j k hob
    split at h
    · rename_i sz' rows hk
      replace h:=ac h
      obtain ⟨hb,h⟩:=h
      simp only [Bool.and_eq_true,Nat.blt_eq] at hb
      obtain ⟨⟨hsz,hj⟩,hnz⟩:=hb
      have hsz:=Nat.eq_of_beq_eq_true hsz
      subst hsz
      rw [uv,ax] at h
      have hne:k≠id:=fun e=>by subst e; rw [hob] at hk; cases hk
      obtain ⟨E',hS,htr,hmu'⟩:=qj hM ht (.inl ⟨rfl,by simpa using hnz⟩) hob hk hj
      exact ⟨_,E',h,hS,htr⟩
    · exact h.elim
  · rename_i ks sz cells j k hob
    split at h
    · rename_i sz' rows hk
      replace h:=ac h
      obtain ⟨hb,h⟩:=h
      simp only [Bool.and_eq_true,Nat.blt_eq] at hb
      obtain ⟨hsz,hj⟩:=hb
      have hsz:=Nat.eq_of_beq_eq_true hsz
      subst hsz
      rw [uv,ax] at h
      have hne:k≠id:=fun e=>by subst e; rw [hob] at hk; cases hk
      obtain ⟨E',hS,htr,hmu'⟩:=qj hM ht (.inr rfl) hob hk hj
      exact ⟨_,E',h,hS,htr⟩
    · exact h.elim
  · exact h.elim
  · exact ⟨S,E,h,hM,ht⟩
theorem qk:∀ {ids:List Nat} {S:St} {E:Env} {K:St→Prop},ah G p E S w→TR E S.t a→m9 ids S K→∃ S' E',K S'∧ah G p E' S' w∧TR E' S'.t a
  | [],S,E,_,hM,ht,h=>⟨S,E,h,hM,ht⟩
  | id::ids,_,_,_,hM,ht,h=>by
    obtain ⟨S1,E1,h,hM1,ht1⟩:=v9 hM ht h
    exact qk hM1 ht1 h
def Dt (id:Nat) (mu:Key→Option MV):Key→Option MV
  | .L d=>mu (.L d)
  | .O i=>mu (.O i)
  | .S c j=>if c=id then none else mu (.S c j)
theorem A4 {id:Nat} {mu:Key→Option MV} (k:Key) (h:∀ j,k≠.S id j):Dt id mu k=mu k:=by
  cases k with
  | L d=>rfl
  | O i=>rfl
  | S c j =>
    show (if c=id then none else mu (.S c j))=_
    rw [if_neg (fun e=>h j (by rw [e]))]
theorem Du {id:Nat} {mu:Key→Option MV} (j:Nat):Dt id mu (.S id j)=none:=by
  show (if id=id then none else mu (.S id j))=_
  rw [if_pos rfl]
theorem pI:∀ {ks:List AV},(lR ks).length=ks.length
  | []=>rfl
  | _::ks=>congrArg (· + 1) (pI (ks:=ks))
theorem pJ:∀ {ks:List AV} {i:Nat} {e:AV×AV},(lR ks)[i]?=some e→ks[i]?=some e.1∧e.2=.bad
  | [],_,_,h=>by simp [lR] at h
  | k::ks,0,e,h=>by
    have h:some (k,AV.bad)=some e:=h
    cases h
    exact ⟨rfl,rfl⟩
  | k::ks,i + 1,e,h=>pJ (ks:=ks) (i:=i) h
theorem yJ:∀ {ks:List AV} {cells:List (Option (List (List AV)))},ks.length=cells.length→(oy ks cells).length=ks.length
  | [],[],_=>rfl
  | _::ks,_::cells,h=>congrArg (· + 1) (yJ (ks:=ks) (cells:=cells) (by simpa using h))
theorem yK:∀ {ks:List AV} {cells:List (Option (List (List AV)))} {i:Nat} {e:AV×AV},(oy ks cells)[i]?=some e→ks[i]?=some e.1∧∃ c,cells[i]?=some c∧e.2=mb c
  | [],_,_,_,h=>by simp [oy] at h
  | _::_,[],_,_,h=>by simp [oy] at h
  | k::ks,c::cells,0,e,h=>by
    have h:some (k,mb c)=some e:=h
    cases h
    exact ⟨rfl,c,rfl,rfl⟩
  | k::ks,c::cells,i + 1,e,h=>yK (ks:=ks) (cells:=cells) (i:=i) h
theorem v_ {α β:Type} (g:α→β):∀ l:List α,(l.map fun c=>[g c]).flatten=l.map g
  | []=>rfl
  | c::l=>by
    show [g c]++(l.map fun c=>[g c]).flatten=_
    rw [v_ g l]
    rfl
theorem xR (hM:ah G p E S w) (ht:TR E S.t a) {id sz:Nat} {cells:List (Option (List (List AV)))} (hob:S.o[id]?=some (.own none sz cells none)) :
    ∃ E',ah G p E' { t:=S.t,l:=S.l,o:=S.o.set id (.arr true 1 (cells.map fun c=>[mb c])),b:=S.b } w∧TR E' S.t a:=by
  have hlt:id<S.o.length:=(List.getElem?_eq_some_iff.1 hob).1
  have hw:=hM.ow id
  rw [hob] at hw
  obtain ⟨hz,hbey,hcells⟩:=hw
  have hOb:=hM.obj id
  rw [hob] at hOb
  obtain ⟨mu1,hmu1⟩:∃ mu1,mu1=Dt id E.mu:=⟨_,rfl⟩
  have hm1:∀ k,(∀ j,k≠.S id j)→mu1 k=E.mu k:=fun k hk=>by rw [hmu1]; exact A4 k hk
  have hm1S:∀ j,mu1 (.S id j)=none:=fun j=>by rw [hmu1]; exact Du j
  cases hmu:E.mu (.O id) with
  | none=>rw [hmu] at hOb; exact hOb.elim
  | some mv =>
    rw [hmu] at hOb
    cases mv with
    | virt =>
      obtain ⟨_,rfl⟩:=hOb
      obtain ⟨hle1,hS1⟩:=hM.reS (mu':=mu1) hm1 (fun j b o s n h=>by rw [hm1S] at h; cases h) (fun j j' b o s n o2 s2 n2 h h'=>by rw [hm1S] at h; cases h) hob (fun e=>by cases e)
        (y:=.arr true 1 (([]:List (Option (List (List AV)))).map fun c=>[mb c])) (by rw [hmu]; rfl) (fun i=>hm1S i)
      exact ⟨_,hS1,ht.mono hle1⟩
    | blk b o s n =>
      obtain ⟨rfl,rfl⟩:=hOb rfl
      obtain ⟨⟨us,ty,hb,hsz⟩,hall⟩:=hcells b o 1 cells.length hmu
      have hlen:∀ g:Option (List (List AV))→AV,∀ r∈cells.map fun c=>[g c],r.length=1:=fun g r hr=>by
        obtain ⟨c,_,rfl⟩:=List.mem_map.1 hr
        rfl
      obtain ⟨hle1,hS1⟩:=hM.reS (mu':=mu1) hm1 (fun j b o s n h=>by rw [hm1S] at h; cases h) (fun j j' b o s n o2 s2 n2 h h'=>by rw [hm1S] at h; cases h) hob (fun e=>by cases e)
        (y:=.arr true 1 (cells.map fun c=>[(fun _=>AV.bad) c])) (by
          rw [hmu]
          refine ⟨⟨rfl,by simp⟩,by omega,hlen _,us,ty,hb,by simpa using hsz,fun m c hc=>?_⟩
          rw [v_,List.getElem?_map] at hc
          obtain ⟨c0,h1,h2⟩:=Option.map_eq_some_iff.1 hc
          subst h2
          obtain ⟨u,hu,_⟩:=hall m c0 h1
          unfold gP at hu
          rw [hb] at hu
          exact ⟨u,hu,.bad _ _⟩) (fun i=>hm1S i)
      obtain ⟨hle2,hS2⟩:=hS1.freeze (F':=fun x=>E.F x∨∃ j o s n,E.mu (.S id j)=some (.blk x o s n)) (fun _ h=>.inl h) (fun x hx=>by
        rcases hx with hx | ⟨j,o',s',n',hx⟩
        · exact .inl hx
        · obtain ⟨h1,h2,h3⟩:=hM.own _ _ _ _ _ hx
          refine .inr ⟨h2,h3,fun k o2 s2 n2 hk2=>?_⟩
          have hk2:mu1 k=some (.blk x o2 s2 n2):=hk2
          have hne:∀ j,k≠.S id j:=fun j e=>by rw [e,hm1S] at hk2; cases hk2
          rw [hm1 k hne] at hk2
          exact hne j (hM.inj _ _ _ _ _ _ _ _ _ hk2 hx))
      have hget:(S.o.set id (.arr true 1 (cells.map fun c=>[(fun _=>AV.bad) c])))[id]?=some (.arr true 1 (cells.map fun c=>[(fun _=>AV.bad) c])):=List.getElem?_set_self hlt
      have hfz:LE E.fz (Env.fz ⟨fun x=>E.F x∨∃ j o s n,E.mu (.S id j)=some (.blk x o s n),mu1,E.h⟩):=⟨fun _ h=>.inl h,fun _ _ _ h=>(by cases h),fun _ _=>rfl,fun _ _ _ _ _ _ h=>(by cases h)⟩
      obtain ⟨hle3,hS3⟩:=hS2.reS (id:=id) (mu':=mu1) (fun _ _=>rfl) (fun j b o s n h=>by rw [hm1S] at h; cases h) (fun j j' b o s n o2 s2 n2 h h'=>by rw [hm1S] at h; cases h) hget (fun e=>by cases e)
        (y:=.arr true 1 (cells.map fun c=>[mb c])) (by
          show fy _ _ (mu1 (.O id))
          rw [hm1 _ (fun j e=>by cases e),hmu]
          refine ⟨⟨rfl,by simp⟩,by omega,hlen _,us,ty,hb,by simpa using hsz,fun m c hc=>?_⟩
          rw [v_,List.getElem?_map] at hc
          obtain ⟨c0,h1,h2⟩:=Option.map_eq_some_iff.1 hc
          subst h2
          obtain ⟨u,hu,hc⟩:=hall m c0 h1
          unfold gP at hu
          rw [hb] at hu
          refine ⟨u,hu,?_⟩
          have hc:cg E sz c0 (E.mu (.S id m)) u:=hc
          show VR (Env.fz ⟨fun x=>E.F x∨∃ j o s n,E.mu (.S id j)=some (.blk x o s n),mu1,E.h⟩) (mb c0) u
          revert hc
          cases c0 with
          | none =>
            cases E.mu (.S id m) with
            | none=>exact fun h=>by rw [show u=Value.slice none 0 0 from h]; exact .nilsl _
            | some mv=>cases mv <;> exact fun h=>h.elim
          | some rows =>
            cases hmi:E.mu (.S id m) with
            | none=>exact fun h=>h.elim
            | some mv =>
              cases mv with
              | virt =>
                rintro ⟨rfl,c,rfl,_⟩
                cases c with
                | none=>exact .sln _
                | some c=>exact .sle _ c 0
              | blk b1 o1 s1 n1 =>
                rintro ⟨⟨rfl,rfl⟩,⟨q1,q2,us,ty,q3,q4,q5⟩,cap,h6,h7,rfl⟩
                exact cz.sl (E':=Env.fz ⟨fun x=>E.F x∨∃ j o s n,E.mu (.S id j)=some (.blk x o s n),mu1,E.h⟩) ⟨q1,q2,us,ty,q3,q4,fun m c hc=>by
                  obtain ⟨u,hu,hv⟩:=q5 m c hc
                  exact ⟨u,hu,hv.mono hfz⟩⟩ (.inr ⟨m,_,_,_,hmi⟩) h6) (fun i=>hm1S i)
      refine ⟨_,?_,((ht.mono hle1).mono hle2).mono hle3⟩
      have hS3:ah G p _ { t:=S.t,l:=S.l,o:=(S.o.set id (.arr true 1 (cells.map fun c=>[(fun _=>AV.bad) c]))).set id (.arr true 1 (cells.map fun c=>[mb c])),b:=S.b } w:=hS3
      rw [List.set_set] at hS3
      exact hS3
theorem xS (hM:ah G p E S w) (ht:TR E S.t a) {id:Nat} {K:St→Prop} (h:kB S id K):∃ S' E',K S'∧ah G p E' S' w∧TR E' S'.t a:=by
  unfold kB at h
  split at h
  · rename_i ks sz cells hob
    rw [ax] at h
    have hlt:id<S.o.length:=(List.getElem?_eq_some_iff.1 hob).1
    have hw:=hM.ow id
    rw [hob] at hw
    obtain ⟨hz,hbey,hcells⟩:=hw
    have hOb:=hM.obj id
    rw [hob] at hOb
    obtain ⟨b,o,s,n,hmu⟩:∃ b o s n,E.mu (.O id)=some (.blk b o s n):=by
      revert hOb
      cases E.mu (.O id) with
      | none=>exact fun h=>h.elim
      | some mv =>
        cases mv with
        | virt=>exact fun h=>by cases h.1
        | blk b o s n=>exact fun _=>⟨b,o,s,n,rfl⟩
    obtain ⟨⟨ms,clock,hb,⟨hl1,hl2,hbn⟩,hk⟩,hall⟩:=hcells b o s n hmu
    obtain ⟨mu1,hmu1⟩:∃ mu1,mu1=Dt id E.mu:=⟨_,rfl⟩
    have hm1:∀ k,(∀ j,k≠.S id j)→mu1 k=E.mu k:=fun k hk=>by rw [hmu1]; exact A4 k hk
    have hm1S:∀ j,mu1 (.S id j)=none:=fun j=>by rw [hmu1]; exact Du j
    obtain ⟨hle1,hS1⟩:=hM.reS (mu':=mu1) hm1 (fun j b o s n h=>by rw [hm1S] at h; cases h) (fun j j' b o s n o2 s2 n2 h h'=>by rw [hm1S] at h; cases h) hob (fun e=>by cases e)
      (y:=.mapo true (lR ks)) (by
        rw [hmu]
        exact ⟨ms,clock,hb,⟨by rw [pI]; omega,hbn⟩,fun i e m h1 h2=>by
          obtain ⟨h3,h4⟩:=pJ h1
          exact ⟨hk i e.1 m h3 h2,by rw [h4]; exact .bad _ _⟩⟩) (fun i=>hm1S i)
    obtain ⟨hle2,hS2⟩:=hS1.freeze (F':=fun x=>E.F x∨∃ j o s n,E.mu (.S id j)=some (.blk x o s n)) (fun _ h=>.inl h) (fun x hx=>by
      rcases hx with hx | ⟨j,o',s',n',hx⟩
      · exact .inl hx
      · obtain ⟨h1,h2,h3⟩:=hM.own _ _ _ _ _ hx
        refine .inr ⟨h2,h3,fun k o2 s2 n2 hk2=>?_⟩
        have hk2:mu1 k=some (.blk x o2 s2 n2):=hk2
        have hne:∀ j,k≠.S id j:=fun j e=>by rw [e,hm1S] at hk2; cases hk2
        rw [hm1 k hne] at hk2
        exact hne j (hM.inj _ _ _ _ _ _ _ _ _ hk2 hx))
    have hget:(S.o.set id (.mapo true (lR ks)))[id]?=some (.mapo true (lR ks)):=List.getElem?_set_self hlt
    have hfz:LE E.fz (Env.fz ⟨fun x=>E.F x∨∃ j o s n,E.mu (.S id j)=some (.blk x o s n),mu1,E.h⟩):=⟨fun _ h=>.inl h,fun _ _ _ h=>(by cases h),fun _ _=>rfl,fun _ _ _ _ _ _ h=>(by cases h)⟩
    obtain ⟨hle3,hS3⟩:=hS2.reS (id:=id) (mu':=mu1) (fun _ _=>rfl) (fun j b o s n h=>by rw [hm1S] at h; cases h) (fun j j' b o s n o2 s2 n2 h h'=>by rw [hm1S] at h; cases h) hget (fun e=>by cases e)
      (y:=.mapo true (oy ks cells)) (by
        show fy _ _ (mu1 (.O id))
        rw [hm1 _ (fun j e=>by cases e),hmu]
        refine ⟨ms,clock,hb,⟨by rw [yJ (by omega)]; omega,hbn⟩,fun i e m h1 h2=>?_⟩
        obtain ⟨h3,c,h4,h5⟩:=yK h1
        refine ⟨hk i e.1 m h3 h2,?_⟩
        obtain ⟨u,hu,hc⟩:=hall i c h4
        have hu:u=m.val:=by
          unfold gP at hu
          rw [hb] at hu
          simp only [h2,Option.map_some,Option.some.injEq] at hu
          exact hu.symm
        subst hu
        have hc:cg E sz c (E.mu (.S id i)) m.val:=hc
        rw [h5]
        generalize m.val=u at hc
        show VR (Env.fz ⟨fun x=>E.F x∨∃ j o s n,E.mu (.S id j)=some (.blk x o s n),mu1,E.h⟩) (mb c) u
        revert hc
        cases c with
        | none =>
          cases E.mu (.S id i) with
          | none=>exact fun h=>by rw [show u=Value.slice none 0 0 from h]; exact .nilsl _
          | some mv=>cases mv <;> exact fun h=>h.elim
        | some rows =>
          cases hmi:E.mu (.S id i) with
          | none=>exact fun h=>h.elim
          | some mv =>
            cases mv with
            | virt =>
              rintro ⟨rfl,c,rfl,_⟩
              cases c with
              | none=>exact .sln _
              | some c=>exact .sle _ c 0
            | blk b1 o1 s1 n1 =>
              rintro ⟨⟨rfl,rfl⟩,⟨q1,q2,us,ty,q3,q4,q5⟩,cap,h6,h7,rfl⟩
              exact cz.sl (E':=Env.fz ⟨fun x=>E.F x∨∃ j o s n,E.mu (.S id j)=some (.blk x o s n),mu1,E.h⟩) ⟨q1,q2,us,ty,q3,q4,fun m c hc=>by
                obtain ⟨u,hu,hv⟩:=q5 m c hc
                exact ⟨u,hu,hv.mono hfz⟩⟩ (.inr ⟨i,_,_,_,hmi⟩) h6) (fun i=>hm1S i)
    refine ⟨_,_,h,?_,((ht.mono hle1).mono hle2).mono hle3⟩
    have e:(S.o.set id (Ob.mapo true (lR ks))).set id (Ob.mapo true (oy ks cells))=S.o.set id (Ob.mapo true (oy ks cells)):=List.set_set ..
    have hS3:ah G p _ { t:=S.t,l:=S.l,o:=(S.o.set id (Ob.mapo true (lR ks))).set id (Ob.mapo true (oy ks cells)),b:=S.b } w:=hS3
    rw [e] at hS3
    exact hS3
  · rename_i hob
    rw [ax] at h
    obtain ⟨E',h1,h2⟩:=xR hM ht hob
    exact ⟨_,E',h,h1,h2⟩
  · exact ⟨S,E,h,hM,ht⟩
theorem oN:∀ {ids:List Nat} {S:St} {E:Env} {K:St→Prop},ah G p E S w→TR E S.t a→kZ ids S K→∃ S' E',K S'∧ah G p E' S' w∧TR E' S'.t a
  | [],S,E,_,hM,ht,h=>⟨S,E,h,hM,ht⟩
  | id::ids,_,_,_,hM,ht,h=>by
    obtain ⟨S1,E1,h,hM1,ht1⟩:=xS hM ht h
    exact oN hM1 ht1 h
theorem lU (hM:ah G p E S w) (ht:TR E S.t a) {pl:bK} {id:Nat} {K:St→Prop} (h:kp pl id S K):∃ S' E',K S'∧ah G p E' S' w∧TR E' S'.t a:=by
  unfold kp at h
  split at h
  · exact ⟨S,E,h,hM,ht⟩
  · obtain ⟨S1,E1,h,hM1,ht1⟩:=qk hM ht h
    split at h
    · exact ⟨S1,E1,h,hM1,ht1⟩
    · exact oN hM1 ht1 h
theorem IT (hM:ah G p E S w) {id sz b o s n:Nat} {cells:List (Option (List (List AV)))} {hole:Option (Nat×AV)} (hob:S.o[id]?=some (.own none sz cells hole)) (hmu:E.mu (.O id)=some (.blk b o s n)):s=1∧n=cells.length:=by
  have h:=hM.obj id
  rw [hob,hmu] at h
  exact h rfl
theorem EM {hole:Option (Nat×AV)} {i:Nat} (h:kh hole i=true):hole=none∨∃ a0,hole=some (i,a0):=by
  cases hole with
  | none=>exact .inl rfl
  | some z =>
    obtain ⟨j,a0⟩:=z
    have:=Nat.eq_of_beq_eq_true (show Nat.beq i j=true from h)
    subst this
    exact .inr ⟨a0,rfl⟩
theorem oO (hM:ah G p E M w) {pk:Bool} {id i:Nat} {k:AV→St→Prop} {b o s n:Nat} (hmu:E.mu (.O id)=some (.blk b o s n)) (h:fh M pk id i k) :
    ∃ M' E' v u,k v M'∧ah G p E' M' w∧LE E E'∧VR E' v u∧gP w.heap b o i=some u:=by
  unfold fh at h
  split at h
  · rename_i ks sz cells hob
    split at h
    · rename_i hc
      have hw:=hM.ow id
      rw [hob] at hw
      obtain ⟨_,_,hcells⟩:=hw
      obtain ⟨_,hall⟩:=hcells b o s n hmu
      obtain ⟨u,hu,hcell⟩:=hall i _ hc
      have hcell:cg E sz none (E.mu (.S id i)) u:=hcell
      have hnil:u=.slice none 0 0:=by
        revert hcell
        cases E.mu (.S id i) with
        | none=>exact fun h=>h
        | some mv=>cases mv <;> exact fun h=>h.elim
      subst hnil
      exact ⟨M,E,_,_,h,hM,.refl _,.nilsl _,by rw [← hM.hp]; exact hu⟩
    · rename_i rows hc
      split at h
      · rename_i hpk
        rw [Bool.and_eq_true] at hpk
        have hw:=hM.ow id
        rw [hob] at hw
        obtain ⟨_,_,hcells⟩:=hw
        obtain ⟨_,hall⟩:=hcells b o s n hmu
        obtain ⟨u,hu,hcell⟩:=hall i _ hc
        have hcell:cg E sz (some rows) (E.mu (.S id i)) u:=hcell
        have hnn:∃ A n c,u=.slice (some A) n c:=by
          revert hcell
          cases E.mu (.S id i) with
          | none=>exact fun h=>h.elim
          | some mv =>
            cases mv with
            | virt =>
              rintro ⟨_,c,rfl,hh⟩
              cases c with
              | none=>exact absurd (hh hpk.2) (by simp)
              | some c=>exact ⟨_,_,_,rfl⟩
            | blk b1 o1 s1 n1 =>
              rintro ⟨_,_,cap,_,_,rfl⟩
              exact ⟨_,_,_,rfl⟩
        obtain ⟨A,n',c,rfl⟩:=hnn
        exact ⟨M,E,_,_,h,hM,.refl _,.nn _ _ _ _,by rw [← hM.hp]; exact hu⟩
      · rw [b9,ax] at h
        obtain ⟨E',u,hS,hle,hv,hcl⟩:=xQ hM hob hc hmu
        exact ⟨_,E',_,u,h,hS,hle,hv,hcl⟩
    · exact h.elim
  · exact h.elim
theorem rP (hM:ah G p E M w) {x:AV} {u:Value} {k:Nat→Nat→Prop} (hv:VR E x u) (h:jj M x k) :
    ∃ id i b o n sz cells hole,k id i∧M.o[id]?=some (.own none sz cells hole)∧E.mu (.O id)=some (.blk b o 1 n)∧u=.pointer (some ⟨b,o + i,none⟩):=by
  unfold jj at h
  split at h
  · rename_i id i
    split at h
    · rename_i sz cells hole hob
      cases hv with
      | ptr _ _ hs hmu =>
        rename_i b o s n
        obtain ⟨rfl,_⟩:=IT hM hob hmu
        exact ⟨id,i,b,o,n,sz,cells,hole,h,hob,hmu,by simp⟩
    · exact h.elim
  · exact h.elim
theorem Ht {E:Env} {a:AV} {u:Value} (h:VR E a u):VR E (KO a) u:=by
  cases a <;> first | exact h | skip
  cases h with
  | mfxe c hx=>exact .mfe c hx
  | mfx cap hx hn hc=>exact .mf cap hx hn hc
theorem wa (hM:ah G p E M w) {t:TypeId} {same pk:Bool} {id i:Nat} {k:AV→St→Prop} {b o s n sz:Nat} {cells:List (Option (List (List AV)))} {hole:Option (Nat×AV)} (hob:M.o[id]?=some (.own none sz cells hole)) (hmu:E.mu (.O id)=some (.blk b o s n)) (h:iN P t same pk M id i k) :
    ∃ M' E' r z,k r M'∧ah G p E' M' w∧LE E E'∧VR E' r z∧(Instr.loadAt t (.pointer (some ⟨b,o + i,none⟩))).run P w=.ok z w:=by
  have hbase:yx w.heap none b o cells.length:=by
    have hw:=hM.ow id
    rw [hob] at hw
    rw [← hM.hp]
    exact (hw.2.2 b o s n hmu).1
  have ld:∀ {E':Env} {v:AV} {u:Value} {k:AV→Prop},VR E' v u→gP w.heap b o i=some u→iL P t [v] 0 k→∃ r z,k r∧VR E' r z∧(Instr.loadAt t (.pointer (some ⟨b,o + i,none⟩))).run P w=.ok z w:=by
    intro E' v u k hv hc hk
    obtain ⟨r,z,h1,h2,h3⟩:=qH (P:=P) hk (cb.cons hv (cb.nil E')) w (b:=b) (o:=o + i) (fun m u' hu'=>by
      cases m with
      | zero =>
        simp at hu'
        subst hu'
        show dI w.heap b (o + i)=some u
        exact AI hbase hc
      | succ m=>simp at hu')
    exact ⟨r,z,h1,h2,h3⟩
  unfold iN at h
  split at h
  · split at h
    · rename_i sz' cells' j v hob'
      rw [hob] at hob'
      cases hob'
      replace h:=ac h
      obtain ⟨hb,h⟩:=h
      simp only [Bool.and_eq_true,Nat.blt_eq] at hb
      obtain ⟨hij,hj⟩:=hb
      have hij:=Nat.eq_of_beq_eq_true hij
      subst hij
      have hw:=hM.ow id
      rw [hob] at hw
      obtain ⟨_,_,hcells⟩:=hw
      obtain ⟨_,hall⟩:=hcells b o s n hmu
      obtain ⟨u,hu,hcell⟩:=hall i _ (List.getElem?_eq_getElem hj)
      have h7:(if i=i then E.mu (.S id i)=none∧VR E.ob v u else cg E sz cells[i] (E.mu (.S id i)) u):=hcell
      rw [if_pos rfl] at h7
      obtain ⟨r,z,h3,h4,h5⟩:=ld (Ht h7.2.of_ob) (by rw [← hM.hp]; exact hu) h
      exact ⟨M,E,r,z,h3,hM,.refl _,h4,h5⟩
    · exact h.elim
  · obtain ⟨M',E',v,u,h,hM',hle,hv,hc⟩:=oO hM hmu h
    obtain ⟨r,z,h3,h4,h5⟩:=ld hv hc h
    exact ⟨M',E',r,z,h3,hM',hle,h4,h5⟩
theorem wb (hM:ah G p E S w) {id i sz:Nat} {ks:Option (List AV)} {cells:List (Option (List (List AV)))} {hole:Option (Nat×AV)} (hob:S.o[id]?=some (.own ks sz cells hole)) (hh:kh hole i=true) :
    ∃ E',LE E E'∧E'.h=E.h∧E'.mu (.O id)=E.mu (.O id)∧ah G p E' { t:=S.t,l:=S.l,o:=S.o.set id (.own ks sz cells (some (i,.bad))),b:=S.b } w:=by
  have hw:=hM.ow id
  rw [hob] at hw
  obtain ⟨hz,hbey,hcells⟩:=hw
  have hOb:=hM.obj id
  rw [hob] at hOb
  obtain ⟨mu1,hmu1⟩:∃ mu1:Key→Option MV,mu1=fun k=>if k=.S id i then none else E.mu k:=⟨_,rfl⟩
  have hm1i:mu1 (.S id i)=none:=by rw [hmu1]; simp
  have hm1:∀ k,k≠.S id i→mu1 k=E.mu k:=fun k hk=>by rw [hmu1]; show (if k=.S id i then none else E.mu k)=_; rw [if_neg hk]
  have hW1:dJ ⟨E.F,mu1,E.h⟩ id (some (.own ks sz cells (some (i,.bad)))):=by
    refine ⟨hz,fun j hj=>?_,fun b' o' s' n' hm=>?_⟩
    · show mu1 (.S id j)=none
      by_cases h:Key.S id j=.S id i
      · rw [h]; exact hm1i
      · rw [hm1 _ h]; exact hbey j hj
    · have hm:E.mu (.O id)=some (.blk b' o' s' n'):=(hm1 _ (fun e=>by cases e)).symm.trans hm
      obtain ⟨h4,h6⟩:=hcells b' o' s' n' hm
      refine ⟨h4,fun j c hj=>?_⟩
      obtain ⟨u',hu',h7⟩:=h6 j c hj
      refine ⟨u',hu',?_⟩
      show if i=j then mu1 (.S id j)=none∧VR _ .bad u' else cg _ sz c (mu1 (.S id j)) u'
      by_cases hij:i=j
      · subst hij
        rw [if_pos rfl]
        exact ⟨hm1i,.bad _ _⟩
      · rw [if_neg hij,hm1 _ (fun e=>hij (by cases e; rfl))]
        have h8:cg E sz c (E.mu (.S id j)) u':=by
          rcases EM hh with rfl | ⟨a0,rfl⟩
          · exact h7
          · have h7:(if i=j then E.mu (.S id j)=none∧VR E.ob a0 u' else cg E sz c (E.mu (.S id j)) u'):=h7
            rw [if_neg hij] at h7
            exact h7
        exact cg.mono h8 (LE.refl _) (fun _ _ _ _ _=>rfl)
  obtain ⟨hle1,hS1⟩:=hM.reS (mu':=mu1) (fun k hk=>hm1 k (hk i)) (fun j b' o' s' n' h=>by
      by_cases hj:Key.S id j=.S id i
      · rw [hj,hm1i] at h; cases h
      · rw [hm1 _ hj] at h
        obtain ⟨h1,h2,h3,h4⟩:=hM.ownS h
        exact ⟨h1,h2,h3,fun k o2 s2 n2 hk=>h4 k o2 s2 n2 (hk j)⟩)
    (fun j j' b' o' s' n' o2 s2 n2 h h'=>by
      by_cases hj:Key.S id j=.S id i
      · rw [hj,hm1i] at h; cases h
      · by_cases hj':Key.S id j'=.S id i
        · rw [hj',hm1i] at h'; cases h'
        · rw [hm1 _ hj] at h
          rw [hm1 _ hj'] at h'
          have:=hM.inj _ _ _ _ _ _ _ _ _ h h'
          cases this
          rfl) hob (fun e=>by cases e) (y:=.own ks sz cells (some (i,.bad))) (by
      revert hOb
      cases E.mu (.O id) with
      | none=>exact fun h=>h.elim
      | some mv=>cases mv <;> exact fun h=>h) hW1
  exact ⟨_,hle1,rfl,hm1 _ (fun e=>by cases e),hS1⟩
theorem zT (hM:ah G p E S w) {id i sz:Nat} {cells:List (Option (List (List AV)))} {hole:Option (Nat×AV)} (hob:S.o[id]?=some (.own none sz cells hole)) (hh:kh hole i=true) (hi:i<cells.length)
    {b o s n:Nat} (hmu:E.mu (.O id)=some (.blk b o s n)) {v:AV} {u:Value} (hv:VR E v u) (hn:uM 4 v=true) :
    ∃ us ty E',w.heap[b]?=some (.cells us ty (0,0))∧o + i<us.size∧ah G p E' { t:=S.t,l:=S.l,o:=S.o.set id (.own none sz cells (some (i,v))),b:=S.b } (aX w b (.cells (co us (o + i) [u] 0) ty (0,0)))∧LE E E':=by
  obtain ⟨E1,hle1,hh1,hmu1,hS1⟩:=wb hM hob hh
  have hlt:id<S.o.length:=(List.getElem?_eq_some_iff.1 hob).1
  have hmu1:E1.mu (.O id)=some (.blk b o s n):=hmu1.trans hmu
  have hget1:(S.o.set id (.own none sz cells (some (i,.bad))))[id]?=some (.own none sz cells (some (i,.bad))):=List.getElem?_set_self hlt
  have hw:=hS1.ow id
  rw [hget1] at hw
  obtain ⟨hz,hbey,hcells⟩:=hw
  obtain ⟨⟨us,ty,hb,hul⟩,hall⟩:=hcells b o s n hmu1
  have hbw:w.heap[b]?=some (.cells us ty (0,0)):=by rw [← hS1.hp]; exact hb
  have hblt:b<w.heap.size:=(Array.getElem?_eq_some_iff.1 hbw).1
  have hsz:bj (aX w b (.cells (co us (o + i) [u] 0) ty (0,0))).heap b=bj w.heap b:=by
    unfold bj
    rw [cJ hblt,hbw]
    simp [cI]
  have hle2:=hS1.setblk_le hmu1 hsz
  have hOb:=hS1.obj id
  rw [hget1,hmu1] at hOb
  obtain ⟨_,hS2⟩:=hS1.setblk hmu1 hsz (M':={ t:=S.t,l:=S.l,o:=S.o.set id (.own none sz cells (some (i,v))),b:=S.b })
    (fun _ _=>rfl) (fun j hj=>by
      show (S.o.set id _)[j]?=(S.o.set id _)[j]?
      rw [List.getElem?_set,List.getElem?_set,if_neg (fun e=>hj (by rw [e])),if_neg (fun e=>hj (by rw [e]))]) rfl (by simp) (fun d e=>by cases e)
    (fun j e=>by
      cases e
      show fy _ (S.o.set id _)[id]? _
      rw [List.getElem?_set_self hlt,hmu1]
      exact hOb)
    (fun j e=>by
      rcases e with e | ⟨i',e⟩ <;> cases e
      show dJ _ id (S.o.set id _)[id]?
      rw [List.getElem?_set_self hlt]
      refine ⟨hz,hbey,fun b' o' s' n' hm=>?_⟩
      have hm:E1.mu (.O id)=some (.blk b' o' s' n'):=hm
      rw [hmu1] at hm
      cases hm
      have hnew:=cJ (ob:=.cells (co us (o + i) [u] 0) ty (0,0)) hblt
      refine ⟨⟨_,ty,hnew,by rw [cI]; exact hul⟩,fun j c hj=>?_⟩
      obtain ⟨u',hu',h7⟩:=hall j c hj
      have hu':us[o + j]?=some u':=by unfold gP at hu'; rw [hb] at hu'; exact hu'
      have hval:∀ z,(co us (o + i) [u] 0)[o + j]?=some z→gP (aX w b (.cells (co us (o + i) [u] 0) ty (0,0))).heap b o j=some z:=fun z hz=>by
        unfold gP
        rw [hnew]
        exact hz
      have hjl:j<cells.length:=(List.getElem?_eq_some_iff.1 hj).1
      have h7:(if i=j then E1.mu (.S id j)=none∧VR E1.ob .bad u' else cg E1 sz c (E1.mu (.S id j)) u'):=h7
      by_cases hij:i=j
      · subst hij
        rw [if_pos rfl] at h7
        refine ⟨u,hval _ ?_,?_⟩
        · rw [jn,if_pos ⟨by omega,by simp,by omega⟩]
          simp
        · show (if i=i then E1.mu (.S id i)=none∧VR _ v u else cg _ sz c (E1.mu (.S id i)) u)
          rw [if_pos rfl]
          exact ⟨h7.1,lc 4 hn ((hv.mono hle1).mono hle2)⟩
      · rw [if_neg hij] at h7
        refine ⟨u',hval _ ?_,?_⟩
        · rw [jn,if_neg (fun h=>by have h1:=h.1; have h2:=h.2.1; simp at h2; omega)]
          exact hu'
        · show (if i=j then E1.mu (.S id j)=none∧VR _ v u' else cg _ sz c (E1.mu (.S id j)) u')
          rw [if_neg hij]
          refine cg.mono h7 hle2.fz (fun b' o' s' n' hmj=>?_)
          show (aX w b _).heap[b']?=E1.h[b']?
          rw [hS1.hp]
          have hne:b≠b':=fun e=>by
            subst e
            have:=hS1.inj _ _ _ _ _ _ _ _ _ hmj hmu1
            cases this
          simp only [aX,Array.getElem?_setIfInBounds]
          rw [if_neg hne])
  exact ⟨us,ty,_,hbw,by omega,hS2,hle1.trans hle2⟩
theorem FU {sz:Nat} {v:AV} (h:Hn sz v=true):uM 4 v=true:=by
  cases v <;> first | rfl | cases h
theorem Cv {sz:Nat} {v:AV} {u:Value} (h:Hn sz v=true) (hv:VR E v u):∃ A q c,u=.slice A q c:=by
  cases v <;> first | (cases h; done) | skip
  · cases hv; exact ⟨_,_,_,rfl⟩
  · cases hv <;> exact ⟨_,_,_,rfl⟩
  · cases hv <;> exact ⟨_,_,_,rfl⟩
theorem wc {v:AV} (h:Cf v=true):uM 4 v=true:=by
  cases v <;> first | rfl | cases h
theorem uS (hM:ah G p E M w) {t:TypeId} {id i:Nat} {v:AV} {u:Value} {K:St→Prop} {b o s n:Nat} (hmu:E.mu (.O id)=some (.blk b o s n)) (hv:VR E v u) (h:gm P t M id i v K) :
    ∃ M' E' w',K M'∧ah G p E' M' w'∧LE E E'∧(Instr.storeAt t (.pointer (some ⟨b,o + i,none⟩)) u).run P w=.ok () w':=by
  unfold gm at h
  split at h
  · rename_i inf sz cells hole hi hob
    obtain ⟨hb,h⟩:=ac h
    simp only [Bool.and_eq_true,Nat.blt_eq] at hb
    obtain ⟨⟨⟨hsl,hil⟩,hsz⟩,hh⟩:=hb
    have hsz:=Nat.eq_of_beq_eq_true hsz
    rw [ax] at h
    obtain ⟨us,ty,E',hbw,hlt,hS,hle⟩:=zT hM hob hh hil hmu hv (FU hsl)
    obtain ⟨A,q,c,rfl⟩:=Cv hsl hv
    refine ⟨_,E',_,h,hS,hle,?_⟩
    exact oJ (P:=P) (t:=t) (b:=b) (off:=o + i) hi hbw (by rw [hsz]; rfl) (fun v hv=>by
      have:v=.slice A q c:=by simpa [Value.cells] using hv
      subst this
      rfl) (by show o + i + 1≤us.size; omega)
  · exact h.elim
theorem rQ (hM:ah G p E M w) {id i sz:Nat} {ks ks':List AV} {cells cells':List (Option (List (List AV)))} {hole:Option (Nat×AV)} (hob:M.o[id]?=some (.own (some ks) sz cells hole)) (hh:kh hole i=true)
    {b o s n clock clock':Nat} {ms ms':Array MapEntry} (hmu:E.mu (.O id)=some (.blk b o s n)) (hb:w.heap[b]?=some (.map ms clock)) {v:AV} {u:Value} (hv:VR E v u) (hn:uM 4 v=true)
    (hl:cells'.length=ms'.size∧cells'.length=ks'.length∧uP ms' clock') (hk:∀ (i:Nat) (k:AV) (m:MapEntry),ks'[i]?=some k→ms'[i]?=some m→B8 k=some m.key)
    (hlen:cells.length≤cells'.length) (_:∀ j,cells.length≤j→j<cells'.length→j=i) (hsame:∀ j,j≠i→cells'[j]?=cells[j]?) (hval:∀ j,j≠i→j<cells'.length→(ms'[j]?).map (·.val)=(ms[j]?).map (·.val)) (hat:∃ m,ms'[i]?=some m∧m.val=u) :
    ∃ E',ah G p E' { t:=M.t,l:=M.l,o:=M.o.set id (.own (some ks') sz cells' (some (i,v))),b:=M.b } (aX w b (.map ms' clock'))∧LE E E':=by
  obtain ⟨E1,hle1,hh1,hmu1,hS1⟩:=wb hM hob hh
  have hlt:id<M.o.length:=(List.getElem?_eq_some_iff.1 hob).1
  have hmu1:E1.mu (.O id)=some (.blk b o s n):=hmu1.trans hmu
  have hget1:(M.o.set id (.own (some ks) sz cells (some (i,.bad))))[id]?=some (.own (some ks) sz cells (some (i,.bad))):=List.getElem?_set_self hlt
  have hw:=hS1.ow id
  rw [hget1] at hw
  obtain ⟨hz,hbey,hcells⟩:=hw
  obtain ⟨_,hall⟩:=hcells b o s n hmu1
  have hb1:E1.h[b]?=some (.map ms clock):=by rw [hS1.hp]; exact hb
  have hblt:b<w.heap.size:=(Array.getElem?_eq_some_iff.1 hb).1
  have hnb:=cJ (ob:=.map ms' clock') hblt
  have hss:bj (aX w b (.map ms' clock')).heap b=bj w.heap b:=by
    unfold bj
    rw [hnb,hb]
  have hle2:=hS1.setblk_le hmu1 hss
  have hSi:E1.mu (.S id i)=none:=by
    by_cases hi:i<cells.length
    · obtain ⟨u',_,h7⟩:=hall i _ (List.getElem?_eq_getElem hi)
      have h7:(if i=i then E1.mu (.S id i)=none∧VR E1.ob .bad u' else cg E1 sz cells[i] (E1.mu (.S id i)) u'):=h7
      rw [if_pos rfl] at h7
      exact h7.1
    · exact hbey i (by omega)
  have hOb:=hS1.obj id
  rw [hget1,hmu1] at hOb
  obtain ⟨_,hS2⟩:=hS1.setblk hmu1 hss (M':={ t:=M.t,l:=M.l,o:=M.o.set id (.own (some ks') sz cells' (some (i,v))),b:=M.b })
    (fun _ _=>rfl) (fun j hj=>by
      show (M.o.set id _)[j]?=(M.o.set id _)[j]?
      rw [List.getElem?_set,List.getElem?_set,if_neg (fun e=>hj (by rw [e])),if_neg (fun e=>hj (by rw [e]))]) rfl (by simp) (fun d e=>by cases e)
    (fun j e=>by
      cases e
      show fy _ (M.o.set id _)[id]? _
      rw [List.getElem?_set_self hlt,hmu1]
      exact fun e=>by cases e)
    (fun j e=>by
      rcases e with e | ⟨i',e⟩ <;> cases e
      show dJ _ id (M.o.set id _)[id]?
      rw [List.getElem?_set_self hlt]
      refine ⟨hz,fun j hj=>hbey j (by omega),fun b' o' s' n' hm=>?_⟩
      have hm:E1.mu (.O id)=some (.blk b' o' s' n'):=hm
      rw [hmu1] at hm
      cases hm
      refine ⟨⟨ms',clock',hnb,hl,hk⟩,fun j c hj=>?_⟩
      have hjl:j<cells'.length:=(List.getElem?_eq_some_iff.1 hj).1
      have hva:∀ z,(ms'[j]?).map (·.val)=some z→gP (aX w b (.map ms' clock')).heap b o j=some z:=fun z hz=>by
        unfold gP
        rw [hnb]
        exact hz
      by_cases hij:i=j
      · subst hij
        obtain ⟨m,hm1,hm2⟩:=hat
        refine ⟨u,hva _ (by rw [hm1,← hm2]; rfl),?_⟩
        show (if i=i then E1.mu (.S id i)=none∧VR _ v u else cg _ sz c (E1.mu (.S id i)) u)
        rw [if_pos rfl]
        exact ⟨hSi,lc 4 hn ((hv.mono hle1).mono hle2)⟩
      · rw [hsame j (fun e=>hij e.symm)] at hj
        obtain ⟨u',hu',h7⟩:=hall j c hj
        have h7:(if i=j then E1.mu (.S id j)=none∧VR E1.ob .bad u' else cg E1 sz c (E1.mu (.S id j)) u'):=h7
        rw [if_neg hij] at h7
        refine ⟨u',hva _ ?_,?_⟩
        · rw [hval j (fun e=>hij e.symm) hjl]
          unfold gP at hu'
          rw [hb1] at hu'
          exact hu'
        · show (if i=j then E1.mu (.S id j)=none∧VR _ v u' else cg _ sz c (E1.mu (.S id j)) u')
          rw [if_neg hij]
          refine cg.mono h7 hle2.fz (fun b' o' s' n' hmj=>?_)
          show (aX w b _).heap[b']?=E1.h[b']?
          rw [hS1.hp]
          have hne:b≠b':=fun e=>by
            subst e
            have:=hS1.inj _ _ _ _ _ _ _ _ _ hmj hmu1
            cases this
          simp only [aX,Array.getElem?_setIfInBounds]
          rw [if_neg hne])
  exact ⟨_,hS2,hle1.trans hle2⟩
theorem Cw {e:TypeId} {ok:Bool} {k:AV→Prop} (hh:kg P e ok k):∃ r zz z,k r∧VR E r zz∧(zeroValue e).run P w=.ok z w∧zz=(if ok then .tuple #[z,.bool false] else z):=by
  unfold kg at hh
  split at hh
  · rename_i i hi
    split at hh
    · rename_i z hz
      rw [b9] at hh
      unfold ox at hh
      cases ok with
      | true=>exact ⟨_,_,z,hh,.tup #[z,.bool false] rfl (fun m c u h1 h2=>by
          match m,h1,h2 with
          | 0,h1,h2=>simp at h1 h2; subst h1 h2; exact zF E z
          | 1,h1,h2=>simp at h1 h2; subst h1 h2; exact .v _ _ rfl),cQ hi hz w,rfl⟩
      | false=>exact ⟨_,_,z,hh,zF E z,cQ hi hz w,rfl⟩
    · exact False.elim hh
  · exact False.elim hh
theorem wd (hM:ah G p E M w) {t:TypeId} {m key:AV} {um uk:Value} {ok:Bool} {k:AV→St→Prop} (hm:VR E m um) (hkey:VR E key uk) (h:iO P t m key ok M k) :
    ∃ M' E' r z,k r M'∧ah G p E' M' w∧LE E E'∧VR E' r z∧(Instr.lookup t um uk ok).run P w=.ok z w:=by
  unfold iO at h
  split at h
  · rename_i kt e hu
    split at h
    · rename_i id
      split at h
      · rename_i ks sz cells hob
        cases hm with
        | mp hmu =>
          rename_i b o s n
          have hw:=hM.ow id
          rw [hob] at hw
          obtain ⟨⟨ms,clock,hb,⟨hl1,hl2,_⟩,hk⟩,_⟩:=hw.2.2 b o s n hmu
          rw [hM.hp] at hb
          obtain ⟨r,hr,_,hc,hf,hv⟩:=jU (ms:=ms) h hkey (by rw [pI]; omega) (fun i e m h4 h5=>hk i e.1 m (pJ h4).1 h5) w
          have hc':=hc ms.isEmpty rfl
          cases r with
          | none =>
            obtain ⟨r,zz,z,h4,h5,h6,h7⟩:=Cw (E:=E) (w:=w) hr
            refine ⟨M,E,r,zz,h4,hM,.refl _,h5,?_⟩
            unfold Instr.lookup
            simp only [Sem.run_bind,run_underlying hu,Result.andThen_ok,Sem.run_pure,eT hb,hc',hf,h6,h7]
          | some jv =>
            obtain ⟨j,vv⟩:=jv
            simp only [Option.map_some] at hr
            obtain ⟨M',E',v,u,hr,hM',hle,hvu,hva⟩:=oO hM hmu hr
            have hj:=hv j vv rfl
            unfold gP at hva
            rw [hb] at hva
            have hva:(ms[j]?).map (·.val)=some u:=hva
            rw [hj] at hva
            have hva:=Option.some.inj hva
            subst hva
            unfold ox at hr
            cases ok with
            | true =>
              refine ⟨M',E',_,.tuple #[vv,.bool true],hr,hM',hle,.tup #[vv,.bool true] rfl (fun m c z h1 h2=>by
                match m,h1,h2 with
                | 0,h1,h2=>simp at h1 h2; subst h1 h2; exact hvu
                | 1,h1,h2=>simp at h1 h2; subst h1 h2; exact .v _ _ rfl),?_⟩
              unfold Instr.lookup
              simp only [Sem.run_bind,run_underlying hu,Result.andThen_ok,Sem.run_pure,eT hb,hc',hf]
              rfl
            | false =>
              refine ⟨M',E',_,vv,hr,hM',hle,hvu,?_⟩
              unfold Instr.lookup
              simp only [Sem.run_bind,run_underlying hu,Result.andThen_ok,Sem.run_pure,eT hb,hc',hf]
              rfl
      · exact h.elim
    · exact h.elim
  · exact h.elim
theorem ql (hM:ah G p E M w) {t:TypeId} {m key x:AV} {um uk ux:Value} {K:St→Prop} (hm:VR E m um) (hkey:VR E key uk) (hx:VR E x ux) (h:jG P t m key x M K) :
    ∃ M' E' w',K M'∧ah G p E' M' w'∧LE E E'∧(Instr.mapUpdate t um uk ux).run P w=.ok () w':=by
  unfold jG at h
  split at h
  · rename_i kt e hu
    split at h
    · rename_i id
      split at h
      · rename_i ks sz cells hole hob
        obtain ⟨hsl0,h⟩:=ac h
        have hsl:=(Bool.and_eq_true_iff.1 hsl0).1
        cases hm with
        | mp hmu =>
          rename_i b o s n
          have hw:=hM.ow id
          rw [hob] at hw
          obtain ⟨⟨ms,clock,hb,⟨hl1,hl2,hbn⟩,hk⟩,_⟩:=hw.2.2 b o s n hmu
          rw [hM.hp] at hb
          obtain ⟨r,hr,htk,_,hfind,hval⟩:=jU (ms:=ms) h hkey (by rw [pI]; omega) (fun i e m h4 h5=>hk i e.1 m (pJ h4).1 h5) w
          obtain ⟨hck,hr⟩:=ac hr
          have hck':(Instr.checkKey false 10000 kt uk).run P w=.ok () w:=by
            unfold Et at hck
            split at hck
            · rename_i c hc
              exact eO _ w hc
            · cases hck
          cases r with
          | none =>
            simp only [Option.map_none] at hr
            split at hr
            · rw [ax] at hr
              obtain ⟨E',hS,hle⟩:=rQ hM (i:=cells.length) hob rfl hmu hb (ms':=ms.push { key:=uk,val:=ux,born:=clock }) (clock':=clock + 1) (ks':=ks++[key]) (cells':=cells++[none]) hx (wc hsl)
                ⟨by simp [hl1],by simp [hl2],hbn.push _ _⟩ (fun i k m h1 h2=>by
                  rcases Nat.lt_trichotomy i ks.length with hi | hi | hi
                  · rw [List.getElem?_append_left hi] at h1
                    rw [Array.getElem?_push,if_neg (by omega)] at h2
                    exact hk i k m h1 h2
                  · subst hi
                    rw [List.getElem?_append_right (Nat.le_refl _),Nat.sub_self] at h1
                    rw [Array.getElem?_push,if_pos (by omega)] at h2
                    cases h1
                    cases h2
                    exact htk
                  · rw [List.getElem?_eq_none (by simp; omega)] at h1
                    cases h1) (by simp) (fun j h1 h2=>by simp at h2; omega) (fun j hj=>by
                  rcases Nat.lt_or_ge j cells.length with h1 | h1
                  · rw [List.getElem?_append_left h1]
                  · rw [List.getElem?_eq_none (by simp; omega),List.getElem?_eq_none h1]) (fun j hj h1=>by
                  rw [Array.getElem?_push,if_neg (by omega)]) ⟨_,by rw [Array.getElem?_push,if_pos hl1],rfl⟩
              refine ⟨_,E',_,hr,hS,hle,?_⟩
              unfold Instr.mapUpdate
              simp only [Sem.run_bind,run_underlying hu,Result.andThen_ok,eT hb,hck',hfind,nj hb]
            · exact hr.elim
          | some r =>
            obtain ⟨i,v⟩:=r
            simp only [Option.map_some] at hr
            obtain ⟨hsb,hr⟩:=ac hr
            rw [Bool.and_eq_true] at hsb
            rw [ax] at hr
            have hv0:=hval i v rfl
            rw [Option.map_eq_some_iff] at hv0
            obtain ⟨m0,hm0,_⟩:=hv0
            have hims:i<ms.size:=(Array.getElem?_eq_some_iff.1 hm0).1
            have hie:ks[i]?=some ks[i]:=List.getElem?_eq_getElem (by omega)
            have hkey0:=hk i _ m0 hie hm0
            have hsb1:=hsb.1
            rw [hie] at hsb1
            simp only [Option.bind_some,hkey0,Option.getD_some] at hsb1
            obtain ⟨E',hS,hle⟩:=rQ hM (i:=i) hob hsb.2 hmu hb (ms':=ms.modify i fun e=>{ e with key:=uk,val:=ux }) (clock':=clock) (ks':=ks.set i key) (cells':=cells) hx (wc hsl)
              ⟨by simp [hl1],by simp [hl2],hbn.modify _ _ _⟩ (fun j k m h1 h2=>by
                rw [List.getElem?_set] at h1
                rw [Array.getElem?_modify] at h2
                by_cases hj:i=j
                · subst hj
                  rw [if_pos rfl,if_pos (by omega)] at h1
                  rw [if_pos rfl,hm0] at h2
                  cases h1
                  cases h2
                  exact htk
                · rw [if_neg hj] at h1 h2
                  exact hk j k m h1 h2) (Nat.le_refl _) (fun j h1 h2=>by omega) (fun _ _=>rfl) (fun j hj _=>by
                rw [Array.getElem?_modify,if_neg (fun e=>hj e.symm)]) ⟨{ m0 with key:=uk,val:=ux },by rw [Array.getElem?_modify,if_pos rfl,hm0]; rfl,rfl⟩
            refine ⟨_,E',_,hr,hS,hle,?_⟩
            have hstay:(Instr.keyThatStays (((ms[i]?).map (·.key)).getD uk) uk).run P w=.ok uk w:=by
              rw [hm0]
              unfold Instr.keyThatStays
              simp only [Option.map_some,Option.getD_some]
              rw [if_pos hsb1]
              rfl
            unfold Instr.mapUpdate
            simp only [Sem.run_bind,run_underlying hu,Result.andThen_ok,eT hb,hck',hfind,hstay,nj hb]
      · exact h.elim
    · exact h.elim
  · exact h.elim
theorem A5 {x:AV}:∀ n:Nat,(List.replicate n [x]).flatten=List.replicate n x
  | 0=>rfl
  | n + 1=>by
    show [x]++(List.replicate n [x]).flatten=_
    rw [A5 n]
    rfl
theorem A6 (hM:ah G p E S w) {id n sz:Nat} (hsz:0<vC sz) (hob:S.o[id]?=some (.arr true 1 (List.replicate n [.nilsl]))) :
    ah G p E { t:=S.t,l:=S.l,o:=S.o.set id (.own none sz (List.replicate n none) none),b:=S.b } w:=by
  have hw:=hM.ow id
  rw [hob] at hw
  have hw:∀ i,E.mu (.S id i)=none:=hw
  have hOb:=hM.obj id
  rw [hob] at hOb
  have h:=hM.reS (id:=id) (mu':=E.mu) (fun _ _=>rfl) (fun j b o s n h=>by rw [hw j] at h; cases h) (fun j j' b o s n o2 s2 n2 h h'=>by rw [hw j] at h; cases h) hob (fun e=>by cases e)
    (y:=.own none sz (List.replicate n none) none) (by
      revert hOb
      cases E.mu (.O id) with
      | none=>exact fun h=>h.elim
      | some mv =>
        cases mv with
        | virt =>
          intro h
          have h:List.replicate n [AV.nilsl]=[]:=h
          have h0:n=0:=by simpa using congrArg List.length h
          subst h0
          exact ⟨rfl,rfl⟩
        | blk b o s m =>
          rintro ⟨⟨h1,h2⟩,_⟩
          exact fun _=>⟨h1,by simpa using h2⟩) ⟨hsz,fun i _=>hw i,fun b o s m hm=>by
      rw [hm] at hOb
      obtain ⟨⟨h1,h2⟩,_,_,us,ty,h3,h4,h5⟩:=hOb
      subst h1
      refine ⟨⟨us,ty,h3,by simpa using h4⟩,fun i c hi=>?_⟩
      rw [List.getElem?_replicate] at hi
      split at hi
      · rename_i hin
        cases hi
        obtain ⟨u,hu,hv⟩:=h5 i .nilsl (by
          rw [A5,List.getElem?_replicate,if_pos hin])
        refine ⟨u,by unfold gP; rw [h3]; exact hu,?_⟩
        show cg E sz none (E.mu (.S id i)) u
        rw [hw i]
        cases hv
        rfl
      · cases hi⟩
  exact h.2
theorem c7.then {o:Oper} {K K1:St→Prop} (h:c7 P G p o a w K1) (hk:∀ S' E' a' w',K1 S'→ah G p E' S' w'→TR E' S'.t a'→∃ S2 E2,K S2∧ah G p E2 S2 w'∧TR E2 S2.t a'):c7 P G p o a w K:=by
  intro next Q hn
  refine h next Q (fun S' E' a' w' h1 h2 h3=>?_)
  obtain ⟨S2,E2,h4,h5,h6⟩:=hk S' E' a' w' h1 h2 h3
  exact hn S2 E2 a' w' h4 h5 h6
theorem nk {x:AV} {k k':Int→Prop} (h:intOf x k) (hk:∀ n,k n→k' n):intOf x k':=by
  unfold intOf at h ⊢
  split at h
  · exact hk _ h
  · exact h.elim
theorem rR {e:TypeId} {k k':List AV→Prop} (h:cE P e k) (hk:∀ z,k z→k' z):cE P e k':=by
  unfold cE at h ⊢
  split at h
  · split at h
    · obtain ⟨hb,h⟩:=ac h
      refine al hb ?_
      rw [ik] at h ⊢
      exact hk _ h
    · exact h.elim
  · exact h.elim
theorem yL {x:Operand} {k k':AV→Prop} (h:cR S x k) (hk:∀ v,k v→k' v):cR S x k':=by
  unfold cR at h ⊢
  split at h
  · obtain ⟨v,h1,h2⟩:=cj.1 h
    exact cj.2 ⟨v,h1,hk v h2⟩
  · exact b9.2 (hk _ (b9.1 h))
  · exact hk _ h
  · split at h
    · exact hk _ h
    · exact h.elim
theorem EN {o:Oper} {K:St→Prop} (hM:ah G p E S w) (ht:TR E S.t a) {j:Nat} (hj:S.o[j]?=some Ob.dead) (hb:S.b≤j) {ob:Obj} {x:Ob} (hx:iP (some x)=true) {sz n:Nat} {r:AV} {z:Value} (hrun:(execOp a.eval o).run P w=.ok (.value z) { w with heap:=w.heap.push ob })
    (hO:∀ E':Env,E'.h=w.heap.push ob→fy E' (some x) (some (.blk w.heap.size 0 sz n)))
    (hv:∀ E':Env,E'.h=w.heap.push ob→E'.mu (.O j)=some (.blk w.heap.size 0 sz n)→VR E' r z)
    (hK:K (k9 { t:=S.t,l:=S.l,o:=S.o.set j x,b:=S.b } o.dst r)):c7 P G p o a w K:=by
  intro next Q hn
  refine cT hrun ?_
  have hlt:j<S.o.length:=(List.getElem?_eq_some_iff.1 hj).1
  have hnone:E.mu (.O j)=none:=by
    have:=hM.obj j
    rw [hj] at this
    revert this
    cases E.mu (.O j) with
    | none=>exact fun _=>rfl
    | some _=>exact fun h=>h.elim
  obtain ⟨hle,hS⟩:=hM.newkey (ob:=ob) (key:=.O j) (sz:=sz) (n:=n) (fun _ h=>by cases h) hnone
    (M':={ t:=S.t,l:=S.l,o:=S.o.set j x,b:=S.b }) (fun _ _=>rfl)
    (fun id he=>by
      show (S.o.set j x)[id]?=_
      rw [List.getElem?_set_ne (fun e=>he (by rw [e]))]) rfl (by have:=hM.bl; simpa using this) (fun id he=>by cases he; exact hb)
    (fun d he=>by cases he)
    (fun id he hle=>by
      cases he
      show fy _ (S.o.set j x)[j]? _
      rw [List.getElem?_set_self hlt]
      exact hO _ rfl)
    (fun id he=>by
      rcases he with e | ⟨i,e⟩ <;> cases e
      show dJ _ j (S.o.set j x)[j]?
      rw [List.getElem?_set_self hlt]
      exact hM.ow_new rfl (by rw [hj]; rfl) hx)
  refine hn _ _ _ _ hK (hS.congr cp cq cC) ?_
  exact (TR.mono (t:=S.t) ht hle).put (S:={ t:=S.t,l:=S.l,o:=S.o.set j x,b:=S.b }) (hv _ rfl (by
    show aF _ _ _ _=_
    unfold aF
    rw [if_pos rfl]))
def zU (P:Program) (t:TypeId) (l c:AV) (k:Nat→Nat→List AV→Prop):Prop :=
  match P.underlying t with
  | some (.slice e) =>
    match P.info? e with
    | some i=>intOf l fun l=>intOf c fun c=>bG (decide (0≤l)&&decide (l≤c)&&decide (i.bytes * c≤140737488355328)&&decide (c≤140737488355328)&&Nat.blt 0 i.size)
        (cE P e fun z=>k i.size l.toNat z)
    | none=>af 61
  | _=>af 62
theorem Cx {o:Oper} {t:TypeId} {X Y:Operand} {k:Nat→Nat→List AV→Prop} (ht:TR E S.t a) (ho:o.op=.makeSlice t X Y)
    (h:cR S X fun l=>cR S Y fun c=>zU P t l c k):∃ sz n cs ob z,k sz n cs∧(execOp a.eval o).run P w=.ok (.value z) { w with heap:=w.heap.push ob } ∧
      (∀ E':Env,E'.h=w.heap.push ob→fy E' (some (.arr true sz (List.replicate n cs))) (some (.blk w.heap.size 0 sz n))) ∧
      ∀ (E':Env) (j:Nat),E'.h=w.heap.push ob→E'.mu (.O j)=some (.blk w.heap.size 0 sz n)→VR E' (.mf j) z:=by
  obtain ⟨l,h,hl⟩:=c_ h ht
  obtain ⟨c,h,hc⟩:=c_ h ht
  unfold zU at h
  split at h
  · rename_i e hu
    split at h
    · rename_i i hi
      replace h:=bL h hl
      obtain ⟨kl,nl,el,h⟩:=h
      replace h:=bL h hc
      obtain ⟨kc,nc,ec,h⟩:=h
      replace h:=ac h; obtain ⟨hb,h⟩:=h
      simp only [Bool.and_eq_true,decide_eq_true_eq] at hb
      obtain ⟨⟨⟨⟨h1,h2⟩,h3⟩,h4⟩,h5⟩:=hb
      have h0:0<i.size:=Nat.le_of_ble_eq_true h5
      obtain ⟨i',z,cs,hi',hz,hzs,h,hcs⟩:=cO h
      rw [hi] at hi'
      cases hi'
      have hcl:cs.length=i.size:=by have:=(hcs E).1; simpa [hzs] using this
      refine ⟨i.size,nl.toNat,cs,.cells (md z.cells (nc.toNat * i.size)) e,.slice (some ⟨w.heap.size,0,none⟩) nl.toNat nc.toNat,h,?_,fun E' hh=>?_,fun E' j hh hmu=>?_⟩
      · have hw1:IntKind.i64.wrap nl=nl:=rK h1 (by omega)
        have hw2:IntKind.i64.wrap nc=nc:=rK (by omega) (by omega)
        have hx:(execOp a.eval o)=(do pure (.value (← Instr.makeSlice t (.int kl nl) (.int kc nc)))):=by
          unfold execOp
          rw [ho,← el,← ec]
        rw [hx,Sem.run_bind]
        unfold Instr.makeSlice
        simp only [Sem.run_bind,run_underlying hu,Result.andThen_ok,asInt,asIntOf,Sem.run_pure,run_typeInfo w hi,hw1,hw2]
        have hcond:((decide (nc<0)||decide (↑i.bytes * nc>2 ^ 48))||decide (nl<0)||decide (nl>nc))=false:=by
          simp only [Bool.or_eq_false_iff,decide_eq_false_iff_not]
          refine ⟨⟨⟨by omega,?_⟩,by omega⟩,by omega⟩
          have:((2:Int) ^ 48)=281474976710656:=by decide
          rw [this]
          omega
        rw [hcond]
        simp only [Bool.false_eq_true,if_false,Sem.run_bind,run_askRoom,Result.andThen_ok,run_sizeOf hi]
        by_cases hh:nc.toNat * i.size=0
        · rw [if_pos hh]
          have e0:md z.cells (nc.toNat * i.size)=(Array.range (nc.toNat * i.size)).map (fun x=>(#[]:Array Value)[x % (#[]:Array Value).size]!):=by
            apply Array.ext_getElem?
            intro m
            rw [hh]
            simp [md]
          rw [e0]
          rfl
        · rw [if_neg hh]
          simp only [Sem.run_bind,cQ hi hz,Result.andThen_ok,Sem.run_pure]
          rfl
      · refine ⟨⟨rfl,by simp⟩,?_⟩
        rw [hh]
        refine cz.of_rows h0 (fun r hr=>by rw [List.eq_of_mem_replicate hr]; exact hcl) (du w _) ?_ (fun i' row r c' h6 h7=>?_)
        · rw [List.length_replicate,ip,Nat.zero_add]
          exact Nat.mul_le_mul_right _ (by omega)
        · obtain ⟨u,hu',hv⟩:=yG (hcs E'.fz) hzs (n:=nc.toNat * i.size) (Nat.mul_le_mul_right _ (by omega)) h6 h7
          exact ⟨u,hu',hv⟩
      · refine .mf _ hmu (by omega) ?_
        rw [hh]
        unfold bj
        rw [du]
        simp [ip]
    · exact False.elim h
  · exact False.elim h
theorem zV {nw:Bool} {j:Nat} {t:TypeId} {l c:AV} {k:AV→St→Prop} (h:gM P nw j t l c S k):zU P t l c fun sz n cs=>sz=1∧cs=[.nilsl]∧∃ s2,0<vC s2∧oq j S.o S.b (.own none s2 (List.replicate n none) none) fun o=>k (.mf j) { t:=S.t,l:=S.l,o:=o,b:=S.b }:=by
  unfold gM at h
  unfold zU
  split at h
  · rename_i e hu
    try rw [hu]
    try dsimp only
    split at h
    · rename_i i e2 hi he
      try rw [hi]
      try dsimp only
      split at h
      · rename_i i2 hi2
        refine nk h (fun nl h=>?_)
        refine nk h (fun nc h=>?_)
        obtain ⟨hb,h⟩:=ac h
        rw [Bool.and_eq_true,Bool.and_eq_true] at hb
        refine al hb.1.1 ?_
        have h1:=Nat.eq_of_beq_eq_true hb.1.2
        have hb2:=hb.2
        rw [Bool.and_eq_true,Nat.blt_eq,Nat.blt_eq] at hb2
        have h2:0<i2.size:=hb2.1
        refine rR h (fun z h=>?_)
        split at h
        · refine ⟨h1,rfl,_,?_,h⟩
          cases nw with
          | true =>
            show 0<vC (i2.size + 65536)
            unfold vC Ay
            have:Nat.ble 65536 (i2.size + 65536)=true:=by simp
            rw [this]
            show 0<i2.size + 65536 - 65536
            omega
          | false =>
            show 0<vC i2.size
            unfold vC Ay
            cases hbb:Nat.ble 65536 i2.size with
            | true =>
              have:=Nat.le_of_ble_eq_true hbb
              have:=hb2.2
              omega
            | false=>exact h2
        · exact h.elim
      · exact h.elim
    · exact h.elim
  · exact h.elim
theorem xT {o:Oper} {nw:Bool} {j:Nat} {t:TypeId} {X Y:Operand} {K:St→Prop} (hM:ah G p E S w) (ht:TR E S.t a) (ho:o.op=.makeSlice t X Y) (h:cR S X fun l=>cR S Y fun c=>gM P nw j t l c (cY S) fun r M=>bB o.dst r (fg S M) K):c7 P G p o a w K:=by
  obtain ⟨sz,n,cs,ob,z,⟨h1,h2,s2,hs2,hk⟩,hrun,hO,hv⟩:=Cx (w:=w) ht ho (yL h (fun l h=>yL h (fun c h=>zV h)))
  subst h1
  subst h2
  obtain ⟨hb,hd,hk⟩:=vW hk
  rw [aB] at hk
  have hk:K (k9 { t:=S.t,l:=S.l,o:=(S.o++List.replicate (j + 1 - S.o.length) Ob.dead).set j (.own none s2 (List.replicate n none) none),b:=S.b } o.dst (.mf j)):=hk
  have hd:(S.o++List.replicate (j + 1 - S.o.length) Ob.dead)[j]?=some .dead:=hd
  have hM1:=hM.pad (j + 1 - S.o.length)
  generalize S.o++List.replicate (j + 1 - S.o.length) Ob.dead=O1 at hk hd hM1
  have hlt:j<O1.length:=(List.getElem?_eq_some_iff.1 hd).1
  refine (EN (S:={ t:=S.t,l:=S.l,o:=O1,b:=S.b }) (x:=.arr true 1 (List.replicate n [.nilsl])) (K:=fun S2=>S2=k9 { t:=S.t,l:=S.l,o:=O1.set j (.arr true 1 (List.replicate n [.nilsl])),b:=S.b } o.dst (.mf j)) (r:=.mf j) hM1 ht hd hb rfl hrun hO (fun E' e hmu=>hv E' j e hmu) rfl).then (fun S' E' a' w' hk' hS htr=>?_)
  subst hk'
  have hS':=hS.congr (M':={ t:=S.t,l:=S.l,o:=O1.set j (.arr true 1 (List.replicate n [.nilsl])),b:=S.b }) cp.symm cq.symm cC.symm
  have hS2:=A6 hS' (id:=j) (n:=n) hs2 (List.getElem?_set_self hlt)
  refine ⟨_,E',hk,hS2.congr cp ?_ cC,?_⟩
  · rw [cq]
    show _=(O1.set j _).set j _
    rw [List.set_set]
  · have:(k9 { t:=S.t,l:=S.l,o:=O1.set j (.own none s2 (List.replicate n none) none),b:=S.b } o.dst (.mf j)).t=(k9 { t:=S.t,l:=S.l,o:=O1.set j (.arr true 1 (List.replicate n [.nilsl])),b:=S.b } o.dst (.mf j)).t:=by cases o.dst <;> rfl
    rw [this]
    exact htr
theorem ta {o:Oper} {t:TypeId} {K:St→Prop} (hM:ah G p E S w) (ht:TR E S.t a) (ho:o.op=.makeMap t none) (h:fY P t (cY S) fun r M=>bB o.dst r (fg S M) K):c7 P G p o a w K:=by
  unfold fY at h
  split at h
  · split at h
    · split at h
      · rename_i i2 _
        obtain ⟨hsz0,h⟩:=ac h
        rw [Bool.and_eq_true,Nat.blt_eq,Nat.blt_eq] at hsz0
        have hsz:0<vC i2.size:=by
          unfold vC Ay
          cases hbb:Nat.ble 65536 i2.size with
          | true =>
            have:=Nat.le_of_ble_eq_true hbb
            have:=hsz0.2
            omega
          | false=>exact hsz0.1
        rw [ax,aB] at h
        have h1:bi (S.o++[.mapo true []]) fun o'=>bB o.dst (.mp S.o.length) { t:=S.t,l:=S.l,o:=o',b:=S.b } fun S2=>S2=k9 { t:=S.t,l:=S.l,o:=S.o++[.mapo true []],b:=S.b } o.dst (.mp S.o.length):=by
          rw [ax,aB]
        refine (qf hM ht ho h1).then (fun S' E' a' w' hk hS htr=>?_)
        subst hk
        have hS':=hS.congr (M':={ t:=S.t,l:=S.l,o:=S.o++[.mapo true []],b:=S.b }) cp.symm cq.symm cC.symm
        have hob:(S.o++[Ob.mapo true []])[S.o.length]?=some (.mapo true []):=by
          rw [List.getElem?_append_right (Nat.le_refl _),Nat.sub_self]
          rfl
        have hw:=hS'.ow S.o.length
        rw [show ({ t:=S.t,l:=S.l,o:=S.o++[.mapo true []],b:=S.b }:St).o[S.o.length]?=_ from hob] at hw
        have hw:∀ i,E'.mu (.S S.o.length i)=none:=hw
        have hOb:=hS'.obj S.o.length
        rw [show ({ t:=S.t,l:=S.l,o:=S.o++[.mapo true []],b:=S.b }:St).o[S.o.length]?=_ from hob] at hOb
        obtain ⟨_,hS2⟩:=hS'.reS (id:=S.o.length) (mu':=E'.mu) (fun _ _=>rfl) (fun j b o s n h=>by rw [hw j] at h; cases h) (fun j j' b o s n o2 s2 n2 h h'=>by rw [hw j] at h; cases h) hob (fun e=>by cases e)
          (y:=.own (some []) i2.size [] none) (by
            revert hOb
            cases E'.mu (.O S.o.length) with
            | none=>exact fun h=>h.elim
            | some mv =>
              cases mv with
              | virt=>exact fun h=>h.elim
              | blk b o s n=>exact fun _ e=>by cases e) ⟨hsz,fun i _=>hw i,fun b o s n hm=>by
            rw [hm] at hOb
            obtain ⟨ms,clock,h1,⟨h2,h3⟩,_⟩:=hOb
            exact ⟨⟨ms,clock,h1,⟨h2,rfl,h3⟩,fun i k m hk=>by simp at hk⟩,fun i c hi=>by simp at hi⟩⟩
        have e:(S.o++[Ob.mapo true []]).set S.o.length (Ob.own (some []) i2.size [] none)=S.o++[Ob.own (some []) i2.size [] none]:=by
          rw [List.set_append_right _ _ (Nat.le_refl _),Nat.sub_self]
          rfl
        refine ⟨_,E',h,hS2.congr ?_ ?_ ?_,?_⟩
        · exact cp
        · rw [cq]; exact e.symm
        · exact cC
        · have:(k9 (fg S { t:=(cY S).t,l:=(cY S).l,o:=(cY S).o++[Ob.own (some []) i2.size [] none],b:=(cY S).b }) o.dst (.mp (cY S).o.length)).t=(k9 { t:=S.t,l:=S.l,o:=S.o++[.mapo true []],b:=S.b } o.dst (.mp S.o.length)).t:=by cases o.dst <;> rfl
          rw [this]
          exact htr
      · exact h.elim
    · exact h.elim
  · exact h.elim
theorem wh {C:Ctx} {pl:bK} {o:Oper} {K:St→Prop} (hM:ah G p E S w) (ht:TR E S.t a) (h:sX C pl o S K):c7 C.P G p o a w K:=by
  have fin:∀ {M':St} {E':Env} {w':World} {r:AV} {z:Value},bB o.dst r (fg S M') K→ah G p E' M' w'→LE E E'→VR E' r z→(execOp a.eval o).run C.P w=.ok (.value z) w'→∀ (next:Act→World→Prop) (Q:Exit→Act→World→Prop),(∀ S' E' a' w',K S'→ah G p E' S' w'→TR E' S'.t a'→next a' w')→o.wp C.P a w next Q:=by
    intro M' E' w' r z hk hS hle hv hrun next Q hn
    rw [aB] at hk
    refine cT hrun ?_
    exact hn _ E' _ w' hk (hS.congr (by rw [cp]; rfl) (by rw [cq]; rfl) (by rw [cC]; rfl)) ((TR.mono (t:=S.t) ht hle).put (S:=fg S M') hv)
  have fin2:∀ {M':St} {E':Env} {w':World},bB o.dst .bad (fg S M') K→ah G p E' M' w'→LE E E'→(execOp a.eval o).run C.P w=.ok .skip w'→∀ (next:Act→World→Prop) (Q:Exit→Act→World→Prop),(∀ S' E' a' w',K S'→ah G p E' S' w'→TR E' S'.t a'→next a' w')→o.wp C.P a w next Q:=by
    intro M' E' w' hk hS hle hrun next Q hn
    rw [aB] at hk
    unfold Oper.wp
    rw [hrun]
    exact hn _ E' (a.put o.dst undef) w' hk (hS.congr (by rw [cp]; rfl) (by rw [cq]; rfl) (by rw [cC]; rfl)) ((TR.mono (t:=S.t) ht hle).put (S:=fg S M') (.bad _ _))
  have hM0:ah G p E (cY S) w:=hM.congr rfl rfl rfl
  by_cases hmk:∃ t X Y,o.op=.makeSlice t X Y
  · obtain ⟨t,X,Y,ho⟩:=hmk
    refine xT (nw:=cV pl.nw (o.dst.getD 0)) (j:=vG pl.ix o.dst S.o.length) hM ht ho ?_
    unfold sX at h
    unfold lJ at h
    rw [ho] at h
    exact h
  by_cases hmm:∃ t,o.op=.makeMap t none
  · obtain ⟨t,ho⟩:=hmm
    refine ta hM ht ho ?_
    unfold sX at h
    unfold lJ at h
    rw [ho] at h
    exact h
  unfold sX at h
  obtain ⟨vs,h,hv⟩:=da ht h
  unfold lJ at h
  intro next Q hn
  split at h
  · rename_i t x pv ho
    rw [ho] at hv
    have hv:cb E [pv] [a.eval x]:=by simpa [Op.operands] using hv
    obtain ⟨u,us,e,hp,hnl⟩:=hv.uncons
    cases e
    obtain ⟨id,i,b,off,n,sz,cells,hole,h,hob,hmu,hu⟩:=rP hM0 hp h
    obtain ⟨M',E',r,z,hk,hS,hle,hr,hrun⟩:=wa hM0 hob hmu h
    exact fin hk hS hle hr (by simp [execOp,ho,hu,hrun]) next Q hn
  · rename_i t x y pv v ho
    rw [ho] at hv
    have hv:cb E [pv,v] [a.eval x,a.eval y]:=by simpa [Op.operands] using hv
    obtain ⟨u,us,e,hp,hv⟩:=hv.uncons
    cases e
    obtain ⟨u,us,e,hy,hv⟩:=hv.uncons
    cases e
    obtain ⟨id,i,b,off,n,sz,cells,hole,h,hob,hmu,hu⟩:=rP hM0 hp h
    obtain ⟨M',E',w',hk,hS,hle,hrun⟩:=uS hM0 hmu hy h
    exact fin2 hk hS hle (by simp [execOp,ho,hu,hrun]) next Q hn
  · rename_i t X Y l c ho
    exact absurd ⟨t,X,Y,ho⟩ hmk
  · rename_i t ho
    exact absurd ⟨t,ho⟩ hmm
  · rename_i t X Y ok m key ho
    rw [ho] at hv
    have hv:cb E [m,key] [a.eval X,a.eval Y]:=by simpa [Op.operands] using hv
    obtain ⟨u,us,e,hm,hv⟩:=hv.uncons
    cases e
    obtain ⟨u,us,e,hkey,hv⟩:=hv.uncons
    cases e
    obtain ⟨M',E',r,z,hk,hS,hle,hr,hrun⟩:=wd hM0 hm hkey h
    exact fin hk hS hle hr (by simp [execOp,ho,hrun]) next Q hn
  · rename_i t X Y Z m key x ho
    rw [ho] at hv
    have hv:cb E [m,key,x] [a.eval X,a.eval Y,a.eval Z]:=by simpa [Op.operands] using hv
    obtain ⟨u,us,e,hm,hv⟩:=hv.uncons
    cases e
    obtain ⟨u,us,e,hkey,hv⟩:=hv.uncons
    cases e
    obtain ⟨u,us,e,hx,hv⟩:=hv.uncons
    cases e
    obtain ⟨M',E',w',hk,hS,hle,hrun⟩:=ql hM0 hm hkey hx h
    exact fin2 hk hS hle (by simp [execOp,ho,hrun]) next Q hn
  · rename_i t X Y Z m key x ho
    rw [ho] at hv
    have hv:cb E [m,key,x] [a.eval X,a.eval Y,a.eval Z]:=by simpa [Op.operands] using hv
    obtain ⟨u,us,e,hm,hv⟩:=hv.uncons
    cases e
    obtain ⟨u,us,e,hkey,hv⟩:=hv.uncons
    cases e
    obtain ⟨u,us,e,hx,hv⟩:=hv.uncons
    cases e
    obtain ⟨M',E',w',hk,hS,hle,hrun⟩:=ql hM0 hm hkey hx h
    exact fin2 hk hS hle (by simp [execOp,ho,hrun]) next Q hn
  · exact h.elim
end
structure d5 (C:Ctx):Prop where
  pcall:∀ f args K,C.pcall f args K→d_ C.P f args K
  scall:∀ f args o K,C.scall f args o K→qi C.P f args o K
section
variable {G:Gh} {pd:Nat→Option (List AV)} {E:Env} {S:St} {w:World} {C:Ctx} {pl:bK} {o:Oper} {a:Act} {K:St→Prop}
theorem yM (hM:ah G pd E S w):ah G pd E (cY S) w:=hM.congr rfl rfl rfl
theorem wi (hM:ah G pd E S w) (ht:TR E S.t a) (h:Eu C pl o S K):c7 C.P G pd o a w K:=by
  obtain ⟨vs,h,hv⟩:=da ht h
  by_cases hb:∃ t len parts,o.op=.buildSlice t len parts
  · obtain ⟨t,len,parts,ho⟩:=hb
    unfold pop at h
    rw [ho] at h
    replace h:=ac h; obtain ⟨hp,h⟩:=h
    have hl:parts.toList.length=vs.length:=by simpa using Nat.eq_of_beq_eq_true hp
    have hv':cb E vs ((parts.toList.map (·.2)).map a.eval):=by
      rw [ho] at hv
      simpa [Op.operands] using hv
    refine c7.of1 (S:=S) ⟨rfl,rfl,rfl⟩ ht (xN hM ho hl hv' h) (fun r M' hk=>?_)
    obtain ⟨hk,rfl⟩:=hk
    rw [aB] at hk
    exact ⟨_,hk,rfl⟩
  · have hs:∀ t len parts,o.op≠.buildSlice t len parts:=fun t len parts he=>hb ⟨t,len,parts,he⟩
    obtain ⟨r,z,hk,hr,hrun⟩:=EC h hs hv w
    rw [aB] at hk
    intro next Q hn
    exact cT hrun (hn _ E _ w hk (hM.congr cp cq cC) (ht.put hr))
theorem wj (hC:d5 C) (hM:ah G pd E S w) (ht:TR E S.t a) (h:Ev C o S K):c7 C.P G pd o a w K:=by
  obtain ⟨vs,h,hv⟩:=da ht h
  refine c7.of1 (S:=S) (M:=cY S) ⟨rfl,rfl,rfl⟩ ht (EH hC.pcall (yM hM) ht.gt h hv) (fun r M' hk=>?_)
  obtain ⟨hk,rfl⟩:=hk
  rw [aB] at hk
  exact ⟨_,hk,rfl⟩
theorem wl (hM:ah G pd E S w) (ht:TR E S.t a) (h:Ew C o S K):c7 C.P G pd o a w K:=by
  obtain ⟨vs,h,hv⟩:=da ht h
  refine c7.of1 (S:=S) (M:=cY S) ⟨rfl,rfl,rfl⟩ ht (EG (yM hM) h hv) (fun r M' hk=>?_)
  rw [aB] at hk
  exact ⟨_,hk,by cases o.dst <;> rfl⟩
theorem yN (hC:d5 C) (hpd:AE pl o=true→∀ d,o.dst=some d→pd d=none) (hM:ah G pd E S w) (ht:TR E S.t a) (h:vM C pl o S K):c7 C.P G pd o a w K:=by
  unfold vM at h
  split at h
  · rename_i e ho
    exact AS (fun d hd _=>hpd (by unfold AE; rw [ho]) d hd) hM ht ho h
  · rename_i e x ho
    exact AT (fun d hd he=>hpd (by unfold AE; rw [ho]; dsimp only; rw [hd]; show (!(cV pl.esc d))=true; rw [he]; rfl) d hd) hM ht ho h
  · rename_i t len parts ho
    exact s7 hM ht ho h
  · rename_i t r ho
    cases r with
    | none=>exact qf hM ht ho h
    | some r=>exact False.elim h
  · rename_i t l c ho
    exact nQ (bx:=cV pl.nn (o.dst.getD 0)) hM ht ho h
  · rename_i t m key x ho
    exact uR hM ht ho h
  · rename_i t m key x ho
    exact zR hM ht ho h
  · rename_i c ho
    split at h
    · rename_i b hcal
      split at h
      · obtain ⟨vs,h,hv⟩:=da ht h
        split at h
        · rename_i x kd n
          obtain ⟨u,us,e,hc,hn⟩:=hv.uncons
          obtain ⟨u1,us1,rfl,hc1,hn1⟩:=hn.uncons
          have:=hn1.unnil
          subst this
          obtain ⟨rfl,_⟩:=hc1.vI
          exact xP hM ht ho hcal e hc h
        · rename_i y _
          obtain ⟨u,us,e,hc,hn⟩:=hv.uncons
          obtain ⟨u1,us1,rfl,hc1,hn1⟩:=hn.uncons
          have:=hn1.unnil
          subst this
          exact xO hM ht ho hcal e hc hc1 (ac h).2
        · rename_i x y _ _
          obtain ⟨u,us,e,hc,hn⟩:=hv.uncons
          obtain ⟨u1,us1,rfl,hc1,hn1⟩:=hn.uncons
          have:=hn1.unnil
          subst this
          exact zO hM ht ho hcal e hc hc1 h
        · exact False.elim h
      · obtain ⟨vs,h,hv⟩:=da ht h
        split at h
        · rename_i x y
          obtain ⟨u,us,e,hc,hn⟩:=hv.uncons
          obtain ⟨u1,us1,rfl,hc1,hn1⟩:=hn.uncons
          have:=hn1.unnil
          subst this
          exact Ct hM ht ho hcal e hc hc1 h
        · exact False.elim h
      · obtain ⟨vs,h,hv⟩:=da ht h
        split at h
        · rename_i x
          obtain ⟨u,us,e,hc,hn⟩:=hv.uncons
          have:=hn.unnil
          subst this
          exact A3 hM ht ho hcal e hc h
        · exact False.elim h
      · exact False.elim h
    · rename_i f hcal
      obtain ⟨fv,h,hf⟩:=c_ h ht
      obtain ⟨as,h,has⟩:=da ht h
      unfold yq at h
      split at h
      · rename_i fid first cap
        split at h
        · exact v7 hC.pcall hM ht ho hcal hf has h
        · replace h:=ac h; obtain ⟨hnl,h⟩:=h
          exact uu hM ht ho hcal hf has hnl (hC.scall _ _ _ _ h)
      · exact False.elim h
    · exact False.elim h
  · exact False.elim h
theorem Cy (hC:d5 C) (hM:ah G pn E S w) (ht:TR E S.t a) (h:zA C pl o S K):c7 C.P G pn o a w K:=by
  unfold zA at h
  split at h
  · exact wi hM ht h
  · exact wj hC hM ht h
  · exact wl hM ht h
  · exact yN hC (fun _ _ _=>rfl) hM ht h
theorem tc (hC:d5 C) (hM:ah G pn E S w) (ht:TR E S.t a) (h:FI C pl o S K):c7 C.P G pn o a w K:=by
  unfold FI at h
  split at h
  · exact wh hM ht h
  · exact Cy hC hM ht h
def rd (r:Option Nat):Fence:={ Fence.wide with round:=r }
theorem wm {r:Option Nat} {n:Nat} {P:Program} {f:FuncId} {args:Array Value} {w:World} {R:Ending→World→Prop}:CallsIn (rd r) n P f args w R↔Calls P f args w R:=callsIn_wide (n:=n)
theorem FV {r:Option Nat} {P:Program} {m m':Machine}:StepsIn (Machine.fenced P (rd r)) P m m'↔Steps P m m':=stepsIn_wide
theorem yO {r:Option Nat} {n:Nat} {P:Program} {o:Oper} {a:Act} {w:World} {next:Act→World→Prop} {Q:Exit→Act→World→Prop} (hd:∀ c,o.op≠.defer c) (h:o.wp P a w next Q):o.wpIn (rd r) n P a w next Q:=by
  refine ⟨fun _ _=>trivial,?_⟩
  rw [Oper.semAt_eq _ _ _ hd]
  unfold Oper.wp at h
  revert h
  generalize (execOp a.eval o).run P w=x
  intro h
  have hn:((rd r).depth.isSome=true→1≤n):=fun h=>by cases h
  cases x with
  | ok x w' =>
    cases x with
    | enter f args=>exact ⟨hn,wm.2 (Calls.mono h (fun e w'' he=>by cases e <;> exact he))⟩
    | row row args=>exact ⟨hn,fun c cs _=>let ⟨v,w',hr,s⟩:=h c cs; ⟨v,w',hr,FV.2 s⟩⟩
    | _=>first | exact h | exact False.elim h
  | halt x w'=>cases x <;> first | exact h | exact False.elim h
theorem Cz {C:Ctx} {pl:bK} {o:Oper} {S:St} {K:St→Prop} (h:FI C pl o S K) (c:Call):o.op≠.defer c:=by
  intro ho
  have hc:FH o=3:=by unfold FH; rw [ho]
  have hw:fX pl o=false:=by unfold fX; rw [ho]
  have h0:zA C pl o S K:=by unfold FI at h; rw [hw] at h; exact h
  have h1:vM C pl o S K:=by unfold zA at h0; rw [hc] at h0; exact h0
  unfold vM at h1
  rw [ho] at h1
  exact h1
theorem TR.lit {d:Nat} {b:Bool} (ht:TR E S.t a) (hd:S.t[d]?=some (.v (.bool b))):a.tmps[d]?=some (.bool b):=by
  have hlt:d<a.tmps.size:=by rw [← ht.len]; exact (List.getElem?_eq_some_iff.1 hd).1
  rw [Array.getElem?_eq_getElem hlt]
  have:=ht.val d _ _ hd (Array.getElem?_eq_getElem hlt)
  rw [this.vI.1]
theorem TR.relit {d:Nat} {b:Bool} (ht:TR E S.t a) (hd:S.t[d]?=some (.v (.bool b))):TR E (S.t.set d (.v (.bool b))) a:=by
  have:S.t.set d (.v (.bool b))=S.t:=by
    apply List.ext_getElem?
    intro j
    rw [List.getElem?_set]
    by_cases hj:d=j
    · subst hj
      rw [if_pos rfl,if_pos (List.getElem?_eq_some_iff.1 hd).1,hd]
    · rw [if_neg hj]
  rw [this]
  exact ht
theorem A7 {d:Nat} {k:Bool→St→Prop} (hM:ah G pd E S w) (ht:TR E S.t a) (h:vB d S k):∃ b S1,k b S1∧a.tmps[d]?=some (.bool b)∧ah G pd E S1 w∧TR E S1.t a:=by
  unfold vB at h
  rw [cj] at h
  obtain ⟨c,hc,h⟩:=h
  split at h
  · rename_i b
    rcases mL h with ⟨hb,h2⟩ | ⟨hb,h2⟩
    · subst hb
      rw [d3] at h2
      exact ⟨true,_,h2,ht.lit hc,hM.congr rfl rfl rfl,ht.relit hc⟩
    · subst hb
      rw [d3] at h2
      exact ⟨false,_,h2,ht.lit hc,hM.congr rfl rfl rfl,ht.relit hc⟩
  · exact False.elim h
theorem kD {d:Nat} {k:Option Bool→St→Prop} (hM:ah G pd E S w) (ht:TR E S.t a) (h:gn d S k) :
    ∃ b S1,k b S1∧(match b with | some b=>a.tmps[d]?=some (.bool b) | none=>a.tmps[d]?=some (.tuple #[]))∧ah G pd E S1 w∧TR E S1.t a:=by
  unfold gn at h
  rw [cj] at h
  obtain ⟨c,hc,h⟩:=h
  split at h
  · rename_i b
    rcases mL h with ⟨hb,h2⟩ | ⟨hb,h2⟩
    · subst hb
      rw [d3] at h2
      exact ⟨some true,_,h2,ht.lit hc,hM.congr rfl rfl rfl,ht.relit hc⟩
    · subst hb
      rw [d3] at h2
      exact ⟨some false,_,h2,ht.lit hc,hM.congr rfl rfl rfl,ht.relit hc⟩
  · refine ⟨none,S,h,?_,hM,ht⟩
    have hlt:d<a.tmps.size:=by rw [← ht.len]; exact (List.getElem?_eq_some_iff.1 hc).1
    show a.tmps[d]?=_
    rw [Array.getElem?_eq_getElem hlt]
    obtain ⟨us,hu,hv⟩:=(ht.val d _ _ hc (Array.getElem?_eq_getElem hlt)).tupI
    rw [hu]
    have:=hv.unnil
    have:us=#[]:=by apply Array.ext'; simpa using this
    rw [this]
  · exact False.elim h
theorem nm {ai:Array Oper} {j d:Nat} {b:Option Bool} (hd:rD ai j=some d) (hb:match b with | some b=>a.tmps[d]?=some (.bool b) | none=>a.tmps[d]?=some (.tuple #[])):yielded ai a.tmps j=b:=by
  unfold yielded
  unfold rD at hd
  rw [hd]
  cases b with
  | some b=>simp [hb]
  | none=>simp [hb]
theorem rS (E:Env):VR E (.tup []) undef:=.tup #[] rfl (fun m c u h=>by simp at h)
theorem lV {o:Oper} {f:Nat→Option Bool} {j:Nat} {want:Bool} {b:Option Bool} {X Y:Prop} (hg:o.guard=some (j,want)) (hf:f j=b) (h:gsel b want X Y):(Region.wanted o f=true∧X)∨(Region.wanted o f=false∧Y):=by
  unfold Region.wanted
  rw [hg]
  simp only [hf]
  cases b with
  | none=>exact .inr ⟨rfl,h⟩
  | some b =>
    cases b <;> cases want
    · exact .inl ⟨rfl,h⟩
    · exact .inr ⟨rfl,h⟩
    · exact .inr ⟨rfl,h⟩
    · exact .inl ⟨rfl,h⟩
theorem qS (hC:d5 C) {rr:Option Nat} {all:Array Oper} {Q:Exit→Act→World→Prop}:∀ {ai:List Oper} {E:Env} {S:St} {w:World} {a:Act} {K:St→Prop},ah G pn E S w→TR E S.t a→sY C pl all ai S K →
    (∀ S' E' a' w',K S'→ah G pn E' S' w'→TR E' S'.t a'→Q .normal a' w')→wpListIn (rd rr) 0 C.P all Q ai a w
  | [],E,S,w,a,K,hM,ht,h,hQ=>hQ _ _ _ _ h hM ht
  | o::rest,E,S,w,a,K,hM,ht,h,hQ=>by
    have step:∀ {S1:St},ah G pn E S1 w→TR E S1.t a→Region.wanted o (yielded all a.tmps)=true→(FI C pl o S1 fun S'=>sY C pl all rest S' K)→wpListIn (rd rr) 0 C.P all Q (o::rest) a w:=by
      intro S1 hM1 ht1 hw h
      unfold wpListIn
      rw [if_pos hw]
      refine yO (Cz h) (tc hC hM1 ht1 h _ _ (fun S' E' a' w' hk hS htr=>?_))
      exact qS hC hS htr hk hQ
    unfold sY at h
    split at h
    · rename_i hg
      exact step hM ht (by unfold Region.wanted; rw [hg]) h
    · rename_i j want hg
      split at h
      · exact False.elim h
      · rename_i d hd
        obtain ⟨b,S1,h,hb,hM1,ht1⟩:=kD hM ht h
        rcases lV hg (nm hd hb) h with ⟨hw,h⟩ | ⟨hw,h⟩
        · exact step hM1 ht1 hw h
        · rw [aB] at h
          unfold wpListIn
          rw [if_neg (by rw [hw]; exact fun h=>by cases h)]
          exact ⟨fun _ _=>trivial,qS hC (hM1.congr cp cq cC) (ht1.put (rS _)) h hQ⟩
end
def Hu:Ex→Exit
  | .nrm=>.normal
  | .ex i=>.exit i
  | .ret=>.ret
def FW (G:Gh) (K:Ex→St→Prop) (Q:Exit→Act→World→Prop):Prop:=∀ e S' E' a' w',K e S'→ah G pn E' S' w'→TR E' S'.t a'→Q (Hu e) a' w'
def np (C:Ctx):Prop:=∀ pl c S K,C.loop pl c S K→∀ (r:Option Nat) (G:Gh) (E:Env) (a:Act) (w:World) (Q:Exit→Act→World→Prop),ah G pn E S w→TR E S.t a→FW G K Q→(Code.loop c).wpIn (rd r) 0 C.P Q a w
def mh (C:Ctx):Prop:=∀ pl id ai S K,gN C pl (.region id ai true) S K→∀ (r:Option Nat) (G:Gh) (E:Env) (a:Act) (w:World) (Q:Exit→Act→World→Prop),ah G pn E S w→TR E S.t a→FW G K Q→(Code.region id ai true).wpIn (rd r) 0 C.P Q a w
theorem oP {G:Gh} {E:Env} {S:St} {w:World} {a:Act} {c:Operand} {k:Bool→St→Prop} (hM:ah G pn E S w) (ht:TR E S.t a) (h:ol c S k):∃ b S1,k b S1∧a.eval c=.bool b∧ah G pn E S1 w∧TR E S1.t a:=by
  unfold ol at h
  split at h
  · rename_i d
    obtain ⟨b,S1,h1,h2,h3,h4⟩:=A7 hM ht h
    refine ⟨b,S1,h1,?_,h3,h4⟩
    show a.tmps.getD d undef=_
    rw [Array.getD_eq_getD_getElem?,h2]
    rfl
  · rename_i b
    rcases mL h with ⟨hb,h2⟩ | ⟨hb,h2⟩
    · subst hb; exact ⟨true,S,h2,rfl,hM,ht⟩
    · subst hb; exact ⟨false,S,h2,rfl,hM,ht⟩
  · exact False.elim h
theorem oQ {C:Ctx} (hC:d5 C) (hL:np C) (hD:mh C) {pl:bK}:∀ (c:Code) {S:St} {K:Ex→St→Prop},gN C pl c S K→∀ (r:Option Nat) (G:Gh) (E:Env) (a:Act) (w:World) (Q:Exit→Act→World→Prop),ah G pn E S w→TR E S.t a→FW G K Q→c.wpIn (rd r) 0 C.P Q a w:=by
  intro c
  induction c with
  | skip=>exact fun h r G E a w Q hM ht hQ=>wpIn_skip (hQ .nrm _ E _ _ h hM ht)
  | region id ai draw =>
    intro S K h r G E a w Q hM ht hQ
    cases draw with
    | true=>exact hD pl id ai S K h r G E a w Q hM ht hQ
    | false=>exact wpIn_region_list (qS hC hM ht h (fun S' E' a' w' hk hS htr=>by
      obtain ⟨S2,E2,h2,hS2,ht2⟩:=lU hS htr hk
      exact hQ .nrm _ _ _ _ h2 hS2 ht2))
  | seq x y ihx ihy =>
    intro S K h r G E a w Q hM ht hQ
    refine wpIn_seq (ihx h r G E a w _ hM ht (fun e S' E' a' w' hk hS htr=>?_))
    cases e with
    | nrm=>exact ihy hk r G E' a' w' Q hS htr hQ
    | ex i=>exact hQ (.ex i) _ _ _ _ hk hS htr
    | ret=>exact hQ .ret _ _ _ _ hk hS htr
  | cond c x y ihx ihy =>
    intro S K h r G E a w Q hM ht hQ
    obtain ⟨b,S1,h1,h2,h3,h4⟩:=oP hM ht h
    cases b with
    | true=>exact wpIn_cond_true h2 (ihx h1 r G E a w Q h3 h4 hQ)
    | false=>exact wpIn_cond_false h2 (ihy h1 r G E a w Q h3 h4 hQ)
  | block id c ih =>
    intro S K h r G E a w Q hM ht hQ
    refine wpIn_block (ih h r G E a w _ hM ht (fun e S' E' a' w' hk hS htr=>?_))
    cases e with
    | nrm=>exact hQ .nrm _ _ _ _ hk hS htr
    | ret=>exact hQ .ret _ _ _ _ hk hS htr
    | ex i =>
      show Exit.inBlock id Q (.exit i) a' w'
      unfold Exit.inBlock
      dsimp only at hk
      split at hk
      · rename_i hb
        have:=Nat.eq_of_beq_eq_true hb
        subst this
        simp only [if_pos]
        exact hQ .nrm _ _ _ _ hk hS htr
      · rename_i hb
        have hne:¬ i=id:=fun e=>by subst e; simp at hb
        simp only [if_neg hne]
        exact hQ (.ex i) _ _ _ _ hk hS htr
  | loop c ih=>exact fun h r G E a w Q hM ht hQ=>hL pl c _ _ h r G E a w Q hM ht hQ
  | exit id=>exact fun h r G E a w Q hM ht hQ=>wpIn_exit (hQ (.ex id) _ E _ _ h hM ht)
  | ret=>exact fun h r G E a w Q hM ht hQ=>wpIn_ret (hQ .ret _ E _ _ h hM ht)
  | _=>exact fun h=>False.elim h
theorem A8 {P:Program} {α β:Type} {f:α→Sem β}:∀ (xs:List α) (w:World) (ys:List β),xs.length=ys.length→(∀ (i:Nat) (x:α) (y:β),xs[i]?=some x→ys[i]?=some y→(f x).run P w=.ok y w)→(xs.mapM f).run P w=.ok ys w
  | [],w,ys,hl,_=>by
    have:ys=[]:=List.eq_nil_of_length_eq_zero (by simpa using hl.symm)
    subst this
    rfl
  | x::xs,w,[],hl,_=>by simp at hl
  | x::xs,w,y::ys,hl,h=>by
    have h0:=h 0 x y rfl rfl
    have ih:=A8 xs w ys (by simpa using hl) (fun i a b h1 h2=>h (i + 1) a b (by simpa using h1) (by simpa using h2))
    simp only [List.mapM_cons,Sem.run_bind,h0,Result.andThen_ok,ih,Sem.run_pure]
section
variable {G:Gh} {E:Env} {S:St} {w:World} {P:Program} {a:Act}
theorem qT (hM:ah G pn E S w) (ht:TR E S.t a):∀ {rs:List ResultVar} {k:List AV→Prop},xI P S rs k→∃ as us,k as∧cb E as us∧rs.length=us.length ∧
    ∀ (i:Nat) (r:ResultVar) (u:Value),rs[i]?=some r→us[i]?=some u→(match r with | .tmp t=>(pure (a.tmps.getD t undef):Sem Value) | .cell c t=>(do loadVar t (← asAddr (a.tmps.getD c undef)):Sem Value)).run P w=.ok u w
  | [],k,h=>⟨[],[],h,.nil _,rfl,fun i r u h1=>by simp at h1⟩
  | .tmp t::rs,k,h=>by
    obtain ⟨c,hc,h⟩:=cj.1 h
    obtain ⟨as,us,hk,hv,hl,hr⟩:=qT hM ht h
    have hlt:t<a.tmps.size:=by rw [← ht.len]; exact (List.getElem?_eq_some_iff.1 hc).1
    refine ⟨c::as,a.tmps.getD t undef::us,hk,.cons (ht.val t c _ hc ?_) hv,by simp [hl],fun i r u h1 h2=>?_⟩
    · rw [Array.getD_eq_getD_getElem?,Array.getElem?_eq_getElem hlt]; rfl
    · cases i with
      | zero =>
        simp only [List.getElem?_cons_zero,Option.some.injEq] at h1 h2
        subst h1 h2
        rfl
      | succ i=>exact hr i r u (by simpa using h1) (by simpa using h2)
  | .cell c t::rs,k,h=>by
    obtain ⟨pc,hpc,h⟩:=cj.1 h
    have hlt:c<a.tmps.size:=by rw [← ht.len]; exact (List.getElem?_eq_some_iff.1 hpc).1
    have e0:a.tmps.getD c undef=a.tmps[c]:=by rw [Array.getD_eq_getD_getElem?,Array.getElem?_eq_getElem hlt]; rfl
    have hv0:=ht.val c pc _ hpc (Array.getElem?_eq_getElem hlt)
    obtain ⟨row,j,us',b,off,hk,hu0,hu,hcell⟩:=yz hM hv0 h
    obtain ⟨r0,z,hk',hr0,hrun⟩:=qH (P:=P) hk hu w hcell
    obtain ⟨as,us,hk,hv,hl,hr⟩:=qT hM ht hk'
    refine ⟨r0::as,z::us,hk,.cons hr0 hv,by simp [hl],fun i r u h1 h2=>?_⟩
    cases i with
    | zero =>
      simp at h1 h2
      subst h1 h2
      simp only [Sem.run_bind]
      rw [e0,hu0]
      show (loadVar t ⟨b,off + j,none⟩).run P w=_
      exact hrun
    | succ i=>exact hr i r u (by simpa using h1) (by simpa using h2)
theorem CB {as:List AV} {us:List Value} {k:AV→Prop} (h:AG as k) (hv:cb E as us):∃ r,k r∧VR E r (if h:us.toArray.size=1 then us.toArray[0] else .tuple us.toArray):=by
  unfold AG at h
  split at h
  · rename_i c
    obtain ⟨u,us',rfl,hc,hn⟩:=hv.uncons
    have:=hn.unnil
    subst this
    exact ⟨c,h,by simpa using hc⟩
  · rename_i hne
    refine ⟨_,h,?_⟩
    have hl:=hv.1
    rw [dif_neg (by
      intro h1
      simp at h1
      cases as with
      | nil=>simp at hl; omega
      | cons c cs =>
        cases cs with
        | nil=>exact hne c rfl
        | cons _ _=>simp at hl; omega)]
    exact .tup _ (by simpa using hl) (fun m c u h1 h2=>hv.2 m c u h1 (by simpa using h2))
theorem jJ {fn:Func} (hM:ah G pn E S w) (ht:TR E S.t a) {k:AV→Prop} (h:xI P S fn.results.toList fun rs=>AG rs k):∃ r u,k r∧VR E r u∧(results fn a.tmps).run P w=.ok u w:=by
  obtain ⟨as,us,h,hv,hl,hr⟩:=qT hM ht h
  obtain ⟨r,hk,hvr⟩:=CB h hv
  refine ⟨r,_,hk,hvr,?_⟩
  unfold results
  have hm:=A8 fn.results.toList w us hl hr
  rw [Sem.run_bind,Array.mapM_eq_mapM_toList]
  simp only [map_eq_pure_bind,Sem.run_bind]
  erw [hm]
  rfl
end
theorem wn:∀ {n i:Nat} {c:AV},(zD n)[i]?=some c→c=.bad
  | 0,i,c,h=>by simp [zD] at h
  | n + 1,0,c,h=>by simp [zD] at h; exact h.symm
  | n + 1,i + 1,c,h=>wn (n:=n) (i:=i) (by simpa [zD] using h)
theorem wo:∀ {n:Nat},(zD n).length=n
  | 0=>rfl
  | n + 1=>by simp [zD,wo]
def lW (P : Program) : Prop := ∀ (f : Nat) (fn : Func), P.funcs[f]? = some fn → (fn.name == "runtime.NumGoroutine") = false
theorem qU {C:Ctx} {k:Ctx→Prop}:vO C k↔k C:=by cases C; exact Iff.rfl
theorem wq {p:bK} {k:bK→Prop}:Cj p k↔k p:=by cases p; exact Iff.rfl
theorem yP {C:Ctx} {f:Nat} {args:List AV} {o:List Ob} {K:AV→St→Prop}:ud C f args o K↔vP C f args o K:=qU
theorem uw {C:Ctx} (hC:d5 C) (hL:np C) (hD:mh C) (hN:lW C.P) {f:Nat} {args:List AV} {o:List Ob} {K:AV→St→Prop} (h:ud C f args o K) :
    rI C.P f∧∀ (G:Gh) (E:Env) (w:World) (us:Array Value),ah G pn E (Hi o o.length) w→Ck E→cb E args us.toList→Calls C.P f us w fun e w'=>∃ v r S' E',K r S'∧e=.returned v∧ah G pn E' S' w'∧VR E' r v:=by
  rw [yP] at h
  unfold vP at h
  split at h
  · rename_i fn hf
    split at h
    · rename_i c hb
      rw [wq] at h
      refine ⟨⟨fn,c,hf,hb,hN f fn hf⟩,fun G E w us hM hg hv=>?_⟩
      refine wm.1 (callsIn_of_wp (F:=rd none) (n:=0) hf hb trivial ?_)
      have hl:args.length=us.size:=by simpa using hv.1
      refine oQ hC hL hD c h none G E _ w _ (hM.congr rfl rfl rfl) ⟨?_,fun n c' u h1 h2=>?_,rfl,hg⟩ (fun e S' E' a' w' hk hS htr=>?_)
      · simp [wo,hl]
      · dsimp only at h1 h2
        by_cases hn:n<args.length
        · rw [List.getElem?_append_left hn] at h1
          rw [Array.getElem?_append_left (by omega)] at h2
          exact hv.2 n c' u h1 (by simpa using h2)
        · rw [List.getElem?_append_right (by omega)] at h1
          rw [wn h1]
          exact .bad _ _
      · cases e with
        | ex i=>exact False.elim hk
        | nrm =>
          obtain ⟨r,u,hk',hr,hrun⟩:=jJ hS htr hk
          exact ⟨htr.df,u,hrun,u,r,S',E',hk',rfl,hS,hr⟩
        | ret =>
          obtain ⟨r,u,hk',hr,hrun⟩:=jJ hS htr hk
          exact ⟨htr.df,u,hrun,u,r,S',E',hk',rfl,hS,hr⟩
    · exact False.elim h
  · exact False.elim h
section
variable {G:Gh} {E:Env} {S:St} {w:World}
theorem ah.obj_only (hM:ah G pn E S w):ah G pn E.ob (Hi S.o S.b) w :=
  ⟨hM.hp,hM.os,hM.tape,hM.output,hM.size,hM.keep,hM.F0,hM.Flt,hM.Fnew,fun k b o s n h=>hM.own k b o s n (iS h),fun k k' b o s n o' s' n' h h'=>hM.inj k k' b o s n o' s' n' (iS h) (iS h'),
    fun _=>rfl,fun id=>(hM.obj id).ob,hM.old,hM.bl,hM.szs,fun _ _ h=>(by cases h),fun id=>(hM.ow id).ob⟩
end
theorem rT {C:Ctx} (hC:d5 C) (hL:np C) (hD:mh C) (hN:lW C.P) {f:Nat} {args:List AV} {o:List Ob} {K:AV→List Ob→Prop} (h:s3 C f args o K):qi C.P f args o K:=by
  obtain ⟨h1,h2⟩:=uw hC hL hD hN h
  refine ⟨h1,fun E w us hM hg hv=>(h2 _ E w us hM hg hv).mono ?_⟩
  rintro e w' ⟨v,r,S',E',hk,rfl,hS,hr⟩
  replace hk:=ac hk
  obtain ⟨hb,hk⟩:=hk
  simp only [Bool.and_eq_true] at hb
  have:=hS.obj_only
  rw [Nat.eq_of_beq_eq_true hb.2] at this
  exact ⟨v,r,S'.o,E'.ob,hk,rfl,this,lc 4 hb.1 hr⟩
def wu (C:Ctx):Prop:=∀ f args K,rE C f args K→∃ r,K r∧rE C f args (fun x=>x=r)
theorem oR {C:Ctx} (hC:d5 C) (hL:np C) (hD:mh C) (hN:lW C.P) (hA:wu C) {f:Nat} {args:List AV} {K:AV→Prop} (h:rE C f args K):d_ C.P f args K:=by
  obtain ⟨r,hk,h⟩:=hA f args K h
  obtain ⟨h1,h2⟩:=uw hC hL hD hN h
  refine ⟨r,⟨h1,fun F w us hF hg hv=>?_⟩,hk⟩
  have hM:ah { w0:=w,M:=fun _=>False,F:=F,mu:=fun _=>none } pn ⟨F,fun _=>none,w.heap⟩ (Hi [] 0) w :=
    ⟨rfl,rfl,rfl,rfl,Nat.le_refl _,fun _ _ _=>rfl,fun _ h=>h,hF,fun _ h _=>.inl h,fun _ _ _ _ _ h=>(by cases h),fun _ _ _ _ _ _ _ _ _ h _=>(by cases h),fun _=>rfl,fun _=>trivial,fun _ h=>(by cases h),Nat.le_refl _,fun _ _=>rfl,fun _ _ h=>(by cases h),fun _ _=>rfl⟩
  refine (h2 _ _ w us hM hg hv).mono ?_
  rintro e w' ⟨v,c,S',E',hk,rfl,hS,hr⟩
  unfold zy at hk
  split at hk
  · rename_i b hb
    rw [b9] at hk
    subst hk
    have hd:=gq hS _ hb hr (ids:=dq S'.o 6 c) (fun i hi=>hi)
    refine ⟨v,FD E' (dq S'.o 6 c),rfl,?_,⟨hS.os,hS.tape,hS.output,hS.size,fun b' hb'=>hS.keep b' hb' (fun h=>h)⟩,fun b' h=>.inl (hS.F0 b' h),FM hS,fun b' h hlt=>?_⟩
    · have e:(⟨FD E' (dq S'.o 6 c),fun _=>none,w'.heap⟩:Env)=E'.fd (dq S'.o 6 c):=by
        unfold Env.fd
        rw [hS.hp]
      rw [e]
      exact hd
    · rcases h with h | ⟨id,_,o',s,n,h⟩
      · rcases hS.Fnew b' h hlt with h3 | h3
        · exact h3
        · exact h3.elim
      · rcases (hS.own _ _ _ _ _ h).2.2 with h3 | h3
        · exact h3.elim
        · have h3:w.heap.size≤b':=h3
          omega
  · exact False.elim hk
theorem least {p:Nat→Prop}:∀ (n:Nat),p n→∃ m,p m∧∀ k,p k→m≤k:=by
  intro n
  induction n using Nat.strongRecOn with
  | _ n ih =>
    intro h
    by_cases hl:∃ k,k<n∧p k
    · obtain ⟨k,hk,hp⟩:=hl
      exact ih k hk hp
    · exact ⟨n,h,fun k hk=>Nat.le_of_not_lt fun hlt=>hl ⟨k,hlt,hk⟩⟩
open Classical in
noncomputable def rU (p:Nat→Prop):Nat:=if h:∃ m,p m∧∀ k,p k→m≤k then Classical.choose h else 0
theorem A9 {p:Nat→Prop} {n:Nat} (h:p n):p (rU p)∧rU p≤n:=by
  have hl:=least n h
  unfold rU
  rw [dif_pos hl]
  exact ⟨(Classical.choose_spec hl).1,(Classical.choose_spec hl).2 n h⟩
def LP (cfg:pZ) (G:Gh) (pl:bK) (c:Code) (K:Ex→St→Prop) (a:Act) (w:World) (n:Nat):Prop:=∃ S E,(gp cfg n).loop pl c S K∧ah G pn E S w∧TR E S.t a
theorem nq (cfg:pZ):∀ n,(gp cfg n).P=cfg.P
  | 0=>rfl
  | _ + 1=>rfl
theorem Hv {cfg:pZ} {N:Nat} (h:∀ m,m<N→d5 (gp cfg m)∧np (gp cfg m)∧mh (gp cfg m)):np (gp cfg N):=by
  intro pl c S K hl r G E a w Q hM ht hQ
  rw [nq]
  refine wpIn_loop (fun a w=>∃ n,n≤N∧LP cfg G pl c K a w n) (fun a w=>rU fun n=>n≤N∧LP cfg G pl c K a w n) ⟨N,Nat.le_refl _,S,E,hl,hM,ht⟩ (fun a1 w1 hI=>?_)
  obtain ⟨n0,hn0⟩:=hI
  have hsp:=(A9 (p:=fun n=>n≤N∧LP cfg G pl c K a1 w1 n) hn0).1
  generalize hmu:(rU fun n=>n≤N∧LP cfg G pl c K a1 w1 n)=mu
  rw [hmu] at hsp
  obtain ⟨hle,S1,E1,hl1,hM1,ht1⟩:=hsp
  cases mu with
  | zero=>exact False.elim hl1
  | succ m =>
    obtain ⟨h1,h2,h3⟩:=h m hle
    have hl2:gN (gp cfg m) pl c S1 fun e S'=>match e with
      | .nrm=>(gp cfg m).loop pl c S' K
      | .ex i=>K (.ex i) S'
      | .ret=>K .ret S':=(qU (C:=gp cfg m) (k:=fun C=>gN C pl c S1 fun e S'=>match e with
      | .nrm=>C.loop pl c S' K
      | .ex i=>K (.ex i) S'
      | .ret=>K .ret S')).1 hl1
    have:=oQ h1 h2 h3 c hl2 r G E1 a1 w1 (Exit.then (fun a' w'=>(∃ n,n≤N∧LP cfg G pl c K a' w' n)∧(rU fun n=>n≤N∧LP cfg G pl c K a' w' n)<m + 1) Q) hM1 ht1 (fun e S' E' a' w' hk hS htr=>by
      cases e with
      | nrm =>
        have hp:m≤N∧LP cfg G pl c K a' w' m:=⟨Nat.le_of_succ_le hle,S',E',hk,hS,htr⟩
        exact ⟨⟨m,hp⟩,Nat.lt_succ_of_le (A9 (p:=fun n=>n≤N∧LP cfg G pl c K a' w' n) hp).2⟩
      | ex i=>exact hQ (.ex i) _ _ _ _ hk hS htr
      | ret=>exact hQ .ret _ _ _ _ hk hS htr)
    rw [nq] at this
    exact this
theorem Hw {cfg:pZ} (hQ:∀ f args r,cfg.xq f args=some r→Cq cfg.P f args r) (hX:∀ f args o K,cfg.xc f args o K→qi cfg.P f args o K) (hN:lW cfg.P) (hA:∀ n,wu (gp cfg n)) (hD:∀ n,d5 (gp cfg n)→mh (gp cfg n)):∀ n,d5 (gp cfg n)∧np (gp cfg n)∧mh (gp cfg n):=by
  intro n
  induction n using Nat.strongRecOn with
  | _ n ih =>
    have hC:d5 (gp cfg n):=by
      cases n with
      | zero=>exact ⟨fun f args K h=>False.elim h,fun f args o K h=>False.elim h⟩
      | succ n =>
        obtain ⟨h1,h2,h3⟩:=ih n (Nat.lt_succ_self n)
        have hN':lW (gp cfg n).P:=by rw [nq]; exact hN
        refine ⟨fun f args K h=>?_,fun f args o K h=>?_⟩
        · rw [nq]
          have h:(match cfg.xq f args with | some r=>K r | none=>rE (gp cfg n) f args K):=h
          split at h
          · rename_i r hr
            exact ⟨r,hQ _ _ _ hr,h⟩
          · have:=oR h1 h2 h3 hN' (hA n) h
            rw [nq] at this
            exact this
        · rw [nq]
          have h:(match cfg.xs f with | true=>cfg.xc f args o K | false=>s3 (gp cfg n) f args o K):=h
          split at h
          · exact hX _ _ _ _ h
          · have:=rT h1 h2 h3 hN' h
            rw [nq] at this
            exact this
    exact ⟨hC,Hv ih,hD n hC⟩
def aw {α:Type} (X:(α→Prop)→Prop):Prop:=∀ K,X K→∃ r,K r∧∀ K',K' r→X K'
def ar {α β:Type} (X:(α→β→Prop)→Prop):Prop:=∀ K,X K→∃ a b,K a b∧∀ K',K' a b→X K'
def cr {α β γ:Type} (X:(α→β→γ→Prop)→Prop):Prop:=∀ K,X K→∃ a b c,K a b c∧∀ K',K' a b c→X K'
theorem aw.failN {α:Type} {n:Nat}:aw (fun _:α→Prop=>af n):=fun _ h=>False.elim h
theorem ar.failN {α β:Type} {n:Nat}:ar (fun _:α→β→Prop=>af n):=fun _ h=>False.elim h
theorem cr.failN {α β γ:Type} {n:Nat}:cr (fun _:α→β→γ→Prop=>af n):=fun _ h=>False.elim h
theorem aw.ret {α:Type} (a:α):aw (fun K=>K a):=fun _ h=>⟨a,h,fun _ h=>h⟩
theorem ar.ret {α β:Type} (a:α) (b:β):ar (fun K=>K a b):=fun _ h=>⟨a,b,h,fun _ h=>h⟩
theorem cr.ret {α β γ:Type} (a:α) (b:β) (c:γ):cr (fun K=>K a b c):=fun _ h=>⟨a,b,c,h,fun _ h=>h⟩
theorem aw.chk {α:Type} {b:Bool} {X:(α→Prop)→Prop} (h:aw X):aw (fun K=>bG b (X K)):=fun K hk=>by
  obtain ⟨hb,hx⟩:=ac hk
  obtain ⟨r,h1,h2⟩:=h K hx
  exact ⟨r,h1,fun K' hk'=>al hb (h2 K' hk')⟩
theorem ar.chk {α β:Type} {b:Bool} {X:(α→β→Prop)→Prop} (h:ar X):ar (fun K=>bG b (X K)):=fun K hk=>by
  obtain ⟨hb,hx⟩:=ac hk
  obtain ⟨r,s,h1,h2⟩:=h K hx
  exact ⟨r,s,h1,fun K' hk'=>al hb (h2 K' hk')⟩
theorem cr.chk {α β γ:Type} {b:Bool} {X:(α→β→γ→Prop)→Prop} (h:cr X):cr (fun K=>bG b (X K)):=fun K hk=>by
  obtain ⟨hb,hx⟩:=ac hk
  obtain ⟨r,s,t,h1,h2⟩:=h K hx
  exact ⟨r,s,t,h1,fun K' hk'=>al hb (h2 K' hk')⟩
theorem aw.fork {α:Type} {b:Bool} {X Y:(α→Prop)→Prop} (h:aw X) (k:aw Y):aw (fun K=>AB b (X K) (Y K)):=by
  cases b
  · exact k
  · exact h
theorem ar.fork {α β:Type} {b:Bool} {X Y:(α→β→Prop)→Prop} (h:ar X) (k:ar Y):ar (fun K=>AB b (X K) (Y K)):=by
  cases b
  · exact k
  · exact h
theorem aw.gsel {α:Type} {b:Option Bool} {w:Bool} {X Y:(α→Prop)→Prop} (h:aw X) (k:aw Y):aw (fun K=>gsel b w (X K) (Y K)):=by
  unfold A.gsel
  split
  · exact h
  · exact h
  · exact k
theorem aw.bind {α β:Type} {X:(α→Prop)→Prop} {Y:α→(β→Prop)→Prop} (h:aw X) (k:∀ a,aw (Y a)):aw (fun K=>X fun a=>Y a K):=fun K hk=>by
  obtain ⟨r,h1,h2⟩:=h _ hk
  obtain ⟨s,h3,h4⟩:=k r K h1
  exact ⟨s,h3,fun K' hk'=>h2 _ (h4 K' hk')⟩
theorem aw.bind2 {α β γ:Type} {X:(α→Prop)→Prop} {Y:α→(β→γ→Prop)→Prop} (h:aw X) (k:∀ a,ar (Y a)):ar (fun K=>X fun a=>Y a K):=fun K hk=>by
  obtain ⟨r,h1,h2⟩:=h _ hk
  obtain ⟨s,t,h3,h4⟩:=k r K h1
  exact ⟨s,t,h3,fun K' hk'=>h2 _ (h4 K' hk')⟩
theorem ar.bind {α β γ:Type} {X:(α→β→Prop)→Prop} {Y:α→β→(γ→Prop)→Prop} (h:ar X) (k:∀ a b,aw (Y a b)):aw (fun K=>X fun a b=>Y a b K):=fun K hk=>by
  obtain ⟨r,s,h1,h2⟩:=h _ hk
  obtain ⟨t,h3,h4⟩:=k r s K h1
  exact ⟨t,h3,fun K' hk'=>h2 _ (h4 K' hk')⟩
theorem ar.bind2 {α β γ δ:Type} {X:(α→β→Prop)→Prop} {Y:α→β→(γ→δ→Prop)→Prop} (h:ar X) (k:∀ a b,ar (Y a b)):ar (fun K=>X fun a b=>Y a b K):=fun K hk=>by
  obtain ⟨r,s,h1,h2⟩:=h _ hk
  obtain ⟨t,u,h3,h4⟩:=k r s K h1
  exact ⟨t,u,h3,fun K' hk'=>h2 _ (h4 K' hk')⟩
theorem cr.bind {α β γ δ:Type} {X:(α→β→γ→Prop)→Prop} {Y:α→β→γ→(δ→Prop)→Prop} (h:cr X) (k:∀ a b c,aw (Y a b c)):aw (fun K=>X fun a b c=>Y a b c K):=fun K hk=>by
  obtain ⟨r,s,q,h1,h2⟩:=h _ hk
  obtain ⟨t,h3,h4⟩:=k r s q K h1
  exact ⟨t,h3,fun K' hk'=>h2 _ (h4 K' hk')⟩
theorem dF {α:Type} {n:Nat}:aw (fun _:α→Prop=>af n):=aw.failN
theorem gA {α β:Type} {n:Nat}:ar (fun _:α→β→Prop=>af n):=ar.failN
theorem gB {α β γ:Type} {n:Nat}:cr (fun _:α→β→γ→Prop=>af n):=cr.failN
theorem dR {α:Type} (a:α):aw (fun K=>K a):=aw.ret a
theorem gC {α β:Type} (a:α) (b:β):ar (fun K=>K a b):=ar.ret a b
theorem gD {α β γ:Type} (a:α) (b:β) (c:γ):cr (fun K=>K a b c):=cr.ret a b c
theorem dC {α:Type} {b:Bool} {X:(α→Prop)→Prop} (h:aw X):aw (fun K=>bG b (X K)):=aw.chk h
theorem gE {α β:Type} {b:Bool} {X:(α→β→Prop)→Prop} (h:ar X):ar (fun K=>bG b (X K)):=ar.chk h
theorem gF {α β γ:Type} {b:Bool} {X:(α→β→γ→Prop)→Prop} (h:cr X):cr (fun K=>bG b (X K)):=cr.chk h
theorem db {α β:Type} {X:(α→Prop)→Prop} {Y:α→(β→Prop)→Prop} (h:aw X) (k:∀ a,aw (Y a)):aw (fun K=>X fun a=>Y a K):=aw.bind h k
theorem bJ {α β γ:Type} {X:(α→Prop)→Prop} {Y:α→(β→γ→Prop)→Prop} (h:aw X) (k:∀ a,ar (Y a)):ar (fun K=>X fun a=>Y a K):=aw.bind2 h k
theorem dd {α β γ:Type} {X:(α→β→Prop)→Prop} {Y:α→β→(γ→Prop)→Prop} (h:ar X) (k:∀ a b,aw (Y a b)):aw (fun K=>X fun a b=>Y a b K):=ar.bind h k
theorem vf {α β γ δ:Type} {X:(α→β→Prop)→Prop} {Y:α→β→(γ→δ→Prop)→Prop} (h:ar X) (k:∀ a b,ar (Y a b)):ar (fun K=>X fun a b=>Y a b K):=ar.bind2 h k
theorem dt {α β γ δ:Type} {X:(α→β→γ→Prop)→Prop} {Y:α→β→γ→(δ→Prop)→Prop} (h:cr X) (k:∀ a b c,aw (Y a b c)):aw (fun K=>X fun a b c=>Y a b c K):=cr.bind h k
theorem aw.of_iff {α:Type} {X:(α→Prop)→Prop} {a:α} (h:∀ K:α→Prop,X K↔K a):aw X:=fun K hk=>⟨a,(h K).1 hk,fun K' hk'=>(h K').2 hk'⟩
theorem eV {a:AV}:aw (jh a):=.of_iff fun _=>b9
theorem bF {xs:List AV}:aw (iJ xs):=.of_iff fun _=>dD
theorem oS {xs:List AV}:aw (vd xs):=.of_iff fun _=>ik
theorem nr {xs:List (Nat×List AV)}:aw (om xs):=.of_iff fun _=>iQ
theorem ak {xs:List Ob}:aw (bi xs):=.of_iff fun _=>ax
theorem gR {xs:List AV} {n:Nat}:aw (qD xs n):=fun K h=>by
  obtain ⟨a,h1,h2⟩:=cj.1 h
  exact ⟨a,h2,fun K' h3=>cj.2 ⟨a,h1,h3⟩⟩
theorem jY {xs:List AV} {n:Nat} {v:AV}:aw (sT xs n v):=.of_iff fun _=>d3
theorem bu {dst:Option Tmp} {a:AV} {S:St}:aw (bB dst a S):=.of_iff fun _=>aB
theorem bR {k:Key} {xs:List AV}:aw (mK k xs):=.of_iff fun _=>im
theorem bI {k:Key} {xs:List (Nat×List AV)}:aw (m6 k xs):=.of_iff fun _=>io
theorem ei {k:Key} {xs:List Ob}:aw (iK k xs):=.of_iff fun _=>dV
theorem ck {S:St} {x:Operand}:aw (cR S x):=by
  unfold cR
  repeat' first
    |exact dF|exact gR|exact eV|exact dR _|refine aw.bind eV (fun _=>?_)|split
theorem bc {S:St}:∀ {xs:List Operand},aw (dp S xs)
  | []=>aw.ret _
  | x::xs=>by
    show aw (fun K=>cR S x fun a=>dp S xs fun as=>K (a::as))
    exact aw.bind ck (fun a=>aw.bind bc (fun as=>aw.ret (a::as)))
theorem CC {d:Nat} {S:St}:ar (vB d S):=by
  unfold vB
  refine aw.bind2 gR (fun a=>?_)
  split
  · exact ar.fork (aw.bind2 jY (fun _=>ar.ret _ _)) (aw.bind2 jY (fun _=>ar.ret _ _))
  · exact ar.failN
theorem CE {c:Operand} {S:St}:ar (ol c S):=by
  unfold ol
  split
  · exact CC
  · exact ar.fork (ar.ret _ _) (ar.ret _ _)
  · exact ar.failN
structure gu (C:Ctx):Prop where
  pcall:∀ f args,aw (C.pcall f args)
  scall:∀ f args o,ar (C.scall f args o)
  loop:∀ pl c S,ar (C.loop pl c S)
theorem b_ {a:AV}:aw (m7 a):=by
  unfold m7
  repeat' first
    |exact dF|exact gA|exact gB|exact dR _|exact gC _ _|exact gD _ _ _|refine dC ?_|refine gE ?_|refine gF ?_|split
theorem rV {S:St} {key:Key} {i:Nat}:aw (xF S key i):=by
  unfold xF
  repeat' first
    |exact dF|exact gA|exact gB|exact dR _|exact gC _ _|exact gD _ _ _|refine dC ?_|refine gE ?_|refine gF ?_|split
theorem vg {S:St} {a:AV}:ar (Fy S a):=by
  unfold Fy
  repeat' first
    |exact dF|exact gA|exact gB|exact dR _|exact gC _ _|exact gD _ _ _|refine dC ?_|refine gE ?_|refine gF ?_|exact rV|refine db rV fun _=>?_
    |refine bJ rV fun _=>?_|split
theorem de {P:Program} {t:TypeId} {row:List AV} {j:Nat}:aw (iL P t row j):=by
  unfold iL
  repeat' first
    |exact dF|exact gA|exact gB|exact dR _|exact gC _ _|exact gD _ _ _|refine dC ?_|refine gE ?_|refine gF ?_|exact bF|refine db bF fun _=>?_
    |refine bJ bF fun _=>?_|split
theorem qV {S:St} {a:AV} {cs:List AV}:aw (ma S a cs):=by
  unfold ma
  repeat' first
    |exact dF|exact gA|exact gB|exact dR _|exact gC _ _|exact gD _ _ _|refine dC ?_|refine gE ?_|refine gF ?_|exact bF|refine db bF fun _=>?_
    |refine bJ bF fun _=>?_|exact nr|refine db nr fun _=>?_|refine bJ nr fun _=>?_|exact ak|refine db ak fun _=>?_
    |refine bJ ak fun _=>?_|split
theorem td {op:BinOp} {x y:Value}:aw (vE op x y):=by
  unfold vE
  repeat' first
    |exact dF|exact gA|exact gB|exact dR _|exact gC _ _|exact gD _ _ _|refine dC ?_|refine gE ?_|refine gF ?_|split
theorem te {P:Program} {op:BinOp} {t:TypeId} {a b:Bool}:aw (AC P op t a b):=by
  unfold AC
  repeat' first
    |exact dF|exact gA|exact gB|exact dR _|exact gC _ _|exact gD _ _ _|refine dC ?_|refine gE ?_|refine gF ?_|split
theorem tf {P:Program} {op:BinOp} {t:TypeId} {a b:Value}:aw (yo P op t a b):=by
  unfold yo
  repeat' first
    |exact dF|exact gA|exact gB|exact dR _|exact gC _ _|exact gD _ _ _|refine dC ?_|refine gE ?_|refine gF ?_|exact te|refine db te fun _=>?_
    |refine bJ te fun _=>?_|exact td|refine db td fun _=>?_|refine bJ td fun _=>?_|split
theorem wv {op:BinOp} {x y:AV}:aw (FC op x y):=by
  unfold FC
  repeat' first
    |exact dF|exact gA|exact gB|exact dR _|exact gC _ _|exact gD _ _ _|refine dC ?_|refine gE ?_|refine gF ?_|split
theorem rW {P:Program} {op:BinOp} {t:TypeId} {x y:AV}:aw (Cd P op t x y):=by
  unfold Cd
  repeat' first
    |exact dF|exact gA|exact gB|exact dR _|exact gC _ _|exact gD _ _ _|refine dC ?_|refine gE ?_|refine gF ?_|exact tf|refine db tf fun _=>?_
    |refine bJ tf fun _=>?_|exact wv|refine db wv fun _=>?_|refine bJ wv fun _=>?_|split
theorem zW {op:UnOp} {x:AV}:aw (JM op x):=by
  unfold JM
  repeat' first
    |exact dF|exact gA|exact gB|exact dR _|exact gC _ _|exact gD _ _ _|refine dC ?_|refine gE ?_|refine gF ?_|split
theorem aP {P:Program} {e:TypeId}:aw (cE P e):=by
  unfold cE
  repeat' first
    |exact dF|exact gA|exact gB|exact dR _|exact gC _ _|exact gD _ _ _|refine dC ?_|refine gE ?_|refine gF ?_|exact oS|refine db oS fun _=>?_
    |refine bJ oS fun _=>?_|split
theorem gv {d:Nat} {S:St}:aw (yp d S):=by
  unfold yp
  repeat' first
    |exact dF|exact gA|exact gB|exact dR _|exact gC _ _|exact gD _ _ _|refine dC ?_|refine gE ?_|refine gF ?_|exact bR|refine db bR fun _=>?_
    |refine bJ bR fun _=>?_|exact bI|refine db bI fun _=>?_|refine bJ bI fun _=>?_|split
theorem eW:∀ (ds:List Nat) (S:St),aw (m8 ds S)
  | [],S=>by
    show aw (fun K=>m8 [] S K)
    unfold m8
    repeat' first
      | exact aw.failN
      | exact ar.failN
      | exact cr.failN
      | exact aw.ret _
      | exact ar.ret _ _
      | exact cr.ret _ _ _
      | refine aw.chk ?_
      | refine ar.chk ?_
      | refine cr.chk ?_
      | exact eW _ _
      | refine db (eW _ _) fun _=>?_
      | refine bJ (eW _ _) fun _=>?_
      | exact gv
      | refine db gv fun _=>?_
      | refine bJ gv fun _=>?_
      | split
  | d::ds,S=>by
    show aw (fun K=>m8 (d::ds) S K)
    unfold m8
    repeat' first
      | exact aw.failN
      | exact ar.failN
      | exact cr.failN
      | exact aw.ret _
      | exact ar.ret _ _
      | exact cr.ret _ _ _
      | refine aw.chk ?_
      | refine ar.chk ?_
      | refine cr.chk ?_
      | exact eW _ _
      | refine db (eW _ _) fun _=>?_
      | refine bJ (eW _ _) fun _=>?_
      | exact gv
      | refine db gv fun _=>?_
      | refine bJ gv fun _=>?_
      | split
theorem h_ {j b:Nat} {o:List Ob} {ob:Ob}:aw (oq j o b ob):=by
  unfold oq
  repeat' first
    |exact dF|refine dC ?_|exact ak|split
theorem ww {pl:bK} {dst:Option Tmp} {cs:List AV} {S:St}:aw (AD pl dst cs S):=by
  unfold AD
  repeat' first
    |exact dF|exact gA|exact gB|exact dR _|exact gC _ _|exact gD _ _ _|refine dC ?_|refine gE ?_|refine gF ?_|exact ak|refine db ak fun _=>?_
    |refine bJ ak fun _=>?_|exact jY|refine db jY fun _=>?_|refine bJ jY fun _=>?_|exact h_|refine db h_ fun _=>?_|refine bJ h_ fun _=>?_|exact gv|refine db gv fun _=>?_
    |refine bJ gv fun _=>?_|exact bR|refine db bR fun _=>?_|refine bJ bR fun _=>?_|split
theorem dh:∀ (ps:List (Nat×AV)) (place:Nat→Option (Nat×Nat)) (cells:List AV),aw (nN place cells ps)
  | [],p,c=>by
    show aw (fun K=>nN p c [] K)
    unfold nN
    repeat' first
      | exact aw.failN
      | exact ar.failN
      | exact cr.failN
      | exact aw.ret _
      | exact ar.ret _ _
      | exact cr.ret _ _ _
      | refine aw.chk ?_
      | refine ar.chk ?_
      | refine cr.chk ?_
      | exact dh _ _ _
      | refine db (dh _ _ _) fun _=>?_
      | refine bJ (dh _ _ _) fun _=>?_
      | exact bF
      | refine db bF fun _=>?_
      | refine bJ bF fun _=>?_
      | exact b_
      | refine db b_ fun _=>?_
      | refine bJ b_ fun _=>?_
      | split
  | (i,x)::rest,p,c=>by
    show aw (fun K=>nN p c ((i,x)::rest) K)
    unfold nN
    repeat' first
      | exact aw.failN
      | exact ar.failN
      | exact cr.failN
      | exact aw.ret _
      | exact ar.ret _ _
      | exact cr.ret _ _ _
      | refine aw.chk ?_
      | refine ar.chk ?_
      | refine cr.chk ?_
      | exact dh _ _ _
      | refine db (dh _ _ _) fun _=>?_
      | refine bJ (dh _ _ _) fun _=>?_
      | exact bF
      | refine db bF fun _=>?_
      | refine bJ bF fun _=>?_
      | exact b_
      | refine db b_ fun _=>?_
      | refine bJ b_ fun _=>?_
      | split
theorem qW {P:Program} {t:TypeId} {parts:List (Nat×AV)}:aw (vH P t parts):=by
  unfold vH
  repeat' first
    |exact dF|exact gA|exact gB|exact dR _|exact gC _ _|exact gD _ _ _|refine dC ?_|refine gE ?_|refine gF ?_|exact aP|refine db aP fun _=>?_
    |refine bJ aP fun _=>?_|exact dh _ _ _|refine db (dh _ _ _) fun _=>?_|refine bJ (dh _ _ _) fun _=>?_|split
theorem ca:∀ (xs:List (List AV)),aw (fw xs)
  | []=>by
    show aw (fun K=>fw [] K)
    unfold fw
    repeat' first
      | exact aw.failN
      | exact ar.failN
      | exact cr.failN
      | exact aw.ret _
      | exact ar.ret _ _
      | exact cr.ret _ _ _
      | refine aw.chk ?_
      | refine ar.chk ?_
      | refine cr.chk ?_
      | exact ca _
      | refine db (ca _) fun _=>?_
      | refine bJ (ca _) fun _=>?_
      | exact bF
      | refine db bF fun _=>?_
      | refine bJ bF fun _=>?_
      | split
  | x::xs=>by
    show aw (fun K=>fw (x::xs) K)
    unfold fw
    repeat' first
      | exact aw.failN
      | exact ar.failN
      | exact cr.failN
      | exact aw.ret _
      | exact ar.ret _ _
      | exact cr.ret _ _ _
      | refine aw.chk ?_
      | refine ar.chk ?_
      | refine cr.chk ?_
      | exact ca _
      | refine db (ca _) fun _=>?_
      | refine bJ (ca _) fun _=>?_
      | exact bF
      | refine db bF fun _=>?_
      | refine bJ bF fun _=>?_
      | split
theorem ki {P:Program} {pl:bK} {dst:Option Tmp} {t:TypeId} {len:Nat} {parts:List (Nat×AV)} {S:St}:aw (jQ P pl dst t len parts S):=by
  unfold jQ
  repeat' first
    |exact dF|exact gA|exact gB|exact dR _|exact gC _ _|exact gD _ _ _|refine dC ?_|refine gE ?_|refine gF ?_|exact bu|refine db bu fun _=>?_
    |refine bJ bu fun _=>?_|exact aP|refine db aP fun _=>?_|refine bJ aP fun _=>?_|exact dh _ _ _|refine db (dh _ _ _) fun _=>?_
    |refine bJ (dh _ _ _) fun _=>?_|exact ca _|refine db (ca _) fun _=>?_|refine bJ (ca _) fun _=>?_|exact ak
    |refine db ak fun _=>?_|refine bJ ak fun _=>?_|split
theorem nt {P:Program} {pl:bK} {dst:Option Tmp} {t:TypeId} {len:Nat} {parts:List (Nat×AV)}:aw (ot P pl dst t len parts):=by
  unfold ot
  repeat' first
    |exact dF|exact gA|exact gB|exact dR _|exact gC _ _|exact gD _ _ _|refine dC ?_|refine gE ?_|refine gF ?_|exact aP|refine db aP fun _=>?_
    |refine bJ aP fun _=>?_|exact dh _ _ _|refine db (dh _ _ _) fun _=>?_|refine bJ (dh _ _ _) fun _=>?_|exact ca _
    |refine db (ca _) fun _=>?_|refine bJ (ca _) fun _=>?_|split
theorem wx {P:Program} {t:TypeId} {S:St} {x:AV}:aw (FE P t S x):=by
  unfold FE
  repeat' first
    |exact dF|exact gA|exact gB|exact dR _|exact gC _ _|exact gD _ _ _|refine dC ?_|refine gE ?_|refine gF ?_|split
theorem dz {size:Nat} {S:St} {x:AV}:ar (jR size S x):=by
  unfold jR
  repeat' first
    |exact dF|exact gA|exact gB|exact dR _|exact gC _ _|exact gD _ _ _|refine dC ?_|refine gE ?_|refine gF ?_|refine bJ rV fun _=>?_|split
theorem tg {S:St} {id:Nat} {ob:Ob}:ar (qb S id ob):=by
  unfold qb
  repeat' first
    |exact dF|exact gA|exact gB|exact dR _|exact gC _ _|exact gD _ _ _|refine dC ?_|refine gE ?_|refine gF ?_|exact bR|refine db bR fun _=>?_
    |refine bJ bR fun _=>?_|exact bI|refine db bI fun _=>?_|refine bJ bI fun _=>?_|exact ei|refine db ei fun _=>?_
    |refine bJ ei fun _=>?_|exact ak|refine db ak fun _=>?_|refine bJ ak fun _=>?_|split
theorem oU {P:Program} {ts:List TypeId} {base x:AV} {S:St}:ar (jF P ts base x S):=by
  unfold jF
  repeat' first
    |exact dF|exact gA|exact gB|exact dR _|exact gC _ _|exact gD _ _ _|refine dC ?_|refine gE ?_|refine gF ?_|exact dz|refine dd dz fun _ _=>?_
    |refine vf dz fun _ _=>?_|exact ak|refine db ak fun _=>?_|refine bJ ak fun _=>?_|exact tg|refine dd tg fun _ _=>?_
    |refine vf tg fun _ _=>?_|split
theorem zX {P:Program} {ts:List TypeId} {base x:AV}:aw (kW P ts base x):=by
  unfold kW
  repeat' first
    |exact dF|exact gA|exact gB|exact dR _|exact gC _ _|exact gD _ _ _|refine dC ?_|refine gE ?_|refine gF ?_|exact dz|refine dd dz fun _ _=>?_
    |refine vf dz fun _ _=>?_|split
theorem nu {P:Program} {ts:List TypeId} {base:AV} {n:Int} {S:St}:ar (kX P ts base n S):=by
  unfold kX
  repeat' first
    |exact dF|exact gA|exact gB|exact dR _|exact gC _ _|exact gD _ _ _|refine dC ?_|refine gE ?_|refine gF ?_|exact aP|refine db aP fun _=>?_
    |refine bJ aP fun _=>?_|exact ak|refine db ak fun _=>?_|refine bJ ak fun _=>?_|split
theorem wy {P:Program} {ts:List TypeId} {x:AV}:aw (FF P ts x):=by
  unfold FF
  repeat' first
    |exact dF|exact gA|exact gB|exact dR _|exact gC _ _|exact gD _ _ _|refine dC ?_|refine gE ?_|refine gF ?_|split
theorem ti {P:Program} {ts:List TypeId} {x y:AV} {M:St}:ar (t9 P ts x y M):=by
  unfold t9
  repeat' first
    |exact dF|exact gA|exact gB|exact dR _|exact gC _ _|exact gD _ _ _|refine dC ?_|refine gE ?_|refine gF ?_|exact dz|refine dd dz fun _ _=>?_
    |refine vf dz fun _ _=>?_|exact ak|refine db ak fun _=>?_|refine bJ ak fun _=>?_|split
theorem CF {P:Program} {ts:List TypeId} {x:AV} {M:St}:aw (ou P ts x M):=by
  unfold ou
  repeat' first
    |exact dF|exact gA|exact gB|exact dR _|exact gC _ _|exact gD _ _ _|refine dC ?_|refine gE ?_|refine gF ?_|refine db aP fun _=>?_|refine db ak fun _=>?_|split
theorem bd {a:AV}:aw (intOf a):=by
  unfold intOf
  repeat' first
    |exact dF|exact gA|exact gB|exact dR _|exact gC _ _|exact gD _ _ _|refine dC ?_|refine gE ?_|refine gF ?_|split
theorem eG {P:Program} {t:TypeId} {l c:AV} {S:St}:ar (bQ P t l c S):=by
  unfold bQ
  repeat' first
    |exact dF|exact gA|exact gB|exact dR _|exact gC _ _|exact gD _ _ _|refine dC ?_|refine gE ?_|refine gF ?_|exact bd|refine db bd fun _=>?_
    |refine bJ bd fun _=>?_|exact aP|refine db aP fun _=>?_|refine bJ aP fun _=>?_|exact ak|refine db ak fun _=>?_
    |refine bJ ak fun _=>?_|split
theorem Ba {len cap:Nat} {lo hi mx:Option Int}:cr (sU len cap lo hi mx):=by
  unfold sU
  repeat' first
    |exact dF|exact gA|exact gB|exact dR _|exact gC _ _|exact gD _ _ _|refine dC ?_|refine gE ?_|refine gF ?_|split
theorem qX {P:Program} {t:TypeId} {x:AV} {lo hi mx:Option Int} {S:St}:aw (ji P t x lo hi mx S):=by
  unfold ji
  repeat' first
    |exact dF|exact gA|exact gB|exact dR _|exact gC _ _|exact gD _ _ _|refine dC ?_|refine gE ?_|refine gF ?_|exact Ba|refine dt Ba fun _ _ _=>?_
    |split
theorem lh {P:Program} {t:TypeId} {x ix:AV} {S:St}:aw (hZ P t x ix S):=by
  unfold hZ
  repeat' first
    |exact dF|exact gA|exact gB|exact dR _|exact gC _ _|exact gD _ _ _|refine dC ?_|refine gE ?_|refine gF ?_|exact bd|refine db bd fun _=>?_
    |refine bJ bd fun _=>?_|split
theorem qY {P:Program} {t:TypeId} {x ix:AV}:aw (qE P t x ix):=by
  unfold qE
  repeat' first
    |exact dF|exact gA|exact gB|exact dR _|exact gC _ _|exact gD _ _ _|refine dC ?_|refine gE ?_|refine gF ?_|exact bd|refine db bd fun _=>?_
    |refine bJ bd fun _=>?_|exact de|refine db de fun _=>?_|refine bJ de fun _=>?_|split
theorem li {P:Program} {t:TypeId} {x:AV} {f:Nat}:aw (kY P t x f):=by
  unfold kY
  repeat' first
    |exact dF|exact gA|exact gB|exact dR _|exact gC _ _|exact gD _ _ _|refine dC ?_|refine gE ?_|refine gF ?_|split
theorem qZ {P:Program} {t:TypeId} {x:AV} {f:Nat}:aw (vK P t x f):=by
  unfold vK
  repeat' first
    |exact dF|exact gA|exact gB|exact dR _|exact gC _ _|exact gD _ _ _|refine dC ?_|refine gE ?_|refine gF ?_|exact de|refine db de fun _=>?_
    |refine bJ de fun _=>?_|split
theorem zY {P:Program} {src dst:TypeId} {x:AV}:aw (ov P src dst x):=by
  unfold ov
  repeat' first
    |exact dF|exact gA|exact gB|exact dR _|exact gC _ _|exact gD _ _ _|refine dC ?_|refine gE ?_|refine gF ?_|split
theorem mi {P:Program} {src dst:TypeId} {x:AV} {S:St}:aw (fx P src dst x S):=by
  unfold fx
  repeat' first
    |exact dF|exact gA|exact gB|exact dR _|exact gC _ _|exact gD _ _ _|refine dC ?_|refine gE ?_|refine gF ?_|exact zY|refine dd dz fun _ _=>?_|split
theorem EO {P:Program} {op:BinOp} {t:TypeId} {x y:AV} {S:St}:aw (t_ P op t x y S):=by
  unfold t_
  repeat' first
    |exact dF|exact gA|exact gB|exact dR _|exact gC _ _|exact gD _ _ _|refine dC ?_|refine gE ?_|refine gF ?_|exact rW|split
theorem lj {o:List Ob} {a:AV}:aw (zy o a):=by
  unfold zy
  repeat' first
    |exact dF|exact gA|exact gB|exact dR _|exact gC _ _|exact gD _ _ _|refine dC ?_|refine gE ?_|refine gF ?_|exact eV|refine db eV fun _=>?_
    |refine bJ eV fun _=>?_|split
theorem dA:∀ (xs:List AV) (o:List Ob),aw (i_ o xs)
  | [],o=>by
    show aw (fun K=>i_ o [] K)
    unfold i_
    repeat' first
      | exact aw.failN
      | exact ar.failN
      | exact cr.failN
      | exact aw.ret _
      | exact ar.ret _ _
      | exact cr.ret _ _ _
      | refine aw.chk ?_
      | refine ar.chk ?_
      | refine cr.chk ?_
      | exact dA _ _
      | refine db (dA _ _) fun _=>?_
      | refine bJ (dA _ _) fun _=>?_
      | exact lj
      | refine db lj fun _=>?_
      | refine bJ lj fun _=>?_
      | split
  | x::xs,o=>by
    show aw (fun K=>i_ o (x::xs) K)
    unfold i_
    repeat' first
      | exact aw.failN
      | exact ar.failN
      | exact cr.failN
      | exact aw.ret _
      | exact ar.ret _ _
      | exact cr.ret _ _ _
      | refine aw.chk ?_
      | refine ar.chk ?_
      | refine cr.chk ?_
      | exact dA _ _
      | refine db (dA _ _) fun _=>?_
      | refine bJ (dA _ _) fun _=>?_
      | exact lj
      | refine db lj fun _=>?_
      | refine bJ lj fun _=>?_
      | split
theorem cZ:∀ (xs:List Nat) (S:St),aw (eN xs S)
  | [],S=>by
    show aw (fun K=>eN [] S K)
    unfold eN
    repeat' first
      | exact aw.failN
      | exact ar.failN
      | exact cr.failN
      | exact aw.ret _
      | exact ar.ret _ _
      | exact cr.ret _ _ _
      | refine aw.chk ?_
      | refine ar.chk ?_
      | refine cr.chk ?_
      | exact cZ _ _
      | refine db (cZ _ _) fun _=>?_
      | refine bJ (cZ _ _) fun _=>?_
      | exact bR
      | refine db bR fun _=>?_
      | refine bJ bR fun _=>?_
      | exact bI
      | refine db bI fun _=>?_
      | refine bJ bI fun _=>?_
      | exact ei
      | refine db ei fun _=>?_
      | refine bJ ei fun _=>?_
      | exact ak
      | refine db ak fun _=>?_
      | refine bJ ak fun _=>?_
      | split
  | x::xs,S=>by
    show aw (fun K=>eN (x::xs) S K)
    unfold eN
    repeat' first
      | exact aw.failN
      | exact ar.failN
      | exact cr.failN
      | exact aw.ret _
      | exact ar.ret _ _
      | exact cr.ret _ _ _
      | refine aw.chk ?_
      | refine ar.chk ?_
      | refine cr.chk ?_
      | exact cZ _ _
      | refine db (cZ _ _) fun _=>?_
      | refine bJ (cZ _ _) fun _=>?_
      | exact bR
      | refine db bR fun _=>?_
      | refine bJ bR fun _=>?_
      | exact bI
      | refine db bI fun _=>?_
      | refine bJ bI fun _=>?_
      | exact ei
      | refine db ei fun _=>?_
      | refine bJ ei fun _=>?_
      | exact ak
      | refine db ak fun _=>?_
      | refine bJ ak fun _=>?_
      | split
theorem eX:∀ (xs:List Nat) (t:List AV) (l:List (Nat×List AV)),ar (j_ xs t l)
  | [],t,l=>by
    show ar (fun K=>j_ [] t l K)
    unfold j_
    repeat' first
      | exact aw.failN
      | exact ar.failN
      | exact cr.failN
      | exact aw.ret _
      | exact ar.ret _ _
      | exact cr.ret _ _ _
      | refine aw.chk ?_
      | refine ar.chk ?_
      | refine cr.chk ?_
      | exact eX _ _ _
      | refine dd (eX _ _ _) fun _ _=>?_
      | refine vf (eX _ _ _) fun _ _=>?_
      | exact bR
      | refine db bR fun _=>?_
      | refine bJ bR fun _=>?_
      | exact bI
      | refine db bI fun _=>?_
      | refine bJ bI fun _=>?_
      | split
  | x::xs,t,l=>by
    show ar (fun K=>j_ (x::xs) t l K)
    unfold j_
    repeat' first
      | exact aw.failN
      | exact ar.failN
      | exact cr.failN
      | exact aw.ret _
      | exact ar.ret _ _
      | exact cr.ret _ _ _
      | refine aw.chk ?_
      | refine ar.chk ?_
      | refine cr.chk ?_
      | exact eX _ _ _
      | refine dd (eX _ _ _) fun _ _=>?_
      | refine vf (eX _ _ _) fun _ _=>?_
      | exact bR
      | refine db bR fun _=>?_
      | refine bJ bR fun _=>?_
      | exact bI
      | refine db bI fun _=>?_
      | refine bJ bI fun _=>?_
      | split
theorem tj {C:Ctx} {f:AV} {args:List AV} {S:St} (hC:gu C):ar (yq C f args S):=by
  unfold yq
  repeat' first
    |exact dF|exact gA|exact gB|exact dR _|exact gC _ _|exact gD _ _ _|refine dC ?_|refine gE ?_|refine gF ?_|exact dA _ _|refine db (dA _ _) fun _=>?_
    |refine bJ (dA _ _) fun _=>?_|exact cZ _ _|refine db (cZ _ _) fun _=>?_|refine bJ (cZ _ _) fun _=>?_|exact eX _ _ _
    |refine dd (eX _ _ _) fun _ _=>?_|refine vf (eX _ _ _) fun _ _=>?_|exact hC.pcall _ _|refine db (hC.pcall _ _) fun _=>?_|refine bJ (hC.pcall _ _) fun _=>?_
    |refine vf (hC.scall _ _ _) fun _ _=>?_|refine dd (hC.scall _ _ _) fun _ _=>?_|split
theorem di {P:Program} {kt:TypeId} {key:AV} {es:List (AV×AV)}:ar (lQ P kt key es):=by
  unfold lQ
  repeat' first
    |exact dF|exact gA|exact gB|exact dR _|exact gC _ _|exact gD _ _ _|refine dC ?_|refine gE ?_|refine gF ?_|split
theorem fA {ok:Bool} {x:AV} {b:Bool}:aw (ox ok x b):=by
  unfold ox
  repeat' first
    |exact dF|exact gA|exact gB|exact dR _|exact gC _ _|exact gD _ _ _|refine dC ?_|refine gE ?_|refine gF ?_|split
theorem eu {P:Program} {e:TypeId} {ok:Bool}:aw (kg P e ok):=by
  unfold kg
  repeat' first
    |exact dF|exact gA|exact gB|exact dR _|exact gC _ _|exact gD _ _ _|refine dC ?_|refine gE ?_|refine gF ?_|exact eV|refine db eV fun _=>?_
    |refine bJ eV fun _=>?_|exact fA|refine db fA fun _=>?_|refine bJ fA fun _=>?_|split
theorem oV {P:Program} {e:TypeId} {ok:Bool} {es:List (AV×AV)} {r:Option Nat}:aw (pF P e ok es r):=by
  unfold pF
  repeat' first
    |exact dF|exact gA|exact gB|exact dR _|exact gC _ _|exact gD _ _ _|refine dC ?_|refine gE ?_|refine gF ?_|exact fA|refine db fA fun _=>?_
    |refine bJ fA fun _=>?_|exact eu|refine db eu fun _=>?_|refine bJ eu fun _=>?_|split
theorem oW {P:Program} {t:TypeId} {m key:AV} {ok:Bool} {S:St}:aw (pG P t m key ok S):=by
  unfold pG
  repeat' first
    |exact dF|exact gA|exact gB|exact dR _|exact gC _ _|exact gD _ _ _|refine dC ?_|refine gE ?_|refine gF ?_|exact di|refine dd di fun _ _=>?_
    |refine vf di fun _ _=>?_|exact eu|refine db eu fun _=>?_|refine bJ eu fun _=>?_|exact oV|refine db oV fun _=>?_
    |refine bJ oV fun _=>?_|split
theorem lk {P:Program} {t:TypeId} {m key x:AV} {S:St}:aw (et P t m key x S):=by
  unfold et
  repeat' first
    |exact dF|exact gA|exact gB|exact dR _|exact gC _ _|exact gD _ _ _|refine dC ?_|refine gE ?_|refine gF ?_|exact di|refine dd di fun _ _=>?_
    |refine vf di fun _ _=>?_|exact ak|refine db ak fun _=>?_|refine bJ ak fun _=>?_|split
theorem vh {C:Ctx} {pl:bK} {o:Oper} {vs:List AV}:aw (pop C pl o vs):=by
  unfold pop
  repeat' first
    |exact dF|exact gA|exact gB|exact dR _|exact gC _ _|exact gD _ _ _|refine dC ?_|refine gE ?_|refine gF ?_|refine aw.fork ?_ ?_|refine ar.fork ?_ ?_
    |exact qW|refine db qW fun _=>?_|refine bJ qW fun _=>?_|exact nt|refine db nt fun _=>?_|refine bJ nt fun _=>?_
    |exact rW|refine db rW fun _=>?_|refine bJ rW fun _=>?_|exact zW|refine db zW fun _=>?_|refine bJ zW fun _=>?_|exact bF
    |refine db bF fun _=>?_|refine bJ bF fun _=>?_|exact li|refine db li fun _=>?_|refine bJ li fun _=>?_
    |exact qZ|refine db qZ fun _=>?_|refine bJ qZ fun _=>?_|exact qY|refine db qY fun _=>?_|refine bJ qY fun _=>?_
    |exact gR|refine db gR fun _=>?_|refine bJ gR fun _=>?_|exact wy|refine db wy fun _=>?_|refine bJ wy fun _=>?_
    |split
theorem vi {C:Ctx} {o:Oper} {vs:List AV} {M:St} (hC:gu C):aw (pY C o vs M):=by
  unfold pY
  repeat' first
    |exact dF|exact gA|exact gB|exact dR _|exact gC _ _|exact gD _ _ _|refine dC ?_|refine gE ?_|refine gF ?_|exact vg|refine dd vg fun _ _=>?_
    |refine vf vg fun _ _=>?_|exact de|refine db de fun _=>?_|refine bJ de fun _=>?_|exact EO|exact mi|refine db mi fun _=>?_
    |refine bJ mi fun _=>?_|exact qX|refine db qX fun _=>?_|refine bJ qX fun _=>?_|exact bd|refine db bd fun _=>?_
    |refine bJ bd fun _=>?_|exact lh|refine db lh fun _=>?_|refine bJ lh fun _=>?_|exact oW|refine db oW fun _=>?_
    |refine bJ oW fun _=>?_|exact wx|refine db wx fun _=>?_|refine bJ wx fun _=>?_|exact dA _ _|refine db (dA _ _) fun _=>?_
    |refine bJ (dA _ _) fun _=>?_|exact hC.pcall _ _|refine db (hC.pcall _ _) fun _=>?_|refine bJ (hC.pcall _ _) fun _=>?_|split
theorem lX {C:Ctx} {o:Oper} {vs:List AV} {M:St}:ar (yr C o vs M):=by
  unfold yr
  repeat' first
    |exact dF|exact gA|exact gB|exact dR _|exact gC _ _|exact gD _ _ _|refine dC ?_|refine gE ?_|refine gF ?_|exact b_|refine db b_ fun _=>?_
    |refine bJ b_ fun _=>?_|exact qV|refine db qV fun _=>?_|refine bJ qV fun _=>?_|split
theorem CG {P:Program} {t:TypeId} {l c:AV}:aw (vL P t l c):=by
  unfold vL
  refine dd eG fun _ _=>?_
  split
  · exact dR _
  · exact dF
theorem vj {C:Ctx} {o:Oper} {vs:List AV}:aw (IK C o vs):=by
  unfold IK
  repeat' first
    |exact dF|exact gA|exact gB|exact dR _|exact gC _ _|exact gD _ _ _|refine dC ?_|refine gE ?_|refine gF ?_|exact zX|exact CG|split
theorem wz {C:Ctx} {o:Oper} {S:St}:aw (Ey C o S):=by
  unfold Ey
  repeat' first
    |exact dF|exact gA|exact gB|exact dR _|exact gC _ _|exact gD _ _ _|refine dC ?_|refine gE ?_|refine gF ?_|exact bc|refine db bc fun _=>?_
    |refine bJ bc fun _=>?_|exact vj|refine db vj fun _=>?_|refine bJ vj fun _=>?_|exact bu|refine db bu fun _=>?_
    |refine bJ bu fun _=>?_|split
theorem mO {C:Ctx} {pl:bK} {o:Oper} {S:St}:aw (Eu C pl o S):=by
  unfold Eu
  repeat' first
    |exact dF|exact gA|exact gB|exact dR _|exact gC _ _|exact gD _ _ _|refine dC ?_|refine gE ?_|refine gF ?_|exact bc|refine db bc fun _=>?_
    |refine bJ bc fun _=>?_|exact vh|refine db vh fun _=>?_|refine bJ vh fun _=>?_|exact bu|refine db bu fun _=>?_
    |refine bJ bu fun _=>?_|split
theorem mP {C:Ctx} {o:Oper} {S:St} (hC:gu C):aw (Ev C o S):=by
  unfold Ev
  repeat' first
    |exact dF|exact gA|exact gB|exact dR _|exact gC _ _|exact gD _ _ _|refine dC ?_|refine gE ?_|refine gF ?_|exact bc|refine db bc fun _=>?_
    |refine bJ bc fun _=>?_|exact vi hC|refine db (vi hC) fun _=>?_|refine bJ (vi hC) fun _=>?_|exact bu|refine db bu fun _=>?_
    |refine bJ bu fun _=>?_|split
theorem wA {C:Ctx} {o:Oper} {S:St}:aw (Ew C o S):=by
  unfold Ew
  repeat' first
    |exact dF|exact gA|exact gB|exact dR _|exact gC _ _|exact gD _ _ _|refine dC ?_|refine gE ?_|refine gF ?_|exact bc|refine db bc fun _=>?_
    |refine bJ bc fun _=>?_|exact lX|refine dd lX fun _ _=>?_|refine vf lX fun _ _=>?_|exact bu|refine db bu fun _=>?_
    |refine bJ bu fun _=>?_|split
theorem pK {C:Ctx} {pl:bK} {o:Oper} {S:St} (hC:gu C):aw (vM C pl o S):=by
  unfold vM
  repeat' first
    |exact dF|exact gA|exact gB|exact dR _|exact gC _ _|exact gD _ _ _|refine dC ?_|refine gE ?_|refine gF ?_|exact aP|refine db aP fun _=>?_
    |refine bJ aP fun _=>?_|exact ww|refine db ww fun _=>?_|refine bJ ww fun _=>?_|exact ck|refine db ck fun _=>?_
    |refine bJ ck fun _=>?_|exact b_|refine db b_ fun _=>?_|refine bJ b_ fun _=>?_|exact bc|refine db bc fun _=>?_
    |refine bJ bc fun _=>?_|exact ki|refine db ki fun _=>?_|refine bJ ki fun _=>?_|exact ak|refine db ak fun _=>?_
    |refine bJ ak fun _=>?_|exact bu|refine db bu fun _=>?_|refine bJ bu fun _=>?_|exact eG|refine dd eG fun _ _=>?_
    |refine vf eG fun _ _=>?_|exact lk|refine db lk fun _=>?_|refine bJ lk fun _=>?_|exact nu
    |refine dd nu fun _ _=>?_|refine vf nu fun _ _=>?_|exact oU|refine dd oU fun _ _=>?_|refine vf oU fun _ _=>?_
    |refine db CF fun _=>?_|exact ti|refine dd ti fun _ _=>?_|refine vf ti fun _ _=>?_|exact tj hC|refine dd (tj hC) fun _ _=>?_|refine vf (tj hC) fun _ _=>?_
    |split
theorem ar.swap {α β:Type} {X:(α→β→Prop)→Prop} (h:ar X):ar (fun k:β→α→Prop=>X fun a b=>k b a):=fun k hk=>by
  obtain ⟨a,b,h1,h2⟩:=h _ hk
  exact ⟨b,a,h1,fun k' hk'=>h2 _ hk'⟩
theorem EP {C:Ctx} {o:Oper} {vs:List AV} {M:St} (hC:gu C):ar (lS C o vs M):=by
  unfold lS
  split
  · exact ar.swap eG
  · split
    · refine ar.chk ?_
      refine ar.bind2 (hC.scall _ _ _) (fun _ _=>?_)
      exact ar.chk (ar.ret _ _)
    · exact ar.failN
  · exact lX
theorem nv {S:St} {id:Nat}:aw (iM S id):=by
  unfold iM
  repeat' first
    |exact dF|exact gA|exact gB|exact dR _|exact gC _ _|exact gD _ _ _|refine dC ?_|refine gE ?_|refine gF ?_
    |exact ak|refine db ak fun _=>?_|refine bJ ak fun _=>?_
    |exact (cZ _ _)|refine db (cZ _ _) fun _=>?_|refine bJ (cZ _ _) fun _=>?_
    |split
theorem jZ:∀ (ids:List Nat) (S:St),aw (m9 ids S)
  | [],_=>aw.ret _
  | id::ids,S=>by
    show aw (fun K=>iM S id fun S'=>m9 ids S' K)
    exact aw.bind nv (fun S'=>jZ ids S')
theorem oY {S:St} {id:Nat}:aw (kB S id):=by
  unfold kB
  split
  · exact aw.bind ak (fun _=>aw.ret _)
  · exact aw.bind ak (fun _=>aw.ret _)
  · exact aw.ret _
theorem rX:∀ (ids:List Nat) (S:St),aw (kZ ids S)
  | [],_=>aw.ret _
  | id::ids,S=>by
    show aw (fun K=>kB S id fun S'=>kZ ids S' K)
    exact aw.bind oY (fun S'=>rX ids S')
theorem pL {pl:bK} {id:Nat} {S:St}:aw (kp pl id S):=by
  unfold kp
  split
  · exact aw.ret _
  · refine aw.bind (jZ _ _) (fun S1=>?_)
    split
    · exact aw.ret _
    · exact rX _ _
theorem gw {S:St} {pk:Bool} {id i:Nat}:ar (fh S pk id i):=by
  unfold fh
  repeat' first
    |exact dF|exact gA|exact gB|exact dR _|exact gC _ _|exact gD _ _ _|refine dC ?_|refine gE ?_|refine gF ?_
    |exact ak|refine db ak fun _=>?_|refine bJ ak fun _=>?_
    |refine bJ eV fun _=>?_
    |split
theorem zZ {P:Program} {t:TypeId} {same pk:Bool} {S:St} {id i:Nat}:ar (iN P t same pk S id i):=by
  unfold iN
  repeat' first
    |exact dF|exact gA|exact gB|exact dR _|exact gC _ _|exact gD _ _ _|refine dC ?_|refine gE ?_|refine gF ?_
    |exact de|refine db de fun _=>?_|refine bJ de fun _=>?_
    |exact gw|refine dd gw fun _ _=>?_|refine vf gw fun _ _=>?_
    |split
theorem xU {P:Program} {t:TypeId} {S:St} {id i:Nat} {v:AV}:aw (gm P t S id i v):=by
  unfold gm
  repeat' first
    |exact dF|exact gA|exact gB|exact dR _|exact gC _ _|exact gD _ _ _|refine dC ?_|refine gE ?_|refine gF ?_
    |exact ak|refine db ak fun _=>?_|refine bJ ak fun _=>?_
    |split
theorem z1 {P:Program} {t:TypeId} {nw:Bool} {j:Nat} {l c:AV} {S:St}:ar (gM P nw j t l c S):=by
  unfold gM
  repeat' first
    |exact dF|exact gA|exact gB|exact dR _|exact gC _ _|exact gD _ _ _|refine dC ?_|refine gE ?_|refine gF ?_
    |exact h_|refine db h_ fun _=>?_|refine bJ h_ fun _=>?_
    |exact ak|refine db ak fun _=>?_|refine bJ ak fun _=>?_
    |exact bd|refine db bd fun _=>?_|refine bJ bd fun _=>?_
    |exact aP|refine db aP fun _=>?_|refine bJ aP fun _=>?_
    |split
theorem uT {P:Program} {t:TypeId} {S:St}:ar (fY P t S):=by
  unfold fY
  repeat' first
    |exact dF|exact gA|exact gB|exact dR _|exact gC _ _|exact gD _ _ _|refine dC ?_|refine gE ?_|refine gF ?_
    |exact ak|refine db ak fun _=>?_|refine bJ ak fun _=>?_
    |split
theorem z2 {P:Program} {t:TypeId} {m key:AV} {ok:Bool} {S:St}:ar (iO P t m key ok S):=by
  unfold iO
  repeat' first
    |exact dF|exact gA|exact gB|exact dR _|exact gC _ _|exact gD _ _ _|refine dC ?_|refine gE ?_|refine gF ?_
    |exact fA|refine db fA fun _=>?_|refine bJ fA fun _=>?_
    |exact eu|refine db eu fun _=>?_|refine bJ eu fun _=>?_
    |exact di|refine dd di fun _ _=>?_|refine vf di fun _ _=>?_
    |exact gw|refine dd gw fun _ _=>?_|refine vf gw fun _ _=>?_
    |split
theorem uz {P:Program} {t:TypeId} {m key x:AV} {S:St}:aw (jG P t m key x S):=by
  unfold jG
  repeat' first
    |exact dF|exact gA|exact gB|exact dR _|exact gC _ _|exact gD _ _ _|refine dC ?_|refine gE ?_|refine gF ?_
    |exact ak|refine db ak fun _=>?_|refine bJ ak fun _=>?_
    |exact di|refine dd di fun _ _=>?_|refine vf di fun _ _=>?_
    |split
theorem yQ {M:St} {x:AV} {X:Nat→Nat→(AV→St→Prop)→Prop} (h:∀ id i,ar (X id i)):ar (fun k=>jj M x fun id i=>X id i k):=by
  unfold jj
  split
  · split
    · exact h _ _
    · exact ar.failN
  · exact ar.failN
theorem wB {P:Program} {pl:bK} {o:Oper} {vs:List AV} {M:St}:ar (lJ P pl o vs M):=by
  unfold lJ
  split
  · exact yQ fun _ _=>zZ
  · exact yQ fun _ _=>aw.bind2 xU (fun _=>ar.ret _ _)
  · exact z1
  · exact uT
  · exact z2
  · exact aw.bind2 uz (fun _=>ar.ret _ _)
  · exact aw.bind2 uz (fun _=>ar.ret _ _)
  · exact ar.failN
theorem Bb {C:Ctx} {pl:bK} {o:Oper} {S:St}:aw (sX C pl o S):=by
  unfold sX
  exact aw.bind bc (fun _=>ar.bind wB (fun _ _=>bu))
theorem Bc {C:Ctx} {pl:bK} {o:Oper} {vs:List AV} {M:St} (hC:gu C):ar (m_ C pl o vs M):=by
  unfold m_
  split
  · exact wB
  · exact EP hC
theorem tk {C:Ctx} {pl:bK} {o:Oper} {S:St} (hC:gu C):aw (qc C pl o S):=by
  unfold qc
  exact aw.bind bc (fun _=>ar.bind (Bc hC) (fun _ _=>bu))
theorem g6 {C:Ctx} {pl:bK} {o:Oper} {S:St} (hC:gu C):aw (xE C pl o S):=by
  unfold xE
  repeat' first
    |exact dF|exact gA|exact gB|exact dR _|exact gC _ _|exact gD _ _ _|refine dC ?_|refine gE ?_|refine gF ?_|exact mO|refine db mO fun _=>?_
    |refine bJ mO fun _=>?_|exact mP hC|refine db (mP hC) fun _=>?_|refine bJ (mP hC) fun _=>?_|exact tk hC|refine db (tk hC) fun _=>?_
    |refine bJ (tk hC) fun _=>?_|exact wz|refine db wz fun _=>?_|refine bJ wz fun _=>?_|exact bu|refine db bu fun _=>?_
    |refine bJ bu fun _=>?_|exact pK hC|refine db (pK hC) fun _=>?_|refine bJ (pK hC) fun _=>?_|split
theorem Bd {C:Ctx} {pl:bK} {o:Oper} {S:St} (hC:gu C):aw (zA C pl o S):=by
  unfold zA
  repeat' first
    |exact dF|exact gA|exact gB|exact dR _|exact gC _ _|exact gD _ _ _|refine dC ?_|refine gE ?_|refine gF ?_|exact mO|refine db mO fun _=>?_
    |refine bJ mO fun _=>?_|exact mP hC|refine db (mP hC) fun _=>?_|refine bJ (mP hC) fun _=>?_|exact wA|refine db wA fun _=>?_
    |refine bJ wA fun _=>?_|exact pK hC|refine db (pK hC) fun _=>?_|refine bJ (pK hC) fun _=>?_|split
theorem pM {C:Ctx} {pl:bK} {o:Oper} {S:St} (hC:gu C):aw (FI C pl o S):=by
  unfold FI
  split
  · exact Bb
  · exact Bd hC
theorem dv {d:Nat} {S:St}:ar (gn d S):=by
  unfold gn
  repeat' first
    |exact dF|exact gA|exact gB|exact dR _|exact gC _ _|exact gD _ _ _|refine dC ?_|refine gE ?_|refine gF ?_|refine aw.fork ?_ ?_|refine ar.fork ?_ ?_
    |exact gR|refine db gR fun _=>?_|refine bJ gR fun _=>?_|exact jY|refine db jY fun _=>?_|refine bJ jY fun _=>?_
    |split
theorem wC {C:Ctx} {pl:bK} {all:Array Oper} {o:Oper} {S:St} (hC:gu C):aw (qG C pl all o S):=by
  unfold qG
  repeat' first
    |exact dF|exact gA|exact gB|exact dR _|exact gC _ _|exact gD _ _ _|refine dC ?_|refine gE ?_|refine gF ?_|exact g6 hC|refine db (g6 hC) fun _=>?_
    |refine bJ (g6 hC) fun _=>?_|split
theorem FX {C:Ctx} {pl:bK} {all:Array Oper} {o:Oper} {S:St} (hC:gu C):aw (ag C pl all o S):=by
  unfold ag
  repeat' first
    |exact dF|exact gA|exact gB|exact dR _|exact gC _ _|exact gD _ _ _|refine dC ?_|refine gE ?_|refine gF ?_|exact wC hC|refine db (wC hC) fun _=>?_
    |refine bJ (wC hC) fun _=>?_|exact dv|refine dd dv fun _ _=>?_|refine vf dv fun _ _=>?_|exact bu|refine db bu fun _=>?_
    |refine bJ bu fun _=>?_|exact g6 hC|refine db (g6 hC) fun _=>?_|refine bJ (g6 hC) fun _=>?_|refine aw.gsel ?_ ?_|split
theorem ll {C:Ctx} {pl:bK} {all:Array Oper} (hC:gu C):∀ (os:List Oper) (S:St),aw (sY C pl all os S)
  | [],S=>by
    show aw (fun K=>sY C pl all [] S K)
    unfold sY
    repeat' first
      | exact aw.failN
      | exact ar.failN
      | exact cr.failN
      | exact aw.ret _
      | exact ar.ret _ _
      | exact cr.ret _ _ _
      | refine aw.chk ?_
      | refine ar.chk ?_
      | refine cr.chk ?_
      | exact ll hC _ _
      | refine db (ll hC _ _) fun _=>?_
      | refine bJ (ll hC _ _) fun _=>?_
      | exact pM hC
      | refine db (pM hC) fun _=>?_
      | refine bJ (pM hC) fun _=>?_
      | exact dv
      | refine dd dv fun _ _=>?_
      | refine vf dv fun _ _=>?_
      | exact bu
      | refine db bu fun _=>?_
      | refine bJ bu fun _=>?_
      | refine aw.gsel ?_ ?_
      | split
  | x::xs,S=>by
    show aw (fun K=>sY C pl all (x::xs) S K)
    unfold sY
    repeat' first
      | exact aw.failN
      | exact ar.failN
      | exact cr.failN
      | exact aw.ret _
      | exact ar.ret _ _
      | exact cr.ret _ _ _
      | refine aw.chk ?_
      | refine ar.chk ?_
      | refine cr.chk ?_
      | exact ll hC _ _
      | refine db (ll hC _ _) fun _=>?_
      | refine bJ (ll hC _ _) fun _=>?_
      | exact pM hC
      | refine db (pM hC) fun _=>?_
      | refine bJ (pM hC) fun _=>?_
      | exact dv
      | refine dd dv fun _ _=>?_
      | refine vf dv fun _ _=>?_
      | exact bu
      | refine db bu fun _=>?_
      | refine bJ bu fun _=>?_
      | refine aw.gsel ?_ ?_
      | split
theorem iT:∀ (xs:List (Nat×TypeId)) (P:Program) (S:St),aw (zC P xs S)
  | [],P,S=>by
    show aw (fun K=>zC P [] S K)
    unfold zC
    repeat' first
      | exact aw.failN
      | exact ar.failN
      | exact cr.failN
      | exact aw.ret _
      | exact ar.ret _ _
      | exact cr.ret _ _ _
      | refine aw.chk ?_
      | refine ar.chk ?_
      | refine cr.chk ?_
      | exact iT _ _ _
      | refine db (iT _ _ _) fun _=>?_
      | refine bJ (iT _ _ _) fun _=>?_
      | exact aP
      | refine db aP fun _=>?_
      | refine bJ aP fun _=>?_
      | split
  | (d,e)::xs,P,S=>by
    show aw (fun K=>zC P ((d,e)::xs) S K)
    unfold zC
    repeat' first
      | exact aw.failN
      | exact ar.failN
      | exact cr.failN
      | exact aw.ret _
      | exact ar.ret _ _
      | exact cr.ret _ _ _
      | refine aw.chk ?_
      | refine ar.chk ?_
      | refine cr.chk ?_
      | exact iT _ _ _
      | refine db (iT _ _ _) fun _=>?_
      | refine bJ (iT _ _ _) fun _=>?_
      | exact aP
      | refine db aP fun _=>?_
      | refine bJ aP fun _=>?_
      | split
theorem wD {P:Program} {xs:List (Nat×TypeId)} {S:St}:aw (xH P xs S):=by
  unfold xH
  repeat' first
    |exact dF|exact gA|exact gB|exact dR _|exact gC _ _|exact gD _ _ _|refine dC ?_|refine gE ?_|refine gF ?_|exact eW _ _|refine db (eW _ _) fun _=>?_
    |refine bJ (eW _ _) fun _=>?_|exact iT _ _ _|refine db (iT _ _ _) fun _=>?_|refine bJ (iT _ _ _) fun _=>?_|split
end A
end Go.Proofs.Ytaiokpalfdbnnaa
