/- Code, functions, fuel. Nothing is claimed here of the program. -/
import Derived.Test.YtaekcekecdocnaaK4
import Derived.TacticsIn
import Derived.OrdersIn
import Derived.LoopNIn
import Derived.RangeFuncSeq
import Derived.RangeFuncRecord
namespace Go.Proofs.Ytaekcekecdocnaa
namespace A
open Go
open Go.RowKit (Below)
def ghO (E:Env) (w:World):Gh:={ w0:=w,M:=fun b=>∃ k o s n,onlyO E.mu k=some (.blk b o s n),F:=E.F,mu:=fun id=>E.mu (.O id) }
def stO (o:List Ob) (b:Nat):St:={ t:=[],l:=[],o:=o,b:=b }
def SCall (P:Program) (f:Nat) (args:List AV) (o:List Ob) (K:AV→List Ob→Prop):Prop :=
  HasBody P f∧∀ (E:Env) (w:World) (us:Array Value),SimM (ghO E w) pn E (stO o o.length) w→GTE E→VRs E args us.toList →
    Calls P f us w fun e w'=>∃ v r o' E',K r o'∧e=.returned v∧SimM (ghO E w) pn E' (stO o' o.length) w'∧VR E' r v
theorem deadNow_mem:∀ {xs ys:List Ob} {n j:Nat} {x:Ob},xs[j]?=some x→x≠.dead→ys[j]?=some .dead→n + j∈deadNow xs ys n
  | [],_,_,_,_,h,_,_=>by simp at h
  | _::_,[],_,_,_,_,_,h=>by simp at h
  | x0::xs,y0::ys,n,0,x,h1,h2,h3=>by
    simp at h1 h3
    subst h1 h3
    cases x0 with
    | dead=>exact absurd rfl h2
    | arr _ _ _=>simp [deadNow]
    | mapo _ _=>simp [deadNow]
    | own _ _ _ _=>simp [deadNow]
    | lp _ _ _ _ _ _=>simp [deadNow]
  | x0::xs,y0::ys,n,j + 1,x,h1,h2,h3=>by
    have ih:=deadNow_mem (xs:=xs) (ys:=ys) (n:=n + 1) (j:=j) (by simpa using h1) h2 (by simpa using h3)
    rw [show n + 1 + j=n + (j + 1) by omega] at ih
    cases x0 <;> cases y0 <;> simp [deadNow,ih]
def killTs (ids:List Nat) (t:List AV):List AV:=ids.foldl (fun t id=>t.map (killA 4 (.O id))) t
def killLs (ids:List Nat) (l:List (Nat×List AV)):List (Nat×List AV):=ids.foldl (fun l id=>l.map (killRow (.O id))) l
theorem killTL_iff:∀ {ids:List Nat} {t:List AV} {l:List (Nat×List AV)} {K:List AV→List (Nat×List AV)→Prop},killTL ids t l K↔K (killTs ids t) (killLs ids l)
  | [],_,_,_=>Iff.rfl
  | id::ids,t,l,K=>by
    show killL _ _ _↔_
    rw [killL_iff,killLoc_iff]
    exact killTL_iff (ids:=ids)
theorem killTs_sound {G:Gh} {a:Act}:∀ {ids:List Nat} {E:Env} {t:List AV},TR G E t a→TR G ⟨E.F,remAll ids E.mu,E.h⟩ (killTs ids t) a
  | [],_,_,h=>h
  | id::ids,E,_,h=>killTs_sound (ids:=ids) (E:=⟨E.F,remMu E.mu (.O id),E.h⟩) (h.kill remMu_ke)
theorem killLs_pend {e:Nat} {row:List AV}:∀ {ids:List Nat} {l:List (Nat×List AV)},lookL l e=some row→(∀ k,row.map (killA 4 k)=row)→lookL (killLs ids l) e=some row
  | [],_,h,_=>h
  | id::ids,l,h,hk=>killLs_pend (ids:=ids) (l:=l.map (killRow (.O id))) (by
      rw [lookL_kill,h]
      show some _=_
      rw [hk]) hk
theorem killLs_sound {pd:Nat→Option (List AV)}:∀ {ids:List Nat} {E:Env} {l:List (Nat×List AV)},(∀ d,LocR pd E (lookL l d) d)→∀ d,LocR pd ⟨E.F,remAll ids E.mu,E.h⟩ (lookL (killLs ids l) d) d
  | [],_,_,h=>h
  | id::ids,E,l,h=>killLs_sound (ids:=ids) (E:=⟨E.F,remMu E.mu (.O id),E.h⟩) (fun e=>by
    rw [lookL_kill]
    have hmu:remMu E.mu (.O id) (.L e)=E.mu (.L e):=remMu_L (fun h=>by cases h)
    have:=h e
    revert this
    cases lookL l e with
    | none=>exact fun h=>hmu.trans h
    | some row =>
      rintro (⟨b',h1,h2⟩ | ⟨h1,h2⟩)
      · refine .inl ⟨b',hmu.trans (by simpa using h1),?_⟩
        have:=h2.kill (remMu_ke (E:=E) (k:=.O id)) (h':=E.h) rfl
        simpa using this
      · exact LocR.pend_kill hmu h1 h2)
theorem remAll_L:∀ {ids:List Nat} {mu:Key→Option MV} {d:Nat},remAll ids mu (.L d)=mu (.L d)
  | [],_,_=>rfl
  | id::ids,mu,d=>by
    show remAll ids (remMu mu (.O id)) (.L d)=_
    rw [remAll_L]
    exact remMu_L (fun h=>by cases h)
theorem obob (E:Env):E.ob.ob=E.ob:=by
  have:onlyO (onlyO E.mu)=onlyO E.mu:=by
    funext k
    cases k <;> rfl
  unfold Env.ob
  rw [this]
theorem ob_some {E:Env} {k:Key} {x:MV} (h:E.ob.mu k=some x):E.mu k=some x:=onlyO_some (k:=k) h
theorem ObR.ob {E:Env} {x:Option Ob} {mv:Option MV} (h:ObR E x mv):ObR E.ob x mv:=by
  revert h
  cases x with
  | none=>cases mv <;> exact fun h=>h
  | some ob =>
    cases ob with
    | dead=>cases mv <;> exact fun h=>h
    | arr fl sz' rows =>
      cases mv with
      | none=>exact fun h=>h
      | some mv =>
        cases mv with
        | virt=>exact fun h=>h
        | blk b o s n =>
          cases fl with
          | true=>exact fun h=>h
          | false =>
            rintro ⟨h1,h2⟩
            refine ⟨h1,?_⟩
            show ArrR E.ob.ob _ _ _ _ _
            rw [obob]
            exact h2
    | lp pl ps t asg body st =>
      cases mv with
      | none=>exact fun h=>h
      | some mv =>
        cases mv with
        | virt=>exact fun h=>h
        | blk b o s n =>
          rintro ⟨r,h1,h2⟩
          refine ⟨r,h1,?_⟩
          show LpR E.ob.ob _ _ _ _ _ _
          rw [obob]
          exact h2
    | own _ _ _ _ =>
      cases mv with
      | none=>exact fun h=>h.elim
      | some mv=>cases mv <;> exact fun h=>h
    | mapo fl es =>
      cases mv with
      | none=>exact fun h=>h
      | some mv =>
        cases mv with
        | virt=>exact fun h=>h
        | blk b o s n =>
          rintro ⟨ms,clock,h1,h2,h3⟩
          refine ⟨ms,clock,h1,h2,fun i e m h4 h5=>?_⟩
          obtain ⟨h6,h7⟩:=h3 i e m h4 h5
          refine ⟨h6,?_⟩
          cases fl with
          | true=>exact h7
          | false =>
            show VR E.ob.ob _ _
            rw [obob]
            exact h7
theorem OwnR.ob {E:Env} {id:Nat} {x:Option Ob} (h:OwnR E id x):OwnR E.ob id x:=h.mono rfl (fun _=>rfl) (LE.refl _) (by rw [obob]; exact LE.refl _) (fun _ _ _ _ _ _ _=>rfl)
section
variable {G:Gh} {pd:Nat→Option (List AV)} {E:Env} {S:St} {w:World} {P:Program} {o:Oper} {a:Act}
theorem SimM.sub (hM:SimM G pd E S w):SimM (ghO E.ob w) pn E.ob (stO S.o S.o.length) w :=
  ⟨hM.hp,rfl,rfl,rfl,Nat.le_refl _,fun _ _ _=>rfl,fun _ h=>h,hM.Flt,fun _ h _=>.inl h,
    fun k b o s n h=>by
      cases k with
      | L d=>cases h
      | O id =>
        obtain ⟨h1,h2,_⟩:=hM.own _ b o s n (ob_some h)
        exact ⟨h1,h2,.inl ⟨.O id,o,s,n,h⟩⟩
      | S id i =>
        obtain ⟨h1,h2,_⟩:=hM.own _ b o s n (ob_some h)
        exact ⟨h1,h2,.inl ⟨.S id i,o,s,n,h⟩⟩,
    fun k k' b o s n o' s' n' h h'=>hM.inj k k' b o s n o' s' n' (ob_some h) (ob_some h'),fun _=>rfl,fun id=>(hM.obj id).ob,fun _ _=>.inr rfl,Nat.le_refl _,fun _ _=>rfl,fun _ _ h=>(by cases h),fun id=>(hM.ow id).ob⟩
def mergeMu (mu mu':Key→Option MV):Key→Option MV
  | .L d=>mu (.L d)
  | .O id=>mu' (.O id)
  | .S id i=>mu' (.S id i)
theorem SimM.back (hM:SimM G pd E S w) (ht:TR G E S.t a) {E':Env} {o':List Ob} {w':World} (hM':SimM (ghO E.ob w) pn E' (stO o' S.o.length) w') :
    SimM G pd ⟨E'.F,mergeMu E.mu E'.mu,E'.h⟩ { t:=killTs (deadNow S.o o' 0) S.t,l:=killLs (deadNow S.o o' 0) S.l,o:=o',b:=S.b } w'∧TR G ⟨E'.F,mergeMu E.mu E'.mu,E'.h⟩ (killTs (deadNow S.o o' 0) S.t) a∧LE E' ⟨E'.F,mergeMu E.mu E'.mu,E'.h⟩:=by
  have hL':∀ d,E'.mu (.L d)=none:=fun d=>hM'.loc d
  have hsz:w.heap.size≤w'.heap.size:=hM'.size
  have notM:∀ b,E.F b→¬ (ghO E.ob w).M b:=by
    rintro b hF ⟨k,x,s,n,h⟩
    exact (hM.own _ _ _ _ _ (ob_some (onlyO_some h))).1 hF
  have MG:∀ b,(ghO E.ob w).M b→G.M b∨G.w0.heap.size≤b:=by
    rintro b ⟨k,x,s,n,h⟩
    exact (hM.own _ _ _ _ _ (ob_some (onlyO_some h))).2.2
  have Mlt:∀ b,(ghO E.ob w).M b→b<w.heap.size:=by
    rintro b ⟨k,x,s,n,h⟩
    exact (hM.own _ _ _ _ _ (ob_some (onlyO_some h))).2.1
  have LnotM:∀ d b x s n,E.mu (.L d)=some (.blk b x s n)→¬ (ghO E.ob w).M b:=by
    rintro d b x s n h ⟨k,x',s',n',h'⟩
    have:=hM.inj _ _ _ _ _ _ _ _ _ h (ob_some (onlyO_some h'))
    subst this
    cases h'
  have hle:LE ⟨E.F,remAll (deadNow S.o o' 0) E.mu,E.h⟩ ⟨E'.F,mergeMu E.mu E'.mu,E'.h⟩:=by
    have kept:∀ id x,remAll (deadNow S.o o' 0) E.mu (.O id)=some x→E.mu (.O id)=some x∧E'.mu (.O id)=some x:=by
      intro id x h
      obtain ⟨h1,h2⟩:=remAll_some h
      refine ⟨h1,?_⟩
      have hob:=hM.obj id
      rw [h1] at hob
      have hid:id<S.o.length:=by
        rcases Nat.lt_or_ge id S.o.length with h3 | h3
        · exact h3
        · rw [List.getElem?_eq_none h3] at hob
          exact hob.elim
      rcases hM'.old id hid with h3 | h3
      · exfalso
        have hx:=List.getElem?_eq_getElem hid
        rw [hx] at hob
        have hnd:S.o[id]≠.dead:=fun hd=>by rw [hd] at hob; exact hob.elim
        have:=deadNow_mem (n:=0) hx hnd h3
        rw [Nat.zero_add] at this
        exact h2 _ this rfl
      · rw [h3]; exact h1
    refine ⟨fun b h=>hM'.F0 b h,fun k x hs h=>?_,fun b h=>?_,fun k b x s n hs h=>?_⟩
    · cases k with
      | S _ _=>cases hs
      | L d =>
        show E.mu (.L d)=_
        exact (remAll_L (ids:=deadNow S.o o' 0)).symm.trans h
      | O id=>exact (kept id x h).2
    · show E'.h[b]?=E.h[b]?
      rw [hM'.hp,hM.hp]
      exact hM'.keep b (hM.Flt b h) (notM b h)
    · show sizeH E'.h b=sizeH E.h b
      rw [hM'.hp,hM.hp]
      have:b<w.heap.size:=(hM.own _ _ _ _ _ (remAll_some h).1).2.1
      exact hM'.szs b this
  refine ⟨⟨hM'.hp,hM'.os.trans hM.os,hM'.tape.trans hM.tape,hM'.output.trans hM.output,Nat.le_trans hM.size hsz,fun b h1 h2=>?_,fun b h=>hM'.F0 b (hM.F0 b h),hM'.Flt,fun b h1 h2=>?_,fun k b x s n h=>?_,fun k k' b x s n x' s' n' h h'=>?_,
    fun d=>?_,fun id=>?_,fun id hid=>?_,?_,fun b hb=>?_,fun e row h=>?_,fun id=>(hM'.ow id).mono rfl (fun _=>rfl) (LE.refl _) ⟨fun _ h=>h,fun k x hs h=>(by
      cases k with
      | L d=>cases h
      | O i=>exact h
      | S i j=>cases hs),fun _ _=>rfl,fun _ _ _ _ _ _ _=>rfl⟩ (fun _ _ _ _ _ _ _=>rfl)⟩,(killTs_sound ht).mono hle,⟨fun _ h=>h,fun k x hs h=>?_,fun _ _=>rfl,fun _ _ _ _ _ _ _=>rfl⟩⟩
  · rw [hM'.keep b (Nat.lt_of_lt_of_le h1 hM.size) (fun h=>by
      rcases MG b h with h3 | h3
      · exact h2 h3
      · omega)]
    exact hM.keep b h1 h2
  · rcases hM'.Fnew b h1 (Nat.lt_of_lt_of_le h2 hM.size) with h3 | h3
    · exact hM.Fnew b h3 h2
    · rcases MG b h3 with h4 | h4
      · exact .inr h4
      · omega
  · cases k with
    | L d =>
      obtain ⟨h1,h2,h3⟩:=hM.own _ b x s n h
      refine ⟨fun hF=>?_,Nat.lt_of_lt_of_le h2 hsz,h3⟩
      rcases hM'.Fnew b hF h2 with h4 | h4
      · exact h1 h4
      · exact LnotM d b x s n h h4
    | O id =>
      obtain ⟨h1,h2,h3⟩:=hM'.own _ b x s n h
      refine ⟨h1,h2,?_⟩
      rcases h3 with h3 | h3
      · exact MG b h3
      · exact .inr (Nat.le_trans hM.size h3)
    | S id i =>
      obtain ⟨h1,h2,h3⟩:=hM'.own _ b x s n h
      refine ⟨h1,h2,?_⟩
      rcases h3 with h3 | h3
      · exact MG b h3
      · exact .inr (Nat.le_trans hM.size h3)
  · have mix:∀ {d:Nat} {key:Key} {b x s n x' s' n':Nat},E.mu (.L d)=some (.blk b x s n)→E'.mu key=some (.blk b x' s' n')→False:=by
      intro d key b x s n x' s' n' h h'
      rcases (hM'.own _ _ _ _ _ h').2.2 with h3 | h3
      · exact LnotM d b x s n h h3
      · have h2:=(hM.own _ _ _ _ _ h).2.1
        have h3:w.heap.size≤b:=h3
        omega
    cases k with
    | L d =>
      cases k' with
      | L d'=>exact hM.inj _ _ _ _ _ _ _ _ _ h h'
      | O id=>exact (mix h h').elim
      | S id i=>exact (mix h h').elim
    | O id =>
      cases k' with
      | L d'=>exact (mix h' h).elim
      | O id'=>exact hM'.inj _ _ _ _ _ _ _ _ _ h h'
      | S id' i=>exact hM'.inj _ _ _ _ _ _ _ _ _ h h'
    | S id i =>
      cases k' with
      | L d'=>exact (mix h' h).elim
      | O id'=>exact hM'.inj _ _ _ _ _ _ _ _ _ h h'
      | S id' i=>exact hM'.inj _ _ _ _ _ _ _ _ _ h h'
  · have:=killLs_sound (ids:=deadNow S.o o' 0) hM.loc d
    revert this
    show LocR _ _ (lookL (killLs (deadNow S.o o' 0) S.l) d) d→LocR _ _ (lookL (killLs (deadNow S.o o' 0) S.l) d) d
    cases lookL (killLs (deadNow S.o o' 0) S.l) d with
    | none =>
      intro h
      show E.mu (.L d)=none
      exact (remAll_L (ids:=deadNow S.o o' 0)).symm.trans h
    | some row =>
      rintro (⟨b,h1,h2,h3,us,ty,h4,h5,h6⟩ | ⟨h0,h⟩)
      · have h1':E.mu (.L d)=some (.blk b 0 row.length 1):=remAll_L.symm.trans h1
        refine .inl ⟨b,h1',h2,h3,us,ty,?_,h5,fun m c hc=>?_⟩
        · show E'.h[b]?=_
          rw [hM'.hp,hM'.keep b (hM.own _ _ _ _ _ h1').2.1 (LnotM d b _ _ _ h1')]
          have:E.h[b]?=_:=h4
          rw [hM.hp] at this
          exact this
        · obtain ⟨u,hu,hv⟩:=h6 m c hc
          exact ⟨u,hu,hv.mono hle⟩
      · exact .inr ⟨show E.mu (.L d)=none from (remAll_L (ids:=deadNow S.o o' 0)).symm.trans h0,h⟩
  · have:=hM'.obj id
    refine this.mono2 (E':=⟨E'.F,mergeMu E.mu E'.mu,E'.h⟩) ⟨fun _ h=>h,fun _ _ _ h=>(by cases h),fun _ _=>rfl,fun _ _ _ _ _ _ h=>(by cases h)⟩ ⟨fun _ h=>h,fun k x hs h=>?_,fun _ _=>rfl,fun _ _ _ _ _ _ _=>rfl⟩ (fun _ _ _ _ _=>rfl)
    cases k with
    | S _ _=>cases hs
    | L d=>cases h
    | O i=>exact h
  · have hid':id<S.o.length:=Nat.lt_of_lt_of_le hid hM.bl
    rcases hM'.old id hid' with h | h
    · exact .inl h
    · rcases hM.old id hid with h2 | h2
      · refine .inl ?_
        have hob:=hM.obj id
        rw [h2] at hob
        have hn:E.mu (.O id)=none:=by
          revert hob
          cases E.mu (.O id) with
          | none=>exact fun _=>rfl
          | some _=>exact fun h=>h.elim
        have hob':=hM'.obj id
        rw [h] at hob'
        have hn':(ghO E.ob w).mu id=none:=hn
        rw [hn'] at hob'
        show o'[id]?=some .dead
        have hlt:id<o'.length:=Nat.lt_of_lt_of_le hid' hM'.bl
        have hx:(stO o' S.o.length).o[id]?=some o'[id]:=List.getElem?_eq_getElem hlt
        rw [hx] at hob'
        rw [List.getElem?_eq_getElem hlt]
        revert hob'
        cases o'[id] with
        | dead=>exact fun _=>rfl
        | arr _ _ _=>exact fun h=>h.elim
        | mapo _ _=>exact fun h=>h.elim
        | own _ _ _ _=>exact fun h=>h.elim
        | lp _ _ _ _ _ _=>exact fun h=>h.elim
      · refine .inr ?_
        show E'.mu (.O id)=G.mu id
        rw [h,← h2]
        rfl
  · exact Nat.le_trans hM.bl hM'.bl
  · rw [← hM.szs b hb]
    exact hM'.szs b (Nat.lt_of_lt_of_le hb hM.size)
  · obtain ⟨h1,h2⟩:=hM.pk e row h
    exact ⟨h1,killLs_pend h2 (hM.pend_inv h)⟩
  · cases k with
    | S _ _=>cases hs
    | L d=>rw [hL' d] at h; cases h
    | O id=>exact h
theorem scall_sound {K:St→Prop} {c:Call} {x:Operand} {fid:Nat} {first cap as:List AV} (hM:SimM G pd E S w) (ht:TR G E S.t a) (ho:o.op=.call c) (hcal:c.callee=.value x)
    (hx:VR E (.fn fid first cap) (a.eval x)) (has:VRs E as (c.args.toList.map a.eval)) (hnl:(first++as++cap).all (noL 4)=true)
    (h:SCall P fid (first++as++cap) S.o fun r o'=>killTL (deadNow S.o o' 0) S.t S.l fun t l=>putK o.dst r { t:=t,l:=l,o:=o',b:=S.b } K):XStep P G pd o a w K:=by
  obtain ⟨us,ws,hfv,h1,h2⟩:∃ us ws,a.eval x=.func (.func fid) us ws∧VRs E first us.toList∧VRs E cap ws.toList:=by
    generalize a.eval x=u at hx
    cases hx with
    | fn us ws h1 h2 h3 h4=>exact ⟨us,ws,rfl,⟨by simpa using h1,fun m c u hc hu=>h2 m c u hc (by simpa using hu)⟩,⟨by simpa using h3,fun m c u hc hu=>h4 m c u hc (by simpa using hu)⟩⟩
  have hall:=(h1.append has).append h2
  intro next Q hn
  unfold Oper.wp
  rw [run_callV ho hcal hfv h.1 w,Oper.upon_enter]
  refine (h.2 E.ob w _ hM.sub ht.gt (by
    refine ⟨by simpa using hall.1,fun m c u hc hu=>?_⟩
    exact noL_ob 4 (List.all_eq_true.1 hnl c (List.mem_of_getElem? hc)) (hall.2 m c u hc (by simpa using hu)))).mono ?_
  rintro e w' ⟨v,r,o',E',hK,rfl,hM',hv⟩
  rw [killTL_iff,putK_iff] at hK
  obtain ⟨hS,htr,hle⟩:=hM.back ht hM'
  exact hn _ _ _ w' hK (hS.congr setT_l setT_o setT_b) (htr.put (hv.mono hle))
end
section
variable {G:Gh} {p:Nat→Option (List AV)} {E:Env} {S M:St} {w:World} {P:Program} {a:Act}
theorem SimM.reS (hM:SimM G p E M w) {id:Nat} {mu':Key→Option MV} (hsame:∀ k,(∀ j,k≠.S id j)→mu' k=E.mu k)
    (hown:∀ j b o s n,mu' (.S id j)=some (.blk b o s n)→¬ E.F b∧b<w.heap.size∧(G.M b∨G.w0.heap.size≤b)∧∀ k o' s' n',(∀ i,k≠.S id i)→E.mu k≠some (.blk b o' s' n'))
    (hinj:∀ j j' b o s n o' s' n',mu' (.S id j)=some (.blk b o s n)→mu' (.S id j')=some (.blk b o' s' n')→j=j')
    {x y:Ob} (hx:M.o[id]?=some x) (hnx:x≠.dead) (hO:ObR ⟨E.F,mu',E.h⟩ (some y) (E.mu (.O id))) (hW:OwnR ⟨E.F,mu',E.h⟩ id (some y)) :
    LE E ⟨E.F,mu',E.h⟩∧SimM G p ⟨E.F,mu',E.h⟩ { t:=M.t,l:=M.l,o:=M.o.set id y,b:=M.b } w:=by
  have hlt:id<M.o.length:=(List.getElem?_eq_some_iff.1 hx).1
  have hns:∀ k:Key,k.isS=false→mu' k=E.mu k:=fun k hk=>hsame k (fun j e=>by subst e; cases hk)
  have hle:LE E ⟨E.F,mu',E.h⟩:=⟨fun _ h=>h,fun k z hs h=>(hns k hs).trans h,fun _ _=>rfl,fun _ _ _ _ _ _ _=>rfl⟩
  have isit:∀ k:Key,(∃ j,k=.S id j)∨∀ j,k≠.S id j:=fun k=>by
    cases k with
    | L d=>exact .inr (fun j e=>by cases e)
    | O i=>exact .inr (fun j e=>by cases e)
    | S c j =>
      by_cases h:c=id
      · subst h
        exact .inl ⟨j,rfl⟩
      · exact .inr (fun j' e=>h (by cases e; rfl))
  refine ⟨hle,hM.hp,hM.os,hM.tape,hM.output,hM.size,hM.keep,hM.F0,hM.Flt,hM.Fnew,fun k b o s n h=>?_,fun k k' b o s n o' s' n' h h'=>?_,fun d=>?_,fun i=>?_,fun i hi=>?_,by simpa using hM.bl,hM.szs,fun d row h=>?_,fun i=>?_⟩
  · rcases isit k with ⟨j,rfl⟩ | hk
    · obtain ⟨h1,h2,h3,_⟩:=hown j b o s n h
      exact ⟨h1,h2,h3⟩
    · exact hM.own k b o s n ((hsame k hk).symm.trans h)
  · rcases isit k with ⟨j,rfl⟩ | hk
    · rcases isit k' with ⟨j',rfl⟩ | hk'
      · rw [hinj j j' _ _ _ _ _ _ _ h h']
      · exact absurd ((hsame k' hk').symm.trans h') ((hown j _ _ _ _ h).2.2.2 k' _ _ _ hk')
    · rcases isit k' with ⟨j',rfl⟩ | hk'
      · exact absurd ((hsame k hk).symm.trans h) ((hown j' _ _ _ _ h').2.2.2 k _ _ _ hk)
      · exact hM.inj _ _ _ _ _ _ _ _ _ ((hsame k hk).symm.trans h) ((hsame k' hk').symm.trans h')
  · have:=hM.loc d
    revert this
    show LocR p E (lookL M.l d) d→LocR p _ (lookL M.l d) d
    cases lookL M.l d with
    | none=>exact fun h=>(hns (.L d) rfl).trans h
    | some row =>
      rintro (⟨b',h1,h2⟩ | ⟨h1,h2⟩)
      · exact .inl ⟨b',(hns (.L d) rfl).trans h1,h2.mono hle⟩
      · exact .inr ⟨(hns (.L d) rfl).trans h1,h2⟩
  · show ObR _ (M.o.set id y)[i]? (mu' (.O i))
    rw [hns (.O i) rfl]
    by_cases h:id=i
    · subst h
      rw [List.getElem?_set_self hlt]
      exact hO
    · rw [List.getElem?_set,if_neg h]
      exact (hM.obj i).mono hle (fun _ _ _ _ _=>rfl)
  · show (M.o.set id y)[i]?=some .dead∨mu' (.O i)=G.mu i
    rw [hns (.O i) rfl]
    by_cases h:id=i
    · subst h
      rcases hM.old id hi with h1 | h1
      · rw [hx] at h1
        cases h1
        exact absurd rfl hnx
      · exact .inr h1
    · rw [List.getElem?_set,if_neg h]
      exact hM.old i hi
  · obtain ⟨h1,h2⟩:=hM.pk d row h
    exact ⟨(hns (.L d) rfl).trans h1,h2⟩
  · show OwnR _ i (M.o.set id y)[i]?
    by_cases h:id=i
    · subst h
      rw [List.getElem?_set_self hlt]
      exact hW
    · rw [List.getElem?_set,if_neg h]
      exact (hM.ow i).mono (hns (.O i) rfl) (fun j=>hsame (.S i j) (fun j' e=>h (by cases e; rfl))) hle.fz hle.ob (fun _ _ _ _ _ _ _=>rfl)
theorem SimM.ownS (hM:SimM G p E M w) {id j b o s n:Nat} (h:E.mu (.S id j)=some (.blk b o s n)) :
    ¬ E.F b∧b<w.heap.size∧(G.M b∨G.w0.heap.size≤b)∧∀ k o' s' n',k≠.S id j→E.mu k≠some (.blk b o' s' n'):=by
  obtain ⟨h1,h2,h3⟩:=hM.own _ _ _ _ _ h
  exact ⟨h1,h2,h3,fun k o' s' n' hk h'=>hk (hM.inj _ _ _ _ _ _ _ _ _ h' h)⟩
theorem takeout_sound (hM:SimM G p E S w) {id i sz:Nat} {ks:Option (List AV)} {cells:List (Option (List (List AV)))} {rows:List (List AV)} (hob:S.o[id]?=some (.own ks sz cells none)) (hc:cells[i]?=some (some rows))
    {b o s n:Nat} (hmu:E.mu (.O id)=some (.blk b o s n)) :
    ∃ E' u,SimM G p E' { t:=S.t,l:=S.l,o:=S.o.set id (.own ks sz cells (some (i,hAV sz S.o.length)))++[.arr true (rsz sz) rows],b:=S.b } w∧LE E E'∧VR E' (.mf S.o.length) u∧valAt w.heap b o i=some u:=by
  have hlt:id<S.o.length:=(List.getElem?_eq_some_iff.1 hob).1
  have hw:=hM.ow id
  rw [hob] at hw
  obtain ⟨hz,hbey,hcells⟩:=hw
  obtain ⟨hbase,hall⟩:=hcells b o s n hmu
  obtain ⟨u,hu,hcell⟩:=hall i _ hc
  have hcell:CellR E sz (some rows) (E.mu (.S id i)) u:=hcell
  have hOb:=hM.obj id
  rw [hob,hmu] at hOb
  have hOb:ks=none→s=1∧n=cells.length:=hOb
  obtain ⟨mu1,hmu1⟩:∃ mu1:Key→Option MV,mu1=fun k=>if k=.S id i then none else E.mu k:=⟨_,rfl⟩
  have hm1i:mu1 (.S id i)=none:=by rw [hmu1]; simp
  have hm1:∀ k,k≠.S id i→mu1 k=E.mu k:=fun k hk=>by rw [hmu1]; show (if k=.S id i then none else E.mu k)=_; rw [if_neg hk]
  have hfz:LE E.fz (Env.fz ⟨E.F,mu1,E.h⟩):=LE.refl _
  have hW1:OwnR ⟨E.F,mu1,E.h⟩ id (some (.own ks sz cells (some (i,.bad)))):=by
    refine ⟨hz,fun j hj=>?_,fun b' o' s' n' hm=>?_⟩
    · show mu1 (.S id j)=none
      by_cases h:Key.S id j=.S id i
      · rw [h]; exact hm1i
      · rw [hm1 _ h]; exact hbey j hj
    · have hm:E.mu (.O id)=some (.blk b' o' s' n'):=(hm1 _ (fun e=>by cases e)).symm.trans hm
      obtain ⟨h4,h6⟩:=hcells b' o' s' n' hm
      refine ⟨h4,fun j c hj=>?_⟩
      obtain ⟨u',hu',h7⟩:=h6 j c hj
      refine ⟨u',hu',?_⟩
      show if i=j then mu1 (.S id j)=none∧VR _ .bad u' else CellR _ sz c (mu1 (.S id j)) u'
      by_cases hij:i=j
      · subst hij
        rw [if_pos rfl]
        exact ⟨hm1i,.bad _ _⟩
      · rw [if_neg hij,hm1 _ (fun e=>hij (by cases e; rfl))]
        exact CellR.mono h7 hfz (fun _ _ _ _ _=>rfl)
  obtain ⟨hle1,hS1⟩:=hM.reS (mu':=mu1) (fun k hk=>hm1 k (hk i)) (fun j b' o' s' n' h=>by
      by_cases hj:Key.S id j=.S id i
      · rw [hj,hm1i] at h; cases h
      · rw [hm1 _ hj] at h
        obtain ⟨h1,h2,h3,h4⟩:=hM.ownS h
        exact ⟨h1,h2,h3,fun k o2 s2 n2 hk=>h4 k o2 s2 n2 (hk j)⟩)
    (fun j j' b' o' s' n' o2 s2 n2 h h'=>by
      by_cases hj:Key.S id j=.S id i
      · rw [hj,hm1i] at h; cases h
      · by_cases hj':Key.S id j'=.S id i
        · rw [hj',hm1i] at h'; cases h'
        · rw [hm1 _ hj] at h
          rw [hm1 _ hj'] at h'
          have:=hM.inj _ _ _ _ _ _ _ _ _ h h'
          cases this
          rfl) hob (fun e=>by cases e) (y:=.own ks sz cells (some (i,.bad))) (by rw [hmu]; exact hOb) hW1
  have hlen:(S.o.set id (.own ks sz cells (some (i,.bad)))).length=S.o.length:=by simp
  obtain ⟨mvi,hmvi⟩:∃ mvi,E.mu (.S id i)=some mvi:=by
    cases h:E.mu (.S id i) with
    | none=>rw [h] at hcell; exact hcell.elim
    | some mv=>exact ⟨mv,rfl⟩
  rw [hmvi] at hcell
  have hnew1:mu1 (.O S.o.length)=none:=(hm1 _ (fun e=>by cases e)).trans (newid hM)
  have hS2:=hS1.addkey (key:=.O S.o.length) (mv:=mvi) (fun d e=>by cases e) hnew1 (fun b' o' s' n' e=>by
      subst e
      obtain ⟨h1,h2,h3,h4⟩:=hM.ownS hmvi
      refine ⟨h1,h2,h3,fun k o2 s2 n2 h=>?_⟩
      by_cases hk:k=.S id i
      · subst hk
        rw [show (Env.mu ⟨E.F,mu1,E.h⟩ (.S id i))=none from hm1i] at h
        cases h
      · exact h4 k o2 s2 n2 hk ((hm1 k hk).symm.trans h))
    (M':={ t:=S.t,l:=S.l,o:=S.o.set id (.own ks sz cells (some (i,.bad)))++[.arr true (rsz sz) rows],b:=S.b }) (fun _ _=>rfl)
    (fun j hj=>by
      show (S.o.set id _++[_])[j]?=(S.o.set id _)[j]?
      rcases Nat.lt_trichotomy j S.o.length with h | h | h
      · rw [List.getElem?_append_left (by rw [hlen]; exact h)]
      · exact absurd (by rw [h]) hj
      · rw [List.getElem?_eq_none (by rw [List.length_append,hlen]; simp; omega),List.getElem?_eq_none (by rw [hlen]; omega)])
    rfl (by have:=hM.bl; show S.b≤(S.o.set id _++[_]).length; rw [List.length_append,hlen]; simp; omega) (fun j e=>by cases e; exact hM.bl) (fun d e=>by cases e)
    (fun j e=>by
      cases e
      show ObR _ (S.o.set id _++[_])[S.o.length]? _
      rw [List.getElem?_append_right (by rw [hlen]; exact Nat.le_refl _),hlen,Nat.sub_self]
      cases mvi with
      | virt=>exact hcell.1
      | blk b1 o1 s1 n1=>exact ⟨hcell.1,hcell.2.1⟩)
    (fun j e=>by
      rcases e with e | ⟨i',e⟩ <;> cases e
      rw [List.getElem?_append_right (by rw [hlen]; exact Nat.le_refl _),hlen,Nat.sub_self]
      exact hS1.ow_new rfl (by rw [List.getElem?_eq_none (by show (S.o.set id _).length≤_; rw [hlen]; exact Nat.le_refl _)]; rfl) rfl)
  have hle2:LE ⟨E.F,mu1,E.h⟩ ⟨E.F,addMu mu1 (.O S.o.length) mvi,E.h⟩:=addMu_le (E:=⟨E.F,mu1,E.h⟩) hnew1
  have hm2:addMu mu1 (.O S.o.length) mvi (.O S.o.length)=some mvi:=by unfold addMu; rw [if_pos rfl]
  have hm2i:addMu mu1 (.O S.o.length) mvi (.S id i)=none:=by unfold addMu; rw [if_neg (fun e=>by cases e)]; exact hm1i
  have hv:∀ E':Env,E'.mu (.O S.o.length)=some mvi→E'.h=E.h→VR E' (.mf S.o.length) u∧VR E' (hAV sz S.o.length) u:=by
    intro E' hE hE2
    unfold hAV
    cases mvi with
    | virt =>
      obtain ⟨_,c,rfl,hnn⟩:=hcell
      cases c with
      | none =>
        cases hz0:nnz sz with
        | true=>exact absurd (hnn hz0) (by simp)
        | false=>exact ⟨.mfn hE,.mfn hE⟩
      | some c =>
        cases nnz sz with
        | true=>exact ⟨.mfe c hE,.mfxe c hE⟩
        | false=>exact ⟨.mfe c hE,.mfe c hE⟩
    | blk b1 o1 s1 n1 =>
      obtain ⟨_,_,cap,h6,h7,rfl⟩:=hcell
      have h8:o1 + cap * s1≤sizeH E'.h b1:=by rw [hE2]; exact h7
      cases nnz sz with
      | true=>exact ⟨.mf cap hE h6 h8,.mfx cap hE h6 h8⟩
      | false=>exact ⟨.mf cap hE h6 h8,.mf cap hE h6 h8⟩
  have hv1:∀ E':Env,E'.mu (.O S.o.length)=some mvi→E'.h=E.h→VR E' (.mf S.o.length) u:=fun E' h1 h2=>(hv E' h1 h2).1
  have hv2:∀ E':Env,E'.mu (.O S.o.length)=some mvi→E'.h=E.h→VR E' (hAV sz S.o.length) u:=fun E' h1 h2=>(hv E' h1 h2).2
  have hW3:OwnR ⟨E.F,addMu mu1 (.O S.o.length) mvi,E.h⟩ id (some (.own ks sz cells (some (i,hAV sz S.o.length)))):=by
    have hS2w:=hS2.ow id
    have hget:(S.o.set id (.own ks sz cells (some (i,.bad)))++[.arr true (rsz sz) rows])[id]?=some (.own ks sz cells (some (i,.bad))):=by
      rw [List.getElem?_append_left (by rw [hlen]; exact hlt),List.getElem?_set_self hlt]
    rw [hget] at hS2w
    obtain ⟨q1,q2,q3⟩:=hS2w
    refine ⟨q1,q2,fun b' o' s' n' hm=>?_⟩
    have hm0:E.mu (.O id)=some (.blk b' o' s' n'):=by
      have h:addMu mu1 (.O S.o.length) mvi (.O id)=some (.blk b' o' s' n'):=hm
      unfold addMu at h
      rw [if_neg (fun e=>by cases e; omega),hm1 _ (fun e=>by cases e)] at h
      exact h
    obtain ⟨h4,h6⟩:=q3 b' o' s' n' hm
    refine ⟨h4,fun j c hj=>?_⟩
    obtain ⟨u',hu',h7⟩:=h6 j c hj
    refine ⟨u',hu',?_⟩
    have h7:(if i=j then addMu mu1 (.O S.o.length) mvi (.S id j)=none∧VR _ .bad u' else CellR _ sz c (addMu mu1 (.O S.o.length) mvi (.S id j)) u'):=h7
    show (if i=j then addMu mu1 (.O S.o.length) mvi (.S id j)=none∧VR _ (hAV sz S.o.length) u' else CellR _ sz c (addMu mu1 (.O S.o.length) mvi (.S id j)) u')
    by_cases hij:i=j
    · subst hij
      rw [if_pos rfl]
      refine ⟨hm2i,?_⟩
      rw [hmu] at hm0
      cases hm0
      have hu':valAt E.h b o i=some u':=hu'
      rw [hu] at hu'
      cases hu'
      exact hv2 _ hm2 rfl
    · rw [if_neg hij] at h7 ⊢
      exact h7
  obtain ⟨hle3,hS3⟩:=hS2.reS (id:=id) (mu':=addMu mu1 (.O S.o.length) mvi) (fun _ _=>rfl) (fun j b' o' s' n' h=>by
      obtain ⟨h1,h2,h3,h4⟩:=hS2.ownS (id:=id) (j:=j) h
      exact ⟨h1,h2,h3,fun k o2 s2 n2 hk=>h4 k o2 s2 n2 (hk j)⟩)
    (fun j j' b' o' s' n' o2 s2 n2 h h'=>by
      have:=hS2.inj (.S id j) (.S id j') _ _ _ _ _ _ _ h h'
      cases this
      rfl)
    (x:=.own ks sz cells (some (i,.bad))) (y:=.own ks sz cells (some (i,hAV sz S.o.length))) (by
      show (S.o.set id _++[_])[id]?=_
      rw [List.getElem?_append_left (by rw [hlen]; exact hlt),List.getElem?_set_self hlt]) (fun e=>by cases e) (by
      have h:addMu mu1 (.O S.o.length) mvi (.O id)=some (.blk b o s n):=by
        unfold addMu
        rw [if_neg (fun e=>by cases e; omega),hm1 _ (fun e=>by cases e)]
        exact hmu
      show ObR _ _ (addMu mu1 (.O S.o.length) mvi (.O id))
      rw [h]
      exact hOb) hW3
  refine ⟨_,u,?_,(hle1.trans hle2).trans hle3,hv1 _ hm2 rfl,?_⟩
  · have e:(S.o.set id (Ob.own ks sz cells (some (i,.bad)))++[Ob.arr true (rsz sz) rows]).set id (Ob.own ks sz cells (some (i,hAV sz S.o.length)))=S.o.set id (Ob.own ks sz cells (some (i,hAV sz S.o.length)))++[Ob.arr true (rsz sz) rows]:=by
      rw [List.set_append_left _ _ (by rw [hlen]; exact hlt),List.set_set]
    have hS3:SimM G p _ { t:=S.t,l:=S.l,o:=(S.o.set id (Ob.own ks sz cells (some (i,.bad)))++[Ob.arr true (rsz sz) rows]).set id (Ob.own ks sz cells (some (i,hAV sz S.o.length))),b:=S.b } w:=hS3
    rw [e] at hS3
    exact hS3
  · rw [← hM.hp]
    exact hu
theorem putback_sound (hM:SimM G p E S w) (ht:TR G E S.t a) {id j k sz:Nat} {ks:Option (List AV)} {cells:List (Option (List (List AV)))} {rows:List (List AV)} {ha:AV} (hha:ha=.mf k∧nnz sz=false∨ha=.mfx k) (hob:S.o[id]?=some (.own ks sz cells (some (j,ha)))) (hk:S.o[k]?=some (.arr true (rsz sz) rows)) (hj:j<cells.length) :
    ∃ E',SimM G p E' { t:=(gone k S).t,l:=(gone k S).l,o:=(gone k S).o.set id (.own ks sz (cells.set j (some rows)) none),b:=S.b } w∧TR G E' (gone k S).t a∧E'.mu (.O id)=E.mu (.O id):=by
  have hklt:k<S.o.length:=(List.getElem?_eq_some_iff.1 hk).1
  have hne:k≠id:=fun e=>by subst e; rw [hob] at hk; cases hk
  have hw:=hM.ow id
  rw [hob] at hw
  obtain ⟨hz,hbey,hcells⟩:=hw
  have hOb:=hM.obj id
  rw [hob] at hOb
  have hOk:=hM.obj k
  rw [hk] at hOk
  obtain ⟨mvk,hmk⟩:∃ mvk,E.mu (.O k)=some mvk:=by
    cases h:E.mu (.O k) with
    | none=>rw [h] at hOk; exact hOk.elim
    | some mv=>exact ⟨mv,rfl⟩
  rw [hmk] at hOk
  obtain ⟨hS1,ht1,hke⟩:=gone_sound hM ht hklt
  have hgl:(gone k S).o.length=S.o.length:=by simp [gone]
  have hidlt:id<S.o.length:=(List.getElem?_eq_some_iff.1 hob).1
  obtain ⟨mu1,hmu1⟩:∃ mu1:Key→Option MV,mu1=fun x=>if x=.S id j then some mvk else remMu E.mu (.O k) x:=⟨_,rfl⟩
  have hm1j:mu1 (.S id j)=some mvk:=by rw [hmu1]; simp
  have hm1:∀ x,x≠.S id j→mu1 x=remMu E.mu (.O k) x:=fun x hx=>by rw [hmu1]; show (if x=.S id j then some mvk else remMu E.mu (.O k) x)=_; rw [if_neg hx]
  have hS:∀ i,remMu E.mu (.O k) (.S id i)=E.mu (.S id i):=fun i=>remMu_S (k:=.O k) (a:=id) (i:=i) (by intro e; cases e) (by intro e; cases e; exact hne rfl)
  have hgid:(gone k S).o[id]?=some (killOb (.O k) (.own ks sz cells (some (j,ha)))):=by
    show ((S.o.map (killOb (.O k))).set k .dead)[id]?=_
    rw [List.getElem?_set,if_neg hne,List.getElem?_map,hob]
    rfl
  have hfree:∀ b o s n,mvk=.blk b o s n→¬ E.F b∧b<w.heap.size∧(G.M b∨G.w0.heap.size≤b)∧∀ x o' s' n',remMu E.mu (.O k) x≠some (.blk b o' s' n'):=by
    intro b o s n e
    subst e
    obtain ⟨h1,h2,h3⟩:=hM.own _ _ _ _ _ hmk
    refine ⟨h1,h2,h3,fun x o' s' n' h=>?_⟩
    obtain ⟨h4,h5⟩:=remMu_some h
    exact h4 (hM.inj _ _ _ _ _ _ _ _ _ h5 hmk)
  have hW1:OwnR ⟨E.F,mu1,E.h⟩ id (some (.own ks sz (cells.set j (some rows)) none)):=by
    refine ⟨hz,fun i hi=>?_,fun b o s n hm=>?_⟩
    · rw [List.length_set] at hi
      show mu1 (.S id i)=none
      rw [hm1 _ (fun e=>by cases e; omega),hS]
      exact hbey i hi
    · have hm:E.mu (.O id)=some (.blk b o s n):=by
        have h:mu1 (.O id)=some (.blk b o s n):=hm
        rw [hm1 _ (fun e=>by cases e),remMu_O (fun e=>hne (by cases e; rfl))] at h
        exact h
      obtain ⟨h4,h6⟩:=hcells b o s n hm
      refine ⟨by rw [List.length_set]; exact h4,fun i c hi=>?_⟩
      rw [List.getElem?_set] at hi
      by_cases hij:j=i
      · subst hij
        rw [if_pos rfl,if_pos hj] at hi
        cases hi
        obtain ⟨u,hu,h7⟩:=h6 j cells[j] (List.getElem?_eq_getElem hj)
        have h7:(if j=j then E.mu (.S id j)=none∧VR E.ob ha u else CellR E sz cells[j] (E.mu (.S id j)) u):=h7
        rw [if_pos rfl] at h7
        refine ⟨u,hu,?_⟩
        show CellR _ sz (some rows) (mu1 (.S id j)) u
        rw [hm1j]
        obtain ⟨_,hv⟩:=h7
        have virt:∀ c,nnz sz=false∨c.isSome=true→E.mu (.O k)=some .virt→u=.slice c 0 0→CellR ⟨E.F,mu1,E.h⟩ sz (some rows) (some mvk) u:=fun c hc hx e=>by
          rw [hmk] at hx
          cases hx
          exact ⟨hOk,c,e,fun h=>hc.elim (fun h2=>by rw [h2] at h; cases h) (fun h2=>h2)⟩
        have blk:∀ {b o s n cap:Nat},E.mu (.O k)=some (.blk b o s n)→n≤cap→o + cap * s≤sizeH E.h b→u=.slice (some ⟨b,o,none⟩) n cap→CellR ⟨E.F,mu1,E.h⟩ sz (some rows) (some mvk) u:=fun hx hn hc e=>by
          rw [hmk] at hx
          cases hx
          exact ⟨hOk.1,hOk.2,_,hn,hc,e⟩
        rcases hha with ⟨rfl,hnz⟩ | rfl
        · cases hv with
          | mfn hx=>exact virt none (.inl hnz) hx rfl
          | mfe c hx=>exact virt (some c) (.inl hnz) hx rfl
          | mf cap hx hn hc=>exact blk hx hn hc rfl
        · cases hv with
          | mfxe c hx=>exact virt (some c) (.inr rfl) hx rfl
          | mfx cap hx hn hc=>exact blk hx hn hc rfl
      · rw [if_neg hij] at hi
        obtain ⟨u,hu,h7⟩:=h6 i c hi
        have h7:(if j=i then E.mu (.S id i)=none∧VR E.ob ha u else CellR E sz c (E.mu (.S id i)) u):=h7
        rw [if_neg hij] at h7
        refine ⟨u,hu,?_⟩
        show CellR _ sz c (mu1 (.S id i)) u
        rw [hm1 _ (fun e=>hij (by cases e; rfl)),hS]
        exact CellR.mono h7 (LE.refl _) (fun _ _ _ _ _=>rfl)
  obtain ⟨hle,hS2⟩:=hS1.reS (id:=id) (mu':=mu1) (fun x hx=>hm1 x (hx j)) (fun i b o s n h=>by
      by_cases hij:Key.S id i=.S id j
      · rw [hij,hm1j] at h
        obtain ⟨h1,h2,h3,h4⟩:=hfree b o s n (Option.some.inj h)
        exact ⟨h1,h2,h3,fun x o' s' n' _=>h4 x o' s' n'⟩
      · rw [hm1 _ hij] at h
        obtain ⟨h1,h2,h3,h4⟩:=hS1.ownS (id:=id) (j:=i) h
        exact ⟨h1,h2,h3,fun x o' s' n' hx=>h4 x o' s' n' (hx i)⟩)
    (fun i i' b o s n o' s' n' h h'=>by
      by_cases hij:Key.S id i=.S id j
      · by_cases hij':Key.S id i'=.S id j
        · cases hij
          cases hij'
          rfl
        · rw [hij,hm1j] at h
          rw [hm1 _ hij'] at h'
          exact absurd h' ((hfree b o s n (Option.some.inj h)).2.2.2 _ _ _ _)
      · by_cases hij':Key.S id i'=.S id j
        · rw [hij',hm1j] at h'
          rw [hm1 _ hij] at h
          exact absurd h ((hfree b o' s' n' (Option.some.inj h')).2.2.2 _ _ _ _)
        · rw [hm1 _ hij] at h
          rw [hm1 _ hij'] at h'
          have:=hS1.inj (.S id i) (.S id i') _ _ _ _ _ _ _ h h'
          cases this
          rfl)
    hgid (fun e=>by cases e) (y:=.own ks sz (cells.set j (some rows)) none) (by
      show ObR _ _ (remMu E.mu (.O k) (.O id))
      rw [remMu_O (fun e=>hne (by cases e; rfl))]
      revert hOb
      cases E.mu (.O id) with
      | none=>exact fun h=>h.elim
      | some mv =>
        cases mv with
        | virt =>
          intro h
          have h:ks=none∧cells=[]:=h
          rw [h.2] at hj
          cases hj
        | blk b o s n =>
          intro h
          have h:ks=none→s=1∧n=cells.length:=h
          exact fun e=>⟨(h e).1,by rw [List.length_set]; exact (h e).2⟩) hW1
  exact ⟨_,hS2,ht1.mono hle,(hm1 _ (fun e=>by cases e)).trans (remMu_O (fun e=>hne (by cases e; rfl)))⟩
theorem killIds_one {k:Nat} {K:St→Prop}:killIds [k] S K↔K (gone k S):=killIds_iff (ids:=[k])
theorem putBackK_sound (hM:SimM G p E S w) (ht:TR G E S.t a) {id:Nat} {K:St→Prop} (h:putBackK S id K) :
    ∃ S' E',K S'∧SimM G p E' S' w∧TR G E' S'.t a:=by
  unfold putBackK at h
  split at h
  · rename_i ks sz cells j hob
    obtain ⟨hj,h⟩:=Chk_elim h
    rw [forceO_iff] at h
    rw [Nat.blt_eq] at hj
    have hw:=hM.ow id
    rw [hob] at hw
    obtain ⟨hz,hbey,hcells⟩:=hw
    have hOb:=hM.obj id
    rw [hob] at hOb
    obtain ⟨hle,hS⟩:=hM.reS (id:=id) (mu':=E.mu) (fun _ _=>rfl) (fun j b o s n h=>by
        obtain ⟨h1,h2,h3,h4⟩:=hM.ownS (id:=id) (j:=j) h
        exact ⟨h1,h2,h3,fun k o2 s2 n2 hk=>h4 k o2 s2 n2 (hk j)⟩)
      (fun j j' b o s n o2 s2 n2 h h'=>by
        have:=hM.inj (.S id j) (.S id j') _ _ _ _ _ _ _ h h'
        cases this
        rfl) hob (fun e=>by cases e) (y:=.own ks sz (cells.set j none) none) (by
        revert hOb
        cases E.mu (.O id) with
        | none=>exact fun h=>h.elim
        | some mv =>
          cases mv with
          | virt =>
            intro h
            have h:ks=none∧cells=[]:=h
            rw [h.2] at hj
            cases hj
          | blk b o s n =>
            intro h
            have h:ks=none→s=1∧n=cells.length:=h
            exact fun e=>⟨(h e).1,by rw [List.length_set]; exact (h e).2⟩) ⟨hz,fun i hi=>hbey i (by rw [List.length_set] at hi; exact hi),fun b o s n hm=>by
        obtain ⟨h4,h6⟩:=hcells b o s n hm
        refine ⟨by rw [List.length_set]; exact h4,fun i c hi=>?_⟩
        rw [List.getElem?_set] at hi
        by_cases hij:j=i
        · subst hij
          rw [if_pos rfl,if_pos hj] at hi
          cases hi
          obtain ⟨u,hu,h7⟩:=h6 j cells[j] (List.getElem?_eq_getElem hj)
          have h7:(if j=j then E.mu (.S id j)=none∧VR E.ob .nilsl u else CellR E sz cells[j] (E.mu (.S id j)) u):=h7
          rw [if_pos rfl] at h7
          obtain ⟨h8,hv⟩:=h7
          refine ⟨u,hu,?_⟩
          show CellR _ sz none (E.mu (.S id j)) u
          rw [h8]
          cases hv
          rfl
        · rw [if_neg hij] at hi
          obtain ⟨u,hu,h7⟩:=h6 i c hi
          have h7:(if j=i then E.mu (.S id i)=none∧VR E.ob .nilsl u else CellR E sz c (E.mu (.S id i)) u):=h7
          rw [if_neg hij] at h7
          exact ⟨u,hu,h7⟩⟩
    exact ⟨_,_,h,hS,ht.mono hle⟩
  · rename_i ks sz cells j k hob
    split at h
    · rename_i sz' rows hk
      replace h:=Chk_elim h
      obtain ⟨hb,h⟩:=h
      simp only [Bool.and_eq_true,Nat.blt_eq] at hb
      obtain ⟨⟨hsz,hj⟩,hnz⟩:=hb
      have hsz:=Nat.eq_of_beq_eq_true hsz
      subst hsz
      rw [killIds_one,forceO_iff] at h
      have hne:k≠id:=fun e=>by subst e; rw [hob] at hk; cases hk
      obtain ⟨E',hS,htr,hmu'⟩:=putback_sound hM ht (.inl ⟨rfl,by simpa using hnz⟩) hob hk hj
      exact ⟨_,E',h,hS,htr⟩
    · exact h.elim
  · rename_i ks sz cells j k hob
    split at h
    · rename_i sz' rows hk
      replace h:=Chk_elim h
      obtain ⟨hb,h⟩:=h
      simp only [Bool.and_eq_true,Nat.blt_eq] at hb
      obtain ⟨hsz,hj⟩:=hb
      have hsz:=Nat.eq_of_beq_eq_true hsz
      subst hsz
      rw [killIds_one,forceO_iff] at h
      have hne:k≠id:=fun e=>by subst e; rw [hob] at hk; cases hk
      obtain ⟨E',hS,htr,hmu'⟩:=putback_sound hM ht (.inr rfl) hob hk hj
      exact ⟨_,E',h,hS,htr⟩
    · exact h.elim
  · exact h.elim
  · exact ⟨S,E,h,hM,ht⟩
theorem closesK_sound:∀ {ids:List Nat} {S:St} {E:Env} {K:St→Prop},SimM G p E S w→TR G E S.t a→closesK ids S K→∃ S' E',K S'∧SimM G p E' S' w∧TR G E' S'.t a
  | [],S,E,_,hM,ht,h=>⟨S,E,h,hM,ht⟩
  | id::ids,_,_,_,hM,ht,h=>by
    obtain ⟨S1,E1,h,hM1,ht1⟩:=putBackK_sound hM ht h
    exact closesK_sound hM1 ht1 h
def dropS (id:Nat) (mu:Key→Option MV):Key→Option MV
  | .L d=>mu (.L d)
  | .O i=>mu (.O i)
  | .S c j=>if c=id then none else mu (.S c j)
theorem dropS_ne {id:Nat} {mu:Key→Option MV} (k:Key) (h:∀ j,k≠.S id j):dropS id mu k=mu k:=by
  cases k with
  | L d=>rfl
  | O i=>rfl
  | S c j =>
    show (if c=id then none else mu (.S c j))=_
    rw [if_neg (fun e=>h j (by rw [e]))]
theorem dropS_S {id:Nat} {mu:Key→Option MV} (j:Nat):dropS id mu (.S id j)=none:=by
  show (if id=id then none else mu (.S id j))=_
  rw [if_pos rfl]
theorem keyEs_len:∀ {ks:List AV},(keyEs ks).length=ks.length
  | []=>rfl
  | _::ks=>congrArg (· + 1) (keyEs_len (ks:=ks))
theorem keyEs_get:∀ {ks:List AV} {i:Nat} {e:AV×AV},(keyEs ks)[i]?=some e→ks[i]?=some e.1∧e.2=.bad
  | [],_,_,h=>by simp [keyEs] at h
  | k::ks,0,e,h=>by
    have h:some (k,AV.bad)=some e:=h
    cases h
    exact ⟨rfl,rfl⟩
  | k::ks,i + 1,e,h=>keyEs_get (ks:=ks) (i:=i) h
theorem zipKV_len:∀ {ks:List AV} {cells:List (Option (List (List AV)))},ks.length=cells.length→(zipKV ks cells).length=ks.length
  | [],[],_=>rfl
  | _::ks,_::cells,h=>congrArg (· + 1) (zipKV_len (ks:=ks) (cells:=cells) (by simpa using h))
theorem zipKV_get:∀ {ks:List AV} {cells:List (Option (List (List AV)))} {i:Nat} {e:AV×AV},(zipKV ks cells)[i]?=some e→ks[i]?=some e.1∧∃ c,cells[i]?=some c∧e.2=cellAV c
  | [],_,_,_,h=>by simp [zipKV] at h
  | _::_,[],_,_,h=>by simp [zipKV] at h
  | k::ks,c::cells,0,e,h=>by
    have h:some (k,cellAV c)=some e:=h
    cases h
    exact ⟨rfl,c,rfl,rfl⟩
  | k::ks,c::cells,i + 1,e,h=>zipKV_get (ks:=ks) (cells:=cells) (i:=i) h
theorem flat_one {α β:Type} (g:α→β):∀ l:List α,(l.map fun c=>[g c]).flatten=l.map g
  | []=>rfl
  | c::l=>by
    show [g c]++(l.map fun c=>[g c]).flatten=_
    rw [flat_one g l]
    rfl
theorem freezeL_sound (hM:SimM G p E S w) (ht:TR G E S.t a) {id sz:Nat} {cells:List (Option (List (List AV)))} (hob:S.o[id]?=some (.own none sz cells none)) :
    ∃ E',SimM G p E' { t:=S.t,l:=S.l,o:=S.o.set id (.arr true 1 (cells.map fun c=>[cellAV c])),b:=S.b } w∧TR G E' S.t a:=by
  have hlt:id<S.o.length:=(List.getElem?_eq_some_iff.1 hob).1
  have hw:=hM.ow id
  rw [hob] at hw
  obtain ⟨hz,hbey,hcells⟩:=hw
  have hOb:=hM.obj id
  rw [hob] at hOb
  obtain ⟨mu1,hmu1⟩:∃ mu1,mu1=dropS id E.mu:=⟨_,rfl⟩
  have hm1:∀ k,(∀ j,k≠.S id j)→mu1 k=E.mu k:=fun k hk=>by rw [hmu1]; exact dropS_ne k hk
  have hm1S:∀ j,mu1 (.S id j)=none:=fun j=>by rw [hmu1]; exact dropS_S j
  cases hmu:E.mu (.O id) with
  | none=>rw [hmu] at hOb; exact hOb.elim
  | some mv =>
    rw [hmu] at hOb
    cases mv with
    | virt =>
      obtain ⟨_,rfl⟩:=hOb
      obtain ⟨hle1,hS1⟩:=hM.reS (mu':=mu1) hm1 (fun j b o s n h=>by rw [hm1S] at h; cases h) (fun j j' b o s n o2 s2 n2 h h'=>by rw [hm1S] at h; cases h) hob (fun e=>by cases e)
        (y:=.arr true 1 (([]:List (Option (List (List AV)))).map fun c=>[cellAV c])) (by rw [hmu]; rfl) (fun i=>hm1S i)
      exact ⟨_,hS1,ht.mono hle1⟩
    | blk b o s n =>
      obtain ⟨rfl,rfl⟩:=hOb rfl
      obtain ⟨⟨us,ty,hb,hsz⟩,hall⟩:=hcells b o 1 cells.length hmu
      have hlen:∀ g:Option (List (List AV))→AV,∀ r∈cells.map fun c=>[g c],r.length=1:=fun g r hr=>by
        obtain ⟨c,_,rfl⟩:=List.mem_map.1 hr
        rfl
      obtain ⟨hle1,hS1⟩:=hM.reS (mu':=mu1) hm1 (fun j b o s n h=>by rw [hm1S] at h; cases h) (fun j j' b o s n o2 s2 n2 h h'=>by rw [hm1S] at h; cases h) hob (fun e=>by cases e)
        (y:=.arr true 1 (cells.map fun c=>[(fun _=>AV.bad) c])) (by
          rw [hmu]
          refine ⟨⟨rfl,by simp⟩,by omega,hlen _,us,ty,hb,by simpa using hsz,fun m c hc=>?_⟩
          rw [flat_one,List.getElem?_map] at hc
          obtain ⟨c0,h1,h2⟩:=Option.map_eq_some_iff.1 hc
          subst h2
          obtain ⟨u,hu,_⟩:=hall m c0 h1
          unfold valAt at hu
          rw [hb] at hu
          exact ⟨u,hu,.bad _ _⟩) (fun i=>hm1S i)
      obtain ⟨hle2,hS2⟩:=hS1.freeze (F':=fun x=>E.F x∨∃ j o s n,E.mu (.S id j)=some (.blk x o s n)) (fun _ h=>.inl h) (fun x hx=>by
        rcases hx with hx | ⟨j,o',s',n',hx⟩
        · exact .inl hx
        · obtain ⟨h1,h2,h3⟩:=hM.own _ _ _ _ _ hx
          refine .inr ⟨h2,h3,fun k o2 s2 n2 hk2=>?_⟩
          have hk2:mu1 k=some (.blk x o2 s2 n2):=hk2
          have hne:∀ j,k≠.S id j:=fun j e=>by rw [e,hm1S] at hk2; cases hk2
          rw [hm1 k hne] at hk2
          exact hne j (hM.inj _ _ _ _ _ _ _ _ _ hk2 hx))
      have hget:(S.o.set id (.arr true 1 (cells.map fun c=>[(fun _=>AV.bad) c])))[id]?=some (.arr true 1 (cells.map fun c=>[(fun _=>AV.bad) c])):=List.getElem?_set_self hlt
      have hfz:LE E.fz (Env.fz ⟨fun x=>E.F x∨∃ j o s n,E.mu (.S id j)=some (.blk x o s n),mu1,E.h⟩):=⟨fun _ h=>.inl h,fun _ _ _ h=>(by cases h),fun _ _=>rfl,fun _ _ _ _ _ _ h=>(by cases h)⟩
      obtain ⟨hle3,hS3⟩:=hS2.reS (id:=id) (mu':=mu1) (fun _ _=>rfl) (fun j b o s n h=>by rw [hm1S] at h; cases h) (fun j j' b o s n o2 s2 n2 h h'=>by rw [hm1S] at h; cases h) hget (fun e=>by cases e)
        (y:=.arr true 1 (cells.map fun c=>[cellAV c])) (by
          show ObR _ _ (mu1 (.O id))
          rw [hm1 _ (fun j e=>by cases e),hmu]
          refine ⟨⟨rfl,by simp⟩,by omega,hlen _,us,ty,hb,by simpa using hsz,fun m c hc=>?_⟩
          rw [flat_one,List.getElem?_map] at hc
          obtain ⟨c0,h1,h2⟩:=Option.map_eq_some_iff.1 hc
          subst h2
          obtain ⟨u,hu,hc⟩:=hall m c0 h1
          unfold valAt at hu
          rw [hb] at hu
          refine ⟨u,hu,?_⟩
          have hc:CellR E sz c0 (E.mu (.S id m)) u:=hc
          show VR (Env.fz ⟨fun x=>E.F x∨∃ j o s n,E.mu (.S id j)=some (.blk x o s n),mu1,E.h⟩) (cellAV c0) u
          revert hc
          cases c0 with
          | none =>
            cases E.mu (.S id m) with
            | none=>exact fun h=>by rw [show u=Value.slice none 0 0 from h]; exact .nilsl _
            | some mv=>cases mv <;> exact fun h=>h.elim
          | some rows =>
            cases hmi:E.mu (.S id m) with
            | none=>exact fun h=>h.elim
            | some mv =>
              cases mv with
              | virt =>
                rintro ⟨rfl,c,rfl,_⟩
                cases c with
                | none=>exact .sln _
                | some c=>exact .sle _ c 0
              | blk b1 o1 s1 n1 =>
                rintro ⟨⟨rfl,rfl⟩,⟨q1,q2,us,ty,q3,q4,q5⟩,cap,h6,h7,rfl⟩
                exact ArrR.sl (E':=Env.fz ⟨fun x=>E.F x∨∃ j o s n,E.mu (.S id j)=some (.blk x o s n),mu1,E.h⟩) ⟨q1,q2,us,ty,q3,q4,fun m c hc=>by
                  obtain ⟨u,hu,hv⟩:=q5 m c hc
                  exact ⟨u,hu,hv.mono hfz⟩⟩ (.inr ⟨m,_,_,_,hmi⟩) h6) (fun i=>hm1S i)
      refine ⟨_,?_,((ht.mono hle1).mono hle2).mono hle3⟩
      have hS3:SimM G p _ { t:=S.t,l:=S.l,o:=(S.o.set id (.arr true 1 (cells.map fun c=>[(fun _=>AV.bad) c]))).set id (.arr true 1 (cells.map fun c=>[cellAV c])),b:=S.b } w:=hS3
      rw [List.set_set] at hS3
      exact hS3
theorem freezeK_sound (hM:SimM G p E S w) (ht:TR G E S.t a) {id:Nat} {K:St→Prop} (h:freezeK S id K):∃ S' E',K S'∧SimM G p E' S' w∧TR G E' S'.t a:=by
  unfold freezeK at h
  split at h
  · rename_i ks sz cells hob
    rw [forceO_iff] at h
    have hlt:id<S.o.length:=(List.getElem?_eq_some_iff.1 hob).1
    have hw:=hM.ow id
    rw [hob] at hw
    obtain ⟨hz,hbey,hcells⟩:=hw
    have hOb:=hM.obj id
    rw [hob] at hOb
    obtain ⟨b,o,s,n,hmu⟩:∃ b o s n,E.mu (.O id)=some (.blk b o s n):=by
      revert hOb
      cases E.mu (.O id) with
      | none=>exact fun h=>h.elim
      | some mv =>
        cases mv with
        | virt=>exact fun h=>by cases h.1
        | blk b o s n=>exact fun _=>⟨b,o,s,n,rfl⟩
    obtain ⟨⟨ms,clock,hb,⟨hl1,hl2,hbn⟩,hk⟩,hall⟩:=hcells b o s n hmu
    obtain ⟨mu1,hmu1⟩:∃ mu1,mu1=dropS id E.mu:=⟨_,rfl⟩
    have hm1:∀ k,(∀ j,k≠.S id j)→mu1 k=E.mu k:=fun k hk=>by rw [hmu1]; exact dropS_ne k hk
    have hm1S:∀ j,mu1 (.S id j)=none:=fun j=>by rw [hmu1]; exact dropS_S j
    obtain ⟨hle1,hS1⟩:=hM.reS (mu':=mu1) hm1 (fun j b o s n h=>by rw [hm1S] at h; cases h) (fun j j' b o s n o2 s2 n2 h h'=>by rw [hm1S] at h; cases h) hob (fun e=>by cases e)
      (y:=.mapo true (keyEs ks)) (by
        rw [hmu]
        exact ⟨ms,clock,hb,⟨by rw [keyEs_len]; omega,hbn⟩,fun i e m h1 h2=>by
          obtain ⟨h3,h4⟩:=keyEs_get h1
          exact ⟨hk i e.1 m h3 h2,by rw [h4]; exact .bad _ _⟩⟩) (fun i=>hm1S i)
    obtain ⟨hle2,hS2⟩:=hS1.freeze (F':=fun x=>E.F x∨∃ j o s n,E.mu (.S id j)=some (.blk x o s n)) (fun _ h=>.inl h) (fun x hx=>by
      rcases hx with hx | ⟨j,o',s',n',hx⟩
      · exact .inl hx
      · obtain ⟨h1,h2,h3⟩:=hM.own _ _ _ _ _ hx
        refine .inr ⟨h2,h3,fun k o2 s2 n2 hk2=>?_⟩
        have hk2:mu1 k=some (.blk x o2 s2 n2):=hk2
        have hne:∀ j,k≠.S id j:=fun j e=>by rw [e,hm1S] at hk2; cases hk2
        rw [hm1 k hne] at hk2
        exact hne j (hM.inj _ _ _ _ _ _ _ _ _ hk2 hx))
    have hget:(S.o.set id (.mapo true (keyEs ks)))[id]?=some (.mapo true (keyEs ks)):=List.getElem?_set_self hlt
    have hfz:LE E.fz (Env.fz ⟨fun x=>E.F x∨∃ j o s n,E.mu (.S id j)=some (.blk x o s n),mu1,E.h⟩):=⟨fun _ h=>.inl h,fun _ _ _ h=>(by cases h),fun _ _=>rfl,fun _ _ _ _ _ _ h=>(by cases h)⟩
    obtain ⟨hle3,hS3⟩:=hS2.reS (id:=id) (mu':=mu1) (fun _ _=>rfl) (fun j b o s n h=>by rw [hm1S] at h; cases h) (fun j j' b o s n o2 s2 n2 h h'=>by rw [hm1S] at h; cases h) hget (fun e=>by cases e)
      (y:=.mapo true (zipKV ks cells)) (by
        show ObR _ _ (mu1 (.O id))
        rw [hm1 _ (fun j e=>by cases e),hmu]
        refine ⟨ms,clock,hb,⟨by rw [zipKV_len (by omega)]; omega,hbn⟩,fun i e m h1 h2=>?_⟩
        obtain ⟨h3,c,h4,h5⟩:=zipKV_get h1
        refine ⟨hk i e.1 m h3 h2,?_⟩
        obtain ⟨u,hu,hc⟩:=hall i c h4
        have hu:u=m.val:=by
          unfold valAt at hu
          rw [hb] at hu
          simp only [h2,Option.map_some,Option.some.injEq] at hu
          exact hu.symm
        subst hu
        have hc:CellR E sz c (E.mu (.S id i)) m.val:=hc
        rw [h5]
        generalize m.val=u at hc
        show VR (Env.fz ⟨fun x=>E.F x∨∃ j o s n,E.mu (.S id j)=some (.blk x o s n),mu1,E.h⟩) (cellAV c) u
        revert hc
        cases c with
        | none =>
          cases E.mu (.S id i) with
          | none=>exact fun h=>by rw [show u=Value.slice none 0 0 from h]; exact .nilsl _
          | some mv=>cases mv <;> exact fun h=>h.elim
        | some rows =>
          cases hmi:E.mu (.S id i) with
          | none=>exact fun h=>h.elim
          | some mv =>
            cases mv with
            | virt =>
              rintro ⟨rfl,c,rfl,_⟩
              cases c with
              | none=>exact .sln _
              | some c=>exact .sle _ c 0
            | blk b1 o1 s1 n1 =>
              rintro ⟨⟨rfl,rfl⟩,⟨q1,q2,us,ty,q3,q4,q5⟩,cap,h6,h7,rfl⟩
              exact ArrR.sl (E':=Env.fz ⟨fun x=>E.F x∨∃ j o s n,E.mu (.S id j)=some (.blk x o s n),mu1,E.h⟩) ⟨q1,q2,us,ty,q3,q4,fun m c hc=>by
                obtain ⟨u,hu,hv⟩:=q5 m c hc
                exact ⟨u,hu,hv.mono hfz⟩⟩ (.inr ⟨i,_,_,_,hmi⟩) h6) (fun i=>hm1S i)
    refine ⟨_,_,h,?_,((ht.mono hle1).mono hle2).mono hle3⟩
    have e:(S.o.set id (Ob.mapo true (keyEs ks))).set id (Ob.mapo true (zipKV ks cells))=S.o.set id (Ob.mapo true (zipKV ks cells)):=List.set_set ..
    have hS3:SimM G p _ { t:=S.t,l:=S.l,o:=(S.o.set id (Ob.mapo true (keyEs ks))).set id (Ob.mapo true (zipKV ks cells)),b:=S.b } w:=hS3
    rw [e] at hS3
    exact hS3
  · rename_i hob
    rw [forceO_iff] at h
    obtain ⟨E',h1,h2⟩:=freezeL_sound hM ht hob
    exact ⟨_,E',h,h1,h2⟩
  · exact ⟨S,E,h,hM,ht⟩
theorem freezesK_sound:∀ {ids:List Nat} {S:St} {E:Env} {K:St→Prop},SimM G p E S w→TR G E S.t a→freezesK ids S K→∃ S' E',K S'∧SimM G p E' S' w∧TR G E' S'.t a
  | [],S,E,_,hM,ht,h=>⟨S,E,h,hM,ht⟩
  | id::ids,_,_,_,hM,ht,h=>by
    obtain ⟨S1,E1,h,hM1,ht1⟩:=freezeK_sound hM ht h
    exact freezesK_sound hM1 ht1 h
theorem postR_sound (hM:SimM G p E S w) (ht:TR G E S.t a) {pl:Pol} {id:Nat} {K:St→Prop} (h:postR pl id S K):∃ S' E',K S'∧SimM G p E' S' w∧TR G E' S'.t a:=by
  unfold postR at h
  split at h
  · exact ⟨S,E,h,hM,ht⟩
  · obtain ⟨S1,E1,h,hM1,ht1⟩:=closesK_sound hM ht h
    split at h
    · exact ⟨S1,E1,h,hM1,ht1⟩
    · exact freezesK_sound hM1 ht1 h
theorem own_s1 (hM:SimM G p E S w) {id sz b o s n:Nat} {cells:List (Option (List (List AV)))} {hole:Option (Nat×AV)} (hob:S.o[id]?=some (.own none sz cells hole)) (hmu:E.mu (.O id)=some (.blk b o s n)):s=1∧n=cells.length:=by
  have h:=hM.obj id
  rw [hob,hmu] at h
  exact h rfl
theorem holeIs_or {hole:Option (Nat×AV)} {i:Nat} (h:holeIs hole i=true):hole=none∨∃ a0,hole=some (i,a0):=by
  cases hole with
  | none=>exact .inl rfl
  | some z =>
    obtain ⟨j,a0⟩:=z
    have:=Nat.eq_of_beq_eq_true (show Nat.beq i j=true from h)
    subst this
    exact .inr ⟨a0,rfl⟩
theorem ownTakeK_sound (hM:SimM G p E M w) {pk:Bool} {id i:Nat} {k:AV→St→Prop} {b o s n:Nat} (hmu:E.mu (.O id)=some (.blk b o s n)) (h:ownTakeK M pk id i k) :
    ∃ M' E' v u,k v M'∧SimM G p E' M' w∧LE E E'∧VR E' v u∧valAt w.heap b o i=some u:=by
  unfold ownTakeK at h
  split at h
  · rename_i ks sz cells hob
    split at h
    · rename_i hc
      have hw:=hM.ow id
      rw [hob] at hw
      obtain ⟨_,_,hcells⟩:=hw
      obtain ⟨_,hall⟩:=hcells b o s n hmu
      obtain ⟨u,hu,hcell⟩:=hall i _ hc
      have hcell:CellR E sz none (E.mu (.S id i)) u:=hcell
      have hnil:u=.slice none 0 0:=by
        revert hcell
        cases E.mu (.S id i) with
        | none=>exact fun h=>h
        | some mv=>cases mv <;> exact fun h=>h.elim
      subst hnil
      exact ⟨M,E,_,_,h,hM,.refl _,.nilsl _,by rw [← hM.hp]; exact hu⟩
    · rename_i rows hc
      split at h
      · rename_i hpk
        rw [Bool.and_eq_true] at hpk
        have hw:=hM.ow id
        rw [hob] at hw
        obtain ⟨_,_,hcells⟩:=hw
        obtain ⟨_,hall⟩:=hcells b o s n hmu
        obtain ⟨u,hu,hcell⟩:=hall i _ hc
        have hcell:CellR E sz (some rows) (E.mu (.S id i)) u:=hcell
        have hnn:∃ A n c,u=.slice (some A) n c:=by
          revert hcell
          cases E.mu (.S id i) with
          | none=>exact fun h=>h.elim
          | some mv =>
            cases mv with
            | virt =>
              rintro ⟨_,c,rfl,hh⟩
              cases c with
              | none=>exact absurd (hh hpk.2) (by simp)
              | some c=>exact ⟨_,_,_,rfl⟩
            | blk b1 o1 s1 n1 =>
              rintro ⟨_,_,cap,_,_,rfl⟩
              exact ⟨_,_,_,rfl⟩
        obtain ⟨A,n',c,rfl⟩:=hnn
        exact ⟨M,E,_,_,h,hM,.refl _,.nn _ _ _ _,by rw [← hM.hp]; exact hu⟩
      · rw [forceA_iff,forceO_iff] at h
        obtain ⟨E',u,hS,hle,hv,hcl⟩:=takeout_sound hM hob hc hmu
        exact ⟨_,E',_,u,h,hS,hle,hv,hcl⟩
    · exact h.elim
  · exact h.elim
theorem ownAtK_sound (hM:SimM G p E M w) {x:AV} {u:Value} {k:Nat→Nat→Prop} (hv:VR E x u) (h:ownAtK M x k) :
    ∃ id i b o n sz cells hole,k id i∧M.o[id]?=some (.own none sz cells hole)∧E.mu (.O id)=some (.blk b o 1 n)∧u=.pointer (some ⟨b,o + i,none⟩):=by
  unfold ownAtK at h
  split at h
  · rename_i id i
    split at h
    · rename_i sz cells hole hob
      cases hv with
      | ptr _ _ hs hmu =>
        rename_i b o s n
        obtain ⟨rfl,_⟩:=own_s1 hM hob hmu
        exact ⟨id,i,b,o,n,sz,cells,hole,h,hob,hmu,by simp⟩
    · exact h.elim
  · exact h.elim
theorem unx_val {E:Env} {a:AV} {u:Value} (h:VR E a u):VR E (unx a) u:=by
  cases a <;> first | exact h | skip
  cases h with
  | mfxe c hx=>exact .mfe c hx
  | mfx cap hx hn hc=>exact .mf cap hx hn hc
theorem ownLoadK_sound (hM:SimM G p E M w) {t:TypeId} {same pk:Bool} {id i:Nat} {k:AV→St→Prop} {b o s n sz:Nat} {cells:List (Option (List (List AV)))} {hole:Option (Nat×AV)} (hob:M.o[id]?=some (.own none sz cells hole)) (hmu:E.mu (.O id)=some (.blk b o s n)) (h:ownLoadK P t same pk M id i k) :
    ∃ M' E' r z,k r M'∧SimM G p E' M' w∧LE E E'∧VR E' r z∧(Instr.loadAt t (.pointer (some ⟨b,o + i,none⟩))).run P w=.ok z w:=by
  have hbase:BaseR w.heap none b o cells.length:=by
    have hw:=hM.ow id
    rw [hob] at hw
    rw [← hM.hp]
    exact (hw.2.2 b o s n hmu).1
  have ld:∀ {E':Env} {v:AV} {u:Value} {k:AV→Prop},VR E' v u→valAt w.heap b o i=some u→partK P t [v] 0 k→∃ r z,k r∧VR E' r z∧(Instr.loadAt t (.pointer (some ⟨b,o + i,none⟩))).run P w=.ok z w:=by
    intro E' v u k hv hc hk
    obtain ⟨r,z,h1,h2,h3⟩:=load_sound (P:=P) hk (VRs.cons hv (VRs.nil E')) w (b:=b) (o:=o + i) (fun m u' hu'=>by
      cases m with
      | zero =>
        simp at hu'
        subst hu'
        show cellH w.heap b (o + i)=some u
        exact valAt_cells hbase hc
      | succ m=>simp at hu')
    exact ⟨r,z,h1,h2,h3⟩
  unfold ownLoadK at h
  split at h
  · split at h
    · rename_i sz' cells' j v hob'
      rw [hob] at hob'
      cases hob'
      replace h:=Chk_elim h
      obtain ⟨hb,h⟩:=h
      simp only [Bool.and_eq_true,Nat.blt_eq] at hb
      obtain ⟨hij,hj⟩:=hb
      have hij:=Nat.eq_of_beq_eq_true hij
      subst hij
      have hw:=hM.ow id
      rw [hob] at hw
      obtain ⟨_,_,hcells⟩:=hw
      obtain ⟨_,hall⟩:=hcells b o s n hmu
      obtain ⟨u,hu,hcell⟩:=hall i _ (List.getElem?_eq_getElem hj)
      have h7:(if i=i then E.mu (.S id i)=none∧VR E.ob v u else CellR E sz cells[i] (E.mu (.S id i)) u):=hcell
      rw [if_pos rfl] at h7
      obtain ⟨r,z,h3,h4,h5⟩:=ld (unx_val h7.2.of_ob) (by rw [← hM.hp]; exact hu) h
      exact ⟨M,E,r,z,h3,hM,.refl _,h4,h5⟩
    · exact h.elim
  · obtain ⟨M',E',v,u,h,hM',hle,hv,hc⟩:=ownTakeK_sound hM hmu h
    obtain ⟨r,z,h3,h4,h5⟩:=ld hv hc h
    exact ⟨M',E',r,z,h3,hM',hle,h4,h5⟩
theorem open_sound (hM:SimM G p E S w) {id i sz:Nat} {ks:Option (List AV)} {cells:List (Option (List (List AV)))} {hole:Option (Nat×AV)} (hob:S.o[id]?=some (.own ks sz cells hole)) (hh:holeIs hole i=true) :
    ∃ E',LE E E'∧E'.h=E.h∧E'.mu (.O id)=E.mu (.O id)∧SimM G p E' { t:=S.t,l:=S.l,o:=S.o.set id (.own ks sz cells (some (i,.bad))),b:=S.b } w:=by
  have hw:=hM.ow id
  rw [hob] at hw
  obtain ⟨hz,hbey,hcells⟩:=hw
  have hOb:=hM.obj id
  rw [hob] at hOb
  obtain ⟨mu1,hmu1⟩:∃ mu1:Key→Option MV,mu1=fun k=>if k=.S id i then none else E.mu k:=⟨_,rfl⟩
  have hm1i:mu1 (.S id i)=none:=by rw [hmu1]; simp
  have hm1:∀ k,k≠.S id i→mu1 k=E.mu k:=fun k hk=>by rw [hmu1]; show (if k=.S id i then none else E.mu k)=_; rw [if_neg hk]
  have hW1:OwnR ⟨E.F,mu1,E.h⟩ id (some (.own ks sz cells (some (i,.bad)))):=by
    refine ⟨hz,fun j hj=>?_,fun b' o' s' n' hm=>?_⟩
    · show mu1 (.S id j)=none
      by_cases h:Key.S id j=.S id i
      · rw [h]; exact hm1i
      · rw [hm1 _ h]; exact hbey j hj
    · have hm:E.mu (.O id)=some (.blk b' o' s' n'):=(hm1 _ (fun e=>by cases e)).symm.trans hm
      obtain ⟨h4,h6⟩:=hcells b' o' s' n' hm
      refine ⟨h4,fun j c hj=>?_⟩
      obtain ⟨u',hu',h7⟩:=h6 j c hj
      refine ⟨u',hu',?_⟩
      show if i=j then mu1 (.S id j)=none∧VR _ .bad u' else CellR _ sz c (mu1 (.S id j)) u'
      by_cases hij:i=j
      · subst hij
        rw [if_pos rfl]
        exact ⟨hm1i,.bad _ _⟩
      · rw [if_neg hij,hm1 _ (fun e=>hij (by cases e; rfl))]
        have h8:CellR E sz c (E.mu (.S id j)) u':=by
          rcases holeIs_or hh with rfl | ⟨a0,rfl⟩
          · exact h7
          · have h7:(if i=j then E.mu (.S id j)=none∧VR E.ob a0 u' else CellR E sz c (E.mu (.S id j)) u'):=h7
            rw [if_neg hij] at h7
            exact h7
        exact CellR.mono h8 (LE.refl _) (fun _ _ _ _ _=>rfl)
  obtain ⟨hle1,hS1⟩:=hM.reS (mu':=mu1) (fun k hk=>hm1 k (hk i)) (fun j b' o' s' n' h=>by
      by_cases hj:Key.S id j=.S id i
      · rw [hj,hm1i] at h; cases h
      · rw [hm1 _ hj] at h
        obtain ⟨h1,h2,h3,h4⟩:=hM.ownS h
        exact ⟨h1,h2,h3,fun k o2 s2 n2 hk=>h4 k o2 s2 n2 (hk j)⟩)
    (fun j j' b' o' s' n' o2 s2 n2 h h'=>by
      by_cases hj:Key.S id j=.S id i
      · rw [hj,hm1i] at h; cases h
      · by_cases hj':Key.S id j'=.S id i
        · rw [hj',hm1i] at h'; cases h'
        · rw [hm1 _ hj] at h
          rw [hm1 _ hj'] at h'
          have:=hM.inj _ _ _ _ _ _ _ _ _ h h'
          cases this
          rfl) hob (fun e=>by cases e) (y:=.own ks sz cells (some (i,.bad))) (by
      revert hOb
      cases E.mu (.O id) with
      | none=>exact fun h=>h.elim
      | some mv=>cases mv <;> exact fun h=>h) hW1
  exact ⟨_,hle1,rfl,hm1 _ (fun e=>by cases e),hS1⟩
theorem ownset_sound (hM:SimM G p E S w) {id i sz:Nat} {cells:List (Option (List (List AV)))} {hole:Option (Nat×AV)} (hob:S.o[id]?=some (.own none sz cells hole)) (hh:holeIs hole i=true) (hi:i<cells.length)
    {b o s n:Nat} (hmu:E.mu (.O id)=some (.blk b o s n)) {v:AV} {u:Value} (hv:VR E v u) (hn:noL 4 v=true) :
    ∃ us ty E',w.heap[b]?=some (.cells us ty (0,0))∧o + i<us.size∧SimM G p E' { t:=S.t,l:=S.l,o:=S.o.set id (.own none sz cells (some (i,v))),b:=S.b } (setBlk w b (.cells (setAll us (o + i) [u] 0) ty (0,0)))∧LE E E':=by
  obtain ⟨E1,hle1,hh1,hmu1,hS1⟩:=open_sound hM hob hh
  have hlt:id<S.o.length:=(List.getElem?_eq_some_iff.1 hob).1
  have hmu1:E1.mu (.O id)=some (.blk b o s n):=hmu1.trans hmu
  have hget1:(S.o.set id (.own none sz cells (some (i,.bad))))[id]?=some (.own none sz cells (some (i,.bad))):=List.getElem?_set_self hlt
  have hw:=hS1.ow id
  rw [hget1] at hw
  obtain ⟨hz,hbey,hcells⟩:=hw
  obtain ⟨⟨us,ty,hb,hul⟩,hall⟩:=hcells b o s n hmu1
  have hbw:w.heap[b]?=some (.cells us ty (0,0)):=by rw [← hS1.hp]; exact hb
  have hblt:b<w.heap.size:=(Array.getElem?_eq_some_iff.1 hbw).1
  have hsz:sizeH (setBlk w b (.cells (setAll us (o + i) [u] 0) ty (0,0))).heap b=sizeH w.heap b:=by
    unfold sizeH
    rw [heap_setBlk hblt,hbw]
    simp [setAll_size]
  have hle2:=hS1.setblk_le hmu1 hsz
  have hOb:=hS1.obj id
  rw [hget1,hmu1] at hOb
  obtain ⟨_,hS2⟩:=hS1.setblk hmu1 hsz (M':={ t:=S.t,l:=S.l,o:=S.o.set id (.own none sz cells (some (i,v))),b:=S.b })
    (fun _ _=>rfl) (fun j hj=>by
      show (S.o.set id _)[j]?=(S.o.set id _)[j]?
      rw [List.getElem?_set,List.getElem?_set,if_neg (fun e=>hj (by rw [e])),if_neg (fun e=>hj (by rw [e]))]) rfl (by simp) (fun d e=>by cases e)
    (fun j e=>by
      cases e
      show ObR _ (S.o.set id _)[id]? _
      rw [List.getElem?_set_self hlt,hmu1]
      exact hOb)
    (fun j e=>by
      rcases e with e | ⟨i',e⟩ <;> cases e
      show OwnR _ id (S.o.set id _)[id]?
      rw [List.getElem?_set_self hlt]
      refine ⟨hz,hbey,fun b' o' s' n' hm=>?_⟩
      have hm:E1.mu (.O id)=some (.blk b' o' s' n'):=hm
      rw [hmu1] at hm
      cases hm
      have hnew:=heap_setBlk (ob:=.cells (setAll us (o + i) [u] 0) ty (0,0)) hblt
      refine ⟨⟨_,ty,hnew,by rw [setAll_size]; exact hul⟩,fun j c hj=>?_⟩
      obtain ⟨u',hu',h7⟩:=hall j c hj
      have hu':us[o + j]?=some u':=by unfold valAt at hu'; rw [hb] at hu'; exact hu'
      have hval:∀ z,(setAll us (o + i) [u] 0)[o + j]?=some z→valAt (setBlk w b (.cells (setAll us (o + i) [u] 0) ty (0,0))).heap b o j=some z:=fun z hz=>by
        unfold valAt
        rw [hnew]
        exact hz
      have hjl:j<cells.length:=(List.getElem?_eq_some_iff.1 hj).1
      have h7:(if i=j then E1.mu (.S id j)=none∧VR E1.ob .bad u' else CellR E1 sz c (E1.mu (.S id j)) u'):=h7
      by_cases hij:i=j
      · subst hij
        rw [if_pos rfl] at h7
        refine ⟨u,hval _ ?_,?_⟩
        · rw [setAll_get,if_pos ⟨by omega,by simp,by omega⟩]
          simp
        · show (if i=i then E1.mu (.S id i)=none∧VR _ v u else CellR _ sz c (E1.mu (.S id i)) u)
          rw [if_pos rfl]
          exact ⟨h7.1,noL_ob 4 hn ((hv.mono hle1).mono hle2)⟩
      · rw [if_neg hij] at h7
        refine ⟨u',hval _ ?_,?_⟩
        · rw [setAll_get,if_neg (fun h=>by have h1:=h.1; have h2:=h.2.1; simp at h2; omega)]
          exact hu'
        · show (if i=j then E1.mu (.S id j)=none∧VR _ v u' else CellR _ sz c (E1.mu (.S id j)) u')
          rw [if_neg hij]
          refine CellR.mono h7 hle2.fz (fun b' o' s' n' hmj=>?_)
          show (setBlk w b _).heap[b']?=E1.h[b']?
          rw [hS1.hp]
          have hne:b≠b':=fun e=>by
            subst e
            have:=hS1.inj _ _ _ _ _ _ _ _ _ hmj hmu1
            cases this
          simp only [setBlk,Array.getElem?_setIfInBounds]
          rw [if_neg hne])
  exact ⟨us,ty,_,hbw,by omega,hS2,hle1.trans hle2⟩
theorem slIn_noL {sz:Nat} {v:AV} (h:slIn sz v=true):noL 4 v=true:=by
  cases v <;> first | rfl | cases h
theorem slIn_slice {sz:Nat} {v:AV} {u:Value} (h:slIn sz v=true) (hv:VR E v u):∃ A q c,u=.slice A q c:=by
  cases v <;> first | (cases h; done) | skip
  · cases hv; exact ⟨_,_,_,rfl⟩
  · cases hv <;> exact ⟨_,_,_,rfl⟩
  · cases hv <;> exact ⟨_,_,_,rfl⟩
theorem slOnly_noL {v:AV} (h:slOnly v=true):noL 4 v=true:=by
  cases v <;> first | rfl | cases h
theorem slOnly_slice {v:AV} {u:Value} (h:slOnly v=true) (hv:VR E v u):∃ A q c,u=.slice A q c:=by
  cases v <;> first | (cases h; done) | skip
  · cases hv; exact ⟨_,_,_,rfl⟩
  · cases hv <;> exact ⟨_,_,_,rfl⟩
theorem ownStoreK_sound (hM:SimM G p E M w) {t:TypeId} {id i:Nat} {v:AV} {u:Value} {K:St→Prop} {b o s n:Nat} (hmu:E.mu (.O id)=some (.blk b o s n)) (hv:VR E v u) (h:ownStoreK P t M id i v K) :
    ∃ M' E' w',K M'∧SimM G p E' M' w'∧LE E E'∧(Instr.storeAt t (.pointer (some ⟨b,o + i,none⟩)) u).run P w=.ok () w':=by
  unfold ownStoreK at h
  split at h
  · rename_i inf sz cells hole hi hob
    obtain ⟨hb,h⟩:=Chk_elim h
    simp only [Bool.and_eq_true,Nat.blt_eq] at hb
    obtain ⟨⟨⟨hsl,hil⟩,hsz⟩,hh⟩:=hb
    have hsz:=Nat.eq_of_beq_eq_true hsz
    rw [forceO_iff] at h
    obtain ⟨us,ty,E',hbw,hlt,hS,hle⟩:=ownset_sound hM hob hh hil hmu hv (slIn_noL hsl)
    obtain ⟨A,q,c,rfl⟩:=slIn_slice hsl hv
    refine ⟨_,E',_,h,hS,hle,?_⟩
    exact run_storeAt (P:=P) (t:=t) (b:=b) (off:=o + i) hi hbw (by rw [hsz]; rfl) (fun v hv=>by
      have:v=.slice A q c:=by simpa [Value.cells] using hv
      subst this
      rfl) (by show o + i + 1≤us.size; omega)
  · exact h.elim
theorem mapset_sound (hM:SimM G p E M w) {id i sz:Nat} {ks ks':List AV} {cells cells':List (Option (List (List AV)))} {hole:Option (Nat×AV)} (hob:M.o[id]?=some (.own (some ks) sz cells hole)) (hh:holeIs hole i=true)
    {b o s n clock clock':Nat} {ms ms':Array MapEntry} (hmu:E.mu (.O id)=some (.blk b o s n)) (hb:w.heap[b]?=some (.map ms clock)) {v:AV} {u:Value} (hv:VR E v u) (hn:noL 4 v=true)
    (hl:cells'.length=ms'.size∧cells'.length=ks'.length∧Born ms' clock') (hk:∀ (i:Nat) (k:AV) (m:MapEntry),ks'[i]?=some k→ms'[i]?=some m→toK k=some m.key)
    (hlen:cells.length≤cells'.length) (_:∀ j,cells.length≤j→j<cells'.length→j=i) (hsame:∀ j,j≠i→cells'[j]?=cells[j]?) (hval:∀ j,j≠i→j<cells'.length→(ms'[j]?).map (·.val)=(ms[j]?).map (·.val)) (hat:∃ m,ms'[i]?=some m∧m.val=u) :
    ∃ E',SimM G p E' { t:=M.t,l:=M.l,o:=M.o.set id (.own (some ks') sz cells' (some (i,v))),b:=M.b } (setBlk w b (.map ms' clock'))∧LE E E':=by
  obtain ⟨E1,hle1,hh1,hmu1,hS1⟩:=open_sound hM hob hh
  have hlt:id<M.o.length:=(List.getElem?_eq_some_iff.1 hob).1
  have hmu1:E1.mu (.O id)=some (.blk b o s n):=hmu1.trans hmu
  have hget1:(M.o.set id (.own (some ks) sz cells (some (i,.bad))))[id]?=some (.own (some ks) sz cells (some (i,.bad))):=List.getElem?_set_self hlt
  have hw:=hS1.ow id
  rw [hget1] at hw
  obtain ⟨hz,hbey,hcells⟩:=hw
  obtain ⟨_,hall⟩:=hcells b o s n hmu1
  have hb1:E1.h[b]?=some (.map ms clock):=by rw [hS1.hp]; exact hb
  have hblt:b<w.heap.size:=(Array.getElem?_eq_some_iff.1 hb).1
  have hnb:=heap_setBlk (ob:=.map ms' clock') hblt
  have hss:sizeH (setBlk w b (.map ms' clock')).heap b=sizeH w.heap b:=by
    unfold sizeH
    rw [hnb,hb]
  have hle2:=hS1.setblk_le hmu1 hss
  have hSi:E1.mu (.S id i)=none:=by
    by_cases hi:i<cells.length
    · obtain ⟨u',_,h7⟩:=hall i _ (List.getElem?_eq_getElem hi)
      have h7:(if i=i then E1.mu (.S id i)=none∧VR E1.ob .bad u' else CellR E1 sz cells[i] (E1.mu (.S id i)) u'):=h7
      rw [if_pos rfl] at h7
      exact h7.1
    · exact hbey i (by omega)
  have hOb:=hS1.obj id
  rw [hget1,hmu1] at hOb
  obtain ⟨_,hS2⟩:=hS1.setblk hmu1 hss (M':={ t:=M.t,l:=M.l,o:=M.o.set id (.own (some ks') sz cells' (some (i,v))),b:=M.b })
    (fun _ _=>rfl) (fun j hj=>by
      show (M.o.set id _)[j]?=(M.o.set id _)[j]?
      rw [List.getElem?_set,List.getElem?_set,if_neg (fun e=>hj (by rw [e])),if_neg (fun e=>hj (by rw [e]))]) rfl (by simp) (fun d e=>by cases e)
    (fun j e=>by
      cases e
      show ObR _ (M.o.set id _)[id]? _
      rw [List.getElem?_set_self hlt,hmu1]
      exact fun e=>by cases e)
    (fun j e=>by
      rcases e with e | ⟨i',e⟩ <;> cases e
      show OwnR _ id (M.o.set id _)[id]?
      rw [List.getElem?_set_self hlt]
      refine ⟨hz,fun j hj=>hbey j (by omega),fun b' o' s' n' hm=>?_⟩
      have hm:E1.mu (.O id)=some (.blk b' o' s' n'):=hm
      rw [hmu1] at hm
      cases hm
      refine ⟨⟨ms',clock',hnb,hl,hk⟩,fun j c hj=>?_⟩
      have hjl:j<cells'.length:=(List.getElem?_eq_some_iff.1 hj).1
      have hva:∀ z,(ms'[j]?).map (·.val)=some z→valAt (setBlk w b (.map ms' clock')).heap b o j=some z:=fun z hz=>by
        unfold valAt
        rw [hnb]
        exact hz
      by_cases hij:i=j
      · subst hij
        obtain ⟨m,hm1,hm2⟩:=hat
        refine ⟨u,hva _ (by rw [hm1,← hm2]; rfl),?_⟩
        show (if i=i then E1.mu (.S id i)=none∧VR _ v u else CellR _ sz c (E1.mu (.S id i)) u)
        rw [if_pos rfl]
        exact ⟨hSi,noL_ob 4 hn ((hv.mono hle1).mono hle2)⟩
      · rw [hsame j (fun e=>hij e.symm)] at hj
        obtain ⟨u',hu',h7⟩:=hall j c hj
        have h7:(if i=j then E1.mu (.S id j)=none∧VR E1.ob .bad u' else CellR E1 sz c (E1.mu (.S id j)) u'):=h7
        rw [if_neg hij] at h7
        refine ⟨u',hva _ ?_,?_⟩
        · rw [hval j (fun e=>hij e.symm) hjl]
          unfold valAt at hu'
          rw [hb1] at hu'
          exact hu'
        · show (if i=j then E1.mu (.S id j)=none∧VR _ v u' else CellR _ sz c (E1.mu (.S id j)) u')
          rw [if_neg hij]
          refine CellR.mono h7 hle2.fz (fun b' o' s' n' hmj=>?_)
          show (setBlk w b _).heap[b']?=E1.h[b']?
          rw [hS1.hp]
          have hne:b≠b':=fun e=>by
            subst e
            have:=hS1.inj _ _ _ _ _ _ _ _ _ hmj hmu1
            cases this
          simp only [setBlk,Array.getElem?_setIfInBounds]
          rw [if_neg hne])
  exact ⟨_,hS2,hle1.trans hle2⟩
theorem run_zeroOk {e:TypeId} {ok:Bool} {k:AV→Prop} (hh:zeroOk P e ok k):∃ r zz z,k r∧VR E r zz∧(zeroValue e).run P w=.ok z w∧zz=(if ok then .tuple #[z,.bool false] else z):=by
  unfold zeroOk at hh
  split at hh
  · rename_i i hi
    split at hh
    · rename_i z hz
      rw [forceA_iff] at hh
      unfold retOk at hh
      cases ok with
      | true=>exact ⟨_,_,z,hh,.tup #[z,.bool false] rfl (fun m c u h1 h2=>by
          match m,h1,h2 with
          | 0,h1,h2=>simp at h1 h2; subst h1 h2; exact VR_ofC E z
          | 1,h1,h2=>simp at h1 h2; subst h1 h2; exact .v _ _ rfl),run_zeroValue hi hz w,rfl⟩
      | false=>exact ⟨_,_,z,hh,VR_ofC E z,run_zeroValue hi hz w,rfl⟩
    · exact False.elim hh
  · exact False.elim hh
theorem ownLookK_sound (hM:SimM G p E M w) {t:TypeId} {m key:AV} {um uk:Value} {ok:Bool} {k:AV→St→Prop} (hm:VR E m um) (hkey:VR E key uk) (h:ownLookK P t m key ok M k) :
    ∃ M' E' r z,k r M'∧SimM G p E' M' w∧LE E E'∧VR E' r z∧(Instr.lookup t um uk ok).run P w=.ok z w:=by
  unfold ownLookK at h
  split at h
  · rename_i kt e hu
    split at h
    · rename_i id
      split at h
      · rename_i ks sz cells hob
        cases hm with
        | mp hmu =>
          rename_i b o s n
          have hw:=hM.ow id
          rw [hob] at hw
          obtain ⟨⟨ms,clock,hb,⟨hl1,hl2,_⟩,hk⟩,_⟩:=hw.2.2 b o s n hmu
          rw [hM.hp] at hb
          obtain ⟨r,hr,_,hc,hf,hv⟩:=findK_sound (ms:=ms) h hkey (by rw [keyEs_len]; omega) (fun i e m h4 h5=>hk i e.1 m (keyEs_get h4).1 h5) w
          have hc':=hc ms.isEmpty rfl
          cases r with
          | none =>
            obtain ⟨r,zz,z,h4,h5,h6,h7⟩:=run_zeroOk (E:=E) (w:=w) hr
            refine ⟨M,E,r,zz,h4,hM,.refl _,h5,?_⟩
            unfold Instr.lookup
            simp only [Sem.run_bind,run_underlying hu,Result.andThen_ok,Sem.run_pure,run_getObj hb,hc',hf,h6,h7]
          | some jv =>
            obtain ⟨j,vv⟩:=jv
            simp only [Option.map_some] at hr
            obtain ⟨M',E',v,u,hr,hM',hle,hvu,hva⟩:=ownTakeK_sound hM hmu hr
            have hj:=hv j vv rfl
            unfold valAt at hva
            rw [hb] at hva
            have hva:(ms[j]?).map (·.val)=some u:=hva
            rw [hj] at hva
            have hva:=Option.some.inj hva
            subst hva
            unfold retOk at hr
            cases ok with
            | true =>
              refine ⟨M',E',_,.tuple #[vv,.bool true],hr,hM',hle,.tup #[vv,.bool true] rfl (fun m c z h1 h2=>by
                match m,h1,h2 with
                | 0,h1,h2=>simp at h1 h2; subst h1 h2; exact hvu
                | 1,h1,h2=>simp at h1 h2; subst h1 h2; exact .v _ _ rfl),?_⟩
              unfold Instr.lookup
              simp only [Sem.run_bind,run_underlying hu,Result.andThen_ok,Sem.run_pure,run_getObj hb,hc',hf]
              rfl
            | false =>
              refine ⟨M',E',_,vv,hr,hM',hle,hvu,?_⟩
              unfold Instr.lookup
              simp only [Sem.run_bind,run_underlying hu,Result.andThen_ok,Sem.run_pure,run_getObj hb,hc',hf]
              rfl
      · exact h.elim
    · exact h.elim
  · exact h.elim
theorem ownUpdK_sound (hM:SimM G p E M w) {t:TypeId} {m key x:AV} {um uk ux:Value} {K:St→Prop} (hm:VR E m um) (hkey:VR E key uk) (hx:VR E x ux) (h:ownUpdK P t m key x M K) :
    ∃ M' E' w',K M'∧SimM G p E' M' w'∧LE E E'∧(Instr.mapUpdate t um uk ux).run P w=.ok () w':=by
  unfold ownUpdK at h
  split at h
  · rename_i kt e hu
    split at h
    · rename_i id
      split at h
      · rename_i ks sz cells hole hob
        obtain ⟨hsl0,h⟩:=Chk_elim h
        have hsl:=(Bool.and_eq_true_iff.1 hsl0).1
        cases hm with
        | mp hmu =>
          rename_i b o s n
          have hw:=hM.ow id
          rw [hob] at hw
          obtain ⟨⟨ms,clock,hb,⟨hl1,hl2,hbn⟩,hk⟩,_⟩:=hw.2.2 b o s n hmu
          rw [hM.hp] at hb
          obtain ⟨r,hr,htk,_,hfind,hval⟩:=findK_sound (ms:=ms) h hkey (by rw [keyEs_len]; omega) (fun i e m h4 h5=>hk i e.1 m (keyEs_get h4).1 h5) w
          obtain ⟨hck,hr⟩:=Chk_elim hr
          have hck':(Instr.checkKey false 10000 kt uk).run P w=.ok () w:=by
            unfold ckOk at hck
            split at hck
            · rename_i c hc
              exact pureEval_run _ w hc
            · cases hck
          cases r with
          | none =>
            simp only [Option.map_none] at hr
            split at hr
            · rw [forceO_iff] at hr
              obtain ⟨E',hS,hle⟩:=mapset_sound hM (i:=cells.length) hob rfl hmu hb (ms':=ms.push { key:=uk,val:=ux,born:=clock }) (clock':=clock + 1) (ks':=ks++[key]) (cells':=cells++[none]) hx (slOnly_noL hsl)
                ⟨by simp [hl1],by simp [hl2],hbn.push _ _⟩ (fun i k m h1 h2=>by
                  rcases Nat.lt_trichotomy i ks.length with hi | hi | hi
                  · rw [List.getElem?_append_left hi] at h1
                    rw [Array.getElem?_push,if_neg (by omega)] at h2
                    exact hk i k m h1 h2
                  · subst hi
                    rw [List.getElem?_append_right (Nat.le_refl _),Nat.sub_self] at h1
                    rw [Array.getElem?_push,if_pos (by omega)] at h2
                    cases h1
                    cases h2
                    exact htk
                  · rw [List.getElem?_eq_none (by simp; omega)] at h1
                    cases h1) (by simp) (fun j h1 h2=>by simp at h2; omega) (fun j hj=>by
                  rcases Nat.lt_or_ge j cells.length with h1 | h1
                  · rw [List.getElem?_append_left h1]
                  · rw [List.getElem?_eq_none (by simp; omega),List.getElem?_eq_none h1]) (fun j hj h1=>by
                  rw [Array.getElem?_push,if_neg (by omega)]) ⟨_,by rw [Array.getElem?_push,if_pos hl1],rfl⟩
              refine ⟨_,E',_,hr,hS,hle,?_⟩
              unfold Instr.mapUpdate
              simp only [Sem.run_bind,run_underlying hu,Result.andThen_ok,run_getObj hb,hck',hfind,run_setObj hb]
            · exact hr.elim
          | some r =>
            obtain ⟨i,v⟩:=r
            simp only [Option.map_some] at hr
            obtain ⟨hsb,hr⟩:=Chk_elim hr
            rw [Bool.and_eq_true] at hsb
            rw [forceO_iff] at hr
            have hv0:=hval i v rfl
            rw [Option.map_eq_some_iff] at hv0
            obtain ⟨m0,hm0,_⟩:=hv0
            have hims:i<ms.size:=(Array.getElem?_eq_some_iff.1 hm0).1
            have hie:ks[i]?=some ks[i]:=List.getElem?_eq_getElem (by omega)
            have hkey0:=hk i _ m0 hie hm0
            have hsb1:=hsb.1
            rw [hie] at hsb1
            simp only [Option.bind_some,hkey0,Option.getD_some] at hsb1
            obtain ⟨E',hS,hle⟩:=mapset_sound hM (i:=i) hob hsb.2 hmu hb (ms':=ms.modify i fun e=>{ e with key:=uk,val:=ux }) (clock':=clock) (ks':=ks.set i key) (cells':=cells) hx (slOnly_noL hsl)
              ⟨by simp [hl1],by simp [hl2],hbn.modify _ _ _⟩ (fun j k m h1 h2=>by
                rw [List.getElem?_set] at h1
                rw [Array.getElem?_modify] at h2
                by_cases hj:i=j
                · subst hj
                  rw [if_pos rfl,if_pos (by omega)] at h1
                  rw [if_pos rfl,hm0] at h2
                  cases h1
                  cases h2
                  exact htk
                · rw [if_neg hj] at h1 h2
                  exact hk j k m h1 h2) (Nat.le_refl _) (fun j h1 h2=>by omega) (fun _ _=>rfl) (fun j hj _=>by
                rw [Array.getElem?_modify,if_neg (fun e=>hj e.symm)]) ⟨{ m0 with key:=uk,val:=ux },by rw [Array.getElem?_modify,if_pos rfl,hm0]; rfl,rfl⟩
            refine ⟨_,E',_,hr,hS,hle,?_⟩
            have hstay:(Instr.keyThatStays (((ms[i]?).map (·.key)).getD uk) uk).run P w=.ok uk w:=by
              rw [hm0]
              unfold Instr.keyThatStays
              simp only [Option.map_some,Option.getD_some]
              rw [if_pos hsb1]
              rfl
            unfold Instr.mapUpdate
            simp only [Sem.run_bind,run_underlying hu,Result.andThen_ok,run_getObj hb,hck',hfind,hstay,run_setObj hb]
      · exact h.elim
    · exact h.elim
  · exact h.elim
theorem repl_nil {x:AV}:∀ n:Nat,(List.replicate n [x]).flatten=List.replicate n x
  | 0=>rfl
  | n + 1=>by
    show [x]++(List.replicate n [x]).flatten=_
    rw [repl_nil n]
    rfl
theorem toOwn_sound (hM:SimM G p E S w) {id n sz:Nat} (hsz:0<rsz sz) (hob:S.o[id]?=some (.arr true 1 (List.replicate n [.nilsl]))) :
    SimM G p E { t:=S.t,l:=S.l,o:=S.o.set id (.own none sz (List.replicate n none) none),b:=S.b } w:=by
  have hw:=hM.ow id
  rw [hob] at hw
  have hw:∀ i,E.mu (.S id i)=none:=hw
  have hOb:=hM.obj id
  rw [hob] at hOb
  have h:=hM.reS (id:=id) (mu':=E.mu) (fun _ _=>rfl) (fun j b o s n h=>by rw [hw j] at h; cases h) (fun j j' b o s n o2 s2 n2 h h'=>by rw [hw j] at h; cases h) hob (fun e=>by cases e)
    (y:=.own none sz (List.replicate n none) none) (by
      revert hOb
      cases E.mu (.O id) with
      | none=>exact fun h=>h.elim
      | some mv =>
        cases mv with
        | virt =>
          intro h
          have h:List.replicate n [AV.nilsl]=[]:=h
          have h0:n=0:=by simpa using congrArg List.length h
          subst h0
          exact ⟨rfl,rfl⟩
        | blk b o s m =>
          rintro ⟨⟨h1,h2⟩,_⟩
          exact fun _=>⟨h1,by simpa using h2⟩) ⟨hsz,fun i _=>hw i,fun b o s m hm=>by
      rw [hm] at hOb
      obtain ⟨⟨h1,h2⟩,_,_,us,ty,h3,h4,h5⟩:=hOb
      subst h1
      refine ⟨⟨us,ty,h3,by simpa using h4⟩,fun i c hi=>?_⟩
      rw [List.getElem?_replicate] at hi
      split at hi
      · rename_i hin
        cases hi
        obtain ⟨u,hu,hv⟩:=h5 i .nilsl (by
          rw [repl_nil,List.getElem?_replicate,if_pos hin])
        refine ⟨u,by unfold valAt; rw [h3]; exact hu,?_⟩
        show CellR E sz none (E.mu (.S id i)) u
        rw [hw i]
        cases hv
        rfl
      · cases hi⟩
  exact h.2
theorem XStep.then {o:Oper} {K K1:St→Prop} (h:XStep P G p o a w K1) (hk:∀ S' E' a' w',K1 S'→SimM G p E' S' w'→TR G E' S'.t a'→∃ S2 E2,K S2∧SimM G p E2 S2 w'∧TR G E2 S2.t a'):XStep P G p o a w K:=by
  intro next Q hn
  refine h next Q (fun S' E' a' w' h1 h2 h3=>?_)
  obtain ⟨S2,E2,h4,h5,h6⟩:=hk S' E' a' w' h1 h2 h3
  exact hn S2 E2 a' w' h4 h5 h6
theorem intOf_mono {x:AV} {k k':Int→Prop} (h:intOf x k) (hk:∀ n,k n→k' n):intOf x k':=by
  unfold intOf at h ⊢
  split at h
  · exact hk _ h
  · exact h.elim
theorem zeroRow_mono {e:TypeId} {k k':List AV→Prop} (h:zeroRow P e k) (hk:∀ z,k z→k' z):zeroRow P e k':=by
  unfold zeroRow at h ⊢
  split at h
  · split at h
    · obtain ⟨hb,h⟩:=Chk_elim h
      refine Chk_intro hb ?_
      rw [forceAL_iff] at h ⊢
      exact hk _ h
    · exact h.elim
  · exact h.elim
theorem getK_mono {x:Operand} {k k':AV→Prop} (h:getK S x k) (hk:∀ v,k v→k' v):getK S x k':=by
  unfold getK at h ⊢
  split at h
  · obtain ⟨v,h1,h2⟩:=nthK_iff.1 h
    exact nthK_iff.2 ⟨v,h1,hk v h2⟩
  · exact forceA_iff.2 (hk _ (forceA_iff.1 h))
  · exact hk _ h
  · split at h
    · exact hk _ h
    · exact h.elim
theorem newobj_at {o:Oper} {K:St→Prop} (hM:SimM G p E S w) (ht:TR G E S.t a) {j:Nat} (hj:S.o[j]?=some Ob.dead) (hb:S.b≤j) {ob:Obj} {x:Ob} (hx:notOwn (some x)=true) {sz n:Nat} {r:AV} {z:Value} (hrun:(execOp a.eval o).run P w=.ok (.value z) { w with heap:=w.heap.push ob })
    (hO:∀ E':Env,E'.h=w.heap.push ob→ObR E' (some x) (some (.blk w.heap.size 0 sz n)))
    (hv:∀ E':Env,E'.h=w.heap.push ob→E'.mu (.O j)=some (.blk w.heap.size 0 sz n)→VR E' r z)
    (hK:K (setT { t:=S.t,l:=S.l,o:=S.o.set j x,b:=S.b } o.dst r)):XStep P G p o a w K:=by
  intro next Q hn
  refine wp_value hrun ?_
  have hlt:j<S.o.length:=(List.getElem?_eq_some_iff.1 hj).1
  have hnone:E.mu (.O j)=none:=by
    have:=hM.obj j
    rw [hj] at this
    revert this
    cases E.mu (.O j) with
    | none=>exact fun _=>rfl
    | some _=>exact fun h=>h.elim
  obtain ⟨hle,hS⟩:=hM.newkey (ob:=ob) (key:=.O j) (sz:=sz) (n:=n) (fun _ h=>by cases h) hnone
    (M':={ t:=S.t,l:=S.l,o:=S.o.set j x,b:=S.b }) (fun _ _=>rfl)
    (fun id he=>by
      show (S.o.set j x)[id]?=_
      rw [List.getElem?_set_ne (fun e=>he (by rw [e]))]) rfl (by have:=hM.bl; simpa using this) (fun id he=>by cases he; exact hb)
    (fun d he=>by cases he)
    (fun id he hle=>by
      cases he
      show ObR _ (S.o.set j x)[j]? _
      rw [List.getElem?_set_self hlt]
      exact hO _ rfl)
    (fun id he=>by
      rcases he with e | ⟨i,e⟩ <;> cases e
      show OwnR _ j (S.o.set j x)[j]?
      rw [List.getElem?_set_self hlt]
      exact hM.ow_new rfl (by rw [hj]; rfl) hx)
  refine hn _ _ _ _ hK (hS.congr setT_l setT_o setT_b) ?_
  exact (TR.mono (t:=S.t) ht hle).put (S:={ t:=S.t,l:=S.l,o:=S.o.set j x,b:=S.b }) (hv _ rfl (by
    show addMu _ _ _ _=_
    unfold addMu
    rw [if_pos rfl]))
def newSlK (P:Program) (t:TypeId) (l c:AV) (k:Nat→Nat→List AV→Prop):Prop :=
  match P.underlying t with
  | some (.slice e) =>
    match P.info? e with
    | some i=>intOf l fun l=>intOf c fun c=>Chk (decide (0≤l)&&decide (l≤c)&&decide (i.bytes * c≤140737488355328)&&decide (c≤140737488355328)&&Nat.blt 0 i.size)
        (zeroRow P e fun z=>k i.size l.toNat z)
    | none=>Fail 61
  | _=>Fail 62
theorem slice_core {o:Oper} {t:TypeId} {X Y:Operand} {k:Nat→Nat→List AV→Prop} (ht:TR G E S.t a) (ho:o.op=.makeSlice t X Y)
    (h:getK S X fun l=>getK S Y fun c=>newSlK P t l c k):∃ sz n cs ob z,k sz n cs∧(execOp a.eval o).run P w=.ok (.value z) { w with heap:=w.heap.push ob } ∧
      (∀ E':Env,E'.h=w.heap.push ob→ObR E' (some (.arr true sz (List.replicate n cs))) (some (.blk w.heap.size 0 sz n))) ∧
      ∀ (E':Env) (j:Nat),E'.h=w.heap.push ob→E'.mu (.O j)=some (.blk w.heap.size 0 sz n)→VR E' (.mf j) z:=by
  obtain ⟨l,h,hl⟩:=getK_elim h ht
  obtain ⟨c,h,hc⟩:=getK_elim h ht
  unfold newSlK at h
  split at h
  · rename_i e hu
    split at h
    · rename_i i hi
      replace h:=intOf_sound h hl
      obtain ⟨kl,nl,el,h⟩:=h
      replace h:=intOf_sound h hc
      obtain ⟨kc,nc,ec,h⟩:=h
      replace h:=Chk_elim h; obtain ⟨hb,h⟩:=h
      simp only [Bool.and_eq_true,decide_eq_true_eq] at hb
      obtain ⟨⟨⟨⟨h1,h2⟩,h3⟩,h4⟩,h5⟩:=hb
      have h0:0<i.size:=Nat.le_of_ble_eq_true h5
      obtain ⟨i',z,cs,hi',hz,hzs,h,hcs⟩:=zeroRow_sound h
      rw [hi] at hi'
      cases hi'
      have hcl:cs.length=i.size:=by have:=(hcs E).1; simpa [hzs] using this
      refine ⟨i.size,nl.toNat,cs,.cells (zrow z.cells (nc.toNat * i.size)) e,.slice (some ⟨w.heap.size,0,none⟩) nl.toNat nc.toNat,h,?_,fun E' hh=>?_,fun E' j hh hmu=>?_⟩
      · have hw1:IntKind.i64.wrap nl=nl:=wrap_id h1 (by omega)
        have hw2:IntKind.i64.wrap nc=nc:=wrap_id (by omega) (by omega)
        have hx:(execOp a.eval o)=(do pure (.value (← Instr.makeSlice t (.int kl nl) (.int kc nc)))):=by
          unfold execOp
          rw [ho,← el,← ec]
        rw [hx,Sem.run_bind]
        unfold Instr.makeSlice
        simp only [Sem.run_bind,run_underlying hu,Result.andThen_ok,asInt,asIntOf,Sem.run_pure,run_typeInfo w hi,hw1,hw2]
        have hcond:((decide (nc<0)||decide (↑i.bytes * nc>2 ^ 48))||decide (nl<0)||decide (nl>nc))=false:=by
          simp only [Bool.or_eq_false_iff,decide_eq_false_iff_not]
          refine ⟨⟨⟨by omega,?_⟩,by omega⟩,by omega⟩
          have:((2:Int) ^ 48)=281474976710656:=by decide
          rw [this]
          omega
        rw [hcond]
        simp only [Bool.false_eq_true,if_false,Sem.run_bind,run_askRoom,Result.andThen_ok,run_sizeOf hi]
        by_cases hh:nc.toNat * i.size=0
        · rw [if_pos hh]
          have e0:zrow z.cells (nc.toNat * i.size)=(Array.range (nc.toNat * i.size)).map (fun x=>(#[]:Array Value)[x % (#[]:Array Value).size]!):=by
            apply Array.ext_getElem?
            intro m
            rw [hh]
            simp [zrow]
          rw [e0]
          rfl
        · rw [if_neg hh]
          simp only [Sem.run_bind,run_zeroValue hi hz,Result.andThen_ok,Sem.run_pure]
          rfl
      · refine ⟨⟨rfl,by simp⟩,?_⟩
        rw [hh]
        refine ArrR.of_rows h0 (fun r hr=>by rw [List.eq_of_mem_replicate hr]; exact hcl) (push_get w _) ?_ (fun i' row r c' h6 h7=>?_)
        · rw [List.length_replicate,zrow_size,Nat.zero_add]
          exact Nat.mul_le_mul_right _ (by omega)
        · obtain ⟨u,hu',hv⟩:=zrow_rows (hcs E'.fz) hzs (n:=nc.toNat * i.size) (Nat.mul_le_mul_right _ (by omega)) h6 h7
          exact ⟨u,hu',hv⟩
      · refine .mf _ hmu (by omega) ?_
        rw [hh]
        unfold sizeH
        rw [push_get]
        simp [zrow_size]
    · exact False.elim h
  · exact False.elim h
theorem makeOwnK_out {nw:Bool} {j:Nat} {t:TypeId} {l c:AV} {k:AV→St→Prop} (h:makeOwnK P nw j t l c S k):newSlK P t l c fun sz n cs=>sz=1∧cs=[.nilsl]∧∃ s2,0<rsz s2∧placeO j S.o S.b (.own none s2 (List.replicate n none) none) fun o=>k (.mf j) { t:=S.t,l:=S.l,o:=o,b:=S.b }:=by
  unfold makeOwnK at h
  unfold newSlK
  split at h
  · rename_i e hu
    try rw [hu]
    try dsimp only
    split at h
    · rename_i i e2 hi he
      try rw [hi]
      try dsimp only
      split at h
      · rename_i i2 hi2
        refine intOf_mono h (fun nl h=>?_)
        refine intOf_mono h (fun nc h=>?_)
        obtain ⟨hb,h⟩:=Chk_elim h
        rw [Bool.and_eq_true,Bool.and_eq_true] at hb
        refine Chk_intro hb.1.1 ?_
        have h1:=Nat.eq_of_beq_eq_true hb.1.2
        have hb2:=hb.2
        rw [Bool.and_eq_true,Nat.blt_eq,Nat.blt_eq] at hb2
        have h2:0<i2.size:=hb2.1
        refine zeroRow_mono h (fun z h=>?_)
        split at h
        · refine ⟨h1,rfl,_,?_,h⟩
          cases nw with
          | true =>
            show 0<rsz (i2.size + 65536)
            unfold rsz nnz
            have:Nat.ble 65536 (i2.size + 65536)=true:=by simp
            rw [this]
            show 0<i2.size + 65536 - 65536
            omega
          | false =>
            show 0<rsz i2.size
            unfold rsz nnz
            cases hbb:Nat.ble 65536 i2.size with
            | true =>
              have:=Nat.le_of_ble_eq_true hbb
              have:=hb2.2
              omega
            | false=>exact h2
        · exact h.elim
      · exact h.elim
    · exact h.elim
  · exact h.elim
theorem makeOwn_sound {o:Oper} {nw:Bool} {j:Nat} {t:TypeId} {X Y:Operand} {K:St→Prop} (hM:SimM G p E S w) (ht:TR G E S.t a) (ho:o.op=.makeSlice t X Y) (h:getK S X fun l=>getK S Y fun c=>makeOwnK P nw j t l c (memOf S) fun r M=>putK o.dst r (withM S M) K):XStep P G p o a w K:=by
  obtain ⟨sz,n,cs,ob,z,⟨h1,h2,s2,hs2,hk⟩,hrun,hO,hv⟩:=slice_core (w:=w) ht ho (getK_mono h (fun l h=>getK_mono h (fun c h=>makeOwnK_out h)))
  subst h1
  subst h2
  obtain ⟨hb,hd,hk⟩:=placeO_out hk
  rw [putK_iff] at hk
  have hk:K (setT { t:=S.t,l:=S.l,o:=(S.o++List.replicate (j + 1 - S.o.length) Ob.dead).set j (.own none s2 (List.replicate n none) none),b:=S.b } o.dst (.mf j)):=hk
  have hd:(S.o++List.replicate (j + 1 - S.o.length) Ob.dead)[j]?=some .dead:=hd
  have hM1:=hM.pad (j + 1 - S.o.length)
  generalize S.o++List.replicate (j + 1 - S.o.length) Ob.dead=O1 at hk hd hM1
  have hlt:j<O1.length:=(List.getElem?_eq_some_iff.1 hd).1
  refine (newobj_at (S:={ t:=S.t,l:=S.l,o:=O1,b:=S.b }) (x:=.arr true 1 (List.replicate n [.nilsl])) (K:=fun S2=>S2=setT { t:=S.t,l:=S.l,o:=O1.set j (.arr true 1 (List.replicate n [.nilsl])),b:=S.b } o.dst (.mf j)) (r:=.mf j) hM1 ht hd hb rfl hrun hO (fun E' e hmu=>hv E' j e hmu) rfl).then (fun S' E' a' w' hk' hS htr=>?_)
  subst hk'
  have hS':=hS.congr (M':={ t:=S.t,l:=S.l,o:=O1.set j (.arr true 1 (List.replicate n [.nilsl])),b:=S.b }) setT_l.symm setT_o.symm setT_b.symm
  have hS2:=toOwn_sound hS' (id:=j) (n:=n) hs2 (List.getElem?_set_self hlt)
  refine ⟨_,E',hk,hS2.congr setT_l ?_ setT_b,?_⟩
  · rw [setT_o]
    show _=(O1.set j _).set j _
    rw [List.set_set]
  · have:(setT { t:=S.t,l:=S.l,o:=O1.set j (.own none s2 (List.replicate n none) none),b:=S.b } o.dst (.mf j)).t=(setT { t:=S.t,l:=S.l,o:=O1.set j (.arr true 1 (List.replicate n [.nilsl])),b:=S.b } o.dst (.mf j)).t:=by cases o.dst <;> rfl
    rw [this]
    exact htr
theorem makeOwnMap_sound {o:Oper} {t:TypeId} {K:St→Prop} (hM:SimM G p E S w) (ht:TR G E S.t a) (ho:o.op=.makeMap t none) (h:makeOwnMapK P t (memOf S) fun r M=>putK o.dst r (withM S M) K):XStep P G p o a w K:=by
  unfold makeOwnMapK at h
  split at h
  · split at h
    · split at h
      · rename_i i2 _
        obtain ⟨hsz0,h⟩:=Chk_elim h
        rw [Bool.and_eq_true,Nat.blt_eq,Nat.blt_eq] at hsz0
        have hsz:0<rsz i2.size:=by
          unfold rsz nnz
          cases hbb:Nat.ble 65536 i2.size with
          | true =>
            have:=Nat.le_of_ble_eq_true hbb
            have:=hsz0.2
            omega
          | false=>exact hsz0.1
        rw [forceO_iff,putK_iff] at h
        have h1:forceO (S.o++[.mapo true []]) fun o'=>putK o.dst (.mp S.o.length) { t:=S.t,l:=S.l,o:=o',b:=S.b } fun S2=>S2=setT { t:=S.t,l:=S.l,o:=S.o++[.mapo true []],b:=S.b } o.dst (.mp S.o.length):=by
          rw [forceO_iff,putK_iff]
        refine (makeMap_sound hM ht ho h1).then (fun S' E' a' w' hk hS htr=>?_)
        subst hk
        have hS':=hS.congr (M':={ t:=S.t,l:=S.l,o:=S.o++[.mapo true []],b:=S.b }) setT_l.symm setT_o.symm setT_b.symm
        have hob:(S.o++[Ob.mapo true []])[S.o.length]?=some (.mapo true []):=by
          rw [List.getElem?_append_right (Nat.le_refl _),Nat.sub_self]
          rfl
        have hw:=hS'.ow S.o.length
        rw [show ({ t:=S.t,l:=S.l,o:=S.o++[.mapo true []],b:=S.b }:St).o[S.o.length]?=_ from hob] at hw
        have hw:∀ i,E'.mu (.S S.o.length i)=none:=hw
        have hOb:=hS'.obj S.o.length
        rw [show ({ t:=S.t,l:=S.l,o:=S.o++[.mapo true []],b:=S.b }:St).o[S.o.length]?=_ from hob] at hOb
        obtain ⟨_,hS2⟩:=hS'.reS (id:=S.o.length) (mu':=E'.mu) (fun _ _=>rfl) (fun j b o s n h=>by rw [hw j] at h; cases h) (fun j j' b o s n o2 s2 n2 h h'=>by rw [hw j] at h; cases h) hob (fun e=>by cases e)
          (y:=.own (some []) i2.size [] none) (by
            revert hOb
            cases E'.mu (.O S.o.length) with
            | none=>exact fun h=>h.elim
            | some mv =>
              cases mv with
              | virt=>exact fun h=>h.elim
              | blk b o s n=>exact fun _ e=>by cases e) ⟨hsz,fun i _=>hw i,fun b o s n hm=>by
            rw [hm] at hOb
            obtain ⟨ms,clock,h1,⟨h2,h3⟩,_⟩:=hOb
            exact ⟨⟨ms,clock,h1,⟨h2,rfl,h3⟩,fun i k m hk=>by simp at hk⟩,fun i c hi=>by simp at hi⟩⟩
        have e:(S.o++[Ob.mapo true []]).set S.o.length (Ob.own (some []) i2.size [] none)=S.o++[Ob.own (some []) i2.size [] none]:=by
          rw [List.set_append_right _ _ (Nat.le_refl _),Nat.sub_self]
          rfl
        refine ⟨_,E',h,hS2.congr ?_ ?_ ?_,?_⟩
        · exact setT_l
        · rw [setT_o]; exact e.symm
        · exact setT_b
        · have:(setT (withM S { t:=(memOf S).t,l:=(memOf S).l,o:=(memOf S).o++[Ob.own (some []) i2.size [] none],b:=(memOf S).b }) o.dst (.mp (memOf S).o.length)).t=(setT { t:=S.t,l:=S.l,o:=S.o++[.mapo true []],b:=S.b } o.dst (.mp S.o.length)).t:=by cases o.dst <;> rfl
          rw [this]
          exact htr
      · exact h.elim
    · exact h.elim
  · exact h.elim
theorem own1_sound {C:Ctx} {pl:Pol} {o:Oper} {K:St→Prop} (hM:SimM G p E S w) (ht:TR G E S.t a) (h:own1 C pl o S K):XStep C.P G p o a w K:=by
  have fin:∀ {M':St} {E':Env} {w':World} {r:AV} {z:Value},putK o.dst r (withM S M') K→SimM G p E' M' w'→LE E E'→VR E' r z→(execOp a.eval o).run C.P w=.ok (.value z) w'→∀ (next:Act→World→Prop) (Q:Exit→Act→World→Prop),(∀ S' E' a' w',K S'→SimM G p E' S' w'→TR G E' S'.t a'→next a' w')→o.wp C.P a w next Q:=by
    intro M' E' w' r z hk hS hle hv hrun next Q hn
    rw [putK_iff] at hk
    refine wp_value hrun ?_
    exact hn _ E' _ w' hk (hS.congr (by rw [setT_l]; rfl) (by rw [setT_o]; rfl) (by rw [setT_b]; rfl)) ((TR.mono (t:=S.t) ht hle).put (S:=withM S M') hv)
  have fin2:∀ {M':St} {E':Env} {w':World},putK o.dst .bad (withM S M') K→SimM G p E' M' w'→LE E E'→(execOp a.eval o).run C.P w=.ok .skip w'→∀ (next:Act→World→Prop) (Q:Exit→Act→World→Prop),(∀ S' E' a' w',K S'→SimM G p E' S' w'→TR G E' S'.t a'→next a' w')→o.wp C.P a w next Q:=by
    intro M' E' w' hk hS hle hrun next Q hn
    rw [putK_iff] at hk
    unfold Oper.wp
    rw [hrun]
    exact hn _ E' (a.put o.dst undef) w' hk (hS.congr (by rw [setT_l]; rfl) (by rw [setT_o]; rfl) (by rw [setT_b]; rfl)) ((TR.mono (t:=S.t) ht hle).put (S:=withM S M') (.bad _ _))
  have hM0:SimM G p E (memOf S) w:=hM.congr rfl rfl rfl
  by_cases hmk:∃ t X Y,o.op=.makeSlice t X Y
  · obtain ⟨t,X,Y,ho⟩:=hmk
    refine makeOwn_sound (nw:=hasN pl.nw (o.dst.getD 0)) (j:=ownAt pl.ix o.dst S.o.length) hM ht ho ?_
    unfold own1 at h
    unfold ownD at h
    rw [ho] at h
    exact h
  by_cases hmm:∃ t,o.op=.makeMap t none
  · obtain ⟨t,ho⟩:=hmm
    refine makeOwnMap_sound hM ht ho ?_
    unfold own1 at h
    unfold ownD at h
    rw [ho] at h
    exact h
  unfold own1 at h
  obtain ⟨vs,h,hv⟩:=getsK_elim ht h
  unfold ownD at h
  intro next Q hn
  split at h
  · rename_i t x pv ho
    rw [ho] at hv
    have hv:VRs E [pv] [a.eval x]:=by simpa [Op.operands] using hv
    obtain ⟨u,us,e,hp,hnl⟩:=hv.uncons
    cases e
    obtain ⟨id,i,b,off,n,sz,cells,hole,h,hob,hmu,hu⟩:=ownAtK_sound hM0 hp h
    obtain ⟨M',E',r,z,hk,hS,hle,hr,hrun⟩:=ownLoadK_sound hM0 hob hmu h
    exact fin hk hS hle hr (by simp [execOp,ho,hu,hrun]) next Q hn
  · rename_i t x y pv v ho
    rw [ho] at hv
    have hv:VRs E [pv,v] [a.eval x,a.eval y]:=by simpa [Op.operands] using hv
    obtain ⟨u,us,e,hp,hv⟩:=hv.uncons
    cases e
    obtain ⟨u,us,e,hy,hv⟩:=hv.uncons
    cases e
    obtain ⟨id,i,b,off,n,sz,cells,hole,h,hob,hmu,hu⟩:=ownAtK_sound hM0 hp h
    obtain ⟨M',E',w',hk,hS,hle,hrun⟩:=ownStoreK_sound hM0 hmu hy h
    exact fin2 hk hS hle (by simp [execOp,ho,hu,hrun]) next Q hn
  · rename_i t X Y l c ho
    exact absurd ⟨t,X,Y,ho⟩ hmk
  · rename_i t ho
    exact absurd ⟨t,ho⟩ hmm
  · rename_i t X Y ok m key ho
    rw [ho] at hv
    have hv:VRs E [m,key] [a.eval X,a.eval Y]:=by simpa [Op.operands] using hv
    obtain ⟨u,us,e,hm,hv⟩:=hv.uncons
    cases e
    obtain ⟨u,us,e,hkey,hv⟩:=hv.uncons
    cases e
    obtain ⟨M',E',r,z,hk,hS,hle,hr,hrun⟩:=ownLookK_sound hM0 hm hkey h
    exact fin hk hS hle hr (by simp [execOp,ho,hrun]) next Q hn
  · rename_i t X Y Z m key x ho
    rw [ho] at hv
    have hv:VRs E [m,key,x] [a.eval X,a.eval Y,a.eval Z]:=by simpa [Op.operands] using hv
    obtain ⟨u,us,e,hm,hv⟩:=hv.uncons
    cases e
    obtain ⟨u,us,e,hkey,hv⟩:=hv.uncons
    cases e
    obtain ⟨u,us,e,hx,hv⟩:=hv.uncons
    cases e
    obtain ⟨M',E',w',hk,hS,hle,hrun⟩:=ownUpdK_sound hM0 hm hkey hx h
    exact fin2 hk hS hle (by simp [execOp,ho,hrun]) next Q hn
  · rename_i t X Y Z m key x ho
    rw [ho] at hv
    have hv:VRs E [m,key,x] [a.eval X,a.eval Y,a.eval Z]:=by simpa [Op.operands] using hv
    obtain ⟨u,us,e,hm,hv⟩:=hv.uncons
    cases e
    obtain ⟨u,us,e,hkey,hv⟩:=hv.uncons
    cases e
    obtain ⟨u,us,e,hx,hv⟩:=hv.uncons
    cases e
    obtain ⟨M',E',w',hk,hS,hle,hrun⟩:=ownUpdK_sound hM0 hm hkey hx h
    exact fin2 hk hS hle (by simp [execOp,ho,hrun]) next Q hn
  · exact h.elim
end
def rd (r:Option Nat):Fence:={ Fence.wide with round:=r }
def YCall (P:Program) (id:Nat) (args:List AV) (o:List Ob) (K:AV→List Ob→Prop):Prop :=
  ∀ (rr:Option Nat) (E:Env) (w:World) (us:Array Value),SimM (ghO E w) pn E (stO o o.length) w→GTE E→VRs E args us.toList →
    ∃ l x y z,E.mu (.O id)=some (.blk l x y z)∧YieldAt (rd rr) 0 P l us w fun e w'=>∃ v r o' E',K r o'∧e=.returned v∧SimM (ghO E w) pn E' (stO o' o.length) w'∧VR E' r v
structure CallOK (C:Ctx):Prop where
  pcall:∀ f args K,C.pcall f args K→PCall C.P f args K
  scall:∀ f args o K,C.scall f args o K→SCall C.P f args o K
  ycall:∀ id args o K,C.ycall id args o K→YCall C.P id args o K
section
variable {G:Gh} {pd:Nat→Option (List AV)} {E:Env} {S:St} {w:World} {C:Ctx} {pl:Pol} {o:Oper} {a:Act} {K:St→Prop}
theorem memOf_sim (hM:SimM G pd E S w):SimM G pd E (memOf S) w:=hM.congr rfl rfl rfl
theorem pop1_sound (hM:SimM G pd E S w) (ht:TR G E S.t a) (h:pop1 C pl o S K):XStep C.P G pd o a w K:=by
  obtain ⟨vs,h,hv⟩:=getsK_elim ht h
  by_cases hb:∃ t len parts,o.op=.buildSlice t len parts
  · obtain ⟨t,len,parts,ho⟩:=hb
    unfold pop at h
    rw [ho] at h
    replace h:=Chk_elim h; obtain ⟨hp,h⟩:=h
    have hl:parts.toList.length=vs.length:=by simpa using Nat.eq_of_beq_eq_true hp
    have hv':VRs E vs ((parts.toList.map (·.2)).map a.eval):=by
      rw [ho] at hv
      simpa [Op.operands] using hv
    refine XStep.of1 (S:=S) ⟨rfl,rfl,rfl⟩ ht (buildFz_sound hM ho hl hv' h) (fun r M' hk=>?_)
    obtain ⟨hk,rfl⟩:=hk
    rw [putK_iff] at hk
    exact ⟨_,hk,rfl⟩
  · have hs:∀ t len parts,o.op≠.buildSlice t len parts:=fun t len parts he=>hb ⟨t,len,parts,he⟩
    obtain ⟨r,z,hk,hr,hrun⟩:=pop_sound h hs hv w
    rw [putK_iff] at hk
    intro next Q hn
    exact wp_value hrun (hn _ E _ w hk (hM.congr setT_l setT_o setT_b) (ht.put hr))
theorem rop1_sound (hC:CallOK C) (hM:SimM G pd E S w) (ht:TR G E S.t a) (h:rop1 C o S K):XStep C.P G pd o a w K:=by
  obtain ⟨vs,h,hv⟩:=getsK_elim ht h
  refine XStep.of1 (S:=S) (M:=memOf S) ⟨rfl,rfl,rfl⟩ ht (rop_sound hC.pcall (memOf_sim hM) ht.gt h hv) (fun r M' hk=>?_)
  obtain ⟨hk,rfl⟩:=hk
  rw [putK_iff] at hk
  exact ⟨_,hk,rfl⟩
theorem wop1_sound (hM:SimM G pd E S w) (ht:TR G E S.t a) (h:wop1 C o S K):XStep C.P G pd o a w K:=by
  obtain ⟨vs,h,hv⟩:=getsK_elim ht h
  refine XStep.of1 (S:=S) (M:=memOf S) ⟨rfl,rfl,rfl⟩ ht (wop_sound (memOf_sim hM) h hv) (fun r M' hk=>?_)
  rw [putK_iff] at hk
  exact ⟨_,hk,by cases o.dst <;> rfl⟩
theorem xop_sound (hC:CallOK C) (hpd:isBox pl o=true→∀ d,o.dst=some d→pd d=none) (hM:SimM G pd E S w) (ht:TR G E S.t a) (h:xop C pl o S K):XStep C.P G pd o a w K:=by
  unfold xop at h
  split at h
  · rename_i e ho
    exact alloc_sound (fun d hd _=>hpd (by unfold isBox; rw [ho]) d hd) hM ht ho h
  · rename_i e x ho
    exact boxop_sound (fun d hd he=>hpd (by unfold isBox; rw [ho]; dsimp only; rw [hd]; show (!(hasN pl.esc d))=true; rw [he]; rfl) d hd) hM ht ho h
  · rename_i t len parts ho
    exact buildSlice_sound hM ht ho h
  · rename_i t r ho
    cases r with
    | none=>exact makeMap_sound hM ht ho h
    | some r=>exact False.elim h
  · rename_i t l c ho
    exact makeSlice_sound (bx:=hasN pl.nn (o.dst.getD 0)) hM ht ho h
  · rename_i t m key x ho
    exact mapUpdate_sound hM ht ho h
  · rename_i t m key x ho
    exact insert_sound hM ht ho h
  · rename_i c ho
    split at h
    · rename_i b hcal
      split at h
      · obtain ⟨vs,h,hv⟩:=getsK_elim ht h
        split at h
        · rename_i x kd n
          obtain ⟨u,us,e,hc,hn⟩:=hv.uncons
          obtain ⟨u1,us1,rfl,hc1,hn1⟩:=hn.uncons
          have:=hn1.unnil
          subst this
          obtain ⟨rfl,_⟩:=hc1.vI
          exact appendZ_sound hM ht ho hcal e hc h
        · rename_i y _
          obtain ⟨u,us,e,hc,hn⟩:=hv.uncons
          obtain ⟨u1,us1,rfl,hc1,hn1⟩:=hn.uncons
          have:=hn1.unnil
          subst this
          exact appendX_sound hM ht ho hcal e hc hc1 (Chk_elim h).2
        · rename_i x y _ _
          obtain ⟨u,us,e,hc,hn⟩:=hv.uncons
          obtain ⟨u1,us1,rfl,hc1,hn1⟩:=hn.uncons
          have:=hn1.unnil
          subst this
          exact append_sound hM ht ho hcal e hc hc1 h
        · exact False.elim h
      · obtain ⟨vs,h,hv⟩:=getsK_elim ht h
        split at h
        · rename_i x y
          obtain ⟨u,us,e,hc,hn⟩:=hv.uncons
          obtain ⟨u1,us1,rfl,hc1,hn1⟩:=hn.uncons
          have:=hn1.unnil
          subst this
          exact copy_sound hM ht ho hcal e hc hc1 h
        · exact False.elim h
      · obtain ⟨vs,h,hv⟩:=getsK_elim ht h
        split at h
        · rename_i x
          obtain ⟨u,us,e,hc,hn⟩:=hv.uncons
          have:=hn.unnil
          subst this
          exact clear_sound hM ht ho hcal e hc h
        · exact False.elim h
      · exact False.elim h
    · rename_i f hcal
      obtain ⟨fv,h,hf⟩:=getK_elim h ht
      obtain ⟨as,h,has⟩:=getsK_elim ht h
      unfold callK at h
      split at h
      · rename_i fid first cap
        split at h
        · exact callpure_sound hC.pcall hM ht ho hcal hf has h
        · replace h:=Chk_elim h; obtain ⟨hnl,h⟩:=h
          exact scall_sound hM ht ho hcal hf has hnl (hC.scall _ _ _ _ h)
      · exact False.elim h
    · exact False.elim h
  · exact False.elim h
theorem aop0_sound (hC:CallOK C) (hM:SimM G pn E S w) (ht:TR G E S.t a) (h:aop0 C pl o S K):XStep C.P G pn o a w K:=by
  unfold aop0 at h
  split at h
  · exact pop1_sound hM ht h
  · exact rop1_sound hC hM ht h
  · exact wop1_sound hM ht h
  · exact xop_sound hC (fun _ _ _=>rfl) hM ht h
theorem aop_sound (hC:CallOK C) (hM:SimM G pn E S w) (ht:TR G E S.t a) (h:aop C pl o S K):XStep C.P G pn o a w K:=by
  unfold aop at h
  split at h
  · exact own1_sound hM ht h
  · exact aop0_sound hC hM ht h
theorem rd_calls {r:Option Nat} {n:Nat} {P:Program} {f:FuncId} {args:Array Value} {w:World} {R:Ending→World→Prop}:CallsIn (rd r) n P f args w R↔Calls P f args w R:=callsIn_wide (n:=n)
theorem rd_steps {r:Option Nat} {P:Program} {m m':Machine}:StepsIn (Machine.fenced P (rd r)) P m m'↔Steps P m m':=stepsIn_wide
theorem op_in {r:Option Nat} {n:Nat} {P:Program} {o:Oper} {a:Act} {w:World} {next:Act→World→Prop} {Q:Exit→Act→World→Prop} (hd:∀ c,o.op≠.defer c) (h:o.wp P a w next Q):o.wpIn (rd r) n P a w next Q:=by
  refine ⟨fun _ _=>trivial,?_⟩
  rw [Oper.semAt_eq _ _ _ hd]
  unfold Oper.wp at h
  revert h
  generalize (execOp a.eval o).run P w=x
  intro h
  have hn:((rd r).depth.isSome=true→1≤n):=fun h=>by cases h
  cases x with
  | ok x w' =>
    cases x with
    | enter f args=>exact ⟨hn,rd_calls.2 (Calls.mono h (fun e w'' he=>by cases e <;> exact he))⟩
    | row row args=>exact ⟨hn,fun c cs _=>let ⟨v,w',hr,s⟩:=h c cs; ⟨v,w',hr,rd_steps.2 s⟩⟩
    | _=>first | exact h | exact False.elim h
  | halt x w'=>cases x <;> first | exact h | exact False.elim h
theorem aop_nd {C:Ctx} {pl:Pol} {o:Oper} {S:St} {K:St→Prop} (h:aop C pl o S K) (c:Call):o.op≠.defer c:=by
  intro ho
  have hc:cls o=3:=by unfold cls; rw [ho]
  have hw:ownOp pl o=false:=by unfold ownOp; rw [ho]
  have h0:aop0 C pl o S K:=by unfold aop at h; rw [hw] at h; exact h
  have h1:xop C pl o S K:=by unfold aop0 at h0; rw [hc] at h0; exact h0
  unfold xop at h1
  rw [ho] at h1
  exact h1
theorem TR.lit {d:Nat} {b:Bool} (ht:TR G E S.t a) (hd:S.t[d]?=some (.v (.bool b))):a.tmps[d]?=some (.bool b):=by
  have hlt:d<a.tmps.size:=by rw [← ht.len]; exact (List.getElem?_eq_some_iff.1 hd).1
  rw [Array.getElem?_eq_getElem hlt]
  have:=ht.val d _ _ hd (Array.getElem?_eq_getElem hlt)
  rw [this.vI.1]
theorem TR.relit {d:Nat} {b:Bool} (ht:TR G E S.t a) (hd:S.t[d]?=some (.v (.bool b))):TR G E (S.t.set d (.v (.bool b))) a:=by
  have:S.t.set d (.v (.bool b))=S.t:=by
    apply List.ext_getElem?
    intro j
    rw [List.getElem?_set]
    by_cases hj:d=j
    · subst hj
      rw [if_pos rfl,if_pos (List.getElem?_eq_some_iff.1 hd).1,hd]
    · rw [if_neg hj]
  rw [this]
  exact ht
theorem boolAt_elim {d:Nat} {k:Bool→St→Prop} (hM:SimM G pd E S w) (ht:TR G E S.t a) (h:boolAt d S k):∃ b S1,k b S1∧a.tmps[d]?=some (.bool b)∧SimM G pd E S1 w∧TR G E S1.t a:=by
  unfold boolAt at h
  rw [nthK_iff] at h
  obtain ⟨c,hc,h⟩:=h
  split at h
  · rename_i b
    rcases Fork_elim h with ⟨hb,h2⟩ | ⟨hb,h2⟩
    · subst hb
      rw [setK_iff] at h2
      exact ⟨true,_,h2,ht.lit hc,hM.congr rfl rfl rfl,ht.relit hc⟩
    · subst hb
      rw [setK_iff] at h2
      exact ⟨false,_,h2,ht.lit hc,hM.congr rfl rfl rfl,ht.relit hc⟩
  · exact False.elim h
theorem guardAt_elim {d:Nat} {k:Option Bool→St→Prop} (hM:SimM G pd E S w) (ht:TR G E S.t a) (h:guardAt d S k) :
    ∃ b S1,k b S1∧(match b with | some b=>a.tmps[d]?=some (.bool b) | none=>a.tmps[d]?=some (.tuple #[]))∧SimM G pd E S1 w∧TR G E S1.t a:=by
  unfold guardAt at h
  rw [nthK_iff] at h
  obtain ⟨c,hc,h⟩:=h
  split at h
  · rename_i b
    rcases Fork_elim h with ⟨hb,h2⟩ | ⟨hb,h2⟩
    · subst hb
      rw [setK_iff] at h2
      exact ⟨some true,_,h2,ht.lit hc,hM.congr rfl rfl rfl,ht.relit hc⟩
    · subst hb
      rw [setK_iff] at h2
      exact ⟨some false,_,h2,ht.lit hc,hM.congr rfl rfl rfl,ht.relit hc⟩
  · refine ⟨none,S,h,?_,hM,ht⟩
    have hlt:d<a.tmps.size:=by rw [← ht.len]; exact (List.getElem?_eq_some_iff.1 hc).1
    show a.tmps[d]?=_
    rw [Array.getElem?_eq_getElem hlt]
    obtain ⟨us,hu,hv⟩:=(ht.val d _ _ hc (Array.getElem?_eq_getElem hlt)).tupI
    rw [hu]
    have:=hv.unnil
    have:us=#[]:=by apply Array.ext'; simpa using this
    rw [this]
  · exact False.elim h
theorem yielded_of {ops:Array Oper} {j d:Nat} {b:Option Bool} (hd:dstOf ops j=some d) (hb:match b with | some b=>a.tmps[d]?=some (.bool b) | none=>a.tmps[d]?=some (.tuple #[])):yielded ops a.tmps j=b:=by
  unfold yielded
  unfold dstOf at hd
  rw [hd]
  cases b with
  | some b=>simp [hb]
  | none=>simp [hb]
theorem VR_undef (E:Env):VR E (.tup []) undef:=.tup #[] rfl (fun m c u h=>by simp at h)
theorem gsel_wanted {o:Oper} {f:Nat→Option Bool} {j:Nat} {want:Bool} {b:Option Bool} {X Y:Prop} (hg:o.guard=some (j,want)) (hf:f j=b) (h:gsel b want X Y):(Region.wanted o f=true∧X)∨(Region.wanted o f=false∧Y):=by
  unfold Region.wanted
  rw [hg]
  simp only [hf]
  cases b with
  | none=>exact .inr ⟨rfl,h⟩
  | some b =>
    cases b <;> cases want
    · exact .inl ⟨rfl,h⟩
    · exact .inr ⟨rfl,h⟩
    · exact .inr ⟨rfl,h⟩
    · exact .inl ⟨rfl,h⟩
theorem aopY_in (hC:CallOK C) {rr:Option Nat} (hM:SimM G pn E S w) (ht:TR G E S.t a) (h:aopY C pl o S K) (next:Act→World→Prop) (Q:Exit→Act→World→Prop)
    (hn:∀ S' E' a' w',K S'→SimM G pn E' S' w'→TR G E' S'.t a'→next a' w'):o.wpIn (rd rr) 0 C.P a w next Q:=by
  unfold aopY at h
  split at h
  · rename_i id xs hy
    obtain ⟨c,d,ho,hcal,hd,rfl⟩:∃ c d,o.op=.call c∧c.callee=.value (.tmp d)∧S.t[d]?=some (.yld id)∧xs=c.args.toList:=by
      unfold yldOf at hy
      split at hy
      · rename_i c ho
        split at hy
        · rename_i d hcal
          split at hy
          · rename_i id' hd
            cases hy
            exact ⟨c,d,ho,hcal,hd,rfl⟩
          · cases hy
        · cases hy
      · cases hy
    obtain ⟨vs,h,hv⟩:=getsK_elim ht h
    obtain ⟨hnl,h⟩:=Chk_elim h
    have hlt:d<a.tmps.size:=by rw [← ht.len]; exact (List.getElem?_eq_some_iff.1 hd).1
    have hvd:=ht.val d _ _ hd (Array.getElem?_eq_getElem hlt)
    have hx0:a.eval (.tmp d)=a.tmps[d]:=by
      show a.tmps.getD d undef=_
      rw [Array.getD_eq_getD_getElem?,Array.getElem?_eq_getElem hlt]
      rfl
    obtain ⟨l',x',y',z',hmu',hfv⟩:∃ l x y z,E.mu (.O id)=some (.blk l x y z)∧a.eval (.tmp d)=.func (.yield l) #[] #[]:=by
      rw [hx0]
      generalize a.tmps[d]=u at hvd
      cases hvd with
      | yld hm=>exact ⟨_,_,_,_,hm,rfl⟩
    obtain ⟨l,x,y,z,hmu,fn,tmps,asg,body,hrun,hround⟩:=hC.ycall _ _ _ _ h rr E.ob w (c.args.map a.eval) hM.sub ht.gt ⟨by have:=hv.1; simpa using this,fun m c' u hc hu=>noL_ob 4 (List.all_eq_true.1 hnl c' (List.mem_of_getElem? hc)) (hv.2 m c' u hc (by simpa using hu))⟩
    have hll:l=l':=by
      have h9:E.mu (.O id)=some (.blk l x y z):=hmu
      rw [hmu'] at h9
      cases h9
      rfl
    subst hll
    have hnd:∀ c,o.op≠.defer c:=fun c' h=>by rw [ho] at h; cases h
    refine ⟨fun _ _=>trivial,?_⟩
    rw [Oper.semAt_eq _ _ _ hnd]
    have hex:(execOp a.eval o).run C.P w=.ok (.round l fn tmps asg body) w:=by
      simp [execOp,ho,resolve,hcal,hfv,Deferred.ofValue,invoke,hrun]
    rw [hex,Oper.uponIn_round]
    refine ⟨(fun h=>by cases h),hround.mono ?_⟩
    rintro e w' ⟨v,r,o',E',hK,rfl,hM',hvr⟩
    rw [killTL_iff,putK_iff] at hK
    obtain ⟨hS,htr,hle⟩:=hM.back ht hM'
    exact hn _ _ _ w' hK (hS.congr setT_l setT_o setT_b) (htr.put (hvr.mono hle))
  · exact op_in (aop_nd h) (aop_sound hC hM ht h _ _ hn)
theorem aops_sound (hC:CallOK C) {rr:Option Nat} {all:Array Oper} {Q:Exit→Act→World→Prop}:∀ {ops:List Oper} {E:Env} {S:St} {w:World} {a:Act} {K:St→Prop},SimM G pn E S w→TR G E S.t a→aops C pl all ops S K →
    (∀ S' E' a' w',K S'→SimM G pn E' S' w'→TR G E' S'.t a'→Q .normal a' w')→wpListIn (rd rr) 0 C.P all Q ops a w
  | [],E,S,w,a,K,hM,ht,h,hQ=>hQ _ _ _ _ h hM ht
  | o::rest,E,S,w,a,K,hM,ht,h,hQ=>by
    have step:∀ {S1:St},SimM G pn E S1 w→TR G E S1.t a→Region.wanted o (yielded all a.tmps)=true→(aopY C pl o S1 fun S'=>aops C pl all rest S' K)→wpListIn (rd rr) 0 C.P all Q (o::rest) a w:=by
      intro S1 hM1 ht1 hw h
      unfold wpListIn
      rw [if_pos hw]
      refine aopY_in hC hM1 ht1 h _ _ (fun S' E' a' w' hk hS htr=>?_)
      exact aops_sound hC hS htr hk hQ
    unfold aops at h
    split at h
    · rename_i hg
      exact step hM ht (by unfold Region.wanted; rw [hg]) h
    · rename_i j want hg
      split at h
      · exact False.elim h
      · rename_i d hd
        obtain ⟨b,S1,h,hb,hM1,ht1⟩:=guardAt_elim hM ht h
        rcases gsel_wanted hg (yielded_of hd hb) h with ⟨hw,h⟩ | ⟨hw,h⟩
        · exact step hM1 ht1 hw h
        · rw [putK_iff] at h
          unfold wpListIn
          rw [if_neg (by rw [hw]; exact fun h=>by cases h)]
          exact ⟨fun _ _=>trivial,aops_sound hC (hM1.congr setT_l setT_o setT_b) (ht1.put (VR_undef _)) h hQ⟩
end
def exOf:Ex→Exit
  | .nrm=>.normal
  | .ex i=>.exit i
  | .ret=>.ret
def QOK (G:Gh) (K:Ex→St→Prop) (Q:Exit→Act→World→Prop):Prop:=∀ e S' E' a' w',K e S'→SimM G pn E' S' w'→TR G E' S'.t a'→Q (exOf e) a' w'
def RF (C:Ctx) (c:Code) (r:Option Nat):Prop:=C.rf=true→noRF c=true∨r=none
def LoopOK (C:Ctx):Prop:=∀ pl c S K,C.loop pl c S K→∀ (r:Option Nat),RF C c r→∀ (G:Gh) (E:Env) (a:Act) (w:World) (Q:Exit→Act→World→Prop),SimM G pn E S w→TR G E S.t a→QOK G K Q→(Code.loop c).wpIn (rd r) 0 C.P Q a w
def DrawOK (C:Ctx):Prop:=∀ pl id ops S K,acode C pl (.region id ops true) S K→∀ (r:Option Nat) (G:Gh) (E:Env) (a:Act) (w:World) (Q:Exit→Act→World→Prop),SimM G pn E S w→TR G E S.t a→QOK G K Q→(Code.region id ops true).wpIn (rd r) 0 C.P Q a w
theorem boolOf_elim {G:Gh} {E:Env} {S:St} {w:World} {a:Act} {c:Operand} {k:Bool→St→Prop} (hM:SimM G pn E S w) (ht:TR G E S.t a) (h:boolOf c S k):∃ b S1,k b S1∧a.eval c=.bool b∧SimM G pn E S1 w∧TR G E S1.t a:=by
  unfold boolOf at h
  split at h
  · rename_i d
    obtain ⟨b,S1,h1,h2,h3,h4⟩:=boolAt_elim hM ht h
    refine ⟨b,S1,h1,?_,h3,h4⟩
    show a.tmps.getD d undef=_
    rw [Array.getD_eq_getD_getElem?,h2]
    rfl
  · rename_i b
    rcases Fork_elim h with ⟨hb,h2⟩ | ⟨hb,h2⟩
    · subst hb; exact ⟨true,S,h2,rfl,hM,ht⟩
    · subst hb; exact ⟨false,S,h2,rfl,hM,ht⟩
  · exact False.elim h
theorem size_loop {h:Array Obj} {b:Nat} {r:Loop} (e:h[b]?=some (.loop r)):sizeH h b=0:=by
  unfold sizeH
  rw [e]
theorem sizeH_put {w:World} {l:Nat} {r r':Loop} (h:w.heap[l]?=some (.loop r)):sizeH (w.putObj l (.loop r')).heap l=sizeH w.heap l:=by
  have hl:=(Array.getElem?_eq_some_iff.1 h).1
  rw [size_loop h,size_loop (World.putObj_heap_same hl)]
theorem san_VR {E:Env} {a:AV} {u:Value} (h:VR E a u):VR E.ob (san a) u:=by
  unfold san
  split
  · rename_i h1
    exact noL_ob 4 h1 h
  · exact .bad _ _
theorem range_sound {C:Ctx} (hC:CallOK C) {pl:Pol} {g:Operand} {ps:Array Tmp} {asg body:Code} {S:St} {K:Ex→St→Prop} {G:Gh} {E:Env} {a:Act} {w:World} {Q:Exit→Act→World→Prop} (hM:SimM G pn E S w) (ht:TR G E S.t a) (h:rangeK C pl g ps asg body S K) (hQ:QOK G K Q):(Code.rangeFunc g ps asg body).wpIn (rd none) 0 C.P Q a w:=by
  unfold rangeK at h
  split at h
  · exact False.elim h
  · obtain ⟨gv,h,hgv⟩:=getK_elim h ht
    split at h
    · rename_i fid first cap
      obtain ⟨hc,h⟩:=Chk_elim h
      simp only [Bool.and_eq_true] at hc
      obtain ⟨⟨hra,hrb⟩,hnl⟩:=hc
      rw [forceAL_iff] at h
      have hSC:=hC.scall _ _ _ _ h
      obtain ⟨us,ws,hfv,h1,h2⟩:∃ us ws,a.eval g=.func (.func fid) us ws∧VRs E first us.toList∧VRs E cap ws.toList:=by
        generalize a.eval g=u at hgv
        cases hgv with
        | fn us ws h1 h2 h3 h4=>exact ⟨us,ws,rfl,⟨by simpa using h1,fun m c u hc hu=>h2 m c u hc (by simpa using hu)⟩,⟨by simpa using h3,fun m c u hc hu=>h4 m c u hc (by simpa using hu)⟩⟩
      refine wpIn_rangeFunc (F:=rd none) (fun fn _=>?_)
      obtain ⟨hleB,hMB⟩:=hM.below (w':=w.alloc (.deferred (some []))) (F':=fun b=>E.F b∨b=w.heap.size) ⟨rfl,rfl,rfl,by show _≤(w.heap.push _).size; rw [Array.size_push]; omega,fun b hb=>by
        show (w.heap.push _)[b]?=_
        rw [Array.getElem?_push,if_neg (by omega)]⟩ (fun _ h=>.inl h) (fun b hb=>by
        show b<(w.heap.push _).size
        rw [Array.size_push]
        rcases hb with hb | rfl
        · have:=hM.Flt b hb; omega
        · omega) (fun b hb hlt=>hb.elim id (fun e=>by omega))
      have hBh:(w.alloc (.deferred (some []))).heap[w.heap.size]?=some (.deferred (some [])):=World.alloc_heap_new w _
      have htB:TR G ⟨fun b=>E.F b∨b=w.heap.size,E.mu,(w.alloc (.deferred (some []))).heap⟩ S.t a:=ht.mono hleB
      let r0:Loop:={ state:=.ready,pending:=none,fn,tmps:=a.tmps,params:=ps,assign:=asg,body,defers:=w.heap.size }
      obtain ⟨hleL,hML⟩:=hMB.newkey (ob:=.loop r0) (key:=.O S.o.length) (sz:=0) (n:=0) (fun _ h=>by cases h) (newid hMB)
        (M':={ t:=S.t,l:=S.l,o:=S.o++[.lp pl ps.toList (S.t.map san) asg body 0],b:=S.b }) (fun _ _=>rfl)
        (fun id he=>by
          show (S.o++[_])[id]?=_
          rcases Nat.lt_trichotomy id S.o.length with h1 | h1 | h1
          · rw [List.getElem?_append_left h1]
          · exact absurd (by rw [h1]) he
          · rw [List.getElem?_eq_none (by simp; omega),List.getElem?_eq_none (by omega)]) rfl (by have:=hM.bl; simp; omega) (fun id he=>by cases he; exact hM.bl)
        (fun d he=>by cases he)
        (fun id he hle=>by
          cases he
          show ObR _ (S.o++[_])[S.o.length]? _
          rw [List.getElem?_append_right (Nat.le_refl _),Nat.sub_self]
          refine ⟨r0,push_get (w.alloc (.deferred (some []))) _,rfl,rfl,rfl,⟨by rw [List.length_map]; exact htB.len,fun m c u hc hu=>?_⟩,rfl,rfl⟩
          rw [List.getElem?_map,Option.map_eq_some_iff] at hc
          obtain ⟨c',h8,rfl⟩:=hc
          exact (san_VR (htB.val m c' u h8 hu)).mono hle.ob) (hMB.ow_push rfl rfl)
      have hl0:(w.alloc (.deferred (some []))).heap.size=w.heap.size + 1:=by show (w.heap.push _).size=_; rw [Array.size_push]
      refine ⟨w.heap.size + 1,[markD w.heap.size],(w.alloc (.deferred (some []))).alloc (.loop r0),{ target:=.fn (.func fid) ws,args:=us++#[.func (.yield (w.heap.size + 1)) #[] #[]] },(w.alloc (.deferred (some []))).alloc (.loop r0),fid,us++#[.func (.yield (w.heap.size + 1)) #[] #[]]++ws,(w.alloc (.deferred (some []))).alloc (.loop r0),run_enterLoop_outer fn a.tmps ps asg body,?_,fun _ _=>trivial,?_,(fun h=>by cases h),?_⟩
      · simp [resolve,hfv,Deferred.ofValue]
        rfl
      · obtain ⟨f1,c1,hb1,hb2,hb3⟩:=hSC.1
        exact run_numGo hb1 hb2 hb3 _ _
      · have hN:addMu E.mu (.O S.o.length) (.blk (w.alloc (.deferred (some []))).heap.size 0 0 0) (.O S.o.length)=some (.blk (w.alloc (.deferred (some []))).heap.size 0 0 0):=by
          unfold addMu
          rw [if_pos rfl]
        have htL:=htB.mono hleL
        have hle:LE E ⟨fun b=>E.F b∨b=w.heap.size,addMu E.mu (.O S.o.length) (.blk (w.alloc (.deferred (some []))).heap.size 0 0 0),(w.alloc (.deferred (some []))).heap.push (.loop r0)⟩:=hleB.trans hleL
        have hy:VRs ⟨fun b=>E.F b∨b=w.heap.size,addMu E.mu (.O S.o.length) (.blk (w.alloc (.deferred (some []))).heap.size 0 0 0),(w.alloc (.deferred (some []))).heap.push (.loop r0)⟩ [AV.yld S.o.length] [Value.func (.yield (w.heap.size + 1)) #[] #[]]:=by
          refine .cons ?_ (.nil _)
          rw [← hl0]
          exact .yld hN
        have hall:=(h1.mono hle).append (hy.append (h2.mono hle))
        refine rd_calls.2 ((hSC.2 _ _ _ hML.sub htL.gt ⟨?_,fun m c u hc hu=>?_⟩).mono ?_)
        · have:=hall.1
          simpa using this
        · exact noL_ob 4 (List.all_eq_true.1 hnl c (List.mem_of_getElem? hc)) (hall.2 m c u hc (by simpa using hu))
        rintro e w3 ⟨v,rr,o',E',hK,rfl,hM',hv⟩
        rw [killTL_iff] at hK
        have htm:TR G ⟨fun b=>E.F b∨b=w.heap.size,addMu E.mu (.O S.o.length) (.blk (w.alloc (.deferred (some []))).heap.size 0 0 0),(w.alloc (.deferred (some []))).heap.push (.loop r0)⟩ S.t { tmps:=a.tmps,defers:=[markD w.heap.size]++a.defers }:=by
          refine ⟨htL.len,htL.val,?_,htL.gt⟩
          obtain ⟨Bs,d1,d2,d3⟩:=ht.df
          refine ⟨w.heap.size::Bs,by rw [d1]; rfl,List.nodup_cons.2 ⟨fun hb=>Nat.lt_irrefl _ (hM.Flt _ (d3 _ hb).2.1),d2⟩,fun B hB=>?_⟩
          rcases List.mem_cons.1 hB with rfl | hB
          · refine ⟨hM.size,.inr rfl,?_⟩
            exact (hleL.hF _ (.inr rfl)).trans hBh
          · obtain ⟨d4,d5,d6⟩:=d3 B hB
            exact ⟨d4,.inl d5,(hle.hF B d5).trans d6⟩
        obtain ⟨hS3,ht3,_⟩:=hML.back htm hM'
        split at hK
        · rename_i pl' ps' t' asg' body' st ho'
          rw [killIds_one] at hK
          have hNl:E'.mu (.O S.o.length)=some (.blk (w.alloc (.deferred (some []))).heap.size 0 0 0):=by
            rcases hM'.old S.o.length (by show S.o.length<(S.o++[_]).length; simp) with h9 | h9
            · have h10:o'[S.o.length]?=some .dead:=h9
              rw [ho'] at h10
              cases h10
            · exact h9.trans hN
          have hob:=hM'.obj S.o.length
          rw [show (stO o' _).o[S.o.length]?=some (.lp pl' ps' t' asg' body' st) from ho',hNl] at hob
          obtain ⟨r3,hr3,_,_,_,_,hst⟩:=hob
          have hr3':w3.heap[w.heap.size + 1]?=some (.loop r3):=by rw [← hM'.hp,← hl0]; exact hr3
          have hbusy:r3.state≠.busy:=by
            match st,hst with
            | 0,hst=>rw [hst.1]; exact fun h=>by cases h
            | 1,hst=>rw [hst.1]; exact fun h=>by cases h
            | n + 2,hst=>rw [hst.1]; exact fun h=>by cases h
          refine ⟨_,_,run_endLoop hr3' hbusy,?_⟩
          obtain ⟨hS4,ht4⟩:=gone_sound' hS3 ht3 S.o.length
          obtain ⟨o1,o2,o3⟩:=hS3.own (.O S.o.length) _ _ _ _ hNl
          obtain ⟨hle5,hS5⟩:=hS4.freestep (w':=w3.putObj (w.heap.size + 1) (.loop { r3 with state:=.exhausted })) (b:=w.heap.size + 1) rfl rfl rfl (by rw [World.putObj_size]; exact Nat.le_refl _) (fun b' _ e=>World.putObj_heap_other e) (fun _=>sizeH_put hr3') ⟨by rw [← hl0]; exact o1,fun k o'' s n hk=>by
            obtain ⟨q1,q2⟩:=remMu_some hk
            rw [← hl0] at q2
            exact q1 (hS3.inj _ _ _ _ _ _ _ _ _ q2 hNl),by rw [← hl0]; exact o3⟩
          have ht5:=ht4.mono hle5
          generalize hj:r3.pending=jump
          rw [hj] at hst
          have hS6:=hS5
          simp only [hj] at hS6 ht5
          match st,hst,hK with
          | 0,hst,hK=>rw [hst.2] at hS6 ht5 ⊢; exact hQ .nrm _ _ _ _ hK hS6 ht5
          | 1,hst,hK=>rw [hst.2] at hS6 ht5 ⊢; exact wpIn_ret (hQ .ret _ _ _ _ hK hS6 ht5)
          | n + 2,hst,hK=>rw [hst.2] at hS6 ht5 ⊢; exact wpIn_exit (hQ (.ex n) _ _ _ _ hK hS6 ht5)
        · exact False.elim hK
    · exact False.elim h
theorem acode_sound {C:Ctx} (hC:CallOK C) (hL:LoopOK C) (hD:DrawOK C) {pl:Pol}:∀ (c:Code) {S:St} {K:Ex→St→Prop},acode C pl c S K→∀ (r:Option Nat),RF C c r→∀ (G:Gh) (E:Env) (a:Act) (w:World) (Q:Exit→Act→World→Prop),SimM G pn E S w→TR G E S.t a→QOK G K Q→c.wpIn (rd r) 0 C.P Q a w:=by
  intro c
  induction c with
  | skip=>exact fun h r _ G E a w Q hM ht hQ=>wpIn_skip (hQ .nrm _ E _ _ h hM ht)
  | region id ops draw =>
    intro S K h r hr G E a w Q hM ht hQ
    cases draw with
    | true=>exact hD pl id ops S K h r G E a w Q hM ht hQ
    | false=>exact wpIn_region_list (aops_sound hC hM ht h (fun S' E' a' w' hk hS htr=>by
      obtain ⟨S2,E2,h2,hS2,ht2⟩:=postR_sound hS htr hk
      exact hQ .nrm _ _ _ _ h2 hS2 ht2))
  | seq x y ihx ihy =>
    intro S K h r hr G E a w Q hM ht hQ
    refine wpIn_seq (ihx h r (fun h=>(hr h).imp (fun h=>(Bool.and_eq_true_iff.1 h).1) id) G E a w _ hM ht (fun e S' E' a' w' hk hS htr=>?_))
    cases e with
    | nrm=>exact ihy hk r (fun h=>(hr h).imp (fun h=>(Bool.and_eq_true_iff.1 h).2) id) G E' a' w' Q hS htr hQ
    | ex i=>exact hQ (.ex i) _ _ _ _ hk hS htr
    | ret=>exact hQ .ret _ _ _ _ hk hS htr
  | cond c x y ihx ihy =>
    intro S K h r hr G E a w Q hM ht hQ
    obtain ⟨b,S1,h1,h2,h3,h4⟩:=boolOf_elim hM ht h
    cases b with
    | true=>exact wpIn_cond_true h2 (ihx h1 r (fun h=>(hr h).imp (fun h=>(Bool.and_eq_true_iff.1 h).1) id) G E a w Q h3 h4 hQ)
    | false=>exact wpIn_cond_false h2 (ihy h1 r (fun h=>(hr h).imp (fun h=>(Bool.and_eq_true_iff.1 h).2) id) G E a w Q h3 h4 hQ)
  | block id c ih =>
    intro S K h r hr G E a w Q hM ht hQ
    refine wpIn_block (ih h r hr G E a w _ hM ht (fun e S' E' a' w' hk hS htr=>?_))
    cases e with
    | nrm=>exact hQ .nrm _ _ _ _ hk hS htr
    | ret=>exact hQ .ret _ _ _ _ hk hS htr
    | ex i =>
      show Exit.inBlock id Q (.exit i) a' w'
      unfold Exit.inBlock
      dsimp only at hk
      split at hk
      · rename_i hb
        have:=Nat.eq_of_beq_eq_true hb
        subst this
        simp only [if_pos]
        exact hQ .nrm _ _ _ _ hk hS htr
      · rename_i hb
        have hne:¬ i=id:=fun e=>by subst e; simp at hb
        simp only [if_neg hne]
        exact hQ (.ex i) _ _ _ _ hk hS htr
  | loop c ih=>exact fun h r hr G E a w Q hM ht hQ=>hL pl c _ _ h r hr G E a w Q hM ht hQ
  | exit id=>exact fun h r _ G E a w Q hM ht hQ=>wpIn_exit (hQ (.ex id) _ E _ _ h hM ht)
  | ret=>exact fun h r _ G E a w Q hM ht hQ=>wpIn_ret (hQ .ret _ E _ _ h hM ht)
  | rangeFunc g ps asg body =>
    intro S K h r hr G E a w Q hM ht hQ
    have h:rangeK C pl g ps asg body S K:=h
    have hrn:r=none:=by
      cases hrf:C.rf with
      | true=>exact (hr hrf).resolve_left (fun h=>by cases h)
      | false =>
        unfold rangeK at h
        rw [hrf] at h
        exact False.elim h
    subst hrn
    exact range_sound hC hM ht h hQ
  | _=>exact fun h=>False.elim h
theorem run_mapM {P:Program} {α β:Type} {f:α→Sem β}:∀ (xs:List α) (w:World) (ys:List β),xs.length=ys.length→(∀ (i:Nat) (x:α) (y:β),xs[i]?=some x→ys[i]?=some y→(f x).run P w=.ok y w)→(xs.mapM f).run P w=.ok ys w
  | [],w,ys,hl,_=>by
    have:ys=[]:=List.eq_nil_of_length_eq_zero (by simpa using hl.symm)
    subst this
    rfl
  | x::xs,w,[],hl,_=>by simp at hl
  | x::xs,w,y::ys,hl,h=>by
    have h0:=h 0 x y rfl rfl
    have ih:=run_mapM xs w ys (by simpa using hl) (fun i a b h1 h2=>h (i + 1) a b (by simpa using h1) (by simpa using h2))
    simp only [List.mapM_cons,Sem.run_bind,h0,Result.andThen_ok,ih,Sem.run_pure]
section
variable {G:Gh} {E:Env} {S:St} {w:World} {P:Program} {a:Act}
theorem resK_sound (hM:SimM G pn E S w) (ht:TR G E S.t a):∀ {rs:List ResultVar} {k:List AV→Prop},resK P S rs k→∃ as us,k as∧VRs E as us∧rs.length=us.length ∧
    ∀ (i:Nat) (r:ResultVar) (u:Value),rs[i]?=some r→us[i]?=some u→(match r with | .tmp t=>(pure (a.tmps.getD t undef):Sem Value) | .cell c t=>(do loadVar t (← asAddr (a.tmps.getD c undef)):Sem Value)).run P w=.ok u w
  | [],k,h=>⟨[],[],h,.nil _,rfl,fun i r u h1=>by simp at h1⟩
  | .tmp t::rs,k,h=>by
    obtain ⟨c,hc,h⟩:=nthK_iff.1 h
    obtain ⟨as,us,hk,hv,hl,hr⟩:=resK_sound hM ht h
    have hlt:t<a.tmps.size:=by rw [← ht.len]; exact (List.getElem?_eq_some_iff.1 hc).1
    refine ⟨c::as,a.tmps.getD t undef::us,hk,.cons (ht.val t c _ hc ?_) hv,by simp [hl],fun i r u h1 h2=>?_⟩
    · rw [Array.getD_eq_getD_getElem?,Array.getElem?_eq_getElem hlt]; rfl
    · cases i with
      | zero =>
        simp only [List.getElem?_cons_zero,Option.some.injEq] at h1 h2
        subst h1 h2
        rfl
      | succ i=>exact hr i r u (by simpa using h1) (by simpa using h2)
  | .cell c t::rs,k,h=>by
    obtain ⟨pc,hpc,h⟩:=nthK_iff.1 h
    have hlt:c<a.tmps.size:=by rw [← ht.len]; exact (List.getElem?_eq_some_iff.1 hpc).1
    have e0:a.tmps.getD c undef=a.tmps[c]:=by rw [Array.getD_eq_getD_getElem?,Array.getElem?_eq_getElem hlt]; rfl
    have hv0:=ht.val c pc _ hpc (Array.getElem?_eq_getElem hlt)
    obtain ⟨row,j,us',b,off,hk,hu0,hu,hcell⟩:=atK_sound hM hv0 h
    obtain ⟨r0,z,hk',hr0,hrun⟩:=load_sound (P:=P) hk hu w hcell
    obtain ⟨as,us,hk,hv,hl,hr⟩:=resK_sound hM ht hk'
    refine ⟨r0::as,z::us,hk,.cons hr0 hv,by simp [hl],fun i r u h1 h2=>?_⟩
    cases i with
    | zero =>
      simp at h1 h2
      subst h1 h2
      simp only [Sem.run_bind]
      rw [e0,hu0]
      show (loadVar t ⟨b,off + j,none⟩).run P w=_
      exact hrun
    | succ i=>exact hr i r u (by simpa using h1) (by simpa using h2)
theorem tupK_sound {as:List AV} {us:List Value} {k:AV→Prop} (h:tupK as k) (hv:VRs E as us):∃ r,k r∧VR E r (if h:us.toArray.size=1 then us.toArray[0] else .tuple us.toArray):=by
  unfold tupK at h
  split at h
  · rename_i c
    obtain ⟨u,us',rfl,hc,hn⟩:=hv.uncons
    have:=hn.unnil
    subst this
    exact ⟨c,h,by simpa using hc⟩
  · rename_i hne
    refine ⟨_,h,?_⟩
    have hl:=hv.1
    rw [dif_neg (by
      intro h1
      simp at h1
      cases as with
      | nil=>simp at hl; omega
      | cons c cs =>
        cases cs with
        | nil=>exact hne c rfl
        | cons _ _=>simp at hl; omega)]
    exact .tup _ (by simpa using hl) (fun m c u h1 h2=>hv.2 m c u h1 (by simpa using h2))
theorem results_sound {fn:Func} (hM:SimM G pn E S w) (ht:TR G E S.t a) {k:AV→Prop} (h:resK P S fn.results.toList fun rs=>tupK rs k):∃ r u,k r∧VR E r u∧(results fn a.tmps).run P w=.ok u w:=by
  obtain ⟨as,us,h,hv,hl,hr⟩:=resK_sound hM ht h
  obtain ⟨r,hk,hvr⟩:=tupK_sound h hv
  refine ⟨r,_,hk,hvr,?_⟩
  unfold results
  have hm:=run_mapM fn.results.toList w us hl hr
  rw [Sem.run_bind,Array.mapM_eq_mapM_toList]
  simp only [map_eq_pure_bind,Sem.run_bind]
  erw [hm]
  rfl
end
structure LC (E E':Env):Prop where
  F:∀ b,E.F b→E'.F b
  mu:∀ k x,k.isS=false→E.mu k=some x→E'.mu k=some x
  hc:∀ b,E.F b→∀ i,cellH E'.h b i=cellH E.h b i
  sz:∀ k b o s n,k.isS=false→E.mu k=some (.blk b o s n)→sizeH E'.h b=sizeH E.h b
theorem LC.fz {E E':Env} (h:LC E E'):LC E.fz E'.fz:=⟨h.F,fun _ _ _ hx=>(by cases hx),h.hc,fun _ _ _ _ _ _ hx=>(by cases hx)⟩
theorem LC.ob {E E':Env} (h:LC E E'):LC E.ob E'.ob :=
  ⟨h.F,fun k x hs hx=>(by
    cases k with
    | L d=>cases hx
    | O i=>exact h.mu _ _ hs hx
    | S id i=>cases hs),h.hc,fun k b o s n hs hx=>h.sz k b o s n hs (onlyO_some hx)⟩
theorem VR.monoC {E:Env} {a:AV} {u:Value} (hv:VR E a u):∀ {E':Env},LC E E'→VR E' a u:=by
  induction hv with
  | bad E u=>intro E' _; exact .bad _ _
  | v E x hx=>intro E' _; exact .v _ _ hx
  | nilp E=>intro E' _; exact .nilp _
  | ptr i j hs hm=>intro E' h; exact .ptr i j hs (h.mu _ _ hs hm)
  | fptr j us hl hc hF hcell ih=>intro E' h; exact .fptr j us hl (fun m c u h1 h2=>ih m c u h1 h2 h.fz) (h.F _ hF) (fun m u hu=>(h.hc _ hF _).trans (hcell m u hu))
  | nilsl E=>intro E' _; exact .nilsl _
  | esln E=>intro E' _; exact .esln _
  | esl E a=>intro E' _; exact .esl _ a
  | ene E a=>intro E' _; exact .ene _ a
  | sln E=>intro E' _; exact .sln _
  | sle E a cap=>intro E' _; exact .sle _ a cap
  | sl us hsz hr hl hc hF hcell hcap ih=>intro E' h; exact .sl us hsz hr hl (fun m c u h1 h2=>ih m c u h1 h2 h.fz) (h.F _ hF) (fun m u hu=>(h.hc _ hF _).trans (hcell m u hu)) hcap
  | mfn hm=>intro E' h; exact .mfn (h.mu _ _ rfl hm)
  | mfe a hm=>intro E' h; exact .mfe a (h.mu _ _ rfl hm)
  | mf cap hm hn hc=>intro E' h; exact .mf cap (h.mu _ _ rfl hm) hn (by rw [h.sz _ _ _ _ _ rfl hm]; exact hc)
  | mfxe a hm=>intro E' h; exact .mfxe a (h.mu _ _ rfl hm)
  | mfx cap hm hn hc=>intro E' h; exact .mfx cap (h.mu _ _ rfl hm) hn (by rw [h.sz _ _ _ _ _ rfl hm]; exact hc)
  | nn E a n cap=>intro E' _; exact .nn _ a n cap
  | msle off a hm=>intro E' h; exact .msle off a (h.mu _ _ rfl hm)
  | msl off len ext cap hm h1 h2 h3=>intro E' h; exact .msl off len ext cap (h.mu _ _ rfl hm) h1 h2 (by rw [h.sz _ _ _ _ _ rfl hm]; exact h3)
  | bsl off len cap hs hm h1=>intro E' h; exact .bsl off len cap hs (h.mu _ _ hs hm) h1
  | nilmap E=>intro E' _; exact .nilmap _
  | mp hm=>intro E' h; exact .mp (h.mu _ _ rfl hm)
  | yld hm=>intro E' h; exact .yld (h.mu _ _ rfl hm)
  | nilfn E=>intro E' _; exact .nilfn _
  | fn us ws h1 h2 h3 h4 ih1 ih2=>intro E' h; exact .fn us ws h1 (fun m c u hc hu=>ih1 m c u hc hu h) h3 (fun m c u hc hu=>ih2 m c u hc hu h)
  | agg us h1 h2 ih=>intro E' h; exact .agg us h1 (fun m c u hc hu=>ih m c u hc hu h)
  | tup us h1 h2 ih=>intro E' h; exact .tup us h1 (fun m c u hc hu=>ih m c u hc hu h)
theorem GTE.monoC {E E':Env} (h:GTE E) (hl:LC E E'):GTE E':=fun g row e=>by
  obtain ⟨h1,h2⟩:=h g row e
  refine ⟨h1.monoC hl.fz,?_⟩
  cases h1 with
  | fptr j us _ _ hF _=>exact (hl.hc _ hF _).trans h2
def shutH (h:Array Obj) (B:Nat):Array Obj:=h.setIfInBounds B (.deferred none)
theorem shutH_ne {h:Array Obj} {B b:Nat} (e:b≠B):(shutH h B)[b]?=h[b]?:=by
  unfold shutH
  rw [Array.getElem?_setIfInBounds_ne (Ne.symm e)]
theorem shutH_size {h:Array Obj} {B:Nat}:(shutH h B).size=h.size:=by simp [shutH]
section
variable {h:Array Obj} {B:Nat} {ds:Option (List Deferred)}
theorem shutH_eq (hB:h[B]?=some (.deferred ds)):(shutH h B)[B]?=some (.deferred none):=by
  have:=(Array.getElem?_eq_some_iff.1 hB).1
  simp [shutH,this]
theorem shut_cell (hB:h[B]?=some (.deferred ds)) (b i:Nat):cellH (shutH h B) b i=cellH h b i:=by
  by_cases e:b=B
  · subst e
    unfold cellH
    rw [shutH_eq hB,hB]
  · exact cellH_of (shutH_ne e) i
theorem shut_size (hB:h[B]?=some (.deferred ds)) (b:Nat):sizeH (shutH h B) b=sizeH h b:=by
  by_cases e:b=B
  · subst e
    unfold sizeH
    rw [shutH_eq hB,hB]
  · unfold sizeH
    rw [shutH_ne e]
theorem shut_cells (hB:h[B]?=some (.deferred ds)) {b:Nat} {us:Array Value} {ty:TypeId} {x:Nat×Nat} (hb:h[b]?=some (.cells us ty x)):(shutH h B)[b]?=some (.cells us ty x):=by
  rw [shutH_ne (fun e=>by subst e; rw [hb] at hB; cases hB)]
  exact hb
theorem shut_map (hB:h[B]?=some (.deferred ds)) {b:Nat} {ms:Array MapEntry} {clock:Nat} (hb:h[b]?=some (.map ms clock)):(shutH h B)[b]?=some (.map ms clock):=by
  rw [shutH_ne (fun e=>by subst e; rw [hb] at hB; cases hB)]
  exact hb
end
section
variable {E:Env} {B:Nat} {ds:Option (List Deferred)}
abbrev shutE (E:Env) (B:Nat):Env:=⟨E.F,E.mu,shutH E.h B⟩
theorem shut_LC (hB:E.h[B]?=some (.deferred ds)):LC E (shutE E B):=⟨fun _ h=>h,fun _ _ _ h=>h,fun _ _ i=>shut_cell hB _ i,fun _ _ _ _ _ _ _=>shut_size hB _⟩
theorem ArrR.shut {X X':Env} {h:Array Obj} {rows:List (List AV)} {b o sz:Nat} (hB:h[B]?=some (.deferred ds)) (ha:ArrR X h rows b o sz) (hX:LC X X'):ArrR X' (shutH h B) rows b o sz:=by
  obtain ⟨h1,h2,us,ty,h3,h4,h5⟩:=ha
  refine ⟨h1,h2,us,ty,shut_cells hB h3,h4,fun m c hc=>?_⟩
  obtain ⟨u,hu,hv⟩:=h5 m c hc
  exact ⟨u,hu,hv.monoC hX⟩
theorem env_shut (hB:E.h[B]?=some (.deferred ds)) (fl:Bool):LC (envOf E fl) (envOf (shutE E B) fl):=by
  cases fl with
  | true=>exact (shut_LC hB).fz
  | false=>exact (shut_LC hB).ob
theorem LpR.monoC {E E':Env} {ps:List Nat} {t:List AV} {asg body:Code} {st:Nat} {r:Loop} (h:LpR E ps t asg body st r) (hl:LC E E'):LpR E' ps t asg body st r :=
  ⟨h.1,h.2.1,h.2.2.1,⟨h.2.2.2.1.1,fun m c u h1 h2=>(h.2.2.2.1.2 m c u h1 h2).monoC hl⟩,h.2.2.2.2⟩
theorem ObR.shut {x:Option Ob} {mv:Option MV} (hB:E.h[B]?=some (.deferred ds)) (h:ObR E x mv):ObR (shutE E B) x mv:=by
  revert h
  cases x with
  | none=>cases mv <;> exact fun h=>h
  | some ob =>
    cases ob with
    | dead=>cases mv <;> exact fun h=>h
    | arr fl sz' rows =>
      cases mv with
      | none=>exact fun h=>h
      | some mv =>
        cases mv with
        | virt=>exact fun h=>h
        | blk b o s n=>exact fun ⟨h1,h2⟩=>⟨h1,h2.shut hB (env_shut hB fl)⟩
    | lp pl ps t asg body st =>
      cases mv with
      | none=>exact fun h=>h
      | some mv =>
        cases mv with
        | virt=>exact fun h=>h
        | blk b o s n =>
          rintro ⟨r,h1,h2⟩
          exact ⟨r,(shutH_ne (fun e=>by subst e; rw [h1] at hB; cases hB)).trans h1,h2.monoC (shut_LC hB).ob⟩
    | own _ _ _ _ =>
      cases mv with
      | none=>exact fun h=>h.elim
      | some mv=>cases mv <;> exact fun h=>h
    | mapo fl es =>
      cases mv with
      | none=>exact fun h=>h
      | some mv =>
        cases mv with
        | virt=>exact fun h=>h
        | blk b o s n =>
          rintro ⟨ms,clock,h1,h2,h3⟩
          refine ⟨ms,clock,shut_map hB h1,h2,fun i e m h4 h5=>?_⟩
          obtain ⟨h6,h7⟩:=h3 i e m h4 h5
          exact ⟨h6,h7.monoC (env_shut hB fl)⟩
theorem CellR.shut {sz:Nat} {c:Option (List (List AV))} {mv:Option MV} {u:Value} (hB:E.h[B]?=some (.deferred ds)) (h:CellR E sz c mv u):CellR (shutE E B) sz c mv u:=by
  revert h
  cases c with
  | none =>
    cases mv with
    | none=>exact fun h=>h
    | some mv=>cases mv <;> exact fun h=>h.elim
  | some rows =>
    cases mv with
    | none=>exact fun h=>h.elim
    | some mv =>
      cases mv with
      | virt=>exact fun h=>h
      | blk b o s n =>
        rintro ⟨h0,ha,cap,h6,h7,h8⟩
        exact ⟨h0,ha.shut hB (shut_LC hB).fz,cap,h6,by rw [show sizeH (shutE E B).h b=sizeH E.h b from shut_size hB b]; exact h7,h8⟩
theorem valAt_shut (hB:E.h[B]?=some (.deferred ds)) (b o i:Nat):valAt (shutH E.h B) b o i=valAt E.h b o i:=by
  by_cases e:b=B
  · subst e
    unfold valAt
    rw [shutH_eq hB,hB]
  · exact valAt_congr (shutH_ne e) o i
theorem OwnR.shut {id:Nat} {x:Option Ob} (hB:E.h[B]?=some (.deferred ds)) (h:OwnR E id x):OwnR (shutE E B) id x:=by
  revert h
  unfold OwnR
  split
  · rename_i ks sz cells hole
    rintro ⟨h1,h2,h3⟩
    refine ⟨h1,h2,fun b o s n hm=>?_⟩
    obtain ⟨h4,h6⟩:=h3 b o s n hm
    refine ⟨?_,fun i c hc=>?_⟩
    · cases ks with
      | none =>
        obtain ⟨us,ty,h7,h8⟩:=h4
        exact ⟨us,ty,shut_cells hB h7,h8⟩
      | some ks =>
        obtain ⟨ms,clock,h7,h8⟩:=h4
        exact ⟨ms,clock,shut_map hB h7,h8⟩
    · obtain ⟨u,hu,h7⟩:=h6 i c hc
      refine ⟨u,(valAt_shut hB _ _ _).trans hu,?_⟩
      unfold HoleR at h7 ⊢
      split at h7
      · rename_i j a
        by_cases hj:j=i
        · rw [if_pos hj] at h7 ⊢
          exact ⟨h7.1,h7.2.monoC (shut_LC hB).ob⟩
        · rw [if_neg hj] at h7 ⊢
          exact h7.shut hB
      · exact h7.shut hB
  · exact fun h=>h
end
section
variable {G:Gh} {E:Env} {S:St} {w:World} {B:Nat}
theorem SimM.shut (hM:SimM G pn E S w) (hB0:G.w0.heap.size≤B) (hB:E.h[B]?=some (.deferred (some []))):SimM G pn (shutE E B) S (w.putObj B (.deferred none)):=by
  have hh:shutH E.h B=(w.putObj B (.deferred none)).heap:=by rw [hM.hp]; rfl
  have hs:(w.putObj B (.deferred none)).heap.size=w.heap.size:=World.putObj_size
  refine ⟨hh,hM.os,hM.tape,hM.output,by rw [hs]; exact hM.size,fun b hb hm=>?_,hM.F0,fun b hb=>by rw [hs]; exact hM.Flt b hb,hM.Fnew,fun k b o s n hk=>by rw [hs]; exact hM.own k b o s n hk,hM.inj,fun d=>?_,fun id=>(hM.obj id).shut hB,hM.old,hM.bl,fun b hb=>?_,hM.pk,fun id=>(hM.ow id).shut hB⟩
  · rw [World.putObj_heap_other (by omega)]
    exact hM.keep b hb hm
  · have h:=hM.loc d
    unfold LocR at h ⊢
    split at h
    · exact h
    · rcases h with ⟨b,h1,h2⟩ | h
      · exact .inl ⟨b,h1,h2.shut hB (shut_LC hB)⟩
      · exact .inr h
  · rw [← hh,shut_size hB,hM.hp]
    exact hM.szs b hb
end
section
variable {G:Gh} {S:St} {P:Program} {fn:Func} {tmps:Array Value} {R:Ending→World→Prop}
theorem leave_marks {F:Fence} {n:Nat}:∀ (Bs:List Nat) {E:Env} {w:World},SimM G pn E S w→Bs.Nodup→(∀ B∈Bs,G.w0.heap.size≤B∧E.h[B]?=some (.deferred (some []))) →
    (∀ E' w',SimM G pn E' S w'→LC E E'→∃ v,(results fn tmps).run P w'=.ok v w'∧R (.returned v) w')→LeavesInM F n P fn tmps R (Bs.map markD) .returning w
  | [],E,w,hM,_,_,hR=>hR E w hM ⟨fun _ h=>h,fun _ _ _ h=>h,fun _ _ _=>rfl,fun _ _ _ _ _ _ _=>rfl⟩
  | B::Bs,E,w,hM,hn,hB,hR=>by
    obtain ⟨hb0,hb⟩:=hB B (List.mem_cons_self ..)
    obtain ⟨hn1,hn2⟩:=List.nodup_cons.1 hn
    refine ⟨(fun h=>by cases h),.inl ⟨B,w.putObj B (.deferred none),rfl,run_takeDeferred (by rw [← hM.hp]; exact hb),leave_marks Bs (hM.shut hb0 hb) hn2 (fun B' hB'=>?_) (fun E' w' h1 h2=>hR E' w' h1 ?_)⟩⟩
    · obtain ⟨h1,h2⟩:=hB B' (List.mem_cons_of_mem _ hB')
      exact ⟨h1,by rw [show (shutE E B).h=shutH E.h B from rfl,shutH_ne (fun e=>hn1 (by rw [← e]; exact hB'))]; exact h2⟩
    · exact ⟨fun b h=>h2.F b h,fun k x hs h=>h2.mu k x hs h,fun b h i=>(h2.hc b h i).trans (shut_cell hb b i),fun k b o s m hs h=>(h2.sz k b o s m hs h).trans (shut_size hb b)⟩
end
theorem bads_get:∀ {n i:Nat} {c:AV},(bads n)[i]?=some c→c=.bad
  | 0,i,c,h=>by simp [bads] at h
  | n + 1,0,c,h=>by simp [bads] at h; exact h.symm
  | n + 1,i + 1,c,h=>bads_get (n:=n) (i:=i) (by simpa [bads] using h)
theorem bads_len:∀ {n:Nat},(bads n).length=n
  | 0=>rfl
  | n + 1=>by simp [bads,bads_len]
def NoNum (P : Program) : Prop := ∀ (f : Nat) (fn : Func), P.funcs[f]? = some fn → (fn.name == "runtime.NumGoroutine") = false
theorem forceC_iff {C:Ctx} {k:Ctx→Prop}:forceC C k↔k C:=by cases C; exact Iff.rfl
theorem forceP_iff {p:Pol} {k:Pol→Prop}:forceP p k↔k p:=by cases p; exact Iff.rfl
theorem abody_iff {C:Ctx} {f:Nat} {args:List AV} {o:List Ob} {K:AV→St→Prop}:abody C f args o K↔abody0 C f args o K:=forceC_iff
theorem abody_sound {C:Ctx} (hC:CallOK C) (hL:LoopOK C) (hD:DrawOK C) (hN:NoNum C.P) {f:Nat} {args:List AV} {o:List Ob} {K:AV→St→Prop} (h:abody C f args o K) :
    HasBody C.P f∧∀ (G:Gh) (E:Env) (w:World) (us:Array Value),SimM G pn E (stO o o.length) w→GTE E→VRs E args us.toList→Calls C.P f us w fun e w'=>∃ v r S' E',K r S'∧e=.returned v∧SimM G pn E' S' w'∧VR E' r v:=by
  rw [abody_iff] at h
  unfold abody0 at h
  split at h
  · rename_i fn hf
    split at h
    · rename_i c hb
      rw [forceP_iff] at h
      refine ⟨⟨fn,c,hf,hb,hN f fn hf⟩,fun G E w us hM hg hv=>?_⟩
      refine rd_calls.1 (callsIn_of_wp_marks (F:=rd none) (n:=0) hf hb trivial ?_)
      have hl:args.length=us.size:=by simpa using hv.1
      refine acode_sound hC hL hD c h none (fun _=>.inr rfl) G E _ w _ (hM.congr rfl rfl rfl) ⟨?_,fun n c' u h1 h2=>?_,⟨[],rfl,List.nodup_nil,fun B h=>by cases h⟩,hg⟩ (fun e S' E' a' w' hk hS htr=>?_)
      · simp [bads_len,hl]
      · dsimp only at h1 h2
        by_cases hn:n<args.length
        · rw [List.getElem?_append_left hn] at h1
          rw [Array.getElem?_append_left (by omega)] at h2
          exact hv.2 n c' u h1 (by simpa using h2)
        · rw [List.getElem?_append_right (by omega)] at h1
          rw [bads_get h1]
          exact .bad _ _
      · have fin:∀ {k:AV→Prop},(resK C.P S' fn.results.toList fun rs=>tupK rs fun r=>K r S')→LeavesInM (rd none) 0 C.P fn a'.tmps (fun e w'=>∃ v r S' E',K r S'∧e=.returned v∧SimM G pn E' S' w'∧VR E' r v) a'.defers .returning w':=fun {k} hk=>by
          obtain ⟨Bs,h1,h2,h3⟩:=htr.df
          rw [h1]
          refine leave_marks Bs hS h2 (fun B hB=>⟨(h3 B hB).1,(h3 B hB).2.2⟩) (fun E2 w2 hS2 hL=>?_)
          obtain ⟨r,u,hk',hr,hrun⟩:=results_sound (P:=C.P) (a:={ tmps:=a'.tmps,defers:=[] }) hS2 ⟨htr.len,fun n c u h1 h2=>(htr.val n c u h1 h2).monoC hL,⟨[],rfl,List.nodup_nil,fun B h=>by cases h⟩,htr.gt.monoC hL⟩ hk
          exact ⟨u,hrun,u,r,S',E2,hk',rfl,hS2,hr⟩
        cases e with
        | ex i=>exact False.elim hk
        | nrm=>exact fin (k:=fun _=>True) hk
        | ret=>exact fin (k:=fun _=>True) hk
    · exact False.elim h
  · exact False.elim h
section
variable {G:Gh} {E:Env} {S:St} {w:World}
theorem SimM.obj_only (hM:SimM G pn E S w):SimM G pn E.ob (stO S.o S.b) w :=
  ⟨hM.hp,hM.os,hM.tape,hM.output,hM.size,hM.keep,hM.F0,hM.Flt,hM.Fnew,fun k b o s n h=>hM.own k b o s n (ob_some h),fun k k' b o s n o' s' n' h h'=>hM.inj k k' b o s n o' s' n' (ob_some h) (ob_some h'),
    fun _=>rfl,fun id=>(hM.obj id).ob,hM.old,hM.bl,hM.szs,fun _ _ h=>(by cases h),fun id=>(hM.ow id).ob⟩
end
theorem astore_sound {C:Ctx} (hC:CallOK C) (hL:LoopOK C) (hD:DrawOK C) (hN:NoNum C.P) {f:Nat} {args:List AV} {o:List Ob} {K:AV→List Ob→Prop} (h:astore C f args o K):SCall C.P f args o K:=by
  obtain ⟨h1,h2⟩:=abody_sound hC hL hD hN h
  refine ⟨h1,fun E w us hM hg hv=>(h2 _ E w us hM hg hv).mono ?_⟩
  rintro e w' ⟨v,r,S',E',hk,rfl,hS,hr⟩
  replace hk:=Chk_elim hk
  obtain ⟨hb,hk⟩:=hk
  simp only [Bool.and_eq_true] at hb
  have:=hS.obj_only
  rw [Nat.eq_of_beq_eq_true hb.2] at this
  exact ⟨v,r,S'.o,E'.ob,hk,rfl,this,noL_ob 4 hb.1 hr⟩
def ApureDet (C:Ctx):Prop:=∀ f args K,apure C f args K→∃ r,K r∧apure C f args (fun x=>x=r)
theorem apure_sound {C:Ctx} (hC:CallOK C) (hL:LoopOK C) (hD:DrawOK C) (hN:NoNum C.P) (hA:ApureDet C) {f:Nat} {args:List AV} {K:AV→Prop} (h:apure C f args K):PCall C.P f args K:=by
  obtain ⟨r,hk,h⟩:=hA f args K h
  obtain ⟨h1,h2⟩:=abody_sound hC hL hD hN h
  refine ⟨r,⟨h1,fun F w us hF hg hv=>?_⟩,hk⟩
  have hM:SimM { w0:=w,M:=fun _=>False,F:=F,mu:=fun _=>none } pn ⟨F,fun _=>none,w.heap⟩ (stO [] 0) w :=
    ⟨rfl,rfl,rfl,rfl,Nat.le_refl _,fun _ _ _=>rfl,fun _ h=>h,hF,fun _ h _=>.inl h,fun _ _ _ _ _ h=>(by cases h),fun _ _ _ _ _ _ _ _ _ h _=>(by cases h),fun _=>rfl,fun _=>trivial,fun _ h=>(by cases h),Nat.le_refl _,fun _ _=>rfl,fun _ _ h=>(by cases h),fun _ _=>rfl⟩
  refine (h2 _ _ w us hM hg hv).mono ?_
  rintro e w' ⟨v,c,S',E',hk,rfl,hS,hr⟩
  unfold dfzK at hk
  split at hk
  · rename_i b hb
    rw [forceA_iff] at hk
    subst hk
    have hd:=dfz_sound hS _ hb hr (ids:=dids S'.o 6 c) (fun i hi=>hi)
    refine ⟨v,FD E' (dids S'.o 6 c),rfl,?_,⟨hS.os,hS.tape,hS.output,hS.size,fun b' hb'=>hS.keep b' hb' (fun h=>h)⟩,fun b' h=>.inl (hS.F0 b' h),fd_lt hS,fun b' h hlt=>?_⟩
    · have e:(⟨FD E' (dids S'.o 6 c),fun _=>none,w'.heap⟩:Env)=E'.fd (dids S'.o 6 c):=by
        unfold Env.fd
        rw [hS.hp]
      rw [e]
      exact hd
    · rcases h with h | ⟨id,_,o',s,n,h⟩
      · rcases hS.Fnew b' h hlt with h3 | h3
        · exact h3
        · exact h3.elim
      · rcases (hS.own _ _ _ _ _ h).2.2 with h3 | h3
        · exact h3.elim
        · have h3:w.heap.size≤b':=h3
          omega
  · exact False.elim hk
section
variable {G:Gh} {E:Env} {S:St} {w:World} {l:Nat} {x:Obj}
theorem SimM.poke (hM:SimM G pn E S w) (hx:sizeH (w.putObj l x).heap l=sizeH w.heap l) (hx0:sizeH (G.w0.putObj l x).heap l=sizeH G.w0.heap l) (hf:¬ E.F l) (hn:∀ k o s n,E.mu k≠some (.blk l o s n)) (hl:l<G.w0.heap.size) :
    LE E ⟨E.F,E.mu,(w.putObj l x).heap⟩∧SimM { G with w0:=G.w0.putObj l x } pn ⟨E.F,E.mu,(w.putObj l x).heap⟩ S (w.putObj l x):=by
  have h1:SimM { G with M:=fun b=>G.M b∨b=l } pn E S w :=
    ⟨hM.hp,hM.os,hM.tape,hM.output,hM.size,fun b hb h=>hM.keep b hb (fun h2=>h (.inl h2)),hM.F0,hM.Flt,fun b h1 h2=>(hM.Fnew b h1 h2).imp id .inl,fun k b o s n h=>by
      obtain ⟨h1,h2,h3⟩:=hM.own k b o s n h
      exact ⟨h1,h2,h3.imp .inl id⟩,hM.inj,hM.loc,hM.obj,hM.old,hM.bl,hM.szs,hM.pk,hM.ow⟩
  have hs:(w.putObj l x).heap.size=w.heap.size:=World.putObj_size
  have hs0:(G.w0.putObj l x).heap.size=G.w0.heap.size:=World.putObj_size
  obtain ⟨hle,h2⟩:=h1.freestep (w':=w.putObj l x) (b:=l) rfl rfl rfl (by rw [hs]; exact Nat.le_refl _) (fun b' _ e=>World.putObj_heap_other e) (fun _=>hx) ⟨hf,hn,.inl (.inr rfl)⟩
  refine ⟨hle,h2.hp,h2.os,h2.tape,h2.output,by rw [hs0]; exact h2.size,fun b hb h=>?_,h2.F0,h2.Flt,fun b h1 h3=>?_,fun k b o s n h=>?_,h2.inj,h2.loc,h2.obj,h2.old,h2.bl,fun b hb=>?_,h2.pk,h2.ow⟩
  · by_cases e:b=l
    · subst e
      rw [World.putObj_heap_same (by have:=hM.size; omega),World.putObj_heap_same hl]
    · rw [World.putObj_heap_other (w:=G.w0) e]
      exact h2.keep b (by rw [hs0] at hb; exact hb) (fun h3=>h3.elim h e)
  · rcases h2.Fnew b h1 (by rw [hs0] at h3; exact h3) with h4 | h4 | h4
    · exact .inl h4
    · exact .inr h4
    · subst h4
      exact (hf h1).elim
  · obtain ⟨h3,h4,h5⟩:=h2.own k b o s n h
    refine ⟨h3,h4,?_⟩
    rw [hs0]
    rcases h5 with (h5 | h5) | h5
    · exact .inl h5
    · subst h5
      exact (hn k o s n h).elim
    · exact .inr h5
  · rw [h2.szs b (by rw [hs0] at hb; exact hb)]
    by_cases e:b=l
    · subst e
      exact hx0.symm
    · unfold sizeH
      rw [World.putObj_heap_other (w:=G.w0) e]
end
theorem setPs_len:∀ {ps:List Nat} {as t:List AV},(setPs ps as t).length=t.length
  | [],_,_=>rfl
  | _::_,[],_=>rfl
  | p::ps,a::as,t=>by
    show (setPs ps as (t.set p a)).length=_
    rw [setPs_len,List.length_set]
theorem setPs_VR {E:Env}:∀ {ps:List Nat} {as:List AV} {us:List Value} {t:List AV} {tm:Array Value},as.length=us.length→(∀ (m:Nat) (c:AV) (u:Value),as[m]?=some c→us[m]?=some u→VR E c u)→t.length=tm.size→(∀ (m:Nat) (c:AV) (u:Value),t[m]?=some c→tm[m]?=some u→VR E c u) →
    (setPs ps as t).length=((ps.zip us).foldl (fun tmps (x:Nat×Value)=>tmps.setIfInBounds x.1 x.2) tm).size∧∀ (m:Nat) (c:AV) (u:Value),(setPs ps as t)[m]?=some c→((ps.zip us).foldl (fun tmps (x:Nat×Value)=>tmps.setIfInBounds x.1 x.2) tm)[m]?=some u→VR E c u
  | [],as,us,t,tm,_,_,h1,h2=>by
    have e:setPs [] as t=t:=by cases as <;> rfl
    rw [e]
    exact ⟨by simpa using h1,by simpa using h2⟩
  | p::ps,[],us,t,tm,hl,_,h1,h2=>by
    have:us=[]:=List.eq_nil_of_length_eq_zero (by simpa using hl.symm)
    subst this
    have e:setPs (p::ps) [] t=t:=rfl
    rw [e]
    exact ⟨by simpa using h1,by simpa using h2⟩
  | p::ps,a::as,[],t,tm,hl,_,_,_=>by simp at hl
  | p::ps,a::as,u0::us,t,tm,hl,ha,h1,h2=>by
    have ih:=setPs_VR (E:=E) (ps:=ps) (as:=as) (us:=us) (t:=t.set p a) (tm:=tm.setIfInBounds p u0) (by simpa using hl) (fun m c u hc hu=>ha (m + 1) c u (by simpa using hc) (by simpa using hu)) (by simpa using h1) (fun m c u hc hu=>by
      rw [List.getElem?_set] at hc
      rw [Array.getElem?_setIfInBounds] at hu
      by_cases e:p=m
      · subst e
        rw [if_pos rfl] at hc hu
        split at hc
        · rename_i h3
          rw [if_pos (by omega)] at hu
          cases hc; cases hu
          exact ha 0 _ _ rfl rfl
        · cases hc
      · rw [if_neg e] at hc hu
        exact h2 m c u hc hu)
    exact ih
theorem SimM.again {G:Gh} {E:Env} {w:World} {o:List Ob} {b id l x y z:Nat} {ob:Ob} (hM:SimM G pn E (stO o b) w) (hd:o[id]?=some .dead) (hG:G.mu id=some (.blk l x y z)) (hf:¬ E.F l) (hl:l<w.heap.size) (hm:G.M l) (hn:∀ k o s n,E.mu k≠some (.blk l o s n))
    (hO:ObR ⟨E.F,addMu E.mu (.O id) (.blk l x y z),E.h⟩ (some ob) (some (.blk l x y z))) (hno:notOwn (some ob)=true) :
    LE E ⟨E.F,addMu E.mu (.O id) (.blk l x y z),E.h⟩∧SimM G pn ⟨E.F,addMu E.mu (.O id) (.blk l x y z),E.h⟩ (stO (o.set id ob) b) w:=by
  have hidl:=(List.getElem?_eq_some_iff.1 hd).1
  have hmu0:E.mu (.O id)=none:=by
    have:=hM.obj id
    rw [show (stO o b).o[id]?=some .dead from hd] at this
    cases h:E.mu (.O id) with
    | none=>rfl
    | some mv=>rw [h] at this; exact this.elim
  have hM0:SimM G pn E (stO o 0) w:=⟨hM.hp,hM.os,hM.tape,hM.output,hM.size,hM.keep,hM.F0,hM.Flt,hM.Fnew,hM.own,hM.inj,hM.loc,hM.obj,fun i h=>(by cases h),Nat.zero_le _,hM.szs,hM.pk,hM.ow⟩
  have hset:(o.set id ob)[id]?=some ob:=by rw [List.getElem?_set,if_pos rfl,if_pos hidl]
  have hS:∀ i,addMu E.mu (.O id) (.blk l x y z) (.S id i)=none:=fun i=>by
    have h:=hM.ow id
    rw [show (stO o b).o[id]?=some .dead from hd] at h
    unfold addMu
    rw [if_neg (fun e=>by cases e)]
    exact OwnR.deadI.1 h i
  have h:=hM0.addkey' (p':=pn) (key:=.O id) (mv:=.blk l x y z) (M':=stO (o.set id ob) 0) (fun _ _=>rfl) (fun d h=>by cases h) hmu0 (fun b' o' s' n' e=>by
      cases e
      exact ⟨hf,hl,.inl hm,fun k o' s' n'=>hn k o' s' n'⟩) (fun _ _=>rfl) (fun j hj=>by
      show (o.set id ob)[j]?=o[j]?
      rw [List.getElem?_set,if_neg (fun e=>hj (by rw [e]))]) rfl (Nat.zero_le _) (fun _ _=>Nat.zero_le _) (fun d h=>by cases h) (fun j hj=>by
      cases hj
      show ObR _ (o.set id ob)[id]? _
      rw [hset]
      exact hO) (fun j hj=>by
      rcases hj with hj | ⟨i,hj⟩
      · cases hj
        show OwnR _ id (o.set id ob)[id]?
        rw [hset]
        exact (OwnR.not hno).2 hS
      · cases hj)
  refine ⟨addMu_le hmu0,h.hp,h.os,h.tape,h.output,h.size,h.keep,h.F0,h.Flt,h.Fnew,h.own,h.inj,h.loc,h.obj,fun i hi=>?_,?_,h.szs,h.pk,h.ow⟩
  · by_cases e:i=id
    · subst e
      refine .inr ?_
      show addMu E.mu (.O i) (.blk l x y z) (.O i)=G.mu i
      unfold addMu
      rw [if_pos rfl,hG]
    · show (o.set id ob)[i]?=_∨addMu E.mu (.O id) (.blk l x y z) (.O i)=_
      rw [List.getElem?_set,if_neg (fun h=>e h.symm)]
      unfold addMu
      rw [if_neg (fun h=>e (by cases h; rfl))]
      exact hM.old i hi
  · show b≤(o.set id ob).length
    rw [List.length_set]
    exact hM.bl
theorem putObj_putObj {w:World} {l:Nat} {x y:Obj}:(w.putObj l x).putObj l y=w.putObj l y:=by
  unfold World.putObj
  simp [Array.setIfInBounds_setIfInBounds]
def jmp:Ex→Option Code
  | .nrm=>none
  | .ret=>some .ret
  | .ex n=>some (.exit n)
theorem yround_sound {C:Ctx} (hC:CallOK C) (hL:LoopOK C) (hD:DrawOK C) {id:Nat} {args:List AV} {o:List Ob} {K:AV→List Ob→Prop} (h:yround C id args o K):YCall C.P id args o K:=by
  intro rr E w us hM hg hv
  unfold yround at h
  split at h
  · rename_i pl ps t asg body hid
    obtain ⟨hc,h⟩:=Chk_elim h
    simp only [Bool.and_eq_true] at hc
    obtain ⟨⟨⟨hc1,hnl⟩,hra⟩,hrb⟩:=hc
    have hps:=Nat.eq_of_beq_eq_true hc1
    rw [killL_iff,killL_iff,killObs_iff,forceO_iff] at h
    have hob:=hM.obj id
    rw [show (stO o o.length).o[id]?=some (.lp pl ps t asg body 0) from hid] at hob
    obtain ⟨l,x,y,z,hmu,r,hr,hlp⟩:∃ l x y z,E.mu (.O id)=some (.blk l x y z)∧∃ r,E.h[l]?=some (.loop r)∧LpR E.ob ps t asg body 0 r:=by
      cases hm:E.mu (.O id) with
      | none=>rw [hm] at hob; exact hob.elim
      | some mv =>
        rw [hm] at hob
        cases mv with
        | virt=>exact hob.elim
        | blk l x y z=>exact ⟨l,x,y,z,rfl,hob⟩
    obtain ⟨hl1,hl2,hl3,⟨hl4,hl5⟩,hst,hpend⟩:=hlp
    have hrw:w.heap[l]?=some (.loop r):=by rw [← hM.hp]; exact hr
    obtain ⟨hFl,hlw,_⟩:=hM.own _ _ _ _ _ hmu
    have hargs:us.size=r.params.size:=by
      have:=hv.1
      rw [← Array.length_toList (xs:=r.params),hl1,← hps,this,Array.length_toList]
    refine ⟨l,x,y,z,hmu,r.fn,_,r.assign,r.body,run_yield hrw hargs,?_⟩
    obtain ⟨hM2,_⟩:=gone_sound' (G:=ghO E w) (pd:=pn) (S:={ t:=t,l:=[],o:=o,b:=o.length }) (a:={ tmps:=r.tmps,defers:=[] }) (hM.congr rfl rfl rfl) ⟨hl4,fun n c u h1 h2=>(hl5 n c u h1 h2).of_ob,⟨[],rfl,List.nodup_nil,fun B h=>by cases h⟩,hg⟩ id
    have ht2:TR (ghO E w) ⟨E.F,remMu E.mu (.O id),E.h⟩ (t.map (killA 4 (.O id))) { tmps:=r.tmps,defers:=[] }:=TR.kill ⟨hl4,fun n c u h1 h2=>(hl5 n c u h1 h2).of_ob,⟨[],rfl,List.nodup_nil,fun B h=>by cases h⟩,hg⟩ remMu_ke
    have hKo:KE (.O id) E.ob (⟨E.F,remMu E.mu (.O id),E.h⟩:Env).ob:=KE.ob remMu_ke
    have hfree:∀ k o' s' n',remMu E.mu (.O id) k≠some (.blk l o' s' n'):=fun k o' s' n' hk=>by
      obtain ⟨h1,h2⟩:=remMu_some hk
      exact h1 (hM.inj _ _ _ _ _ _ _ _ _ h2 hmu)
    have hI:=hM2.sub
    have ho1:((o.map (killOb (.O id))).set id .dead).length=o.length:=by rw [List.length_set,List.length_map]
    have hfold:(r.params.zip us).foldl (fun tmps (x:Tmp×Value)=>tmps.setIfInBounds x.1 x.2) r.tmps=(ps.zip us.toList).foldl (fun tmps (x:Nat×Value)=>tmps.setIfInBounds x.1 x.2) r.tmps:=by
      rw [← Array.foldl_toList,Array.toList_zip,hl1]
    have hsl:=setPs_VR (E:=(⟨E.F,remMu E.mu (.O id),E.h⟩:Env).ob) (ps:=ps) (as:=args.map (killA 4 (.O id))) (us:=us.toList) (t:=t.map (killA 4 (.O id))) (tm:=r.tmps) (by rw [List.length_map]; exact hv.1) (fun m c u hc hu=>by
        rw [List.getElem?_map,Option.map_eq_some_iff] at hc
        obtain ⟨c',h8,rfl⟩:=hc
        exact killA_sound 4 hKo (noL_ob 4 (List.all_eq_true.1 hnl c' (List.mem_of_getElem? h8)) (hv.2 m c' u h8 hu))) (by rw [List.length_map]; exact hl4) (fun m c u hc hu=>by
        rw [List.getElem?_map,Option.map_eq_some_iff] at hc
        obtain ⟨c',h8,rfl⟩:=hc
        exact killA_sound 4 hKo (hl5 m c' u h8 hu))
    have noM:¬ (ghO (⟨E.F,remMu E.mu (.O id),E.h⟩:Env).ob w).M l:=by
      rintro ⟨k,o',s',n',hk⟩
      exact hfree k o' s' n' (ob_some (onlyO_some hk))
    have free:∀ {G':Gh} {E':Env} {S':St} {w':World},SimM G' pn E' S' w'→G'.M=(ghO (⟨E.F,remMu E.mu (.O id),E.h⟩:Env).ob w).M→G'.F=E.F→G'.w0.heap.size=w.heap.size→¬ E'.F l∧∀ k o s n,E'.mu k≠some (.blk l o s n):=fun {G' E' S' w'} hS h1 h2 h3=>by
      refine ⟨fun hf=>?_,fun k o' s' n' hk=>?_⟩
      · rcases hS.Fnew l hf (by rw [h3]; exact hlw) with h4 | h4
        · rw [h2] at h4; exact hFl h4
        · rw [h1] at h4; exact noM h4
      · obtain ⟨_,_,h4 | h4⟩:=hS.own k l o' s' n' hk
        · rw [h1] at h4; exact noM h4
        · rw [h3] at h4; omega
    refine roundIn_of_wpIn (F:=rd rr) trivial ?_
    rw [show (r.params.zip us).foldl (fun tmps (t,a)=>tmps.setIfInBounds t a) r.tmps=_ from hfold,hl2,hl3]
    refine acode_sound hC hL hD asg h (some l) (fun _=>.inl hra) (ghO (⟨E.F,remMu E.mu (.O id),E.h⟩:Env).ob w) _ { tmps:=_,defers:=[] } w _ (hI.congr rfl rfl ho1.symm) ⟨hsl.1,hsl.2,⟨[],rfl,List.nodup_nil,fun B h=>by cases h⟩,hg.up (fun _ h=>h) rfl⟩ (fun e S1 E1 a1 w1 hk hS1 htr1=>?_)
    cases e with
    | ex n=>exact False.elim hk
    | ret=>exact False.elim hk
    | nrm =>
      have hw1:w1.heap[l]?=some (.loop r):=(hS1.keep l hlw noM).trans hrw
      obtain ⟨hf1,hn1⟩:=free hS1 rfl rfl rfl
      obtain ⟨hle2,hS2⟩:=hS1.poke (x:=.loop { r with state:=.busy }) (sizeH_put hw1) (sizeH_put (w:=w) hrw) hf1 hn1 hlw
      refine ⟨_,run_beginRound hw1 hst,?_⟩
      have hk:acode C pl body S1 _:=hk
      refine acode_sound hC hL hD body hk (some l) (fun _=>.inl hrb) _ _ a1 _ _ hS2 ⟨htr1.len,fun n c u h1 h2=>(htr1.val n c u h1 h2).mono hle2,df_up hle2.F hle2.hF (by
        obtain ⟨Bs,h1,h2,h3⟩:=htr1.df
        exact ⟨Bs,h1,h2,fun B hB=>⟨by show (w.putObj l _).heap.size≤B; rw [World.putObj_size]; exact (h3 B hB).1,(h3 B hB).2⟩⟩),htr1.gt.mono hle2⟩ (fun e2 S2 E3 a3 w3 hk2 hS3 htr3=>?_)
      obtain ⟨hb2,hk2⟩:=Chk_elim hk2
      have hb2:=Nat.eq_of_beq_eq_true hb2
      have hs0:(w.putObj l (.loop { r with state:=.busy })).heap.size=w.heap.size:=World.putObj_size
      have hlt0:l<(w.putObj l (.loop { r with state:=.busy })).heap.size:=by rw [hs0]; exact hlw
      have hw3:w3.heap[l]?=some (.loop { r with state:=.busy }):=by
        rw [hS3.keep l hlt0 noM]
        exact World.putObj_heap_same hlw
      obtain ⟨hf3,hn3⟩:=free hS3 rfl rfl hs0
      have fin:∃ v w',(Instr.endRound l (jmp e2)).run C.P w3=.ok v w'∧∃ v' r' o' E',K r' o'∧Ending.returned v=.returned v'∧SimM (ghO E w) pn E' (stO o' o.length) w'∧VR E' r' v':=by
        split at hk2
        · rename_i hdead
          rw [killTL_iff,forceO_iff] at hk2
          refine ⟨.bool (jmp e2).isNone,_,run_endRound (jmp e2) hw3,?_⟩
          obtain ⟨hle4,hS4⟩:=hS3.poke (x:=.loop { { r with state:=.busy } with state:=if (jmp e2).isNone then .ready else .done,pending:=jmp e2 }) (sizeH_put hw3) (sizeH_put (w:=w.putObj l (.loop { r with state:=.busy })) (World.putObj_heap_same hlw)) hf3 hn3 hlt0
          have hS5:=hS4.obj_only
          rw [hb2] at hS5
          simp only [putObj_putObj] at hS5
          obtain ⟨hle6,hM6⟩:=hM2.freestep (w':=w.putObj l (.loop { { r with state:=.busy } with state:=if (jmp e2).isNone then .ready else .done,pending:=jmp e2 })) (b:=l) rfl rfl rfl (by rw [World.putObj_size]; exact Nat.le_refl _) (fun b' _ e=>World.putObj_heap_other e) (fun _=>sizeH_put hrw) ⟨hFl,hfree,.inl ⟨.O id,x,y,z,hmu⟩⟩
          obtain ⟨hB,htB,_⟩:=hM6.back (o':=S2.o) (ht2.mono hle6) (by
            show SimM _ pn _ (stO S2.o ((o.map (killOb (.O id))).set id .dead).length) _
            rw [ho1]
            exact hS5)
          have hdead':S2.o[id]?=some .dead:=hdead
          have hmu5:E3.mu (.O id)=none:=by
            have:=hS3.obj id
            rw [hdead'] at this
            cases h:E3.mu (.O id) with
            | none=>rfl
            | some mv=>rw [h] at this; exact this.elim
          have hl4:l<w3.heap.size:=(Array.getElem?_eq_some_iff.1 hw3).1
          obtain ⟨_,hM8⟩:=hB.obj_only.again (id:=id) (l:=l) (x:=x) (y:=y) (z:=z) (ob:=.lp pl ps (killTs (deadNow ((o.map (killOb (.O id))).set id .dead) S2.o 0) (t.map (killA 4 (.O id)))) asg body (stOf e2)) hdead' hmu hf3 (by rw [World.putObj_size]; exact hl4) ⟨.O id,x,y,z,hmu⟩ (fun k o' s' n' hk=>by
            cases k with
            | L d=>cases hk
            | O i=>exact hn3 _ _ _ _ hk
            | S a i=>exact hn3 _ _ _ _ hk) ⟨_,World.putObj_heap_same hl4,hl1,hl2,hl3,⟨htB.len,fun m c u hc hu=>(htB.val m c u hc hu).mono ⟨fun _ h=>h,fun k v hs hk=>by
              cases k with
              | S a i=>cases hs
              | L d =>
                have h9:remMu E.mu (.O id) (.L d)=some v:=hk
                have h10:E.mu (.L d)=none:=hM.loc d
                rw [remMu_L (fun h=>by cases h),h10] at h9
                cases h9
              | O i =>
                have h9:E3.mu (.O i)=some v:=hk
                show (if Key.O i=Key.O id then some _ else E3.mu (.O i))=some v
                rw [if_neg (fun e=>by cases e; rw [hmu5] at h9; cases h9)]
                exact h9,fun _ _=>rfl,fun _ _ _ _ _ _ _=>rfl⟩⟩,by cases e2 <;> exact ⟨rfl,rfl⟩⟩ rfl
          have hbv:Value.bool (jmp e2).isNone=Value.bool (Nat.beq (stOf e2) 0):=by cases e2 <;> rfl
          exact ⟨.bool (jmp e2).isNone,.v (.bool (Nat.beq (stOf e2) 0)),_,_,hk2,rfl,hM8,by rw [hbv]; exact .v _ _ rfl⟩
        · exact False.elim hk2
      cases e2 with
      | nrm=>exact fin
      | ret=>exact fin
      | ex n=>exact fin
  · exact False.elim h
end A
end Go.Proofs.Ytaekcekecdocnaa
