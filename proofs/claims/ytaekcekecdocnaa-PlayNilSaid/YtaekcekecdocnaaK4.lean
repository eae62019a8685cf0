/- Slices that grow, maps, calls. Nothing is claimed here of the program. -/
import Derived.Test.YtaekcekecdocnaaK3
import Derived.Deep.AppendSrc
import Derived.Deep.Upon
namespace Go.Proofs.Ytaekcekecdocnaa
namespace A
open Go
open Go.RowKit (Below)
theorem KE.ob {k:Key} {E E':Env} (h:KE k E E'):KE k E.ob E'.ob :=
  ⟨h.F,fun x y hs hx hy=>(by
    cases x with
    | S _ _=>cases hs
    | L d=>cases hy
    | O i=>exact h.mu _ _ hs hx hy),h.hF,fun x b o s n hs hx hy=>h.sz x b o s n hs hx (b7 hy)⟩
theorem KE.of_le {k:Key} {E E' E'':Env} (h:KE k E E') (h':LE E' E''):KE k E E'' :=
  ⟨fun b hb=>h'.F b (h.F b hb),fun x y hs hx hy=>h'.mu x y hs (h.mu x y hs hx hy),fun b hb=>(h'.hF b (h.F b hb)).trans (h.hF b hb),
   fun x b o s n hs hx hy=>(h'.sz x b o s n hs (h.mu _ _ hs hx hy)).trans (h.sz x b o s n hs hx hy)⟩
theorem vQ.kill {E E':Env} {h:Array Obj} {es:List (AV×AV)} {b:Nat} {k:Key} (ha:vQ E h false es b) (hk:KE k E.ob E'.ob) {h':Array Obj} (hh:h'[b]?=h[b]?) :
    vQ E' h' false (es.map fun e=>(e.1,a5 4 k e.2)) b:=by
  obtain ⟨ms,clock,h1,h2,h3⟩:=ha
  refine ⟨ms,clock,hh.trans h1,⟨by simpa using h2.1,h2.2⟩,fun i e m h4 h5=>?_⟩
  rw [List.getElem?_map,Option.map_eq_some_iff] at h4
  obtain ⟨e',h6,rfl⟩:=h4
  obtain ⟨h7,h8⟩:=h3 i e' m h6 h5
  exact ⟨h7,b3 4 hk h8⟩
theorem b9.kill {E E':Env} {x:Ob} {mv:Option MV} {k:Key} (h:b9 E (some x) mv) (hk:KE k E E') (hh:E'.h=E.h):b9 E' (some (bw k x)) mv:=by
  revert h
  cases x with
  | dead=>cases mv <;> exact fun h=>h
  | arr fl sz' rows =>
    cases mv with
    | none=>cases fl <;> exact fun h=>h.elim
    | some mv =>
      cases mv with
      | virt =>
        cases fl with
        | true=>exact fun h=>h
        | false =>
          intro h
          show rows.map _=[]
          rw [show rows=[] from h]
          rfl
      | blk b o s n =>
        cases fl with
        | true =>
          rintro ⟨h1,h2,h3,us,ty,h4,h5,h6⟩
          refine ⟨h1,h2,h3,us,ty,(by rw [hh]; exact h4),h5,fun m c hc=>?_⟩
          obtain ⟨u,hu,hv⟩:=h6 m c hc
          exact ⟨u,hu,hv.mono hk.fz⟩
        | false =>
          rintro ⟨h1,h2⟩
          refine ⟨by simpa using h1,?_⟩
          exact aX.kill (E:=E.ob) (E':=E'.ob) h2 hk.ob (by rw [hh])
  | lp pl ps t asg body st =>
    cases mv with
    | none=>exact fun h=>h.elim
    | some mv =>
      cases mv with
      | virt=>exact fun h=>h.elim
      | blk b o s n =>
        rintro ⟨r,h1,h2,h3,h4,⟨h5,h6⟩,h7⟩
        refine ⟨r,by rw [hh]; exact h1,h2,h3,h4,⟨by rw [List.length_map]; exact h5,fun m c u hc hu=>?_⟩,h7⟩
        rw [List.getElem?_map,Option.map_eq_some_iff] at hc
        obtain ⟨c',h8,rfl⟩:=hc
        exact b3 4 hk.ob (h6 m c' u h8 hu)
  | own _ _ _ hole =>
    cases hole <;> (cases mv with
      | none=>exact fun h=>h.elim
      | some mv=>cases mv <;> exact fun h=>h)
  | mapo fl es =>
    cases mv with
    | none=>cases fl <;> exact fun h=>h.elim
    | some mv =>
      cases mv with
      | virt=>cases fl <;> exact fun h=>h.elim
      | blk b o s n =>
        cases fl with
        | true =>
          rintro ⟨ms,clock,h1,h2,h3⟩
          refine ⟨ms,clock,(by rw [hh]; exact h1),h2,fun i e m h4 h5=>?_⟩
          obtain ⟨h6,h7⟩:=h3 i e m h4 h5
          exact ⟨h6,h7.mono hk.fz⟩
        | false=>exact fun h=>vQ.kill h hk.ob (by rw [hh])
theorem bi.kill {E E':Env} {i:Nat} {x:Option Ob} {k:Key} (h:bi E i x) (hk:KE k E E') (hO:E'.mu (.O i)=E.mu (.O i)) (hS:∀ j,E'.mu (.S i j)=E.mu (.S i j)) (hh:E'.h=E.h):bi E' i (x.map (bw k)):=by
  cases x with
  | none=>exact fun j=>(hS j).trans (h j)
  | some ob =>
    cases ob with
    | dead=>exact fun j=>(hS j).trans (h j)
    | arr fl sz rows=>cases fl <;> exact fun j=>(hS j).trans (h j)
    | lp _ _ _ _ _ _=>exact fun j=>(hS j).trans (h j)
    | mapo fl es=>cases fl <;> exact fun j=>(hS j).trans (h j)
    | own ks sz cells hole =>
      obtain ⟨h1,h2,h3⟩:=h
      have key:bi E' i (some (.own ks sz cells (hole.map fun z=>(z.1,a5 4 k z.2)))):=by
        refine ⟨h1,fun j hj=>(hS j).trans (h2 j hj),fun b o s n hm=>?_⟩
        rw [hO] at hm
        obtain ⟨h4,h6⟩:=h3 b o s n hm
        refine ⟨by rw [hh]; exact h4,fun j c hc=>?_⟩
        obtain ⟨u,hu,h7⟩:=h6 j c hc
        refine ⟨u,by rw [hh]; exact hu,?_⟩
        rw [hS j]
        have hcell:aN E sz c (E.mu (.S i j)) u→aN E' sz c (E.mu (.S i j)) u:=fun h=>h.mono hk.fz (fun _ _ _ _ _=>by rw [hh])
        cases hole with
        | none=>exact hcell h7
        | some z =>
          obtain ⟨q,a⟩:=z
          have h7:(if q=j then E.mu (.S i j)=none∧VR E.ob a u else aN E sz c (E.mu (.S i j)) u):=h7
          show (if q=j then E.mu (.S i j)=none∧VR E'.ob (a5 4 k a) u else aN E' sz c (E.mu (.S i j)) u)
          by_cases hq:q=j
          · rw [if_pos hq] at h7 ⊢
            exact ⟨h7.1,b3 4 hk.ob h7.2⟩
          · rw [if_neg hq] at h7 ⊢
            exact hcell h7
      cases hole <;> exact key
section
variable {G:Gh} {pd:Nat→Option (List AV)} {p:Nat→Option (List AV)} {E:Env} {S:St} {M:St} {w:World} {P:Program}
theorem t_ (hM:ad G pd E S w) (id i:Nat):bi ⟨E.F,ao E.mu (.O id),E.h⟩ i ((S.o.map (bw (.O id))).set id .dead)[i]?:=by
  by_cases he:id=i
  · subst he
    have h:du ((S.o.map (bw (.O id))).set id .dead)[id]?=true:=by
      rw [List.getElem?_set,if_pos rfl]
      split <;> rfl
    rw [bi.not h]
    exact fun j=>v0
  · rw [List.getElem?_set,if_neg he,List.getElem?_map]
    exact (hM.ow i).kill dj (eo (fun e=>he (by cases e; rfl))) (fun j=>qu (k:=.O id) (a:=i) (i:=j) (by intro e; cases e) (by intro e; cases e; exact he rfl)) rfl
def bG (id:Nat) (S:St):St:={ t:=S.t.map (a5 4 (.O id)),l:=S.l.map (dl (.O id)),o:=(S.o.map (bw (.O id))).set id .dead,b:=S.b }
theorem ua (hM:ad G pd E S w) {id e:Nat} {row':List AV} (h:pd e=some row'):ao E.mu (.O id) (.L e)=none∧ap (bG id S).l e=some row':=by
  obtain ⟨h1,h2⟩:=hM.pk e row' h
  refine ⟨?_,?_⟩
  · unfold ao
    rw [if_neg (fun h=>by cases h)]
    exact h1
  · show ap (S.l.map (dl (.O id))) e=_
    rw [cn,h2]
    show some _=_
    rw [hM.pend_inv h]
theorem v1 (hM:ad G pd E S w) {id:Nat} (hid:id<S.o.length):ad G pd ⟨E.F,ao E.mu (.O id),E.h⟩ (bG id S) w:=by
  have hke:KE (.O id) E ⟨E.F,ao E.mu (.O id),E.h⟩:=dj
  refine ⟨hM.hp,hM.os,hM.tape,hM.output,hM.size,hM.keep,hM.F0,hM.Flt,hM.Fnew,fun k b o s n h=>hM.own k b o s n (aR h).2,fun k k' b o s n o' s' n' h h'=>hM.inj _ _ _ _ _ _ _ _ _ (aR h).2 (aR h').2,
    fun e=>?_,fun i=>?_,fun i hi=>?_,by simpa [bG] using hM.bl,hM.szs,fun e row' h=>ua hM h,t_ hM id⟩
  · show c_ pd _ (ap (S.l.map (dl (.O id))) e) e
    rw [cn]
    have hmu:ao E.mu (.O id) (.L e)=E.mu (.L e):=gx (fun h=>by cases h)
    have:=hM.loc e
    revert this
    cases ap S.l e with
    | none=>exact fun h=>hmu.trans h
    | some row =>
      rintro (⟨b',h1,h2⟩ | ⟨h1,h2⟩)
      · refine .inl ⟨b',hmu.trans (by simpa using h1),?_⟩
        have:=h2.kill hke (h':=E.h) rfl
        simpa using this
      · exact c_.pend_kill hmu h1 h2
  · show b9 _ (((S.o.map (bw (.O id))).set id .dead)[i]?) (ao E.mu (.O id) (.O i))
    by_cases he:id=i
    · subst he
      have hmu:ao E.mu (.O id) (.O id)=none:=by unfold ao; rw [if_pos rfl]
      rw [hmu,List.getElem?_set,if_pos rfl,if_pos (by simpa using hid)]
      trivial
    · have hmu:ao E.mu (.O id) (.O i)=E.mu (.O i):=eo (fun h=>he (by cases h; rfl))
      rw [hmu,List.getElem?_set,if_neg he,List.getElem?_map]
      have:=hM.obj i
      revert this
      cases S.o[i]? with
      | none=>cases E.mu (.O i) <;> exact fun h=>h
      | some x=>exact fun h=>h.kill hke rfl
  · show ((S.o.map (bw (.O id))).set id .dead)[i]?=some .dead∨ao E.mu (.O id) (.O i)=G.mu i
    by_cases he:id=i
    · subst he
      rw [List.getElem?_set,if_pos rfl,if_pos (by simpa using hid)]
      exact .inl rfl
    · have hmu:ao E.mu (.O id) (.O i)=E.mu (.O i):=eo (fun h=>he (by cases h; rfl))
      rw [hmu,List.getElem?_set,if_neg he,List.getElem?_map]
      rcases hM.old i hi with h | h
      · rw [h]; exact .inl rfl
      · exact .inr h
theorem gz (hM:ad G pd E S w) {a:Act} (ht:TR G E S.t a) {id:Nat} (hid:id<S.o.length) :
    ad G pd ⟨E.F,ao E.mu (.O id),E.h⟩ (bG id S) w∧TR G ⟨E.F,ao E.mu (.O id),E.h⟩ (bG id S).t a∧KE (.O id) E ⟨E.F,ao E.mu (.O id),E.h⟩ :=
  ⟨v1 hM hid,ht.kill dj,dj⟩
theorem ad.freestep (hM:ad G p E M w) {w':World} {b:Nat} (hos:w'.os=w.os) (htp:w'.tape=w.tape) (hou:w'.output=w.output) (hsz:w.heap.size≤w'.heap.size)
    (hoth:∀ b',b'<w.heap.size→b'≠b→w'.heap[b']?=w.heap[b']?) (hsb:b<w.heap.size→au w'.heap b=au w.heap b) (hfree:¬ E.F b∧(∀ k o s n,E.mu k≠some (.blk b o s n))∧(G.M b∨G.w0.heap.size≤b)) :
    LE E ⟨E.F,E.mu,w'.heap⟩∧ad G p ⟨E.F,E.mu,w'.heap⟩ M w':=by
  obtain ⟨hf1,hf2,hf3⟩:=hfree
  have hblk:∀ k b' o s n,E.mu k=some (.blk b' o s n)→w'.heap[b']?=E.h[b']?:=fun k b' o s n h=>by
    rw [hM.hp]; exact hoth b' (hM.own k b' o s n h).2.1 (fun e=>hf2 k o s n (e▸h))
  have hle:LE E ⟨E.F,E.mu,w'.heap⟩:=by
    refine ⟨fun _ h=>h,fun _ _ _ h=>h,fun b' h=>by rw [hM.hp]; exact hoth b' (hM.Flt b' h) (fun e=>hf1 (e▸h)),fun k b' o s n _ h=>?_⟩
    unfold au
    rw [hblk k b' o s n h]
  refine ⟨hle,?_⟩
  refine ⟨rfl,hos.trans hM.os,htp.trans hM.tape,hou.trans hM.output,Nat.le_trans hM.size hsz,fun b' h1 h2=>?_,hM.F0,fun b' h=>Nat.lt_of_lt_of_le (hM.Flt b' h) hsz,hM.Fnew,
    fun k b' o s n h=>?_,hM.inj,fun d=>?_,fun id=>?_,hM.old,hM.bl,fun b' hb'=>(by
    rw [← hM.szs b' hb']
    by_cases hbe:b'=b
    · subst hbe
      exact hsb (Nat.lt_of_lt_of_le hb' hM.size)
    · unfold au; rw [hoth b' (Nat.lt_of_lt_of_le hb' hM.size) hbe]),hM.pk,fun id=>(hM.ow id).mono rfl (fun _=>rfl) hle.fz hle.ob (fun k b o s n _ h=>hblk k b o s n h)⟩
  · rw [hoth b' (Nat.lt_of_lt_of_le h1 hM.size) (fun e=>by
      subst e
      rcases hf3 with h | h
      · exact h2 h
      · omega)]
    exact hM.keep b' h1 h2
  · obtain ⟨h1,h2,h3⟩:=hM.own k b' o s n h
    exact ⟨h1,Nat.lt_of_lt_of_le h2 hsz,h3⟩
  · have:=hM.loc d
    revert this
    cases ap M.l d with
    | none=>exact fun h=>h
    | some row =>
      rintro (⟨b',h1,h2,h3,us,ty,h4,h5,h6⟩ | h)
      · refine .inl ⟨b',h1,h2,h3,us,ty,(hblk _ _ _ _ _ h1).trans h4,h5,fun m c hc=>?_⟩
        obtain ⟨u,hu,hv⟩:=h6 m c hc
        exact ⟨u,hu,hv.mono hle⟩
      · exact .inr h
  · exact (hM.obj id).mono hle (fun b' o s n h=>hblk _ _ _ _ _ h)
def moved (id:Nat) (ob:Ob) (S:St):St×Nat :=
  match mG S id with
  | false=>({ t:=(bG id S).t,l:=(bG id S).l,o:=(S.o.map (bw (.O id))).set id ob,b:=S.b },id)
  | true=>({ t:=(bG id S).t,l:=(bG id S).l,o:=(bG id S).o++[ob],b:=S.b },S.o.length)
theorem kT {id:Nat} {ob:Ob} {k:St→Nat→Prop}:iW S id ob k↔k (moved id (bw (.O id) ob) S).1 (moved id (bw (.O id) ob) S).2:=by
  unfold iW moved
  rw [cx,dA,br]
  cases mG S id with
  | false =>
    show ay _ _↔_
    rw [ak]
    exact Iff.rfl
  | true =>
    show ay _ _↔_
    rw [ak]
    simp only [List.length_map]
    exact Iff.rfl
theorem h_ (hM:ad G pd E S w) {a:Act} (ht:TR G E S.t a) {id:Nat} (hid:id<S.o.length) {w':World} {b:Nat} (hos:w'.os=w.os) (htp:w'.tape=w.tape) (hou:w'.output=w.output) (hsz:w.heap.size≤w'.heap.size)
    (hoth:∀ b',b'<w.heap.size→b'≠b→w'.heap[b']?=w.heap[b']?) (hsb:b<w.heap.size→au w'.heap b=au w.heap b) (hb:(∃ o s n,E.mu (.O id)=some (.blk b o s n))∨b=w.heap.size) {ob:Ob} (hno:du (some ob)=true) {mv:MV} (hmv:mv=.virt∨∃ b' o s n,mv=.blk b' o s n∧b'<w'.heap.size∧(b'=b∨w.heap.size≤b'))
    (hO:∀ E',KE (.O id) E E'→E'.h=w'.heap→b9 E' (some ob) (some mv)) :
    ∃ E',ad G pd E' (moved id ob S).1 w'∧TR G E' (moved id ob S).1.t a∧E'.mu (.O (moved id ob S).2)=some mv∧E'.h=w'.heap∧KE (.O id) E E':=by
  obtain ⟨hS1,ht1,hke1⟩:=gz hM ht hid
  have hfree:¬ E.F b∧(∀ k o s n,ao E.mu (.O id) k≠some (.blk b o s n))∧(G.M b∨G.w0.heap.size≤b):=by
    rcases hb with ⟨o,s,n,h⟩ | h
    · obtain ⟨h1,h2,h3⟩:=hM.own _ _ _ _ _ h
      refine ⟨h1,fun k o' s' n' h'=>?_,h3⟩
      obtain ⟨hne,h''⟩:=aR h'
      exact hne (hM.inj _ _ _ _ _ _ _ _ _ h'' h)
    · subst h
      refine ⟨fun h=>?_,fun k o' s' n' h'=>?_,.inr hM.size⟩
      · have:=hM.Flt _ h; omega
      · have:=(hM.own _ _ _ _ _ (aR h').2).2.1; omega
  obtain ⟨hle2,hS2⟩:=hS1.freestep hos htp hou hsz hoth hsb hfree
  have hgm:∀ b',(b'=b∨w.heap.size≤b')→¬ E.F b'∧(G.M b'∨G.w0.heap.size≤b')∧∀ k o' s' n',ao E.mu (.O id) k≠some (.blk b' o' s' n'):=by
    intro b' h
    rcases h with h | h
    · subst h; exact ⟨hfree.1,hfree.2.2,hfree.2.1⟩
    · refine ⟨fun h'=>?_,.inr (Nat.le_trans hM.size h),fun k o' s' n' h'=>?_⟩
      · have:=hM.Flt _ h'; omega
      · have:=(hM.own _ _ _ _ _ (aR h').2).2.1; omega
  have hmv':∀ b' o s n,mv=.blk b' o s n→¬ E.F b'∧b'<w'.heap.size∧(G.M b'∨G.w0.heap.size≤b')∧∀ k o' s' n',ao E.mu (.O id) k≠some (.blk b' o' s' n'):=by
    intro b' o s n h
    rcases hmv with h1 | ⟨b1,o1,s1,n1,h1,h2,h3⟩
    · rw [h1] at h; cases h
    · rw [h1] at h
      cases h
      obtain ⟨h4,h5,h6⟩:=hgm _ h3
      exact ⟨h4,h2,h5,h6⟩
  have jR:∀ (key:Nat) (M':St),ao E.mu (.O id) (.O key)=none→M'.l=(bG id S).l→(∀ i,key≠i→M'.o[i]?=(bG id S).o[i]?)→M'.b=S.b→S.b≤M'.o.length→S.b≤key→M'.o[key]?=some ob→du (bG id S).o[key]?=true →
      ∃ E',ad G pd E' M' w'∧(∀ t:List AV,TR G ⟨E.F,ao E.mu (.O id),E.h⟩ t a→TR G E' t a)∧E'.mu (.O key)=some mv∧E'.h=w'.heap∧KE (.O id) E E':=by
    intro key M' hk hl ho hb' hbl hkb hget hnk
    have hle3:LE ⟨E.F,ao E.mu (.O id),w'.heap⟩ ⟨E.F,ai (ao E.mu (.O id)) (.O key) mv,w'.heap⟩:=dQ (E:=⟨E.F,ao E.mu (.O id),w'.heap⟩) hk
    have hke3:KE (.O id) E ⟨E.F,ai (ao E.mu (.O id)) (.O key) mv,w'.heap⟩:=hke1.of_le (hle2.trans hle3)
    have hS3:=hS2.addkey (key:=.O key) (mv:=mv) (fun _ h=>by cases h) hk hmv' (M':=M') (fun d _=>by rw [hl]) (fun i hi=>ho i (fun e=>hi (by rw [e]))) hb' hbl (fun i e=>by cases e; exact hkb)
      (fun d e=>by cases e) (fun i e=>by cases e; rw [hget]; exact hO _ hke3 rfl) (fun i e=>by
        rcases e with e | ⟨j,e⟩ <;> cases e
        rw [hget]
        exact hS2.ow_new rfl hnk hno)
    exact ⟨_,hS3,fun t h=>(h.mono hle2).mono hle3,by show ai _ _ _ _=_; unfold ai; rw [if_pos rfl],rfl,hke3⟩
  unfold moved
  cases hbase:mG S id with
  | false =>
    have hge:S.b≤id:=by
      unfold mG at hbase
      have:¬ (id<S.b):=fun h=>by rw [show id.blt S.b=true from by rw [Nat.blt_eq]; exact h] at hbase; cases hbase
      omega
    obtain ⟨E',h1,h2,h3⟩:=jR id { t:=(bG id S).t,l:=(bG id S).l,o:=(S.o.map (bw (.O id))).set id ob,b:=S.b } (by unfold ao; rw [if_pos rfl]) rfl
      (fun i hi=>by
        show ((S.o.map _).set id ob)[i]?=((S.o.map _).set id .dead)[i]?
        rw [List.getElem?_set,List.getElem?_set,if_neg hi,if_neg hi]) rfl (by simpa using hM.bl) hge (by
        show ((S.o.map _).set id ob)[id]?=_
        rw [List.getElem?_set,if_pos rfl,if_pos (by simpa using hid)]) (by
        show du ((S.o.map _).set id .dead)[id]?=true
        rw [List.getElem?_set,if_pos rfl]
        split <;> rfl)
    exact ⟨E',h1,h2 _ ht1,h3⟩
  | true =>
    have hgl:(bG id S).o.length=S.o.length:=by simp [bG]
    obtain ⟨E',h1,h2,h3⟩:=jR S.o.length { t:=(bG id S).t,l:=(bG id S).l,o:=(bG id S).o++[ob],b:=S.b } (by
        have:=rB hM
        unfold ao
        split
        · rfl
        · exact this) rfl
      (fun i hi=>by
        show ((bG id S).o++[ob])[i]?=(bG id S).o[i]?
        rcases Nat.lt_trichotomy i S.o.length with h | h | h
        · rw [List.getElem?_append_left (by omega)]
        · exact absurd h.symm hi
        · rw [List.getElem?_eq_none (by simp; omega),List.getElem?_eq_none (by omega)]) rfl (by have:=hM.bl; simp; omega) hM.bl (by
        show ((bG id S).o++[ob])[S.o.length]?=_
        rw [← hgl,List.getElem?_append_right (Nat.le_refl _),Nat.sub_self]
        rfl) (by rw [List.getElem?_eq_none (by omega)]; rfl)
    exact ⟨E',h1,h2 _ ht1,h3⟩
end
section
variable {G:Gh} {pd:Nat→Option (List AV)} {p:Nat→Option (List AV)} {E:Env} {S:St} {M:St} {w:World} {P:Program}
theorem oy.first {sz:Nat} {fl:Bool} {rows:List (List AV)} {u:Value} (h:oy E w sz fl rows u) (hr:∀ r∈rows,r.length=sz) :
    ∃ (A:Option Addr) (c:Nat) (us:List Value),u=.slice A rows.length c∧rows.length≤c∧aO (a6 E fl) rows.flatten us∧(A=none→rows=[])∧us.length=rows.length * sz ∧
      (∀ w':World,w'.heap=w.heap→(Builtin.firstCells sz rows.length u).run P w'=.ok us.toArray w'):=by
  obtain ⟨A,c,us,rfl,h1,h2,h3,h4⟩:=h
  have hul:us.length=rows.length * sz:=by rw [← h2.1,aL hr]
  refine ⟨A,c,us,rfl,h1,h2,h3,hul,fun w' hw=>?_⟩
  cases A with
  | none =>
    have:=h3 rfl
    subst this
    have:us=[]:=List.eq_nil_of_length_eq_zero (by simpa using hul)
    subst this
    exact run_firstCells_none w' sz 0 0 c
  | some a =>
    refine run_firstCells_some w' sz rows.length a rows.length c us hul (fun j v hv=>?_)
    have:=h4 a rfl j v hv
    unfold World.cell? at this ⊢
    rw [hw]
    exact this
theorem gA {src:List (List AV)} {us:List Value} {E':Env} (h:e5 src=true) (hv:aO E' src.flatten us):∀ u∈us,u.oneCell'=true:=by
  intro u hu
  obtain ⟨m,hm,hmv⟩:=List.getElem_of_mem hu
  have hmc:m<src.flatten.length:=by rw [hv.1]; exact hm
  have hok:gl src.flatten[m]=true:=by
    have hmem:=List.getElem_mem hmc
    obtain ⟨r,hr,hx⟩:=List.mem_flatten.1 hmem
    exact List.all_eq_true.1 (List.all_eq_true.1 h r hr) _ hx
  have:=jp hok (hv.2 m _ u (List.getElem?_eq_getElem hmc) (by rw [← hmv]; exact List.getElem?_eq_getElem hm))
  revert this
  cases u <;> exact fun h=>h
theorem v2 {sz:Nat} {fl:Bool} {src:List (List AV)} {u:Value} {tx:TypeId} (hk:(∃ e',P.underlying tx=some (.slice e'))∨P.underlying tx=some .string) (hr:∀ r∈src,r.length=sz) (hok:e5 src=true)
    (h:oy E w sz fl src u∨∃ s,u=.string s∧sz=1∧fl=true∧src.length=s.size∧aO E.fz src.flatten (byteCells s)):∃ news,Src P sz tx u src.length news w∧aO (a6 E fl) src.flatten news:=by
  rcases h with h | ⟨s,rfl,rfl,rfl,h4,h5⟩
  · obtain ⟨A,c,us,rfl,h1,h2,h3,h4,h5⟩:=h.first (P:=P) hr
    exact ⟨us,⟨hk,fun _=>rfl,h5 w rfl,h5 w.drew rfl,h4,gA hok h2⟩,h2⟩
  · refine ⟨_,⟨hk,fun w'=>?_,?_,?_,?_,?_⟩,h5⟩
    · show Result.ok _ _=_
      rw [h4]
    · rw [h4]; exact firstCells_string s w
    · rw [h4]; exact firstCells_string s w.drew
    · rw [byteCells_length,h4,Nat.mul_one]
    · exact gA hok h5
theorem jw (hM:ad G pd E S w) {a:Act} (ht:TR G E S.t a) {w':World} (hos:w'.os=w.os) (htp:w'.tape=w.tape) (hou:w'.output=w.output) (hsz:w.heap.size≤w'.heap.size)
    (hoth:∀ b',b'<w.heap.size→w'.heap[b']?=w.heap[b']?) {ob:Ob} (hno:du (some ob)=true) {mv:MV} (hmv:mv=.virt∨∃ b' o s n,mv=.blk b' o s n∧b'<w'.heap.size∧w.heap.size≤b')
    (hO:∀ E',LE E E'→E'.h=w'.heap→b9 E' (some ob) (some mv)) :
    ∃ E',ad G pd E' { t:=S.t,l:=S.l,o:=S.o++[ob],b:=S.b } w'∧TR G E' S.t a∧E'.mu (.O S.o.length)=some mv∧E'.h=w'.heap∧LE E E':=by
  obtain ⟨hle2,hS2⟩:=hM.freestep (b:=w.heap.size) hos htp hou hsz (fun b' h _=>hoth b' h) (fun h=>by omega) ⟨fun h=>by have:=hM.Flt _ h; omega,fun k o s n h=>by have:=(hM.own _ _ _ _ _ h).2.1; omega,.inr hM.size⟩
  have hk:=rB hM
  have hle3:LE ⟨E.F,E.mu,w'.heap⟩ ⟨E.F,ai E.mu (.O S.o.length) mv,w'.heap⟩:=dQ (E:=⟨E.F,E.mu,w'.heap⟩) hk
  have hS3:=hS2.addkey (key:=.O S.o.length) (mv:=mv) (fun _ h=>by cases h) hk (fun b o s n h=>by
      rcases hmv with h1 | ⟨b1,o1,s1,n1,h1,h2,h3⟩
      · rw [h1] at h; cases h
      · rw [h1] at h
        cases h
        refine ⟨fun h'=>by have:=hM.Flt _ h'; omega,h2,.inr (Nat.le_trans hM.size h3),fun k o' s' n' h'=>by have:=(hM.own _ _ _ _ _ h').2.1; omega⟩)
    (M':={ t:=S.t,l:=S.l,o:=S.o++[ob],b:=S.b }) (fun _ _=>rfl)
    (fun id he=>by
      show (S.o++[_])[id]?=_
      rcases Nat.lt_trichotomy id S.o.length with h1 | h1 | h1
      · rw [List.getElem?_append_left h1]
      · exact absurd (by rw [h1]) he
      · rw [List.getElem?_eq_none (by simp; omega),List.getElem?_eq_none (by omega)]) rfl (by have:=hM.bl; simp; omega) (fun id he=>by cases he; exact hM.bl)
    (fun d he=>by cases he)
    (fun id he=>by
      cases he
      show b9 _ (S.o++[_])[S.o.length]? _
      rw [List.getElem?_append_right (Nat.le_refl _),Nat.sub_self]
      exact hO _ (hle2.trans hle3) rfl) (hS2.ow_push rfl hno)
  exact ⟨_,hS3,(ht.mono hle2).mono hle3,by show ai _ _ _ _=_; unfold ai; rw [if_pos rfl],rfl,hle2.trans hle3⟩
theorem b9.moved {E':Env} {k:Key} {fl:Bool} {rows:List (List AV)} {b o sz n:Nat} (hk:KE k E E') (ha:aX (a6 E fl) E'.h rows b o sz) (hn:n=rows.length):b9 E' (some (bw k (.arr fl sz rows))) (some (.blk b o sz n)):=by
  subst hn
  cases fl with
  | true=>exact ⟨⟨rfl,rfl⟩,ha.mono hk.fz⟩
  | false=>exact ⟨⟨rfl,by simp⟩,aX.kill (E:=E.ob) (E':=E'.ob) ha hk.ob rfl⟩
theorem aX.put {E1:Env} {h':Array Obj} {rows src rows':List (List AV)} {b o sz pp:Nat} {news:List Value} {us:Array Value} {ty:TypeId} (h0:0<sz) (hr:∀ r∈rows,r.length=sz) (hrs:∀ r∈src,r.length=sz)
    (hc:∀ (i:Nat) (row:List AV) (r:Nat) (c:AV),rows[i]?=some row→row[r]?=some c→∃ u,us[o + i * sz + r]?=some u∧VR E1 c u)
    (hnew:aO E1 src.flatten news) (hl:o + rows'.length * sz≤us.size)
    (hrows:∀ i,rows'[i]?=if pp≤i∧i<pp + src.length then src[i - pp]? else rows[i]?) (hb':h'[b]?=some (.cells (aZ us (o + pp * sz) news 0) ty (0,0))):aX E1 h' rows' b o sz:=by
  have hnl:news.length=src.length * sz:=by rw [← hnew.1,aL hrs]
  refine aX.of_rows h0 (fun r hx=>?_) hb' (by rw [ba]; exact hl) (fun i row r c h1 h2=>?_)
  · obtain ⟨i,hi⟩:=List.getElem?_of_mem hx
    rw [hrows] at hi
    split at hi
    · exact hrs r (List.mem_of_getElem? hi)
    · exact hr r (List.mem_of_getElem? hi)
  · rw [hrows] at h1
    rw [d_]
    simp only [Nat.add_zero]
    split at h1
    · rename_i hin
      have hrl:r<sz:=by rw [← hrs row (List.mem_of_getElem? h1)]; exact (List.getElem?_eq_some_iff.1 h2).1
      obtain ⟨u,hu,hv⟩:=hnew.rowget hrs h1 h2
      have e1:pp * sz + (i - pp) * sz=i * sz:=by rw [← Nat.add_mul]; congr 1; omega
      have e2:(i - pp) * sz + sz≤src.length * sz:=by rw [← Nat.succ_mul]; exact Nat.mul_le_mul_right sz (by omega)
      have hil:i * sz + sz≤rows'.length * sz:=by
        have:i<rows'.length:=by
          have:rows'[i]?=some row:=by rw [hrows,if_pos hin]; exact h1
          exact (List.getElem?_eq_some_iff.1 this).1
        rw [← Nat.succ_mul]; exact Nat.mul_le_mul_right sz this
      refine ⟨u,?_,hv⟩
      rw [if_pos (by omega),show o + i * sz + r - (o + pp * sz)=(i - pp) * sz + r by omega]
      exact hu
    · rename_i hin
      have hrl:r<sz:=by rw [← hr row (List.mem_of_getElem? h1)]; exact (List.getElem?_eq_some_iff.1 h2).1
      obtain ⟨u,hu,hv⟩:=hc i row r c h1 h2
      refine ⟨u,?_,hv⟩
      rw [if_neg (by
        rw [hnl]
        have e:i<pp∨pp + src.length≤i:=by omega
        rcases e with e | e
        · have:i * sz + sz≤pp * sz:=by rw [← Nat.succ_mul]; exact Nat.mul_le_mul_right sz e
          omega
        · have:(pp + src.length) * sz≤i * sz:=Nat.mul_le_mul_right sz e
          rw [Nat.add_mul] at this
          omega)]
      exact hu
end
theorem flags {E:Env} {fl fl':Bool} (h:(fl||!fl')=true):a6 E (fl'&&fl)=a6 E fl'∧∀ {cs:List AV} {us:List Value},aO (a6 E fl) cs us→aO (a6 E (fl'&&fl)) cs us:=by
  cases fl' with
  | true =>
    have:fl=true:=by simpa using h
    subst this
    exact ⟨rfl,fun h=>h⟩
  | false =>
    refine ⟨rfl,fun {cs us} h=>?_⟩
    cases fl with
    | false=>exact h
    | true=>exact ⟨h.1,fun m c u h1 h2=>(h.2 m c u h1 h2).fz_ob⟩
theorem bX (z:Array Value) (n:Nat):(Builtin.zeroCells z n).size=n * z.size:=by simp [Builtin.zeroCells]
section
variable {G:Gh} {pd:Nat→Option (List AV)} {E:Env} {S:St} {w:World} {P:Program} {o:Oper} {a:Act}
theorem mT {t0 t1 ty e:TypeId} {i:TypeInfo} (hu:P.underlying t0=some (.slice e)) (hi:P.info? e=some i) (hb0:0<i.bytes) (hz:xH i=true) {A:Option Addr} {L c n:Nat} {olds news:List Value} {ux:Value}
    (hold:(Builtin.firstCells i.size L (.slice A L c)).run P w.drew=.ok olds.toArray w.drew) (hol:olds.length=L * i.size) (hs:Src P i.size t1 ux n news w) (hg:c<L + n) (hbd:(L + n) * i.bytes≤140737488355328) :
    ∃ us' g w',(Builtin.append_ #[t0,t1] ty #[.slice A L c,ux]).run P w=.ok (.slice (some ⟨w.heap.size,0,none⟩) (L + n) g) w'∧w'.heap=w.heap.push (.cells us' e)∧w'.os=w.os∧w'.tape=w.tape∧w'.output=w.output ∧
      us'.size=g * i.size∧L + n≤g∧∀ (m:Nat) (v:Value),(olds++news)[m]?=some v→us'[m]?=some v:=by
  unfold xH at hz
  split at hz
  · rename_i z hzz
    have hzs:z.cells.size=i.size:=Nat.eq_of_beq_eq_true hz
    have hle:L + n≤(L + n) * i.bytes:=Nat.le_mul_of_pos_right _ hb0
    have:=run_append_grow_src (P:=P) w t0 t1 ty e i z hu hi hzz A L c olds hold ux n news hs hg (by omega) (growslice_fits hg hbd)
    have hge:=grownCap_ge w (L + n) c e
    refine ⟨_,_,_,this,rfl,rfl,rfl,rfl,?_,hge,fun m v hv=>?_⟩
    · rw [Array.size_append,bX,hzs]
      simp only [List.size_toArray,List.length_append,hol,hs.newsLen]
      rw [← Nat.add_mul,← Nat.add_mul]
      congr 1
      omega
    · have hm:=(List.getElem?_eq_some_iff.1 hv).1
      rw [Array.getElem?_append_left (by simpa using hm)]
      simpa using hv
  · cases hz
theorem rD {t0 t1 ty e:TypeId} {i:TypeInfo} (hu:P.underlying t0=some (.slice e)) (hi:P.info? e=some i) {b off L c n:Nat} {news:List Value} {ux:Value} {us:Array Value} {tb:TypeId}
    (hs:Src P i.size t1 ux n news w) (hroom:L + n≤c) (hb:w.heap[b]?=some (.cells us tb (0,0))) (hl:off + (L + n) * i.size≤us.size) :
    (Builtin.append_ #[t0,t1] ty #[.slice (some ⟨b,off,none⟩) L c,ux]).run P w=.ok (.slice (some ⟨b,off,none⟩) (L + n) c) (av w b (.cells (aZ us (off + L * i.size) news 0) tb (0,0))):=by
  have hst:=dO (P:=P) (b:=b) (off:=off + L * i.size) news 0 hb (fun v hv=>by
    have:=hs.one v hv
    revert this
    cases v <;> exact fun h=>h) (by rw [hs.newsLen]; rw [Nat.add_mul] at hl; omega)
  rcases hs.kind with ⟨e',hk⟩ | hk <;> simp [Builtin.append_,run_underlying hu,run_underlying hk,sizeOf,typeInfo,hi,hs.len,hroom,hs.cells,Addr.add_lit,hst]
def mU (P:Program) (G:Gh) (pd:Nat→Option (List AV)) (w:World) (a:Act) (m:Sem Value) (k:St→AV→Prop):Prop :=
  ∃ S' r z w' E',k S' r∧m.run P w=.ok z w'∧ad G pd E' S' w'∧TR G E' S'.t a∧VR E' r z
theorem lB {E':Env} {h:Array Obj} {rows src:List (List AV)} {olds news:List Value} {sz b n g:Nat} {us':Array Value} {e:TypeId} (h0:0<sz) (hr:∀ r∈rows,r.length=sz) (hrs:∀ r∈src,r.length=sz)
    (ho:aO E' rows.flatten olds) (hn:aO E' src.flatten news) (hb:h[b]?=some (.cells us' e)) (hg:rows.length + src.length≤g) (hsz:us'.size=g * sz) (hget:∀ (m:Nat) (v:Value),(olds++news)[m]?=some v→us'[m]?=some v) (hnn:n=rows.length + src.length) :
    aX E' h (rows++src) b 0 sz∧n=(rows++src).length:=by
  refine ⟨⟨h0,fun r hx=>?_,us',e,hb,?_,fun m c hc=>?_⟩,by simp [hnn]⟩
  · rcases List.mem_append.1 hx with hx | hx
    · exact hr r hx
    · exact hrs r hx
  · rw [List.length_append,hsz,Nat.zero_add]
    exact Nat.mul_le_mul_right _ hg
  · rw [List.flatten_append] at hc
    obtain ⟨u,hu,hv⟩:=(ho.append hn).get hc
    exact ⟨u,by rw [Nat.zero_add]; exact hget m u hu,hv⟩
section
variable {t0 t1 ty e:TypeId} {i:TypeInfo} {id:Nat} {fl fl':Bool} {rows src:List (List AV)} {news:List Value} {ub ux:Value} {k:St→AV→Prop}
theorem kU (hM:ad G pd E S w) (ht:TR G E S.t a) (hu:P.underlying t0=some (.slice e)) (hi:P.info? e=some i) (h0:0<i.size) (hb0:0<i.bytes) (hz:xH i=true) (hid:id<S.o.length) (hfl:(fl||!fl')=true)
    (hr:∀ r∈rows,r.length=i.size) (hrs:∀ r∈src,r.length=i.size) {A:Option Addr} {c:Nat} {olds:List Value} (hub:ub=.slice A rows.length c) (ho:aO (a6 E fl') rows.flatten olds)
    (hold:(Builtin.firstCells i.size rows.length ub).run P w.drew=.ok olds.toArray w.drew) (hs:Src P i.size t1 ux src.length news w) (hn:aO (a6 E fl) src.flatten news) (hg:c<rows.length + src.length)
    (hbd:(rows.length + src.length) * i.bytes≤140737488355328) (h:iW S id (.arr (fl'&&fl) i.size (rows++src)) fun S' id'=>k S' (.mf id')):mU P G pd w a (Builtin.append_ #[t0,t1] ty #[ub,ux]) k:=by
  subst hub
  obtain ⟨us',g,w',hrun,hheap,hos,htp,hou,hsz,hge,hget⟩:=mT (ty:=ty) hu hi hb0 hz hold (by rw [← ho.1,aL hr]) hs hg hbd
  rw [kT] at h
  obtain ⟨e1,e2⟩:=flags (E:=E) hfl
  have hnb:w'.heap[w.heap.size]?=some (.cells us' e):=by rw [hheap]; exact bu w _
  obtain ⟨ha,hlen⟩:=lB (E':=a6 E (fl'&&fl)) (h:=w'.heap) h0 hr hrs (by rw [e1]; exact ho) (e2 hn) hnb hge hsz hget rfl
  obtain ⟨E',h1,h2,h3,h4,h5⟩:=h_ hM ht hid (w':=w') (b:=w.heap.size) hos htp hou (by rw [hheap]; simp) (fun b' hb' _=>by rw [hheap,Array.getElem?_push,if_neg (by omega)]) (fun h=>by omega) (.inr rfl)
    (ob:=bw (.O id) (.arr (fl'&&fl) i.size (rows++src))) (mv:=.blk w.heap.size 0 i.size (rows.length + src.length)) (by cases (fl'&&fl) <;> rfl) (.inr ⟨_,_,_,_,rfl,by rw [hheap]; simp,.inl rfl⟩)
    (fun E' hk hh=>b9.moved hk (by rw [hh]; exact ha) hlen)
  refine ⟨_,_,_,_,E',h,hrun,h1,h2,.mf g h3 hge ?_⟩
  rw [h4]
  unfold au
  rw [hnb]
  simp [hsz]
theorem pw (hM:ad G pd E S w) (ht:TR G E S.t a) (hu:P.underlying t0=some (.slice e)) (hi:P.info? e=some i) (h0:0<i.size) (hid:id<S.o.length) (hfl:(fl||!fl')=true)
    (hrs:∀ r∈src,r.length=i.size) {b off c:Nat} (hub:ub=.slice (some ⟨b,off,none⟩) rows.length c) (ha:aX (a6 E fl') E.h rows b off i.size) (hc:off + c * i.size≤au E.h b)
    (hmu:∃ o s n,E.mu (.O id)=some (.blk b o s n)) (hs:Src P i.size t1 ux src.length news w) (hn:aO (a6 E fl) src.flatten news) (hg:rows.length + src.length≤c)
    (h:iW S id (.arr (fl'&&fl) i.size (rows++src)) fun S' id'=>k S' (.mf id')):mU P G pd w a (Builtin.append_ #[t0,t1] ty #[ub,ux]) k:=by
  subst hub
  obtain ⟨us,tb,hblk,hl,hget⟩:=ha.get
  rw [hM.hp] at hblk hc
  have hcs:off + c * i.size≤us.size:=by unfold au at hc; rw [hblk] at hc; exact hc
  have hcm:(rows.length + src.length) * i.size≤c * i.size:=Nat.mul_le_mul_right _ hg
  have hrun:=rD (ty:=ty) (off:=off) hu hi hs hg hblk (by omega)
  have hblt:b<w.heap.size:=(Array.getElem?_eq_some_iff.1 hblk).1
  rw [kT] at h
  obtain ⟨e1,e2⟩:=flags (E:=E) hfl
  have hnb:=bc (ob:=.cells (aZ us (off + rows.length * i.size) news 0) tb (0,0)) hblt
  have harr:aX (a6 E (fl'&&fl)) (av w b (.cells (aZ us (off + rows.length * i.size) news 0) tb (0,0))).heap (rows++src) b off i.size :=
    aX.put (pp:=rows.length) h0 ha.2.1 hrs (by rw [e1]; exact hget) (e2 hn) (by rw [List.length_append]; omega) (fun j=>by
      by_cases hj:j<rows.length
      · rw [List.getElem?_append_left hj,if_neg (by omega)]
      · rw [List.getElem?_append_right (by omega)]
        by_cases hj2:j<rows.length + src.length
        · rw [if_pos ⟨by omega,hj2⟩]
        · rw [if_neg (by omega),List.getElem?_eq_none (by omega),List.getElem?_eq_none (by omega)]) hnb
  obtain ⟨E',h1,h2,h3,h4,h5⟩:=h_ hM ht hid (w':=av w b (.cells (aZ us (off + rows.length * i.size) news 0) tb (0,0))) (b:=b) rfl rfl rfl (by simp [av])
    (fun b' hb' hne=>by
      simp only [av,Array.getElem?_setIfInBounds]
      rw [if_neg (fun e=>hne e.symm)]) (fun _=>by
      unfold au
      rw [hnb,hblk]
      simp [ba]) (.inl hmu)
    (ob:=bw (.O id) (.arr (fl'&&fl) i.size (rows++src))) (mv:=.blk b off i.size (rows.length + src.length)) (by cases (fl'&&fl) <;> rfl) (.inr ⟨_,_,_,_,rfl,by simpa [av] using hblt,.inl rfl⟩)
    (fun E' hk hh=>b9.moved hk (by rw [hh]; exact harr) (by simp))
  refine ⟨_,_,_,_,E',h,hrun,h1,h2,.mf c h3 hg ?_⟩
  rw [h4]
  unfold au
  rw [hnb]
  simpa [ba] using hcs
theorem uS (hM:ad G pd E S w) (ht:TR G E S.t a) (hu:P.underlying t0=some (.slice e)) (hi:P.info? e=some i) (hid:id<S.o.length) {A:Option Addr} (hub:ub=.slice A 0 0) (hs:Src P i.size t1 ux 0 news w)
    {f:Bool} (h:iW S id (.arr f i.size []) fun S' id'=>k S' (.mf id')):mU P G pd w a (Builtin.append_ #[t0,t1] ty #[ub,ux]) k:=by
  subst hub
  have hnews:news=[]:=List.eq_nil_of_length_eq_zero (by rw [hs.newsLen]; simp)
  subst hnews
  have hrun:=run_append_nothing (P:=P) w t0 t1 ty e i hu hi A 0 0 (Nat.le_refl _) ux hs
  rw [kT] at h
  obtain ⟨E',h1,h2,h3,h4,h5⟩:=h_ hM ht hid (w':=w) (b:=w.heap.size) rfl rfl rfl (Nat.le_refl _) (fun b' hb' _=>rfl) (fun _=>rfl) (.inr rfl)
    (ob:=bw (.O id) (.arr f i.size [])) (mv:=.virt) (by cases f <;> rfl) (.inl rfl) (fun E' hk hh=>by cases f <;> exact rfl)
  refine ⟨_,_,_,_,E',h,hrun,h1,h2,?_⟩
  cases A with
  | none=>exact .mfn h3
  | some a=>exact .mfe a h3
theorem jx (hM:ad G pd E S w) (ht:TR G E S.t a) (hu:P.underlying t0=some (.slice e)) (hi:P.info? e=some i) (h0:0<i.size) (hb0:0<i.bytes) (hz:xH i=true) (hrs:∀ r∈src,r.length=i.size)
    {A:Option Addr} (hub:ub=.slice A 0 0) (hs:Src P i.size t1 ux src.length news w) (hn:aO (a6 E fl) src.flatten news)
    (hbd:src.length * i.bytes≤140737488355328) (h:k { t:=S.t,l:=S.l,o:=S.o++[.arr fl i.size src],b:=S.b } (.mf S.o.length)):mU P G pd w a (Builtin.append_ #[t0,t1] ty #[ub,ux]) k:=by
  subst hub
  by_cases hsrc:src=[]
  · subst hsrc
    have hnews:news=[]:=List.eq_nil_of_length_eq_zero (by rw [hs.newsLen]; simp)
    subst hnews
    have hrun:=run_append_nothing (P:=P) w t0 t1 ty e i hu hi A 0 0 (Nat.le_refl _) ux hs
    obtain ⟨E',h1,h2,h3,h4,h5⟩:=jw hM ht (w':=w) rfl rfl rfl (Nat.le_refl _) (fun b' hb'=>rfl) (ob:=.arr fl i.size []) (mv:=.virt) rfl (.inl rfl) (fun E' hk hh=>rfl)
    refine ⟨_,_,_,_,E',h,hrun,h1,h2,?_⟩
    cases A with
    | none=>exact .mfn h3
    | some a=>exact .mfe a h3
  · have hpos:0<src.length:=List.length_pos_iff.2 hsrc
    have hold:(Builtin.firstCells i.size 0 (.slice A 0 0)).run P w.drew=.ok ([]:List Value).toArray w.drew:=by
      cases A with
      | none=>exact run_firstCells_none w.drew i.size 0 0 0
      | some a=>exact run_firstCells_some w.drew i.size 0 a 0 0 [] (by simp) (by intro _ _ h'; simp at h')
    obtain ⟨us',g,w',hrun,hheap,hos,htp,hou,hsz,hge,hget⟩:=mT (ty:=ty) (L:=0) (c:=0) hu hi hb0 hz hold (by simp) hs (by omega) (by simpa using hbd)
    have hnb:w'.heap[w.heap.size]?=some (.cells us' e):=by rw [hheap]; exact bu w _
    obtain ⟨ha,hlen⟩:=lB (E':=a6 E fl) (h:=w'.heap) (rows:=[]) (olds:=[]) h0 (fun r hr=>by cases hr) hrs (.nil _) hn hnb (by simpa using hge) hsz hget rfl
    obtain ⟨E',h1,h2,h3,h4,h5⟩:=jw hM ht (w':=w') hos htp hou (by rw [hheap]; simp) (fun b' hb'=>by rw [hheap,Array.getElem?_push,if_neg (by omega)])
      (ob:=.arr fl i.size src) (mv:=.blk w.heap.size 0 i.size (0 + src.length)) rfl (.inr ⟨_,_,_,_,rfl,by rw [hheap]; simp,Nat.le_refl _⟩)
      (fun E' hle hh=>⟨⟨rfl,by simp⟩,by
        rw [hh]
        cases fl with
        | true=>exact ha.mono hle.fz
        | false=>exact ha.mono hle.ob⟩)
    refine ⟨_,_,_,_,E',h,hrun,h1,h2,.mf g h3 hge ?_⟩
    rw [h4]
    unfold au
    rw [hnb]
    simp [hsz]
end
end
section
variable {G:Gh} {pd:Nat→Option (List AV)} {E:Env} {S:St} {w:World} {P:Program} {o:Oper} {a:Act}
theorem v3 {rows src:List (List AV)} {pp:Nat} (h:pp + src.length≤rows.length):(∀ i,(rows.take pp++(src++rows.drop (pp + src.length)))[i]?=if pp≤i∧i<pp + src.length then src[i - pp]? else rows[i]?) ∧
    (rows.take pp++(src++rows.drop (pp + src.length))).length=rows.length:=by
  refine ⟨fun i=>?_,by simp; omega⟩
  have ht:(rows.take pp).length=pp:=by simp; omega
  by_cases h1:i<pp
  · rw [List.getElem?_append_left (by omega),if_neg (by omega),List.getElem?_take,if_pos h1]
  · rw [List.getElem?_append_right (by omega),ht]
    by_cases h2:i<pp + src.length
    · rw [List.getElem?_append_left (by omega),if_pos ⟨by omega,h2⟩]
    · rw [List.getElem?_append_right (by omega),if_neg (by omega),List.getElem?_drop]
      congr 1
      omega
theorem mV {E:Env} {w:World} {sz:Nat} {fl:Bool} {rows:List (List AV)} {u:Value} (h:oy E w sz fl rows u) (hr:∀ r∈rows,r.length=sz) (P:Program) :
    ∃ A c olds,u=.slice A rows.length c∧aO (a6 E fl) rows.flatten olds∧(Builtin.firstCells sz rows.length u).run P w.drew=.ok olds.toArray w.drew:=by
  obtain ⟨A,c,us,h1,_,h3,_,_,h6⟩:=h.first (P:=P) hr
  exact ⟨A,c,us,h1,h3,h6 w.drew rfl⟩
theorem i3 {ts:List TypeId} {ty:TypeId} {bs x:AV} {ub ux:Value} {k:St→AV→Prop} (hM:ad G pd E S w) (ht:TR G E S.t a) (h:ei P ts bs x S k) (hb:VR E bs ub) (hx:VR E x ux) :
    ∃ t0 t1,ts=[t0,t1]∧mU P G pd w a (Builtin.append_ #[t0,t1] ty #[ub,ux]) k:=by
  unfold ei at h
  split at h
  · rename_i t0 t1
    refine ⟨t0,t1,rfl,?_⟩
    split at h
    · rename_i e hu
      split at h
      · rename_i i hi
        replace h:=ab h; obtain ⟨hc,h⟩:=h
        simp only [Bool.and_eq_true] at hc
        obtain ⟨⟨⟨hc1,hc2⟩,hz⟩,hc3⟩:=hc
        have h0:0<i.size:=Nat.le_of_ble_eq_true hc1
        have hb0:0<i.bytes:=Nat.le_of_ble_eq_true hc2
        have hk:(∃ e',P.underlying t1=some (.slice e'))∨P.underlying t1=some .string:=by
          revert hc3
          split
          · rename_i e' h'; exact fun _=>.inl ⟨e',h'⟩
          · rename_i h'; exact fun _=>.inr h'
          · intro h'; cases h'
        have hrk:=fL hM h hx
        clear h
        obtain ⟨fl,src,h,hrs,hsrc⟩:=hrk
        replace h:=ab h; obtain ⟨hok,h⟩:=h
        obtain ⟨news,hs,hn⟩:=v2 (P:=P) (E:=E) hk hrs hok hsrc
        split at h
        · replace h:=ab h; obtain ⟨hbd,h⟩:=h
          rw [ak] at h
          cases hb
          exact jx hM ht hu hi h0 hb0 hz hrs rfl hs hn (Nat.le_of_ble_eq_true hbd) h
        · replace h:=ab h; obtain ⟨hbd,h⟩:=h
          rw [ak] at h
          cases hb
          · exact jx hM ht hu hi h0 hb0 hz hrs rfl hs hn (Nat.le_of_ble_eq_true hbd) h
          · exact jx hM ht hu hi h0 hb0 hz hrs rfl hs hn (Nat.le_of_ble_eq_true hbd) h
        · rename_i id
          split at h
          · rename_i fl' sz rows hob
            replace h:=ab h; obtain ⟨hc,h⟩:=h
            simp only [Bool.and_eq_true] at hc
            obtain ⟨⟨hsz,hbd⟩,hfl⟩:=hc
            have hsz:=Nat.eq_of_beq_eq_true hsz
            have hbd:=Nat.le_of_ble_eq_true hbd
            subst hsz
            have hid:id<S.o.length:=(List.getElem?_eq_some_iff.1 hob).1
            obtain ⟨hsl,hr⟩:=vZ hM hob hb
            rcases cj hM hob with ⟨h1,h2⟩ | ⟨b,o,h1,h2⟩
            · subst h2
              have hcap:∃ A,ub=.slice A 0 0:=by
                cases hb with
                | mfn _=>exact ⟨_,rfl⟩
                | mfe a _=>exact ⟨_,rfl⟩
                | mf cap hm _ _=>rw [h1] at hm; cases hm
              obtain ⟨A,hA⟩:=hcap
              by_cases he:src=[]
              · subst he
                exact uS hM ht hu hi hid hA hs h
              · obtain ⟨A',c,olds,h3,h4,h5⟩:=mV hsl hr P
                rw [hA] at h3
                cases h3
                exact kU hM ht hu hi h0 hb0 hz hid hfl hr hrs hA h4 h5 hs hn (by have:=List.length_pos_iff.2 he; simpa using this) hbd h
            · cases hb with
              | mfn hm=>rw [h1] at hm; cases hm
              | mfe a hm=>rw [h1] at hm; cases hm
              | mf cap hm hn' hc' =>
                rw [h1] at hm
                cases hm
                by_cases hroom:rows.length + src.length≤cap
                · exact pw hM ht hu hi h0 hid hfl hrs rfl h2 hc' ⟨_,_,_,h1⟩ hs hn hroom h
                · obtain ⟨A',c,olds,h3,h4,h5⟩:=mV hsl hr P
                  cases h3
                  exact kU hM ht hu hi h0 hb0 hz hid hfl hr hrs rfl h4 h5 hs hn (by omega) hbd h
          · exact False.elim h
        · rename_i id off len ext
          split at h
          · rename_i fl' sz rows hob
            replace h:=ab h; obtain ⟨hc,h⟩:=h
            simp only [Bool.and_eq_true] at hc
            obtain ⟨hsz,hfl⟩:=hc
            have hsz:=Nat.eq_of_beq_eq_true hsz
            subst hsz
            have hid:id<S.o.length:=(List.getElem?_eq_some_iff.1 hob).1
            obtain ⟨hsl,hr⟩:=t9 hM hob hb
            obtain ⟨e1,e2⟩:=flags (E:=E) hfl
            have eflag:(fl'&&fl)=fl':=by revert hfl; cases fl' <;> cases fl <;> intro h <;> first | rfl | (cases h; done)
            split at h
            · rename_i hext
              have hext:=Nat.le_of_ble_eq_true hext
              replace h:=ab h; obtain ⟨hle,h⟩:=h
              have hle:=Nat.le_of_ble_eq_true hle
              rw [ak] at h
              cases hb with
              | msle _ A hm =>
                have hsn:src=[]:=List.eq_nil_of_length_eq_zero (by omega)
                subst hsn
                have hnews:news=[]:=List.eq_nil_of_length_eq_zero (by rw [hs.newsLen]; simp)
                subst hnews
                have hrun:=run_append_nothing (P:=P) w t0 t1 ty e i hu hi A 0 0 (Nat.le_refl _) ux hs
                have erows:S.o.set id (.arr (fl'&&fl) i.size (rows.take (off + 0)++([]++rows.drop (off + 0 + ([]:List (List AV)).length))))=S.o:=by
                  rw [eflag]
                  simp only [List.nil_append,List.length_nil,Nat.add_zero,List.take_append_drop]
                  apply List.ext_getElem?
                  intro j
                  rw [List.getElem?_set]
                  by_cases hj:id=j
                  · subst hj; rw [if_pos rfl,if_pos hid,hob]
                  · rw [if_neg hj]
                rw [erows] at h
                exact ⟨_,_,_,_,E,h,hrun,hM.congr rfl rfl rfl,ht,.msle off A hm⟩
              | msl _ _ _ cap hm h3 h4 h5 =>
                rename_i b o sz n
                rcases cj hM hob with ⟨g1,g2⟩ | ⟨b',o',g1,g2⟩
                · rw [g1] at hm; cases hm
                · rw [g1] at hm
                  cases hm
                  obtain ⟨us,tb,hblk,hl,hget⟩:=g2.get
                  rw [hM.hp] at hblk h5
                  have hcs:o + (off + cap) * i.size≤us.size:=by unfold au at h5; rw [hblk] at h5; exact h5
                  have hm1:(off + (len + src.length)) * i.size≤(off + cap) * i.size:=Nat.mul_le_mul_right _ (by omega)
                  rw [Nat.add_mul off] at hm1
                  have hrun:=rD (ty:=ty) (off:=o + off * i.size) (L:=len) (c:=cap) hu hi hs (by omega) hblk (by omega)
                  have hblt:b<w.heap.size:=(Array.getElem?_eq_some_iff.1 hblk).1
                  have hnb:=bc (ob:=.cells (aZ us (o + off * i.size + len * i.size) news 0) tb (0,0)) hblt
                  have hss:au (av w b (.cells (aZ us (o + off * i.size + len * i.size) news 0) tb (0,0))).heap b=au w.heap b:=by
                    unfold au
                    rw [hnb,hblk]
                    simp [ba]
                  obtain ⟨f1,f2⟩:=v3 (rows:=rows) (src:=src) (pp:=off + len) (by omega)
                  have hpos:o + (off + len) * i.size=o + off * i.size + len * i.size:=by rw [Nat.add_mul]; omega
                  have harr:=aX.put (E1:=a6 E (fl'&&fl)) (h':=(av w b (.cells (aZ us (o + off * i.size + len * i.size) news 0) tb (0,0))).heap) (pp:=off + len) h0 g2.2.1 hrs (by rw [e1]; exact hget) (e2 hn) (by rw [f2]; exact hl) f1 (by rw [hpos]; exact hnb)
                  have hle':=hM.setblk_le g1 hss
                  obtain ⟨_,hS⟩:=hM.setblk g1 hss (M':={ t:=S.t,l:=S.l,o:=S.o.set id (.arr (fl'&&fl) i.size (rows.take (off + len)++(src++rows.drop (off + len + src.length)))),b:=S.b })
                    (fun _ _=>rfl) (fun j hj=>by
                      show (S.o.set id _)[j]?=_
                      rw [List.getElem?_set,if_neg (fun e=>hj (by rw [e]))]) rfl (by simp) (fun d e=>by cases e) (fun j e=>by
                      cases e
                      rw [g1]
                      show b9 _ (S.o.set id _)[id]? _
                      rw [List.getElem?_set,if_pos rfl,if_pos hid]
                      refine ⟨⟨rfl,f2.symm⟩,?_⟩
                      cases hff:(fl'&&fl) with
                      | true=>rw [hff] at harr; exact harr.mono hle'.fz
                      | false=>rw [hff] at harr; exact harr.mono hle'.ob) (hM.ow_set hob rfl rfl rfl)
                  refine ⟨_,_,_,_,_,h,hrun,hS,ht.mono hle',.msl off (len + src.length) (ext - src.length) cap g1 (by omega) (by omega) ?_⟩
                  show _≤au (av _ _ _).heap b
                  rw [hss]
                  exact h5
            · rename_i hext
              have hext:¬ (src.length≤ext):=fun hh=>by rw [Nat.ble_eq_true_of_le hh] at hext; cases hext
              replace h:=ab h; obtain ⟨hbd,h⟩:=h
              have hbd:=Nat.le_of_ble_eq_true hbd
              obtain ⟨A',c,olds,h3,h4,h5⟩:=mV hsl hr P
              have hlen:((rows.drop off).take len).length=len:=by
                cases hb with
                | msle _ A hm=>simp
                | msl _ _ _ cap hm h6 h7 h8 =>
                  rcases cj hM hob with ⟨g1,g2⟩ | ⟨b',o',g1,g2⟩
                  · rw [g1] at hm; cases hm
                  · rw [g1] at hm
                    cases hm
                    simp
                    omega
              by_cases hroom:len + src.length≤c
              · cases hb with
                | msle _ A hm =>
                  have:=congrArg (fun v=>match v with | Value.slice _ _ c=>c | _=>0) h3
                  simp only at this
                  omega
                | msl _ _ _ cap hm h6 h7 h8 =>
                  rename_i b o sz n
                  injection h3 with q1 q2 q3
                  subst q3
                  rcases cj hM hob with ⟨g1,g2⟩ | ⟨b',o',g1,g2⟩
                  · rw [g1] at hm; cases hm
                  · rw [g1] at hm
                    cases hm
                    exact pw hM ht hu hi h0 hid hfl hrs (rows:=(rows.drop off).take len) (by rw [hlen]) (pj g2 (by omega)) (by rw [Nat.add_mul] at h8; omega) ⟨_,_,_,g1⟩ hs hn (by rw [hlen]; exact hroom) h
              · exact kU hM ht hu hi h0 hb0 hz hid hfl hr hrs h3 h4 h5 hs hn (by rw [hlen]; omega) (by rw [hlen]; exact hbd) h
          · exact False.elim h
        · exact False.elim h
      · exact False.elim h
    · exact False.elim h
  · exact False.elim h
def eH (m:Sem Value):Prop:=∀ (P:Program) (w:World) (z:Value) (w':World),m.run P w=.ok z w'→∃ B n k,z=.slice (some B) n k
theorem eH.bind {α:Type} {m:Sem α} {f:α→Sem Value} (h:∀ x,eH (f x)):eH (m >>= f):=by
  intro P w z w' hr
  rw [Sem.run_bind] at hr
  cases hm:m.run P w with
  | ok x w1=>rw [hm] at hr; exact h x P w1 z w' hr
  | halt x w1=>rw [hm] at hr; cases hr
theorem eH.ret {B:Addr} {n k:Nat}:eH (pure (.slice (some B) n k)):=fun P w z w' h=>by
  cases h
  exact ⟨_,_,_,rfl⟩
theorem eH.ite {p:Prop} [Decidable p] {a b:Sem Value} (h1:eH a) (h2:eH b):eH (if p then a else b):=by
  by_cases h:p
  · rw [if_pos h]; exact h1
  · rw [if_neg h]; exact h2
theorem eH.stuck {s:String}:eH (stuck s):=fun P w z w' h=>by cases h
theorem rE {t0 t1 ty:TypeId} {A:Addr} {l c:Nat} {x:Value}:eH (Builtin.append_ #[t0,t1] ty #[.slice (some A) l c,x]):=by
  unfold Builtin.append_
  have e0:(#[t0,t1]:Array TypeId)[0]?=some t0:=rfl
  have e1:(#[t0,t1]:Array TypeId)[1]?=some t1:=rfl
  have e2:(#[.slice (some A) l c,x]:Array Value)[0]?=some (.slice (some A) l c):=rfl
  have e3:(#[.slice (some A) l c,x]:Array Value)[1]?=some x:=rfl
  simp only [e0,e1,e2,e3]
  repeat (first | exact eH.ret | exact eH.stuck | refine eH.bind fun _=>?_ | refine eH.ite ?_ ?_ | split)
theorem wZ {E:Env} {r:AV} {z:Value} (hv:VR E r z) (h:∃ B n k,z=.slice (some B) n k):VR E (yO r) z:=by
  obtain ⟨B,n,k,rfl⟩:=h
  cases r <;> first | exact .bad _ _ | skip
  cases hv
  · exact .mfxe _ (by assumption)
  · exact .mfx _ (by assumption) (by assumption) (by assumption)
theorem qv {K:St→Prop} {c:Call} {x y:AV} {ub ux:Value} (hM:ad G pd E S w) (ht:TR G E S.t a) (ho:o.op=.call c) (hcal:c.callee=.builtin .append) (hargs:c.args.toList.map a.eval=[ub,ux]) (hx:VR E x ub) (hy:VR E y ux)
    (h:ei P c.argTypes.toList x y S fun S' r=>aA o.dst r S' K):bv P G pd o a w K:=by
  obtain ⟨t0,t1,hts,S',r,z,w',E',hk,hrun,hS,htr,hv⟩:=i3 (ty:=o.type) hM ht h hx hy
  have e1:c.argTypes=#[t0,t1]:=by apply Array.ext'; simpa using hts
  have e2:c.args.map a.eval=#[ub,ux]:=by apply Array.ext'; simpa using hargs
  rw [al] at hk
  intro next Q hn
  refine bk (z:=z) (w':=w') ?_ (hn _ E' _ w' hk (hS.congr aV aW a2) (htr.put hv))
  simp [execOp,ho,resolve,hcal,e1,e2,invoke,builtin,hrun]
theorem oC {K:St→Prop} {c:Call} {y:AV} {ub ux:Value} (hM:ad G pd E S w) (ht:TR G E S.t a) (ho:o.op=.call c) (hcal:c.callee=.builtin .append) (hargs:c.args.toList.map a.eval=[ub,ux]) (hx:VR E .ene ub) (hy:VR E y ux)
    (h:ei P c.argTypes.toList .esl y S fun S' r=>aA o.dst (yO r) S' K):bv P G pd o a w K:=by
  obtain ⟨A,rfl⟩:∃ A,ub=.slice (some A) 0 0:=by cases hx; exact ⟨_,rfl⟩
  obtain ⟨t0,t1,hts,S',r,z,w',E',hk,hrun,hS,htr,hv⟩:=i3 (ty:=o.type) hM ht h (.esl _ A) hy
  have hnz:=rE _ _ _ _ hrun
  have e1:c.argTypes=#[t0,t1]:=by apply Array.ext'; simpa using hts
  have e2:c.args.map a.eval=#[.slice (some A) 0 0,ux]:=by apply Array.ext'; simpa using hargs
  rw [al] at hk
  intro next Q hn
  refine bk (z:=z) (w':=w') ?_ (hn _ E' _ w' hk (hS.congr aV aW a2) (htr.put (wZ hv hnz)))
  simp [execOp,ho,resolve,hcal,e1,e2,invoke,builtin,hrun]
end
theorem rF {E:Env} {f g:Bool} {c:AV} {u:Value} (h:VR (a6 E f) c u):VR (a6 E (f&&g)) c u:=by
  cases f with
  | false=>exact h
  | true =>
    cases g with
    | true=>exact h
    | false=>exact h.fz_ob
theorem uT {E:Env} {f g:Bool} {cs:List AV} {us:List Value} (h:aO (a6 E g) cs us):aO (a6 E (f&&g)) cs us :=
  ⟨h.1,fun m c u h1 h2=>by
    have:=h.2 m c u h1 h2
    rw [Bool.and_comm]
    exact rF this⟩
theorem j5 {α:Type} {sz:Nat}:∀ {rows:List (List α)} (n:Nat),(∀ r∈rows,r.length=sz)→(rows.take n).flatten=rows.flatten.take (n * sz)
  | [],n,_=>by simp
  | r::rs,0,_=>by simp
  | r::rs,n + 1,h=>by
    have h0:=h r List.mem_cons_self
    rw [List.take_succ_cons,List.flatten_cons,List.flatten_cons,j5 n (fun r hr=>h r (List.mem_cons_of_mem _ hr)),Nat.succ_mul,List.take_append,h0]
    have:n * sz + sz - sz=n * sz:=by omega
    rw [this,List.take_of_length_le (l:=r) (by omega)]
section
variable {G:Gh} {pd:Nat→Option (List AV)} {E:Env} {S:St} {w:World} {P:Program} {o:Oper} {a:Act}
theorem oy.firstN {sz:Nat} {fl:Bool} {rows:List (List AV)} {u:Value} (h:oy E w sz fl rows u) (hr:∀ r∈rows,r.length=sz) (n:Nat) (hn:n≤rows.length) :
    ∃ us,aO (a6 E fl) (rows.take n).flatten us∧(Builtin.firstCells sz n u).run P w=.ok us.toArray w∧(Builtin.lenOf u).run P w=.ok rows.length w:=by
  obtain ⟨A,c,us,rfl,h1,h2,h3,h4⟩:=h
  refine ⟨us.take (n * sz),?_,?_,rfl⟩
  · rw [j5 n hr]
    exact h2.take _
  · cases A with
    | none =>
      have:=h3 rfl
      subst this
      have:us=[]:=List.eq_nil_of_length_eq_zero (by simpa using h2.1.symm)
      subst this
      simpa using run_firstCells_none (P:=P) w sz n 0 c
    | some a =>
      have hul:us.length=rows.length * sz:=by rw [← h2.1,aL hr]
      have hm:n * sz≤rows.length * sz:=Nat.mul_le_mul_right _ hn
      refine run_firstCells_some w sz n a rows.length c _ (by rw [List.length_take]; omega) (fun j v hv=>?_)
      rw [List.getElem?_take] at hv
      split at hv
      · exact h4 a rfl j v hv
      · cases hv
theorem ey {ts:Array TypeId} {t ty e:TypeId} {i:TypeInfo} (ht:ts[0]?=some t) (hu:P.underlying t=some (.slice e)) (hi:P.info? e=some i) {A:Option Addr} {L c N:Nat} {uy:Value} {news:List Value} {w':World}
    (hl:(Builtin.lenOf uy).run P w=.ok N w) (hf0:(Builtin.firstCells i.size (min N L) uy).run P w=.ok news.toArray w)
    (hs:match A with | none=>w'=w | some a=>(storeCells a news).run P w=.ok () w') :
    (Builtin.copy_ ts ty #[.slice A L c,uy]).run P w=.ok (.int .i64 ((min N L:Nat):Int)) w':=by
  have hf:(Builtin.firstCells i.size (Nat.min N L) uy).run P w=.ok news.toArray w:=hf0
  show _=Result.ok (Value.int .i64 ((Nat.min N L:Nat):Int)) w'
  unfold Builtin.copy_
  cases A with
  | none =>
    have hs':w'=w:=hs
    subst hs'
    simp [ht,run_underlying hu,hl,sizeOf,typeInfo,hi,hf,goInt]
  | some a =>
    have hs':(storeCells a news).run P w=.ok () w':=hs
    simp [ht,run_underlying hu,hl,sizeOf,typeInfo,hi,hf,goInt,hs']
theorem mW (hM:ad G pd E S w) (ht:TR G E S.t a) {id b off sz n:Nat} {fl' fl:Bool} {rows src rows':List (List AV)} {news:List Value} (hob:S.o[id]?=some (.arr fl' sz rows)) (hmu:E.mu (.O id)=some (.blk b off sz n)) (hn:n=rows.length)
    (ha:aX (a6 E fl') E.h rows b off sz) (hrs:∀ r∈src,r.length=sz) (hnew:aO (a6 E fl) src.flatten news) (hone:∀ v∈news,hU v=true) {pp:Nat} (hpp:pp + src.length≤rows.length)
    (hrows:∀ i,rows'[i]?=if pp≤i∧i<pp + src.length then src[i - pp]? else rows[i]?) (hlen:rows'.length=rows.length) :
    ∃ w' E',(storeCells ⟨b,off + pp * sz,none⟩ news).run P w=.ok () w'∧ad G pd E' { t:=S.t,l:=S.l,o:=S.o.set id (.arr (fl'&&fl) sz rows'),b:=S.b } w'∧TR G E' S.t a:=by
  obtain ⟨us,ty,hblk,hsz,hget⟩:=ha.get
  have h0:=ha.1
  rw [hM.hp] at hblk
  have hnl:news.length=src.length * sz:=by rw [← hnew.1,aL hrs]
  have hm:(pp + src.length) * sz≤rows.length * sz:=Nat.mul_le_mul_right _ hpp
  rw [Nat.add_mul] at hm
  have hblt:b<w.heap.size:=(Array.getElem?_eq_some_iff.1 hblk).1
  have hst:=dO (P:=P) (b:=b) (off:=off + pp * sz) news 0 hblk hone (by omega)
  have hs:au (av w b (.cells (aZ us (off + pp * sz) news 0) ty (0,0))).heap b=au w.heap b:=by
    unfold au
    rw [bc hblt,hblk]
    simp [ba]
  have hle':=hM.setblk_le hmu hs
  have hst2:aX (a6 ⟨E.F,E.mu,(av w b (.cells (aZ us (off + pp * sz) news 0) ty (0,0))).heap⟩ (fl'&&fl)) (av w b (.cells (aZ us (off + pp * sz) news 0) ty (0,0))).heap rows' b off sz:=by
    have mono:∀ {f:Bool} {c:AV} {u:Value},VR (a6 E f) c u→VR (a6 ⟨E.F,E.mu,(av w b (.cells (aZ us (off + pp * sz) news 0) ty (0,0))).heap⟩ f) c u:=by
      intro f c u h
      cases f with
      | true=>exact h.mono hle'.fz
      | false=>exact h.mono hle'.ob
    refine aX.put (pp:=pp) (src:=src) h0 ha.2.1 hrs (fun i row r c h1 h2=>?_) ⟨hnew.1,fun m c u h1 h2=>?_⟩ (by rw [hlen]; exact hsz) hrows (bc hblt)
    · obtain ⟨u,hu,hv⟩:=hget i row r c h1 h2
      exact ⟨u,hu,mono (rF hv)⟩
    · exact mono ((uT hnew).2 m c u h1 h2)
  obtain ⟨_,hS⟩:=hM.setblk hmu hs (M':={ t:=S.t,l:=S.l,o:=S.o.set id (.arr (fl'&&fl) sz rows'),b:=S.b })
    (fun _ _=>rfl) (fun e he=>by simp only [List.getElem?_set]; rw [if_neg (fun hd=>he (by rw [hd]))]) rfl (by simp)
    (fun e he=>by cases he)
    (fun e he=>by
      cases he
      have hlt:id<S.o.length:=(List.getElem?_eq_some_iff.1 hob).1
      show b9 _ (S.o.set id _)[id]? _
      rw [List.getElem?_set_self hlt,hmu]
      exact ⟨⟨rfl,by rw [hn,hlen]⟩,hst2⟩) (hM.ow_set hob rfl rfl rfl)
  exact ⟨_,_,hst,hS,ht.mono hle'⟩
theorem jy (hM:ad G pd E S w) {id sz:Nat} {fl fl':Bool} (hob:S.o[id]?=some (.arr fl sz [])) (hmu:E.mu (.O id)=some .virt):ad G pd E { t:=S.t,l:=S.l,o:=S.o.set id (.arr fl' sz []),b:=S.b } w:=by
  have hlt:id<S.o.length:=(List.getElem?_eq_some_iff.1 hob).1
  refine ⟨hM.hp,hM.os,hM.tape,hM.output,hM.size,hM.keep,hM.F0,hM.Flt,hM.Fnew,hM.own,hM.inj,hM.loc,fun i=>?_,fun i hi=>?_,by simpa using hM.bl,hM.szs,hM.pk,fun i=>?_⟩
  · show b9 E (S.o.set id _)[i]? _
    by_cases he:id=i
    · subst he
      rw [List.getElem?_set_self hlt,hmu]
      rfl
    · rw [List.getElem?_set,if_neg he]
      exact hM.obj i
  · show (S.o.set id _)[i]?=_∨_
    by_cases he:id=i
    · subst he
      rcases hM.old id hi with h | h
      · rw [hob] at h; cases h
      · exact .inr h
    · rw [List.getElem?_set,if_neg he]
      exact hM.old i hi
  · show bi E i (S.o.set id _)[i]?
    by_cases he:id=i
    · subst he
      exact hM.ow_set hob rfl rfl rfl _ (.inl rfl)
    · rw [List.getElem?_set,if_neg he]
      exact hM.ow i
theorem rG {ts:Array TypeId} {ty:TypeId} {x y:AV} {ux uy:Value} {k:AV→St→Prop} (hM:ad G pd E S w) (ht:TR G E S.t a) (h:ll P ts.toList x y S k) (hx:VR E x ux) (hy:VR E y uy) :
    ∃ r z S' w' E',k r S'∧(Builtin.copy_ ts ty #[ux,uy]).run P w=.ok z w'∧ad G pd E' S' w'∧TR G E' S'.t a∧VR E' r z:=by
  unfold ll at h
  split at h
  · rename_i t l hts
    have ht0:ts[0]?=some t:=by rw [← Array.getElem?_toList,hts]; rfl
    split at h
    · rename_i e hu
      split at h
      · rename_i i hi
        replace h:=ab h; obtain ⟨hb0,h⟩:=h
        have h0:0<i.size:=Nat.le_of_ble_eq_true hb0
        have hbad:y≠.bad:=fun e=>by subst e; exact h
        have hrk:=fL hM h hy
        clear h
        obtain ⟨fl,src,h,hrs,hsrc⟩:=hrk
        replace h:=ab h; obtain ⟨hok,h⟩:=h
        simp only [Bool.and_eq_true] at hok
        obtain ⟨hok,hnv⟩:=hok
        have hstr:∀ s,uy=.string s→False:=by
          rintro s rfl
          cases hy with
          | bad=>exact hbad rfl
          | v _ _ _=>simp [yJ] at hnv
        have first:∀ n,n≤src.length→∃ us,aO (a6 E fl) (src.take n).flatten us∧(Builtin.firstCells i.size n uy).run P w=.ok us.toArray w∧(Builtin.lenOf uy).run P w=.ok src.length w:=by
          intro n hn
          rcases hsrc with hsrc | ⟨s,rfl,h2,rfl,h4,h5⟩
          · exact hsrc.firstN hrs n hn
          · exact (hstr s rfl).elim
        have one:∀ n us,aO (a6 E fl) (src.take n).flatten us→∀ v∈us,hU v=true:=by
          intro n us hv v hm
          have:=gA (src:=src.take n) (by
            unfold e5 at hok ⊢
            rw [List.all_eq_true] at hok ⊢
            exact fun r hr=>hok r (List.mem_of_mem_take hr)) hv v hm
          revert this
          cases v <;> exact fun h=>h
        have hmin:∀ m,min src.length m≤src.length:=fun m=>Nat.min_le_left _ _
        split at h
        · rename_i id
          split at h
          · rename_i fl' sz rows hob
            replace h:=ab h; obtain ⟨hsz,h⟩:=h
            have:=Nat.eq_of_beq_eq_true hsz
            subst this
            rw [ak] at h
            obtain ⟨us,hv,hf,hl⟩:=first _ (hmin rows.length)
            rcases cj hM hob with ⟨h1,rfl⟩ | ⟨b,off,h1,ha⟩
            · have hz:us=[]:=List.eq_nil_of_length_eq_zero (by rw [← hv.1]; simp)
              subst hz
              have e1:src.take ([]:List (List AV)).length++([]:List (List AV)).drop src.length=[]:=by simp
              rw [e1] at h
              have hS:=jy (fl':=fl'&&fl) hM hob h1
              cases hx with
              | mfn hm=>exact ⟨_,_,_,w,E,h,ey ht0 hu hi hl hf rfl,hS,ht,.v _ _ rfl⟩
              | mfe a hm=>exact ⟨_,_,_,w,E,h,ey ht0 hu hi hl hf (by simp [storeCells]),hS,ht,.v _ _ rfl⟩
              | mf cap hm _ _=>rw [h1] at hm; cases hm
            · cases hx with
              | mfn hm=>rw [h1] at hm; cases hm
              | mfe a hm=>rw [h1] at hm; cases hm
              | mf cap hm _ _ =>
                rw [h1] at hm
                cases hm
                obtain ⟨w',E',hst,hS,htr⟩:=mW (P:=P) (src:=src.take (min src.length rows.length)) (rows':=src.take rows.length++rows.drop src.length) (pp:=0) hM ht hob h1 rfl ha (fun r hr=>hrs r (List.mem_of_mem_take hr)) hv (one _ _ hv)
                  (by rw [List.length_take]; omega) (fun j=>by
                    rw [List.length_take,List.getElem?_append,List.length_take,List.getElem?_take,List.getElem?_take,List.getElem?_drop]
                    simp only [Nat.sub_zero,Nat.zero_le,true_and,Nat.zero_add]
                    by_cases hj:j<min rows.length src.length
                    · rw [if_pos hj,if_pos (by omega),if_pos (by omega),if_pos (by show j<min src.length rows.length; omega)]
                    · rw [if_neg hj,if_neg (by show ¬ j<min (min src.length rows.length) src.length; omega)]
                      by_cases hj2:rows.length≤src.length
                      · rw [List.getElem?_eq_none (by omega),List.getElem?_eq_none (by omega)]
                      · congr 1
                        omega) (by rw [List.length_append,List.length_take,List.length_drop]; omega)
                simp only [Nat.zero_mul,Nat.add_zero] at hst
                exact ⟨_,_,_,w',E',h,ey ht0 hu hi hl hf hst,hS,htr,.v _ _ rfl⟩
          · exact False.elim h
        · rename_i id off len ext
          split at h
          · rename_i fl' sz rows hob
            replace h:=ab h; obtain ⟨hc,h⟩:=h
            simp only [Bool.and_eq_true] at hc
            have:=Nat.eq_of_beq_eq_true hc.1
            subst this
            have hle:=Nat.le_of_ble_eq_true hc.2
            rw [ak] at h
            obtain ⟨us,hv,hf,hl⟩:=first _ (hmin len)
            have hrl:∀ j,(rows.take off++(src.take len++rows.drop (off + min src.length len)))[j]?=if off≤j∧j<off + (src.take (min src.length len)).length then (src.take (min src.length len))[j - off]? else rows[j]?:=by
              intro j
              have e1:(rows.take off).length=off:=by rw [List.length_take]; omega
              have e2:(src.take (min src.length len)).length=min src.length len:=by rw [List.length_take]; show min (min src.length len) src.length=_; omega
              rw [List.getElem?_append,e1,e2]
              by_cases hj:j<off
              · rw [if_pos hj,if_neg (by omega),List.getElem?_take,if_pos hj]
              · rw [if_neg hj,List.getElem?_append,List.length_take,List.getElem?_take,List.getElem?_take,List.getElem?_drop]
                by_cases hj2:j - off<min len src.length
                · rw [if_pos hj2,if_pos (by omega),if_pos (by omega),if_pos (by show j - off<min src.length len; omega)]
                · rw [if_neg hj2,if_neg (by omega)]
                  congr 1
                  omega
            have hrlen:(rows.take off++(src.take len++rows.drop (off + min src.length len))).length=rows.length:=by
              rw [List.length_append,List.length_append,List.length_take,List.length_take,List.length_drop]
              omega
            rcases cj hM hob with ⟨h1,rfl⟩ | ⟨b,o',h1,ha⟩
            · cases hx with
              | msle off a hm =>
                have hz:us=[]:=List.eq_nil_of_length_eq_zero (by rw [← hv.1]; simp)
                subst hz
                have e0:(([]:List (List AV)).take off++(src.take 0++([]:List (List AV)).drop (off + min src.length 0)))=[]:=by simp
                rw [e0] at h
                have hS:=jy (fl':=fl'&&fl) hM hob h1
                cases a with
                | none=>exact ⟨_,_,_,w,E,h,ey ht0 hu hi hl hf rfl,hS,ht,.v _ _ rfl⟩
                | some a=>exact ⟨_,_,_,w,E,h,ey ht0 hu hi hl hf (by simp [storeCells]),hS,ht,.v _ _ rfl⟩
              | msl _ _ _ cap hm _ _ _=>rw [h1] at hm; cases hm
            · obtain ⟨w',E',hst,hS,htr⟩:=mW (P:=P) (pp:=off) hM ht hob h1 rfl ha (fun r hr=>hrs r (List.mem_of_mem_take hr)) hv (one _ _ hv)
                (by rw [List.length_take]; show off + min (min src.length len) src.length≤_; omega) hrl hrlen
              cases hx with
              | msle off a hm =>
                have hz:us=[]:=List.eq_nil_of_length_eq_zero (by rw [← hv.1]; simp)
                subst hz
                have hw:w'=w:=by simp [storeCells] at hst; exact hst.symm
                subst hw
                cases a with
                | none=>exact ⟨_,_,_,w',E',h,ey ht0 hu hi hl hf rfl,hS,htr,.v _ _ rfl⟩
                | some a=>exact ⟨_,_,_,w',E',h,ey ht0 hu hi hl hf (by simp [storeCells]),hS,htr,.v _ _ rfl⟩
              | msl _ _ _ cap hm _ _ _ =>
                rw [h1] at hm
                cases hm
                exact ⟨_,_,_,w',E',h,ey ht0 hu hi hl hf hst,hS,htr,.v _ _ rfl⟩
          · exact False.elim h
        · exact False.elim h
      · exact False.elim h
    · exact False.elim h
  · exact False.elim h
theorem s4 {K:St→Prop} {c:Call} {x y:AV} {ub ux:Value} (hM:ad G pd E S w) (ht:TR G E S.t a) (ho:o.op=.call c) (hcal:c.callee=.builtin .copy) (hargs:c.args.toList.map a.eval=[ub,ux]) (hx:VR E x ub) (hy:VR E y ux)
    (h:ll P c.argTypes.toList x y S fun r S'=>aA o.dst r S' K):bv P G pd o a w K:=by
  obtain ⟨r,z,S',w',E',hk,hrun,hS,htr,hv⟩:=rG (ty:=o.type) hM ht h hx hy
  have e2:c.args.map a.eval=#[ub,ux]:=by apply Array.ext'; simpa using hargs
  rw [al] at hk
  intro next Q hn
  refine bk (z:=z) (w':=w') ?_ (hn _ E' _ w' hk (hS.congr aV aW a2) (htr.put hv))
  simp [execOp,ho,resolve,hcal,e2,invoke,builtin,hrun]
end
section
variable {G:Gh} {pd:Nat→Option (List AV)} {E:Env} {S:St} {w:World} {P:Program} {o:Oper} {a:Act}
theorem rH {t0 t1 ty e:TypeId} {i:TypeInfo} {z:Value} {kd:IntKind} {n:Int} (hu:P.underlying t0=some (.slice e)) (hu1:P.underlying t1=some (.int kd)) (hi:P.info? e=some i) (hz:i.zero=some z) (hzs:z.cells.size=i.size) (h0:0<i.size) (_hb0:0<i.bytes)
    (hn:0<n) (hnb:n * i.bytes≤140737488355328) (hn2:n≤140737488355328) (A:Option Addr) (k:IntKind) :
    ∃ us g w',(Builtin.append_ #[t0,t1] ty #[.slice A 0 0,.int k n]).run P w=.ok (.slice (some ⟨w.heap.size,0,none⟩) n.toNat g) w'∧w'.heap=w.heap.push (.cells us e)∧w'.os=w.os∧w'.tape=w.tape∧w'.output=w.output ∧
      us.size=g * i.size∧n.toNat≤g∧∀ m,m<us.size→us[m]?=z.cells[m % i.size]?:=by
  have hw1:IntKind.i64.wrap n=n:=j4 (by omega) (by omega)
  have hnn:((n.toNat:Nat):Int)=n:=Int.toNat_of_nonneg (by omega)
  have hng:¬ (n<0):=by omega
  have hb48:¬ (281474976710656<n * i.bytes):=by omega
  have hfit:¬ (281474976710656<Builtin.nextslicecap n.toNat 0 * i.bytes):=by
    have hnb':n.toNat * i.bytes≤140737488355328:=by
      have:((n.toNat * i.bytes:Nat):Int)≤140737488355328:=by rw [Int.natCast_mul,hnn]; exact hnb
      omega
    have:=growslice_fits (need:=n.toNat) (old:=0) (bytes:=i.bytes) (by omega) hnb'
    omega
  have hne:¬ (n.toNat * i.size=0):=Nat.mul_ne_zero (by omega) (by omega)
  have hge:=grownCap_ge w n.toNat 0 e
  have hold:(Builtin.firstCells i.size 0 (.slice A 0 0)).run P w.drew=.ok ([]:List Value).toArray w.drew:=by
    cases A with
    | none=>exact run_firstCells_none w.drew i.size 0 0 0
    | some a=>exact run_firstCells_some w.drew i.size 0 a 0 0 [] (by simp) (by intro _ _ h'; simp at h')
  refine ⟨Builtin.zeroCells z.cells n.toNat++Builtin.zeroCells z.cells (grownCap w n.toNat 0 e - n.toNat),grownCap w n.toNat 0 e,w.drew.alloc (.cells (Builtin.zeroCells z.cells n.toNat++Builtin.zeroCells z.cells (grownCap w n.toNat 0 e - n.toNat)) e),?_,rfl,rfl,rfl,rfl,?_,hge,?_⟩
  · have hn0:¬ (n≤0):=by omega
    have hmax:¬ ((9223372036854775807:Int)<max n 0):=by omega
    have h48':¬ ((2:Int) ^ 48<n * i.bytes):=by
      have:((2:Int) ^ 48)=281474976710656:=by decide
      omega
    simp [Builtin.append_,run_underlying hu,run_underlying hu1,sizeOf,typeInfo,zeroValue,hi,hz,asInt,asIntOf,hw1,hng,hb48,hne,hfit,Question.forced,hold,newRow,grownCap,hn0,hmax]
  · rw [Array.size_append,bX,bX,hzs,← Nat.add_mul]
    congr 1
    omega
  · intro m hm
    have zc:∀ (q j:Nat),j<q * i.size→(Builtin.zeroCells z.cells q)[j]?=z.cells[j % i.size]?:=by
      intro q j hj
      have hml:j % i.size<z.cells.size:=by rw [hzs]; exact Nat.mod_lt _ h0
      unfold Builtin.zeroCells
      rw [Array.getElem?_map,hzs,Array.getElem?_range,if_pos hj,Option.map_some,Array.getElem?_eq_getElem hml,getElem!_pos z.cells _ hml]
    rw [Array.size_append,bX,bX,hzs] at hm
    rw [Array.getElem?_append,bX,hzs]
    by_cases hj:m<n.toNat * i.size
    · rw [if_pos hj,zc _ _ hj]
    · rw [if_neg hj,zc _ _ (by omega)]
      congr 1
      rw [← Nat.mul_comm i.size,Nat.sub_mul_mod (by rw [Nat.mul_comm]; omega)]
theorem oD {K:St→Prop} {c:Call} {kd:IntKind} {n:Int} {x:AV} {ub:Value} (hM:ad G pd E S w) (ht:TR G E S.t a) (ho:o.op=.call c) (hcal:c.callee=.builtin .append) (hargs:c.args.toList.map a.eval=[ub,.int kd n]) (hx:VR E x ub)
    (h:e7 P c.argTypes.toList x n S fun S' r=>aA o.dst r S' K):bv P G pd o a w K:=by
  unfold e7 at h
  split at h
  · rename_i t0 t1 hts
    split at h
    · rename_i e k1 hu hu1
      split at h
      · rename_i i hi
        replace h:=ab h; obtain ⟨hb,h⟩:=h
        simp only [Bool.and_eq_true,decide_eq_true_eq] at hb
        obtain ⟨⟨⟨⟨hb1,hb2⟩,hb3⟩,hb4⟩,hb5⟩:=hb
        have h0:0<i.size:=Nat.le_of_ble_eq_true hb1
        obtain ⟨i',z,cs,hi',hz,hzs,h,hcs⟩:=bf h
        rw [hi] at hi'
        cases hi'
        replace h:=ab h; obtain ⟨hrf,h⟩:=h
        have hcl:cs.length=i.size:=by have:=(hcs E).1; simpa [hzs] using this
        have base:∀ (A:Option Addr),ub=.slice A 0 0→(ay (S.o++[.arr true i.size (List.replicate n.toNat cs)]) fun o'=>aA o.dst (.mf S.o.length) { t:=S.t,l:=S.l,o:=o',b:=S.b } K)→bv P G pd o a w K:=by
          intro A hub h
          subst hub
          rw [ak,al] at h
          obtain ⟨us,g,w',hrun,hheap,hos,htp,hou,hsz,hge,hget⟩:=rH (w:=w) (ty:=o.type) hu hu1 hi hz hzs h0 (Nat.le_of_ble_eq_true hb2) hb3 hb4 hb5 A kd
          have hnb:w'.heap[w.heap.size]?=some (.cells us e):=by rw [hheap]; exact bu w _
          obtain ⟨E',h1,h2,h3,h4,h5⟩:=jw hM ht (w':=w') hos htp hou (by rw [hheap]; simp) (fun b' hb'=>by rw [hheap,Array.getElem?_push,if_neg (by omega)])
            (ob:=.arr true i.size (List.replicate n.toNat cs)) (mv:=.blk w.heap.size 0 i.size n.toNat) rfl (.inr ⟨_,_,_,_,rfl,by rw [hheap]; simp,Nat.le_refl _⟩)
            (fun E' hle hh=>⟨⟨rfl,by simp⟩,by
              rw [hh]
              have hm:n.toNat * i.size≤us.size:=by rw [hsz]; exact Nat.mul_le_mul_right _ hge
              refine aX.of_rows h0 (fun r hr=>by rw [List.eq_of_mem_replicate hr]; exact hcl) hnb (by rw [List.length_replicate]; omega) (fun j row r c' h6 h7=>?_)
              have hjl:j<n.toNat:=by
                have:=(List.getElem?_eq_some_iff.1 h6).1
                simpa using this
              rw [List.getElem?_replicate,if_pos hjl] at h6
              cases h6
              have hrl:r<i.size:=by rw [← hcl]; exact (List.getElem?_eq_some_iff.1 h7).1
              have hjm:j * i.size + i.size≤n.toNat * i.size:=by rw [← Nat.succ_mul]; exact Nat.mul_le_mul_right _ hjl
              obtain ⟨u,hu',hv⟩:=(hcs E'.fz).get h7
              refine ⟨u,?_,hv⟩
              rw [hget _ (by omega)]
              have e1:(0 + j * i.size + r) % i.size=r:=by
                rw [Nat.zero_add,Nat.add_comm,Nat.add_mul_mod_self_right,Nat.mod_eq_of_lt hrl]
              rw [e1,← Array.getElem?_toList]
              exact hu'⟩)
          have e1:c.argTypes=#[t0,t1]:=by apply Array.ext'; simpa using hts
          have e2:c.args.map a.eval=#[.slice A 0 0,.int kd n]:=by apply Array.ext'; simpa using hargs
          intro next Q hn
          refine bk (z:=.slice (some ⟨w.heap.size,0,none⟩) n.toNat g) (w':=w') ?_ (hn _ E' _ w' h (h1.congr aV aW a2) (TR.put (S:={ t:=S.t,l:=S.l,o:=S.o++[.arr true i.size (List.replicate n.toNat cs)],b:=S.b }) h2 (.mf g h3 hge ?_)))
          · simp [execOp,ho,resolve,hcal,e1,e2,invoke,builtin,hrun]
          · rw [h4]
            unfold au
            rw [hnb]
            simp [hsz]
        split at h
        · cases hx; exact base _ rfl h
        · cases hx
          · exact base _ rfl h
          · exact base _ rfl h
        · exact False.elim h
      · exact False.elim h
    · exact False.elim h
  · exact False.elim h
end
theorem uU {size:Nat} {S:St} {x:AV} {k:Bool→List (List AV)→Prop} (h:eq size yI x k):eq size S x k:=by
  unfold eq at h ⊢
  split at h
  · exact h
  · exact h
  · exact h
  · exact False.elim h
  · exact False.elim h
  · exact h
  · unfold om yI at h
    simp only [List.getElem?_nil] at h
    exact False.elim h
  · exact False.elim h
section
variable {G:Gh} {pd:Nat→Option (List AV)} {E:Env} {S:St} {w:World} {P:Program} {o:Oper} {a:Act}
theorem mX {ts:List TypeId} {ty:TypeId} {bs x:AV} {ub ux:Value} {k:AV→Prop} (hM:ad G pd E S w) (h:e6 P ts bs x k) (hb:VR E bs ub) (hx:VR E x ux) :
    ∃ t0 t1,ts=[t0,t1]∧∃ r z w' F',k r∧(Builtin.append_ #[t0,t1] ty #[ub,ux]).run P w=.ok z w'∧Below w.heap.size w w'∧(∀ b,E.F b→F' b)∧(∀ b,F' b→b<w'.heap.size)∧(∀ b,F' b→b<w.heap.size→E.F b) ∧
      VR ⟨F',E.mu,w'.heap⟩ r z:=by
  unfold e6 at h
  split at h
  · rename_i t0 t1
    refine ⟨t0,t1,rfl,?_⟩
    split at h
    · rename_i e hu
      split at h
      · rename_i i hi
        replace h:=ab h; obtain ⟨hc,h⟩:=h
        simp only [Bool.and_eq_true] at hc
        obtain ⟨⟨⟨hc1,hc2⟩,hz⟩,hc3⟩:=hc
        have h0:0<i.size:=Nat.le_of_ble_eq_true hc1
        have hb0:0<i.bytes:=Nat.le_of_ble_eq_true hc2
        have hk:(∃ e',P.underlying t1=some (.slice e'))∨P.underlying t1=some .string:=by
          revert hc3
          split
          · rename_i e' h'; exact fun _=>.inl ⟨e',h'⟩
          · rename_i h'; exact fun _=>.inr h'
          · intro h'; cases h'
        have hrk:=fL hM (uU (S:=S) h) hx
        clear h
        obtain ⟨fl,src,h,hrs,hsrc⟩:=hrk
        replace h:=ab h; obtain ⟨hok,h⟩:=h
        simp only [Bool.and_eq_true] at hok
        obtain ⟨⟨hfl,hok⟩,hbd⟩:=hok
        subst hfl
        have hbd:=Nat.le_of_ble_eq_true hbd
        obtain ⟨news,hs,hn⟩:=v2 (P:=P) (E:=E) hk hrs hok hsrc
        have hub:∃ A,ub=.slice A 0 0∧k (.sl src):=by
          split at h
          · cases hb; exact ⟨_,rfl,h⟩
          · cases hb <;> exact ⟨_,rfl,h⟩
          · exact False.elim h
        clear h
        obtain ⟨A,rfl,h⟩:=hub
        by_cases hsr:src=[]
        · subst hsr
          have hnews:news=[]:=List.eq_nil_of_length_eq_zero (by rw [hs.newsLen]; simp)
          subst hnews
          have hrun:=run_append_nothing (P:=P) w t0 t1 ty e i hu hi A 0 0 (Nat.le_refl _) ux hs
          refine ⟨_,_,_,E.F,h,hrun,.refl _ _,fun _ h=>h,hM.Flt,fun _ h _=>h,?_⟩
          cases A with
          | none=>exact .sln _
          | some a=>exact .sle _ a 0
        · have hpos:0<src.length:=List.length_pos_iff.2 hsr
          have hold:(Builtin.firstCells i.size 0 (.slice A 0 0)).run P w.drew=.ok ([]:List Value).toArray w.drew:=by
            cases A with
            | none=>exact run_firstCells_none w.drew i.size 0 0 0
            | some a=>exact run_firstCells_some w.drew i.size 0 a 0 0 [] (by simp) (by intro _ _ h'; simp at h')
          obtain ⟨us',g,w',hrun,hheap,hos,htp,hou,hsz,hge,hget⟩:=mT (ty:=ty) (L:=0) (c:=0) hu hi hb0 hz hold (by simp) hs (by omega) (by simpa using hbd)
          have hbl:Below w.heap.size w w':=⟨hos,htp,hou,by rw [hheap]; simp,fun b hb'=>by rw [hheap,Array.getElem?_push,if_neg (by omega)]⟩
          have hnb:w'.heap[w.heap.size]?=some (.cells us' e):=by rw [hheap]; exact bu w _
          have hn':aO E.fz src.flatten news:=hn
          rw [Nat.zero_add] at hrun
          refine ⟨_,_,_,fun b=>E.F b∨b=w.heap.size,h,hrun,hbl,fun _ h=>.inl h,fun b hb'=>?_,fun b hb' hlt=>?_,?_⟩
          · rcases hb' with hb' | rfl
            · exact Nat.lt_of_lt_of_le (hM.Flt b hb') hbl.size
            · rw [hheap]; simp
          · rcases hb' with hb' | rfl
            · exact hb'
            · exact absurd hlt (Nat.lt_irrefl _)
          · refine .sl news h0 hrs hn'.1.symm (fun m c u h1 h2=>?_) (.inr rfl) (fun m u hm=>?_) (by omega)
            · refine (hn'.2 m c u h1 h2).mono ⟨fun _ h=>.inl h,fun _ _ _ h=>(by cases h),fun b hb'=>?_,fun _ _ _ _ _ _ h=>(by cases h)⟩
              show w'.heap[b]?=E.h[b]?
              rw [hM.hp]
              exact hbl.block b (hM.Flt b hb')
            · show bq w'.heap _ _=_
              unfold bq
              rw [hnb]
              show us'[0 + m]?=some u
              rw [Nat.zero_add]
              exact hget m u (by simpa using hm)
      · exact False.elim h
    · exact False.elim h
  · exact False.elim h
theorem qw {t:TypeId} {X Y:Operand} {l c:AV} {k:AV→Prop} (hM:ad G pd E S w) (ho:o.op=.makeSlice t X Y) (h:mI P t l c k) (hl:VR E l (a.eval X)) (hc:VR E c (a.eval Y)) :
    ∃ r z w' F',k r∧(execOp a.eval o).run P w=.ok (.value z) w'∧Below w.heap.size w w'∧(∀ b,E.F b→F' b)∧(∀ b,F' b→b<w'.heap.size)∧(∀ b,F' b→b<w.heap.size→E.F b) ∧
      VR ⟨F',E.mu,w'.heap⟩ r z:=by
  unfold mI aJ at h
  split at h
  · rename_i e hu
    split at h
    · rename_i i hi
      replace h:=aI h hl
      obtain ⟨kl,nl,el,h⟩:=h
      replace h:=aI h hc
      obtain ⟨kc,nc,ec,h⟩:=h
      replace h:=ab h; obtain ⟨hb,h⟩:=h
      simp only [Bool.and_eq_true,decide_eq_true_eq] at hb
      obtain ⟨⟨⟨⟨h1,h2⟩,h3⟩,h4⟩,h5⟩:=hb
      have h0:0<i.size:=Nat.le_of_ble_eq_true h5
      obtain ⟨i',z,cs,hi',hz,hzs,h,hcs⟩:=bf h
      rw [hi] at hi'
      cases hi'
      replace h:=ab h; obtain ⟨hrf,h⟩:=h
      rw [ak] at h
      have h:k (.sl (List.replicate nl.toNat cs)):=h
      have hcl:cs.length=i.size:=by have:=(hcs E).1; simpa [hzs] using this
      have hrun:=i1 (w:=w) ho hu hi hz el ec h1 h2 h3 h4
      have hbl:Below w.heap.size w { w with heap:=w.heap.push (.cells (f0 z.cells (nc.toNat * i.size)) e) }:=⟨rfl,rfl,rfl,by simp,fun b hb'=>by
        show (w.heap.push _)[b]?=_
        rw [Array.getElem?_push,if_neg (by omega)]⟩
      refine ⟨_,_,_,fun b=>E.F b∨b=w.heap.size,h,hrun,hbl,fun _ h=>.inl h,fun b hb'=>?_,fun b hb' hlt=>?_,?_⟩
      · rcases hb' with hb' | rfl
        · exact Nat.lt_of_lt_of_le (hM.Flt b hb') hbl.size
        · simp
      · rcases hb' with hb' | rfl
        · exact hb'
        · exact absurd hlt (Nat.lt_irrefl _)
      · have hv:=mS (k:=nl.toNat) (hcs (Env.fz ⟨fun b=>E.F b∨b=w.heap.size,E.mu,w.heap.push (.cells (f0 z.cells (nc.toNat * i.size)) e)⟩)) hzs h0
        have hrr:(List.replicate nl.toNat cs).length=nl.toNat:=List.length_replicate
        have key:=VR.sl (E:=⟨fun b=>E.F b∨b=w.heap.size,E.mu,w.heap.push (.cells (f0 z.cells (nc.toNat * i.size)) e)⟩) (rows:=List.replicate nl.toNat cs) (sz:=i.size) (b:=w.heap.size) (o:=0) (cap:=nc.toNat) (f0 z.cells (nl.toNat * i.size)).toList h0 (fun r hr=>by rw [List.eq_of_mem_replicate hr]; exact hcl) hv.1.symm hv.2 (.inr rfl) (fun m u hm=>by
          unfold bq
          rw [bu]
          rw [Array.getElem?_toList] at hm
          show (f0 z.cells (nc.toNat * i.size))[0 + m]?=some u
          rw [Nat.zero_add,← hm]
          have hml:m<nl.toNat * i.size:=by have:=(Array.getElem?_eq_some_iff.1 hm).1; rw [dB] at this; exact this
          have hmc:m<nc.toNat * i.size:=Nat.lt_of_lt_of_le hml (Nat.mul_le_mul_right _ (by omega))
          unfold f0
          rw [Array.getElem?_map,Array.getElem?_map,Array.getElem?_range,Array.getElem?_range,if_pos hml,if_pos hmc]) (by rw [hrr]; omega)
        rw [hrr] at key
        exact key
    · exact False.elim h
  · exact False.elim h
theorem s5 {C:Ctx} {K:St→Prop} (hM:ad G pd E S w) (ht:TR G E S.t a) (h:uK C o S K) (next:Act→World→Prop) (Q:Exit→Act→World→Prop)
    (hn:∀ S' E' a' w',K S'→ad G pd E' S' w'→TR G E' S'.t a'→next a' w'):o.wp C.P a w next Q:=by
  unfold uK at h
  obtain ⟨vs,h,hv⟩:=bj ht h
  unfold x4 at h
  split at h
  · rename_i c x y ho
    split at h
    · rename_i hcal
      rw [ho] at hv
      obtain ⟨u,us,e,hc,hn1⟩:=hv.uncons
      obtain ⟨u1,us1,rfl,hc1,hn2⟩:=hn1.uncons
      have hnil:=hn2.unnil
      subst hnil
      have e':c.args.map a.eval=#[u,u1]:=by
        apply Array.ext'
        simpa [Op.operands,Call.operands,hcal] using e
      obtain ⟨t0,t1,hts,r,z,w',F',hk,hrun,hbl,hF1,hF2,hF3,hvr⟩:=mX (ty:=o.type) hM h hc hc1
      have e1:c.argTypes=#[t0,t1]:=by apply Array.ext'; simpa using hts
      rw [al] at hk
      obtain ⟨hle,hS⟩:=hM.below hbl hF1 hF2 hF3
      refine bk (z:=z) (w':=w') ?_ (hn _ _ _ w' hk (hS.congr aV aW a2) ((ht.mono hle).put hvr))
      simp [execOp,ho,resolve,hcal,e1,e',invoke,builtin,hrun]
    · exact False.elim h
  · rename_i t X Y l c ho
    rw [ho] at hv
    obtain ⟨u,us,e,hc,hn1⟩:=hv.uncons
    obtain ⟨u1,us1,rfl,hc1,hn2⟩:=hn1.uncons
    have hnil:=hn2.unnil
    subst hnil
    have e':[a.eval X,a.eval Y]=[u,u1]:=by simpa [Op.operands] using e
    cases e'
    obtain ⟨r,z,w',F',hk,hrun,hbl,hF1,hF2,hF3,hvr⟩:=qw hM ho h hc hc1
    rw [al] at hk
    obtain ⟨hle,hS⟩:=hM.below hbl hF1 hF2 hF3
    exact bk hrun (hn _ _ _ w' hk (hS.congr aV aW a2) ((ht.mono hle).put hvr))
  · exact False.elim h
end
section
variable {G:Gh} {pd:Nat→Option (List AV)} {E:Env} {S:St} {w:World} {P:Program} {o:Oper} {a:Act}
theorem rI {α:Type} {cs:List α} {sz:Nat} (hl:cs.length=sz) (h0:0<sz):∀ (n m:Nat),(List.replicate n cs).flatten[m]?=if m<n * sz then cs[m % sz]? else none
  | 0,m=>by simp
  | n + 1,m=>by
    rw [List.replicate_succ,List.flatten_cons,List.getElem?_append,hl,rI hl h0 n]
    by_cases h:m<sz
    · rw [if_pos h,if_pos (by rw [Nat.succ_mul]; omega),Nat.mod_eq_of_lt h]
    · rw [if_neg h]
      have e:(m - sz) % sz=m % sz:=by rw [Nat.mod_eq_sub_mod (a:=m) (by omega)]
      rw [e]
      by_cases h2:m - sz<n * sz
      · rw [if_pos h2,if_pos (by rw [Nat.succ_mul]; omega)]
      · rw [if_neg h2,if_neg (by rw [Nat.succ_mul]; omega)]
theorem yd {z:Value} {sz:Nat} (hzs:z.cells.size=sz) (h0:0<sz) (n m:Nat):(Builtin.zeroCells z.cells n).toList[m]?=if m<n * sz then z.cells.toList[m % sz]? else none:=by
  rw [Array.getElem?_toList,Array.getElem?_toList]
  unfold Builtin.zeroCells
  rw [Array.getElem?_map,hzs]
  by_cases h:m<n * sz
  · have hml:m % sz<z.cells.size:=by rw [hzs]; exact Nat.mod_lt _ h0
    rw [Array.getElem?_range,if_pos h,if_pos h,Option.map_some,Array.getElem?_eq_getElem hml,getElem!_pos z.cells _ hml]
  · rw [Array.getElem?_range,if_neg h,if_neg h]; rfl
theorem uV {ts:Array TypeId} {t ty e:TypeId} {i:TypeInfo} {z:Value} (ht:ts[0]?=some t) (hu:P.underlying t=some (.slice e)) (hi:P.info? e=some i) (hz:i.zero=some z) {b:Addr} {n c:Nat} {w':World}
    (hst:(storeCells b (Builtin.zeroCells z.cells n).toList).run P w=.ok () w'):(Builtin.clear_ ts ty #[.slice (some b) n c]).run P w=.ok (.tuple #[]) w':=by
  cases n with
  | zero =>
    have:(Builtin.zeroCells z.cells 0).toList=[]:=by simp [Builtin.zeroCells]
    rw [this] at hst
    simp [storeCells] at hst
    subst hst
    simp [Builtin.clear_,ht,run_underlying hu]
  | succ n=>simp [Builtin.clear_,ht,run_underlying hu,zeroValue,typeInfo,hi,hz,hst]
theorem qx {ts:Array TypeId} {ty:TypeId} {x:AV} {ux:Value} {k:St→Prop} (hM:ad G pd E S w) (ht:TR G E S.t a) (h:g3 P ts.toList x S k) (hx:VR E x ux) :
    ∃ S' w' E',k S'∧(Builtin.clear_ ts ty #[ux]).run P w=.ok (.tuple #[]) w'∧ad G pd E' S' w'∧TR G E' S'.t a:=by
  unfold g3 at h
  split at h
  · rename_i t l hts
    have ht0:ts[0]?=some t:=by rw [← Array.getElem?_toList,hts]; rfl
    split at h
    · rename_i e hu
      split at h
      · rename_i i hi
        replace h:=ab h; obtain ⟨hb0,h⟩:=h
        have h0:0<i.size:=Nat.le_of_ble_eq_true hb0
        split at h
        · cases hx
          exact ⟨S,w,E,h,by simp [Builtin.clear_,ht0,run_underlying hu],hM,ht⟩
        · cases hx with
          | esln=>exact ⟨S,w,E,h,by simp [Builtin.clear_,ht0,run_underlying hu],hM,ht⟩
          | esl a'=>exact ⟨S,w,E,h,by simp [Builtin.clear_,ht0,run_underlying hu],hM,ht⟩
        · rename_i id off len ext
          split at h
          · rename_i fl sz rows hob
            replace h:=ab h; obtain ⟨hc,h⟩:=h
            simp only [Bool.and_eq_true] at hc
            have:=Nat.eq_of_beq_eq_true hc.1
            subst this
            have hle:=Nat.le_of_ble_eq_true hc.2
            have hzr:=bf h
            clear h
            obtain ⟨i',z,cs,hi',hz,hzs,h,hcs⟩:=hzr
            rw [hi] at hi'
            cases hi'
            replace h:=ab h; obtain ⟨hrf,h⟩:=h
            simp only [Bool.and_eq_true] at hrf
            rw [ak] at h
            have hcl:cs.length=i.size:=by have:=(hcs E).1; simpa [hzs] using this
            have hnews:aO (a6 E true) (List.replicate len cs).flatten (Builtin.zeroCells z.cells len).toList:=by
              refine ⟨?_,fun m c u h1 h2=>?_⟩
              · rw [aL (rows:=List.replicate len cs) (sz:=i.size) (fun r hr=>by rw [List.eq_of_mem_replicate hr]; exact hcl),List.length_replicate,Array.length_toList,bX,hzs]
              · rw [rI hcl h0] at h1
                rw [yd hzs h0] at h2
                split at h1
                · rename_i hm
                  rw [if_pos hm] at h2
                  exact (hcs E.fz).2 _ c u h1 h2
                · cases h1
            have hone:∀ v∈(Builtin.zeroCells z.cells len).toList,hU v=true:=by
              intro v hv
              have:=gA (src:=List.replicate len cs) (by
                unfold e5
                rw [List.all_eq_true]
                intro r hr
                rw [List.eq_of_mem_replicate hr]
                exact hrf.2) hnews v hv
              revert this
              cases v <;> exact fun h=>h
            have hrl:∀ j,(rows.take off++(List.replicate len cs++rows.drop (off + len)))[j]?=if off≤j∧j<off + (List.replicate len cs).length then (List.replicate len cs)[j - off]? else rows[j]?:=by
              intro j
              have e1:(rows.take off).length=off:=by rw [List.length_take]; omega
              rw [List.getElem?_append,e1,List.length_replicate]
              by_cases hj:j<off
              · rw [if_pos hj,if_neg (by omega),List.getElem?_take,if_pos hj]
              · rw [if_neg hj,List.getElem?_append,List.length_replicate]
                by_cases hj2:j - off<len
                · rw [if_pos hj2,if_pos (by omega)]
                · rw [if_neg hj2,if_neg (by omega),List.getElem?_drop]
                  congr 1
                  omega
            have hrlen:(rows.take off++(List.replicate len cs++rows.drop (off + len))).length=rows.length:=by
              rw [List.length_append,List.length_append,List.length_take,List.length_replicate,List.length_drop]
              omega
            rcases cj hM hob with ⟨h1,rfl⟩ | ⟨b,o',h1,ha⟩
            · have hz0:off + len=0:=by simpa using hle
              have e0:len=0:=by omega
              subst e0
              have er:(([]:List (List AV)).take off++(List.replicate 0 cs++([]:List (List AV)).drop (off + 0)))=[]:=by simp
              rw [er] at h
              have hS:=jy (fl':=fl&&true) hM hob h1
              cases hx with
              | msle off a' hm =>
                cases a' with
                | none=>exact ⟨_,w,E,h,by simp [Builtin.clear_,ht0,run_underlying hu],hS,ht⟩
                | some a'=>exact ⟨_,w,E,h,by simp [Builtin.clear_,ht0,run_underlying hu],hS,ht⟩
              | msl _ _ _ cap hm _ _ _=>rw [h1] at hm; cases hm
            · obtain ⟨w',E',hst,hS,htr⟩:=mW (P:=P) (pp:=off) hM ht hob h1 rfl ha (fun r hr=>by rw [List.eq_of_mem_replicate hr]; exact hcl) hnews hone
                (by rw [List.length_replicate]; exact hle) hrl hrlen
              cases hx with
              | msle off a' hm =>
                have hw:w'=w:=by
                  have:(Builtin.zeroCells z.cells 0).toList=[]:=by simp [Builtin.zeroCells]
                  rw [this] at hst
                  simp [storeCells] at hst
                  exact hst.symm
                subst hw
                cases a' with
                | none=>exact ⟨_,w',E',h,by simp [Builtin.clear_,ht0,run_underlying hu],hS,htr⟩
                | some a'=>exact ⟨_,w',E',h,by simp [Builtin.clear_,ht0,run_underlying hu],hS,htr⟩
              | msl _ _ _ cap hm _ _ _ =>
                rw [h1] at hm
                cases hm
                exact ⟨_,w',E',h,uV ht0 hu hi hz hst,hS,htr⟩
          · exact False.elim h
        · exact False.elim h
      · exact False.elim h
    · exact False.elim h
  · exact False.elim h
theorem rJ {K:St→Prop} {c:Call} {x:AV} {ux:Value} (hM:ad G pd E S w) (ht:TR G E S.t a) (ho:o.op=.call c) (hcal:c.callee=.builtin .clear) (hargs:c.args.toList.map a.eval=[ux]) (hx:VR E x ux)
    (h:g3 P c.argTypes.toList x S fun S'=>aA o.dst (.tup []) S' K):bv P G pd o a w K:=by
  obtain ⟨S',w',E',hk,hrun,hS,htr⟩:=qx (ty:=o.type) hM ht h hx
  have e2:c.args.map a.eval=#[ux]:=by apply Array.ext'; simpa using hargs
  rw [al] at hk
  intro next Q hn
  refine bk (z:=.tuple #[]) (w':=w') ?_ (hn _ E' _ w' hk (hS.congr aV aW a2) (htr.put (.tup #[] rfl (fun m c u h=>by simp at h))))
  simp [execOp,ho,resolve,hcal,e2,invoke,builtin,hrun]
end
section
variable {G:Gh} {pd:Nat→Option (List AV)} {E:Env} {S:St} {w:World} {P:Program} {o:Oper} {a:Act}
theorem gB {b:Nat} {ms:Array MapEntry} {clock:Nat} {ob:Obj} (h:w.heap[b]?=some (.map ms clock)):(setObj b ob).run P w=.ok () (av w b ob):=by
  simp [setObj,Sem.run,h,av]
theorem map_set (hM:ad G pd E S w) (ht:TR G E S.t a) {id b x y n clock clock':Nat} {ms ms':Array MapEntry} {fl:Bool} {es es':List (AV×AV)} (hob:S.o[id]?=some (.mapo fl es)) (hmu:E.mu (.O id)=some (.blk b x y n))
    (hb:w.heap[b]?=some (.map ms clock)) {fl':Bool} (hl:es'.length=ms'.size) (hbn:l4 ms' clock')
    (he:∀ (i:Nat) (e:AV×AV) (m:MapEntry),es'[i]?=some e→ms'[i]?=some m→sL e.1=some m.key∧VR (a6 E fl') e.2 m.val) :
    ∃ E',ad G pd E' { t:=S.t,l:=S.l,o:=S.o.set id (.mapo fl' es'),b:=S.b } (av w b (.map ms' clock'))∧TR G E' S.t a:=by
  have hid:id<S.o.length:=(List.getElem?_eq_some_iff.1 hob).1
  have hblt:b<w.heap.size:=(Array.getElem?_eq_some_iff.1 hb).1
  have hnb:=bc (ob:=.map ms' clock') hblt
  have hss:au (av w b (.map ms' clock')).heap b=au w.heap b:=by
    unfold au
    rw [hnb,hb]
  have hle':=hM.setblk_le hmu hss
  obtain ⟨_,hS⟩:=hM.setblk hmu hss (M':={ t:=S.t,l:=S.l,o:=S.o.set id (.mapo fl' es'),b:=S.b })
    (fun _ _=>rfl) (fun j hj=>by
      show (S.o.set id _)[j]?=_
      rw [List.getElem?_set,if_neg (fun e=>hj (by rw [e]))]) rfl (by simp) (fun d e=>by cases e) (fun j e=>by
      cases e
      rw [hmu]
      show b9 _ (S.o.set id _)[id]? _
      rw [List.getElem?_set,if_pos rfl,if_pos hid]
      refine ⟨ms',clock',hnb,⟨hl,hbn⟩,fun i e m h1 h2=>?_⟩
      obtain ⟨h3,h4⟩:=he i e m h1 h2
      refine ⟨h3,?_⟩
      cases fl' with
      | true=>exact h4.mono hle'.fz
      | false=>exact h4.mono hle'.ob) (hM.ow_set hob rfl rfl rfl)
  exact ⟨_,hS,ht.mono hle'⟩
theorem yT {E:Env} {fl:Bool} {x:AV} {u:Value} (hn:jU 4 x=true) (hv:VR E x u):VR (a6 E (fl&&bD 4 x)) x u∧∀ {c:AV} {z:Value},VR (a6 E fl) c z→VR (a6 E (fl&&bD 4 x)) c z:=by
  cases fl with
  | false=>exact ⟨dv 4 hn hv,fun h=>h⟩
  | true =>
    cases hr:bD 4 x with
    | true=>exact ⟨fc 4 hr hv,fun h=>h⟩
    | false=>exact ⟨dv 4 hn hv,fun h=>h.fz_ob⟩
theorem gb {t:TypeId} {m key x:AV} {um uk ux:Value} {K:St→Prop} (hM:ad G pd E S w) (ht:TR G E S.t a) (h:b6 P t m key x S K) (hm:VR E m um) (hk:VR E key uk) (hx:VR E x ux) :
    ∃ S' w' E',K S'∧(Instr.mapUpdate t um uk ux).run P w=.ok () w'∧ad G pd E' S' w'∧TR G E' S'.t a:=by
  unfold b6 at h
  split at h
  · rename_i kt vt hu
    split at h
    · rename_i id
      split at h
      · rename_i fl es hob
        replace h:=ab h; obtain ⟨hnl,h⟩:=h
        cases hm with
        | mp hmu =>
          rename_i b y z n
          have hobr:=hM.obj id
          rw [hob,hmu] at hobr
          obtain ⟨ms,clock,hb,⟨hl,hbn⟩,he⟩:=hobr
          rw [hM.hp] at hb
          obtain ⟨f1,f2⟩:=yT (fl:=fl) hnl hx
          have hfk:=ew h hk hl (fun i e m h1 h2=>(he i e m h1 h2).1) w
          clear h
          obtain ⟨r,h,htk,_,hfind,hval⟩:=hfk
          replace h:=ab h; obtain ⟨hck,h⟩:=h
          have hck':(Instr.checkKey false 10000 kt uk).run P w=.ok () w:=by
            unfold uG at hck
            split at hck
            · rename_i c hc
              exact ci _ w hc
            · cases hck
          cases r with
          | none =>
            simp only [Option.map_none] at h
            rw [ak] at h
            obtain ⟨E',hS,htr⟩:=map_set hM ht hob hmu hb (ms':=ms.push { key:=uk,val:=ux,born:=clock }) (clock':=clock + 1) (es':=es++[(key,x)]) (fl':=fl&&bD 4 x) (by simp [hl]) (hbn.push _ _) (fun i e m h1 h2=>by
              rcases Nat.lt_trichotomy i es.length with hi | hi | hi
              · rw [List.getElem?_append_left hi] at h1
                rw [Array.getElem?_push,if_neg (by omega)] at h2
                obtain ⟨h3,h4⟩:=he i e m h1 h2
                exact ⟨h3,f2 h4⟩
              · subst hi
                rw [List.getElem?_append_right (Nat.le_refl _),Nat.sub_self] at h1
                rw [Array.getElem?_push,if_pos hl] at h2
                cases h1
                cases h2
                exact ⟨htk,f1⟩
              · rw [List.getElem?_eq_none (by simp; omega)] at h1
                cases h1)
            refine ⟨_,_,E',h,?_,hS,htr⟩
            unfold Instr.mapUpdate
            simp only [Sem.run_bind,run_underlying hu,Result.andThen_ok,cm hb,hck',hfind,gB hb]
          | some r =>
            obtain ⟨i,v⟩:=r
            simp only [Option.map_some] at h
            replace h:=ab h; obtain ⟨hsb,h⟩:=h
            rw [ak] at h
            have hv0:=hval i v rfl
            rw [Option.map_eq_some_iff] at hv0
            obtain ⟨m0,hm0,_⟩:=hv0
            have hims:i<ms.size:=(Array.getElem?_eq_some_iff.1 hm0).1
            have hie:es[i]?=some es[i]:=List.getElem?_eq_getElem (by omega)
            have hkey0:=(he i _ m0 hie hm0).1
            rw [hie] at hsb
            simp only [Option.bind_some,hkey0,Option.getD_some] at hsb
            obtain ⟨E',hS,htr⟩:=map_set hM ht hob hmu hb (ms':=ms.modify i fun e=>{ e with key:=uk,val:=ux }) (clock':=clock) (es':=es.set i (key,x)) (fl':=fl&&bD 4 x) (by simp [hl]) (hbn.modify _ _ _) (fun j e m h1 h2=>by
              rw [List.getElem?_set] at h1
              rw [Array.getElem?_modify] at h2
              by_cases hj:i=j
              · subst hj
                rw [if_pos rfl,if_pos (by omega)] at h1
                rw [if_pos rfl,hm0] at h2
                cases h1
                cases h2
                exact ⟨htk,f1⟩
              · rw [if_neg hj] at h1 h2
                obtain ⟨h3,h4⟩:=he j e m h1 h2
                exact ⟨h3,f2 h4⟩)
            refine ⟨_,_,E',h,?_,hS,htr⟩
            have hstay:(Instr.keyThatStays (((ms[i]?).map (·.key)).getD uk) uk).run P w=.ok uk w:=by
              rw [hm0]
              unfold Instr.keyThatStays
              simp only [Option.map_some,Option.getD_some]
              rw [if_pos hsb]
              rfl
            unfold Instr.mapUpdate
            simp only [Sem.run_bind,run_underlying hu,Result.andThen_ok,cm hb,hck',hfind,hstay,gB hb]
      · exact False.elim h
    · exact False.elim h
  · exact False.elim h
theorem l6 {K:St→Prop} {t:TypeId} {X Y Z:Operand} (hM:ad G pd E S w) (ht:TR G E S.t a) (ho:o.op=.mapUpdate t X Y Z)
    (h:a_ S X fun m=>a_ S Y fun key=>a_ S Z fun x=>b6 P t m key x S fun S'=>aA o.dst .bad S' K):bv P G pd o a w K:=by
  obtain ⟨m,h,hm⟩:=bm h ht
  obtain ⟨key,h,hk⟩:=bm h ht
  obtain ⟨x,h,hx⟩:=bm h ht
  obtain ⟨S',w',E',hK,hrun,hS,htr⟩:=gb hM ht h hm hk hx
  rw [al] at hK
  intro next Q hn
  unfold Oper.wp
  have:(execOp a.eval o).run P w=.ok .skip w':=by simp [execOp,ho,hrun]
  rw [this]
  exact hn _ E' (a.put o.dst undef) w' hK (hS.congr aV aW a2) (htr.put (.bad _ _))
theorem qy {K:St→Prop} {t:TypeId} {X Y Z:Operand} (hM:ad G pd E S w) (ht:TR G E S.t a) (ho:o.op=.insert t X Y Z)
    (h:a_ S X fun m=>a_ S Y fun key=>a_ S Z fun x=>b6 P t m key x S fun S'=>aA o.dst .bad S' K):bv P G pd o a w K:=by
  obtain ⟨m,h,hm⟩:=bm h ht
  obtain ⟨key,h,hk⟩:=bm h ht
  obtain ⟨x,h,hx⟩:=bm h ht
  obtain ⟨S',w',E',hK,hrun,hS,htr⟩:=gb hM ht h hm hk hx
  rw [al] at hK
  intro next Q hn
  unfold Oper.wp
  have:(execOp a.eval o).run P w=.ok .skip w':=by simp [execOp,ho,hrun]
  rw [this]
  exact hn _ E' (a.put o.dst undef) w' hK (hS.congr aV aW a2) (htr.put (.bad _ _))
end
section
variable {G:Gh} {pd:Nat→Option (List AV)} {p:Nat→Option (List AV)} {E:Env} {S M:St} {w:World} {P:Program} {o:Oper} {a:Act}
theorem fM (hM:ad G pd E S w) (ht:TR G E S.t a) (id:Nat) :
    ad G pd ⟨E.F,ao E.mu (.O id),E.h⟩ (bG id S) w∧TR G ⟨E.F,ao E.mu (.O id),E.h⟩ (bG id S).t a:=by
  by_cases hid:id<S.o.length
  · obtain ⟨h1,h2,_⟩:=gz hM ht hid
    exact ⟨h1,h2⟩
  · have hke:KE (.O id) E ⟨E.F,ao E.mu (.O id),E.h⟩:=dj
    have hno:S.o[id]?=none:=List.getElem?_eq_none (by omega)
    have hbl:=hM.bl
    refine ⟨⟨hM.hp,hM.os,hM.tape,hM.output,hM.size,hM.keep,hM.F0,hM.Flt,hM.Fnew,fun k b o s n h=>hM.own k b o s n (aR h).2,fun k k' b o s n o' s' n' h h'=>hM.inj _ _ _ _ _ _ _ _ _ (aR h).2 (aR h').2,
      fun e=>?_,fun i=>?_,fun i hi=>?_,by simpa [bG] using hM.bl,hM.szs,fun e row' h=>ua hM h,t_ hM id⟩,ht.kill hke⟩
    · show c_ pd _ (ap (S.l.map (dl (.O id))) e) e
      rw [cn]
      have hmu:ao E.mu (.O id) (.L e)=E.mu (.L e):=gx (fun h=>by cases h)
      have:=hM.loc e
      revert this
      cases ap S.l e with
      | none=>exact fun h=>hmu.trans h
      | some row =>
        rintro (⟨b',h1,h2⟩ | ⟨h1,h2⟩)
        · refine .inl ⟨b',hmu.trans (by simpa using h1),?_⟩
          have:=h2.kill hke (h':=E.h) rfl
          simpa using this
        · exact c_.pend_kill hmu h1 h2
    · show b9 _ (((S.o.map (bw (.O id))).set id .dead)[i]?) (ao E.mu (.O id) (.O i))
      by_cases he:id=i
      · subst he
        have hmu:ao E.mu (.O id) (.O id)=none:=by unfold ao; rw [if_pos rfl]
        rw [hmu,List.getElem?_set,if_pos rfl,if_neg (by simpa using hid)]
        trivial
      · have hmu:ao E.mu (.O id) (.O i)=E.mu (.O i):=eo (fun h=>he (by cases h; rfl))
        rw [hmu,List.getElem?_set,if_neg he,List.getElem?_map]
        have:=hM.obj i
        revert this
        cases S.o[i]? with
        | none=>cases E.mu (.O i) <;> exact fun h=>h
        | some x=>exact fun h=>h.kill hke rfl
    · show ((S.o.map (bw (.O id))).set id .dead)[i]?=some .dead∨ao E.mu (.O id) (.O i)=G.mu i
      have hi':i<S.b:=hi
      have he:id≠i:=by omega
      have hmu:ao E.mu (.O id) (.O i)=E.mu (.O i):=eo (fun h=>he (by cases h; rfl))
      rw [hmu,List.getElem?_set,if_neg he,List.getElem?_map]
      rcases hM.old i hi' with h | h
      · rw [h]; exact .inl rfl
      · exact .inr h
def b5 (ids:List Nat) (S:St):St:=ids.foldl (fun S id=>bG id S) S
def ed (ids:List Nat) (mu:Key→Option MV):Key→Option MV:=ids.foldl (fun mu id=>ao mu (.O id)) mu
theorem ia:∀ {ids:List Nat} {S:St} {K:St→Prop},b_ ids S K↔K (b5 ids S)
  | [],_,_=>Iff.rfl
  | id::ids,S,K=>by
    show eZ _ _ _↔_
    rw [cx,dA,br,ak]
    exact ia (ids:=ids)
theorem f3:∀ {ids:List Nat} {E:Env} {S:St},ad G pd E S w→TR G E S.t a→ad G pd ⟨E.F,ed ids E.mu,E.h⟩ (b5 ids S) w∧TR G ⟨E.F,ed ids E.mu,E.h⟩ (b5 ids S).t a
  | [],_,_,hM,ht=>⟨hM,ht⟩
  | id::ids,E,S,hM,ht=>by
    obtain ⟨h1,h2⟩:=fM hM ht id
    exact f3 (ids:=ids) h1 h2
theorem dD:∀ {ids:List Nat} {mu:Key→Option MV} {k:Key} {x:MV},ed ids mu k=some x→mu k=some x∧∀ id∈ids,k≠.O id
  | [],_,_,_,h=>⟨h,fun _ h=>by cases h⟩
  | id::ids,mu,k,x,h=>by
    obtain ⟨h1,h2⟩:=dD (ids:=ids) (mu:=ao mu (.O id)) h
    obtain ⟨h3,h4⟩:=aR h1
    refine ⟨h4,fun i hi=>?_⟩
    rcases List.mem_cons.1 hi with rfl | hi
    · exact h3
    · exact h2 i hi
theorem ad.freeze (hM:ad G p E M w) {F':Nat→Prop} (hF:∀ b,E.F b→F' b) (hf:∀ b,F' b→E.F b∨(b<w.heap.size∧(G.M b∨G.w0.heap.size≤b)∧∀ k o s n,E.mu k≠some (.blk b o s n))) :
    LE E ⟨F',E.mu,E.h⟩∧ad G p ⟨F',E.mu,E.h⟩ M w:=by
  have hle:LE E ⟨F',E.mu,E.h⟩:=⟨hF,fun _ _ _ h=>h,fun _ _=>rfl,fun _ _ _ _ _ _ _=>rfl⟩
  refine ⟨hle,hM.hp,hM.os,hM.tape,hM.output,hM.size,hM.keep,fun b h=>hF b (hM.F0 b h),fun b h=>?_,fun b h hlt=>?_,fun k b o s n h=>?_,hM.inj,fun d=>?_,fun id=>?_,hM.old,hM.bl,hM.szs,hM.pk,fun id=>(hM.ow id).mono rfl (fun _=>rfl) hle.fz hle.ob (fun _ _ _ _ _ _ _=>rfl)⟩
  · rcases hf b h with h1 | h1
    · exact hM.Flt b h1
    · exact h1.1
  · rcases hf b h with h1 | ⟨_,h2,_⟩
    · exact hM.Fnew b h1 hlt
    · rcases h2 with h2 | h2
      · exact .inr h2
      · omega
  · obtain ⟨h1,h2,h3⟩:=hM.own k b o s n h
    refine ⟨fun hb=>?_,h2,h3⟩
    rcases hf b hb with h4 | ⟨_,_,h4⟩
    · exact h1 h4
    · exact h4 _ _ _ _ h
  · have:=hM.loc d
    revert this
    cases ap M.l d with
    | none=>exact fun h=>h
    | some row =>
      rintro (⟨b',h1,h2,h3,us,ty,h4,h5,h6⟩ | h)
      · refine .inl ⟨b',h1,h2,h3,us,ty,h4,h5,fun m c hc=>?_⟩
        obtain ⟨u,hu,hv⟩:=h6 m c hc
        exact ⟨u,hu,hv.mono hle⟩
      · exact .inr h
  · exact (hM.obj id).mono hle (fun b' o s n h=>rfl)
theorem mY {C:Ctx} {K:St→Prop} {c:Call} {x:Operand} {fid:Nat} {first cap as:List AV} (hC:∀ f args K,C.pcall f args K→bW C.P f args K) (hM:ad G pd E S w) (ht:TR G E S.t a) (ho:o.op=.call c) (hcal:c.callee=.value x)
    (hx:VR E (.fn fid first cap) (a.eval x)) (has:aO E as (c.args.toList.map a.eval))
    (h:dV S.o (first++as++cap) fun bs=>C.pcall fid bs fun r =>
        match mC 4 r with
        | true=>aA o.dst r S K
        | false=>b_ ((first++as++cap).flatMap (bE S.o 6)) S fun S'=>aA o.dst r S' K):bv C.P G pd o a w K:=by
  intro next Q hnext
  refine lA hM ht.gt ho hcal hx has (jr (fun bs=>hC _ _ _) h) next Q (fun r F' w' v hk hv hbl hF1 hF2 hF3=>?_)
  split at hk
  · rename_i hs
    rw [al] at hk
    obtain ⟨hle,hS⟩:=hM.below (F':=E.F) hbl (fun _ h=>h) (fun b h=>Nat.lt_of_lt_of_le (hM.Flt b h) hbl.size) (fun b h _=>h)
    exact hnext _ _ _ w' hk (hS.congr aV aW a2) ((ht.mono hle).put (j3 4 hs hv))
  · rw [ia,al] at hk
    obtain ⟨hS1,ht1⟩:=f3 (ids:=(first++as++cap).flatMap (bE S.o 6)) hM ht
    obtain ⟨hle2,hS2⟩:=hS1.freeze (F':=FD E ((first++as++cap).flatMap (bE S.o 6))) (fun b h=>.inl h) (fun b h=>by
      rcases h with h | ⟨id,hid,o',s,n,hm⟩
      · exact .inl h
      · obtain ⟨h1,h2,h3⟩:=hM.own _ _ _ _ _ hm
        refine .inr ⟨h2,h3,fun k o'' s' n' h'=>?_⟩
        obtain ⟨h4,h5⟩:=dD h'
        exact h5 id hid (hM.inj _ _ _ _ _ _ _ _ _ h4 hm))
    obtain ⟨hle3,hS3⟩:=hS2.below (F':=F') hbl hF1 hF2 hF3
    exact hnext _ _ _ w' hk (hS3.congr aV aW a2) (((ht1.mono hle2).mono hle3).put (VR.of_fz (E:=⟨F',ed _ E.mu,w'.heap⟩) hv))
end
end A
end Go.Proofs.Ytaekcekecdocnaa
