/- A court: who wrote where, in order; what a number should read from. Plain facts; nothing is claimed of the program here. -/
import Derived.Test.YtomahedcdcnnhaaGreatDoorX1
namespace Go.Proofs.YtomahedcdcnnhaaGreatDoor
open Go A

/-! ### Keys and lists -/
theorem sv (e:Int) (ks:List Int) (a:Int):dK fc (e::ks) a=if a=e then some 0 else (dK fc ks a).map (· + 1):=by
  show (if fc a e=true then some 0 else (dK fc ks a).map (· + 1))=_
  by_cases h:a=e
  · rw [if_pos h,if_pos (by unfold fc; simp [h])]
  · rw [if_neg h,if_neg (by unfold fc; simp [h])]
theorem B_:∀ (ks:List Int) (a:Int) (j:Nat),dK fc ks a=some j→ks[j]?=some a
  | [],_,_,h=>by cases h
  | e::ks,a,j,h=>by
    rw [sv] at h
    split at h
    · rename_i he
      cases h
      rw [he]
      rfl
    · rw [Option.map_eq_some_iff] at h
      obtain ⟨j',h1,rfl⟩:=h
      simpa using B_ ks a j' h1
theorem H0 (k a:Int):∀ ks:List Int,dK fc (ks++[k]) a=match dK fc ks a with | some j=>some j | none=>if a=k then some ks.length else none
  | []=>by
    show dK fc [k] a=_
    rw [sv]
    rfl
  | e::ks=>by
    rw [List.cons_append,sv,H0 k a ks,sv]
    by_cases h:a=e
    · rw [if_pos h,if_pos h]
    · rw [if_neg h,if_neg h]
      cases dK fc ks a with
      | some j=>rfl
      | none =>
        by_cases h2:a=k
        · rw [if_pos h2]
          show _=if a=k then some (e::ks).length else none
          rw [if_pos h2]
          rfl
        · rw [if_neg h2]
          show _=if a=k then some (e::ks).length else none
          rw [if_neg h2]
          rfl
def zl (ks:List Int) (cs:List (Option (List Int))) (a:Int):List Int :=
  match dK fc ks a with
  | none=>[]
  | some j=>(cs[j]?.getD none).getD []
theorem Ca (a:Int):∀ (ks:List Int) (cs:List (Option (List Int))),ks.length=cs.length→j6 fc (AJ ks cs) a=(dK fc ks a).map fun j=>(cs[j]?.getD none).getD []
  | [],_,_=>by
    cases ‹List (Option (List Int))› <;> rfl
  | _::_,[],h=>by simp at h
  | k::ks,c::cs,h=>by
    rw [sv]
    show (if fc a k=true then some (c.getD []) else j6 fc (AJ ks cs) a)=_
    by_cases e:a=k
    · rw [if_pos e,if_pos (by unfold fc; simp [e])]
      rfl
    · rw [if_neg e,if_neg (by unfold fc; simp [e]),Ca a ks cs (by simpa using h),Option.map_map]
      rfl
theorem FG (a:Int) {ks:List Int} {cs:List (Option (List Int))} (h:ks.length=cs.length):(j6 fc (AJ ks cs) a).getD []=zl ks cs a:=by
  rw [Ca a ks cs h]
  unfold zl
  cases dK fc ks a <;> rfl
theorem Cb (c:Option (List Int)):∀ cs:List (Option (List Int)),nP (cs++[c])=(nP cs&&c.isSome)
  | []=>by show (c.isSome&&true)=(true&&c.isSome); cases c.isSome <;> rfl
  | d::cs=>by
    show (d.isSome&&nP (cs++[c]))=((d.isSome&&nP cs)&&c.isSome)
    rw [Cb c cs,Bool.and_assoc]
theorem Cc:∀ (cs:List (Option (List Int))) (j:Nat) (x:Option (List Int)),nP cs=true→cs[j]?=some x→∃ l,x=some l
  | [],j,x,_,h=>by simp at h
  | d::cs,0,x,h,hx=>by
    simp at hx
    subst hx
    unfold nP at h
    rw [Bool.and_eq_true] at h
    exact Option.isSome_iff_exists.1 h.1
  | d::cs,j + 1,x,h,hx=>by
    unfold nP at h
    rw [Bool.and_eq_true] at h
    exact Cc cs j x h.2 (by simpa using hx)
theorem Cd (l:List Int):∀ (cs:List (Option (List Int))) (j:Nat),nP cs=true→nP (cs.set j (some l))=true
  | [],_,h=>h
  | d::cs,0,h=>by
    unfold nP at h ⊢
    rw [Bool.and_eq_true] at h
    show (true&&nP cs)=true
    rw [h.2]
    rfl
  | d::cs,j + 1,h=>by
    unfold nP at h
    rw [Bool.and_eq_true] at h
    show (d.isSome&&nP (cs.set j (some l)))=true
    rw [h.1,Cd l cs j h.2]
    rfl

/-! ### Who wrote at an address, in order -/
def H8 (all:List Event) (a o:Int):Bool:=match av all o with | some e=>vk e.Kind&&(e.Addr==a) | none=>false
def WL (c:ae) (a:Int):List Int:=c.Order.filter (H8 c.Harts.flatten a)
theorem pu (c:ae) (a:Int) (i:Nat) (hi:i<c.Order.length):(c.Order.take (i + 1)).filter (H8 c.Harts.flatten a)=(c.Order.take i).filter (H8 c.Harts.flatten a)++if H8 c.Harts.flatten a c.Order[i]=true then [c.Order[i]] else []:=by
  rw [List.take_succ_eq_append_getElem hi,List.filter_append]
  congr 1
  cases h:H8 c.Harts.flatten a c.Order[i] <;> simp [h]
structure WR (c:ae) (i:Nat) (ks:List Int) (cs:List (Option (List Int))):Prop where
  len:ks.length=cs.length
  som:nP cs=true
  has:∀ a,zl ks cs a=(c.Order.take i).filter (H8 c.Harts.flatten a)
structure qj (c:ae) (w:List (Int×List Int)) (pl:List Int):Prop where
  has:∀ a,(j6 fc w a).getD []=WL c a
  len:pl.length=c.Harts.flatten.length
  plc:AF c pl c.Order.length

theorem Ka (n:Nat) (c:ae) (hc:dB c) (hr:eQ n c) (hn:200≤n) :
    T (fS n c.First c.Harts c.From c.Order) (fun r=>∃ w pl,r=.inr (w,c.Harts.flatten,pl)∧qj c w pl):=by
  have hf:=hc.all
  have hor:=hc.order
  have h0:=xn n c hc hn hr
  unfold fS
  refine T.eqb h0 ?_
  refine T.ite (fun d=>by simp at d) (fun _=>?_)
  refine T.eqb (QF n c hc hn h0) ?_
  refine T.bind (Jz n c hc hn h0 hr) (fun pl ⟨hl,hp⟩=>?_)
  refine T.bind (P:=fun t=>WR c c.Order.length t.1 t.2) ?_ (fun t ht=>?_)
  · refine T.loop c.Order.length (fun i s=>s.2=(i:Int)∧WR c i s.1.1 s.1.2) _ ?_ ⟨rfl,rfl,rfl,fun a=>rfl⟩ (by omega)
    rintro i ⟨⟨ks,cs⟩,s2⟩ hi ⟨e1,hw⟩
    dsimp only at e1 hw
    subst e1
    unfold jH
    refine T.ite (fun cd=>?_) (fun cd=>?_)
    · have hil:=bU cd
      obtain ⟨j,hj,hoj,_⟩:=hr.ord i hil
      refine T.get i rfl hil ?_
      refine T.get j hoj (by omega) ?_
      refine T.eqb (i1 _ _) ?_
      have hg:av c.Harts.flatten c.Order[i]=some c.Harts.flatten[j]:=fP hoj hj
      have hwa:∀ a,H8 c.Harts.flatten a c.Order[i]=(vk c.Harts.flatten[j].Kind&&(c.Harts.flatten[j].Addr==a)):=fun a=>by unfold H8; rw [hg]
      generalize c.Harts.flatten[j]=e at hwa ⊢
      refine T.ite (fun hwr=>?_) (fun hwr=>?_)
      · have hwa:∀ a,H8 c.Harts.flatten a c.Order[i]=(e.Addr==a):=fun a=>by rw [hwa,hwr]; rfl
        cases hk:dK fc ks e.Addr with
        | none =>
          refine T.ret ⟨hil,aZ _ (by omega),by dsimp only; simp [hw.len],by dsimp only; rw [Cb,hw.som]; rfl,fun a=>?_⟩
          dsimp only
          rw [pu c a i hil,hwa,← hw.has a]
          unfold zl
          rw [H0]
          by_cases ha:a=e.Addr
          · rw [ha,hk]
            dsimp only
            rw [if_pos rfl]
            dsimp only
            rw [hw.len,List.getElem?_append_right (Nat.le_refl _),Nat.sub_self]
            simp
          · have:(e.Addr==a)=false:=by simp; exact fun h=>ha h.symm
            rw [this]
            cases hka:dK fc ks a with
            | none=>dsimp only; rw [if_neg ha]; rfl
            | some q =>
              dsimp only
              have hq:q<cs.length:=by
                have:=(List.getElem?_eq_some_iff.1 (B_ ks a q hka)).1
                rw [hw.len] at this
                exact this
              rw [List.getElem?_append_left hq]
              simp
        | some q =>
          have hq:q<cs.length:=by
            have:=(List.getElem?_eq_some_iff.1 (B_ ks e.Addr q hk)).1
            rw [hw.len] at this
            exact this
          show T ((cs[q]?).bind _) _
          obtain ⟨l,hl⟩:=Cc cs q _ hw.som (List.getElem?_eq_getElem hq)
          rw [List.getElem?_eq_getElem hq,hl]
          have hlen:l.length≤60:=by
            have h1:=hw.has e.Addr
            unfold zl at h1
            rw [hk] at h1
            dsimp only at h1
            rw [List.getElem?_eq_getElem hq,hl] at h1
            have h1:l=_:=h1
            rw [h1]
            have:=List.length_filter_le (H8 c.Harts.flatten e.Addr) (c.Order.take i)
            rw [List.length_take] at this
            omega
          show T (grd _ _) _
          refine T.grd (gd (by omega)) ?_
          refine T.ret ⟨hil,aZ _ (by omega),by dsimp only; rw [List.length_set]; exact hw.len,by dsimp only; exact Cd _ _ _ hw.som,fun a=>?_⟩
          dsimp only
          rw [pu c a i hil,hwa,← hw.has a]
          unfold zl
          by_cases ha:a=e.Addr
          · rw [ha,hk]
            dsimp only
            rw [List.getElem?_set_self hq,List.getElem?_eq_getElem hq,hl]
            simp
          · have:(e.Addr==a)=false:=by simp; exact fun h=>ha h.symm
            rw [this]
            cases hka:dK fc ks a with
            | none=>rfl
            | some p =>
              dsimp only
              have hpq:q≠p:=fun e2=>by
                subst e2
                have h1:=B_ ks a _ hka
                rw [B_ ks e.Addr _ hk] at h1
                exact ha (Option.some.inj h1).symm
              rw [List.getElem?_set_ne hpq]
              simp
      · refine T.ret ⟨hil,aZ _ (by omega),hw.len,hw.som,fun a=>?_⟩
        dsimp only
        rw [pu c a i hil,hwa,← hw.has a,hwr]
        simp
    · have:=cR cd
      have e:i=c.Order.length:=by omega
      subst e
      exact T.fin hw
  · refine T.grd ht.som ?_
    refine T.ret ⟨_,_,rfl,fun a=>?_,hl,hp⟩
    rw [FG a ht.len,ht.has a,List.take_of_length_le (Nat.le_refl _)]
    rfl
theorem JA (n:Nat) (c:ae) {s:Int} (h:bY n c=some s) (hs:s≠0):fS n c.First c.Harts c.From c.Order=some (.inl ()):=by
  unfold fS
  rw [show bY n (ae.mk c.First c.Harts c.From c.Order)=some s from h]
  show (if (s != 0)=true then _ else _)=_
  rw [if_pos (by simpa using hs)]

/-! ### What a number should read from -/
def l4 (all:List Event) (pl:List Int) (k w:Int):Bool :=
  match av all w,av pl w,av pl k,av all k with
  | some x,some a,some b,some e=>(w != k)&&(decide (a<b)||((x.Hart==e.Hart)&&decide (x.At<e.At)))
  | _,_,_,_=>false
def JB (all:List Event) (pl:List Int) (l:List Int) (k:Int):Int:=(l.reverse.find? (l4 all pl k)).getD (-1)
theorem H1 (l:List Int) (i:Nat) (hi:i<l.length):(l.drop (l.length - (i + 1))).reverse=(l.drop (l.length - i)).reverse++[l[l.length - (i + 1)]]:=by
  have h:l.length - (i + 1)<l.length:=by omega
  rw [List.drop_eq_getElem_cons h,List.reverse_cons]
  congr 3
  omega
theorem uw (n:Nat) (o1:List Cell) (o2:List (List Event)) (o3 o4:List Int) (w:List (Int×List Int)) (all:List Event) (pl:List Int) (k:Nat) (hk:k<all.length) (hp:pl.length=all.length) 
    (l:List Int) (hl:l.length≤60) (hv:∀ x∈l,∃ j:Nat,j<all.length∧x=(j:Int)) (hn:200≤n) :
    T (iter (fun s=>bN n (k:Int) o1 o2 o3 o4 w all pl all[k] s) n (l,(l.length:Int) - 1)) (fun t=>match t with | .inl _=>l.reverse.find? (l4 all pl (k:Int))=none | .inr x=>l.reverse.find? (l4 all pl (k:Int))=some x):=by
  refine T.loop l.length (fun i s=>s=(l,(l.length:Int) - 1 - (i:Int))∧(l.drop (l.length - i)).reverse.find? (l4 all pl (k:Int))=none) _ ?_ ⟨by simp,by simp⟩ (by omega)
  rintro i s hi ⟨rfl,hq⟩
  unfold bN
  dsimp only
  refine T.ite (fun cd=>?_) (fun cd=>?_)
  · have hc:=of_decide_eq_true cd
    have hil:i<l.length:=by omega
    refine T.get (l.length - (i + 1)) (by omega) (by omega) ?_
    have hmem:l[l.length - (i + 1)]'(by omega)∈l:=List.getElem_mem _
    have hrd:=H1 l i hil
    obtain ⟨j,hj,hxj⟩:=hv _ hmem
    generalize l[l.length - (i + 1)]'(by omega)=x at hxj hrd ⊢
    subst hxj
    refine T.get j rfl hj ?_
    have gk:av all (k:Int)=some all[k]:=fP rfl hk
    have gj:av all (j:Int)=some all[j]:=fP rfl hj
    have pk:av pl (k:Int)=some (pl[k]'(by omega)):=fP rfl (by omega)
    have pj:av pl (j:Int)=some (pl[j]'(by omega)):=fP rfl (by omega)
    have hcw:l4 all pl (k:Int) (j:Int)=(((j:Int) != (k:Int))&&(decide (pl[j]'(by omega)<pl[k]'(by omega))||((all[j].Hart==all[k].Hart)&&decide (all[j].At<all[k].At)))):=by
      unfold l4
      rw [gj,pj,pk,gk]
    have hsub:cj .i64 ((l.length:Int) - 1 - (i:Int)) 1=(l.length:Int) - 1 - ((i + 1:Nat):Int):=by
      rw [Cj (by omega) (by omega)]
      omega
    have nxt:l4 all pl (k:Int) (j:Int)=false→T (some (.inl (l,cj .i64 ((l.length:Int) - 1 - (i:Int)) 1)):Option ((List Int×Int)⊕(Unit⊕Int))) (Rd (fun s'=>i<l.length∧(s'=(l,(l.length:Int) - 1 - ((i + 1:Nat):Int))∧(l.drop (l.length - (i + 1))).reverse.find? (l4 all pl (k:Int))=none)) (fun t=>match t with | .inl _=>l.reverse.find? (l4 all pl (k:Int))=none | .inr x=>l.reverse.find? (l4 all pl (k:Int))=some x)):=fun h=>by
      refine T.ret ⟨hil,by rw [hsub],?_⟩
      rw [hrd,List.find?_append,hq]
      simp [h]
    have q8:l4 all pl (k:Int) (j:Int)=true→T (some (.inr (.inr (j:Int))):Option ((List Int×Int)⊕(Unit⊕Int))) (Rd (fun s'=>i<l.length∧(s'=(l,(l.length:Int) - 1 - ((i + 1:Nat):Int))∧(l.drop (l.length - (i + 1))).reverse.find? (l4 all pl (k:Int))=none)) (fun t=>match t with | .inl _=>l.reverse.find? (l4 all pl (k:Int))=none | .inr x=>l.reverse.find? (l4 all pl (k:Int))=some x)):=fun h=>by
      refine T.fin ?_
      show l.reverse.find? _=some _
      have e:l.reverse=(l.drop (l.length - (i + 1))).reverse++(l.take (l.length - (i + 1))).reverse:=by
        rw [← List.reverse_append,List.take_append_drop]
      rw [e,List.find?_append,hrd,List.find?_append,hq]
      simp [h]
    refine T.ite (fun d1=>?_) (fun d1=>nxt (by rw [hcw,d1]; rfl))
    refine T.get j rfl (by omega) ?_
    refine T.get k rfl (by omega) ?_
    refine T.ite (fun d2=>q8 (by rw [hcw,d1,d2]; rfl)) (fun d2=>?_)
    refine T.ite (fun d3=>?_) (fun d3=>nxt (by rw [hcw,d2,d3]; simp))
    exact T.ite (fun d4=>q8 (by rw [hcw,d1,d2,d3,d4]; rfl)) (fun d4=>nxt (by rw [hcw,d2,d4]; simp))
  · have hc:=of_decide_eq_false cd
    have e:i=l.length:=by omega
    subst e
    refine T.fin ?_
    show l.reverse.find? _=none
    rw [Nat.sub_self,List.drop_zero] at hq
    exact hq
theorem H2 {n:Nat} {c:ae} (hr:eQ n c) (a:Int):∀ x∈WL c a,∃ j:Nat,j<c.Harts.flatten.length∧x=(j:Int):=by
  intro x hx
  have h1:=(List.mem_filter.1 hx).1
  obtain ⟨i,hi,e⟩:=List.mem_iff_getElem.1 h1
  obtain ⟨j,hj,h2,_⟩:=hr.ord i hi
  exact ⟨j,hj,by rw [← e,h2]⟩
theorem H3 {c:ae} (hc:dB c) (a:Int):(WL c a).length≤60:=Nat.le_trans (List.length_filter_le _ _) hc.order
/-- From what a number should read, of a candidate. -/
def FH (c:ae) (pl:List Int) (k:Nat) (hk:k<c.Harts.flatten.length):Int:=JB c.Harts.flatten pl (WL c c.Harts.flatten[k].Addr) (k:Int)
theorem Ev (n:Nat) (c:ae) (hc:dB c) (hr:eQ n c) (hn:200≤n) {w:List (Int×List Int)} {pl:List Int} (ct:qj c w pl) (k:Nat) (hk:k<c.Harts.flatten.length) (o1:List Cell) (o2:List (List Event)) (o3 o4:List Int) :
    bQ n (k:Int) o1 o2 o3 o4 w c.Harts.flatten pl=some (FH c pl k hk):=by
  have key:T (bQ n (k:Int) o1 o2 o3 o4 w c.Harts.flatten pl) (fun r=>r=FH c pl k hk):=by
    unfold bQ
    refine T.get k rfl hk ?_
    have hh:=ct.has c.Harts.flatten[k].Addr
    have hlen:=H3 hc c.Harts.flatten[k].Addr
    cases hm:j6 fc w c.Harts.flatten[k].Addr with
    | none =>
      rw [hm] at hh
      have hh:[]=WL c c.Harts.flatten[k].Addr:=hh
      show T (Option.bind _ _) _
      refine T.bind (uw n o1 o2 o3 o4 w c.Harts.flatten pl k hk ct.len [] (by simp) (fun x hx=>by simp at hx) hn) (fun t ht=>?_)
      cases t with
      | inl u=>exact T.ret (by unfold FH JB; rw [← hh]; rfl)
      | inr x=>simp at ht
    | some l =>
      rw [hm] at hh
      have hh:l=WL c c.Harts.flatten[k].Addr:=hh
      subst hh
      show T (Option.bind _ _) _
      have e:cj .i64 ((WL c c.Harts.flatten[k].Addr).length:Int) 1=((WL c c.Harts.flatten[k].Addr).length:Int) - 1:=Cj (by omega) (by omega)
      rw [e]
      refine T.bind (uw n o1 o2 o3 o4 w c.Harts.flatten pl k hk ct.len _ hlen (H2 hr _) hn) (fun t ht=>?_)
      cases t with
      | inl u =>
        refine T.ret ?_
        have ht:List.find? _ _=none:=ht
        unfold FH JB
        rw [ht]
        rfl
      | inr x =>
        refine T.ret ?_
        have ht:List.find? _ _=some x:=ht
        unfold FH JB
        rw [ht]
        rfl
  obtain ⟨r,h1,h2⟩:=key
  rw [h1,h2]
theorem H4 (n:Nat) (k:Int) (o1:List Cell) (o2:List (List Event)) (o3 o4:List Int) (w:List (Int×List Int)) (all:List Event) (pl:List Int):eh n k o1 o2 o3 o4 w all pl=bQ n k o1 o2 o3 o4 w all pl:=rfl

/-! ### What an event reads from -/
theorem nz (n:Nat) (c:ae) (hr:eQ n c) (k:Nat) (hk:k<c.Harts.flatten.length) :
    (c.From[k]'(by rw [hr.fromLen]; exact hk)=-1∨∃ j:Nat,j<c.Harts.flatten.length∧c.From[k]'(by rw [hr.fromLen]; exact hk)=(j:Int))∧(sn c.Harts.flatten[k].Kind=false→c.From[k]'(by rw [hr.fromLen]; exact hk)=-1):=by
  have hk2:k<c.From.length:=by rw [hr.fromLen]; exact hk
  have h:=hr.froms k hk
  unfold di at h
  obtain ⟨x1,g1,h⟩:=ab h
  rw [fP rfl hk] at g1
  have g1:=Option.some.inj g1
  subst g1
  obtain ⟨x2,g2,h⟩:=ab h
  rw [fP rfl hk2] at g2
  have g2:=Option.some.inj g2
  rw [g2]
  clear g2
  obtain ⟨y3,g3,h⟩:=ab h
  rw [tF] at g3
  have g3:=Option.some.inj g3
  subst g3
  rcases ap h with ⟨d,h⟩ | ⟨d,h⟩
  · have h:=Option.some.inj h
    have h:x2=-1:=by simpa using h
    exact ⟨.inl h,fun _=>h⟩
  · have d:sn c.Harts.flatten[k].Kind=true:=by simpa using d
    refine ⟨?_,fun h0=>by rw [d] at h0; cases h0⟩
    rcases ap h with ⟨d1,h⟩ | ⟨d1,h⟩
    · exact .inl (by simpa using d1)
    · rcases ap h with ⟨d2,h⟩ | ⟨d2,h⟩
      · cases h
      · rcases ap h with ⟨d3,h⟩ | ⟨d3,h⟩
        · cases h
        · have d2:=of_decide_eq_false d2
          have d3:=of_decide_eq_false d3
          exact .inr ⟨x2.toNat,by omega,by omega⟩

/-! ### The axioms -/
theorem Mm (n:Nat) (c:ae) (hc:dB c) (hr:eQ n c) (hn:200≤n) {w:List (Int×List Int)} {pl:List Int} (ct:qj c w pl) :
    T (dz n c.First c.Harts c.From c.Order w c.Harts.flatten pl) (fun r=>r.1=true→∀ (k:Nat) (hk:k<c.Harts.flatten.length),sn c.Harts.flatten[k].Kind=true→c.From[k]'(by rw [hr.fromLen]; exact hk)=FH c pl k hk):=by
  have hf:=hc.all
  unfold dz
  refine T.bind (P:=fun t=>match t with | .inl _=>∀ (k:Nat) (hk:k<c.Harts.flatten.length),sn c.Harts.flatten[k].Kind=true→c.From[k]'(by rw [hr.fromLen]; exact hk)=FH c pl k hk | .inr x=>x.1=false) ?_ (fun t ht=>?_)
  · refine T.loop c.Harts.flatten.length (fun i s=>s=(i:Int)∧∀ (k:Nat) (hk:k<c.Harts.flatten.length),k<i→sn c.Harts.flatten[k].Kind=true→c.From[k]'(by rw [hr.fromLen]; exact hk)=FH c pl k hk) _ ?_ ⟨rfl,fun k hk h=>by omega⟩ (by omega)
    rintro i s hi ⟨rfl,hq⟩
    unfold dG
    refine T.ite (fun cd=>?_) (fun cd=>?_)
    · have hil:=bU cd
      refine T.get i rfl hil ?_
      refine T.eqb (i0 _ _) ?_
      refine T.ite (fun d=>?_) (fun d=>?_)
      · refine T.ret ⟨hil,aZ _ (by omega),fun k hk hki hrd=>?_⟩
        by_cases e:k=i
        · subst e
          rw [hrd] at d
          cases d
        · exact hq k hk (by omega) hrd
      · refine T.eqb (Ev n c hc hr hn ct i hil _ _ _ _) ?_
        refine T.get i rfl (by rw [hr.fromLen]; exact hil) ?_
        refine T.ite (fun d2=>?_) (fun d2=>?_)
        · refine T.eqb (show ey n 3 _ _=some _ from rfl) ?_
          exact T.fin rfl
        · have d2:FH c pl i hil=c.From[i]'(by rw [hr.fromLen]; exact hil):=by simpa using d2
          refine T.ret ⟨hil,aZ _ (by omega),fun k hk hki hrd=>?_⟩
          by_cases e:k=i
          · subst e
            exact d2.symm
          · exact hq k hk (by omega) hrd
    · have:=cR cd
      exact T.fin (fun k hk hrd=>hq k hk (by omega) hrd)
  · cases t with
    | inl u=>exact T.ret (fun _=>ht)
    | inr x =>
      refine T.ret (fun h=>?_)
      have ht:x.1=false:=ht
      rw [ht] at h
      cases h

end Go.Proofs.YtomahedcdcnnhaaGreatDoor
