/- A court: who wrote where, in order; what a number should read from. Plain facts; nothing is claimed of the program here. -/
import Derived.Test.YtomahedcdcnnhaaGreatDoorX1
namespace Go.Proofs.YtomahedcdcnnhaaGreatDoor
open Go A

theorem t_ (e:Int) (ks:List Int) (a:Int):dy ey (e::ks) a=if a=e then some 0 else (dy ey ks a).map (· + 1):=by
  show (if ey a e=true then some 0 else (dy ey ks a).map (· + 1))=_
  by_cases h:a=e
  · rw [if_pos h,if_pos (by unfold ey; simp [h])]
  · rw [if_neg h,if_neg (by unfold ey; simp [h])]
theorem Dq:∀ (ks:List Int) (a:Int) (j:Nat),dy ey ks a=some j→ks[j]?=some a
  | [],_,_,h=>by cases h
  | e::ks,a,j,h=>by
    rw [t_] at h
    split at h
    · rename_i he
      cases h
      rw [he]
      rfl
    · rw [Option.map_eq_some_iff] at h
      obtain ⟨j',h1,rfl⟩:=h
      simpa using Dq ks a j' h1
theorem Iu (k a:Int):∀ ks:List Int,dy ey (ks++[k]) a=match dy ey ks a with | some j=>some j | none=>if a=k then some ks.length else none
  | []=>by
    show dy ey [k] a=_
    rw [t_]
    rfl
  | e::ks=>by
    rw [List.cons_append,t_,Iu k a ks,t_]
    by_cases h:a=e
    · rw [if_pos h,if_pos h]
    · rw [if_neg h,if_neg h]
      cases dy ey ks a with
      | some j=>rfl
      | none =>
        by_cases h2:a=k
        · rw [if_pos h2]
          show _=if a=k then some (e::ks).length else none
          rw [if_pos h2]
          rfl
        · rw [if_neg h2]
          show _=if a=k then some (e::ks).length else none
          rw [if_neg h2]
          rfl
def AE (ks:List Int) (cs:List (Option (List Int))) (a:Int):List Int :=
  match dy ey ks a with
  | none=>[]
  | some j=>(cs[j]?.getD none).getD []
theorem Dr (a:Int):∀ (ks:List Int) (cs:List (Option (List Int))),ks.length=cs.length→jn ey (AJ ks cs) a=(dy ey ks a).map fun j=>(cs[j]?.getD none).getD []
  | [],_,_=>by
    cases ‹List (Option (List Int))› <;> rfl
  | _::_,[],h=>by simp at h
  | k::ks,c::cs,h=>by
    rw [t_]
    show (if ey a k=true then some (c.getD []) else jn ey (AJ ks cs) a)=_
    by_cases e:a=k
    · rw [if_pos e,if_pos (by unfold ey; simp [e])]
      rfl
    · rw [if_neg e,if_neg (by unfold ey; simp [e]),Dr a ks cs (by simpa using h),Option.map_map]
      rfl
theorem GH (a:Int) {ks:List Int} {cs:List (Option (List Int))} (h:ks.length=cs.length):(jn ey (AJ ks cs) a).getD []=AE ks cs a:=by
  rw [Dr a ks cs h]
  unfold AE
  cases dy ey ks a <;> rfl
theorem Ds (c:Option (List Int)):∀ cs:List (Option (List Int)),nK (cs++[c])=(nK cs&&c.isSome)
  | []=>by show (c.isSome&&true)=(true&&c.isSome); cases c.isSome <;> rfl
  | d::cs=>by
    show (d.isSome&&nK (cs++[c]))=((d.isSome&&nK cs)&&c.isSome)
    rw [Ds c cs,Bool.and_assoc]
theorem Dt:∀ (cs:List (Option (List Int))) (j:Nat) (x:Option (List Int)),nK cs=true→cs[j]?=some x→∃ l,x=some l
  | [],j,x,_,h=>by simp at h
  | d::cs,0,x,h,hx=>by
    simp at hx
    subst hx
    unfold nK at h
    rw [Bool.and_eq_true] at h
    exact Option.isSome_iff_exists.1 h.1
  | d::cs,j + 1,x,h,hx=>by
    unfold nK at h
    rw [Bool.and_eq_true] at h
    exact Dt cs j x h.2 (by simpa using hx)
theorem Du (l:List Int):∀ (cs:List (Option (List Int))) (j:Nat),nK cs=true→nK (cs.set j (some l))=true
  | [],_,h=>h
  | d::cs,0,h=>by
    unfold nK at h ⊢
    rw [Bool.and_eq_true] at h
    show (true&&nK cs)=true
    rw [h.2]
    rfl
  | d::cs,j + 1,h=>by
    unfold nK at h
    rw [Bool.and_eq_true] at h
    show (d.isSome&&nK (cs.set j (some l)))=true
    rw [h.1,Du l cs j h.2]
    rfl
def yG (all:List Event) (a o:Int):Bool:=match ak all o with | some e=>kF e.Kind&&(e.Addr==a) | none=>false
def WL (c:af) (a:Int):List Int:=c.Order.filter (yG c.Harts.flatten a)
theorem qv (c:af) (a:Int) (i:Nat) (hi:i<c.Order.length):(c.Order.take (i + 1)).filter (yG c.Harts.flatten a)=(c.Order.take i).filter (yG c.Harts.flatten a)++if yG c.Harts.flatten a c.Order[i]=true then [c.Order[i]] else []:=by
  rw [List.take_succ_eq_append_getElem hi,List.filter_append]
  congr 1
  cases h:yG c.Harts.flatten a c.Order[i] <;> simp [h]
structure WR (c:af) (i:Nat) (ks:List Int) (cs:List (Option (List Int))):Prop where
  len:ks.length=cs.length
  som:nK cs=true
  has:∀ a,AE ks cs a=(c.Order.take i).filter (yG c.Harts.flatten a)
structure gE (c:af) (w:List (Int×List Int)) (pl:List Int):Prop where
  has:∀ a,(jn ey w a).getD []=WL c a
  len:pl.length=c.Harts.flatten.length
  plc:sB c pl c.Order.length
theorem J4 (n:Nat) (c:af) (hc:bP c) (hr:bz n c) (hn:200≤n) :
    T (dU n c.First c.Harts c.From c.Order) (fun r=>∃ w pl,r=.inr (w,c.Harts.flatten,pl)∧gE c w pl):=by
  have hf:=hc.all
  have hor:=hc.order
  have h0:=sw n c hc hn hr
  unfold dU
  refine T.eqb h0 ?_
  refine T.ite (fun d=>by simp at d) (fun _=>?_)
  refine T.eqb (Qo n c hc hn h0) ?_
  refine T.bind (Jr n c hc hn h0 hr) (fun pl ⟨hl,hp⟩=>?_)
  refine T.bind (P:=fun t=>WR c c.Order.length t.1 t.2) ?_ (fun t ht=>?_)
  · refine T.loop c.Order.length (fun i s=>s.2=(i:Int)∧WR c i s.1.1 s.1.2) _ ?_ ⟨rfl,rfl,rfl,fun a=>rfl⟩ (by omega)
    rintro i ⟨⟨ks,cs⟩,s2⟩ hi ⟨e1,hw⟩
    dsimp only at e1 hw
    subst e1
    unfold jV
    refine T.ite (fun cd=>?_) (fun cd=>?_)
    · have hil:=aY cd
      obtain ⟨j,hj,hoj,_⟩:=hr.ord i hil
      refine T.get i rfl hil ?_
      refine T.get j hoj (by omega) ?_
      refine T.eqb (fc _ _) ?_
      have hg:ak c.Harts.flatten c.Order[i]=some c.Harts.flatten[j]:=aS hoj hj
      have hwa:∀ a,yG c.Harts.flatten a c.Order[i]=(kF c.Harts.flatten[j].Kind&&(c.Harts.flatten[j].Addr==a)):=fun a=>by unfold yG; rw [hg]
      generalize c.Harts.flatten[j]=e at hwa ⊢
      refine T.ite (fun hwr=>?_) (fun hwr=>?_)
      · have hwa:∀ a,yG c.Harts.flatten a c.Order[i]=(e.Addr==a):=fun a=>by rw [hwa,hwr]; rfl
        cases hk:dy ey ks e.Addr with
        | none =>
          refine T.ret ⟨hil,av _ (by omega),by dsimp only; simp [hw.len],by dsimp only; rw [Ds,hw.som]; rfl,fun a=>?_⟩
          dsimp only
          rw [qv c a i hil,hwa,← hw.has a]
          unfold AE
          rw [Iu]
          by_cases ha:a=e.Addr
          · rw [ha,hk]
            dsimp only
            rw [if_pos rfl]
            dsimp only
            rw [hw.len,List.getElem?_append_right (Nat.le_refl _),Nat.sub_self]
            simp
          · have:(e.Addr==a)=false:=by simp; exact fun h=>ha h.symm
            rw [this]
            cases hka:dy ey ks a with
            | none=>dsimp only; rw [if_neg ha]; rfl
            | some q =>
              dsimp only
              have hq:q<cs.length:=by
                have:=(List.getElem?_eq_some_iff.1 (Dq ks a q hka)).1
                rw [hw.len] at this
                exact this
              rw [List.getElem?_append_left hq]
              simp
        | some q =>
          have hq:q<cs.length:=by
            have:=(List.getElem?_eq_some_iff.1 (Dq ks e.Addr q hk)).1
            rw [hw.len] at this
            exact this
          show T ((cs[q]?).bind _) _
          obtain ⟨l,hl⟩:=Dt cs q _ hw.som (List.getElem?_eq_getElem hq)
          rw [List.getElem?_eq_getElem hq,hl]
          have hlen:l.length≤60:=by
            have h1:=hw.has e.Addr
            unfold AE at h1
            rw [hk] at h1
            dsimp only at h1
            rw [List.getElem?_eq_getElem hq,hl] at h1
            have h1:l=_:=h1
            rw [h1]
            have:=List.length_filter_le (yG c.Harts.flatten e.Addr) (c.Order.take i)
            rw [List.length_take] at this
            omega
          show T (grd _ _) _
          refine T.grd (fW (by omega)) ?_
          refine T.ret ⟨hil,av _ (by omega),by dsimp only; rw [List.length_set]; exact hw.len,by dsimp only; exact Du _ _ _ hw.som,fun a=>?_⟩
          dsimp only
          rw [qv c a i hil,hwa,← hw.has a]
          unfold AE
          by_cases ha:a=e.Addr
          · rw [ha,hk]
            dsimp only
            rw [List.getElem?_set_self hq,List.getElem?_eq_getElem hq,hl]
            simp
          · have:(e.Addr==a)=false:=by simp; exact fun h=>ha h.symm
            rw [this]
            cases hka:dy ey ks a with
            | none=>rfl
            | some p =>
              dsimp only
              have hpq:q≠p:=fun e2=>by
                subst e2
                have h1:=Dq ks a _ hka
                rw [Dq ks e.Addr _ hk] at h1
                exact ha (Option.some.inj h1).symm
              rw [List.getElem?_set_ne hpq]
              simp
      · refine T.ret ⟨hil,av _ (by omega),hw.len,hw.som,fun a=>?_⟩
        dsimp only
        rw [qv c a i hil,hwa,← hw.has a,hwr]
        simp
    · have:=bv cd
      have e:i=c.Order.length:=by omega
      subst e
      exact T.fin hw
  · refine T.grd ht.som ?_
    refine T.ret ⟨_,_,rfl,fun a=>?_,hl,hp⟩
    rw [GH a ht.len,ht.has a,List.take_of_length_le (Nat.le_refl _)]
    rfl
theorem FC (n:Nat) (c:af) {s:Int} (h:bU n c=some s) (hs:s≠0):dU n c.First c.Harts c.From c.Order=some (.inl ()):=by
  unfold dU
  rw [show bU n (af.mk c.First c.Harts c.From c.Order)=some s from h]
  show (if (s != 0)=true then _ else _)=_
  rw [if_pos (by simpa using hs)]
def g9 (all:List Event) (pl:List Int) (k w:Int):Bool :=
  match ak all w,ak pl w,ak pl k,ak all k with
  | some x,some a,some b,some e=>(w != k)&&(decide (a<b)||((x.Hart==e.Hart)&&decide (x.At<e.At)))
  | _,_,_,_=>false
def GI (all:List Event) (pl:List Int) (l:List Int) (k:Int):Int:=(l.reverse.find? (g9 all pl k)).getD (-1)
theorem Iv (l:List Int) (i:Nat) (hi:i<l.length):(l.drop (l.length - (i + 1))).reverse=(l.drop (l.length - i)).reverse++[l[l.length - (i + 1)]]:=by
  have h:l.length - (i + 1)<l.length:=by omega
  rw [List.drop_eq_getElem_cons h,List.reverse_cons]
  congr 3
  omega
theorem vB (n:Nat) (o1:List Cell) (o2:List (List Event)) (o3 o4:List Int) (w:List (Int×List Int)) (all:List Event) (pl:List Int) (k:Nat) (hk:k<all.length) (hp:pl.length=all.length) 
    (l:List Int) (hl:l.length≤60) (hv:∀ x∈l,∃ j:Nat,j<all.length∧x=(j:Int)) (hn:200≤n) :
    T (iter (fun s=>bq n (k:Int) o1 o2 o3 o4 w all pl all[k] s) n (l,(l.length:Int) - 1)) (fun t=>match t with | .inl _=>l.reverse.find? (g9 all pl (k:Int))=none | .inr x=>l.reverse.find? (g9 all pl (k:Int))=some x):=by
  refine T.loop l.length (fun i s=>s=(l,(l.length:Int) - 1 - (i:Int))∧(l.drop (l.length - i)).reverse.find? (g9 all pl (k:Int))=none) _ ?_ ⟨by simp,by simp⟩ (by omega)
  rintro i s hi ⟨rfl,hq⟩
  unfold bq
  dsimp only
  refine T.ite (fun cd=>?_) (fun cd=>?_)
  · have hc:=of_decide_eq_true cd
    have hil:i<l.length:=by omega
    refine T.get (l.length - (i + 1)) (by omega) (by omega) ?_
    have hmem:l[l.length - (i + 1)]'(by omega)∈l:=List.getElem_mem _
    have hrd:=Iv l i hil
    obtain ⟨j,hj,hxj⟩:=hv _ hmem
    generalize l[l.length - (i + 1)]'(by omega)=x at hxj hrd ⊢
    subst hxj
    refine T.get j rfl hj ?_
    have gk:ak all (k:Int)=some all[k]:=aS rfl hk
    have gj:ak all (j:Int)=some all[j]:=aS rfl hj
    have pk:ak pl (k:Int)=some (pl[k]'(by omega)):=aS rfl (by omega)
    have pj:ak pl (j:Int)=some (pl[j]'(by omega)):=aS rfl (by omega)
    have hcw:g9 all pl (k:Int) (j:Int)=(((j:Int) != (k:Int))&&(decide (pl[j]'(by omega)<pl[k]'(by omega))||((all[j].Hart==all[k].Hart)&&decide (all[j].At<all[k].At)))):=by
      unfold g9
      rw [gj,pj,pk,gk]
    have hsub:aJ .i64 ((l.length:Int) - 1 - (i:Int)) 1=(l.length:Int) - 1 - ((i + 1:Nat):Int):=by
      rw [yK (by omega) (by omega)]
      omega
    have nxt:g9 all pl (k:Int) (j:Int)=false→T (some (.inl (l,aJ .i64 ((l.length:Int) - 1 - (i:Int)) 1)):Option ((List Int×Int)⊕(Unit⊕Int))) (Rd (fun s'=>i<l.length∧(s'=(l,(l.length:Int) - 1 - ((i + 1:Nat):Int))∧(l.drop (l.length - (i + 1))).reverse.find? (g9 all pl (k:Int))=none)) (fun t=>match t with | .inl _=>l.reverse.find? (g9 all pl (k:Int))=none | .inr x=>l.reverse.find? (g9 all pl (k:Int))=some x)):=fun h=>by
      refine T.ret ⟨hil,by rw [hsub],?_⟩
      rw [hrd,List.find?_append,hq]
      simp [h]
    have rj:g9 all pl (k:Int) (j:Int)=true→T (some (.inr (.inr (j:Int))):Option ((List Int×Int)⊕(Unit⊕Int))) (Rd (fun s'=>i<l.length∧(s'=(l,(l.length:Int) - 1 - ((i + 1:Nat):Int))∧(l.drop (l.length - (i + 1))).reverse.find? (g9 all pl (k:Int))=none)) (fun t=>match t with | .inl _=>l.reverse.find? (g9 all pl (k:Int))=none | .inr x=>l.reverse.find? (g9 all pl (k:Int))=some x)):=fun h=>by
      refine T.fin ?_
      show l.reverse.find? _=some _
      have e:l.reverse=(l.drop (l.length - (i + 1))).reverse++(l.take (l.length - (i + 1))).reverse:=by
        rw [← List.reverse_append,List.take_append_drop]
      rw [e,List.find?_append,hrd,List.find?_append,hq]
      simp [h]
    refine T.ite (fun d1=>?_) (fun d1=>nxt (by rw [hcw,d1]; rfl))
    refine T.get j rfl (by omega) ?_
    refine T.get k rfl (by omega) ?_
    refine T.ite (fun d2=>rj (by rw [hcw,d1,d2]; rfl)) (fun d2=>?_)
    refine T.ite (fun d3=>?_) (fun d3=>nxt (by rw [hcw,d2,d3]; simp))
    exact T.ite (fun d4=>rj (by rw [hcw,d1,d2,d3,d4]; rfl)) (fun d4=>nxt (by rw [hcw,d2,d4]; simp))
  · have hc:=of_decide_eq_false cd
    have e:i=l.length:=by omega
    subst e
    refine T.fin ?_
    show l.reverse.find? _=none
    rw [Nat.sub_self,List.drop_zero] at hq
    exact hq
theorem BY {n:Nat} {c:af} (hr:bz n c) (a:Int):∀ x∈WL c a,∃ j:Nat,j<c.Harts.flatten.length∧x=(j:Int):=by
  intro x hx
  have h1:=(List.mem_filter.1 hx).1
  obtain ⟨i,hi,e⟩:=List.mem_iff_getElem.1 h1
  obtain ⟨j,hj,h2,_⟩:=hr.ord i hi
  exact ⟨j,hj,by rw [← e,h2]⟩
theorem EK {c:af} (hc:bP c) (a:Int):(WL c a).length≤60:=Nat.le_trans (List.length_filter_le _ _) hc.order
/-- From what a number should read, of a candidate. -/
def yH (c:af) (pl:List Int) (k:Nat) (hk:k<c.Harts.flatten.length):Int:=GI c.Harts.flatten pl (WL c c.Harts.flatten[k].Addr) (k:Int)
theorem BZ (n:Nat) (c:af) (hc:bP c) (hr:bz n c) (hn:200≤n) {w:List (Int×List Int)} {pl:List Int} (ct:gE c w pl) (k:Nat) (hk:k<c.Harts.flatten.length) (o1:List Cell) (o2:List (List Event)) (o3 o4:List Int) :
    ck n (k:Int) o1 o2 o3 o4 w c.Harts.flatten pl=some (yH c pl k hk):=by
  have key:T (ck n (k:Int) o1 o2 o3 o4 w c.Harts.flatten pl) (fun r=>r=yH c pl k hk):=by
    unfold ck
    refine T.get k rfl hk ?_
    have hh:=ct.has c.Harts.flatten[k].Addr
    have hlen:=EK hc c.Harts.flatten[k].Addr
    cases hm:jn ey w c.Harts.flatten[k].Addr with
    | none =>
      rw [hm] at hh
      have hh:[]=WL c c.Harts.flatten[k].Addr:=hh
      show T (Option.bind _ _) _
      refine T.bind (vB n o1 o2 o3 o4 w c.Harts.flatten pl k hk ct.len [] (by simp) (fun x hx=>by simp at hx) hn) (fun t ht=>?_)
      cases t with
      | inl u=>exact T.ret (by unfold yH GI; rw [← hh]; rfl)
      | inr x=>simp at ht
    | some l =>
      rw [hm] at hh
      have hh:l=WL c c.Harts.flatten[k].Addr:=hh
      subst hh
      show T (Option.bind _ _) _
      have e:aJ .i64 ((WL c c.Harts.flatten[k].Addr).length:Int) 1=((WL c c.Harts.flatten[k].Addr).length:Int) - 1:=yK (by omega) (by omega)
      rw [e]
      refine T.bind (vB n o1 o2 o3 o4 w c.Harts.flatten pl k hk ct.len _ hlen (BY hr _) hn) (fun t ht=>?_)
      cases t with
      | inl u =>
        refine T.ret ?_
        have ht:List.find? _ _=none:=ht
        unfold yH GI
        rw [ht]
        rfl
      | inr x =>
        refine T.ret ?_
        have ht:List.find? _ _=some x:=ht
        unfold yH GI
        rw [ht]
        rfl
  obtain ⟨r,h1,h2⟩:=key
  rw [h1,h2]
theorem Iw (n:Nat) (k:Int) (o1:List Cell) (o2:List (List Event)) (o3 o4:List Int) (w:List (Int×List Int)) (all:List Event) (pl:List Int):gm n k o1 o2 o3 o4 w all pl=ck n k o1 o2 o3 o4 w all pl:=rfl
theorem yA (n:Nat) (c:af) (hr:bz n c) (k:Nat) (hk:k<c.Harts.flatten.length) :
    (c.From[k]'(by rw [hr.fromLen]; exact hk)=-1∨∃ j:Nat,j<c.Harts.flatten.length∧c.From[k]'(by rw [hr.fromLen]; exact hk)=(j:Int))∧(nH c.Harts.flatten[k].Kind=false→c.From[k]'(by rw [hr.fromLen]; exact hk)=-1):=by
  have hk2:k<c.From.length:=by rw [hr.fromLen]; exact hk
  have h:=hr.froms k hk
  unfold cJ at h
  obtain ⟨x1,g1,h⟩:=B3 h
  rw [aS rfl hk] at g1
  have g1:=Option.some.inj g1
  subst g1
  obtain ⟨x2,g2,h⟩:=B3 h
  rw [aS rfl hk2] at g2
  have g2:=Option.some.inj g2
  rw [g2]
  clear g2
  obtain ⟨y3,g3,h⟩:=B3 h
  rw [jl] at g3
  have g3:=Option.some.inj g3
  subst g3
  rcases GQ h with ⟨d,h⟩ | ⟨d,h⟩
  · have h:=Option.some.inj h
    have h:x2=-1:=by simpa using h
    exact ⟨.inl h,fun _=>h⟩
  · have d:nH c.Harts.flatten[k].Kind=true:=by simpa using d
    refine ⟨?_,fun h0=>by rw [d] at h0; cases h0⟩
    rcases GQ h with ⟨d1,h⟩ | ⟨d1,h⟩
    · exact .inl (by simpa using d1)
    · rcases GQ h with ⟨d2,h⟩ | ⟨d2,h⟩
      · cases h
      · rcases GQ h with ⟨d3,h⟩ | ⟨d3,h⟩
        · cases h
        · have d2:=of_decide_eq_false d2
          have d3:=of_decide_eq_false d3
          exact .inr ⟨x2.toNat,by omega,by omega⟩
theorem Lf (n:Nat) (c:af) (hc:bP c) (hr:bz n c) (hn:200≤n) {w:List (Int×List Int)} {pl:List Int} (ct:gE c w pl) :
    T (dA n c.First c.Harts c.From c.Order w c.Harts.flatten pl) (fun r=>r.1=true→∀ (k:Nat) (hk:k<c.Harts.flatten.length),nH c.Harts.flatten[k].Kind=true→c.From[k]'(by rw [hr.fromLen]; exact hk)=yH c pl k hk):=by
  have hf:=hc.all
  unfold dA
  refine T.bind (P:=fun t=>match t with | .inl _=>∀ (k:Nat) (hk:k<c.Harts.flatten.length),nH c.Harts.flatten[k].Kind=true→c.From[k]'(by rw [hr.fromLen]; exact hk)=yH c pl k hk | .inr x=>x.1=false) ?_ (fun t ht=>?_)
  · refine T.loop c.Harts.flatten.length (fun i s=>s=(i:Int)∧∀ (k:Nat) (hk:k<c.Harts.flatten.length),k<i→nH c.Harts.flatten[k].Kind=true→c.From[k]'(by rw [hr.fromLen]; exact hk)=yH c pl k hk) _ ?_ ⟨rfl,fun k hk h=>by omega⟩ (by omega)
    rintro i s hi ⟨rfl,hq⟩
    unfold bw
    refine T.ite (fun cd=>?_) (fun cd=>?_)
    · have hil:=aY cd
      refine T.get i rfl hil ?_
      refine T.eqb (e_ _ _) ?_
      refine T.ite (fun d=>?_) (fun d=>?_)
      · refine T.ret ⟨hil,av _ (by omega),fun k hk hki hrd=>?_⟩
        by_cases e:k=i
        · subst e
          rw [hrd] at d
          cases d
        · exact hq k hk (by omega) hrd
      · refine T.eqb (BZ n c hc hr hn ct i hil _ _ _ _) ?_
        refine T.get i rfl (by rw [hr.fromLen]; exact hil) ?_
        refine T.ite (fun d2=>?_) (fun d2=>?_)
        · refine T.eqb (show eC n 3 _ _=some _ from rfl) ?_
          exact T.fin rfl
        · have d2:yH c pl i hil=c.From[i]'(by rw [hr.fromLen]; exact hil):=by simpa using d2
          refine T.ret ⟨hil,av _ (by omega),fun k hk hki hrd=>?_⟩
          by_cases e:k=i
          · subst e
            exact d2.symm
          · exact hq k hk (by omega) hrd
    · have:=bv cd
      exact T.fin (fun k hk hrd=>hq k hk (by omega) hrd)
  · cases t with
    | inl u=>exact T.ret (fun _=>ht)
    | inr x =>
      refine T.ret (fun h=>?_)
      have ht:x.1=false:=ht
      rw [ht] at h
      cases h

end Go.Proofs.YtomahedcdcnnhaaGreatDoor
