/- A court: who wrote where, in order; what a number should read from. Plain facts; nothing is claimed of the program here. -/
import Derived.Test.YtomahedcdcnnhaaGreatDoorX1
namespace Go.Proofs.YtomahedcdcnnhaaGreatDoor
open Go A

theorem tR (e:Int) (ks:List Int) (a:Int):dZ gl (e::ks) a=if a=e then some 0 else (dZ gl ks a).map (· + 1):=by
 show (if gl a e=true then some 0 else (dZ gl ks a).map (· + 1))=_
 by_cases h:a=e
 ·rw [if_pos h,if_pos (by unfold gl; simp [h])]
 ·rw [if_neg h,if_neg (by unfold gl; simp [h])]
theorem Dq:∀ (ks:List Int) (a:Int) (j:Nat),dZ gl ks a=some j→ks[j]?=some a
 | [],_,_,h=>by cases h
 | e::ks,a,j,h=>by
  rw [tR] at h
  split at h
  ·rename_i he
   cases h
   rw [he]
   rfl
  ·rw [Option.map_eq_some_iff] at h
   obtain ⟨j',h1,rfl⟩:=h
   simpa using Dq ks a j' h1
theorem JB (k a:Int):∀ ks:List Int,dZ gl (ks++[k]) a=match dZ gl ks a with | some j=>some j | none=>if a=k then some ks.length else none
 | []=>by
  show dZ gl [k] a=_
  rw [tR]
  rfl
 | e::ks=>by
  rw [List.cons_append,tR,JB k a ks,tR]
  by_cases h:a=e
  ·rw [if_pos h,if_pos h]
  ·rw [if_neg h,if_neg h]
   cases dZ gl ks a with
   | some j=>rfl
   | none =>
    by_cases h2:a=k
    ·rw [if_pos h2]
     show _=if a=k then some (e::ks).length else none
     rw [if_pos h2]
     rfl
    ·rw [if_neg h2]
     show _=if a=k then some (e::ks).length else none
     rw [if_neg h2]
     rfl
def AH (ks:List Int) (cs:List (Option (List Int))) (a:Int):List Int :=
 match dZ gl ks a with
 | none=>[]
 | some j=>(cs[j]?.getD none).getD []
theorem Dr (a:Int):∀ (ks:List Int) (cs:List (Option (List Int))),ks.length=cs.length→ll gl (BZ ks cs) a=(dZ gl ks a).map fun j=>(cs[j]?.getD none).getD []
 | [],_,_=>by
  cases ‹List (Option (List Int))› <;> rfl
 | _::_,[],h=>by simp at h
 | k::ks,c::cs,h=>by
  rw [tR]
  show (if gl a k=true then some (c.getD []) else ll gl (BZ ks cs) a)=_
  by_cases e:a=k
  ·rw [if_pos e,if_pos (by unfold gl; simp [e])]
   rfl
  ·rw [if_neg e,if_neg (by unfold gl; simp [e]),Dr a ks cs (by simpa using h),Option.map_map]
   rfl
theorem Ha (a:Int) {ks:List Int} {cs:List (Option (List Int))} (h:ks.length=cs.length):(ll gl (BZ ks cs) a).getD []=AH ks cs a:=by
 rw [Dr a ks cs h]
 unfold AH
 cases dZ gl ks a <;> rfl
theorem Ds (c:Option (List Int)):∀ cs:List (Option (List Int)),pg (cs++[c])=(pg cs&&c.isSome)
 | []=>by show (c.isSome&&true)=(true&&c.isSome); cases c.isSome <;> rfl
 | d::cs=>by
  show (d.isSome&&pg (cs++[c]))=((d.isSome&&pg cs)&&c.isSome)
  rw [Ds c cs,Bool.and_assoc]
theorem Dt:∀ (cs:List (Option (List Int))) (j:Nat) (x:Option (List Int)),pg cs=true→cs[j]?=some x→∃ l,x=some l
 | [],j,x,_,h=>by simp at h
 | d::cs,0,x,h,hx=>by
  simp at hx
  subst hx
  unfold pg at h
  rw [Bool.and_eq_true] at h
  exact Option.isSome_iff_exists.1 h.1
 | d::cs,j + 1,x,h,hx=>by
  unfold pg at h
  rw [Bool.and_eq_true] at h
  exact Dt cs j x h.2 (by simpa using hx)
theorem Du (l:List Int):∀ (cs:List (Option (List Int))) (j:Nat),pg cs=true→pg (cs.set j (some l))=true
 | [],_,h=>h
 | d::cs,0,h=>by
  unfold pg at h ⊢
  rw [Bool.and_eq_true] at h
  show (true&&pg cs)=true
  rw [h.2]
  rfl
 | d::cs,j + 1,h=>by
  unfold pg at h
  rw [Bool.and_eq_true] at h
  show (d.isSome&&pg (cs.set j (some l)))=true
  rw [h.1,Du l cs j h.2]
  rfl
def JN (all:List Event) (a o:Int):Bool:=match au all o with | some e=>mw e.Kind&&(e.Addr==a) | none=>false
def WL (c:af) (a:Int):List Int:=c.bt.filter (JN c.am.flatten a)
theorem qt (c:af) (a:Int) (i:Nat) (hi:i<c.bt.length):(c.bt.take (i + 1)).filter (JN c.am.flatten a)=(c.bt.take i).filter (JN c.am.flatten a)++if JN c.am.flatten a c.bt[i]=true then [c.bt[i]] else []:=by
 rw [List.take_succ_eq_append_getElem hi,List.filter_append]
 congr 1
 cases h:JN c.am.flatten a c.bt[i] <;> simp [h]
structure WR (c:af) (i:Nat) (ks:List Int) (cs:List (Option (List Int))):Prop where
 len:ks.length=cs.length
 som:pg cs=true
 has:∀ a,AH ks cs a=(c.bt.take i).filter (JN c.am.flatten a)
structure rm (c:af) (w:List (Int×List Int)) (pl:List Int):Prop where
 has:∀ a,(ll gl w a).getD []=WL c a
 len:pl.length=c.am.flatten.length
 plc:sw c pl c.bt.length
theorem R2 (n:Nat) (c:af) (hc:cS c) (hr:cK n c) (hn:200≤n) :
  T (iD n c.gc c.am c.la c.bt) (fun r=>∃ w pl,r=.inr (w,c.am.flatten,pl)∧rm c w pl):=by
 have hf:=hc.all
 have hor:=hc.order
 have h0:=sv n c hc hn hr
 unfold iD
 refine T.eqb h0 ?_
 refine T.ite (fun d=>by simp at d) (fun _=>?_)
 refine T.eqb (TS n c hc hn h0) ?_
 refine T.bind (Lj n c hc hn h0 hr) (fun pl ⟨hl,hp⟩=>?_)
 refine T.bind (P:=fun t=>WR c c.bt.length t.1 t.2) ?_ (fun t ht=>?_)
 ·refine T.loop c.bt.length (fun i s=>s.2=(i:Int)∧WR c i s.1.1 s.1.2) _ ?_ ⟨rfl,rfl,rfl,fun a=>rfl⟩ (by omega)
  rintro i ⟨⟨ks,cs⟩,s2⟩ hi ⟨e1,hw⟩
  dsimp only at e1 hw
  subst e1
  unfold kp
  refine T.ite (fun cd=>?_) (fun cd=>?_)
  ·have hil:=bp cd
   obtain ⟨j,hj,hoj,_⟩:=hr.ord i hil
   refine T.get i rfl hil ?_
   refine T.get j hoj (by omega) ?_
   refine T.eqb (fu _ _) ?_
   have hg:au c.am.flatten c.bt[i]=some c.am.flatten[j]:=cG hoj hj
   have hwa:∀ a,JN c.am.flatten a c.bt[i]=(mw c.am.flatten[j].Kind&&(c.am.flatten[j].Addr==a)):=fun a=>by unfold JN; rw [hg]
   generalize c.am.flatten[j]=e at hwa ⊢
   refine T.ite (fun hwr=>?_) (fun hwr=>?_)
   ·have hwa:∀ a,JN c.am.flatten a c.bt[i]=(e.Addr==a):=fun a=>by rw [hwa,hwr]; rfl
    cases hk:dZ gl ks e.Addr with
    | none =>
     refine T.ret ⟨hil,aG _ (by omega),by dsimp only; simp [hw.len],by dsimp only; rw [Ds,hw.som]; rfl,fun a=>?_⟩
     dsimp only
     rw [qt c a i hil,hwa,← hw.has a]
     unfold AH
     rw [JB]
     by_cases ha:a=e.Addr
     ·rw [ha,hk]
      dsimp only
      rw [if_pos rfl]
      dsimp only
      rw [hw.len,List.getElem?_append_right (Nat.le_refl _),Nat.sub_self]
      simp
     ·have:(e.Addr==a)=false:=by simp; exact fun h=>ha h.symm
      rw [this]
      cases hka:dZ gl ks a with
      | none=>dsimp only; rw [if_neg ha]; rfl
      | some q =>
       dsimp only
       have hq:q<cs.length:=by
        have:=(List.getElem?_eq_some_iff.1 (Dq ks a q hka)).1
        rw [hw.len] at this
        exact this
       rw [List.getElem?_append_left hq]
       simp
    | some q =>
     have hq:q<cs.length:=by
      have:=(List.getElem?_eq_some_iff.1 (Dq ks e.Addr q hk)).1
      rw [hw.len] at this
      exact this
     show T ((cs[q]?).bind _) _
     obtain ⟨l,hl⟩:=Dt cs q _ hw.som (List.getElem?_eq_getElem hq)
     rw [List.getElem?_eq_getElem hq,hl]
     have hlen:l.length≤60:=by
      have h1:=hw.has e.Addr
      unfold AH at h1
      rw [hk] at h1
      dsimp only at h1
      rw [List.getElem?_eq_getElem hq,hl] at h1
      have h1:l=_:=h1
      rw [h1]
      have:=List.length_filter_le (JN c.am.flatten e.Addr) (c.bt.take i)
      rw [List.length_take] at this
      omega
     show T (grd _ _) _
     refine T.grd (gh (by omega)) ?_
     refine T.ret ⟨hil,aG _ (by omega),by dsimp only; rw [List.length_set]; exact hw.len,by dsimp only; exact Du _ _ _ hw.som,fun a=>?_⟩
     dsimp only
     rw [qt c a i hil,hwa,← hw.has a]
     unfold AH
     by_cases ha:a=e.Addr
     ·rw [ha,hk]
      dsimp only
      rw [List.getElem?_set_self hq,List.getElem?_eq_getElem hq,hl]
      simp
     ·have:(e.Addr==a)=false:=by simp; exact fun h=>ha h.symm
      rw [this]
      cases hka:dZ gl ks a with
      | none=>rfl
      | some p =>
       dsimp only
       have hpq:q≠p:=fun e2=>by
        subst e2
        have h1:=Dq ks a _ hka
        rw [Dq ks e.Addr _ hk] at h1
        exact ha (Option.some.inj h1).symm
       rw [List.getElem?_set_ne hpq]
       simp
   ·refine T.ret ⟨hil,aG _ (by omega),hw.len,hw.som,fun a=>?_⟩
    dsimp only
    rw [qt c a i hil,hwa,← hw.has a,hwr]
    simp
  ·have:=bI cd
   have e:i=c.bt.length:=by omega
   subst e
   exact T.fin hw
 ·refine T.grd ht.som ?_
  refine T.ret ⟨_,_,rfl,fun a=>?_,hl,hp⟩
  rw [Ha a ht.len,ht.has a,List.take_of_length_le (Nat.le_refl _)]
  rfl
theorem Ll (n:Nat) (c:af) {s:Int} (h:ci n c=some s) (hs:s≠0):iD n c.gc c.am c.la c.bt=some (.inl ()):=by
 unfold iD
 rw [show ci n (af.mk c.gc c.am c.la c.bt)=some s from h]
 show (if (s != 0)=true then _ else _)=_
 rw [if_pos (by simpa using hs)]
def mX (all:List Event) (pl:List Int) (k w:Int):Bool :=
 match au all w,au pl w,au pl k,au all k with
 | some x,some a,some b,some e=>(w != k)&&(decide (a<b)||((x.Hart==e.Hart)&&decide (x.At<e.At)))
 | _,_,_,_=>false
def Lm (all:List Event) (pl:List Int) (l:List Int) (k:Int):Int:=(l.reverse.find? (mX all pl k)).getD (-1)
theorem JC (l:List Int) (i:Nat) (hi:i<l.length):(l.drop (l.length - (i + 1))).reverse=(l.drop (l.length - i)).reverse++[l[l.length - (i + 1)]]:=by
 have h:l.length - (i + 1)<l.length:=by omega
 rw [List.drop_eq_getElem_cons h,List.reverse_cons]
 congr 3
 omega
theorem vJ (n:Nat) (o1:List Cell) (o2:List (List Event)) (o3 o4:List Int) (w:List (Int×List Int)) (all:List Event) (pl:List Int) (k:Nat) (hk:k<all.length) (hp:pl.length=all.length) 
  (l:List Int) (hl:l.length≤60) (hv:∀ x∈l,∃ j:Nat,j<all.length∧x=(j:Int)) (hn:200≤n) :
  T (iter (fun s=>bU n (k:Int) o1 o2 o3 o4 w all pl all[k] s) n (l,(l.length:Int) - 1)) (fun t=>match t with | .inl _=>l.reverse.find? (mX all pl (k:Int))=none | .inr x=>l.reverse.find? (mX all pl (k:Int))=some x):=by
 refine T.loop l.length (fun i s=>s=(l,(l.length:Int) - 1 - (i:Int))∧(l.drop (l.length - i)).reverse.find? (mX all pl (k:Int))=none) _ ?_ ⟨by simp,by simp⟩ (by omega)
 rintro i s hi ⟨rfl,hq⟩
 unfold bU
 dsimp only
 refine T.ite (fun cd=>?_) (fun cd=>?_)
 ·have hc:=of_decide_eq_true cd
  have hil:i<l.length:=by omega
  refine T.get (l.length - (i + 1)) (by omega) (by omega) ?_
  have hmem:l[l.length - (i + 1)]'(by omega)∈l:=List.getElem_mem _
  have hrd:=JC l i hil
  obtain ⟨j,hj,hxj⟩:=hv _ hmem
  generalize l[l.length - (i + 1)]'(by omega)=x at hxj hrd ⊢
  subst hxj
  refine T.get j rfl hj ?_
  have gk:au all (k:Int)=some all[k]:=cG rfl hk
  have gj:au all (j:Int)=some all[j]:=cG rfl hj
  have pk:au pl (k:Int)=some (pl[k]'(by omega)):=cG rfl (by omega)
  have pj:au pl (j:Int)=some (pl[j]'(by omega)):=cG rfl (by omega)
  have hcw:mX all pl (k:Int) (j:Int)=(((j:Int) != (k:Int))&&(decide (pl[j]'(by omega)<pl[k]'(by omega))||((all[j].Hart==all[k].Hart)&&decide (all[j].At<all[k].At)))):=by
   unfold mX
   rw [gj,pj,pk,gk]
  have hsub:dM .i64 ((l.length:Int) - 1 - (i:Int)) 1=(l.length:Int) - 1 - ((i + 1:Nat):Int):=by
   rw [B1 (by omega) (by omega)]
   omega
  have nxt:mX all pl (k:Int) (j:Int)=false→T (some (.inl (l,dM .i64 ((l.length:Int) - 1 - (i:Int)) 1)):Option ((List Int×Int)⊕(Unit⊕Int))) (Rd (fun s'=>i<l.length∧(s'=(l,(l.length:Int) - 1 - ((i + 1:Nat):Int))∧(l.drop (l.length - (i + 1))).reverse.find? (mX all pl (k:Int))=none)) (fun t=>match t with | .inl _=>l.reverse.find? (mX all pl (k:Int))=none | .inr x=>l.reverse.find? (mX all pl (k:Int))=some x)):=fun h=>by
   refine T.ret ⟨hil,by rw [hsub],?_⟩
   rw [hrd,List.find?_append,hq]
   simp [h]
  have sB:mX all pl (k:Int) (j:Int)=true→T (some (.inr (.inr (j:Int))):Option ((List Int×Int)⊕(Unit⊕Int))) (Rd (fun s'=>i<l.length∧(s'=(l,(l.length:Int) - 1 - ((i + 1:Nat):Int))∧(l.drop (l.length - (i + 1))).reverse.find? (mX all pl (k:Int))=none)) (fun t=>match t with | .inl _=>l.reverse.find? (mX all pl (k:Int))=none | .inr x=>l.reverse.find? (mX all pl (k:Int))=some x)):=fun h=>by
   refine T.fin ?_
   show l.reverse.find? _=some _
   have e:l.reverse=(l.drop (l.length - (i + 1))).reverse++(l.take (l.length - (i + 1))).reverse:=by
    rw [← List.reverse_append,List.take_append_drop]
   rw [e,List.find?_append,hrd,List.find?_append,hq]
   simp [h]
  refine T.ite (fun d1=>?_) (fun d1=>nxt (by rw [hcw,d1]; rfl))
  refine T.get j rfl (by omega) ?_
  refine T.get k rfl (by omega) ?_
  refine T.ite (fun d2=>sB (by rw [hcw,d1,d2]; rfl)) (fun d2=>?_)
  refine T.ite (fun d3=>?_) (fun d3=>nxt (by rw [hcw,d2,d3]; simp))
  exact T.ite (fun d4=>sB (by rw [hcw,d1,d2,d3,d4]; rfl)) (fun d4=>nxt (by rw [hcw,d2,d4]; simp))
 ·have hc:=of_decide_eq_false cd
  have e:i=l.length:=by omega
  subst e
  refine T.fin ?_
  show l.reverse.find? _=none
  rw [Nat.sub_self,List.drop_zero] at hq
  exact hq
theorem JD {n:Nat} {c:af} (hr:cK n c) (a:Int):∀ x∈WL c a,∃ j:Nat,j<c.am.flatten.length∧x=(j:Int):=by
 intro x hx
 have h1:=(List.mem_filter.1 hx).1
 obtain ⟨i,hi,e⟩:=List.mem_iff_getElem.1 h1
 obtain ⟨j,hj,h2,_⟩:=hr.ord i hi
 exact ⟨j,hj,by rw [← e,h2]⟩
theorem JE {c:af} (hc:cS c) (a:Int):(WL c a).length≤60:=Nat.le_trans (List.length_filter_le _ _) hc.order
/-- la what a number should read, of a candidate. -/
def JF (c:af) (pl:List Int) (k:Nat) (hk:k<c.am.flatten.length):Int:=Lm c.am.flatten pl (WL c c.am.flatten[k].Addr) (k:Int)
theorem Ln (n:Nat) (c:af) (hc:cS c) (hr:cK n c) (hn:200≤n) {w:List (Int×List Int)} {pl:List Int} (ct:rm c w pl) (k:Nat) (hk:k<c.am.flatten.length) (o1:List Cell) (o2:List (List Event)) (o3 o4:List Int) :
  cz n (k:Int) o1 o2 o3 o4 w c.am.flatten pl=some (JF c pl k hk):=by
 have key:T (cz n (k:Int) o1 o2 o3 o4 w c.am.flatten pl) (fun r=>r=JF c pl k hk):=by
  unfold cz
  refine T.get k rfl hk ?_
  have hh:=ct.has c.am.flatten[k].Addr
  have hlen:=JE hc c.am.flatten[k].Addr
  cases hm:ll gl w c.am.flatten[k].Addr with
  | none =>
   rw [hm] at hh
   have hh:[]=WL c c.am.flatten[k].Addr:=hh
   show T (Option.bind _ _) _
   refine T.bind (vJ n o1 o2 o3 o4 w c.am.flatten pl k hk ct.len [] (by simp) (fun x hx=>by simp at hx) hn) (fun t ht=>?_)
   cases t with
   | inl u=>exact T.ret (by unfold JF Lm; rw [← hh]; rfl)
   | inr x=>simp at ht
  | some l =>
   rw [hm] at hh
   have hh:l=WL c c.am.flatten[k].Addr:=hh
   subst hh
   show T (Option.bind _ _) _
   have e:dM .i64 ((WL c c.am.flatten[k].Addr).length:Int) 1=((WL c c.am.flatten[k].Addr).length:Int) - 1:=B1 (by omega) (by omega)
   rw [e]
   refine T.bind (vJ n o1 o2 o3 o4 w c.am.flatten pl k hk ct.len _ hlen (JD hr _) hn) (fun t ht=>?_)
   cases t with
   | inl u =>
    refine T.ret ?_
    have ht:List.find? _ _=none:=ht
    unfold JF Lm
    rw [ht]
    rfl
   | inr x =>
    refine T.ret ?_
    have ht:List.find? _ _=some x:=ht
    unfold JF Lm
    rw [ht]
    rfl
 obtain ⟨r,h1,h2⟩:=key
 rw [h1,h2]
theorem EX (n:Nat) (c:af) (hr:cK n c) (k:Nat) (hk:k<c.am.flatten.length) :
  (c.la[k]'(by rw [hr.fromLen]; exact hk)=-1∨∃ j:Nat,j<c.am.flatten.length∧c.la[k]'(by rw [hr.fromLen]; exact hk)=(j:Int))∧(nT c.am.flatten[k].Kind=false→c.la[k]'(by rw [hr.fromLen]; exact hk)=-1):=by
 have hk2:k<c.la.length:=by rw [hr.fromLen]; exact hk
 have h:=hr.froms k hk
 unfold cO at h
 obtain ⟨x1,g1,h⟩:=ab h
 rw [cG rfl hk] at g1
 have g1:=Option.some.inj g1
 subst g1
 obtain ⟨x2,g2,h⟩:=ab h
 rw [cG rfl hk2] at g2
 have g2:=Option.some.inj g2
 rw [g2]
 clear g2
 obtain ⟨y3,g3,h⟩:=ab h
 rw [lf] at g3
 have g3:=Option.some.inj g3
 subst g3
 rcases ao h with ⟨d,h⟩ | ⟨d,h⟩
 ·have h:=Option.some.inj h
  have h:x2=-1:=by simpa using h
  exact ⟨.inl h,fun _=>h⟩
 ·have d:nT c.am.flatten[k].Kind=true:=by simpa using d
  refine ⟨?_,fun h0=>by rw [d] at h0; cases h0⟩
  rcases ao h with ⟨d1,h⟩ | ⟨d1,h⟩
  ·exact .inl (by simpa using d1)
  ·rcases ao h with ⟨d2,h⟩ | ⟨d2,h⟩
   ·cases h
   ·rcases ao h with ⟨d3,h⟩ | ⟨d3,h⟩
    ·cases h
    ·have d2:=of_decide_eq_false d2
     have d3:=of_decide_eq_false d3
     exact .inr ⟨x2.toNat,by omega,by omega⟩
theorem Oz (n:Nat) (c:af) (hc:cS c) (hr:cK n c) (hn:200≤n) {w:List (Int×List Int)} {pl:List Int} (ct:rm c w pl) :
  T (dS n c.gc c.am c.la c.bt w c.am.flatten pl) (fun r=>r.1=true→∀ (k:Nat) (hk:k<c.am.flatten.length),nT c.am.flatten[k].Kind=true→c.la[k]'(by rw [hr.fromLen]; exact hk)=JF c pl k hk):=by
 have hf:=hc.all
 unfold dS
 refine T.bind (P:=fun t=>match t with | .inl _=>∀ (k:Nat) (hk:k<c.am.flatten.length),nT c.am.flatten[k].Kind=true→c.la[k]'(by rw [hr.fromLen]; exact hk)=JF c pl k hk | .inr x=>x.1=false) ?_ (fun t ht=>?_)
 ·refine T.loop c.am.flatten.length (fun i s=>s=(i:Int)∧∀ (k:Nat) (hk:k<c.am.flatten.length),k<i→nT c.am.flatten[k].Kind=true→c.la[k]'(by rw [hr.fromLen]; exact hk)=JF c pl k hk) _ ?_ ⟨rfl,fun k hk h=>by omega⟩ (by omega)
  rintro i s hi ⟨rfl,hq⟩
  unfold dW
  refine T.ite (fun cd=>?_) (fun cd=>?_)
  ·have hil:=bp cd
   refine T.get i rfl hil ?_
   refine T.eqb (gf _ _) ?_
   refine T.ite (fun d=>?_) (fun d=>?_)
   ·refine T.ret ⟨hil,aG _ (by omega),fun k hk hki hrd=>?_⟩
    by_cases e:k=i
    ·subst e
     rw [hrd] at d
     cases d
    ·exact hq k hk (by omega) hrd
   ·refine T.eqb (Ln n c hc hr hn ct i hil _ _ _ _) ?_
    refine T.get i rfl (by rw [hr.fromLen]; exact hil) ?_
    refine T.ite (fun d2=>?_) (fun d2=>?_)
    ·refine T.eqb (show eU n 3 _ _=some _ from rfl) ?_
     exact T.fin rfl
    ·have d2:JF c pl i hil=c.la[i]'(by rw [hr.fromLen]; exact hil):=by simpa using d2
     refine T.ret ⟨hil,aG _ (by omega),fun k hk hki hrd=>?_⟩
     by_cases e:k=i
     ·subst e
      exact d2.symm
     ·exact hq k hk (by omega) hrd
  ·have:=bI cd
   exact T.fin (fun k hk hrd=>hq k hk (by omega) hrd)
 ·cases t with
  | inl u=>exact T.ret (fun _=>ht)
  | inr x =>
   refine T.ret (fun h=>?_)
   have ht:x.1=false:=ht
   rw [ht] at h
   cases h

end Go.Proofs.YtomahedcdcnnhaaGreatDoor
