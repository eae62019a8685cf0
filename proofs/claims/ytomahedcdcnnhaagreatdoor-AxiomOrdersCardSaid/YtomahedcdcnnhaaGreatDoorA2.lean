/- The three axioms, and what an allowed candidate has. Plain facts; nothing is claimed of the program here. -/
import Derived.Test.YtomahedcdcnnhaaGreatDoorA1
namespace Go.Proofs.YtomahedcdcnnhaaGreatDoor
open Go A

/-! ### bt -/
def R4 (n:Nat) (c:af) (pl:List Int):Prop:=∃ v,wj c v∧lN n c=some (some v)∧tP n c v∧∀ x y:Nat,∀ hx:x<pl.length,∀ hy:y<pl.length,0<rv n v x y→pl[x]≤pl[y]
theorem OA (n:Nat) (c:af) (hc:cS c) (hr:cK n c) (hn:4000≤n) {w:List (Int×List Int)} {pl:List Int} (ct:rm c w pl) :
  T (dQ n c.gc c.am c.la c.bt w c.am.flatten pl) (fun r=>r.1=true→R4 n c pl):=by
 have hf:=hc.all
 obtain ⟨_,hof,v,rfl,hv⟩:=Vk n c hc (by omega) hr
 have R:=EU n c v hv hc hr (by omega)
 have hpl:=ct.len
 unfold dQ
 refine T.bind (x:=lE n c) (Ox n c v hv hof hr R hf (by omega)) (fun ps hps=>?_)
 have hlen:=hps.len
 refine T.bind (P:=fun t=>match t with | .inl _=>∀ (i:Nat) (hi:i<ps.length),∀ x y:Nat,∀ hx:x<pl.length,∀ hy:y<pl.length,ps[i]=b_.mk (x:Int) (y:Int)→pl[x]≤pl[y] | .inr x=>x.1=false) ?_ (fun t ht=>?_)
 ·refine T.loop ps.length (fun i s=>s=(i:Int)∧∀ (k:Nat) (hk:k<ps.length),k<i→∀ x y:Nat,∀ hx:x<pl.length,∀ hy:y<pl.length,ps[k]=b_.mk (x:Int) (y:Int)→pl[x]≤pl[y]) _ ?_ ⟨rfl,fun k hk h=>by omega⟩ (by omega)
  rintro i s hi ⟨rfl,hq⟩
  unfold dV
  refine T.ite (fun cd=>?_) (fun cd=>?_)
  ·have hil:=bp cd
   refine T.get i rfl hil ?_
   obtain ⟨x,y,hxy,hx,hy,_⟩:=hps.el _ (List.getElem_mem hil)
   refine T.get x (by rw [hxy]) (by omega) ?_
   refine T.get y (by rw [hxy]) (by omega) ?_
   refine T.ite (fun d=>?_) (fun d=>?_)
   ·refine T.eqb (show eU n 2 _ _=some _ from rfl) ?_
    exact T.fin rfl
   ·have d:=of_decide_eq_false d
    refine T.ret ⟨hil,aG _ (by omega),fun k hk hki x' y' hx' hy' e=>?_⟩
    by_cases ek:k=i
    ·subst ek
     rw [hxy] at e
     have e1:=congrArg b_.e0 e
     have e2:=congrArg b_.e1 e
     dsimp only at e1 e2
     have e1:x=x':=by omega
     have e2:y=y':=by omega
     subst e1 e2
     omega
    ·exact hq k hk (by omega) x' y' hx' hy' e
  ·have:=bI cd
   exact T.fin (fun k hk x y hx hy e=>hq k hk (by omega) x y hx hy e)
 ·cases t with
  | inl u =>
   refine T.ret (fun _=>⟨v,hv,hof,R,fun x y hx hy hp=>?_⟩)
   have hm:=hps.all x y (by omega) (by omega) hp (.inl (by omega))
   obtain ⟨i,hi,e⟩:=List.mem_iff_getElem.1 hm
   exact ht i hi x y hx hy e
  | inr x =>
   refine T.ret (fun h=>?_)
   have ht:x.1=false:=ht
   rw [ht] at h
   cases h

/-! ### Pairs -/
theorem Lo (n:Nat) (o1:List Cell) (o2:List (List Event)) (o3 o4:List Int) (w:List (Int×List Int)) (all:List Event) (pl:List Int) (k:Nat) (hk:k<all.length) (hp:pl.length=all.length) (lr fr:Int)
  (l:List Int) (hl:l.length≤60) (hv:∀ x∈l,∃ j:Nat,j<all.length∧x=(j:Int)) (hn:200≤n) :
  T (iter (fun s=>bm n o1 o2 o3 o4 w all pl all[k] s) n ((k:Int),(k:Int),lr,fr,l,(l.length:Int),0)) (fun t=>match t with
   | .inl x=>x=(k:Int)∧∀ (j:Nat) (hj:j<all.length),(j:Int)∈l→¬ (fr<pl[j]'(by omega)∧pl[j]'(by omega)<pl[k]'(by omega)∧all[j].Hart≠all[k].Hart)
   | .inr x=>x.1=false):=by
 refine T.loop l.length (fun i s=>s=((k:Int),(k:Int),lr,fr,l,(l.length:Int),(i:Int))∧∀ (q:Nat) (hq:q<l.length),q<i→∀ (j:Nat) (hj:j<all.length),(j:Int)=l[q]→¬ (fr<pl[j]'(by omega)∧pl[j]'(by omega)<pl[k]'(by omega)∧all[j].Hart≠all[k].Hart)) _ ?_ ⟨rfl,fun q hq h=>by omega⟩ (by omega)
 rintro i s hi ⟨rfl,hq⟩
 unfold bm
 dsimp only
 refine T.ite (fun cd=>?_) (fun cd=>?_)
 ·have hil:=bp cd
  obtain ⟨j,hj,hxj⟩:=hv _ (List.getElem_mem hil)
  have nxt:¬ (fr<pl[j]'(by omega)∧pl[j]'(by omega)<pl[k]'(by omega)∧all[j].Hart≠all[k].Hart)→i<l.length∧(((k:Int),(k:Int),lr,fr,l,(l.length:Int),ah .i64 (i:Int) 1)=((k:Int),(k:Int),lr,fr,l,(l.length:Int),((i + 1:Nat):Int))∧∀ (q:Nat) (hq:q<l.length),q<i + 1→∀ (j:Nat) (hj:j<all.length),(j:Int)=l[q]→¬ (fr<pl[j]'(by omega)∧pl[j]'(by omega)<pl[k]'(by omega)∧all[j].Hart≠all[k].Hart)):=fun hno=>by
   refine ⟨hil,by rw [aG _ (by omega)],fun q hql hqi j' hj' e=>?_⟩
   by_cases eq:q=i
   ·subst eq
    rw [hxj] at e
    have e:j'=j:=by omega
    subst e
    exact hno
   ·exact hq q hql (by omega) j' hj' e
  refine T.get i rfl hil ?_
  refine T.get j hxj (by omega) ?_
  refine T.ite (fun d1=>?_) (fun d1=>T.ret (nxt (fun h=>by have:=of_decide_eq_false d1; omega)))
  refine T.get k rfl (by omega) ?_
  refine T.ite (fun d2=>?_) (fun d2=>T.ret (nxt (fun h=>by have:=of_decide_eq_false d2; omega)))
  refine T.get j hxj hj ?_
  refine T.ite (fun d3=>?_) (fun d3=>T.ret (nxt (fun h=>h.2.2 (by simpa using d3))))
  refine T.eqb (show eU n 4 _ _=some _ from rfl) ?_
  exact T.fin rfl
 ·have:=bI cd
  refine T.fin ⟨rfl,fun j hj hm=>?_⟩
  obtain ⟨q,hql,e⟩:=List.mem_iff_getElem.1 hm
  exact hq q hql (by omega) j hj e.symm
/-- Of a store-conditional: its pair's number. -/
def oQ (c:af) (k:Nat) (hk:k<c.am.flatten.length):Nat:=k - c.am.flatten[k].At.toNat + c.am.flatten[k].Pair.toNat
theorem R5 {n:Nat} {c:af} (hc:cS c) (hr:cK n c) (k:Nat) (hk:k<c.am.flatten.length) (h4:c.am.flatten[k].Kind=4):oQ c k hk<k∧ah .i64 (dM .i64 (k:Int) c.am.flatten[k].At) c.am.flatten[k].Pair=((oQ c k hk:Nat):Int):=by
 have hf:=hc.all
 obtain ⟨_,h1,h2,h3⟩:=tO hc hr k hk
 have h5:=(ss _ h1).2.2.2.2.2.1 h4
 unfold oQ
 generalize c.am.flatten[k]=e at *
 refine ⟨by omega,?_⟩
 rw [B1 (by omega) (by omega),B0 (by omega) (by omega)]
 omega
structure vK (c:af) (pl:List Int) (k:Nat) (hk:k<c.am.flatten.length) (hp:pl.length=c.am.flatten.length) (hl:c.la.length=c.am.flatten.length):Prop where
 lt:oQ c k hk<k
 from_:∀ h:oQ c k hk<c.la.length,∀ x,au pl c.la[oQ c k hk]=some x→x<pl[k]
 none_:∀ h:oQ c k hk<c.la.length,∀ (j:Nat) (hj:j<c.am.flatten.length),(j:Int)∈WL c c.am.flatten[k].Addr→¬ ((au pl c.la[oQ c k hk]).getD (-1)<pl[j]∧pl[j]<pl[k]∧c.am.flatten[j].Hart≠c.am.flatten[k].Hart)
theorem R6 (n:Nat) (c:af) (hc:cS c) (hr:cK n c) (hn:200≤n) {w:List (Int×List Int)} {pl:List Int} (ct:rm c w pl) :
  T (eH n c.gc c.am c.la c.bt w c.am.flatten pl) (fun r=>r.1=true→∀ (k:Nat) (hk:k<c.am.flatten.length),c.am.flatten[k].Kind=4→vK c pl k hk ct.len hr.fromLen):=by
 have hf:=hc.all
 have hpl:=ct.len
 have hfl:=hr.fromLen
 unfold eH
 refine T.bind (P:=fun t=>match t with | .inl _=>∀ (k:Nat) (hk:k<c.am.flatten.length),c.am.flatten[k].Kind=4→vK c pl k hk ct.len hr.fromLen | .inr x=>x.1=false) ?_ (fun t ht=>?_)
 ·refine T.loop c.am.flatten.length (fun i s=>s=(i:Int)∧∀ (k:Nat) (hk:k<c.am.flatten.length),k<i→c.am.flatten[k].Kind=4→vK c pl k hk ct.len hr.fromLen) _ ?_ ⟨rfl,fun k hk h=>by omega⟩ (by omega)
  rintro i s hi ⟨rfl,hq⟩
  unfold eQ
  refine T.ite (fun cd=>?_) (fun cd=>?_)
  ·have hil:=bp cd
   refine T.get i rfl hil ?_
   have nxt:(c.am.flatten[i].Kind=4→vK c pl i hil ct.len hr.fromLen)→i<c.am.flatten.length∧(ah .i64 (i:Int) 1=((i + 1:Nat):Int)∧∀ (k:Nat) (hk:k<c.am.flatten.length),k<i + 1→c.am.flatten[k].Kind=4→vK c pl k hk ct.len hr.fromLen):=fun hp=>by
    refine ⟨hil,aG _ (by omega),fun k hk hki h4=>?_⟩
    by_cases e:k=i
    ·subst e
     exact hp h4
    ·exact hq k hk (by omega) h4
   refine T.ite (fun d=>T.ret (nxt (fun h4=>by rw [h4] at d; cases d))) (fun d=>?_)
   have h4:c.am.flatten[i].Kind=4:=by simpa using d
   obtain ⟨hlr,elr⟩:=R5 hc hr i hil h4
   rw [elr]
   refine T.get (oQ c i hil) rfl (by omega) ?_
   have hfc:=(EX n c hr (oQ c i hil) (by omega)).1
   -- the loop over those that wrote there
   have L:∀ fr:Int,(au pl (c.la[oQ c i hil]'(by omega))).getD (-1)=fr→(∀ x,au pl (c.la[oQ c i hil]'(by omega))=some x→x<pl[i]'(by omega))→∀ l:List Int,l=WL c c.am.flatten[i].Addr →
     T ((iter (fun s=>bm n c.gc c.am c.la c.bt w c.am.flatten pl c.am.flatten[i] s) n ((i:Int),(i:Int),((oQ c i hil:Nat):Int),fr,l,(l.length:Int),0)).bind fun t=>match t with
      | .inl wa11=>some (.inl (ah .i64 wa11 1))
      | .inr wa11=>some (.inr (.inr (wa11.1,wa11.2.1,wa11.2.2.1,wa11.2.2.2))))
     (Rd (fun s'=>i<c.am.flatten.length∧(s'=((i + 1:Nat):Int)∧∀ (k:Nat) (hk:k<c.am.flatten.length),k<i + 1→c.am.flatten[k].Kind=4→vK c pl k hk ct.len hr.fromLen)) (fun t:Unit⊕(Bool×Int×Int×Int)=>match t with | .inl _=>∀ (k:Nat) (hk:k<c.am.flatten.length),c.am.flatten[k].Kind=4→vK c pl k hk ct.len hr.fromLen | .inr x=>x.1=false)):=by
    intro fr hfr hlt l hl
    subst hl
    refine T.bind (Lo n c.gc c.am c.la c.bt w c.am.flatten pl i hil ct.len _ fr _ (JE hc _) (JD hr _) hn) (fun t ht=>?_)
    cases t with
    | inl x =>
     obtain ⟨e,ht⟩:=ht
     subst e
     exact T.ret (nxt (fun _=>⟨hlr,fun _=>hlt,fun _ j hj hm=>by rw [hfr]; exact ht j hj hm⟩))
    | inr x =>
     have ht:x.1=false:=ht
     exact T.fin ht
   have hw:=ct.has c.am.flatten[i].Addr
   refine T.ite (fun d1=>?_) (fun d1=>?_)
   ·have d1:=of_decide_eq_true d1
    obtain ⟨j,hj,ej⟩:∃ j:Nat,j<c.am.flatten.length∧c.la[oQ c i hil]'(by omega)=(j:Int):=by
     rcases hfc with h | h
     ·omega
     ·exact h
    have gj:au pl (c.la[oQ c i hil]'(by omega))=some (pl[j]'(by omega)):=cG ej (by omega)
    refine T.get j ej (by omega) ?_
    refine T.get i rfl (by omega) ?_
    refine T.ite (fun d2=>?_) (fun d2=>?_)
    ·refine T.eqb (show eU n 4 _ _=some _ from rfl) ?_
     exact T.fin rfl
    ·have d2:=of_decide_eq_false d2
     have hlt:∀ x,au pl (c.la[oQ c i hil]'(by omega))=some x→x<pl[i]'(by omega):=fun x hx=>by
      rw [gj] at hx
      have:=Option.some.inj hx
      omega
     cases hm:ll gl w c.am.flatten[i].Addr with
     | none =>
      rw [hm] at hw
      exact L _ (by rw [gj]; rfl) hlt [] hw
     | some l =>
      rw [hm] at hw
      exact L _ (by rw [gj]; rfl) hlt l hw
   ·have d1:=of_decide_eq_false d1
    have ej:c.la[oQ c i hil]'(by omega)=-1:=by
     rcases hfc with h | ⟨j,hj,h⟩
     ·exact h
     ·omega
    have gj:au pl (c.la[oQ c i hil]'(by omega))=none:=by rw [ej]; rfl
    have hlt:∀ x,au pl (c.la[oQ c i hil]'(by omega))=some x→x<pl[i]'(by omega):=fun x hx=>by
     rw [gj] at hx
     cases hx
    cases hm:ll gl w c.am.flatten[i].Addr with
    | none =>
     rw [hm] at hw
     exact L _ (by rw [gj]; rfl) hlt [] hw
    | some l =>
     rw [hm] at hw
     exact L _ (by rw [gj]; rfl) hlt l hw
  ·have:=bI cd
   exact T.fin (fun k hk h4=>hq k hk (by omega) h4)
 ·cases t with
  | inl u=>exact T.ret (fun _=>ht)
  | inr x =>
   refine T.ret (fun h=>?_)
   have ht:x.1=false:=ht
   rw [ht] at h
   cases h

/-! ### The judgement -/
/-- What an allowed candidate has. -/
structure F4 (n:Nat) (c:af):Prop where
 ok:cK n c
 ex:∃ w pl,∃ ct:rm c w pl,R4 n c pl∧(∀ (k:Nat) (hk:k<c.am.flatten.length),nT c.am.flatten[k].Kind=true→c.la[k]'(by rw [ok.fromLen]; exact hk)=JF c pl k hk) ∧
  (∀ (k:Nat) (hk:k<c.am.flatten.length),c.am.flatten[k].Kind=4→vK c pl k hk ct.len ok.fromLen)
theorem OB (n:Nat) (c:af) (hc:cS c) (hn:4000≤n):T (gI n c) (fun j=>j.OK=true→F4 n c):=by
 unfold gI
 rcases Lh n c hc (by omega) with hr | ⟨_,s,h1,h2⟩
 ·refine T.bind (R2 n c hc hr (by omega)) ?_
  rintro r ⟨w,pl,rfl,ct⟩
  dsimp only
  refine T.bind (OA n c hc hr hn ct) (fun y3 h3=>?_)
  refine T.ite (fun d=>T.ret (fun h=>by dsimp only at h; rw [h] at d; cases d)) (fun d3=>?_)
  refine T.bind (Oz n c hc hr (by omega) ct) (fun y5 h5=>?_)
  refine T.ite (fun d=>T.ret (fun h=>by dsimp only at h; rw [h] at d; cases d)) (fun d5=>?_)
  refine T.bind (R6 n c hc hr (by omega) ct) (fun y7 h7=>?_)
  refine T.ite (fun d=>T.ret (fun h=>by dsimp only at h; rw [h] at d; cases d)) (fun d7=>?_)
  refine T.eqb (show iE n=some _ from rfl) ?_
  exact T.ret (fun _=>⟨hr,w,pl,ct,h3 (jD d3),h5 (jD d5),h7 (jD d7)⟩)
 ·rw [Ll n c h1 h2]
  show T (eU n 1 (-1) (-1) |>.bind fun y3=>some y3) _
  exact T.ret (fun h=>by cases h)
theorem UM (n:Nat) (c:af) (hc:cS c) (hn:4000≤n):T (nt n c) (fun b=>b=true→F4 n c):=by
 unfold nt
 exact T.bind (OB n c hc hn) (fun j hj=>T.ret hj)

end Go.Proofs.YtomahedcdcnnhaaGreatDoor
