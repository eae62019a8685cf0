/- The three axioms, and what an allowed candidate has. Plain facts; nothing is claimed of the program here. -/
import Derived.Test.YtomahedcdcnnhaaGreatDoorA1
namespace Go.Proofs.YtomahedcdcnnhaaGreatDoor
open Go A

/-! ### Order -/
def ML (n:Nat) (c:af) (pl:List Int):Prop:=∃ v,v7 c v∧jC n c=some (some v)∧AC n c v∧∀ x y:Nat,∀ hx:x<pl.length,∀ hy:y<pl.length,0<rv n v x y→pl[x]≤pl[y]
theorem Lg (n:Nat) (c:af) (hc:bP c) (hr:bz n c) (hn:4000≤n) {w:List (Int×List Int)} {pl:List Int} (ct:gE c w pl) :
    T (dz n c.First c.Harts c.From c.Order w c.Harts.flatten pl) (fun r=>r.1=true→ML n c pl):=by
  have hf:=hc.all
  obtain ⟨_,hof,v,rfl,hv⟩:=of_ n c hc (by omega) hr
  have R:=Il n c v hv hc hr (by omega)
  have hpl:=ct.len
  unfold dz
  refine T.bind (x:=jF n c) (Im n c v hv hof hr R hf (by omega)) (fun ps hps=>?_)
  have hlen:=hps.len
  refine T.bind (P:=fun t=>match t with | .inl _=>∀ (i:Nat) (hi:i<ps.length),∀ x y:Nat,∀ hx:x<pl.length,∀ hy:y<pl.length,ps[i]=bJ.mk (x:Int) (y:Int)→pl[x]≤pl[y] | .inr x=>x.1=false) ?_ (fun t ht=>?_)
  · refine T.loop ps.length (fun i s=>s=(i:Int)∧∀ (k:Nat) (hk:k<ps.length),k<i→∀ x y:Nat,∀ hx:x<pl.length,∀ hy:y<pl.length,ps[k]=bJ.mk (x:Int) (y:Int)→pl[x]≤pl[y]) _ ?_ ⟨rfl,fun k hk h=>by omega⟩ (by omega)
    rintro i s hi ⟨rfl,hq⟩
    unfold bR
    refine T.ite (fun cd=>?_) (fun cd=>?_)
    · have hil:=aY cd
      refine T.get i rfl hil ?_
      obtain ⟨x,y,hxy,hx,hy,_⟩:=hps.el _ (List.getElem_mem hil)
      refine T.get x (by rw [hxy]) (by omega) ?_
      refine T.get y (by rw [hxy]) (by omega) ?_
      refine T.ite (fun d=>?_) (fun d=>?_)
      · refine T.eqb (show eC n 2 _ _=some _ from rfl) ?_
        exact T.fin rfl
      · have d:=of_decide_eq_false d
        refine T.ret ⟨hil,av _ (by omega),fun k hk hki x' y' hx' hy' e=>?_⟩
        by_cases ek:k=i
        · subst ek
          rw [hxy] at e
          have e1:=congrArg bJ.e0 e
          have e2:=congrArg bJ.e1 e
          dsimp only at e1 e2
          have e1:x=x':=by omega
          have e2:y=y':=by omega
          subst e1 e2
          omega
        · exact hq k hk (by omega) x' y' hx' hy' e
    · have:=bv cd
      exact T.fin (fun k hk x y hx hy e=>hq k hk (by omega) x y hx hy e)
  · cases t with
    | inl u =>
      refine T.ret (fun _=>⟨v,hv,hof,R,fun x y hx hy hp=>?_⟩)
      have hm:=hps.all x y (by omega) (by omega) hp (.inl (by omega))
      obtain ⟨i,hi,e⟩:=List.mem_iff_getElem.1 hm
      exact ht i hi x y hx hy e
    | inr x =>
      refine T.ret (fun h=>?_)
      have ht:x.1=false:=ht
      rw [ht] at h
      cases h

/-! ### Pairs -/
theorem Js (n:Nat) (o1:List Cell) (o2:List (List Event)) (o3 o4:List Int) (w:List (Int×List Int)) (all:List Event) (pl:List Int) (k:Nat) (hk:k<all.length) (hp:pl.length=all.length) (lr fr:Int)
    (l:List Int) (hl:l.length≤60) (hv:∀ x∈l,∃ j:Nat,j<all.length∧x=(j:Int)) (hn:200≤n) :
    T (iter (fun s=>az n o1 o2 o3 o4 w all pl all[k] s) n ((k:Int),(k:Int),lr,fr,l,(l.length:Int),0)) (fun t=>match t with
      | .inl x=>x=(k:Int)∧∀ (j:Nat) (hj:j<all.length),(j:Int)∈l→¬ (fr<pl[j]'(by omega)∧pl[j]'(by omega)<pl[k]'(by omega)∧all[j].Hart≠all[k].Hart)
      | .inr x=>x.1=false):=by
  refine T.loop l.length (fun i s=>s=((k:Int),(k:Int),lr,fr,l,(l.length:Int),(i:Int))∧∀ (q:Nat) (hq:q<l.length),q<i→∀ (j:Nat) (hj:j<all.length),(j:Int)=l[q]→¬ (fr<pl[j]'(by omega)∧pl[j]'(by omega)<pl[k]'(by omega)∧all[j].Hart≠all[k].Hart)) _ ?_ ⟨rfl,fun q hq h=>by omega⟩ (by omega)
  rintro i s hi ⟨rfl,hq⟩
  unfold az
  dsimp only
  refine T.ite (fun cd=>?_) (fun cd=>?_)
  · have hil:=aY cd
    obtain ⟨j,hj,hxj⟩:=hv _ (List.getElem_mem hil)
    have nxt:¬ (fr<pl[j]'(by omega)∧pl[j]'(by omega)<pl[k]'(by omega)∧all[j].Hart≠all[k].Hart)→i<l.length∧(((k:Int),(k:Int),lr,fr,l,(l.length:Int),ac .i64 (i:Int) 1)=((k:Int),(k:Int),lr,fr,l,(l.length:Int),((i + 1:Nat):Int))∧∀ (q:Nat) (hq:q<l.length),q<i + 1→∀ (j:Nat) (hj:j<all.length),(j:Int)=l[q]→¬ (fr<pl[j]'(by omega)∧pl[j]'(by omega)<pl[k]'(by omega)∧all[j].Hart≠all[k].Hart)):=fun hno=>by
      refine ⟨hil,by rw [av _ (by omega)],fun q hql hqi j' hj' e=>?_⟩
      by_cases eq:q=i
      · subst eq
        rw [hxj] at e
        have e:j'=j:=by omega
        subst e
        exact hno
      · exact hq q hql (by omega) j' hj' e
    refine T.get i rfl hil ?_
    refine T.get j hxj (by omega) ?_
    refine T.ite (fun d1=>?_) (fun d1=>T.ret (nxt (fun h=>by have:=of_decide_eq_false d1; omega)))
    refine T.get k rfl (by omega) ?_
    refine T.ite (fun d2=>?_) (fun d2=>T.ret (nxt (fun h=>by have:=of_decide_eq_false d2; omega)))
    refine T.get j hxj hj ?_
    refine T.ite (fun d3=>?_) (fun d3=>T.ret (nxt (fun h=>h.2.2 (by simpa using d3))))
    refine T.eqb (show eC n 4 _ _=some _ from rfl) ?_
    exact T.fin rfl
  · have:=bv cd
    refine T.fin ⟨rfl,fun j hj hm=>?_⟩
    obtain ⟨q,hql,e⟩:=List.mem_iff_getElem.1 hm
    exact hq q hql (by omega) j hj e.symm
/-- Of a store-conditional: its pair's number. -/
def gU (c:af) (k:Nat) (hk:k<c.Harts.flatten.length):Nat:=k - c.Harts.flatten[k].At.toNat + c.Harts.flatten[k].Pair.toNat
theorem J5 {n:Nat} {c:af} (hc:bP c) (hr:bz n c) (k:Nat) (hk:k<c.Harts.flatten.length) (h4:c.Harts.flatten[k].Kind=4):gU c k hk<k∧ac .i64 (aJ .i64 (k:Int) c.Harts.flatten[k].At) c.Harts.flatten[k].Pair=((gU c k hk:Nat):Int):=by
  have hf:=hc.all
  obtain ⟨_,h1,h2,h3⟩:=rE hc hr k hk
  have h5:=(qp _ h1).2.2.2.2.2.1 h4
  unfold gU
  generalize c.Harts.flatten[k]=e at *
  refine ⟨by omega,?_⟩
  rw [yK (by omega) (by omega),yJ (by omega) (by omega)]
  omega
structure vC (c:af) (pl:List Int) (k:Nat) (hk:k<c.Harts.flatten.length) (hp:pl.length=c.Harts.flatten.length) (hl:c.From.length=c.Harts.flatten.length):Prop where
  lt:gU c k hk<k
  from_:∀ h:gU c k hk<c.From.length,∀ x,ak pl c.From[gU c k hk]=some x→x<pl[k]
  none_:∀ h:gU c k hk<c.From.length,∀ (j:Nat) (hj:j<c.Harts.flatten.length),(j:Int)∈WL c c.Harts.flatten[k].Addr→¬ ((ak pl c.From[gU c k hk]).getD (-1)<pl[j]∧pl[j]<pl[k]∧c.Harts.flatten[j].Hart≠c.Harts.flatten[k].Hart)
theorem MM (n:Nat) (c:af) (hc:bP c) (hr:bz n c) (hn:200≤n) {w:List (Int×List Int)} {pl:List Int} (ct:gE c w pl) :
    T (dX n c.First c.Harts c.From c.Order w c.Harts.flatten pl) (fun r=>r.1=true→∀ (k:Nat) (hk:k<c.Harts.flatten.length),c.Harts.flatten[k].Kind=4→vC c pl k hk ct.len hr.fromLen):=by
  have hf:=hc.all
  have hpl:=ct.len
  have hfl:=hr.fromLen
  unfold dX
  refine T.bind (P:=fun t=>match t with | .inl _=>∀ (k:Nat) (hk:k<c.Harts.flatten.length),c.Harts.flatten[k].Kind=4→vC c pl k hk ct.len hr.fromLen | .inr x=>x.1=false) ?_ (fun t ht=>?_)
  · refine T.loop c.Harts.flatten.length (fun i s=>s=(i:Int)∧∀ (k:Nat) (hk:k<c.Harts.flatten.length),k<i→c.Harts.flatten[k].Kind=4→vC c pl k hk ct.len hr.fromLen) _ ?_ ⟨rfl,fun k hk h=>by omega⟩ (by omega)
    rintro i s hi ⟨rfl,hq⟩
    unfold bF
    refine T.ite (fun cd=>?_) (fun cd=>?_)
    · have hil:=aY cd
      refine T.get i rfl hil ?_
      have nxt:(c.Harts.flatten[i].Kind=4→vC c pl i hil ct.len hr.fromLen)→i<c.Harts.flatten.length∧(ac .i64 (i:Int) 1=((i + 1:Nat):Int)∧∀ (k:Nat) (hk:k<c.Harts.flatten.length),k<i + 1→c.Harts.flatten[k].Kind=4→vC c pl k hk ct.len hr.fromLen):=fun hp=>by
        refine ⟨hil,av _ (by omega),fun k hk hki h4=>?_⟩
        by_cases e:k=i
        · subst e
          exact hp h4
        · exact hq k hk (by omega) h4
      refine T.ite (fun d=>T.ret (nxt (fun h4=>by rw [h4] at d; cases d))) (fun d=>?_)
      have h4:c.Harts.flatten[i].Kind=4:=by simpa using d
      obtain ⟨hlr,elr⟩:=J5 hc hr i hil h4
      rw [elr]
      refine T.get (gU c i hil) rfl (by omega) ?_
      have hfc:=(yA n c hr (gU c i hil) (by omega)).1
      -- the loop over those that wrote there
      have L:∀ fr:Int,(ak pl (c.From[gU c i hil]'(by omega))).getD (-1)=fr→(∀ x,ak pl (c.From[gU c i hil]'(by omega))=some x→x<pl[i]'(by omega))→∀ l:List Int,l=WL c c.Harts.flatten[i].Addr →
          T ((iter (fun s=>az n c.First c.Harts c.From c.Order w c.Harts.flatten pl c.Harts.flatten[i] s) n ((i:Int),(i:Int),((gU c i hil:Nat):Int),fr,l,(l.length:Int),0)).bind fun t=>match t with
            | .inl wa11=>some (.inl (ac .i64 wa11 1))
            | .inr wa11=>some (.inr (.inr (wa11.1,wa11.2.1,wa11.2.2.1,wa11.2.2.2))))
          (Rd (fun s'=>i<c.Harts.flatten.length∧(s'=((i + 1:Nat):Int)∧∀ (k:Nat) (hk:k<c.Harts.flatten.length),k<i + 1→c.Harts.flatten[k].Kind=4→vC c pl k hk ct.len hr.fromLen)) (fun t:Unit⊕(Bool×Int×Int×Int)=>match t with | .inl _=>∀ (k:Nat) (hk:k<c.Harts.flatten.length),c.Harts.flatten[k].Kind=4→vC c pl k hk ct.len hr.fromLen | .inr x=>x.1=false)):=by
        intro fr hfr hlt l hl
        subst hl
        refine T.bind (Js n c.First c.Harts c.From c.Order w c.Harts.flatten pl i hil ct.len _ fr _ (EK hc _) (BY hr _) hn) (fun t ht=>?_)
        cases t with
        | inl x =>
          obtain ⟨e,ht⟩:=ht
          subst e
          exact T.ret (nxt (fun _=>⟨hlr,fun _=>hlt,fun _ j hj hm=>by rw [hfr]; exact ht j hj hm⟩))
        | inr x =>
          have ht:x.1=false:=ht
          exact T.fin ht
      have hw:=ct.has c.Harts.flatten[i].Addr
      refine T.ite (fun d1=>?_) (fun d1=>?_)
      · have d1:=of_decide_eq_true d1
        obtain ⟨j,hj,ej⟩:∃ j:Nat,j<c.Harts.flatten.length∧c.From[gU c i hil]'(by omega)=(j:Int):=by
          rcases hfc with h | h
          · omega
          · exact h
        have gj:ak pl (c.From[gU c i hil]'(by omega))=some (pl[j]'(by omega)):=aS ej (by omega)
        refine T.get j ej (by omega) ?_
        refine T.get i rfl (by omega) ?_
        refine T.ite (fun d2=>?_) (fun d2=>?_)
        · refine T.eqb (show eC n 4 _ _=some _ from rfl) ?_
          exact T.fin rfl
        · have d2:=of_decide_eq_false d2
          have hlt:∀ x,ak pl (c.From[gU c i hil]'(by omega))=some x→x<pl[i]'(by omega):=fun x hx=>by
            rw [gj] at hx
            have:=Option.some.inj hx
            omega
          cases hm:jn ey w c.Harts.flatten[i].Addr with
          | none =>
            rw [hm] at hw
            exact L _ (by rw [gj]; rfl) hlt [] hw
          | some l =>
            rw [hm] at hw
            exact L _ (by rw [gj]; rfl) hlt l hw
      · have d1:=of_decide_eq_false d1
        have ej:c.From[gU c i hil]'(by omega)=-1:=by
          rcases hfc with h | ⟨j,hj,h⟩
          · exact h
          · omega
        have gj:ak pl (c.From[gU c i hil]'(by omega))=none:=by rw [ej]; rfl
        have hlt:∀ x,ak pl (c.From[gU c i hil]'(by omega))=some x→x<pl[i]'(by omega):=fun x hx=>by
          rw [gj] at hx
          cases hx
        cases hm:jn ey w c.Harts.flatten[i].Addr with
        | none =>
          rw [hm] at hw
          exact L _ (by rw [gj]; rfl) hlt [] hw
        | some l =>
          rw [hm] at hw
          exact L _ (by rw [gj]; rfl) hlt l hw
    · have:=bv cd
      exact T.fin (fun k hk h4=>hq k hk (by omega) h4)
  · cases t with
    | inl u=>exact T.ret (fun _=>ht)
    | inr x =>
      refine T.ret (fun h=>?_)
      have ht:x.1=false:=ht
      rw [ht] at h
      cases h

/-! ### The judgement -/
/-- What an allowed candidate has. -/
structure Jt (n:Nat) (c:af):Prop where
  ok:bz n c
  ex:∃ w pl,∃ ct:gE c w pl,ML n c pl∧(∀ (k:Nat) (hk:k<c.Harts.flatten.length),nH c.Harts.flatten[k].Kind=true→c.From[k]'(by rw [ok.fromLen]; exact hk)=yH c pl k hk) ∧
    (∀ (k:Nat) (hk:k<c.Harts.flatten.length),c.Harts.flatten[k].Kind=4→vC c pl k hk ct.len ok.fromLen)
theorem Lh (n:Nat) (c:af) (hc:bP c) (hn:4000≤n):T (dJ n c) (fun j=>j.OK=true→Jt n c):=by
  unfold dJ
  rcases FB n c hc (by omega) with hr | ⟨_,s,h1,h2⟩
  · refine T.bind (J4 n c hc hr (by omega)) ?_
    rintro r ⟨w,pl,rfl,ct⟩
    dsimp only
    refine T.bind (Lg n c hc hr hn ct) (fun y3 h3=>?_)
    refine T.ite (fun d=>T.ret (fun h=>by dsimp only at h; rw [h] at d; cases d)) (fun d3=>?_)
    refine T.bind (Lf n c hc hr (by omega) ct) (fun y5 h5=>?_)
    refine T.ite (fun d=>T.ret (fun h=>by dsimp only at h; rw [h] at d; cases d)) (fun d5=>?_)
    refine T.bind (MM n c hc hr (by omega) ct) (fun y7 h7=>?_)
    refine T.ite (fun d=>T.ret (fun h=>by dsimp only at h; rw [h] at d; cases d)) (fun d7=>?_)
    refine T.eqb (show jG n=some _ from rfl) ?_
    exact T.ret (fun _=>⟨hr,w,pl,ct,h3 (jm d3),h5 (jm d5),h7 (jm d7)⟩)
  · rw [FC n c h1 h2]
    show T (eC n 1 (-1) (-1) |>.bind fun y3=>some y3) _
    exact T.ret (fun h=>by cases h)
end Go.Proofs.YtomahedcdcnnhaaGreatDoor
