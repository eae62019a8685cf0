/- Which registers are written on every way -/
import Derived.Test.YteafbimadlcljaaDoorR1
namespace Go.Proofs.YteafbimadlcljaaDoor
open Go A

/-- Sets of steps and registers that any way keeps to. -/
structure G6 (c:bh) (R:Nat) (Z:Nat→Prop) (J:Nat→Nat→Prop):Prop where
  z0:Z 0
  j0:∀ r,r<R→¬ J 0 r
  nx:∀ k s,Z k→c.Steps[k]?=some s→∀ i:Nat,(i:Int)∈xd c k→Z i∧∀ r:Nat,r<R→J i r→J k r∨C5 s (r:Int)
structure RI (c:bh) (R:Nat) (Z:Nat→Prop) (J:Nat→Nat→Prop) (cs:List (Option W)) (ws:List Nat) (ex:Nat→Prop):Prop where
  c0:∃ b,cs[0]?=some (some b)∧∀ r,r<R→b.getLsbD r=false
  lb:∀ k b,cs[k]?=some (some b)→Z k∧∀ r,r<R→J k r→b.getLsbD r=true
  cl:∀ k s b,c.Steps[k]?=some s→cs[k]?=some (some b)→k ∉ ws→¬ ex k→∀ i:Nat,(i:Int)∈xd c k→∃ b',cs[i]?=some (some b')∧∀ r:Nat,r<R→b'.getLsbD r=true→b.getLsbD r=true∨C5 s (r:Int)
structure RJ (c:bh) (R:Nat) (Z:Nat→Prop) (J:Nat→Nat→Prop) (k:Nat) (b o:W) (L:List Int) (cs:List (Option W)) (ws:List Nat):Prop where
  ri:RI c R Z J cs ws (fun q=>q=k)
  own:∀ i:Nat,(i:Int)∈L→∃ b',cs[i]?=some (some b')∧∀ r,r<R→b'.getLsbD r=true→o.getLsbD r=true
  self:k∈ws∨cs[k]?=some (some b)
theorem fP {cs:List (Option W)} {i q:Nat} {x:Option W} (hi:i<cs.length):(cs.set i x)[q]?=if i=q then some x else cs[q]?:=by
  split
  · rename_i e
    subst e
    exact List.getElem?_set_self hi
  · rename_i e
    exact List.getElem?_set_ne e
theorem RJ.new {c:bh} {R:Nat} {Z:Nat→Prop} {J:Nat→Nat→Prop} {k i0:Nat} {b o:W} {L:List Int} {cs:List (Option W)} {ws:List Nat} (h:RJ c R Z J k b o L cs ws) (hi:i0<cs.length) (hn:cs[i0]?=some none) (hlb:Z i0∧∀ r,r<R→J i0 r→o.getLsbD r=true):RJ c R Z J k b o (L++[(i0:Int)]) (cs.set i0 (some o)) (ws++[i0]):=by
  have ne:∀ {q:Nat} {x:W},cs[q]?=some (some x)→i0≠q:=fun {q x} hq e=>by
    subst e
    rw [hn] at hq
    cases hq
  have keep:∀ {q:Nat} {x:W},cs[q]?=some (some x)→(cs.set i0 (some o))[q]?=some (some x):=fun {q x} hq=>by
    rw [fP hi,if_neg (ne hq)]
    exact hq
  refine ⟨⟨?_,fun q x hq=>?_,fun q s x hs hq hw hx i hin=>?_⟩,fun i hin=>?_,?_⟩
  · obtain ⟨x,h1,h2⟩:=h.ri.c0
    exact ⟨x,keep h1,h2⟩
  · rw [fP hi] at hq
    split at hq
    · rename_i e
      subst e
      cases hq
      exact hlb
    · exact h.ri.lb q x hq
  · have hqi:i0≠q:=fun e=>hw (by rw [e]; exact List.mem_append_right _ (List.mem_singleton.2 rfl))
    rw [fP hi,if_neg hqi] at hq
    obtain ⟨y,h1,h2⟩:=h.ri.cl q s x hs hq (fun hm=>hw (List.mem_append_left _ hm)) hx i hin
    exact ⟨y,keep h1,h2⟩
  · rcases List.mem_append.1 hin with hin | hin
    · obtain ⟨y,h1,h2⟩:=h.own i hin
      exact ⟨y,keep h1,h2⟩
    · have:i=i0:=by have:=List.mem_singleton.1 hin; omega
      subst this
      exact ⟨o,by rw [fP hi,if_pos rfl],fun _ _ h=>h⟩
  · rcases h.self with h1 | h1
    · exact .inl (List.mem_append_left _ h1)
    · exact .inr (keep h1)
theorem RJ.meet {c:bh} {R:Nat} {Z:Nat→Prop} {J:Nat→Nat→Prop} {k i0:Nat} {b o b1:W} {L:List Int} {cs:List (Option W)} {ws ws':List Nat} (h:RJ c R Z J k b o L cs ws) (hi:i0<cs.length) (hn:cs[i0]?=some (some b1)) (hlb:∀ r,r<R→J i0 r→o.getLsbD r=true) (hw:∀ q∈ws,q∈ws') (hc:i0∈ws'∨b1 &&& o=b1):RJ c R Z J k b o (L++[(i0:Int)]) (cs.set i0 (some (b1 &&& o))) ws':=by
  have sub:∀ {r:Nat},(b1 &&& o).getLsbD r=true→b1.getLsbD r=true∧o.getLsbD r=true:=fun {r} hr=>by
    rw [BitVec.getLsbD_and,Bool.and_eq_true] at hr
    exact hr
  have keep:∀ {q:Nat} {x:W},cs[q]?=some (some x)→∃ y,(cs.set i0 (some (b1 &&& o)))[q]?=some (some y)∧∀ r,y.getLsbD r=true→x.getLsbD r=true:=fun {q x} hq=>by
    rw [fP hi]
    split
    · rename_i e
      subst e
      rw [hn] at hq
      cases hq
      exact ⟨_,rfl,fun r hr=>(sub hr).1⟩
    · exact ⟨x,hq,fun _ h=>h⟩
  refine ⟨⟨?_,fun q x hq=>?_,fun q s x hs hq hwq hx i hin=>?_⟩,fun i hin=>?_,?_⟩
  · obtain ⟨x,h1,h2⟩:=h.ri.c0
    obtain ⟨y,h3,h4⟩:=keep h1
    refine ⟨y,h3,fun r hr=>?_⟩
    cases hy:y.getLsbD r with
    | false=>rfl
    | true =>
      have:=h4 r hy
      rw [h2 r hr] at this
      cases this
  · rw [fP hi] at hq
    split at hq
    · rename_i e
      subst e
      cases hq
      obtain ⟨h1,h2⟩:=h.ri.lb i0 b1 hn
      exact ⟨h1,fun r hr hj=>by rw [BitVec.getLsbD_and,h2 r hr hj,hlb r hr hj]; rfl⟩
    · exact h.ri.lb q x hq
  · have hq':cs[q]?=some (some x):=by
      rw [fP hi] at hq
      split at hq
      · rename_i e
        subst e
        rcases hc with hc | hc
        · exact (hwq hc).elim
        · rw [hc] at hq
          rw [hn]
          exact hq
      · exact hq
    obtain ⟨y,h1,h2⟩:=h.ri.cl q s x hs hq' (fun hm=>hwq (hw _ hm)) hx i hin
    obtain ⟨z,h3,h4⟩:=keep h1
    exact ⟨z,h3,fun r hr hz=>h2 r hr (h4 r hz)⟩
  · rcases List.mem_append.1 hin with hin | hin
    · obtain ⟨y,h1,h2⟩:=h.own i hin
      obtain ⟨z,h3,h4⟩:=keep h1
      exact ⟨z,h3,fun r hr hz=>h2 r hr (h4 r hz)⟩
    · have:i=i0:=by have:=List.mem_singleton.1 hin; omega
      subst this
      exact ⟨b1 &&& o,by rw [fP hi,if_pos rfl],fun r _ hr=>(sub hr).2⟩
  · rcases h.self with h1 | h1
    · exact .inl (hw _ h1)
    · by_cases e:i0=k
      · subst e
        rcases hc with hc | hc
        · exact .inl hc
        · rw [hn] at h1
          cases h1
          exact .inr (by rw [fP hi,if_pos rfl,hc])
      · exact .inr (by rw [fP hi,if_neg e]; exact h1)
theorem RI.pop {c:bh} {R:Nat} {Z:Nat→Prop} {J:Nat→Nat→Prop} {k:Nat} {b o:W} {cs:List (Option W)} {init:List Nat} (h:RI c R Z J cs (init++[k]) (fun _=>False)) (hb:cs[k]?=some (some b)):RJ c R Z J k b o [] cs init :=
  ⟨⟨h.c0,h.lb,fun q s x hs hq hw hx=>h.cl q s x hs hq (fun hm=>by
    rcases List.mem_append.1 hm with hm | hm
    · exact hw hm
    · exact hx (List.mem_singleton.1 hm)) id⟩,fun i hi=>(by cases hi),.inr hb⟩
theorem RJ.fin {c:bh} {R:Nat} {Z:Nat→Prop} {J:Nat→Nat→Prop} {k:Nat} {b o:W} {s:ab} {cs:List (Option W)} {ws:List Nat} (h:RJ c R Z J k b o (xd c k) cs ws) (hs:c.Steps[k]?=some s) (ho:∀ r:Nat,r<R→(o.getLsbD r=true↔b.getLsbD r=true∨C5 s (r:Int))):RI c R Z J cs ws (fun _=>False):=by
  refine ⟨h.ri.c0,h.ri.lb,fun q t x ht hq hw _ i hin=>?_⟩
  by_cases e:q=k
  · subst e
    rw [hs] at ht
    cases ht
    rcases h.self with h1 | h1
    · exact (hw h1).elim
    · rw [h1] at hq
      cases hq
      obtain ⟨y,h2,h3⟩:=h.own i hin
      exact ⟨y,h2,fun r hr hy=>(ho r hr).1 (h3 r hr hy)⟩
  · exact h.ri.cl q t x ht hq hw e i hin

theorem GG {R N B:Nat} (hR:R≠0) (n:Nat) (hn:3≤n) (c:bh) (o:W) (nx:List Int) (hnx:AB N nx) (hB:B≤1000000) (cs:List (Option W)) (ws:List Nat) (hl:cs.length=N) (hw:Wk cs ws) (hm:mW cs ws≤B)
    {Z:Nat→Prop} {J:Nat→Nat→Prop} {k0:Nat} {b0:W} (hlb:∀ i:Nat,(i:Int)∈nx→Z i∧∀ r,r<R→J i r→o.getLsbD r=true) (h0:RJ c R Z J k0 b0 o [] cs ws) :
    T (iter (fun s=>bO n c s) n (Cs R cs,Ns ws,sw R o,nx,(nx.length:Int),0)) (fun t=>∃ cs' ws',t=(Cs R cs',Ns ws')∧cs'.length=N∧Wk cs' ws'∧mW cs' ws'≤B∧RJ c R Z J k0 b0 o nx cs' ws'):=by
  have h2:=hnx.1
  refine T.loop nx.length (fun i s=>∃ cs' ws',s=(Cs R cs',Ns ws',sw R o,nx,(nx.length:Int),(i:Int))∧cs'.length=N∧Wk cs' ws'∧mW cs' ws'≤B∧RJ c R Z J k0 b0 o (nx.take i) cs' ws') _ (fun i s hi hs=>?_) ⟨cs,ws,rfl,hl,hw,hm,h0⟩ (by omega)
  clear h0
  obtain ⟨cs',ws',rfl,hl,hw,hm,hj⟩:=hs
  unfold bO
  refine T.ite (fun h=>?_) (fun h=>?_)
  · rw [decide_eq_true_eq] at h
    have hi':i<nx.length:=by simpa using h
    refine T.get i rfl hi' ?_
    have hk:=hnx.2 nx[i] (List.getElem_mem hi')
    have hlk:=hlb
    obtain ⟨k,hkk⟩:∃ k:Nat,nx[i]=(k:Int):=⟨nx[i].toNat,by omega⟩
    have htk:nx.take (i + 1)=nx.take i++[(k:Int)]:=by rw [List.take_succ_eq_append_getElem hi',hkk]
    have hlk:=hlb k (by rw [← hkk]; exact List.getElem_mem hi')
    rw [hkk] at hk ⊢
    have hkN:k<cs'.length:=by omega
    refine T.eqb (iJ hkN) ?_
    have hs:∀ b,mW (cs'.set k (some b)) ws' + 3 * wt cs'[k]=mW cs' ws' + 3 * pc b:=fun b=>by
      have:=r6 wt cs' k hkN (some b)
      unfold mW
      simp only [show wt (some b)=pc b from rfl] at this
      omega
    have hpush:∀ b,mW (cs'.set k (some b)) (ws'++[k])=mW (cs'.set k (some b)) ws' + 1:=fun b=>by
      unfold mW
      rw [List.length_append,List.length_singleton]
      omega
    have hlen:ws'.length≤mW cs' ws':=by unfold mW; omega
    have hidx:ac .i64 (i:Int) 1=((i + 1:Nat):Int):=ga i (by omega)
    refine T.matchO (fun e=>?_) (fun z e=>?_)
    · rw [Option.map_eq_none_iff] at e
      refine T.eqb (CY hR o) (T.grd (xg (by show (Ns ws').length + 1≤_; rw [eK]; omega)) (T.next ⟨hi',cs'.set k (some o),ws'++[k],?_,by simpa using hl,hw.push hkN,?_,?_⟩))
      · rw [gI,o6,hidx]
      · have:=AE o
        rw [hpush]
        have:wt (none:Option W)=66:=rfl
        have h3:=hs o
        rw [e] at h3
        omega
      · rw [htk]
        exact hj.new hkN (by rw [List.getElem?_eq_getElem hkN,e]) hlk
    · rw [Option.map_eq_some_iff] at e
      obtain ⟨b,e,rfl⟩:=e
      have hgb:cs'[k]?=some (some b):=by rw [List.getElem?_eq_getElem hkN,e]
      refine T.grd (AD hR b) (T.eqb (CW hR n (by omega) _ _ _ b o) ?_)
      have h3:=hs (b &&& o)
      rw [e] at h3
      have h4:wt (some b)=pc b:=rfl
      refine T.ite (fun hc=>?_) (fun hc=>?_)
      · have hcb:b &&& o=b:=by simpa using hc
        refine T.next ⟨hi',cs'.set k (some (b &&& o)),ws',?_,by simpa using hl,hw.set k _,?_,?_⟩
        · rw [gI,hidx]
        · rw [hcb] at h3 ⊢
          omega
        · rw [htk]
          exact hj.meet hkN hgb hlk.2 (fun _ h=>h) (.inr hcb)
      · have hc:b &&& o≠b:=by simpa using hc
        have:=CX hc
        refine T.grd (xg (by show (Ns ws').length + 1≤_; rw [eK]; omega)) (T.next ⟨hi',cs'.set k (some (b &&& o)),ws'++[k],?_,by simpa using hl,hw.push hkN,?_,?_⟩)
        · rw [gI,o6,hidx]
        · rw [hpush]
          omega
        · rw [htk]
          exact hj.meet hkN hgb hlk.2 (fun _ h=>List.mem_append_left _ h) (.inl (List.mem_append_right _ (List.mem_singleton.2 rfl)))
  · rw [decide_eq_false_iff_not] at h
    have e:i=nx.length:=by have:¬ ((i:Int)<(nx.length:Int)):=h; omega
    subst e
    rw [List.take_length] at hj
    exact T.fin ⟨cs',ws',rfl,hl,hw,hm,hj⟩

theorem GH {R B:Nat} (hR0:R≠0) (hR:R≤60) (n:Nat) (c:bh) (hl:c.Steps.length≤120) (hok:zT c R) (hB:B≤1000000) (hn:B<n) (cs:List (Option W)) (ws:List Nat) (hcs:cs.length=c.Steps.length) (hw:Wk cs ws) (hm:mW cs ws≤B) (hn3:3≤n)
    {Z:Nat→Prop} {J:Nat→Nat→Prop} (hsol:G6 c R Z J) (h0:RI c R Z J cs ws (fun _=>False)) :
    T (iter (fun s=>dE n c s) n (Cs R cs,Ns ws)) (fun t=>∃ cs',t=Cs R cs'∧cs'.length=c.Steps.length∧RI c R Z J cs' [] (fun _=>False)):=by
  refine T.fall (fun m s=>∃ cs ws,s=(Cs R cs,Ns ws)∧cs.length=c.Steps.length∧Wk cs ws∧(mW cs ws=m∧m≤B)∧RI c R Z J cs ws (fun _=>False)) _ (fun m s hs=>?_) n (mW cs ws) _ ⟨cs,ws,rfl,hcs,hw,⟨rfl,hm⟩,h0⟩ (by omega)
  clear hm hw hcs h0
  obtain ⟨cs,ws,rfl,hcs,hw,⟨rfl,hm⟩,hri⟩:=hs
  unfold dE
  rcases snoc ws with rfl | ⟨init,k,rfl⟩
  · exact T.fin ⟨cs,rfl,hcs,hri⟩
  · have hlen:init.length + 1≤mW cs (init++[k]):=by unfold mW; rw [List.length_append,List.length_singleton]; omega
    have hmi:mW cs init + 1=mW cs (init++[k]):=by unfold mW; rw [List.length_append,List.length_singleton]; omega
    obtain ⟨b,hb⟩:=hw k (List.mem_append_right _ (List.mem_singleton.2 rfl))
    obtain ⟨hk,hb'⟩:=List.getElem?_eq_some_iff.1 hb
    have hkN:k<c.Steps.length:=by omega
    have hs:c.Steps[k]?=some c.Steps[k]:=List.getElem?_eq_getElem hkN
    rw [if_pos (by show decide (((Ns (init++[k])).length:Int)>0)=true; rw [eK,List.length_append]; simp)]
    dsimp only
    rw [xh (by omega)]
    refine T.eqb xi (T.grd xj (T.eqb (iJ hk) (T.matchO (fun e=>?_) (fun z e=>?_))))
    · rw [hb'] at e
      cases e
    rw [hb',Option.map_some,Option.some.injEq] at e
    subst e
    refine T.eqb (AF hR0 b) (T.get k rfl hkN (T.eqb (r4 n _) ?_))
    rw [ui,gI,fL hb]
    have hnx:=AC c k hkN (by omega)
    obtain ⟨hz,hjb⟩:=hri.lb k b hb
    have done:∀ o:W,(∀ r:Nat,r<R→(o.getLsbD r=true↔b.getLsbD r=true∨C5 c.Steps[k] (r:Int)))→T ((iter (fun s=>bO n c s) n (Cs R cs,Ns init,sw R o,xd c k,((xd c k).length:Int),0)).bind fun ta13=>some (.inl (ta13.1,ta13.2):(List (Option (List Int))×List Int)⊕(List (Option (List Int))))) (Rd (fun s'=>∃ m',m'<mW cs (init++[k])∧∃ cs ws,s'=(Cs R cs,Ns ws)∧cs.length=c.Steps.length∧Wk cs ws∧(mW cs ws=m'∧m'≤B)∧RI c R Z J cs ws (fun _=>False)) (fun t=>∃ cs',t=Cs R cs'∧cs'.length=c.Steps.length∧RI c R Z J cs' [] (fun _=>False))):=fun o ho=>by
      refine (GG (B:=mW cs init) hR0 n hn3 c o _ hnx (by omega) cs init hcs hw.init (Nat.le_refl _) (Z:=Z) (J:=J) (k0:=k) (b0:=b) (fun i hi=>?_) (hri.pop hb)).bind (fun t ht=>?_)
      · obtain ⟨h1,h2⟩:=hsol.nx k _ hz hs i hi
        refine ⟨h1,fun r hr hj=>(ho r hr).2 ?_⟩
        rcases h2 r hr hj with h3 | h3
        · exact .inl (hjb r hr h3)
        · exact .inr h3
      · obtain ⟨cs',ws',rfl,h1,h2,h3,h4⟩:=ht
        exact T.next ⟨mW cs' ws',by omega,cs',ws',rfl,h1,h2,⟨rfl,by omega⟩,h4.fin hs ho⟩
    refine T.ite (fun h=>?_) (fun h=>?_)
    · have hr:=(hok k hkN).2 h
      obtain ⟨r,hr1⟩:∃ r:Nat,(rv c.Steps[k]).1=(r:Int):=⟨(rv c.Steps[k]).1.toNat,by omega⟩
      have hwr:∀ q:Nat,C5 c.Steps[k] (q:Int)↔q=r:=fun q=>by
        unfold C5
        rw [hr1,h]
        exact ⟨fun h=>by have:=h.2; omega,fun h=>⟨rfl,by omega⟩⟩
      rw [hr1] at hr ⊢
      refine T.eqb (Ev hR (by omega) n _ _ b) (T.eqb (uh n c k hkN (by omega)) (done _ (fun q hq=>?_)))
      have e:(r<64∧r=q)↔q=r:=by omega
      rw [BitVec.getLsbD_or,Bool.or_eq_true,BitVec.getLsbD_twoPow,hwr,Bool.and_eq_true,decide_eq_true_eq,decide_eq_true_eq,e]
    · refine T.eqb (uh n c k hkN (by omega)) (done _ (fun q hq=>?_))
      have:¬ C5 c.Steps[k] (q:Int):=fun hx=>by
        have:=hx.1
        rw [h] at this
        cases this
      simp [this]

theorem zU {R:Nat} (hR:R≤60) (n:Nat) (hn:10≤n) (l:List Int) (hl:l.length≤3) (hr:∀ r∈l,0≤r∧r<(R:Int)) (cs:List (Option W)) (i:Nat) (hi:i<cs.length) (b:W) :
    T (bj n l (Cs R cs) ((i:Int)).toNat (i:Int) (sw R b)) (fun y=>y=false↔∀ r:Nat,(r:Int)∈l→b.getLsbD r=true):=by
  unfold bj cw
  refine T.bind (P:=fun y:Int=>(y<0)↔∀ r:Nat,(r:Int)∈l→b.getLsbD r=true) ?_ (fun y hy=>T.ret (by rw [← hy]; simp))
  refine T.bind (P:=Rd (fun _:Unit=>∀ r:Nat,(r:Int)∈l→b.getLsbD r=true) (fun y:Int=>0≤y∧¬ ∀ r:Nat,(r:Int)∈l→b.getLsbD r=true)) ?_ (fun t ht=>by
    cases t with
    | inl w=>exact T.ret ⟨fun _=>ht,fun _=>by omega⟩
    | inr w=>exact T.ret ⟨fun h=>by have:(0:Int)≤w:=ht.1; omega,fun h=>(ht.2 h).elim⟩)
  refine T.loop l.length (fun j s=>s=(j:Int)∧∀ r:Nat,(r:Int)∈l.take j→b.getLsbD r=true) _ (fun j s hj hs=>?_) ⟨rfl,fun r hr=>by simp at hr⟩ (by omega)
  obtain ⟨rfl,hs⟩:=hs
  unfold bB
  refine T.ite (fun h=>?_) (fun h=>T.fin ?_)
  · rw [decide_eq_true_eq] at h
    have hj':j<l.length:=by omega
    refine T.get j rfl hj' ?_
    have hrr:=hr l[j] (List.getElem_mem hj')
    obtain ⟨r,hr1⟩:∃ r:Nat,l[j]=(r:Int):=⟨l[j].toNat,by omega⟩
    have hmem:(r:Int)∈l:=by rw [← hr1]; exact List.getElem_mem hj'
    have htk:l.take (j + 1)=l.take j++[(r:Int)]:=by rw [List.take_succ_eq_append_getElem hj',hr1]
    rw [hr1] at hrr ⊢
    have:c_ n (r:Int) (Cs R cs) ((i:Int)).toNat (i:Int) (sw R b)=some (!b.getLsbD r):=by
      unfold c_
      rw [iJ hi,Option.bind_some,jF (by
        rw [Nat.beq_refl,Bool.true_and,Int.toNat_natCast,Nat.blt_eq]
        unfold Cs
        rw [List.length_map]
        exact hi),Fq hR (by omega)]
      rfl
    refine T.eqb this (T.ite (fun hb=>T.fin ⟨by omega,fun hx=>?_⟩) (fun hb=>T.next ⟨hj',ga j (by omega),fun q hq=>?_⟩))
    · rw [hx r hmem] at hb
      cases hb
    · rw [htk] at hq
      rcases List.mem_append.1 hq with hq | hq
      · exact hs q hq
      · have:q=r:=by have:=List.mem_singleton.1 hq; omega
        subst this
        simpa using hb
  · rw [decide_eq_false_iff_not] at h
    have e:j=l.length:=by omega
    subst e
    rw [List.take_length] at hs
    exact hs
def FB (c:bh) (cs:List (Option W)):Prop:=∀ (k:Nat) (s:ab) (b:W),c.Steps[k]?=some s→cs[k]?=some (some b)→∀ r:Nat,(r:Int)∈yN s→b.getLsbD r=true
theorem GI {R:Nat} (hR0:R≠0) (hR:R≤60) (n:Nat) (c:bh) (hl:c.Steps.length≤120) (hok:zT c R) (hn:200≤n) (cs:List (Option W)) (hcs:cs.length=c.Steps.length) :
    T (iter (fun s=>dG n c s) n (Cs R cs,0)) (Rd (fun _=>FB c cs) (fun _=>¬ FB c cs)):=by
  refine T.loop c.Steps.length (fun i s=>s=(Cs R cs,(i:Int))∧∀ k s b,k<i→c.Steps[k]?=some s→cs[k]?=some (some b)→∀ r:Nat,(r:Int)∈yN s→b.getLsbD r=true) _ (fun i s hi hs=>?_) ⟨rfl,fun k s b hk=>by omega⟩ (by omega)
  obtain ⟨rfl,hs⟩:=hs
  unfold dG
  refine T.ite (fun h=>?_) (fun h=>T.fin ?_)
  · rw [decide_eq_true_eq] at h
    have hi':i<c.Steps.length:=by simpa using h
    have hx:ac .i64 (i:Int) 1=((i + 1:Nat):Int):=ga i (by omega)
    have hic:i<cs.length:=by omega
    refine T.get i rfl hi' (T.eqb (iJ hic) (T.matchO (fun e=>T.next ⟨hi',by rw [hx],fun k s b hk hks hkb=>?_⟩) (fun z e=>?_)))
    · by_cases ek:k=i
      · subst ek
        rw [Option.map_eq_none_iff] at e
        rw [List.getElem?_eq_getElem hic,e] at hkb
        cases hkb
      · exact hs k s b (by omega) hks hkb
    rw [Option.map_eq_some_iff] at e
    obtain ⟨b,e,rfl⟩:=e
    have hgb:cs[i]?=some (some b):=by rw [List.getElem?_eq_getElem hic,e]
    refine T.grd (AD hR0 b) (T.eqb (o5 n _) ?_)
    refine (zU hR n (by omega) _ (AA _).1 (hok i hi').1 cs i hic b).bind (fun y hy=>T.ite (fun h1=>T.fin (fun hx=>?_)) (fun h1=>T.next ⟨hi',?_,fun k s b' hk hks hkb=>?_⟩))
    · have:=hy.2 (hx i _ b (List.getElem?_eq_getElem hi') hgb)
      rw [h1] at this
      cases this
    · rw [gI,fL hgb,hx]
    · by_cases ek:k=i
      · subst ek
        rw [hgb] at hkb
        cases hkb
        rw [List.getElem?_eq_getElem hi'] at hks
        cases hks
        exact hy.1 h1
      · exact hs k s b' (by omega) hks hkb
  · rw [decide_eq_false_iff_not] at h
    have h:¬ ((i:Int)<(c.Steps.length:Int)):=h
    exact fun k s b hks hkb=>hs k s b (by have:=(List.getElem?_eq_some_iff.1 hks).1; omega) hks hkb
theorem v2 {R:Nat} (hR0:R≠0) (hR:R≤60) (n:Nat) (c:bh) (hc:c.Regs=(R:Int)) (h1:1≤c.Steps.length) (hl:c.Steps.length≤120) (hok:zT c R) (hn:1000000<n) {Z:Nat→Prop} {J:Nat→Nat→Prop} (hsol:G6 c R Z J) :
    T (cM n c) (fun y=>∃ cs,RI c R Z J cs [] (fun _=>False)∧(y=true↔FB c cs)):=by
  unfold cM
  refine T.grd (by simp [Nat.blt]; omega) ?_
  rw [hc]
  refine T.eqb (G4 hR n _) ?_
  have e0:(List.replicate ((c.Steps.length:Int)).toNat (none:Option (List Int)))=Cs R (List.replicate c.Steps.length none):=by
    unfold Cs
    rw [Int.toNat_natCast,List.map_replicate]
    rfl
  rw [e0]
  have hz:0<(List.replicate c.Steps.length (none:Option W)).length:=by rw [List.length_replicate]; omega
  refine T.eqb (iJ (k:=0) hz) ?_
  have hset:(Cs R (List.replicate c.Steps.length none)).set 0 (some (sw R 0#64))=Cs R ((List.replicate c.Steps.length none).set 0 (some 0#64)):=gI 0 _
  rw [hset]
  have hm:mW ((List.replicate c.Steps.length none).set 0 (some 0#64)) [0]≤1000000:=by
    have:=xf wt 66 Ez ((List.replicate c.Steps.length none).set 0 (some 0#64))
    rw [List.length_set,List.length_replicate] at this
    unfold mW
    rw [List.length_singleton]
    omega
  have only:∀ {k:Nat} {b:W},((List.replicate c.Steps.length (none:Option W)).set 0 (some 0#64))[k]?=some (some b)→k=0∧b=0#64:=fun {k b} hk=>by
    rw [fP hz] at hk
    split at hk
    · rename_i e
      cases hk
      exact ⟨e.symm,rfl⟩
    · rw [List.getElem?_replicate] at hk
      split at hk <;> cases hk
  refine (GH hR0 hR n c hl hok (Nat.le_refl _) hn _ [0] (by rw [List.length_set,List.length_replicate]) (fun k hk=>?_) hm (by omega) hsol ⟨⟨0#64,by rw [fP hz,if_pos rfl],fun r _=>by simp⟩,fun k b hk=>?_,fun k s b _ hk hw=>?_⟩).bind (fun t ht=>?_)
  · rw [List.mem_singleton.1 hk]
    exact ⟨0#64,by rw [List.getElem?_set_self hz]⟩
  · obtain ⟨rfl,rfl⟩:=only hk
    exact ⟨hsol.z0,fun r hr hj=>(hsol.j0 r hr hj).elim⟩
  · obtain ⟨rfl,rfl⟩:=only hk
    exact (hw (List.mem_singleton.2 rfl)).elim
  · obtain ⟨cs',rfl,h2,h3⟩:=ht
    refine (GI hR0 hR n c hl hok (by omega) cs' h2).bind (fun t ht=>?_)
    cases t with
    | inl _=>exact T.ret ⟨cs',h3,fun _=>ht,fun _=>rfl⟩
    | inr _=>exact T.ret ⟨cs',h3,fun h=>(by cases h),fun h=>(ht h).elim⟩
theorem yK {R:Nat} (hR0:R≠0) (hR:R≤60) (n:Nat) (c:bh) (hc:c.Regs=(R:Int)) (h1:1≤c.Steps.length) (hl:c.Steps.length≤120) (hok:zT c R) (hn:1000000<n) {f g:Int→Int} (hf:Ren R f g) (hw:cM n c=some true):cM n (iA f c)=some true:=by
  obtain ⟨y,hy,cs,hri,hrd⟩:=v2 hR0 hR n c hc h1 hl hok hn (Z:=fun _=>True) (J:=fun _ _=>False) ⟨trivial,fun _ _ h=>h,fun _ _ _ _ _ _=>⟨trivial,fun _ _ h=>h.elim⟩⟩
  rw [hw] at hy
  cases hy
  have hrd:=hrd.1 rfl
  have hlen:(iA f c).Steps.length=c.Steps.length:=by
    show (c.Steps.map (b8 f)).length=_
    rw [List.length_map]
  have back:∀ {k:Nat} {s':ab},(iA f c).Steps[k]?=some s'→∃ s,c.Steps[k]?=some s∧s'=b8 f s:=fun {k s'} hs=>by
    have hs:(c.Steps.map (b8 f))[k]?=some s':=hs
    rw [List.getElem?_map,Option.map_eq_some_iff] at hs
    obtain ⟨s,h1,h2⟩:=hs
    exact ⟨s,h1,h2.symm⟩
  obtain ⟨y,hy,cs',hri',hrd'⟩:=v2 hR0 hR n (iA f c) hc (by omega) (by omega) (xl hf hok) hn (Z:=fun k=>∃ b,cs[k]?=some (some b)) (J:=fun k q=>∃ b,cs[k]?=some (some b)∧∃ r:Nat,r<R∧b.getLsbD r=true∧(q:Int)=f (r:Int)) ⟨by
      obtain ⟨b,h1,_⟩:=hri.c0
      exact ⟨b,h1⟩,fun r hr hj=>by
      obtain ⟨b,h1,h2⟩:=hri.c0
      obtain ⟨b',h3,r',h4,h5,_⟩:=hj
      rw [h1] at h3
      cases h3
      rw [h2 r' h4] at h5
      exact Bool.false_ne_true h5,fun k s' hz hs' i hi=>by
      obtain ⟨b,hb⟩:=hz
      obtain ⟨s,hs,rfl⟩:=back hs'
      rw [C7] at hi
      obtain ⟨b',h2,h3⟩:=hri.cl k s b hs hb (fun h=>by cases h) id i hi
      refine ⟨⟨b',h2⟩,fun q hq hj=>?_⟩
      obtain ⟨b'',h4,r,h5,h6,h7⟩:=hj
      rw [h2] at h4
      cases h4
      rcases h3 r h5 h6 with h8 | h8
      · exact .inl ⟨b,hb,r,h5,h8,h7⟩
      · exact .inr (by rw [h7]; exact (AI hf (qa hok hs) (by omega)).2 h8)⟩
  rw [hy]
  congr 1
  refine hrd'.2 (fun k s' b' hs' hb' q hq=>?_)
  obtain ⟨s,hs,rfl⟩:=back hs'
  obtain ⟨⟨b,hb⟩,hlb⟩:=hri'.lb k b' hb'
  have hqr:=(AH hf (qa hok hs)).1 _ hq
  obtain ⟨hg1,hg2⟩:=hf.gr q hqr.1 hqr.2
  obtain ⟨r,hr⟩:∃ r:Nat,g (q:Int)=(r:Int):=⟨(g q).toNat,by omega⟩
  have hqf:(q:Int)=f (r:Int):=by rw [← hr,hf.fg q hqr.1 hqr.2]
  rw [hr] at hg1 hg2
  refine hlb q (by omega) ⟨b,hb,r,by omega,hrd k s b hs hb r ?_,hqf⟩
  rw [hqf] at hq
  exact (C4 hf (qa hok hs) ⟨hg1,hg2⟩).1 hq

end Go.Proofs.YteafbimadlcljaaDoor
