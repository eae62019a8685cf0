/- Written, by the program: exactly when nothing is read that a way leaves unwritten -/
import Derived.Test.YtaiokpalfdbnnaaB6
namespace Go.Proofs.Ytaiokpalfdbnnaa
open Go A

/-! ### Worklists -/
theorem snoc {α:Type} (l:List α):l=[]∨∃ init x,l=init++[x]:=by
  rcases List.eq_nil_or_concat l with h | ⟨i,x,h⟩
  · exact .inl h
  · exact .inr ⟨i,x,by rw [h]; try rw [List.concat_eq_append]⟩
/-- Rounds by a measure that the state does not show. -/
theorem T.fall {σ τ:Type} {step:σ→Option (σ⊕τ)} (Inv:Nat→σ→Prop) (Post:τ→Prop)
    (hs:∀ m s,Inv m s→T (step s) (Rd (fun s'=>∃ m',m'<m∧Inv m' s') Post)):∀ (n m:Nat) (s:σ),Inv m s→m<n→T (iter step n s) Post
  | 0,_,_,_,h=>by omega
  | n + 1,m,s,h0,h=>by
    rw [sI]
    obtain ⟨r,e,p⟩:=hs m s h0
    rw [e]
    cases r with
    | inl s' =>
      obtain ⟨m',h1,h2⟩:=p
      exact T.fall Inv Post hs n m' s' h2 (by omega)
    | inr t=>exact T.ret p
def Ns (ws:List Nat):List Int:=ws.map (fun (k:Nat)=>((k:Nat):Int))
theorem jA (ws:List Nat):(Ns ws).length=ws.length:=List.length_map ..
theorem Df (ws:List Nat) (k:Nat):Ns ws++([(k:Int)]:List Int)=Ns (ws++[k]):=by
  unfold Ns
  rw [List.map_append]
  rfl
theorem Dh {m:Nat} (h:m≤10000000):Nat.ble (m * 8) 140737488355328=true:=Nat.ble_eq_true_of_le (by omega)
theorem D8 {init:List Nat} {k:Nat} (h:init.length≤10000000):cn .i64 ((Ns (init++[k])).length:Int) 1=(init.length:Int):=by
  rw [jA,List.length_append,List.length_singleton,GE _ (by omega) (by omega)]
  rfl
theorem D9 {init:List Nat} {k:Nat}:az (Ns (init++[k])) (init.length:Int)=some (k:Int):=by
  rw [gJ]
  unfold Ns
  rw [List.map_append,List.getElem?_append_right (by rw [List.length_map]; exact Nat.le_refl _),List.length_map,Nat.sub_self]
  rfl
theorem BX {init:List Nat} {k:Nat}:(Ns (init++[k])).take ((init.length:Int)).toNat=Ns init:=by
  unfold Ns
  rw [Int.toNat_natCast,List.map_append,List.take_left' (List.length_map ..)]
theorem D_ {init:List Nat} {k:Nat}:(decide ((0:Int)≤(init.length:Int))&&decide ((init.length:Int)≤((Ns (init++[k])).length:Int)))=true:=by
  rw [jA,List.length_append]
  simp
  omega

/-! ### Cells -/
def Cs (cs:List (Option WL)):List (Option (List Int)):=cs.map (Option.map sW)
theorem xx {cs:List (Option WL)} {k:Nat} (h:k<cs.length):az (Cs cs) (k:Int)=some (cs[k].map sW):=by
  rw [gJ]
  unfold Cs
  rw [List.getElem?_map,List.getElem?_eq_getElem h]
  rfl
theorem tU {cs:List (Option WL)} (k:Nat) (b:WL):(Cs cs).set ((k:Int)).toNat (some (sW b))=Cs (cs.set k (some b)):=by
  unfold Cs
  rw [Int.toNat_natCast,List.map_set]
  rfl
def Jt (R:Nat):Option WL→Nat
  | none=>64 * nw R + 2
  | some b=>Az b
def mW (R:Nat) (cs:List (Option WL)) (ws:List Nat):Nat:=3 * (cs.map (Jt R)).sum + ws.length
structure CI (l:List ab) (R:Nat) (cs:List (Option WL)) (ws:List Nat):Prop where
  len:cs.length=l.length
  sz:∀ (j:Nat) (b:WL),cs[j]?=some (some b)→b.length=nw R
  way:∀ (j:Nat) (b:WL),cs[j]?=some (some b)→∀ r,r<R→bw b r=false→U l r j
  c0:∃ b,cs[0]?=some (some b)∧∀ r,r<R→bw b r=false
  wk:∀ k∈ws,∃ b,cs[k]?=some (some b)
def JF (l:List ab) (R:Nat) (cs:List (Option WL)) (q:Nat):Prop:=∀ (b:WL) (s:ab),l[q]?=some s→cs[q]?=some (some b)→∀ j,Su l q j→∃ b',cs[j]?=some (some b')∧∀ r,r<R→bw b' r=true→bw b r=true∨B_ s r=true
/-- While a step's own next ones are br through. -/
structure RJ (l:List ab) (R:Nat) (k:Nat) (b o:WL) (L:List Int) (cs:List (Option WL)) (ws:List Nat):Prop where
  ci:CI l R cs ws
  cl:∀ q,q ∉ ws→q≠k→JF l R cs q
  own:∀ i:Nat,(i:Int)∈L→∃ b',cs[i]?=some (some b')∧∀ r,r<R→bw b' r=true→bw o r=true
  self:k∈ws∨cs[k]?=some (some b)
theorem CI.set {l:List ab} {R:Nat} {cs:List (Option WL)} {ws ws':List Nat} (h:CI l R cs ws) {j:Nat} (hj:j<cs.length) {b:WL} (hb:b.length=nw R) (hw:∀ r,r<R→bw b r=false→U l r j) (h0:∀ b0,cs[j]?=some (some b0)→∀ r,bw b0 r=false→bw b r=false) (hn:j=0→cs[j]?≠some none) (hws:∀ q∈ws',q∈ws∨q=j):CI l R (cs.set j (some b)) ws':=by
  refine ⟨by rw [List.length_set]; exact h.len,fun q x hq=>?_,fun q x hq r hr hx=>?_,?_,fun q hq=>?_⟩
  · rw [aW hj] at hq
    split at hq
    · cases hq
      exact hb
    · exact h.sz q x hq
  · rw [aW hj] at hq
    split at hq
    · rename_i e
      subst e
      cases hq
      exact hw r hr hx
    · exact h.way q x hq r hr hx
  · obtain ⟨b0,h1,h2⟩:=h.c0
    by_cases e:j=0
    · subst e
      exact ⟨b,by rw [aW hj,if_pos rfl],fun r hr=>h0 b0 h1 r (h2 r hr)⟩
    · exact ⟨b0,by rw [aW hj,if_neg e]; exact h1,h2⟩
  · rw [aW hj]
    split
    · exact ⟨b,rfl⟩
    · rename_i e
      rcases hws q hq with h1 | h1
      · exact h.wk q h1
      · exact (e h1.symm).elim
/-- A cell is set to less, or for the first time. -/
theorem RJ.put {l:List ab} {R:Nat} {k i0:Nat} {b o b1:WL} {L:List Int} {cs:List (Option WL)} {ws ws':List Nat} (h:RJ l R k b o L cs ws) (hi:i0<cs.length) (hb1:b1.length=nw R)
    (hw:∀ r,r<R→bw b1 r=false→U l r i0) (ho:∀ r,bw b1 r=true→bw o r=true) (hle:∀ b0,cs[i0]?=some (some b0)→∀ r,bw b1 r=true→bw b0 r=true)
    (hn:i0=0→cs[i0]?≠some none) (hws:∀ q∈ws',q∈ws∨q=i0) (hsub:∀ q∈ws,q∈ws') (hc:i0∈ws'∨cs[i0]?=some (some b1)):RJ l R k b o (L++[(i0:Int)]) (cs.set i0 (some b1)) ws':=by
  have keep:∀ {q:Nat} {x:WL},cs[q]?=some (some x)→∃ y,(cs.set i0 (some b1))[q]?=some (some y)∧∀ r,bw y r=true→bw x r=true:=fun {q x} hq=>by
    rw [aW hi]
    split
    · rename_i e
      subst e
      exact ⟨_,rfl,fun r hr=>hle x hq r hr⟩
    · exact ⟨x,hq,fun _ h=>h⟩
  have same:∀ {q:Nat} {x:WL},q ∉ ws'→(cs.set i0 (some b1))[q]?=some (some x)→cs[q]?=some (some x):=fun {q x} hq hx=>by
    rw [aW hi] at hx
    split at hx
    · rename_i e
      subst e
      rcases hc with hc | hc
      · exact (hq hc).elim
      · rw [hc]
        exact hx
    · exact hx
  refine ⟨h.ci.set hi hb1 hw (fun b0 hb0 r hr=>?_) hn hws,fun q hq hqk x s hs hx j hj=>?_,fun i hin=>?_,?_⟩
  · cases hx:bw b1 r with
    | false=>rfl
    | true =>
      rw [hle b0 hb0 r hx] at hr
      cases hr
  · obtain ⟨y,h1,h2⟩:=h.cl q (fun hm=>hq (hsub q hm)) hqk x s hs (same hq hx) j hj
    obtain ⟨z,h3,h4⟩:=keep h1
    exact ⟨z,h3,fun r hr hz=>h2 r hr (h4 r hz)⟩
  · rcases List.mem_append.1 hin with hin | hin
    · obtain ⟨y,h1,h2⟩:=h.own i hin
      obtain ⟨z,h3,h4⟩:=keep h1
      exact ⟨z,h3,fun r hr hz=>h2 r hr (h4 r hz)⟩
    · have:i=i0:=by have:=List.mem_singleton.1 hin; omega
      subst this
      exact ⟨b1,by rw [aW hi,if_pos rfl],fun r _ hr=>ho r hr⟩
  · rcases h.self with h1 | h1
    · exact .inl (hsub k h1)
    · by_cases e:i0=k
      · subst e
        rcases hc with hc | hc
        · exact .inl hc
        · rw [hc] at h1
          cases h1
          exact .inr (by rw [aW hi,if_pos rfl])
      · exact .inr (by rw [aW hi,if_neg e]; exact h1)

theorem Ea {R:Nat} (h0:R≠0) {b:WL} (hb:b.length=nw R):dU (sW b)=true:=by
  cases b with
  | nil =>
    unfold nw at hb
    simp at hb
    omega
  | cons x b=>rfl
theorem HW {n:Nat} {oA:List (Option (List Int))} {oB:List Int} {R:Nat} (h:R≠0) (hR:R≤1024) {b:WL} (hb:b.length=nw R):dM n oA oB (sW b)=some ():=by
  unfold dM
  rw [kx (Ea h hb),kx (Dh (by rw [Ao,hb]; unfold nw; omega))]
theorem HX {n:Nat} {oA:List (Option (List Int))} {oB:Nat} {oC:List Int} {R:Nat} (h:R≠0) (hR:R≤1024) {b:WL} (hb:b.length=nw R):dN n oA oB oC (sW b)=some ():=by
  unfold dN
  rw [kx (Ea h hb),kx (Dh (by rw [Ao,hb]; unfold nw; omega))]
theorem a2 {R B:Nat} (hR0:R≠0) (hR:R≤1024) (n:Nat) (hn:100≤n) (c:aj) (hB:B≤1000000) (o b0:WL) (ho:o.length=nw R) (k0:Nat) (nx:List Int) (hnx:mE c.Steps k0 nx) (how:∀ r,r<R→bw o r=false→∀ j,Su c.Steps k0 j→U c.Steps r j) (cs:List (Option WL)) (ws:List Nat) (hm:mW R cs ws≤B) (h0:RJ c.Steps R k0 b0 o [] cs ws) :
    T (iter (fun s=>dk n c s) n (Cs cs,Ns ws,sW o,nx,(nx.length:Int),0)) (fun t=>∃ cs' ws',t=(Cs cs',Ns ws')∧mW R cs' ws'≤B∧RJ c.Steps R k0 b0 o nx cs' ws'):=by
  have h2:=hnx.1
  refine T.loop nx.length (fun i s=>∃ cs' ws',s=(Cs cs',Ns ws',sW o,nx,(nx.length:Int),(i:Int))∧mW R cs' ws'≤B∧RJ c.Steps R k0 b0 o (nx.take i) cs' ws') _ (fun i s hi hs=>?_) ⟨cs,ws,rfl,hm,h0⟩ (by omega)
  clear h0
  obtain ⟨cs',ws',rfl,hm,hj⟩:=hs
  unfold dk
  refine T.ite (fun h=>?_) (fun h=>?_)
  · have h:=of_decide_eq_true h
    have h:(i:Int)<(nx.length:Int):=h
    have hi':i<nx.length:=by omega
    refine T.get i rfl hi' ?_
    have hk:=hnx.2.1 nx[i] (List.getElem_mem hi')
    obtain ⟨k,hkk⟩:∃ k:Nat,nx[i]=(k:Int):=⟨nx[i].toNat,by omega⟩
    have htk:nx.take (i + 1)=nx.take i++[(k:Int)]:=by rw [List.take_succ_eq_append_getElem hi',hkk]
    have hsu:Su c.Steps k0 k:=(hnx.2.2 k).1 (by rw [← hkk]; exact List.getElem_mem hi')
    rw [hkk] at hk ⊢
    have hkN:k<cs'.length:=by have:=hj.ci.len; omega
    refine T.eqb (xx hkN) ?_
    have hs:∀ b,mW R (cs'.set k (some b)) ws' + 3 * Jt R cs'[k]=mW R cs' ws' + 3 * Az b:=fun b=>by
      have:=nK (Jt R) cs' k hkN (some b)
      unfold mW
      simp only [show Jt R (some b)=Az b from rfl] at this
      omega
    have hpush:∀ b,mW R (cs'.set k (some b)) (ws'++[k])=mW R (cs'.set k (some b)) ws' + 1:=fun b=>by
      unfold mW
      rw [List.length_append,List.length_singleton]
      omega
    have hlen:ws'.length≤mW R cs' ws':=by unfold mW; omega
    have hx:ae .i64 (i:Int) 1=((i + 1:Nat):Int):=bM i (by omega)
    have inpush:∀ q∈ws'++[k],q∈ws'∨q=k:=fun q hq=>by
      rcases List.mem_append.1 hq with hq | hq
      · exact .inl hq
      · exact .inr (List.mem_singleton.1 hq)
    refine T.matchO (fun e=>?_) (fun z e=>?_)
    · rw [Option.map_eq_none_iff] at e
      have hkn:cs'[k]?=some none:=by rw [List.getElem?_eq_getElem hkN,e]
      refine T.eqb (HW hR0 hR ho) (T.grd (Dh (by show (Ns ws').length + 1≤_; rw [jA]; omega)) (T.next ⟨hi',cs'.set k (some o),ws'++[k],?_,?_,?_⟩))
      · rw [tU,Df,hx]
      · have h3:=GU o
        rw [hpush]
        have h4:=hs o
        rw [e] at h4
        have h5:Jt R none=64 * nw R + 2:=rfl
        rw [ho] at h3
        omega
      · rw [htk]
        refine hj.put hkN ho (fun r hr hb=>how r hr hb k hsu) (fun _ h=>h) (fun b0 hb0=>?_) (fun ek=>?_) inpush (fun q hq=>List.mem_append_left _ hq) (.inl (List.mem_append_right _ (List.mem_singleton.2 rfl)))
        · rw [hkn] at hb0
          cases hb0
        · subst ek
          obtain ⟨b0,hb0,_⟩:=hj.ci.c0
          rw [hb0]
          simp
    · rw [Option.map_eq_some_iff] at e
      obtain ⟨b,e,rfl⟩:=e
      have hgb:cs'[k]?=some (some b):=by rw [List.getElem?_eq_getElem hkN,e]
      have hbl:=hj.ci.sz k b hgb
      have h17:nw R≤17:=by unfold nw; omega
      refine T.grd (Ea hR0 hbl) ((Js n hn _ _ _ o b (by rw [ho,hbl]) (by omega)).bind (fun y hy=>?_))
      obtain ⟨y1,y2⟩:=y
      obtain ⟨b',e2,g1,g2,g3⟩:=hy
      have e2:y2=sW b':=e2
      subst e2
      have h3:=hs b'
      rw [e] at h3
      have h4:Jt R (some b)=Az b:=rfl
      have put:∀ ws2:List Nat,(∀ q∈ws2,q∈ws'∨q=k)→(∀ q∈ws',q∈ws2)→(k∈ws2∨cs'[k]?=some (some b'))→RJ c.Steps R k0 b0 o (nx.take (i + 1)) (cs'.set k (some b')) ws2:=fun ws2 w1 w2 w3=>by
        rw [htk]
        refine hj.put hkN (by rw [g1,hbl]) (fun r hr hb=>?_) (fun r hr=>?_) (fun b0 hb0 r hr=>?_) (fun ek h=>?_) w1 w2 w3
        · rw [g2,Bool.and_eq_false_iff] at hb
          rcases hb with hb | hb
          · exact hj.ci.way k b hgb r hr hb
          · exact how r hr hb k hsu
        · rw [g2,Bool.and_eq_true] at hr
          exact hr.2
        · rw [hgb] at hb0
          cases hb0
          rw [g2,Bool.and_eq_true] at hr
          exact hr.1
        · rw [hgb] at h
          cases h
      refine T.ite (fun hc=>?_) (fun hc=>?_)
      · have hc:(!y1)=true:=hc
        rcases g3 with ⟨rfl,rfl⟩ | ⟨g3,_⟩
        · refine T.next ⟨hi',cs'.set k (some b'),ws',?_,?_,put ws' (fun q hq=>.inl hq) (fun q hq=>hq) (.inr hgb)⟩
          · rw [← hx,← tU]
          · omega
        · have g3:y1=true:=g3
          rw [g3] at hc
          cases hc
      · have hc:(!y1)=false:=hc
        rcases g3 with ⟨g3,_⟩ | ⟨_,g3⟩
        · have g3:y1=false:=g3
          rw [g3] at hc
          cases hc
        · refine T.grd (Dh (by show (Ns ws').length + 1≤_; rw [jA]; omega)) (T.next ⟨hi',cs'.set k (some b'),ws'++[k],?_,?_,put (ws'++[k]) inpush (fun q hq=>List.mem_append_left _ hq) (.inl (List.mem_append_right _ (List.mem_singleton.2 rfl)))⟩)
          · rw [← hx,← tU,← Df]
          · rw [hpush]
            omega
  · have h:=of_decide_eq_false h
    have h:¬ (i:Int)<(nx.length:Int):=h
    have e:i=nx.length:=by omega
    subst e
    rw [List.take_length] at hj
    exact T.fin ⟨cs',ws',rfl,hm,hj⟩
theorem a1 {R B:Nat} (hR0:R≠0) (hR:R≤1024) (n:Nat) (hn:100≤n) (c:aj) (hl:c.Steps.length≤4096) (hok:∀ (k:Nat) (s:ab),c.Steps[k]?=some s→Ok s (R:Int) c.Steps.length) (hB:B≤1000000) (hBn:B<n) (cs:List (Option WL)) (ws:List Nat) (hm:mW R cs ws≤B) (h0:CI c.Steps R cs ws) (hcl:∀ q,q ∉ ws→JF c.Steps R cs q) :
    T (iter (fun s=>fN n c s) n (Cs cs,Ns ws)) (fun t=>∃ cs',t=Cs cs'∧CI c.Steps R cs' []∧∀ q,JF c.Steps R cs' q):=by
  refine T.fall (fun m s=>∃ cs ws,s=(Cs cs,Ns ws)∧(mW R cs ws=m∧m≤B)∧CI c.Steps R cs ws∧∀ q,q ∉ ws→JF c.Steps R cs q) _ (fun m s hs=>?_) n (mW R cs ws) _ ⟨cs,ws,rfl,⟨rfl,hm⟩,h0,hcl⟩ (by omega)
  clear hm h0 hcl
  obtain ⟨cs,ws,rfl,⟨rfl,hm⟩,hci,hcl⟩:=hs
  unfold fN
  rcases snoc ws with rfl | ⟨init,k,rfl⟩
  · exact T.fin ⟨cs,rfl,hci,fun q=>hcl q (by simp)⟩
  · have hlen:init.length + 1≤mW R cs (init++[k]):=by unfold mW; rw [List.length_append,List.length_singleton]; omega
    have hmi:mW R cs init + 1=mW R cs (init++[k]):=by unfold mW; rw [List.length_append,List.length_singleton]; omega
    obtain ⟨b,hb⟩:=hci.wk k (List.mem_append_right _ (List.mem_singleton.2 rfl))
    obtain ⟨hk,hb'⟩:=List.getElem?_eq_some_iff.1 hb
    have hkN:k<c.Steps.length:=by have:=hci.len; omega
    have hs:c.Steps[k]?=some c.Steps[k]:=List.getElem?_eq_getElem hkN
    have hbl:=hci.sz k b hb
    rw [if_pos (by show decide (((Ns (init++[k])).length:Int)>0)=true; rw [jA,List.length_append]; simp)]
    dsimp only
    rw [D8 (by omega)]
    refine T.eqb D9 (T.grd D_ (T.eqb (xx hk) (T.matchO (fun e=>?_) (fun z e=>?_))))
    · rw [hb'] at e
      cases e
    rw [hb',Option.map_some,Option.some.injEq] at e
    subst e
    refine T.eqb (HX hR0 hR hbl) (T.get k rfl hkN (T.eqb (HQ n _) ?_))
    rw [BX,tU,f0 hb]
    have hnx:=ID c k hkN (by omega)
    have hj0:∀ o,RJ c.Steps R k b o [] cs init:=fun o=>⟨⟨hci.len,hci.sz,hci.way,hci.c0,fun q hq=>hci.wk q (List.mem_append_left _ hq)⟩,fun q hq hqk=>hcl q (fun hm=>by
      rcases List.mem_append.1 hm with hm | hm
      · exact hq hm
      · exact hqk (List.mem_singleton.1 hm)),fun i hi=>(by cases hi),.inr hb⟩
    have done:∀ o:WL,o.length=nw R→(∀ r:Nat,r<R→bw o r=(bw b r||B_ c.Steps[k] r))→T ((iter (fun s=>dk n c s) n (Cs cs,Ns init,sW o,Kh c k,((Kh c k).length:Int),0)).bind fun ta13=>some (.inl (ta13.1,ta13.2):(List (Option (List Int))×List Int)⊕(List (Option (List Int))))) (Rd (fun s'=>∃ m',m'<mW R cs (init++[k])∧∃ cs ws,s'=(Cs cs,Ns ws)∧(mW R cs ws=m'∧m'≤B)∧CI c.Steps R cs ws∧∀ q,q ∉ ws→JF c.Steps R cs q) (fun t=>∃ cs',t=Cs cs'∧CI c.Steps R cs' []∧∀ q,JF c.Steps R cs' q)):=fun o ho hob=>by
      refine (a2 (B:=mW R cs init) hR0 hR n hn c (by omega) o b ho k _ hnx (fun r hr hx j hj=>?_) cs init (Nat.le_refl _) (hj0 o)).bind (fun t ht=>?_)
      · rw [hob r hr,Bool.or_eq_false_iff] at hx
        exact .step (hci.way k b hb r hr hx.1) hs hx.2 hj
      · obtain ⟨cs',ws',rfl,h3,h4⟩:=ht
        refine T.next ⟨mW R cs' ws',by omega,cs',ws',rfl,⟨rfl,by omega⟩,h4.ci,fun q hq=>?_⟩
        by_cases e:q=k
        · subst e
          intro x s hs2 hx j hj
          rw [hs] at hs2
          cases hs2
          rcases h4.self with h5 | h5
          · exact (hq h5).elim
          · rw [h5] at hx
            cases hx
            obtain ⟨y,h6,h7⟩:=h4.own j ((hnx.2.2 j).2 hj)
            refine ⟨y,h6,fun r hr hy=>?_⟩
            have:=h7 r hr hy
            rw [hob r hr,Bool.or_eq_true] at this
            exact this
        · exact h4.cl q hq e
    refine T.ite (fun h=>?_) (fun h=>?_)
    · obtain ⟨r,hr1,hr2,hr3⟩:=(hok k _ hs).wr h
      have hr1':((Hk c.Steps[k]).1:Int)=(r:Int):=hr1
      refine T.bind (P:=fun y=>∃ o:WL,y=sW o∧o.length=nw R∧∀ q,bw o q=(bw b q||decide (q=r))) (by rw [hr1']; exact Kn hR (by omega) n _ _ b hbl) (fun y hy=>?_)
      obtain ⟨o,rfl,h3,h4⟩:=hy
      refine T.eqb (D4 n c k hkN (by omega)) (done o h3 (fun q hq=>?_))
      rw [h4,hr3]
    · exact T.eqb (D4 n c k hkN (by omega)) (done b hbl (fun q hq=>by rw [GN h,Bool.or_false]))

end Go.Proofs.Ytaiokpalfdbnnaa
