/- Which steps are open: by the program, and by ways -/
import Derived.Test.YtaiokpalfdbnnaaC2
namespace Go.Proofs.Ytaiokpalfdbnnaa
open Go A

def out (o:Bool) (s:ab):Bool:=nf s&&(o||zn s)
/-- A way comes to a step, with something shared done since the last fence, or not. -/
inductive D (l:List ab):Nat→Bool→Prop
  | zero:D l 0 false
  | step {k i:Nat} {o:Bool} {s:ab}:D l k o→l[k]?=some s→Su l k i→D l i (out o s)
def bh (v:Nat) (s:ab):Nat:=if zn s=true then 2 else if nf s=true then v else 1
theorem G4 {s:ab} (h:zn s=true):nf s=true:=by
  rw [xy]
  intro e
  unfold zn at h
  rw [e] at h
  cases h
theorem IF {v:Nat} {s:ab} (h:v≤2):bh v s≤2:=by
  unfold bh
  split
  · exact Nat.le_refl _
  · split <;> omega
theorem Kt {v:Nat} {s:ab} (h:1≤v):1≤bh v s:=by
  unfold bh
  split
  · omega
  · split <;> omega
theorem Ku {v:Nat} {s:ab} (h:bh v s=2):zn s=true∨(nf s=true∧v=2):=by
  unfold bh at h
  split at h
  · exact .inl (by assumption)
  · split at h
    · exact .inr ⟨by assumption,h⟩
    · omega
theorem H0 (n v:Nat) (s:ab):eM n (v:Int) s=some ((bh v s:Nat):Int):=by
  unfold eM bh
  rw [xu,Option.bind_some]
  split
  · rfl
  · rw [G2]
    cases h:nf s <;> rfl
theorem rn {ws:List Nat} {k:Nat} (h:k<ws.length):az (Ns ws) (k:Int)=some (ws[k]:Int):=by
  rw [gJ]
  unfold Ns
  rw [List.getElem?_map,List.getElem?_eq_getElem h]
  rfl
theorem G5 (ws:List Nat) (k v:Nat):(Ns ws).set k (v:Int)=Ns (ws.set k v):=by
  unfold Ns
  rw [List.map_set]
def mS (vs ws:List Nat):Nat:=3 * (vs.map (fun v=>2 - v)).sum + ws.length
structure CS (l:List ab) (vs ws:List Nat):Prop where
  len:vs.length=l.length
  le:∀ (j v:Nat),vs[j]?=some v→v≤2
  so1:∀ (j v:Nat),vs[j]?=some v→1≤v→∃ o,D l j o
  so2:∀ (j:Nat),vs[j]?=some 2→D l j true
  c0:∃ v,vs[0]?=some v∧1≤v
  wk:∀ k∈ws,∃ v,vs[k]?=some v∧1≤v
def Fz (l:List ab) (vs:List Nat) (q:Nat):Prop:=∀ (v:Nat) (s:ab),l[q]?=some s→vs[q]?=some v→1≤v→∀ j,Su l q j→∃ v',vs[j]?=some v'∧bh v s≤v'
structure SJ (l:List ab) (k v0 o:Nat) (L:List Int) (vs ws:List Nat):Prop where
  cs:CS l vs ws
  cl:∀ q,q ∉ ws→q≠k→Fz l vs q
  own:∀ i:Nat,(i:Int)∈L→∃ v',vs[i]?=some v'∧o≤v'
  self:k∈ws∨vs[k]?=some v0
theorem SJ.skip {l:List ab} {k v0 o:Nat} {L:List Int} {vs ws:List Nat} (h:SJ l k v0 o L vs ws) {i v:Nat} (hi:vs[i]?=some v) (hv:o≤v):SJ l k v0 o (L++[(i:Int)]) vs ws :=
  ⟨h.cs,h.cl,fun q hq=>by
    rcases List.mem_append.1 hq with hq | hq
    · exact h.own q hq
    · have:q=i:=by have:=List.mem_singleton.1 hq; omega
      subst this
      exact ⟨v,hi,hv⟩,h.self⟩
theorem SJ.put {l:List ab} {k v0 o:Nat} {L:List Int} {vs ws:List Nat} (h:SJ l k v0 o L vs ws) {i v:Nat} (hi:vs[i]?=some v) (hv:v<o) (ho:o≤2) (s1:∃ o,D l i o) (s2:o=2→D l i true):SJ l k v0 o (L++[(i:Int)]) (vs.set i o) (ws++[i]):=by
  have hil:=(List.getElem?_eq_some_iff.1 hi).1
  have keep:∀ {q x:Nat},vs[q]?=some x→∃ y,(vs.set i o)[q]?=some y∧x≤y:=fun {q x} hq=>by
    rw [aW hil]
    split
    · rename_i e
      subst e
      rw [hi] at hq
      cases hq
      exact ⟨o,rfl,by omega⟩
    · exact ⟨x,hq,Nat.le_refl _⟩
  refine ⟨⟨by rw [List.length_set]; exact h.cs.len,fun j x hj=>?_,fun j x hj hx=>?_,fun j hj=>?_,?_,fun q hq=>?_⟩,fun q hq hqk x s hs hx h1 j hj=>?_,fun q hq=>?_,?_⟩
  · rw [aW hil] at hj
    split at hj
    · cases hj
      exact ho
    · exact h.cs.le j x hj
  · rw [aW hil] at hj
    split at hj
    · rename_i e
      subst e
      exact s1
    · exact h.cs.so1 j x hj hx
  · rw [aW hil] at hj
    split at hj
    · rename_i e
      subst e
      cases hj
      exact s2 rfl
    · exact h.cs.so2 j hj
  · obtain ⟨x,h1,h2⟩:=h.cs.c0
    obtain ⟨y,h3,h4⟩:=keep h1
    exact ⟨y,h3,by omega⟩
  · rcases List.mem_append.1 hq with hq | hq
    · obtain ⟨x,h1,h2⟩:=h.cs.wk q hq
      obtain ⟨y,h3,h4⟩:=keep h1
      exact ⟨y,h3,by omega⟩
    · rw [List.mem_singleton.1 hq,aW hil,if_pos rfl]
      exact ⟨o,rfl,by omega⟩
  · have hqi:i≠q:=fun e=>hq (by rw [e]; exact List.mem_append_right _ (List.mem_singleton.2 rfl))
    rw [aW hil,if_neg hqi] at hx
    obtain ⟨y,h2,h3⟩:=h.cl q (fun hm=>hq (List.mem_append_left _ hm)) hqk x s hs hx h1 j hj
    obtain ⟨z,h4,h5⟩:=keep h2
    exact ⟨z,h4,by omega⟩
  · rcases List.mem_append.1 hq with hq | hq
    · obtain ⟨y,h2,h3⟩:=h.own q hq
      obtain ⟨z,h4,h5⟩:=keep h2
      exact ⟨z,h4,by omega⟩
    · have:q=i:=by have:=List.mem_singleton.1 hq; omega
      subst this
      exact ⟨o,by rw [aW hil,if_pos rfl],Nat.le_refl _⟩
  · by_cases e:i=k
    · subst e
      exact .inl (List.mem_append_right _ (List.mem_singleton.2 rfl))
    · rcases h.self with h1 | h1
      · exact .inl (List.mem_append_left _ h1)
      · exact .inr (by rw [aW hil,if_neg e]; exact h1)
theorem On {B:Nat} (n:Nat) (hn:100≤n) (c:aj) (hB:B≤1000000) (v0 o:Nat) (ho:o≤2) (k0:Nat) (nx:List Int) (hnx:mE c.Steps k0 nx) (hd1:∀ j,Su c.Steps k0 j→∃ o,D c.Steps j o) (hd2:o=2→∀ j,Su c.Steps k0 j→D c.Steps j true) (vs ws:List Nat) (hm:mS vs ws≤B) (h0:SJ c.Steps k0 v0 o [] vs ws) :
    T (iter (fun s=>fe n c s) n (Ns vs,Ns ws,nx,(nx.length:Int),0,(o:Int))) (fun t=>∃ vs' ws',t=(Ns vs',Ns ws')∧mS vs' ws'≤B∧SJ c.Steps k0 v0 o nx vs' ws'):=by
  have h2:=hnx.1
  refine T.loop nx.length (fun i s=>∃ vs' ws',s=(Ns vs',Ns ws',nx,(nx.length:Int),(i:Int),(o:Int))∧mS vs' ws'≤B∧SJ c.Steps k0 v0 o (nx.take i) vs' ws') _ (fun i s hi hs=>?_) ⟨vs,ws,rfl,hm,h0⟩ (by omega)
  clear h0
  obtain ⟨vs',ws',rfl,hm,hj⟩:=hs
  unfold fe
  refine T.ite (fun h=>?_) (fun h=>?_)
  · have h:=of_decide_eq_true h
    have h:(i:Int)<(nx.length:Int):=h
    have hi':i<nx.length:=by omega
    refine T.get i rfl hi' ?_
    have hk:=hnx.2.1 nx[i] (List.getElem_mem hi')
    obtain ⟨k,hkk⟩:∃ k:Nat,nx[i]=(k:Int):=⟨nx[i].toNat,by omega⟩
    have htk:nx.take (i + 1)=nx.take i++[(k:Int)]:=by rw [List.take_succ_eq_append_getElem hi',hkk]
    have hsu:Su c.Steps k0 k:=(hnx.2.2 k).1 (by rw [← hkk]; exact List.getElem_mem hi')
    rw [hkk] at hk ⊢
    have hkN:k<vs'.length:=by have:=hj.cs.len; omega
    have hkv:vs'[k]?=some vs'[k]:=List.getElem?_eq_getElem hkN
    have hx:ae .i64 (i:Int) 1=((i + 1:Nat):Int):=bM i (by omega)
    have hlen:ws'.length≤mS vs' ws':=by unfold mS; omega
    refine T.eqb (rn hkN) ?_
    unfold eC
    rw [Int.toNat_natCast,rn hkN,Option.bind_some]
    by_cases hle:o≤vs'[k]
    · rw [if_pos (by show decide ((o:Int)≤((vs'[k]:Nat):Int))=true; rw [decide_eq_true_eq]; omega),Option.bind_some]
      refine T.ite (fun h=>by cases h) (fun _=>T.next ⟨hi',vs',ws',?_,hm,?_⟩)
      · rw [← hx]
      · rw [htk]
        exact hj.skip hkv hle
    · rw [if_neg (by show ¬ decide ((o:Int)≤((vs'[k]:Nat):Int))=true; rw [decide_eq_true_eq]; omega),Option.bind_some]
      refine T.ite (fun _=>T.grd (Dh (by show (Ns ws').length + 1≤_; rw [jA]; omega)) (T.next ⟨hi',vs'.set k o,ws'++[k],?_,?_,?_⟩)) (fun h=>by cases h)
      · show ((Ns vs').set k (o:Int),Ns ws'++([(k:Int)]:List Int),nx,(nx.length:Int),ae .i64 (i:Int) 1,(o:Int))=_
        rw [hx,G5,Df]
      · have:=nK (fun v=>2 - v) vs' k hkN o
        have h3:=hj.cs.le k _ hkv
        unfold mS at hm ⊢
        rw [List.length_append,List.length_singleton]
        omega
      · rw [htk]
        exact hj.put hkv (by omega) ho (hd1 k hsu) (fun h=>hd2 h k hsu)
  · have h:=of_decide_eq_false h
    have h:¬ (i:Int)<(nx.length:Int):=h
    have e:i=nx.length:=by omega
    subst e
    rw [List.take_length] at hj
    exact T.fin ⟨vs',ws',rfl,hm,hj⟩
theorem Oo {B:Nat} (n:Nat) (hn:100≤n) (c:aj) (hl:c.Steps.length≤4096) (hB:B≤1000000) (hBn:B<n) (vs ws:List Nat) (hm:mS vs ws≤B) (h0:CS c.Steps vs ws) (hcl:∀ q,q ∉ ws→Fz c.Steps vs q) :
    T (iter (fun s=>ff n c s) n (Ns vs,Ns ws)) (fun t=>∃ vs',t=Ns vs'∧CS c.Steps vs' []∧∀ q,Fz c.Steps vs' q):=by
  refine T.fall (fun m s=>∃ vs ws,s=(Ns vs,Ns ws)∧(mS vs ws=m∧m≤B)∧CS c.Steps vs ws∧∀ q,q ∉ ws→Fz c.Steps vs q) _ (fun m s hs=>?_) n (mS vs ws) _ ⟨vs,ws,rfl,⟨rfl,hm⟩,h0,hcl⟩ (by omega)
  clear hm h0 hcl
  obtain ⟨vs,ws,rfl,⟨rfl,hm⟩,hcs,hcl⟩:=hs
  unfold ff
  rcases snoc ws with rfl | ⟨init,k,rfl⟩
  · exact T.fin ⟨vs,rfl,hcs,fun q=>hcl q (by simp)⟩
  · have hlen:init.length + 1≤mS vs (init++[k]):=by unfold mS; rw [List.length_append,List.length_singleton]; omega
    have hmi:mS vs init + 1=mS vs (init++[k]):=by unfold mS; rw [List.length_append,List.length_singleton]; omega
    obtain ⟨v,hv,hv1⟩:=hcs.wk k (List.mem_append_right _ (List.mem_singleton.2 rfl))
    obtain ⟨hk,hv'⟩:=List.getElem?_eq_some_iff.1 hv
    have hkN:k<c.Steps.length:=by have:=hcs.len; omega
    have hs:c.Steps[k]?=some c.Steps[k]:=List.getElem?_eq_getElem hkN
    have hv2:=hcs.le k v hv
    rw [if_pos (by show decide (((Ns (init++[k])).length:Int)>0)=true; rw [jA,List.length_append]; simp)]
    dsimp only
    rw [D8 (by omega)]
    refine T.eqb D9 (T.grd D_ (T.eqb (rn hk) (T.get k rfl hkN ?_)))
    rw [hv',BX]
    refine T.eqb (H0 n v _) (T.eqb (D4 n c k hkN (by omega)) ?_)
    have hnx:=ID c k hkN (by omega)
    have hj0:SJ c.Steps k v (bh v c.Steps[k]) [] vs init:=⟨⟨hcs.len,hcs.le,hcs.so1,hcs.so2,hcs.c0,fun q hq=>hcs.wk q (List.mem_append_left _ hq)⟩,fun q hq hqk=>hcl q (fun hm=>by
      rcases List.mem_append.1 hm with hm | hm
      · exact hq hm
      · exact hqk (List.mem_singleton.1 hm)),fun i hi=>(by cases hi),.inr hv⟩
    obtain ⟨o,ho⟩:=hcs.so1 k v hv hv1
    refine (On (B:=mS vs init) n hn c (by omega) v _ (IF hv2) k _ hnx (fun j hj=>⟨_,.step ho hs hj⟩) (fun h2 j hj=>?_) vs init (Nat.le_refl _) hj0).bind (fun t ht=>?_)
    · rcases Ku h2 with h3 | ⟨h3,h4⟩
      · have:=D.step ho hs hj
        unfold out at this
        rw [h3,G4 h3,Bool.or_true] at this
        exact this
      · subst h4
        have:=D.step (hcs.so2 k hv) hs hj
        unfold out at this
        rw [h3,Bool.true_or] at this
        exact this
    · obtain ⟨vs',ws',rfl,h3,h4⟩:=ht
      refine T.next ⟨mS vs' ws',by omega,vs',ws',rfl,⟨rfl,by omega⟩,h4.cs,fun q hq=>?_⟩
      by_cases e:q=k
      · subst e
        intro x s hs2 hx hx1 j hj
        rw [hs] at hs2
        cases hs2
        rcases h4.self with h5 | h5
        · exact (hq h5).elim
        · rw [h5] at hx
          cases hx
          exact h4.own j ((hnx.2.2 j).2 hj)
      · exact h4.cl q hq e
theorem xz (n:Nat) (hn:1000000<n) (c:aj) (h1:1≤c.Steps.length) (hl:c.Steps.length≤4096):T (gf n c) (fun y=>∃ vs:List Nat,y=Ns vs∧vs.length=c.Steps.length∧∀ k,vs[k]?=some 2↔D c.Steps k true):=by
  unfold gf
  have hlen:(List.replicate c.Steps.length 0).length=c.Steps.length:=List.length_replicate
  refine T.grd (by simp [Nat.blt]; omega) ?_
  have e0:List.replicate ((c.Steps.length:Int)).toNat (0:Int)=Ns (List.replicate c.Steps.length 0):=by
    unfold Ns
    rw [Int.toNat_natCast,List.map_replicate]
    rfl
  rw [e0]
  refine T.eqb (rn (k:=0) (by rw [hlen]; omega)) ?_
  have hset:(Ns (List.replicate c.Steps.length 0)).set 0 1=Ns ((List.replicate c.Steps.length 0).set 0 1):=G5 _ 0 1
  rw [hset]
  have get0:∀ (q v:Nat),((List.replicate c.Steps.length 0).set 0 1)[q]?=some v→v≤1∧(1≤v→q=0):=fun q v h=>by
    rw [aW (by rw [hlen]; omega)] at h
    split at h
    · rename_i e
      cases h
      exact ⟨by omega,fun _=>e.symm⟩
    · have:=List.eq_of_mem_replicate (List.mem_of_getElem? h)
      exact ⟨by omega,fun h=>by omega⟩
  have hcs:CS c.Steps ((List.replicate c.Steps.length 0).set 0 1) [0]:=by
    have h00:((List.replicate c.Steps.length 0).set 0 1)[0]?=some 1:=by rw [aW (by rw [hlen]; omega),if_pos rfl]
    refine ⟨by rw [List.length_set,hlen],fun j v h=>by have:=(get0 j v h).1; omega,fun j v h hv=>?_,fun j h=>by have:=(get0 j 2 h).1; omega,⟨1,h00,Nat.le_refl _⟩,fun k hk=>?_⟩
    · rw [(get0 j v h).2 hv]
      exact ⟨_,.zero⟩
    · rw [List.mem_singleton.1 hk]
      exact ⟨1,h00,Nat.le_refl _⟩
  have hm:mS ((List.replicate c.Steps.length 0).set 0 1) [0]≤100000:=by
    have:=rm (fun v=>2 - v) 2 ((List.replicate c.Steps.length 0).set 0 1) (fun x _=>Nat.sub_le 2 x)
    rw [List.length_set,hlen] at this
    unfold mS
    rw [List.length_singleton]
    omega
  refine (Oo (B:=100000) n (by omega) c hl (by omega) (by omega) _ [0] hm hcs (fun q hq v s hs hx hv j hj=>?_)).bind (fun t ht=>?_)
  · exact (hq (List.mem_singleton.2 ((get0 q v hx).2 hv))).elim
  obtain ⟨vs,rfl,g1,g2⟩:=ht
  have comp:∀ k o,D c.Steps k o→∃ v,vs[k]?=some v∧1≤v∧(o=true→v=2):=fun k o hd=>by
    induction hd with
    | zero =>
      obtain ⟨v,h1,h2⟩:=g1.c0
      exact ⟨v,h1,h2,fun h=>by cases h⟩
    | @step k i o s hd hs hsu ih =>
      obtain ⟨v,h1,h2,h3⟩:=ih
      obtain ⟨v',h4,h5⟩:=g2 k v s hs h1 h2 i hsu
      have h6:=Kt (s:=s) h2
      have h7:=g1.le i v' h4
      refine ⟨v',h4,by omega,fun ho=>?_⟩
      unfold out at ho
      rw [Bool.and_eq_true,Bool.or_eq_true] at ho
      have h8:bh v s=2:=by
        unfold bh
        rcases ho.2 with h9 | h9
        · rw [if_pos ho.1,h3 h9]
          split <;> rfl
        · rw [if_pos h9]
      omega
  exact T.ret ⟨vs,rfl,g1.len,fun k=>⟨fun h=>g1.so2 k h,fun h=>by
    obtain ⟨v,h1,h2,h3⟩:=comp k true h
    rw [h1,h3 rfl]⟩⟩

end Go.Proofs.Ytaiokpalfdbnnaa
