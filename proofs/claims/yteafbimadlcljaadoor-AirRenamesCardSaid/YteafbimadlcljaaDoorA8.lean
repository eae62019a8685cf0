/- What Live tells -/
import Derived.Test.YteafbimadlcljaaDoorA7
namespace Go.Proofs.YteafbimadlcljaaDoor
open Go A

def yJ (N m:Nat) (Q:Nat→Nat→Prop) (al:List (Option (List Nat))):Prop:=al.length=N∧(∀ (k:Nat) (l:List Nat),al[k]?=some (some l)→(∀ j∈l,j<N)∧l.length≤m)∧∀ a k,Q a k→∃ l,al[k]?=some (some l)∧a∈l
theorem yJ.add {N m:Nat} {Q:Nat→Nat→Prop} {al:List (Option (List Nat))} (h:yJ N m Q al) {k i:Nat} (hk:k<N) (hi:i<N) (z:List Nat) (hz:al[k]?=some (some z)∨(al[k]?=some none∧z=[])):yJ N (m + 1) (fun a q=>Q a q∨(a=i∧q=k)) (al.set k (some (z++[i]))):=by
  have hkl:k<al.length:=by rw [h.1]; exact hk
  have hzp:(∀ j∈z,j<N)∧z.length≤m:=by
    rcases hz with hz | ⟨_,rfl⟩
    · exact h.2.1 k z hz
    · exact ⟨fun j hj=>(by cases hj),Nat.zero_le _⟩
  refine ⟨by rw [List.length_set]; exact h.1,fun q l hq=>?_,fun a q hq=>?_⟩
  · by_cases e:k=q
    · subst e
      rw [List.getElem?_set_self hkl] at hq
      cases hq
      refine ⟨fun j hj=>?_,by rw [List.length_append,List.length_singleton]; omega⟩
      rcases List.mem_append.1 hj with hj | hj
      · exact hzp.1 j hj
      · rw [List.mem_singleton.1 hj]; exact hi
    · rw [List.getElem?_set_ne e] at hq
      have:=h.2.1 q l hq
      exact ⟨this.1,by omega⟩
  · by_cases e:k=q
    · subst e
      refine ⟨z++[i],by rw [List.getElem?_set_self hkl],?_⟩
      rcases hq with hq | ⟨rfl,_⟩
      · obtain ⟨l,h1,h2⟩:=h.2.2 a k hq
        rcases hz with hz | ⟨hz,_⟩
        · rw [hz] at h1
          cases h1
          exact List.mem_append_left _ h2
        · rw [hz] at h1
          cases h1
      · exact List.mem_append_right _ (List.mem_singleton.2 rfl)
    · rcases hq with hq | ⟨_,rfl⟩
      · obtain ⟨l,h1,h2⟩:=h.2.2 a q hq
        exact ⟨l,by rw [List.getElem?_set_ne e]; exact h1,h2⟩
      · exact (e rfl).elim

theorem Fw (n:Nat) (hn:4≤n) (c:bh) (N:Nat) (nx:List Int) (hnx:AB N nx) (_hN:N≤120) (i:Nat) (hi:i<N) (A:List (Option (List Int))) (ws:List Int) (al:List (Option (List Nat))) (m:Nat) (hm:m≤10000) (Q:Nat→Nat→Prop) (hal:yJ N m Q al) :
    T (iter (fun s=>ig n c nx s) n (A,Ah al,ws,(i:Int),0,(i:Int))) (fun t=>∃ al',t=(A,Ah al',ws,(i:Int))∧yJ N (m + 2) (fun a k=>Q a k∨(a=i∧(k:Int)∈nx)) al'):=by
  have h2:=hnx.1
  refine T.loop nx.length (fun j s=>∃ al',s=(A,Ah al',ws,(i:Int),(j:Int),(i:Int))∧yJ N (m + j) (fun a k=>Q a k∨(a=i∧(k:Int)∈nx.take j)) al') _ (fun j s hj hs=>?_) ⟨al,rfl,hal.1,hal.2.1,fun a k h=>hal.2.2 a k (by simpa using h)⟩ (by omega)
  obtain ⟨al',rfl,hp⟩:=hs
  unfold ig
  refine T.ite (fun h=>?_) (fun h=>?_)
  · rw [decide_eq_true_eq] at h
    have hj':j<nx.length:=by simpa using h
    refine T.get j rfl hj' ?_
    have hk:=hnx.2 nx[j] (List.getElem_mem hj')
    obtain ⟨k,hkk⟩:∃ k:Nat,nx[j]=(k:Int):=⟨nx[j].toNat,by omega⟩
    have htk:nx.take (j + 1)=nx.take j++[(k:Int)]:=by rw [List.take_succ_eq_append_getElem hj',hkk]
    rw [hkk] at hk ⊢
    have hkN:k<N:=by omega
    have hkl:k<al'.length:=by rw [hp.1]; exact hkN
    have hx:ac .i64 (j:Int) 1=((j + 1:Nat):Int):=ga j (by omega)
    have fin:∀ z:List Nat,(al'[k]?=some (some z)∨(al'[k]?=some none∧z=[]))→yJ N (m + (j + 1)) (fun a q=>Q a q∨(a=i∧(q:Int)∈nx.take (j + 1))) (al'.set k (some (z++[i]))):=fun z hz=>by
      have:=hp.add hkN hi z hz
      refine ⟨this.1,this.2.1,fun a q hq=>this.2.2 a q ?_⟩
      rw [htk] at hq
      rcases hq with hq | ⟨rfl,hq⟩
      · exact .inl (.inl hq)
      · rcases List.mem_append.1 hq with hq | hq
        · exact .inl (.inr ⟨rfl,hq⟩)
        · exact .inr ⟨rfl,by have:=List.mem_singleton.1 hq; omega⟩
    refine T.eqb (C1 hkl) (T.matchO (fun e=>?_) (fun z e=>?_))
    · rw [Option.map_eq_none_iff] at e
      refine T.next ⟨hj',_,?_,fin [] (.inr ⟨by rw [List.getElem?_eq_getElem hkl,e],rfl⟩)⟩
      rw [hx,← C2]
      rfl
    · rw [Option.map_eq_some_iff] at e
      obtain ⟨l,e,rfl⟩:=e
      have hl:al'[k]?=some (some l):=by rw [List.getElem?_eq_getElem hkl,e]
      have:=(hp.2.1 k l hl).2
      refine T.grd (xg (by rw [eK]; omega)) (T.next ⟨hj',_,?_,fin l (.inl hl)⟩)
      rw [hx,← C2,← o6]
  · rw [decide_eq_false_iff_not] at h
    have e:j=nx.length:=by have:¬ ((j:Int)<(nx.length:Int)):=h; omega
    subst e
    rw [List.take_length] at hp
    exact T.fin ⟨al',rfl,hp.1,fun k l hk=>by have:=hp.2.1 k l hk; exact ⟨this.1,by omega⟩,hp.2.2⟩

theorem Fx {R:Nat} (hR:R≤60) (n:Nat) (c:bh) (hcR:c.Regs=(R:Int)) (hl:c.Steps.length≤120) (hn:200≤n) :
    T (iter (fun s=>ij n c s) n (Cs R (List.replicate c.Steps.length none),Ah (List.replicate c.Steps.length none),([]:List Int),0)) (fun t=>∃ al,t=(Ls R (List.replicate c.Steps.length 0#64),Ah al,Ns (List.range c.Steps.length))∧G5 c al):=by
  refine T.loop c.Steps.length (fun i s=>∃ cs al,s=(Cs R cs,Ah al,Ns (List.range i),(i:Int))∧cs.length=c.Steps.length∧(∀ k,k<i→cs[k]?=some (some 0#64))∧yJ c.Steps.length (2 * i) (fun a k=>a<i∧(k:Int)∈xd c a) al) _ (fun i s hi hs=>?_) ⟨_,_,rfl,List.length_replicate,fun k hk=>by omega,List.length_replicate,fun k l hk=>?_,fun a k h=>by omega⟩ (by omega)
  · obtain ⟨cs,al,rfl,hcs,hz,hal⟩:=hs
    unfold ij
    refine T.ite (fun h=>?_) (fun h=>?_)
    · rw [decide_eq_true_eq] at h
      have hi':i<c.Steps.length:=by simpa using h
      have hic:i<cs.length:=by omega
      rw [hcR]
      refine T.eqb (F8 hR n _ _ _) (T.eqb (iJ hic) (T.grd (xg (by rw [eK,List.length_range]; omega)) (T.eqb (uh n c i hi' (by omega)) ?_)))
      have hr:Ns (List.range i)++([(i:Int)]:List Int)=Ns (List.range (i + 1)):=by rw [o6,List.range_succ]
      dsimp only
      rw [gI,hr]
      refine (Fw n (by omega) c c.Steps.length _ (AC c i hi' (by omega)) hl i hi' _ _ al (2 * i) (by omega) _ hal).bind (fun t ht=>?_)
      obtain ⟨al',rfl,hp⟩:=ht
      refine T.next ⟨hi',cs.set i (some 0#64),al',?_,by rw [List.length_set]; exact hcs,fun k hk=>?_,hp.1,?_,fun a k h=>hp.2.2 a k ?_⟩
      · rw [ga i (by omega)]
      · by_cases e:i=k
        · subst e
          rw [List.getElem?_set_self hic]
        · rw [List.getElem?_set_ne e]
          exact hz k (by omega)
      · intro k l hk
        have:=hp.2.1 k l hk
        exact ⟨this.1,by omega⟩
      · by_cases e:a=i
        · subst e
          exact .inr ⟨rfl,h.2⟩
        · exact .inl ⟨by omega,h.2⟩
    · rw [decide_eq_false_iff_not] at h
      have e:i=c.Steps.length:=by have:¬ ((i:Int)<(c.Steps.length:Int)):=h; omega
      subst e
      refine T.fin ⟨al,?_,hal.1,fun k l hk=>?_,fun a ha k hk=>hal.2.2 a k ⟨ha,hk⟩⟩
      · have:cs=(List.replicate c.Steps.length 0#64).map some:=by
          apply List.ext_getElem?
          intro k
          by_cases hk:k<c.Steps.length
          · rw [hz k hk,List.getElem?_map,List.getElem?_replicate,if_pos hk]
            rfl
          · rw [List.getElem?_eq_none (by omega),List.getElem?_eq_none (by rw [List.length_map,List.length_replicate]; omega)]
        unfold Ls
        rw [this]
      · have:=hal.2.1 k l hk
        exact ⟨this.1,by omega⟩
  · rw [List.getElem?_replicate] at hk
    split at hk
    · cases hk
    · cases hk

/-- The numbers of a set. -/
def iE (R:Nat) (b:W):List Int:=Ns ((List.range R).filter (fun q=>b.getLsbD q))
theorem Gb {R:Nat} (hR:R≤60) (n:Nat) (hn:100≤n) (oA:List (Option (List Int))) (oB:Nat) (oC:List (Option (List Int))) (b:W):T (eP n (R:Int) oA oB oC (sw R b)) (fun l=>l=iE R b):=by
  unfold eP
  refine T.bind (P:=fun l=>l=iE R b) ?_ (fun t h=>T.ret h)
  refine T.loop R (fun i s=>s=(Ns ((List.range i).filter (fun q=>b.getLsbD q)),(i:Int))) _ (fun i s hi hs=>?_) rfl (by omega)
  subst hs
  unfold eL
  refine T.ite (fun h=>?_) (fun h=>?_)
  · rw [decide_eq_true_eq] at h
    have hi':i<R:=by simpa using h
    have hx:ac .i64 (i:Int) 1=((i + 1:Nat):Int):=ga i (by omega)
    refine T.eqb (Fq hR hi' n b) (T.ite (fun hb=>?_) (fun hb=>?_))
    · refine T.grd (xg ?_) (T.next ⟨hi',?_⟩)
      · rw [eK]
        have:=List.length_filter_le (fun q=>b.getLsbD q) (List.range i)
        rw [List.length_range] at this
        omega
      · rw [hx,o6,List.range_succ,List.filter_append]
        simp [hb]
    · refine T.next ⟨hi',?_⟩
      rw [hx,List.range_succ,List.filter_append]
      simp [hb]
  · rw [decide_eq_false_iff_not] at h
    have e:i=R:=by have:¬ ((i:Int)<(R:Int)):=h; omega
    subst e
    exact T.fin rfl

theorem Fy {R:Nat} (hR:R≤60) (n:Nat) (hn:200≤n) (c:bh) (hcR:c.Regs=(R:Int)) (bs:List W) (hl:bs.length≤120) (out:List (Option (List Int))) (ho:out.length=bs.length) :
    T (iter (fun s=>im n c (Ls R bs) s) n (Ls R bs,out,0)) (fun t=>t.2.map gD=bs.map (iE R)):=by
  have hLl:(Ls R bs).length=bs.length:=by unfold Ls Cs; rw [List.length_map,List.length_map]
  refine T.loop bs.length (fun i s=>∃ out,s=(Ls R bs,out,(i:Int))∧out.length=bs.length∧∀ k (h:k<bs.length),k<i→out[k]?=some (some (iE R bs[k]))) _ (fun i s hi hs=>?_) ⟨out,rfl,ho,fun k h h2=>by omega⟩ (by omega)
  clear ho
  obtain ⟨out,rfl,ho,hz⟩:=hs
  unfold im
  dsimp only
  rw [hLl]
  refine T.ite (fun h=>?_) (fun h=>?_)
  · rw [decide_eq_true_eq] at h
    have hi':i<bs.length:=by omega
    have hio:i<out.length:=by omega
    refine T.eqb (zS hi') ?_
    show T ((eP n c.Regs (Ls R bs) _ out (sw R bs[i])).bind _) _
    rw [hcR]
    refine (Gb hR n (by omega) _ _ _ _).bind (fun l e=>?_)
    subst e
    refine T.get i rfl hio (T.next ⟨hi',out.set i (some (iE R bs[i])),?_,by rw [List.length_set]; exact ho,fun k hk hki=>?_⟩)
    · rw [AG hi',ga i (by omega),Int.toNat_natCast]
    · by_cases e:i=k
      · subst e
        rw [List.getElem?_set_self hio]
      · rw [List.getElem?_set_ne e]
        exact hz k hk (by omega)
  · rw [decide_eq_false_iff_not] at h
    refine T.fin ?_
    show out.map gD=_
    apply List.ext_getElem?
    intro k
    rw [List.getElem?_map,List.getElem?_map]
    by_cases hk:k<bs.length
    · rw [hz k hk (by omega),List.getElem?_eq_getElem hk]
      rfl
    · rw [List.getElem?_eq_none (by omega),List.getElem?_eq_none (by omega)]
      rfl

/-- Live: sets that go with each other, and each of their registers is read. -/
theorem EA {R:Nat} (hR:R≤60) (n:Nat) (c:bh) (hcR:c.Regs=(R:Int)) (hl:c.Steps.length≤120) (hchk:fW n c=some 0) (hok:∀ k (h:k<c.Steps.length),r5 c.Steps[k] (R:Int)) (hn:5000000<n) :
    T (lT n c) (fun y=>∃ bs,y=bs.map (iE R)∧LI c R bs []):=by
  unfold lT
  rw [hchk,Option.bind_some]
  rw [if_neg (by decide)]
  have hg:(decide ((0:Int)≤(c.Steps.length:Int))&&decide ((c.Steps.length:Int)≤(c.Steps.length:Int))&&decide (24 * (c.Steps.length:Int)≤140737488355328)&&decide ((c.Steps.length:Int)≤140737488355328)&&Nat.blt 0 1)=true:=by simp [Nat.blt]; omega
  refine T.grd hg (T.grd hg ?_)
  have e0:(List.replicate ((c.Steps.length:Int)).toNat (none:Option (List Int)))=Cs R (List.replicate c.Steps.length none):=by
    unfold Cs
    rw [Int.toNat_natCast,List.map_replicate]
    rfl
  have e1:Cs R (List.replicate c.Steps.length none)=Ah (List.replicate c.Steps.length none):=by
    unfold Cs Ah
    rw [List.map_replicate,List.map_replicate]
    rfl
  rw [e0]
  have h1:=Fx hR n c hcR hl (by omega)
  rw [← e1] at h1
  refine h1.bind (fun t ht=>?_)
  obtain ⟨al,rfl,hal⟩:=ht
  dsimp only
  have hli:LI c R (List.replicate c.Steps.length 0#64) (List.range c.Steps.length):=by
    have nob:∀ k r,¬ gb (List.replicate c.Steps.length 0#64) k r:=fun k r h=>by
      obtain ⟨b,h1,h2⟩:=h
      rw [List.getElem?_replicate] at h1
      split at h1
      · cases h1
        simp at h2
      · cases h1
    exact ⟨List.length_replicate,fun j hj=>List.mem_range.1 hj,fun k s _ r _ h=>(nob k r h).elim,fun k s hk hm=>(hm (List.mem_range.2 (List.getElem?_eq_some_iff.1 hk).1)).elim,fun k r _ h=>(nob k r h).elim⟩
  have hm:241 * mB (List.replicate c.Steps.length 0#64) + (List.range c.Steps.length).length≤5000000:=by
    have:=xf (fun b:W=>64 - pc b) 64 (fun b=>Nat.sub_le _ _) (List.replicate c.Steps.length 0#64)
    rw [List.length_replicate] at this
    rw [List.length_range]
    unfold mB
    omega
  refine (Fv hR n c hcR hl hok (Nat.le_refl _) hn (by omega) al hal _ _ _ _ hli hm).bind (fun t ht=>?_)
  obtain ⟨bs,rfl,hbs⟩:=ht
  have hLl:(Ls R bs).length=c.Steps.length:=by unfold Ls Cs; rw [List.length_map,List.length_map]; exact hbs.len
  rw [hLl]
  refine T.grd hg ?_
  refine (Fy hR n (by omega) c hcR bs (by rw [hbs.len]; exact hl) _ (by rw [List.length_replicate,hbs.len]; rfl)).bind (fun t ht=>T.ret ⟨bs,ht,hbs⟩)

end Go.Proofs.YteafbimadlcljaaDoor
