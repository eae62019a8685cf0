/- Bare: the fences away -/
import Derived.Test.YtaiokpalfdbnnaaC1
namespace Go.Proofs.Ytaiokpalfdbnnaa
open Go A

theorem G2 (s:ab):(s.Op==7)=!nf s:=by
  show (s.Op==7)=!(!(s.Op==7))
  rw [Bool.not_not]
theorem Oj (n:Nat) (c:aj) (hl:c.Steps.length≤4096) (hn:5000≤n) (oA:Int) :
    T (iter (fun s=>d1 n c oA c.Steps s) n (List.replicate c.Steps.length (0:Int),0,0)) (fun t=>t.length=c.Steps.length∧∀ k,k<c.Steps.length→t[k]?=some ((rk c.Steps k:Nat):Int)):=by
  refine T.loop c.Steps.length (fun i s=>∃ t:List Int,s=(t,(i:Int),((rk c.Steps i:Nat):Int))∧t.length=c.Steps.length∧∀ k,k<i→t[k]?=some ((rk c.Steps k:Nat):Int)) _ (fun i s hi hs=>?_) ⟨List.replicate c.Steps.length 0,by unfold rk; simp,List.length_replicate,fun k h=>by omega⟩ (by omega)
  obtain ⟨t,rfl,h1,h2⟩:=hs
  unfold d1
  refine T.ite (fun h=>?_) (fun h=>?_)
  · have h:=of_decide_eq_true h
    have h:(i:Int)<(c.Steps.length:Int):=h
    have hi':i<c.Steps.length:=by omega
    have hs:c.Steps[i]?=some c.Steps[i]:=List.getElem?_eq_getElem hi'
    have hrk:rk c.Steps i≤4096:=by
      have:=List.countP_le_length (p:=nf) (l:=c.Steps.take i)
      rw [List.length_take] at this
      unfold rk
      omega
    have hx:ae .i64 (i:Int) 1=((i + 1:Nat):Int):=bM i (by omega)
    have hy:ae .i64 ((rk c.Steps i:Nat):Int) 1=((rk c.Steps i + 1:Nat):Int):=bM _ (by omega)
    have hset:∀ k,k<i + 1→(t.set i ((rk c.Steps i:Nat):Int))[k]?=some ((rk c.Steps k:Nat):Int):=fun k hk=>by
      rw [aW (by omega)]
      split
      · rename_i e
        rw [e]
      · exact h2 k (by omega)
    refine T.get i rfl (by show i<t.length; omega) ?_
    refine T.bind (P:=fun b=>b=!nf c.Steps[i]) (by
      unfold kP fc
      refine T.get i rfl hi' (T.ret ?_)
      exact G2 _) (fun b hb=>T.ite (fun h3=>T.next ⟨hi',_,?_,by rw [List.length_set]; exact h1,hset⟩) (fun h3=>T.next ⟨hi',_,?_,by rw [List.length_set]; exact h1,hset⟩))
    · have h4:nf c.Steps[i]=true:=by rw [hb] at h3; simpa using h3
      rw [nL hs,if_pos h4]
      show (t.set ((i:Int)).toNat _,ae .i64 (i:Int) 1,ae .i64 ((rk c.Steps i:Nat):Int) 1)=_
      rw [hx,hy,Int.toNat_natCast]
    · have h4:¬ nf c.Steps[i]=true:=by rw [hb] at h3; simpa using h3
      rw [nL hs,if_neg h4]
      show (t.set ((i:Int)).toNat _,ae .i64 (i:Int) 1,_)=_
      rw [hx,Int.toNat_natCast]
      rfl
  · have h:=of_decide_eq_false h
    have h:¬ (i:Int)<(c.Steps.length:Int):=h
    exact T.fin ⟨h1,fun k hk=>h2 k (by omega)⟩
theorem IE {i:Nat} (h:i≤100000):ae .i64 ((i:Int) - 1) 1=(i:Int):=by
  rw [JG (by omega) (by omega)]
  omega
theorem Ks {n:Nat} {l:List ab} {i:Nat} (hi:i<l.length) (hl:l.length≤4096) (a:ab) (oA:Int) (oC:List Int) (oE:List ab):dy n a oA l oC ((i:Int) - 1) oE=some (!nf l[i],(i:Int)):=by
  unfold dy j7 fc
  rw [IE (by omega),gJ,List.getElem?_eq_getElem hi]
  simp only [Option.bind_some,G2]
theorem Ol (n:Nat) (l:List ab) (hl:l.length≤4096) (hn:5000≤n) (oA:Int) (oC:List Int) :
    T (bo n oA l oC (-1) l) (fun y=>(y.1=-1∧∀ s∈l,nf s=true)∨∃ j:Nat,∃ s,y=((j:Int),(j:Int))∧l[j]?=some s∧nf s=false∧∀ s∈l.take j,nf s=true):=by
  unfold bo
  refine T.bind (P:=Rd (fun _=>∀ s∈l,nf s=true) (fun w=>∃ j:Nat,∃ s,w=((j:Int),(j:Int))∧l[j]?=some s∧nf s=false∧∀ s∈l.take j,nf s=true)) ?_ (fun t ht=>by
    cases t with
    | inl w=>exact T.ret (.inl ⟨rfl,ht⟩)
    | inr w =>
      obtain ⟨j,s,rfl,h⟩:=ht
      exact T.ret (.inr ⟨j,s,rfl,h⟩))
  refine T.loop l.length (fun i s=>s=((i:Int) - 1,(i:Int))∧∀ s∈l.take i,nf s=true) _ (fun i s hi hs=>?_) ⟨rfl,fun s hs=>by simp at hs⟩ (by omega)
  obtain ⟨rfl,hs⟩:=hs
  unfold bf
  refine T.ite (fun h=>?_) (fun h=>?_)
  · have h:=of_decide_eq_true h
    have h:(i:Int)<(l.length:Int):=h
    have hi':i<l.length:=by omega
    refine T.get i rfl hi' (T.eqb (Ks hi' hl _ _ _ _) (T.ite (fun h2=>T.fin ⟨i,l[i],rfl,List.getElem?_eq_getElem hi',by simpa using h2,hs⟩) (fun h2=>T.next ⟨hi',?_,fun s hs2=>?_⟩)))
    · rw [show ae .i64 (i:Int) 1=((i + 1:Nat):Int) from bM i (by omega)]
      congr 1
      omega
    · rw [List.take_succ_eq_append_getElem hi'] at hs2
      rcases List.mem_append.1 hs2 with h3 | h3
      · exact hs s h3
      · rw [List.mem_singleton.1 h3]
        simpa using h2
  · have h:=of_decide_eq_false h
    have h:¬ (i:Int)<(l.length:Int):=h
    rw [List.take_of_length_le (by omega)] at hs
    exact T.fin hs
theorem qA {α:Type} {l:List α} {i:Nat} {x:α} (h:i<l.length):(l.set i x).take (i + 1)=l.take i++[x]:=by
  rw [List.take_succ_eq_append_getElem (by rw [List.length_set]; exact h),List.getElem_set_self,List.take_set_of_le (Nat.le_refl i)]
theorem Om (n:Nat) (l:List ab) (hl:l.length≤4096) (hn:5000≤n) (oA:Int) (oC:List Int) (j0:Nat) (s0:ab) (hj:l[j0]?=some s0) (h7:nf s0=false) (hb:∀ s∈l.take j0,nf s=true) :
    T (iter (fun s=>aT n oA l oC s) n (l,(j0:Int),(j0:Int),ae .i64 (j0:Int) 1)) (fun t=>∃ (arr:List ab) (i:Nat) (w:Int),t=(arr,w,(i:Int))∧arr.length=l.length∧i≤arr.length∧arr.take i=l.filter nf):=by
  obtain ⟨hj0,e0⟩:=List.getElem?_eq_some_iff.1 hj
  have hfil:(l.take (j0 + 1)).filter nf=l.take j0:=by
    rw [List.take_succ_eq_append_getElem hj0,List.filter_append,List.filter_eq_self.2 hb,List.filter_cons,e0,h7]
    simp
  rw [show ae .i64 (j0:Int) 1=((j0 + 1:Nat):Int) from bM j0 (by omega)]
  refine T.loopFrom l.length (fun j s=>∃ (arr:List ab) (i:Nat),s=(arr,(j:Int) - 1,(i:Int),(j:Int))∧arr.length=l.length∧i<j∧arr.take i=(l.take j).filter nf∧∀ k,j≤k→arr[k]?=l[k]?) _ (fun j s hjn hs=>?_) n (j0 + 1) _ (by omega) ⟨l,j0,?_,rfl,by omega,hfil.symm,fun k _=>rfl⟩ (by omega)
  · obtain ⟨arr,i,rfl,h1,h2,h3,h4⟩:=hs
    unfold aT
    refine T.ite (fun h=>?_) (fun h=>?_)
    · have h:=of_decide_eq_true h
      have h:(j:Int)<(arr.length:Int):=h
      have hj':j<l.length:=by omega
      have hja:j<arr.length:=by omega
      have hx:ae .i64 (j:Int) 1=((j + 1:Nat):Int):=bM j (by omega)
      have hz:ae .i64 (i:Int) 1=((i + 1:Nat):Int):=bM i (by omega)
      have hjm:(j:Int)=((j + 1:Nat):Int) - 1:=by omega
      have hel:arr[j]=l[j]:=by
        have:=h4 j (Nat.le_refl _)
        rw [List.getElem?_eq_getElem hja,List.getElem?_eq_getElem hj'] at this
        exact Option.some.inj this
      refine T.get j rfl hja (T.eqb (Ks hj' hl _ _ _ _) (T.ite (fun h5=>T.get i rfl (by show i<arr.length; omega) (T.next ⟨hj',arr.set i l[j],i + 1,?_,by rw [List.length_set]; exact h1,by omega,?_,fun k hk=>?_⟩)) (fun h5=>T.next ⟨hj',arr,i,?_,h1,by omega,?_,fun k hk=>h4 k (by omega)⟩)))
      · show (arr.set ((i:Int)).toNat arr[j],(j:Int),ae .i64 (i:Int) 1,ae .i64 (j:Int) 1)=_
        rw [hx,hz,hel,Int.toNat_natCast,← hjm]
      · have h6:nf l[j]=true:=by simpa using h5
        rw [qA (by omega),h3,List.take_succ_eq_append_getElem hj',List.filter_append,List.filter_cons,if_pos h6]
        rfl
      · rw [aW (by omega),if_neg (by omega)]
        exact h4 k (by omega)
      · show (arr,(j:Int),(i:Int),ae .i64 (j:Int) 1)=_
        rw [hx,← hjm]
      · have h6:¬ nf l[j]=true:=by simpa using h5
        rw [h3,List.take_succ_eq_append_getElem hj',List.filter_append,List.filter_cons,if_neg h6]
        simp
    · have h:=of_decide_eq_false h
      have h:¬ (j:Int)<(arr.length:Int):=h
      rw [List.take_of_length_le (show l.length≤j by omega)] at h3
      exact T.fin ⟨arr,i,_,rfl,h1,by omega,h3⟩
  · show (l,(j0:Int),(j0:Int),((j0 + 1:Nat):Int))=(l,((j0 + 1:Nat):Int) - 1,(j0:Int),((j0 + 1:Nat):Int))
    rw [show ((j0 + 1:Nat):Int) - 1=(j0:Int) by omega]
/-- Jumps go to where their steps are now. -/
theorem Mv (n:Nat) (f:Nat→Nat) (N:Nat) (oE:List ab) (hE:oE.length≤10000) (hn:20000≤n) (oC:List Int) (hf:∀ k,k<N→oC[k]?=some ((f k:Nat):Int)) (hto:∀ s∈oE,s.Op=8∨s.Op=9→0≤s.To∧s.To.toNat<N) (oA:Int) (oB:List ab) (oD:Int) :
    T (iter (fun s=>eE n oA oB oC oD oE s) n (oE,0)) (fun t=>t=oE.map (mv f)):=by
  refine T.loop oE.length (fun i s=>∃ arr:List ab,s=(arr,(i:Int))∧arr.length=oE.length∧∀ k,arr[k]?=if k<i then (oE[k]?).map (mv f) else oE[k]?) _ (fun i s hi hs=>?_) ⟨oE,rfl,rfl,fun k=>by rw [if_neg (by omega)]⟩ (by omega)
  obtain ⟨arr,rfl,h1,h2⟩:=hs
  unfold eE
  refine T.ite (fun h=>?_) (fun h=>?_)
  · have h:=of_decide_eq_true h
    have h:(i:Int)<(oE.length:Int):=h
    have hi':i<oE.length:=by omega
    have hia:i<arr.length:=by omega
    have hx:ae .i64 (i:Int) 1=((i + 1:Nat):Int):=bM i (by omega)
    have hel:arr[i]=oE[i]:=by
      have:=h2 i
      rw [if_neg (by omega),List.getElem?_eq_getElem hia,List.getElem?_eq_getElem hi'] at this
      exact Option.some.inj this
    have hoi:oE[i]?=some oE[i]:=List.getElem?_eq_getElem hi'
    refine T.get i rfl hia ?_
    rw [hel]
    have jump:(oE[i].Op=8∨oE[i].Op=9)→T ((az oC oE[i].To).bind fun xa4=>some (.inl ((arr.set ((i:Int)).toNat (ab.mk oE[i].Op oE[i].A_ oE[i].B oE[i].C_ oE[i].D oE[i].Imm oE[i].Bin xa4 oE[i].Shared)),(ae .i64 (i:Int) 1)):(List ab×Int)⊕List ab)) (Rd (fun s'=>i<oE.length∧∃ arr:List ab,s'=(arr,((i + 1:Nat):Int))∧arr.length=oE.length∧∀ k,arr[k]?=if k<i + 1 then (oE[k]?).map (mv f) else oE[k]?) (fun t=>t=oE.map (mv f))):=fun hop=>by
      obtain ⟨g1,g2⟩:=hto _ (List.getElem_mem hi') hop
      have g3:az oC oE[i].To=some ((f oE[i].To.toNat:Nat):Int):=by
        rw [show oE[i].To=((oE[i].To.toNat:Nat):Int) by omega,gJ]
        exact hf _ g2
      refine T.eqb g3 (T.next ⟨hi',arr.set i (mv f oE[i]),?_,by rw [List.length_set]; exact h1,fun k=>?_⟩)
      · rw [hx,Int.toNat_natCast]
        unfold mv
        rw [if_pos (ko.2 hop)]
      · rw [aW hia]
        split
        · rename_i e
          subst e
          rw [if_pos (by omega),hoi]
          rfl
        · rename_i e
          rw [h2]
          by_cases e2:k<i
          · rw [if_pos e2,if_pos (by omega)]
          · rw [if_neg e2,if_neg (by omega)]
    refine T.ite (fun h8=>jump (.inl (by simpa using h8))) (fun h8=>T.ite (fun h9=>jump (.inr (by simpa using h9))) (fun h9=>T.next ⟨hi',arr,?_,h1,fun k=>?_⟩))
    · show (arr,ae .i64 (i:Int) 1)=_
      rw [hx]
    · rw [h2]
      by_cases e2:k<i
      · rw [if_pos e2,if_pos (by omega)]
      · rw [if_neg e2]
        by_cases e3:k=i
        · subst e3
          rw [if_pos (by omega),hoi]
          have h8:¬ oE[k].Op=8:=by simpa using h8
          have h9:¬ oE[k].Op=9:=by simpa using h9
          show _=some (mv f oE[k])
          unfold mv
          rw [if_neg (fun h=>by rcases ko.1 h with h | h <;> contradiction)]
        · rw [if_neg (by omega)]
  · have h:=of_decide_eq_false h
    have h:¬ (i:Int)<(oE.length:Int):=h
    refine T.fin (List.ext_getElem? fun k=>?_)
    rw [h2,List.getElem?_map]
    by_cases e:k<i
    · rw [if_pos e]
    · rw [if_neg e,List.getElem?_eq_none (by omega)]
      rfl
theorem Dj (n:Nat) (f:Nat→Nat) (N:Nat) (oE:List ab) (hE:oE.length≤10000) (h0:oE≠[]) (hn:20000≤n) (oC:List Int) (hf:∀ k,k<N→oC[k]?=some ((f k:Nat):Int)) (hto:∀ s∈oE,s.Op=8∨s.Op=9→0≤s.To∧s.To.toNat<N) (oA:Int) (oB:List ab) (oD:Int) :
    T (fu n oA oB oC oD oE) (fun y=>y=(oE.length,0,oE.map (mv f))):=by
  unfold fu
  refine (Mv n f N oE hE hn oC hf hto oA oB oD).bind (fun t ht=>?_)
  subst ht
  have hlen:(oE.map (mv f)).length≠0:=by
    rw [List.length_map]
    intro h
    exact h0 (List.length_eq_zero_iff.1 h)
  unfold ce
  rw [kx (by
    rw [show (((oE.map (mv f)).length:Int)==0)=false from by
      rw [beq_eq_false_iff_ne]
      omega]
    simp)]
  rw [Option.bind_some,Int.toNat_natCast,List.length_map]
  exact T.ret rfl
theorem G3 (n:Nat) (hn:1000000<n) (c:aj) (hr:aK c) (hb:c.Regs≤150) (hl:c.Steps.length≤400):T (g8 n c) (fun y=>y=(aj.mk c.Regs (aI c.Steps),0)):=by
  have hlen:=hr.len
  have hfl:(c.Steps.filter nf).length=(aI c.Steps).length:=by unfold aI; rw [List.length_map]
  have hfle:(c.Steps.filter nf).length≤c.Steps.length:=List.length_filter_le ..
  have hfn:c.Steps.filter nf≠[]:=fun e=>by
    have:=(lI hr).len.1
    rw [show (aj.mk c.Regs (aI c.Steps)).Steps.length=(aI c.Steps).length from rfl,← hfl,e] at this
    simp at this
  have hto:∀ s∈c.Steps.filter nf,s.Op=8∨s.Op=9→0≤s.To∧s.To.toNat<c.Steps.length:=fun s hs hop=>by
    obtain ⟨k,hk⟩:=List.getElem?_of_mem (List.mem_filter.1 hs).1
    exact hr.to hk hop
  unfold g8
  refine (pU n hn c hb hl).bind (fun y hy=>?_)
  have hy0:=hy.2 hr
  subst hy0
  refine T.ite (fun h=>by simp at h) (fun _=>?_)
  refine T.bind (P:=fun y=>y.1=c.Regs∧(y.2.2.2.2.2.drop 0).take y.2.1=aI c.Steps) ?_ (fun y hy=>T.ret (by rw [hy.1,hy.2]))
  unfold j8
  refine T.grd (by simp [Nat.blt]; omega) ?_
  rw [Int.toNat_natCast]
  refine (Oj n c (by omega) (by omega) c.Regs).bind (fun oC hC=>?_)
  refine T.bind (P:=fun _=>True) (by
    unfold b8
    refine T.grd ?_ (T.grd (Nat.ble_eq_true_of_le (by omega)) (T.ret trivial))
    cases h:c.Steps with
    | nil=>rw [h] at hlen; simp at hlen
    | cons x l=>rfl) (fun _ _=>?_)
  have fin:∀ w:Int,T ((fu n c.Regs c.Steps oC w (c.Steps.filter nf)).bind fun y6=>some (c.Regs,y6.1,y6.2.1,oC,w,y6.2.2)) (fun y=>y.1=c.Regs∧(y.2.2.2.2.2.drop 0).take y.2.1=aI c.Steps):=fun w=>by
    refine (Dj n (rk c.Steps) c.Steps.length _ (by omega) hfn (by omega) oC hC.2 hto _ _ _).bind (fun y hy=>T.ret ?_)
    subst hy
    refine ⟨rfl,?_⟩
    show ((((c.Steps.filter nf).map (mv (rk c.Steps))).drop 0).take (c.Steps.filter nf).length)=_
    rw [List.drop_zero,List.take_of_length_le (by rw [List.length_map]; exact Nat.le_refl _)]
    rfl
  unfold bp
  refine T.bind (P:=fun y4:Int⊕(Nat×Nat×Int×List ab)=>(∃ w,y4=.inl w∧c.Steps.filter nf=c.Steps)∨∃ a b w l,y4=.inr (a,b,w,l)∧l.take a=c.Steps.filter nf) ?_ (fun y4 hy4=>?_)
  · refine (Ol n c.Steps (by omega) (by omega) c.Regs oC).bind (fun y hy=>?_)
    rcases hy with ⟨h1,h2⟩ | ⟨j,s,rfl,h1,h2,h3⟩
    · rw [h1]
      exact T.ret (.inl ⟨_,rfl,List.filter_eq_self.2 h2⟩)
    · refine T.ite (fun h=>by simp at h) (fun _=>?_)
      refine (Om n c.Steps (by omega) (by omega) c.Regs oC j s h1 h2 h3).bind (fun t ht=>?_)
      obtain ⟨arr,i,w,rfl,g1,g2,g3⟩:=ht
      dsimp only
      rw [Int.toNat_natCast]
      have hll:((arr.take i++(List.replicate (arr.length - i) (ab.mk 0 0 0 0 0 0 0 0 false)++arr.drop (i + (arr.length - i))))).length=arr.length:=by
        simp only [List.length_append,List.length_take,List.length_replicate,List.length_drop]
        omega
      refine T.grd (by simp; omega) (T.grd (Nat.ble_eq_true_of_le (by omega)) (T.grd (by rw [hll]; simp; omega) (T.ret (.inr ⟨_,_,_,_,rfl,?_⟩))))
      rw [List.take_append_of_le_length (by rw [List.length_take]; omega),List.take_take,Nat.min_self]
      exact g3
  · rcases hy4 with ⟨w,rfl,h1⟩ | ⟨a,b,w,l,rfl,h1⟩
    · have:=fin w
      rw [h1] at this
      exact this
    · have:=fin w
      rw [← h1] at this
      exact this

end Go.Proofs.Ytaiokpalfdbnnaa
