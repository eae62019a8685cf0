/- One fence away, by the program; fenced, by the program and by ways; Strip -/
import Derived.Test.YtaiokpalfdbnnaaW1
namespace Go.Proofs.Ytaiokpalfdbnnaa
open Go A

theorem zt {i:Nat} {l:List ab}:∀ {k:Nat},k≤i→k≤l.length→fL (only i) l k=l.take k
  | 0,_,_=>rfl
  | k + 1,h1,h2=>by
    have hs:l[k]?=some (l[k]'(by omega)):=List.getElem?_eq_getElem (by omega)
    rw [ga hs,if_neg (by simp [only]; omega),zt (by omega) (by omega),List.take_succ_eq_append_getElem (by omega)]
theorem v1 (n:Nat) (c:aj) (hl:c.Steps.length≤4096) (hn:5000≤n) (i0:Nat) :
    T (iter (fun s=>dH n c (i0:Int) s) n (List.replicate c.Steps.length (0:Int),0,0)) (fun t=>t.length=c.Steps.length∧∀ k,k<c.Steps.length→t[k]?=some ((j5 (only i0) k:Nat):Int)):=by
  refine T.loop c.Steps.length (fun i s=>∃ t:List Int,s=(t,(i:Int),((j5 (only i0) i:Nat):Int))∧t.length=c.Steps.length∧∀ k,k<i→t[k]?=some ((j5 (only i0) k:Nat):Int)) _ (fun i s hi hs=>?_) ⟨List.replicate c.Steps.length 0,rfl,List.length_replicate,fun k h=>by omega⟩ (by omega)
  obtain ⟨t,rfl,h1,h2⟩:=hs
  unfold dH j9
  refine T.ite (fun h=>?_) (fun h=>?_)
  · have h:=of_decide_eq_true h
    have h:(i:Int)<(c.Steps.length:Int):=h
    have hi':i<c.Steps.length:=by omega
    have hrk:=As (only i0) i
    have hx:ae .i64 (i:Int) 1=((i + 1:Nat):Int):=bM i (by omega)
    have hy:ae .i64 ((j5 (only i0) i:Nat):Int) 1=((j5 (only i0) i + 1:Nat):Int):=bM _ (by omega)
    have hset:∀ k,k<i + 1→(t.set i ((j5 (only i0) i:Nat):Int))[k]?=some ((j5 (only i0) k:Nat):Int):=fun k hk=>by
      rw [aW (by omega)]
      split
      · rename_i e
        rw [e]
      · exact h2 k (by omega)
    have h5:j5 (only i0) (i + 1)=j5 (only i0) i + (if only i0 i=true then 0 else 1):=rfl
    refine T.get i rfl (by show i<t.length; omega) ?_
    rw [Option.bind_some]
    refine T.ite (fun h3=>T.next ⟨hi',_,?_,by rw [List.length_set]; exact h1,hset⟩) (fun h3=>T.next ⟨hi',_,?_,by rw [List.length_set]; exact h1,hset⟩)
    · have h4:¬ only i0 i=true:=by
        have h3:(!((i:Int)==(i0:Int)))=true:=h3
        simp [only] at h3 ⊢
        omega
      rw [h5,if_neg h4]
      show (t.set ((i:Int)).toNat _,ae .i64 (i:Int) 1,ae .i64 ((j5 (only i0) i:Nat):Int) 1)=_
      rw [hx,hy,Int.toNat_natCast]
    · have h4:only i0 i=true:=by
        have h3:(!((i:Int)==(i0:Int)))=false:=h3
        simp [only] at h3 ⊢
        omega
      rw [h5,if_pos h4]
      show (t.set ((i:Int)).toNat _,ae .i64 (i:Int) 1,_)=_
      rw [hx,Int.toNat_natCast]
      rfl
  · have h:=of_decide_eq_false h
    have h:¬ (i:Int)<(c.Steps.length:Int):=h
    exact T.fin ⟨h1,fun k hk=>h2 k (by omega)⟩
theorem MS {n:Nat} {i i0:Nat} (hi:i≤4096) (a:ab) (oC:List Int) (oE:List ab):c9 n a (i0:Int) oC ((i:Int) - 1) oE=some (only i0 i,(i:Int)):=by
  unfold c9 jf
  rw [IE (by omega),Option.bind_some]
  congr 2
  unfold only
  rw [Bool.eq_iff_iff]
  simp
  omega
theorem v2 (n:Nat) (l:List ab) (hl:l.length≤4096) (hn:5000≤n) (i0:Nat) (h0:i0<l.length) (oC:List Int) :
    T (bq n (i0:Int) oC (-1) l) (fun y=>y=((i0:Int),(i0:Int))):=by
  unfold bq
  refine T.bind (P:=Rd (fun _=>False) (fun w=>w=((i0:Int),(i0:Int)))) ?_ (fun t ht=>by
    cases t with
    | inl w=>exact ht.elim
    | inr w =>
      have ht:w=_:=ht
      subst ht
      exact T.ret rfl)
  refine T.loop l.length (fun i s=>s=((i:Int) - 1,(i:Int))∧i≤i0) _ (fun i s hi hs=>?_) ⟨rfl,by omega⟩ (by omega)
  obtain ⟨rfl,hs⟩:=hs
  unfold bg
  refine T.ite (fun h=>?_) (fun h=>?_)
  · have h:=of_decide_eq_true h
    have h:(i:Int)<(l.length:Int):=h
    have hi':i<l.length:=by omega
    refine T.get i rfl hi' (T.eqb (MS (by omega) _ _ _) (T.ite (fun h2=>T.fin ?_) (fun h2=>T.next ⟨hi',?_,?_⟩)))
    · have h2:i=i0:=by simpa [only] using h2
      rw [h2]
      exact rfl
    · rw [show ae .i64 (i:Int) 1=((i + 1:Nat):Int) from bM i (by omega)]
      congr 1
      omega
    · have h2:i≠i0:=by simpa [only] using h2
      omega
  · have h:=of_decide_eq_false h
    have h:¬ (i:Int)<(l.length:Int):=h
    omega
theorem v3 (n:Nat) (l:List ab) (hl:l.length≤4096) (hn:5000≤n) (i0:Nat) (h0:i0<l.length) (oC:List Int) :
    T (iter (fun s=>aR n (i0:Int) oC s) n (l,(i0:Int),(i0:Int),ae .i64 (i0:Int) 1)) (fun t=>∃ (arr:List ab) (i:Nat) (w:Int),t=(arr,w,(i:Int))∧arr.length=l.length∧i≤arr.length∧arr.take i=fL (only i0) l l.length):=by
  have hs0:l[i0]?=some l[i0]:=List.getElem?_eq_getElem h0
  rw [show ae .i64 (i0:Int) 1=((i0 + 1:Nat):Int) from bM i0 (by omega)]
  refine T.loopFrom l.length (fun j s=>i0<j∧∃ (arr:List ab),s=(arr,(j:Int) - 1,((j - 1:Nat):Int),(j:Int))∧arr.length=l.length∧arr.take (j - 1)=fL (only i0) l j∧∀ k,j≤k→arr[k]?=l[k]?) _ (fun j s hjn hs=>?_) n (i0 + 1) _ (by omega) ⟨by omega,l,?_,rfl,?_,fun k _=>rfl⟩ (by omega)
  · obtain ⟨hij,arr,rfl,h1,h3,h4⟩:=hs
    unfold aR
    refine T.ite (fun h=>?_) (fun h=>?_)
    · have h:=of_decide_eq_true h
      have h:(j:Int)<(arr.length:Int):=h
      have hj':j<l.length:=by omega
      have hja:j<arr.length:=by omega
      have hx:ae .i64 (j:Int) 1=((j + 1:Nat):Int):=bM j (by omega)
      have hz:ae .i64 ((j - 1:Nat):Int) 1=((j + 1 - 1:Nat):Int):=by rw [bM _ (by omega)]; omega
      have hjm:(j:Int)=((j + 1:Nat):Int) - 1:=by omega
      have hsj:l[j]?=some l[j]:=List.getElem?_eq_getElem hj'
      have hel:arr[j]=l[j]:=by
        have:=h4 j (Nat.le_refl _)
        rw [List.getElem?_eq_getElem hja,List.getElem?_eq_getElem hj'] at this
        exact Option.some.inj this
      have hno:¬ only i0 j=true:=by simp [only]; omega
      refine T.get j rfl hja (T.eqb (MS (by omega) _ _ _) (T.ite (fun h5=>T.get (j - 1) rfl (by show j - 1<arr.length; omega) (T.next ⟨hj',by omega,arr.set (j - 1) l[j],?_,by rw [List.length_set]; exact h1,?_,fun k hk=>?_⟩)) (fun h5=>(hno (by simpa using h5)).elim)))
      · show (arr.set (((j - 1:Nat):Int)).toNat arr[j],(j:Int),ae .i64 ((j - 1:Nat):Int) 1,ae .i64 (j:Int) 1)=_
        rw [hx,hz,hel,Int.toNat_natCast,← hjm]
      · rw [ga hsj,if_neg hno,← h3,← qA (x:=l[j]) (by omega),show j - 1 + 1=j + 1 - 1 by omega]
      · rw [aW (by omega),if_neg (by omega)]
        exact h4 k (by omega)
    · have h:=of_decide_eq_false h
      have h:¬ (j:Int)<(arr.length:Int):=h
      have e:j=l.length:=by omega
      subst e
      exact T.fin ⟨arr,l.length - 1,_,rfl,h1,by omega,h3⟩
  · show (l,(i0:Int),(i0:Int),((i0 + 1:Nat):Int))=(l,((i0 + 1:Nat):Int) - 1,((i0 + 1 - 1:Nat):Int),((i0 + 1:Nat):Int))
    rw [show ((i0 + 1:Nat):Int) - 1=(i0:Int) by omega,Nat.add_sub_cancel]
  · rw [ga hs0,if_pos (by simp [only]),List.append_nil,zt (Nat.le_refl _) (by omega),Nat.add_sub_cancel]
theorem H3 (n:Nat) (f:Nat→Nat) (N:Nat) (oE:List ab) (hE:oE.length≤10000) (h0:oE≠[]) (hn:20000≤n) (oC:List Int) (hf:∀ k,k<N→oC[k]?=some ((f k:Nat):Int)) (hto:∀ s∈oE,s.Op=8∨s.Op=9→0≤s.To∧s.To.toNat<N) (oA w:Int) :
    T (fV n oA oC w oE) (fun y=>y=(oE.length,0,oE.map (mv f))):=Dj n f N oE hE h0 hn oC hf hto 0 [] 0
theorem Fu (n:Nat) (hn:1000000<n) (c:aj) (hr:aK c) (i0:Nat) (s0:ab) (hs0:c.Steps[i0]?=some s0) (h7:s0.Op=7):T (gh n c (i0:Int)) (fun y=>y.1=c.Regs∧(y.2.2.2.2.2.drop 0).take y.2.1=c5 (only i0) c.Steps):=by
  have hlen:=hr.len
  have h0:=(List.getElem?_eq_some_iff.1 hs0).1
  have hkl:=pX (g:=only i0) (l:=c.Steps) (Nat.le_refl _)
  have hrl:=As (only i0) c.Steps.length
  have hne:fL (only i0) c.Steps c.Steps.length≠[]:=fun e=>by
    have:=(nM hr (Av hs0 h7)).len.1
    rw [show (aj.mk c.Regs (c5 (only i0) c.Steps)).Steps.length=(c5 (only i0) c.Steps).length from rfl,m1,← hkl,e] at this
    simp at this
  have hto:∀ s∈fL (only i0) c.Steps c.Steps.length,s.Op=8∨s.Op=9→0≤s.To∧s.To.toNat<c.Steps.length:=fun s hs hop=>by
    obtain ⟨k,hk,_⟩:=tV hs
    exact hr.to hk hop
  unfold gh
  refine T.grd (by simp [Nat.blt]; omega) ?_
  rw [Int.toNat_natCast]
  refine (v1 n c (by omega) (by omega) i0).bind (fun oC hC=>?_)
  refine T.bind (P:=fun _=>True) (by
    unfold b6
    refine T.grd ?_ (T.grd (Nat.ble_eq_true_of_le (by omega)) (T.ret trivial))
    cases h:c.Steps with
    | nil=>rw [h] at hlen; simp at hlen
    | cons x l=>rfl) (fun _ _=>?_)
  have fin:∀ w:Int,T ((fV n (i0:Int) oC w (fL (only i0) c.Steps c.Steps.length)).bind fun y6=>some (c.Regs,y6.1,y6.2.1,oC,w,y6.2.2)) (fun y=>y.1=c.Regs∧(y.2.2.2.2.2.drop 0).take y.2.1=c5 (only i0) c.Steps):=fun w=>by
    refine (H3 n (j5 (only i0)) c.Steps.length _ (by omega) hne (by omega) oC hC.2 hto _ _).bind (fun y hy=>T.ret ?_)
    subst hy
    refine ⟨rfl,?_⟩
    show (((fL (only i0) c.Steps c.Steps.length).map (mv (j5 (only i0)))).drop 0).take (fL (only i0) c.Steps c.Steps.length).length=_
    rw [List.drop_zero,List.take_of_length_le (by rw [List.length_map]; exact Nat.le_refl _)]
    rfl
  unfold bm
  refine T.bind (P:=fun y4:Int⊕(Nat×Nat×Int×List ab)=>∃ a b w l,y4=.inr (a,b,w,l)∧l.take a=fL (only i0) c.Steps c.Steps.length) ?_ (fun y4 hy4=>?_)
  · refine (v2 n c.Steps (by omega) (by omega) i0 h0 oC).bind (fun y hy=>?_)
    subst hy
    refine T.ite (fun h=>by simp at h) (fun _=>?_)
    refine (v3 n c.Steps (by omega) (by omega) i0 h0 oC).bind (fun t ht=>?_)
    obtain ⟨arr,i,w,rfl,g1,g2,g3⟩:=ht
    dsimp only
    rw [Int.toNat_natCast]
    have hll:((arr.take i++(List.replicate (arr.length - i) (ab.mk 0 0 0 0 0 0 0 0 false)++arr.drop (i + (arr.length - i))))).length=arr.length:=by
      simp only [List.length_append,List.length_take,List.length_replicate,List.length_drop]
      omega
    refine T.grd (by simp; omega) (T.grd (Nat.ble_eq_true_of_le (by omega)) (T.grd (by rw [hll]; simp; omega) (T.ret ⟨_,_,_,_,rfl,?_⟩)))
    rw [List.take_append_of_le_length (by rw [List.length_take]; omega),List.take_take,Nat.min_self]
    exact g3
  · obtain ⟨a,b,w,l,rfl,h1⟩:=hy4
    have:=fin w
    rw [← h1] at this
    exact this
theorem tY (n:Nat) (hn:1000000<n) (c:aj) (h1:1≤c.Steps.length) (hl:c.Steps.length≤4096):T (gg n c) (fun b=>b=true↔u9 c.Steps):=by
  unfold gg
  refine (xz n hn c h1 hl).bind (fun y hy=>?_)
  obtain ⟨vs,rfl,hv,hd⟩:=hy
  refine T.bind (P:=Rd (fun _=>u9 c.Steps) (fun _=>¬ u9 c.Steps)) (T.loop c.Steps.length (fun i s=>s=(i:Int)∧∀ (k:Nat) (s:ab),k<i→c.Steps[k]?=some s→zn s=true→¬ D c.Steps k true) _ (fun i s hi hs=>?_) ⟨rfl,fun k s h=>by omega⟩ (by omega)) (fun t ht=>?_)
  · obtain ⟨rfl,hs⟩:=hs
    unfold gX
    refine T.ite (fun h=>?_) (fun h=>?_)
    · have h:=of_decide_eq_true h
      have h:(i:Int)<((Ns vs).length:Int):=h
      rw [jA] at h
      have hi':i<c.Steps.length:=by omega
      have hiv:i<vs.length:=by omega
      have hx:ae .i64 (i:Int) 1=((i + 1:Nat):Int):=bM i (by omega)
      have hsi:c.Steps[i]?=some c.Steps[i]:=List.getElem?_eq_getElem hi'
      have hvi:vs[i]?=some vs[i]:=List.getElem?_eq_getElem hiv
      have go:¬ (zn c.Steps[i]=true∧D c.Steps i true)→∀ (k:Nat) (s:ab),k<i + 1→c.Steps[k]?=some s→zn s=true→¬ D c.Steps k true:=fun hno k s hk hks hsh hdk=>by
        by_cases e:k=i
        · subst e
          rw [hsi] at hks
          cases hks
          exact hno ⟨hsh,hdk⟩
        · exact hs k s (by omega) hks hsh hdk
      refine T.eqb (rn hiv) (T.ite (fun h2=>?_) (fun h2=>T.next ⟨hi',hx,go (fun hh=>?_)⟩))
      · have hdi:D c.Steps i true:=(hd i).1 (by rw [hvi]; simp at h2; congr 1; omega)
        refine T.get i rfl hi' (T.eqb (xu n _) (T.ite (fun h3=>T.fin (fun hf=>hf i _ hsi h3 hdi)) (fun h3=>T.next ⟨hi',hx,go (fun hh=>by rw [h3] at hh; cases hh.1)⟩)))
      · have:=(hd i).2 hh.2
        rw [hvi] at this
        simp at h2
        have:=Option.some.inj this
        omega
    · have h:=of_decide_eq_false h
      have h:¬ (i:Int)<((Ns vs).length:Int):=h
      rw [jA] at h
      exact T.fin (fun k s hks hsh=>hs k s (by have:=(List.getElem?_eq_some_iff.1 hks).1; omega) hks hsh)
  · cases t with
    | inl w=>exact T.ret ⟨fun _=>ht,fun _=>rfl⟩
    | inr w=>exact T.ret ⟨fun h=>(by cases h),fun h=>(ht h).elim⟩

end Go.Proofs.Ytaiokpalfdbnnaa
