/- EventRows: the statement's function answers true, for every list. Plain lists, no program in sight. -/
import Derived.Test.YtnmmknnnggcijaaDoorR1
namespace Go.Proofs.YtnmmknnnggcijaaDoor
open Go A

theorem lightE_ (n:Nat) (l:List Event) (hn:200≤n):T (kit_LightEvents n l 60) (fun b=>b=true→smalls l∧l.length≤60):=by
  unfold kit_LightEvents
  refine T.ite (fun _=>T.ret (fun h=>by simp at h)) (fun c1=>?_)
  have hl:l.length≤60:=by
    have:¬ (l.length:Int)>60:=of_decide_eq_false c1
    omega
  refine T.bind (P:=fun (r:Unit⊕Unit)=>match r with | .inl _=>∀ e∈l,small e | .inr _=>True) ?_ (fun r hr=>by
    cases r with
    | inl _=>exact T.ret (fun _=>⟨⟨by omega,hr⟩,hl⟩)
    | inr _=>exact T.ret (fun h=>by simp at h))
  refine T.loop l.length (fun i s=>s=(i:Int)∧∀ (k:Nat) (_:k<i) (hk:k<l.length),small l[k]) _ ?_ ⟨rfl,fun k hk=>by omega⟩ (by omega)
  rintro i s hi ⟨rfl,hq⟩
  unfold kit_LightEvents_L1
  refine T.ite (fun cd=>?_) (fun cd=>?_)
  · have hil:=lt_of cd
    refine T.get i rfl hil ?_
    refine T.bind (P:=fun b=>b=true→small l[i]) ?_ ?_
    · unfold kit_LightDeps
      refine T.ite (fun d1=>?_) (fun _=>T.ret (fun h=>by simp at h))
      refine T.ite (fun d2=>?_) (fun _=>T.ret (fun h=>by simp at h))
      refine T.ret (fun d3=>?_)
      have d1:=of_decide_eq_true d1
      have d2:=of_decide_eq_true d2
      have d3:=of_decide_eq_true d3
      unfold small
      omega
    · intro b hb
      refine T.ite (fun _=>T.ret trivial) (fun c2=>?_)
      refine T.ret ⟨hil,addN1 _ (by omega),fun k hk hkl=>?_⟩
      by_cases e:k=i
      · subst e
        exact hb (by simpa using c2)
      · exact hq k (by omega) hkl
  · have:=ge_of cd
    refine T.ret (fun e he=>?_)
    obtain ⟨k,hk,rfl⟩:=List.getElem_of_mem he
    exact hq k (by omega) hk

theorem ownS_ (n:Nat) (l:List Event) (h:smalls l) (hn:200≤n):kit_OwnEvents_S n l=some l:=by
  have hl:=h.1
  have key:T (kit_OwnEvents_S n l) (fun r=>r=l):=by
    unfold kit_OwnEvents_S
    refine T.bind (P:=fun r=>r=l) ?_ (fun r hr=>T.ret hr)
    refine T.loop l.length (fun i s=>s=(l.take i,(i:Int))) _ ?_ rfl (by omega)
    rintro i s hi rfl
    unfold kit_OwnEvents_S_L1
    refine T.ite (fun cd=>?_) (fun cd=>T.fin (List.take_of_length_le (ge_of cd)))
    have hil:=lt_of cd
    refine T.get i rfl hil ?_
    refine T.eqb (ownEvent_ n _ (h.2 _ (List.getElem_mem hil))) ?_
    refine T.grd (ble_of (by simp only [List.length_take]; omega)) ?_
    refine T.ret ⟨hil,?_⟩
    dsimp only
    rw [addN1 _ (by omega),List.take_succ_eq_append_getElem hil]
  obtain ⟨r,h1,h2⟩:=key
  rw [h1,h2]
theorem ownS2_ (n:Nat) (l ob:List Event) (h:smalls l) (hn:200≤n):kit_OwnEvents_S2 n l ob=some l:=by
  have hl:=h.1
  have key:T (kit_OwnEvents_S2 n l ob) (fun r=>r=l):=by
    unfold kit_OwnEvents_S2
    refine T.bind (P:=fun r=>r=l) ?_ (fun r hr=>T.ret hr)
    refine T.loop l.length (fun i s=>s=(l.take i,(i:Int))) _ ?_ rfl (by omega)
    rintro i s hi rfl
    unfold kit_OwnEvents_S2_L1
    refine T.ite (fun cd=>?_) (fun cd=>T.fin (List.take_of_length_le (ge_of cd)))
    have hil:=lt_of cd
    refine T.get i rfl hil ?_
    refine T.eqb (ownEvent_ n _ (h.2 _ (List.getElem_mem hil))) ?_
    refine T.grd (ble_of (by simp only [List.length_take]; omega)) ?_
    refine T.ret ⟨hil,?_⟩
    dsimp only
    rw [addN1 _ (by omega),List.take_succ_eq_append_getElem hil]
  obtain ⟨r,h1,h2⟩:=key
  rw [h1,h2]

theorem row_val {n:Nat} {h:Int} {l:List Event} {r:Int} (e:event_Row n h l=some r):r=0∨r=4:=by
  unfold event_Row at e
  cases hi:iter (fun s=>event_Row_L1 n h l s) n (0,(-1)) with
  | none=>rw [hi] at e; cases e
  | some t =>
    rw [hi] at e
    cases t with
    | inl _=>cases e; exact .inl rfl
    | inr _=>cases e; exact .inr rfl
theorem row_bad (n:Nat) (h:Int) (l:List Event) (hl:smalls l) (hn:200≤n) (hb:¬ rowP h l):event_Row n h l=some 4:=by
  obtain ⟨r,e,hr⟩:=evRowF_ n h l hl hn
  rcases row_val e with rfl | rfl
  · exact absurd (hr rfl) hb
  · exact e
theorem rowP_take {h:Int} {l:List Event} (hr:rowP h l) (i:Nat):rowP h (l.take i):=by
  intro k hk
  have hkl:k<l.length:=by simp at hk; omega
  obtain ⟨a,b,c,d⟩:=hr k hkl
  have e:(l.take i)[k]=l[k]:=List.getElem_take
  refine ⟨by rw [e]; exact a,by rw [e]; exact b,by rw [e]; exact c,fun h4=>?_⟩
  rw [e] at h4
  obtain ⟨p,hp,e1,e2,e3,e4⟩:=d h4
  refine ⟨p,hp,by rw [e]; exact e1,?_,?_,fun j h1 h2=>?_⟩
  · rw [List.getElem_take]; exact e2
  · rw [List.getElem_take,e]; exact e3
  · rw [List.getElem_take]; exact e4 j h1 h2
theorem smalls_take {l:List Event} (h:smalls l) (i:Nat):smalls (l.take i) :=
  ⟨by rw [List.length_take]; have:=h.1; omega,fun e he=>h.2 e (List.mem_of_mem_take he)⟩
theorem smalls_set {l:List Event} (h:smalls l) (i:Nat) (e:Event) (he:small e):smalls (l.set i e) :=
  ⟨by rw [List.length_set]; exact h.1,fun x hx=>by
    rcases List.mem_or_eq_of_mem_set hx with h1 | h1
    · exact h.2 x h1
    · rw [h1]; exact he⟩

theorem mget_mput (k k' v:Int):∀ m:List (Int×Int),mget beqI (mput beqI m k v) k'=if k'=k then some v else mget beqI m k'
  | []=>by
    show (if beqI k' k=true then some v else none)=_
    by_cases h:k'=k
    · subst h; simp [beqI]
    · simp [beqI,h,mget]
  | e::m=>by
    show mget beqI (if beqI k e.1=true then (k,v)::m else e::mput beqI m k v) k'=_
    by_cases h1:k=e.1
    · have:beqI k e.1=true:=by simp [beqI,h1]
      rw [if_pos this]
      by_cases h2:k'=k
      · simp [mget,beqI,h2]
      · have h3:¬ k'=e.1:=by rw [← h1]; exact h2
        simp [mget,beqI,h2,h3]
    · have:¬ beqI k e.1=true:=by simp [beqI,h1]
      rw [if_neg this]
      show (if beqI k' e.1=true then some e.2 else mget beqI (mput beqI m k v) k')=_
      rw [mget_mput k k' v m]
      by_cases h2:k'=e.1
      · have h3:¬ k'=k:=fun h=>h1 (by rw [← h,h2])
        simp [mget,beqI,h2,h3]
        intro h4
        exact absurd h4.symm h1
      · simp [mget,beqI,h2]

/-- The loop: each first part is valid; no two of a kind use one pair. -/
theorem loop_ (n:Nat) (hart:Int) (l:List Event) (at_:Int) (hl:smalls l) (hn:200≤n) (hr:rowP hart l) :
    T (iter (fun s=>law_EventRows_L1 n hart l at_ s) n (([]:List (Int×Int)),0)) (fun r=>r=.inl ()):=by
  have hll:=hl.1
  refine T.loop l.length (fun i s=>s.2=(i:Int)∧∀ k:Int,mget beqI s.1 k≠none→∃ j:Nat,∃ hj:j<l.length,j<i∧l[j].Kind=4∧l[j].Pair=k) _ ?_ ⟨rfl,fun k h=>absurd rfl h⟩ (by omega)
  rintro i ⟨m,s2⟩ hi ⟨e1,hq⟩
  dsimp only at e1 hq
  subst e1
  unfold law_EventRows_L1
  refine T.ite (fun cd=>?_) (fun _=>T.fin rfl)
  have hil:i<l.length:=lt_of cd
  refine T.grd (by simp; omega) ?_
  refine T.eqb (a:=0) (by
    show event_Row n hart (l.take ((i:Int)).toNat)=_
    exact evRow_ n hart _ (smalls_take hl _) hn (rowP_take hr _)) ?_
  refine T.ite (fun c=>by simp at c) (fun _=>?_)
  refine T.get i rfl hil ?_
  obtain ⟨a,b,c,d⟩:=hr i hil
  refine T.ite (fun c1=>by simp [b] at c1) (fun _=>?_)
  refine T.ite (fun c1=>by simp [c] at c1) (fun _=>?_)
  refine T.ite (fun c4=>?_) (fun c4=>?_)
  · have k4:l[i].Kind=4:=by simpa using c4
    obtain ⟨p,hp,e1,e2,e3,e4⟩:=d k4
    have hnone:mget beqI m l[i].Pair=none:=by
      cases hm:mget beqI m l[i].Pair with
      | none=>rfl
      | some v =>
        exfalso
        obtain ⟨j,hj,hji,j4,jp⟩:=hq l[i].Pair (by rw [hm]; exact fun h=>by cases h)
        obtain ⟨_,_,_,dj⟩:=hr j hj
        obtain ⟨p',hp',f1,_⟩:=dj j4
        have:p'=p:=by rw [jp,e1] at f1; omega
        subst this
        exact (e4 j hp' hji).2 j4
    refine T.ite (fun c1=>by simp [hnone] at c1) (fun _=>?_)
    refine T.get p e1 (by omega) ?_
    refine T.ite (fun c1=>by simp [e2] at c1) (fun _=>?_)
    refine T.next ⟨hil,addN1 _ (by omega),fun k hk=>?_⟩
    dsimp only at hk
    rw [mget_mput] at hk
    by_cases hkp:k=l[i].Pair
    · exact ⟨i,hil,by omega,k4,hkp.symm⟩
    · rw [if_neg hkp] at hk
      obtain ⟨j,hj,h1,h2,h3⟩:=hq k hk
      exact ⟨j,hj,by omega,h2,h3⟩
  · refine T.next ⟨hil,addN1 _ (by omega),fun k hk=>?_⟩
    obtain ⟨j,hj,h1,h2,h3⟩:=hq k hk
    exact ⟨j,hj,by omega,h2,h3⟩

theorem rows_true (hart:Int) (l:List Event) (at_:Int):law_EventRows 1000 hart l at_=some true:=by
  have key:T (law_EventRows 1000 hart l at_) (fun r=>r=true):=by
    unfold law_EventRows
    refine T.eqb (a:=true) rfl ?_
    refine T.ite (fun c=>by simp at c) (fun _=>?_)
    refine T.bind (lightE_ 1000 l (by omega)) (fun b hb=>?_)
    refine T.ite (fun _=>T.ret rfl) (fun c1=>?_)
    obtain ⟨hs,hlen⟩:=hb (by simpa using c1)
    refine T.bind (evRowF_ 1000 hart l hs (by omega)) (fun r hr=>?_)
    refine T.ite (fun _=>T.ret rfl) (fun c2=>?_)
    have hr:=hr (by simpa using c2)
    refine T.bind (loop_ 1000 hart l at_ hs (by omega) hr) (fun t ht=>?_)
    subst ht
    dsimp only
    refine T.ite (fun _=>T.ret rfl) (fun c3=>?_)
    have hpos:0<l.length:=by
      have:¬ (l.length:Int)=0:=by simpa using c3
      omega
    refine T.bind (pick_ 1000 at_ l.length (by omega) (by omega)) (fun k hk=>?_)
    obtain ⟨k,rfl⟩:∃ m:Nat,k=(m:Int):=⟨k.toNat,by omega⟩
    have hkl:k<l.length:=by omega
    refine T.eqb (ownS_ 1000 l hs (by omega)) ?_
    refine T.eqb (ownS2_ 1000 l l hs (by omega)) ?_
    refine T.get k rfl hkl ?_
    refine T.get k rfl hkl ?_
    obtain ⟨a,b,c,_⟩:=hr k hkl
    obtain ⟨o1,o2,o3,_⟩:=okTail _ a
    have hsm:=hs.2 _ (List.getElem_mem hkl)
    have hh:addW .i64 hart 1=hart + 1:=addI (by omega) (by omega)
    refine T.eqb (a:=4) (row_bad 1000 hart _ (smalls_set hs _ _ hsm) (by omega) (fun hx=>?_)) ?_
    · obtain ⟨_,g,_⟩:=hx k (by rw [List.length_set]; exact hkl)
      simp only [Int.toNat_natCast,List.getElem_set_self] at g
      rw [hh] at g
      omega
    refine T.ite (fun _=>?_) (fun c=>by simp at c)
    refine T.eqb (a:=4) (row_bad 1000 hart _ (smalls_set hs _ _ hsm) (by omega) (fun hx=>?_)) ?_
    · obtain ⟨_,_,g,_⟩:=hx k (by rw [List.length_set]; exact hkl)
      simp only [Int.toNat_natCast,List.getElem_set_self] at g
      rw [addN1 _ (by omega)] at g
      omega
    refine T.ite (fun _=>?_) (fun c=>by simp at c)
    refine T.eqb (a:=4) (row_bad 1000 _ l hs (by omega) (fun hx=>?_)) ?_
    · obtain ⟨_,g,_⟩:=hx k hkl
      rw [hh] at g
      omega
    exact T.ret rfl
  obtain ⟨r,h1,h2⟩:=key
  rw [h1,h2]

end Go.Proofs.YtnmmknnnggcijaaDoor
