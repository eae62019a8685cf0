/- Numbers and places correspond one to one, for every candidate. Plain lists, no program in sight. -/
import Derived.Test.YtcckeabholabcaaL2
namespace Go.Proofs.Ytcckeabholabcaa
open Go A

theorem flat_fwd (l:List (List Event)) (h k:Nat) (hh:h<l.length) (hk:k<l[h].length):∃ hi:(FL l h).length + k<l.flatten.length,l.flatten[(FL l h).length + k]=l[h][k]:=by
  have hr:=FL_row hh
  have e:l.flatten=FL l (h + 1)++(l.drop (h + 1)).flatten:=by
    unfold FL
    rw [← List.flatten_append,List.take_append_drop]
  refine ⟨by omega,?_⟩
  have h2:l.flatten[(FL l h).length + k]?=some l[h][k]:=by
    rw [e,List.getElem?_append_left (by rw [FL_succ hh,List.length_append]; omega),FL_succ hh,List.getElem?_append_right (by omega)]
    rw [show (FL l h).length + k - (FL l h).length=k by omega]
    exact List.getElem?_eq_getElem hk
  rw [List.getElem?_eq_getElem (by omega)] at h2
  exact Option.some.inj h2

/-- A list without repeats that lies in one that is no longer has all of it. -/
theorem cover:∀ (xs ys:List Nat),xs.Nodup→(∀ x∈xs,x∈ys)→ys.length≤xs.length→∀ y∈ys,y∈xs
  | [],ys,_,_,h,y,hy=>by
    have:ys=[]:=List.eq_nil_of_length_eq_zero (by simpa using h)
    rw [this] at hy
    exact hy
  | x::t,ys,hn,hs,hl,y,hy=>by
    obtain ⟨hx,hn⟩:=List.nodup_cons.1 hn
    have hxy:=hs x List.mem_cons_self
    by_cases e:y=x
    · rw [e]; exact List.mem_cons_self
    · refine List.mem_cons_of_mem _ (cover t (ys.erase x) hn (fun z hz=>?_) ?_ y ((List.mem_erase_of_ne e).2 hy))
      · exact (List.mem_erase_of_ne (fun e2=>hx (by rw [← e2]; exact hz))).2 (hs z (List.mem_cons_of_mem _ hz))
      · rw [List.length_erase_of_mem hxy]
        simp only [List.length_cons] at hl
        omega

theorem numbers_law (n:Nat) (c:Cand) (hn:300≤n):T (law_CandNumbers n c) (fun b=>b=true):=by
  unfold law_CandNumbers
  refine T.eqb (a:=true) rfl ?_
  refine T.ite (fun d=>by simp at d) (fun _=>?_)
  refine T.bind (light_ n c 60 (by omega) (by omega)) (fun b hb=>?_)
  refine T.ite (fun _=>T.ret rfl) (fun cb=>?_)
  obtain ⟨hc,hall⟩:=hb (not_of cb)
  have hf:=hc.all
  have hhl:=hc.harts
  have hor:=hc.order
  obtain ⟨r,hr,hok⟩:=check_ok n c hc (by omega)
  refine T.eqb hr ?_
  refine T.ite (fun _=>T.ret rfl) (fun d=>?_)
  have hr0:r=0:=ne_of d
  subst hr0
  have ok:OK n c:=by
    rcases hok with ⟨_,h⟩ | ⟨h,_⟩
    · exact h
    · cases h
  refine T.eqb (all_ n c hc (by omega) hr) ?_
  obtain ⟨pl,hp1,hp2,hp3⟩:=places_ n c hc (by omega) hr ok
  refine T.eqb hp1 ?_
  refine T.bind (P:=fun (r:Int⊕Unit)=>match r with | .inl w=>w=(c.Harts.flatten.length:Int) | .inr _=>False) ?_ ?_
  · refine T.loop c.Harts.length (fun i s=>s=(((FL c.Harts i).length:Int),(i:Int))) _ ?_ rfl (by omega)
    rintro i s hi rfl
    unfold law_CandNumbers_L1
    refine T.ite (fun cd=>?_) (fun cd=>T.fin (by dsimp only; rw [FL_all _ (ge_of cd)]))
    have hil:i<c.Harts.length:=lt_of cd
    have hrow:=FL_row hil
    refine T.bind (P:=fun (r:(Int×Int)⊕Unit)=>match r with | .inl w=>w=(((FL c.Harts (i + 1)).length:Int),(i:Int)) | .inr _=>False) ?_ (fun r hr2=>?_)
    · refine T.loop c.Harts[i].length (fun k s=>s=(((((FL c.Harts i).length + k:Nat)):Int),(i:Int),(k:Int))) _ ?_ rfl (by omega)
      rintro k s hk rfl
      unfold law_CandNumbers_L2
      refine T.get i rfl hil ?_
      refine T.ite (fun cd2=>?_) (fun cd2=>?_)
      · have hkl:k<c.Harts[i].length:=lt_of cd2
        obtain ⟨hlt,hfl⟩:=flat_fwd c.Harts i k hil hkl
        refine T.eqb (number_ n c hc (by omega) hr i k hil hkl) ?_
        refine T.ite (fun d=>by simp at d) (fun _=>?_)
        refine T.ite (fun d=>by simp at d) (fun _=>?_)
        refine T.ite (fun d=>by have:=of_decide_eq_true d; omega) (fun _=>?_)
        refine T.get _ rfl hlt ?_
        refine T.get k rfl hkl ?_
        rw [hfl]
        refine T.eqb (event_ n _ ((hc.rows _ (List.getElem_mem hil)).2 _ (List.getElem_mem hkl)) (by omega)) ?_
        refine T.ite (fun d=>by simp at d) (fun _=>?_)
        refine T.ret ⟨hkl,?_⟩
        dsimp only
        rw [addN1 _ (by omega),addN1 _ (by omega)]
        rfl
      · have hge:c.Harts[i].length≤k:=ge_of cd2
        have e:k=c.Harts[i].length:=by omega
        subst e
        refine T.fin ?_
        dsimp only
        rw [FL_succ hil,List.length_append]
    · cases r with
      | inr _=>exact hr2.elim
      | inl w =>
        have hr2:w=(((FL c.Harts (i + 1)).length:Int),(i:Int)):=hr2
        subst hr2
        refine T.ret ⟨hil,?_⟩
        dsimp only
        rw [addN1 _ (by omega)]
  intro r hr2
  cases r with
  | inr _=>exact hr2.elim
  | inl w =>
  have hr2:w=(c.Harts.flatten.length:Int):=hr2
  subst hr2
  dsimp only
  refine T.ite (fun d=>by simp at d) (fun _=>?_)
  refine T.ite (fun d=>by rw [hp2] at d; simp at d) (fun _=>?_)
  refine T.ite (fun d=>by rw [ok.fromLen] at d; simp at d) (fun _=>?_)
  -- each memory event stands in the order
  have hmem:∀ (k:Nat) (hk:k<c.Harts.flatten.length),memB c.Harts.flatten[k].Kind=true→∃ a:Nat,∃ ha:a<c.Order.length,c.Order[a]=(k:Int):=by
    intro k hk hm
    -- the numbers that stand in the order, and the memory events' numbers, are as many
    have hnd:(c.Order.map Int.toNat).Nodup:=by
      refine List.pairwise_iff_getElem.2 (fun a b ha hb hab=>?_)
      simp only [List.length_map] at ha hb
      simp only [List.getElem_map]
      intro e
      obtain ⟨j1,_,e1,_⟩:=ok.ord a ha
      obtain ⟨j2,_,e2,_⟩:=ok.ord b hb
      refine ok.dist a b ha hb hab ?_
      rw [e1,e2] at e ⊢
      have e:j1=j2:=e
      rw [e]
    have hsub:∀ x∈c.Order.map Int.toNat,x∈(List.range c.Harts.flatten.length).filter (fun j=>(c.Harts.flatten[j]?.map fun e=>memB e.Kind).getD false):=by
      intro x hx
      obtain ⟨y,hy,rfl⟩:=List.mem_map.1 hx
      obtain ⟨a,ha,rfl⟩:=List.getElem_of_mem hy
      obtain ⟨j,hj,e1,e2⟩:=ok.ord a ha
      rw [e1,List.mem_filter]
      refine ⟨List.mem_range.2 hj,?_⟩
      simp only [Int.toNat_natCast]
      rw [List.getElem?_eq_getElem hj]
      exact e2
    have hcnt:((List.range c.Harts.flatten.length).filter (fun j=>(c.Harts.flatten[j]?.map fun e=>memB e.Kind).getD false)).length=cnt c.Harts.flatten c.Harts.flatten.length:=by
      have gen:∀ m,m≤c.Harts.flatten.length→((List.range m).filter (fun j=>(c.Harts.flatten[j]?.map fun e=>memB e.Kind).getD false)).length=cnt c.Harts.flatten m:=by
        intro m
        induction m with
        | zero=>intro _; rfl
        | succ m ih =>
          intro hm
          rw [List.range_succ,List.filter_append,List.length_append,ih (by omega),cnt_succ (by omega)]
          congr 1
          rw [List.filter_cons,List.getElem?_eq_getElem (by omega)]
          simp only [Option.map_some,Option.getD_some,List.filter_nil]
          by_cases hb:memB (c.Harts.flatten[m]'(by omega)).Kind=true
          · rw [if_pos hb,if_pos hb]; rfl
          · rw [if_neg hb,if_neg hb]; rfl
      exact gen _ (Nat.le_refl _)
    have hk2:k∈c.Order.map Int.toNat:=by
      refine cover _ _ hnd hsub (by rw [hcnt,List.length_map,ok.count]; exact Nat.le_refl _) k (List.mem_filter.2 ⟨List.mem_range.2 hk,?_⟩)
      rw [List.getElem?_eq_getElem hk]
      exact hm
    obtain ⟨y,hy,e⟩:=List.mem_map.1 hk2
    obtain ⟨a,ha,rfl⟩:=List.getElem_of_mem hy
    obtain ⟨j,hj,e1,_⟩:=ok.ord a ha
    exact ⟨a,ha,by rw [e1] at e ⊢; simp at e; omega⟩
  refine T.bind (P:=fun (r:Int⊕Unit)=>match r with | .inl w=>w=(cnt c.Harts.flatten c.Harts.flatten.length:Int) | .inr _=>False) ?_ (fun r hr3=>?_)
  · refine T.loop c.Harts.flatten.length (fun i s=>s=((cnt c.Harts.flatten i:Int),(i:Int))) _ ?_ rfl (by omega)
    rintro i s hi rfl
    unfold law_CandNumbers_L3
    refine T.ite (fun cd=>?_) (fun cd=>?_)
    · have hil:i<c.Harts.flatten.length:=lt_of cd
      have hcs:=cnt_succ hil
      have hcl:=cnt_le c.Harts.flatten i
      refine T.get i rfl hil ?_
      refine T.eqb (refMem_ n _) ?_
      have hip:i<pl.length:=by omega
      refine T.ite (fun d=>?_) (fun d=>?_)
      · have hm:memB c.Harts.flatten[i].Kind=false:=by cases h:memB c.Harts.flatten[i].Kind <;> simp_all
        rw [if_neg (by rw [hm]; exact Bool.false_ne_true)] at hcs
        refine T.get i rfl hip ?_
        rcases hp3 i hip with ⟨h1,_⟩ | ⟨a,ha,_,h2,_⟩
        · rw [h1]
          refine T.ite (fun d=>by simp at d) (fun _=>?_)
          refine T.ret ⟨hil,?_⟩
          rw [addN1 _ (by omega),hcs]
          rfl
        · obtain ⟨j,hj,e1,e2⟩:=ok.ord a ha
          rw [h2] at e1
          have:i=j:=by omega
          subst this
          rw [hm] at e2
          cases e2
      · have hm:=not_of d
        rw [if_pos hm] at hcs
        refine T.get i rfl hip ?_
        rcases hp3 i hip with ⟨_,h2⟩ | ⟨a,ha,_,h2,h3⟩
        · obtain ⟨a,ha,e⟩:=hmem i hil hm
          exact absurd e (h2 a ha ha)
        · rw [h3]
          refine T.ite (fun d=>by have:=of_decide_eq_true d; omega) (fun _=>?_)
          refine T.ite (fun d=>by have:=of_decide_eq_true d; omega) (fun _=>?_)
          refine T.get a rfl ha ?_
          rw [h2]
          refine T.ite (fun d=>by simp at d) (fun _=>?_)
          refine T.ret ⟨hil,?_⟩
          rw [addN1 _ (by omega),addN1 _ (by omega),hcs]
    · have hge:=ge_of cd
      have e:i=c.Harts.flatten.length:=by omega
      rw [e]
      exact T.fin rfl
  · cases r with
    | inr _=>exact hr3.elim
    | inl w =>
      have hr3:w=(cnt c.Harts.flatten c.Harts.flatten.length:Int):=hr3
      subst hr3
      refine T.ret ?_
      rw [ok.count]
      simp

theorem numbers_true (c:Cand):law_CandNumbers 1000 c=some true:=by
  obtain ⟨r,h1,h2⟩:=numbers_law 1000 c (by omega)
  rw [h1,h2]

end Go.Proofs.Ytcckeabholabcaa
