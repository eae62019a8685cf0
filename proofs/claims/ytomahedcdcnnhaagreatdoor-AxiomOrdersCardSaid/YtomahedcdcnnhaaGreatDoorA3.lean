/- Places in the order; the last one that a number may read from; two rules of preserved order. Plain facts; nothing is claimed of the program here. -/
import Derived.Test.YtomahedcdcnnhaaGreatDoorA2
namespace Go.Proofs.YtomahedcdcnnhaaGreatDoor
open Go A

theorem L4 (l:List (List Event)) (q r:Nat) (h:q<r) (hq:q<l.length):(FL l q).length + l[q].length≤(FL l r).length:=by
 have h1:=BV l (r - (q + 1)) (q + 1)
 rw [show q + 1 + (r - (q + 1))=r by omega,gg hq,List.length_append] at h1
 exact h1
theorem F5 {n:Nat} {c:af} (h:cK n c) (i:Nat) (hi:i<c.am.flatten.length):∃ q:Nat,∃ hq:q<c.am.length,c.am.flatten[i].Hart=(q:Int)∧(i:Int) - c.am.flatten[i].At=((FL c.am q).length:Int)∧i<(FL c.am q).length + c.am[q].length:=by
 obtain ⟨q,hq,k,hk,e1,e2⟩:=qL c.am i hi
 have hr:=h.rows q hq k hk
 refine ⟨q,hq,by rw [e2]; exact hr.2.1,?_,by omega⟩
 rw [e2,hr.2.2.1]
 omega
theorem qM {n:Nat} {c:af} (h:cK n c) (i j:Nat) (hi:i<c.am.flatten.length) (hj:j<c.am.flatten.length) (e:c.am.flatten[i].Hart=c.am.flatten[j].Hart):(i:Int) - c.am.flatten[i].At=(j:Int) - c.am.flatten[j].At:=by
 obtain ⟨q,_,h1,h2,_⟩:=F5 h i hi
 obtain ⟨r,_,h3,h4,_⟩:=F5 h j hj
 have:q=r:=by omega
 subst this
 omega
/-- A list without repeats that lies in one that is no longer has all of it. -/
theorem cover:∀ (xs ys:List Nat),xs.Nodup→(∀ x∈xs,x∈ys)→ys.length≤xs.length→∀ y∈ys,y∈xs
 | [],ys,_,_,h,y,hy=>by
  have:ys=[]:=List.eq_nil_of_length_eq_zero (by simpa using h)
  rw [this] at hy
  exact hy
 | x::t,ys,hn,hs,hl,y,hy=>by
  obtain ⟨hx,hn⟩:=List.nodup_cons.1 hn
  have hxy:=hs x List.mem_cons_self
  by_cases e:y=x
  ·rw [e]; exact List.mem_cons_self
  ·refine List.mem_cons_of_mem _ (cover t (ys.erase x) hn (fun z hz=>?_) ?_ y ((List.mem_erase_of_ne e).2 hy))
   ·exact (List.mem_erase_of_ne (fun e2=>hx (by rw [← e2]; exact hz))).2 (hs z (List.mem_cons_of_mem _ hz))
   ·rw [List.length_erase_of_mem hxy]
    simp only [List.length_cons] at hl
    omega


theorem Dv {n:Nat} {c:af} (ok:cK n c) (k:Nat) (hk:k<c.am.flatten.length) (hm:gH c.am.flatten[k].Kind=true):∃ a:Nat,∃ ha:a<c.bt.length,c.bt[a]=(k:Int):=by
 have hnd:(c.bt.map Int.toNat).Nodup:=by
  rw [List.nodup_iff_pairwise_ne,List.pairwise_iff_getElem]
  intro a b ha hb hab e
  rw [List.length_map] at ha hb
  rw [List.getElem_map,List.getElem_map] at e
  obtain ⟨j1,_,e1,_⟩:=ok.ord a ha
  obtain ⟨j2,_,e2,_⟩:=ok.ord b hb
  refine ok.dist a b ha hb hab ?_
  rw [e1,e2] at e ⊢
  have e:j1=j2:=e
  rw [e]
 have hsub:∀ x∈c.bt.map Int.toNat,x∈(List.range c.am.flatten.length).filter (fun j=>(c.am.flatten[j]?.map fun e=>gH e.Kind).getD false):=by
  intro x hx
  obtain ⟨y,hy,rfl⟩:=List.mem_map.1 hx
  obtain ⟨a,ha,rfl⟩:=List.getElem_of_mem hy
  obtain ⟨j,hj,e1,e2⟩:=ok.ord a ha
  rw [e1,List.mem_filter]
  refine ⟨List.mem_range.2 hj,?_⟩
  simp only [Int.toNat_natCast]
  rw [List.getElem?_eq_getElem hj]
  exact e2
 have hcnt:((List.range c.am.flatten.length).filter (fun j=>(c.am.flatten[j]?.map fun e=>gH e.Kind).getD false)).length=cnt c.am.flatten c.am.flatten.length:=by
  have gen:∀ m,m≤c.am.flatten.length→((List.range m).filter (fun j=>(c.am.flatten[j]?.map fun e=>gH e.Kind).getD false)).length=cnt c.am.flatten m:=by
   intro m
   induction m with
   | zero=>intro _; rfl
   | succ m ih =>
    intro hm
    rw [List.range_succ,List.filter_append,List.length_append,ih (by omega),qp (by omega)]
    congr 1
    rw [List.filter_cons,List.getElem?_eq_getElem (by omega)]
    simp only [Option.map_some,Option.getD_some,List.filter_nil]
    by_cases hb:gH (c.am.flatten[m]'(by omega)).Kind=true
    ·rw [if_pos hb,if_pos hb]; rfl
    ·rw [if_neg hb,if_neg hb]; rfl
  exact gen _ (Nat.le_refl _)
 have hk2:k∈c.bt.map Int.toNat:=by
  refine cover _ _ hnd hsub (by rw [hcnt,List.length_map,ok.count]; exact Nat.le_refl _) k (List.mem_filter.2 ⟨List.mem_range.2 hk,?_⟩)
  rw [List.getElem?_eq_getElem hk]
  exact hm
 obtain ⟨y,hy,e⟩:=List.mem_map.1 hk2
 obtain ⟨a,ha,rfl⟩:=List.getElem_of_mem hy
 obtain ⟨j,hj,e1,_⟩:=ok.ord a ha
 exact ⟨a,ha,by rw [e1] at e ⊢; simp at e; omega⟩

/-! ### Places -/
def OC (pl:List Int) (x:Int):Int:=(au pl x).getD (-1)
theorem yO {pl:List Int} {j:Nat} (h:j<pl.length):OC pl (j:Int)=pl[j]:=by
 unfold OC
 rw [cG rfl h]
 rfl
theorem F6 {n:Nat} {c:af} (hr:cK n c) {w:List (Int×List Int)} {pl:List Int} (ct:rm c w pl) (i:Nat) (hi:i<c.bt.length):OC pl c.bt[i]=(i:Int):=by
 obtain ⟨j,hj,e,_⟩:=hr.ord i hi
 have hj2:j<pl.length:=by rw [ct.len]; exact hj
 rw [e,yO hj2]
 rcases ct.plc j hj2 with ⟨_,hno⟩ | ⟨a,ha,_,h2,h3⟩
 ·exact absurd e (hno i hi hi)
 ·rw [h3]
  rcases Nat.lt_trichotomy a i with h | h | h
  ·exact absurd (h2.trans e.symm) (hr.dist a i ha hi h)
  ·rw [h]
  ·exact absurd (e.trans h2.symm) (hr.dist i a hi ha h)
/-! ### Two rules -/
/-! ### Coherence -/
section
variable {n:Nat} {c:af} {w:List (Int×List Int)} {pl:List Int}
def Vm (n:Nat) (c:af) (hr:cK n c) (pl:List Int):Prop:=∀ (k:Nat) (hk:k<c.am.flatten.length),nT c.am.flatten[k].Kind=true→c.la[k]'(by rw [hr.fromLen]; exact hk)=JF c pl k hk
end

end Go.Proofs.YtomahedcdcnnhaaGreatDoor
