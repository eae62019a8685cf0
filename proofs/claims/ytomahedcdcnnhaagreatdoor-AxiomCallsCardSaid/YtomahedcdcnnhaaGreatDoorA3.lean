/- Places in the order; the last one that a number may read from; two rules of preserved order. Plain facts; nothing is claimed of the program here. -/
import Derived.Test.YtomahedcdcnnhaaGreatDoorA2
namespace Go.Proofs.YtomahedcdcnnhaaGreatDoor
open Go A

theorem J6 (l:List (List Event)) (q r:Nat) (h:q<r) (hq:q<l.length):(FL l q).length + l[q].length≤(FL l r).length:=by
  have h1:=BX l (r - (q + 1)) (q + 1)
  rw [show q + 1 + (r - (q + 1))=r by omega,fV hq,List.length_append] at h1
  exact h1
theorem FE {n:Nat} {c:af} (h:bz n c) (i:Nat) (hi:i<c.Harts.flatten.length):∃ q:Nat,∃ hq:q<c.Harts.length,c.Harts.flatten[i].Hart=(q:Int)∧(i:Int) - c.Harts.flatten[i].At=((FL c.Harts q).length:Int)∧i<(FL c.Harts q).length + c.Harts[q].length:=by
  obtain ⟨q,hq,k,hk,e1,e2⟩:=qQ c.Harts i hi
  have hr:=h.rows q hq k hk
  refine ⟨q,hq,by rw [e2]; exact hr.2.1,?_,by omega⟩
  rw [e2,hr.2.2.1]
  omega
theorem qR {n:Nat} {c:af} (h:bz n c) (i j:Nat) (hi:i<c.Harts.flatten.length) (hj:j<c.Harts.flatten.length) (e:c.Harts.flatten[i].Hart=c.Harts.flatten[j].Hart):(i:Int) - c.Harts.flatten[i].At=(j:Int) - c.Harts.flatten[j].At:=by
  obtain ⟨q,_,h1,h2,_⟩:=FE h i hi
  obtain ⟨r,_,h3,h4,_⟩:=FE h j hj
  have:q=r:=by omega
  subst this
  omega
/-- A list without repeats that lies in one that is no longer has all of it. -/
theorem cover:∀ (xs ys:List Nat),xs.Nodup→(∀ x∈xs,x∈ys)→ys.length≤xs.length→∀ y∈ys,y∈xs
  | [],ys,_,_,h,y,hy=>by
    have:ys=[]:=List.eq_nil_of_length_eq_zero (by simpa using h)
    rw [this] at hy
    exact hy
  | x::t,ys,hn,hs,hl,y,hy=>by
    obtain ⟨hx,hn⟩:=List.nodup_cons.1 hn
    have hxy:=hs x List.mem_cons_self
    by_cases e:y=x
    · rw [e]; exact List.mem_cons_self
    · refine List.mem_cons_of_mem _ (cover t (ys.erase x) hn (fun z hz=>?_) ?_ y ((List.mem_erase_of_ne e).2 hy))
      · exact (List.mem_erase_of_ne (fun e2=>hx (by rw [← e2]; exact hz))).2 (hs z (List.mem_cons_of_mem _ hz))
      · rw [List.length_erase_of_mem hxy]
        simp only [List.length_cons] at hl
        omega


theorem ua {n:Nat} {c:af} (ok:bz n c) (k:Nat) (hk:k<c.Harts.flatten.length) (hm:fy c.Harts.flatten[k].Kind=true):∃ a:Nat,∃ ha:a<c.Order.length,c.Order[a]=(k:Int):=by
  have hnd:(c.Order.map Int.toNat).Nodup:=by
    rw [List.nodup_iff_pairwise_ne,List.pairwise_iff_getElem]
    intro a b ha hb hab e
    rw [List.length_map] at ha hb
    rw [List.getElem_map,List.getElem_map] at e
    obtain ⟨j1,_,e1,_⟩:=ok.ord a ha
    obtain ⟨j2,_,e2,_⟩:=ok.ord b hb
    refine ok.dist a b ha hb hab ?_
    rw [e1,e2] at e ⊢
    have e:j1=j2:=e
    rw [e]
  have hsub:∀ x∈c.Order.map Int.toNat,x∈(List.range c.Harts.flatten.length).filter (fun j=>(c.Harts.flatten[j]?.map fun e=>fy e.Kind).getD false):=by
    intro x hx
    obtain ⟨y,hy,rfl⟩:=List.mem_map.1 hx
    obtain ⟨a,ha,rfl⟩:=List.getElem_of_mem hy
    obtain ⟨j,hj,e1,e2⟩:=ok.ord a ha
    rw [e1,List.mem_filter]
    refine ⟨List.mem_range.2 hj,?_⟩
    simp only [Int.toNat_natCast]
    rw [List.getElem?_eq_getElem hj]
    exact e2
  have hcnt:((List.range c.Harts.flatten.length).filter (fun j=>(c.Harts.flatten[j]?.map fun e=>fy e.Kind).getD false)).length=cnt c.Harts.flatten c.Harts.flatten.length:=by
    have gen:∀ m,m≤c.Harts.flatten.length→((List.range m).filter (fun j=>(c.Harts.flatten[j]?.map fun e=>fy e.Kind).getD false)).length=cnt c.Harts.flatten m:=by
      intro m
      induction m with
      | zero=>intro _; rfl
      | succ m ih =>
        intro hm
        rw [List.range_succ,List.filter_append,List.length_append,ih (by omega),qt (by omega)]
        congr 1
        rw [List.filter_cons,List.getElem?_eq_getElem (by omega)]
        simp only [Option.map_some,Option.getD_some,List.filter_nil]
        by_cases hb:fy (c.Harts.flatten[m]'(by omega)).Kind=true
        · rw [if_pos hb,if_pos hb]; rfl
        · rw [if_neg hb,if_neg hb]; rfl
    exact gen _ (Nat.le_refl _)
  have hk2:k∈c.Order.map Int.toNat:=by
    refine cover _ _ hnd hsub (by rw [hcnt,List.length_map,ok.count]; exact Nat.le_refl _) k (List.mem_filter.2 ⟨List.mem_range.2 hk,?_⟩)
    rw [List.getElem?_eq_getElem hk]
    exact hm
  obtain ⟨y,hy,e⟩:=List.mem_map.1 hk2
  obtain ⟨a,ha,rfl⟩:=List.getElem_of_mem hy
  obtain ⟨j,hj,e1,_⟩:=ok.ord a ha
  exact ⟨a,ha,by rw [e1] at e ⊢; simp at e; omega⟩

/-! ### Places -/
def l9 (pl:List Int) (x:Int):Int:=(ak pl x).getD (-1)
theorem l8 {pl:List Int} {j:Nat} (h:j<pl.length):l9 pl (j:Int)=pl[j]:=by
  unfold l9
  rw [aS rfl h]
  rfl
theorem Li (pl:List Int):l9 pl (-1)=-1:=rfl
theorem qw {n:Nat} {c:af} (hr:bz n c) {w:List (Int×List Int)} {pl:List Int} (ct:gE c w pl) (i:Nat) (hi:i<c.Order.length):l9 pl c.Order[i]=(i:Int):=by
  obtain ⟨j,hj,e,_⟩:=hr.ord i hi
  have hj2:j<pl.length:=by rw [ct.len]; exact hj
  rw [e,l8 hj2]
  rcases ct.plc j hj2 with ⟨_,hno⟩ | ⟨a,ha,_,h2,h3⟩
  · exact absurd e (hno i hi hi)
  · rw [h3]
    rcases Nat.lt_trichotomy a i with h | h | h
    · exact absurd (h2.trans e.symm) (hr.dist a i ha hi h)
    · rw [h]
    · exact absurd (e.trans h2.symm) (hr.dist i a hi ha h)
theorem Ix {n:Nat} {c:af} (_hr:bz n c) {w:List (Int×List Int)} {pl:List Int} (ct:gE c w pl) (x:Int):-1≤l9 pl x:=by
  unfold l9
  cases h:ak pl x with
  | none=>exact Int.le_refl _
  | some y =>
    show -1≤y
    obtain ⟨h0,h1⟩:0≤x∧pl[x.toNat]?=some y:=by
      unfold ak at h
      split at h
      · exact ⟨by assumption,h⟩
      · cases h
    obtain ⟨hl,e⟩:=List.getElem?_eq_some_iff.1 h1
    rcases ct.plc x.toNat hl with ⟨e2,_⟩ | ⟨a,_,_,_,e2⟩
    · omega
    · omega
theorem EL {n:Nat} {c:af} (hr:bz n c) {w:List (Int×List Int)} {pl:List Int} (ct:gE c w pl):c.Order.Pairwise (fun x y=>l9 pl x<l9 pl y):=by
  rw [List.pairwise_iff_getElem]
  intro i j hi hj hij
  rw [qw hr ct i hi,qw hr ct j hj]
  omega
theorem Ju {n:Nat} {c:af} (hr:bz n c) {w:List (Int×List Int)} {pl:List Int} (ct:gE c w pl) (a:Int):(WL c a).Pairwise (fun x y=>l9 pl x<l9 pl y):=(EL hr ct).sublist List.filter_sublist
/-- The one that a number should read from is the last of those it may read from. -/
theorem Lj {n:Nat} {c:af} (hr:bz n c) {w:List (Int×List Int)} {pl:List Int} (ct:gE c w pl) (k:Nat) (hk:k<c.Harts.flatten.length) (y:Int) (hy:y∈WL c c.Harts.flatten[k].Addr) (hc:g9 c.Harts.flatten pl (k:Int) y=true):l9 pl y≤l9 pl (yH c pl k hk):=by
  unfold yH GI
  cases h:(WL c c.Harts.flatten[k].Addr).reverse.find? (g9 c.Harts.flatten pl (k:Int)) with
  | none=>exact absurd hc (by rw [List.find?_eq_none] at h; exact h y (List.mem_reverse.2 hy))
  | some x =>
    show l9 pl y≤l9 pl x
    obtain ⟨_,as,bs,e,hno⟩:=List.find?_eq_some_iff_append.1 h
    have hy2:y∈as++x::bs:=by rw [← e]; exact List.mem_reverse.2 hy
    have hp:=Ju hr ct c.Harts.flatten[k].Addr
    rw [← List.pairwise_reverse,e] at hp
    rw [List.pairwise_append,List.pairwise_cons] at hp
    rcases List.mem_append.1 hy2 with h1 | h1
    · have:=hno y h1
      rw [hc] at this
      cases this
    · rcases List.mem_cons.1 h1 with h1 | h1
      · rw [h1]; exact Int.le_refl _
      · exact Int.le_of_lt (hp.2.1.1 y h1)
theorem Iy {c:af} {pl:List Int} {k:Nat} {hk:k<c.Harts.flatten.length} {s:Int} (h:yH c pl k hk=s) (hs:s≠-1):s∈WL c c.Harts.flatten[k].Addr∧g9 c.Harts.flatten pl (k:Int) s=true:=by
  unfold yH GI at h
  cases hf:(WL c c.Harts.flatten[k].Addr).reverse.find? (g9 c.Harts.flatten pl (k:Int)) with
  | none=>rw [hf] at h; exact absurd h.symm hs
  | some x =>
    rw [hf] at h
    have h:x=s:=h
    subst h
    exact ⟨List.mem_reverse.1 (List.mem_of_find?_eq_some hf),List.find?_some hf⟩
theorem MN {n:Nat} {c:af} (hr:bz n c) (k:Nat) (hk:k<c.Harts.flatten.length) (hw:kF c.Harts.flatten[k].Kind=true) (a:Int) (ha:c.Harts.flatten[k].Addr=a):(k:Int)∈WL c a:=by
  obtain ⟨i,hi,e⟩:=ua hr k hk (by unfold fy; rw [hw,Bool.or_true])
  refine List.mem_filter.2 ⟨by rw [← e]; exact List.getElem_mem hi,?_⟩
  unfold yG
  rw [aS rfl hk]
  show (kF c.Harts.flatten[k].Kind&&(c.Harts.flatten[k].Addr==a))=true
  rw [hw,ha]
  simp
theorem Ll {c:af} {a x:Int} (h:x∈WL c a):∃ j:Nat,∃ hj:j<c.Harts.flatten.length,x=(j:Int)∧kF c.Harts.flatten[j].Kind=true∧c.Harts.flatten[j].Addr=a:=by
  have h2:=(List.mem_filter.1 h).2
  unfold yG at h2
  cases hg:ak c.Harts.flatten x with
  | none=>rw [hg] at h2; cases h2
  | some e =>
    rw [hg] at h2
    unfold ak at hg
    split at hg
    · rename_i h0
      obtain ⟨hj,he⟩:=List.getElem?_eq_some_iff.1 hg
      rw [Bool.and_eq_true] at h2
      exact ⟨x.toNat,hj,by omega,by rw [he]; exact h2.1,by rw [he]; simpa using h2.2⟩
    · cases hg
theorem AF {c:af} {w:List (Int×List Int)} {pl:List Int} (ct:gE c w pl) (k j:Nat) (hk:k<c.Harts.flatten.length) (hj:j<c.Harts.flatten.length):g9 c.Harts.flatten pl (k:Int) (j:Int)=true↔j≠k∧(l9 pl (j:Int)<l9 pl (k:Int)∨(c.Harts.flatten[j].Hart=c.Harts.flatten[k].Hart∧c.Harts.flatten[j].At<c.Harts.flatten[k].At)):=by
  have h1:j<pl.length:=by rw [ct.len]; exact hj
  have h2:k<pl.length:=by rw [ct.len]; exact hk
  unfold g9
  rw [aS rfl hj,aS rfl h1,aS rfl h2,aS rfl hk,l8 h1,l8 h2]
  simp only [Bool.and_eq_true,Bool.or_eq_true,decide_eq_true_eq,bne_iff_ne,beq_iff_eq,ne_eq]
  constructor
  · rintro ⟨h3,h4⟩
    exact ⟨fun e=>h3 (by rw [e]),h4⟩
  · rintro ⟨h3,h4⟩
    exact ⟨fun e=>h3 (by omega),h4⟩
/-! ### Two rules -/
/-! ### Coherence -/
section
variable {n:Nat} {c:af} {w:List (Int×List Int)} {pl:List Int}
end

end Go.Proofs.YtomahedcdcnnhaaGreatDoor
