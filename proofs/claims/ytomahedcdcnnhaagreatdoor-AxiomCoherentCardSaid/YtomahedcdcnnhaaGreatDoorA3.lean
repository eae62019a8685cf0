/- Places in the order; the last one that a number may read from; two rules of preserved order. Plain facts; nothing is claimed of the program here. -/
import Derived.Test.YtomahedcdcnnhaaGreatDoorA2
namespace Go.Proofs.YtomahedcdcnnhaaGreatDoor
open Go A

theorem J_ {n:Nat} {c:af} (h:bU n c) (i:Nat) (hi:i<c.Harts.flatten.length):∃ q:Nat,∃ hq:q<c.Harts.length,c.Harts.flatten[i].Hart=(q:Int)∧(i:Int) - c.Harts.flatten[i].At=((FL c.Harts q).length:Int)∧i<(FL c.Harts q).length + c.Harts[q].length:=by
  obtain ⟨q,hq,k,hk,e1,e2⟩:=si c.Harts i hi
  have hr:=h.rows q hq k hk
  refine ⟨q,hq,by rw [e2]; exact hr.2.1,?_,by omega⟩
  rw [e2,hr.2.2.1]
  omega
theorem Fz {n:Nat} {c:af} (h:bU n c) (i j:Nat) (hi:i<c.Harts.flatten.length) (hj:j<c.Harts.flatten.length) (e:c.Harts.flatten[i].Hart=c.Harts.flatten[j].Hart):(i:Int) - c.Harts.flatten[i].At=(j:Int) - c.Harts.flatten[j].At:=by
  obtain ⟨q,_,h1,h2,_⟩:=J_ h i hi
  obtain ⟨r,_,h3,h4,_⟩:=J_ h j hj
  have:q=r:=by omega
  subst this
  omega
/-- A list without repeats that lies in one that is no longer has all of it. -/
theorem cover:∀ (xs ys:List Nat),xs.Nodup→(∀ x∈xs,x∈ys)→ys.length≤xs.length→∀ y∈ys,y∈xs
  | [],ys,_,_,h,y,hy=>by
    have:ys=[]:=List.eq_nil_of_length_eq_zero (by simpa using h)
    rw [this] at hy
    exact hy
  | x::t,ys,hn,hs,hl,y,hy=>by
    obtain ⟨hx,hn⟩:=List.nodup_cons.1 hn
    have hxy:=hs x List.mem_cons_self
    by_cases e:y=x
    · rw [e]; exact List.mem_cons_self
    · refine List.mem_cons_of_mem _ (cover t (ys.erase x) hn (fun z hz=>?_) ?_ y ((List.mem_erase_of_ne e).2 hy))
      · exact (List.mem_erase_of_ne (fun e2=>hx (by rw [← e2]; exact hz))).2 (hs z (List.mem_cons_of_mem _ hz))
      · rw [List.length_erase_of_mem hxy]
        simp only [List.length_cons] at hl
        omega


theorem HW {n:Nat} {c:af} (ok:bU n c) (k:Nat) (hk:k<c.Harts.flatten.length) (hm:fD c.Harts.flatten[k].Kind=true):∃ a:Nat,∃ ha:a<c.Order.length,c.Order[a]=(k:Int):=by
  have hnd:(c.Order.map Int.toNat).Nodup:=by
    rw [List.nodup_iff_pairwise_ne,List.pairwise_iff_getElem]
    intro a b ha hb hab e
    rw [List.length_map] at ha hb
    rw [List.getElem_map,List.getElem_map] at e
    obtain ⟨j1,_,e1,_⟩:=ok.ord a ha
    obtain ⟨j2,_,e2,_⟩:=ok.ord b hb
    refine ok.dist a b ha hb hab ?_
    rw [e1,e2] at e ⊢
    have e:j1=j2:=e
    rw [e]
  have hsub:∀ x∈c.Order.map Int.toNat,x∈(List.range c.Harts.flatten.length).filter (fun j=>(c.Harts.flatten[j]?.map fun e=>fD e.Kind).getD false):=by
    intro x hx
    obtain ⟨y,hy,rfl⟩:=List.mem_map.1 hx
    obtain ⟨a,ha,rfl⟩:=List.getElem_of_mem hy
    obtain ⟨j,hj,e1,e2⟩:=ok.ord a ha
    rw [e1,List.mem_filter]
    refine ⟨List.mem_range.2 hj,?_⟩
    simp only [Int.toNat_natCast]
    rw [List.getElem?_eq_getElem hj]
    exact e2
  have hcnt:((List.range c.Harts.flatten.length).filter (fun j=>(c.Harts.flatten[j]?.map fun e=>fD e.Kind).getD false)).length=cnt c.Harts.flatten c.Harts.flatten.length:=by
    have gen:∀ m,m≤c.Harts.flatten.length→((List.range m).filter (fun j=>(c.Harts.flatten[j]?.map fun e=>fD e.Kind).getD false)).length=cnt c.Harts.flatten m:=by
      intro m
      induction m with
      | zero=>intro _; rfl
      | succ m ih =>
        intro hm
        rw [List.range_succ,List.filter_append,List.length_append,ih (by omega),o_ (by omega)]
        congr 1
        rw [List.filter_cons,List.getElem?_eq_getElem (by omega)]
        simp only [Option.map_some,Option.getD_some,List.filter_nil]
        by_cases hb:fD (c.Harts.flatten[m]'(by omega)).Kind=true
        · rw [if_pos hb,if_pos hb]; rfl
        · rw [if_neg hb,if_neg hb]; rfl
    exact gen _ (Nat.le_refl _)
  have hk2:k∈c.Order.map Int.toNat:=by
    refine cover _ _ hnd hsub (by rw [hcnt,List.length_map,ok.count]; exact Nat.le_refl _) k (List.mem_filter.2 ⟨List.mem_range.2 hk,?_⟩)
    rw [List.getElem?_eq_getElem hk]
    exact hm
  obtain ⟨y,hy,e⟩:=List.mem_map.1 hk2
  obtain ⟨a,ha,rfl⟩:=List.getElem_of_mem hy
  obtain ⟨j,hj,e1,_⟩:=ok.ord a ha
  exact ⟨a,ha,by rw [e1] at e ⊢; simp at e; omega⟩

/-! ### Places -/
def pf (pl:List Int) (x:Int):Int:=(aw pl x).getD (-1)
theorem nq {pl:List Int} {j:Nat} (h:j<pl.length):pf pl (j:Int)=pl[j]:=by
  unfold pf
  rw [cf rfl h]
  rfl
theorem HX (pl:List Int):pf pl (-1)=-1:=rfl
theorem HY {n:Nat} {c:af} (hr:bU n c) {w:List (Int×List Int)} {pl:List Int} (ct:gW c w pl) (i:Nat) (hi:i<c.Order.length):pf pl c.Order[i]=(i:Int):=by
  obtain ⟨j,hj,e,_⟩:=hr.ord i hi
  have hj2:j<pl.length:=by rw [ct.len]; exact hj
  rw [e,nq hj2]
  rcases ct.plc j hj2 with ⟨_,hno⟩ | ⟨a,ha,_,h2,h3⟩
  · exact absurd e (hno i hi hi)
  · rw [h3]
    rcases Nat.lt_trichotomy a i with h | h | h
    · exact absurd (h2.trans e.symm) (hr.dist a i ha hi h)
    · rw [h]
    · exact absurd (e.trans h2.symm) (hr.dist i a hi ha h)
theorem Do {n:Nat} {c:af} (_hr:bU n c) {w:List (Int×List Int)} {pl:List Int} (ct:gW c w pl) (x:Int):-1≤pf pl x:=by
  unfold pf
  cases h:aw pl x with
  | none=>exact Int.le_refl _
  | some y =>
    show -1≤y
    obtain ⟨h0,h1⟩:0≤x∧pl[x.toNat]?=some y:=by
      unfold aw at h
      split at h
      · exact ⟨by assumption,h⟩
      · cases h
    obtain ⟨hl,e⟩:=List.getElem?_eq_some_iff.1 h1
    rcases ct.plc x.toNat hl with ⟨e2,_⟩ | ⟨a,_,_,_,e2⟩
    · omega
    · omega
theorem Dp {n:Nat} {c:af} (hr:bU n c) {w:List (Int×List Int)} {pl:List Int} (ct:gW c w pl):c.Order.Pairwise (fun x y=>pf pl x<pf pl y):=by
  rw [List.pairwise_iff_getElem]
  intro i j hi hj hij
  rw [HY hr ct i hi,HY hr ct j hj]
  omega
theorem JC {n:Nat} {c:af} (hr:bU n c) {w:List (Int×List Int)} {pl:List Int} (ct:gW c w pl) (a:Int):(WL c a).Pairwise (fun x y=>pf pl x<pf pl y):=(Dp hr ct).sublist List.filter_sublist
/-- The one that a number should read from is the last of those it may read from. -/
theorem Dq {n:Nat} {c:af} (hr:bU n c) {w:List (Int×List Int)} {pl:List Int} (ct:gW c w pl) (k:Nat) (hk:k<c.Harts.flatten.length) (y:Int) (hy:y∈WL c c.Harts.flatten[k].Addr) (hc:gX c.Harts.flatten pl (k:Int) y=true):pf pl y≤pf pl (Dn c pl k hk):=by
  unfold Dn Fy
  cases h:(WL c c.Harts.flatten[k].Addr).reverse.find? (gX c.Harts.flatten pl (k:Int)) with
  | none=>exact absurd hc (by rw [List.find?_eq_none] at h; exact h y (List.mem_reverse.2 hy))
  | some x =>
    show pf pl y≤pf pl x
    obtain ⟨_,as,bs,e,hno⟩:=List.find?_eq_some_iff_append.1 h
    have hy2:y∈as++x::bs:=by rw [← e]; exact List.mem_reverse.2 hy
    have hp:=JC hr ct c.Harts.flatten[k].Addr
    rw [← List.pairwise_reverse,e] at hp
    rw [List.pairwise_append,List.pairwise_cons] at hp
    rcases List.mem_append.1 hy2 with h1 | h1
    · have:=hno y h1
      rw [hc] at this
      cases this
    · rcases List.mem_cons.1 h1 with h1 | h1
      · rw [h1]; exact Int.le_refl _
      · exact Int.le_of_lt (hp.2.1.1 y h1)
theorem Mk {c:af} {pl:List Int} {k:Nat} {hk:k<c.Harts.flatten.length} {s:Int} (h:Dn c pl k hk=s) (hs:s≠-1):s∈WL c c.Harts.flatten[k].Addr∧gX c.Harts.flatten pl (k:Int) s=true:=by
  unfold Dn Fy at h
  cases hf:(WL c c.Harts.flatten[k].Addr).reverse.find? (gX c.Harts.flatten pl (k:Int)) with
  | none=>rw [hf] at h; exact absurd h.symm hs
  | some x =>
    rw [hf] at h
    have h:x=s:=h
    subst h
    exact ⟨List.mem_reverse.1 (List.mem_of_find?_eq_some hf),List.find?_some hf⟩
theorem HZ {n:Nat} {c:af} (hr:bU n c) (k:Nat) (hk:k<c.Harts.flatten.length) (hw:pG c.Harts.flatten[k].Kind=true) (a:Int) (ha:c.Harts.flatten[k].Addr=a):(k:Int)∈WL c a:=by
  obtain ⟨i,hi,e⟩:=HW hr k hk (by unfold fD; rw [hw,Bool.or_true])
  refine List.mem_filter.2 ⟨by rw [← e]; exact List.getElem_mem hi,?_⟩
  unfold FB
  rw [cf rfl hk]
  show (pG c.Harts.flatten[k].Kind&&(c.Harts.flatten[k].Addr==a))=true
  rw [hw,ha]
  simp
theorem Ml {c:af} {a x:Int} (h:x∈WL c a):∃ j:Nat,∃ hj:j<c.Harts.flatten.length,x=(j:Int)∧pG c.Harts.flatten[j].Kind=true∧c.Harts.flatten[j].Addr=a:=by
  have h2:=(List.mem_filter.1 h).2
  unfold FB at h2
  cases hg:aw c.Harts.flatten x with
  | none=>rw [hg] at h2; cases h2
  | some e =>
    rw [hg] at h2
    unfold aw at hg
    split at hg
    · rename_i h0
      obtain ⟨hj,he⟩:=List.getElem?_eq_some_iff.1 hg
      rw [Bool.and_eq_true] at h2
      exact ⟨x.toNat,hj,by omega,by rw [he]; exact h2.1,by rw [he]; simpa using h2.2⟩
    · cases hg
theorem mN {c:af} {w:List (Int×List Int)} {pl:List Int} (ct:gW c w pl) (k j:Nat) (hk:k<c.Harts.flatten.length) (hj:j<c.Harts.flatten.length):gX c.Harts.flatten pl (k:Int) (j:Int)=true↔j≠k∧(pf pl (j:Int)<pf pl (k:Int)∨(c.Harts.flatten[j].Hart=c.Harts.flatten[k].Hart∧c.Harts.flatten[j].At<c.Harts.flatten[k].At)):=by
  have h1:j<pl.length:=by rw [ct.len]; exact hj
  have h2:k<pl.length:=by rw [ct.len]; exact hk
  unfold gX
  rw [cf rfl hj,cf rfl h1,cf rfl h2,cf rfl hk,nq h1,nq h2]
  simp only [Bool.and_eq_true,Bool.or_eq_true,decide_eq_true_eq,bne_iff_ne,beq_iff_eq,ne_eq]
  constructor
  · rintro ⟨h3,h4⟩
    exact ⟨fun e=>h3 (by rw [e]),h4⟩
  · rintro ⟨h3,h4⟩
    exact ⟨fun e=>h3 (by omega),h4⟩
theorem Ka {n:Nat} {c:af} (hr:bU n c) (a b:Nat) (hab:a<b) (hb:b<c.Harts.flatten.length) (e:(c.Harts.flatten[a]'(by omega)).Hart=c.Harts.flatten[b].Hart):(c.Harts.flatten[a]'(by omega)).At<c.Harts.flatten[b].At:=by
  have:=Fz hr a b (by omega) hb e
  omega

/-! ### Two rules -/
theorem Kb {n:Nat} {c:af} {v:ai} (R:B5 n c v) (a b:Nat) (hab:a<b) (hb:b<c.Harts.flatten.length) (hh:(c.Harts.flatten[a]'(by omega)).Hart=c.Harts.flatten[b].Hart) (ma:fD (c.Harts.flatten[a]'(by omega)).Kind=true) (mb:fD c.Harts.flatten[b].Kind=true)
    (i:Nat) (hi:i<13) (h:H n v (a:Int) (b:Int) (c.Harts.flatten[a]'(by omega)) c.Harts.flatten[b] i=true):0<rv n v a b:=by
  have ha:a<c.Harts.flatten.length:=by omega
  have hah:hU c.Harts.flatten a b=true:=by
    rw [mM ha hb]
    simp only [Bool.and_eq_true,decide_eq_true_eq]
    exact ⟨hab,hh,ma,mb⟩
  have hf:=R.first a b ha hb hah
  have hHH:HH n c v a b i=true:=by
    unfold HH
    rw [List.getElem?_eq_getElem ha,List.getElem?_eq_getElem hb]
    exact h
  rcases hf with ⟨_,hno⟩ | ⟨j,_,e,_⟩
  · rw [hno i hi] at hHH
    cases hHH
  · omega
theorem Pb (n:Nat) (v:ai) (a b:Int) (x y:Event) (hw:pG y.Kind=true) (ha:x.Addr=y.Addr):H n v a b x y 0=true:=by
  have:T (fg n v a b x y) (fun r=>r=true):=by
    unfold fg
    refine T.eqb (gl _ _) ?_
    exact T.ite (fun d=>T.ret (by rw [ha]; simp)) (fun d=>by rw [hw] at d; cases d)
  obtain ⟨r,h1,h2⟩:=this
  unfold H R
  rw [h1,h2]
  rfl
theorem Pd (n:Nat) (c:af) (v:ai) (hv:uR c v) (hc:dA c) (hr:bU n c) (hn:200≤n) (a b:Nat) (hab:a<b) (hb:b<c.Harts.flatten.length) (ra:q0 (c.Harts.flatten[a]'(by omega)).Kind=true) (rb:q0 c.Harts.flatten[b].Kind=true)
    (hA:(c.Harts.flatten[a]'(by omega)).Addr=c.Harts.flatten[b].Addr) (hF:c.From[a]'(by rw [hr.fromLen]; omega)≠c.From[b]'(by rw [hr.fromLen]; omega))
    (hno:¬ ∃ m:Nat,∃ hm:m<c.Harts.flatten.length,a<m∧m<b∧pG c.Harts.flatten[m].Kind=true∧c.Harts.flatten[m].Addr=(c.Harts.flatten[a]'(by omega)).Addr):H n v (a:Int) (b:Int) (c.Harts.flatten[a]'(by omega)) c.Harts.flatten[b] 1=true:=by
  have hf:=hc.all
  have hall:=hv.alls
  have hcn:=hv.cand
  have hfl:=hr.fromLen
  have ga:aw c.From (a:Int)=some (c.From[a]'(by omega)):=cf rfl (by omega)
  have gb:aw c.From (b:Int)=some (c.From[b]'(by omega)):=cf rfl (by omega)
  generalize hx:c.Harts.flatten[a]'(by omega)=x at *
  generalize hy:c.Harts.flatten[b]=y at *
  have:T (fh n v a b x y) (fun r=>r=true):=by
    unfold fh
    refine T.ite (fun d=>by rw [hA] at d; simp at d) (fun d1=>?_)
    refine T.eqb (gZ _ _) ?_
    refine T.ite (fun d=>by rw [ra] at d; cases d) (fun d2=>?_)
    refine T.eqb (gZ _ _) ?_
    refine T.ite (fun d=>by rw [rb] at d; cases d) (fun d3=>?_)
    rw [hcn,tB]
    refine T.eqb ga ?_
    rw [tB]
    refine T.eqb gb ?_
    refine T.ite (fun d=>absurd (eq_of_beq d) hF) (fun d4=>?_)
    rw [aY _ (by omega)]
    refine T.grd (by rw [hall]; simp [-List.length_flatten]; omega) ?_
    refine T.bind (P:=fun (r:Bool)=>r=false) ?_ (fun r hr=>T.ret (by rw [hr]; rfl))
    unfold bf bk
    rw [hall]
    simp only [Int.toNat_natCast]
    have hlen:((c.Harts.flatten.drop (a + 1)).take (b - (a + 1))).length=b - (a + 1):=by
      rw [List.length_take,List.length_drop]
      omega
    have hat:∀ (i:Nat) (hi:i<((c.Harts.flatten.drop (a + 1)).take (b - (a + 1))).length),∀ h2:a + 1 + i<c.Harts.flatten.length,((c.Harts.flatten.drop (a + 1)).take (b - (a + 1)))[i]=c.Harts.flatten[a + 1 + i]:=fun i hi h2=>by
      rw [List.getElem_take,List.getElem_drop]
    generalize (c.Harts.flatten.drop (a + 1)).take (b - (a + 1))=l at hlen hat
    refine T.bind (P:=fun r=>r=-1) ?_ (fun r hr=>T.ret (by rw [hr]; rfl))
    refine T.bind (P:=fun (r:Unit⊕Int)=>r=.inl ()) ?_ (fun r hr=>by rw [hr]; exact T.ret rfl)
    refine T.loop l.length (fun i s=>s=(i:Int)) _ ?_ rfl (by omega)
    rintro i s hi rfl
    unfold bd
    refine T.ite (fun cd=>?_) (fun cd=>T.fin rfl)
    have hil:=bO cd
    refine T.get i rfl hil ?_
    refine T.bind (P:=fun r=>r=true↔(pG l[i].Kind=true∧l[i].Addr=x.Addr)) ?_ (fun r hr=>T.ite (fun d=>?_) (fun d=>T.ret ⟨hil,aY _ (by omega)⟩))
    · unfold gM
      refine T.eqb (gl _ _) ?_
      exact T.ite (fun d=>T.ret ⟨fun h=>⟨d,eq_of_beq h⟩,fun h=>by rw [h.2]; simp⟩) (fun d=>T.ret ⟨fun h=>(by cases h),fun h=>(by rw [h.1] at d; cases d)⟩)
    · exfalso
      have h1:=hr.1 d
      rw [hat i hil (by omega)] at h1
      exact hno ⟨a + 1 + i,by omega,by omega,by omega,h1.1,h1.2.trans (congrArg Event.Addr hx.symm)⟩
  obtain ⟨r,h1,h2⟩:=this
  unfold H R
  rw [h1,h2]
  rfl

/-! ### Coherence -/
section
variable {n:Nat} {c:af} {w:List (Int×List Int)} {pl:List Int}
def H0 (n:Nat) (c:af) (hr:bU n c) (pl:List Int):Prop:=∀ (k:Nat) (hk:k<c.Harts.flatten.length),q0 c.Harts.flatten[k].Kind=true→c.From[k]'(by rw [hr.fromLen]; exact hk)=Dn c pl k hk
theorem Pe (hr:bU n c) (ct:gW c w pl) (hv:H0 n c hr pl) (a b:Nat) (hab:a<b) (hb:b<c.Harts.flatten.length) (hh:(c.Harts.flatten[a]'(by omega)).Hart=c.Harts.flatten[b].Hart) (hA:(c.Harts.flatten[a]'(by omega)).Addr=c.Harts.flatten[b].Addr)
    (wa:pG (c.Harts.flatten[a]'(by omega)).Kind=true) (rb:q0 c.Harts.flatten[b].Kind=true):pf pl (a:Int)≤pf pl (c.From[b]'(by rw [hr.fromLen]; exact hb)):=by
  rw [hv b hb rb]
  refine Dq hr ct b hb (a:Int) (HZ hr a (by omega) wa _ hA) ?_
  rw [mN ct b a hb (by omega)]
  exact ⟨by omega,.inr ⟨hh,Ka hr a b hab hb hh⟩⟩
theorem Pf (hc:dA c) (hr:bU n c) (hn:200≤n) (ct:gW c w pl) (ho:JA n c pl) (hv:H0 n c hr pl) (a b:Nat) (hab:a<b) (hb:b<c.Harts.flatten.length) (hh:(c.Harts.flatten[a]'(by omega)).Hart=c.Harts.flatten[b].Hart) (hA:(c.Harts.flatten[a]'(by omega)).Addr=c.Harts.flatten[b].Addr)
    (ra:q0 (c.Harts.flatten[a]'(by omega)).Kind=true) (rb:q0 c.Harts.flatten[b].Kind=true):pf pl (c.From[a]'(by rw [hr.fromLen]; omega))≤pf pl (c.From[b]'(by rw [hr.fromLen]; exact hb)):=by
  have ha:a<c.Harts.flatten.length:=by omega
  obtain ⟨v,hvw,_,R,hord⟩:=ho
  by_cases hm1:c.From[a]'(by rw [hr.fromLen]; omega)=-1
  · rw [hm1,HX]
    exact Do hr ct _
  · have hs:=hv a ha ra
    obtain ⟨h1,h2⟩:=Mk (c:=c) (pl:=pl) (k:=a) (hk:=ha) rfl (by rw [← hs]; exact hm1)
    rw [← hs] at h1 h2
    obtain ⟨s,hsN,es,ws,as⟩:=Ml h1
    rw [es] at h1 h2 ⊢
    have h2:=(mN ct a s ha hsN).1 h2
    have big:gX c.Harts.flatten pl (b:Int) (s:Int)=true→pf pl (s:Int)≤pf pl (c.From[b]'(by rw [hr.fromLen]; exact hb)):=fun h=>by
      rw [hv b hb rb]
      exact Dq hr ct b hb (s:Int) (by rw [← hA]; exact h1) h
    have pla:∀ (j:Nat) (hj:j<c.Harts.flatten.length),pf pl (j:Int)=pl[j]'(by rw [ct.len]; exact hj):=fun j hj=>nq (by rw [ct.len]; exact hj)
    rcases h2.2 with h3 | ⟨h3,h4⟩
    · by_cases hF:c.From[a]'(by rw [hr.fromLen]; omega)=c.From[b]'(by rw [hr.fromLen]; omega)
      · rw [← hF,es]
        exact Int.le_refl _
      · by_cases hm:∃ m:Nat,∃ hm:m<c.Harts.flatten.length,a<m∧m<b∧pG c.Harts.flatten[m].Kind=true∧c.Harts.flatten[m].Addr=c.Harts.flatten[a].Addr
        · obtain ⟨m,hmN,ham,hmb,wm,am⟩:=hm
          have hhm:c.Harts.flatten[m].Hart=c.Harts.flatten[a].Hart:=sj hr a m b (by omega) (by omega) hb hh
          have g1:=Kb R a m ham hmN hhm.symm (by unfold fD; rw [ra]; rfl) (by unfold fD; rw [wm,Bool.or_true]) 0 (by omega) (Pb n v _ _ _ _ wm am.symm)
          have g2:=hord a m (by rw [ct.len]; exact ha) (by rw [ct.len]; exact hmN) g1
          rw [← pla a ha,← pla m hmN] at g2
          have g3:=Pe hr ct hv m b hmb hb (hhm.trans hh) (am.trans hA) wm rb
          omega
        · have g1:=Kb R a b hab hb hh (by unfold fD; rw [ra]; rfl) (by unfold fD; rw [rb]; rfl) 1 (by omega) (Pd n c v hvw hc hr hn a b hab hb ra rb hA hF hm)
          have g2:=hord a b (by rw [ct.len]; exact ha) (by rw [ct.len]; exact hb) g1
          rw [← pla a ha,← pla b hb] at g2
          refine big ((mN ct b s hb hsN).2 ⟨fun e=>?_,.inl (by omega)⟩)
          subst e
          omega
    · have h5:=Ka hr a b hab hb hh
      refine big ((mN ct b s hb hsN).2 ⟨fun e=>?_,.inr ⟨h3.trans hh,by omega⟩⟩)
      subst e
      omega
/-- Nobody stores between an atomic operation and what it reads from. -/
theorem QJ (hr:bU n c) (ct:gW c w pl) (hv:H0 n c hr pl) (k:Nat) (hk:k<c.Harts.flatten.length) (rk:q0 c.Harts.flatten[k].Kind=true) (j:Nat) (hj:j<c.Harts.flatten.length) (wj:pG c.Harts.flatten[j].Kind=true) (aj:c.Harts.flatten[j].Addr=c.Harts.flatten[k].Addr) :
    ¬ (pf pl (c.From[k]'(by rw [hr.fromLen]; exact hk))<pf pl (j:Int)∧pf pl (j:Int)<pf pl (k:Int)):=by
  rintro ⟨h1,h2⟩
  rw [hv k hk rk] at h1
  have:=Dq hr ct k hk (j:Int) (HZ hr j hj wj _ aj) ((mN ct k j hk hj).2 ⟨fun e=>by subst e; omega,.inl h2⟩)
  omega
end

end Go.Proofs.YtomahedcdcnnhaaGreatDoor
