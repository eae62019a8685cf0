/- A register is live where a way leads to its use: the law, on lists and numbers -/
import Derived.Test.YteafbimadlcljaaDoorA8
namespace Go.Proofs.YteafbimadlcljaaDoor
open Go A

theorem Dv (n:Nat) (l:List Int) (r:Int) (hl:l.length≤1000) (hn:2000≤n):T (ku n l r) (fun b=>b=decide (r∈l)):=by
  unfold ku
  refine T.bind (P:=Rd (fun _:Unit=>r ∉ l) (fun _:Unit=>r∈l)) ?_ (fun t ht=>by
    cases t with
    | inl _=>exact T.ret (by have ht:r ∉ l:=ht; simp [ht])
    | inr _=>exact T.ret (by have ht:r∈l:=ht; simp [ht]))
  refine T.loop l.length (fun i s=>s=(i:Int)∧r ∉ l.take i) _ (fun i s hi hs=>?_) ⟨rfl,by simp⟩ (by omega)
  obtain ⟨rfl,hs⟩:=hs
  unfold lf
  refine T.ite (fun h=>?_) (fun h=>?_)
  · rw [decide_eq_true_eq] at h
    have hi':i<l.length:=by omega
    refine T.get i rfl hi' (T.ite (fun h=>T.fin ?_) (fun h=>T.next ⟨hi',iD i (by omega),?_⟩))
    · have:l[i]=r:=by simpa using h
      show r∈l
      rw [← this]
      exact List.getElem_mem hi'
    · rw [List.take_succ_eq_append_getElem hi',List.mem_append,List.mem_singleton]
      have:l[i]≠r:=by simpa using h
      rintro (h1 | h1)
      · exact hs h1
      · exact this h1.symm
  · rw [decide_eq_false_iff_not] at h
    have e:i=l.length:=by omega
    subst e
    rw [List.take_length] at hs
    exact T.fin hs
theorem yy {R r:Nat} {b:W}:(r:Int)∈jg R b↔r<R∧b.getLsbD r=true:=by
  unfold jg Ns
  rw [List.mem_map]
  constructor
  · rintro ⟨q,h1,h2⟩
    have:q=r:=by omega
    subst this
    rw [List.mem_filter,List.mem_range] at h1
    exact h1
  · intro h
    exact ⟨r,by rw [List.mem_filter,List.mem_range]; exact h,rfl⟩
theorem yz (R:Nat) (b:W):(jg R b).length≤R:=by
  unfold jg
  rw [eX]
  have:=List.length_filter_le (fun q=>b.getLsbD q) (List.range R)
  rwa [List.length_range] at this

/-! ### Ways, ct through -/
def mS (seen:List Bool):Nat:=(seen.map (fun b=>if b then 0 else 1)).sum
structure SI (c:bG) (r k0:Nat) (seen:List Bool) (ws:List Nat):Prop where
  len:seen.length=c.Steps.length
  wk:∀ j∈ws,j<c.Steps.length
  st:seen[k0]?=some true∨k0∈ws
  cl:∀ j s,c.Steps[j]?=some s→seen[j]?=some true→(r:Int) ∉ AJ s∧(((nR s).2=true∧(nR s).1=(r:Int))∨∀ i:Nat,(i:Int)∈vf c j→seen[i]?=some true∨i∈ws)
theorem SI.no {c:bG} {r k0:Nat} {seen:List Bool} (h:SI c r k0 seen []):¬ LR c r k0:=by
  have:∀ j,LR c r j→seen[j]?=some true→False:=fun j hj=>by
    induction hj with
    | here hs h1=>exact fun h2=>(h.cl _ _ hs h2).1 h1
    | next hs hw hj _ ih =>
      intro h2
      rcases (h.cl _ _ hs h2).2 with h3 | h3
      · exact hw h3
      · rcases h3 _ hj with h4 | h4
        · exact ih h4
        · cases h4
  intro h1
  rcases h.st with h2 | h2
  · exact this _ h1 h2
  · cases h2
theorem SI.step {c:bG} {r k0 k:Nat} {seen:List Bool} {init add:List Nat} {s:ab} (h:SI c r k0 seen (init++[k])) (hk:k<c.Steps.length) (hs:c.Steps[k]?=some s) (hr:(r:Int) ∉ AJ s) (hadd:∀ j∈add,j<c.Steps.length)
    (hn:((nR s).2=true∧(nR s).1=(r:Int))∨∀ i:Nat,(i:Int)∈vf c k→i∈add):SI c r k0 (seen.set k true) (init++add):=by
  have hkl:k<seen.length:=by rw [h.len]; exact hk
  have mono:∀ i,(seen[i]?=some true∨i∈init++[k])→((seen.set k true)[i]?=some true∨i∈init++add):=fun i hi=>by
    by_cases e:k=i
    · subst e
      exact .inl (by rw [List.getElem?_set_self hkl])
    · rw [List.getElem?_set_ne e]
      rcases hi with hi | hi
      · exact .inl hi
      · rcases List.mem_append.1 hi with hi | hi
        · exact .inr (List.mem_append_left _ hi)
        · exact (e (List.mem_singleton.1 hi).symm).elim
  refine ⟨by rw [List.length_set]; exact h.len,fun j hj=>?_,mono _ h.st,fun j t ht hj=>?_⟩
  · rcases List.mem_append.1 hj with hj | hj
    · exact h.wk j (List.mem_append_left _ hj)
    · exact hadd j hj
  · by_cases e:k=j
    · subst e
      rw [hs] at ht
      cases ht
      refine ⟨hr,?_⟩
      rcases hn with hn | hn
      · exact .inl hn
      · exact .inr (fun i hi=>.inr (List.mem_append_right _ (hn i hi)))
    · rw [List.getElem?_set_ne e] at hj
      obtain ⟨h1,h2⟩:=h.cl j t ht hj
      refine ⟨h1,?_⟩
      rcases h2 with h2 | h2
      · exact .inl h2
      · exact .inr (fun i hi=>mono i (h2 i hi))
/-- One that was seen. -/
theorem SI.skip {c:bG} {r k0 k:Nat} {seen:List Bool} {init:List Nat} (h:SI c r k0 seen (init++[k])) (hk:seen[k]?=some true):SI c r k0 seen init:=by
  have mono:∀ i,(seen[i]?=some true∨i∈init++[k])→(seen[i]?=some true∨i∈init):=fun i hi=>by
    rcases hi with hi | hi
    · exact .inl hi
    · rcases List.mem_append.1 hi with hi | hi
      · exact .inr hi
      · rw [List.mem_singleton.1 hi]
        exact .inl hk
  refine ⟨h.len,fun j hj=>h.wk j (List.mem_append_left _ hj),mono _ h.st,fun j t ht hj=>?_⟩
  obtain ⟨h1,h2⟩:=h.cl j t ht hj
  refine ⟨h1,?_⟩
  rcases h2 with h2 | h2
  · exact .inl h2
  · exact .inr (fun i hi=>mono i (h2 i hi))
theorem DW {N:Nat} {l:List Int} (h:∀ r∈l,0≤r∧r<(N:Int)):l=Ns (l.map Int.toNat)∧∀ j∈l.map Int.toNat,j<N:=by
  constructor
  · unfold Ns
    rw [List.map_map]
    conv=>lhs; rw [← List.map_id l]
    apply List.map_congr_left
    intro x hx
    have:=h x hx
    show x=((x.toNat:Nat):Int)
    omega
  · intro j hj
    obtain ⟨x,hx,rfl⟩:=List.mem_map.1 hj
    have:=h x hx
    omega

theorem zD {r:Nat} (n:Nat) (c:bG) (hl:c.Steps.length≤120) (hn:5000≤n) (k0:Nat) (hk0:k0<c.Steps.length):T (lg n c (k0:Int) (r:Int)) (fun b=>LR c r k0→b=true):=by
  unfold lg
  refine T.grd (by simp [Nat.blt]; omega) ?_
  refine T.bind (P:=Rd (fun _:Unit=>¬ LR c r k0) (fun _:Unit=>True)) ?_ (fun t ht=>by
    cases t with
    | inl _=>exact T.ret (fun h=>(ht h).elim)
    | inr _=>exact T.ret (fun _=>rfl))
  rw [Int.toNat_natCast]
  have hmm:mS (List.replicate c.Steps.length false)≤c.Steps.length:=by
    have:=u_ (fun b:Bool=>if b then 0 else 1) 1 (fun b=>by cases b <;> simp) (List.replicate c.Steps.length false)
    rw [List.length_replicate] at this
    unfold mS
    omega
  refine T.fall (fun m s=>∃ seen ws,s=(seen,Ns ws)∧SI c r k0 seen ws∧3 * mS seen + ws.length=m∧m≤1000) _ (fun m s hs=>?_) n (3 * mS (List.replicate c.Steps.length false) + [k0].length) _ ⟨_,[k0],rfl,⟨List.length_replicate,fun j hj=>by rw [List.mem_singleton.1 hj]; exact hk0,.inr (List.mem_singleton.2 rfl),fun j s _ hj=>?_⟩,rfl,by simp; omega⟩ (by simp; omega)
  · obtain ⟨seen,ws,rfl,hi,rfl,hm⟩:=hs
    unfold gP
    rcases snoc ws with rfl | ⟨init,k,rfl⟩
    · exact T.fin hi.no
    rw [List.length_append,List.length_singleton] at hm
    have hkN:k<c.Steps.length:=hi.wk k (List.mem_append_right _ (List.mem_singleton.2 rfl))
    have hks:k<seen.length:=by rw [hi.len]; exact hkN
    have hs:c.Steps[k]?=some c.Steps[k]:=List.getElem?_eq_getElem hkN
    rw [if_pos (by show decide (((Ns (init++[k])).length:Int)>0)=true; rw [eX,List.length_append]; simp)]
    dsimp only
    rw [va (by omega)]
    refine T.eqb vb (T.grd vc (T.get k rfl hks ?_))
    rw [rT]
    refine T.ite (fun h=>?_) (fun h=>?_)
    · exact T.next ⟨_,by rw [List.length_append,List.length_singleton]; omega,_,init,rfl,hi.skip (by rw [List.getElem?_eq_getElem hks,h]),rfl,by omega⟩
    · have hsum:=qi (fun b:Bool=>if b then 0 else 1) seen k hks true
      rw [h] at hsum
      have hsum:mS (seen.set k true) + 1=mS seen + 0:=hsum
      refine T.get k rfl hkN (T.eqb (o4 n _) ((Dv n _ _ (by have:=(wG c.Steps[k]).1; omega) (by omega)).bind (fun y hy=>T.ite (fun _=>T.fin trivial) (fun h2=>T.eqb (qh n _) ?_))))
      have hnr:(r:Int) ∉ AJ c.Steps[k]:=by
        rw [hy] at h2
        simpa using h2
      have hnx:=wJ c k hkN (by omega)
      obtain ⟨hx1,hx2⟩:=DW hnx.2
      have push:(Nat.ble (((Ns init).length + (vf c k).length) * 8) 140737488355328)=true:=wL (by rw [eX]; have:=hnx.1; omega)
      have go:T (some (.inl (seen.set ((k:Int)).toNat true,Ns init++vf c k)):Option (((List Bool)×(List Int))⊕(Unit⊕Unit))) (Rd (fun s'=>∃ m',m'<3 * mS seen + (init++[k]).length∧∃ seen ws,s'=(seen,Ns ws)∧SI c r k0 seen ws∧3 * mS seen + ws.length=m'∧m'≤1000) (Rd (fun _:Unit=>¬ LR c r k0) (fun _:Unit=>True))):=by
        have hlen:((vf c k).map Int.toNat).length≤2:=by rw [List.length_map]; exact hnx.1
        refine T.next ⟨3 * mS (seen.set k true) + (init++(vf c k).map Int.toNat).length,by rw [List.length_append,List.length_append,List.length_singleton]; omega,_,_,?_,hi.step hkN hs hnr hx2 (.inr (fun i hi=>?_)),rfl,by rw [List.length_append]; omega⟩
        · rw [Int.toNat_natCast]
          conv=>lhs; rw [hx1]
          unfold Ns
          rw [List.map_append]
        · exact List.mem_map.2 ⟨(i:Int),hi,Int.toNat_natCast i⟩
      refine T.ite (fun _=>T.eqb (pK n c k hkN (by omega)) (T.grd push go)) (fun h3=>T.ite (fun _=>T.eqb (pK n c k hkN (by omega)) (T.grd push go)) (fun h4=>?_))
      refine T.next ⟨3 * mS (seen.set k true) + init.length,by rw [List.length_append,List.length_singleton]; omega,_,init,by rw [Int.toNat_natCast],?_,rfl,by omega⟩
      have:=hi.step (add:=[]) hkN hs hnr (fun j hj=>by cases hj) (.inl ⟨by simpa using h3,by simpa using h4⟩)
      rwa [List.append_nil] at this
  · rw [List.getElem?_replicate] at hj
    split at hj <;> cases hj

end Go.Proofs.YteafbimadlcljaaDoor
