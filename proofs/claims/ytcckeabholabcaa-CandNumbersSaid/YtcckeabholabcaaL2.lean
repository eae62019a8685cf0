/- What a candidate that may be is; all of it; places; numbers. Plain lists, no program in sight. -/
import Derived.Test.YtcckeabholabcaaL1
namespace Go.Proofs.Ytcckeabholabcaa
open Go A

theorem cells_ (n:Nat) (l:List Cell) (hl:l.length≤100) (hn:200≤n):T (cand_cells n l) (fun b=>b=true→cellsP l):=by
  unfold cand_cells
  refine T.bind (P:=fun (r:Unit⊕Unit)=>match r with | .inl _=>cellsP l | .inr _=>True) ?_ (fun r hr=>by
    cases r with
    | inl _=>exact T.ret (fun _=>hr)
    | inr _=>exact T.ret (fun h=>by simp at h))
  refine T.loop l.length (fun i s=>s=(i:Int)∧∀ (k:Nat) (hk:k<l.length),k<i→∀ h0:0<k,l[k - 1].Addr<l[k].Addr) _ ?_ ⟨rfl,fun k _ h=>by omega⟩ (by omega)
  rintro i s hi ⟨rfl,hq⟩
  unfold cand_cells_L1
  refine T.ite (fun cd=>?_) (fun cd=>T.fin (fun k hk=>hq k hk (by have:=ge_of cd; omega)))
  have hil:=lt_of cd
  refine T.get i rfl hil ?_
  refine T.ite (fun _=>T.ret trivial) (fun _=>?_)
  refine T.ite (fun c2=>?_) (fun c2=>?_)
  · have c2:0<i:=by have:=of_decide_eq_true c2; omega
    rw [subN1 _ (by omega) (by omega)]
    refine T.get (i - 1) rfl (by omega) ?_
    refine T.ite (fun _=>T.ret trivial) (fun c3=>?_)
    refine T.ret ⟨hil,addN1 _ (by omega),fun k hk hki h0=>?_⟩
    by_cases e:k=i
    · subst e
      have c3:=of_decide_eq_false c3
      omega
    · exact hq k hk (by omega) h0
  · have c2:¬ 0<i:=by have:=of_decide_eq_false c2; omega
    exact T.ret ⟨hil,addN1 _ (by omega),fun k hk hki h0=>by omega⟩

/-- May an event read from a number: there is an answer. -/
theorem from_ (n:Nat) (c:Cand) (all:List Event) (k:Nat) (hcells:cellsP c.First) (hf:c.First.length≤100) (hn:200≤n) (h1:k<all.length) (h2:k<c.From.length):T (cand_from n c all (k:Int)) (fun _=>True):=by
  unfold cand_from
  refine T.get k rfl h1 ?_
  refine T.get k rfl h2 ?_
  refine T.eqb (eReads_ n _) ?_
  refine T.ite (fun _=>T.ret trivial) (fun _=>?_)
  refine T.ite (fun _=>?_) (fun _=>?_)
  · exact T.bind (found_ n _ _ hcells hf hn) (fun _ _=>T.ret trivial)
  refine T.ite (fun _=>T.ret trivial) (fun d1=>?_)
  refine T.ite (fun _=>T.ret trivial) (fun d2=>?_)
  refine T.ite (fun _=>T.ret trivial) (fun _=>?_)
  have d1:=of_decide_eq_false d1
  have d2:=of_decide_eq_false d2
  refine T.get (c.From[k]).toNat (by omega) (by omega) ?_
  refine T.eqb (eWrites_ n _) ?_
  refine T.ite (fun _=>?_) (fun _=>T.ret trivial)
  refine T.ite (fun _=>?_) (fun _=>T.ret trivial)
  exact T.ret trivial

/-- What holds of a candidate that may be. -/
structure OK (n:Nat) (c:Cand):Prop where
  h1:1≤c.Harts.length
  h8:c.Harts.length≤8
  cellsB:cand_cells n c.First=some true
  cells:cellsP c.First
  rows:∃ w,iter (fun s=>cand_Check_L1 n c s) n (0,0)=some (.inl w)∧w=(c.Harts.flatten.length:Int)
  fromLen:c.From.length=c.Harts.flatten.length
  froms:∀ k:Nat,k<c.Harts.flatten.length→cand_from n c c.Harts.flatten (k:Int)=some true
  ordB:cand_ordered n c c.Harts.flatten=some true
  ord:∀ (i:Nat) (hi:i<c.Order.length),∃ j:Nat,∃ hj:j<c.Harts.flatten.length,c.Order[i]=(j:Int)∧memB c.Harts.flatten[j].Kind=true
  dist:∀ (i j:Nat) (hi:i<c.Order.length) (hj:j<c.Order.length),i<j→c.Order[i]≠c.Order[j]
  count:c.Order.length=cnt c.Harts.flatten c.Harts.flatten.length

theorem checkL1_ (n:Nat) (c:Cand) (hc:Light c) (hn:200≤n):T (iter (fun s=>cand_Check_L1 n c s) n (0,0)) (fun r=>match r with | .inl w=>w=(c.Harts.flatten.length:Int) | .inr _=>True):=by
  have hh:=hc.harts
  have hf:=hc.all
  refine T.loop c.Harts.length (fun i s=>s=((i:Int),((FL c.Harts i).length:Int))) _ ?_ rfl (by omega)
  rintro i s hi rfl
  unfold cand_Check_L1
  refine T.ite (fun cd=>?_) (fun cd=>T.fin (by dsimp only; rw [FL_all _ (ge_of cd)]))
  have hil:=lt_of cd
  have hr:=FL_row hil
  refine T.get i rfl hil ?_
  dsimp only
  rw [addN _ _ (by omega)]
  refine T.ite (fun _=>T.ret trivial) (fun _=>?_)
  refine T.bind (evRowF_ n (i:Int) c.Harts[i] (hc.rows _ (List.getElem_mem hil)) hn) (fun r _=>?_)
  refine T.ite (fun _=>T.ret trivial) (fun c4=>?_)
  refine T.ret ⟨hil,?_⟩
  rw [addN1 _ (by omega),FL_succ hil,List.length_append]

/-- The check, whole: it says yes just where all is as it should be. -/
theorem check_ok (n:Nat) (c:Cand) (hc:Light c) (hn:200≤n):T (cand_Check n c) (fun r=>(r=0∧OK n c)∨(r=2∧¬ OK n c)):=by
  have hh:=hc.harts
  have hf:=hc.all
  have hfi:=hc.first
  have hfr:=hc.from_
  have hor:=hc.order
  unfold cand_Check
  obtain ⟨b,hb1,hb2⟩:=cells_ n c.First (by omega) hn
  refine T.eqb hb1 ?_
  refine T.ite (fun d=>T.ret (.inr ⟨rfl,fun h=>by have:=h.cellsB; rw [hb1] at this; cases this; simp at d⟩)) (fun c1=>?_)
  have cb:=not_of c1
  subst cb
  have hcells:=hb2 rfl
  refine T.ite (fun d=>T.ret (.inr ⟨rfl,fun h=>by have:=h.h1; have:=of_decide_eq_true d; omega⟩)) (fun c2=>?_)
  refine T.ite (fun d=>T.ret (.inr ⟨rfl,fun h=>by have:=h.h8; have:=of_decide_eq_true d; omega⟩)) (fun c3=>?_)
  have c2:=of_decide_eq_false c2
  have c3:=of_decide_eq_false c3
  obtain ⟨r,hr1,hr2⟩:=checkL1_ n c hc hn
  refine T.eqb hr1 ?_
  cases r with
  | inr _=>exact T.ret (.inr ⟨rfl,fun h=>by obtain ⟨w,hw,_⟩:=h.rows; rw [hr1] at hw; cases hw⟩)
  | inl w =>
  have hr2:w=(c.Harts.flatten.length:Int):=hr2
  dsimp only
  refine T.eqb (cflat_ n c hc hn) ?_
  refine T.ite (fun d=>T.ret (.inr ⟨rfl,fun h=>by have:=h.fromLen; rw [hr2,this] at d; simp at d⟩)) (fun c4=>?_)
  have hlen:c.From.length=c.Harts.flatten.length:=by have:=ne_of c4; omega
  refine T.bind (P:=fun (r:Unit⊕Unit)=>match r with | .inl _=>∀ k:Nat,k<c.Harts.flatten.length→cand_from n c c.Harts.flatten (k:Int)=some true | .inr _=>∃ k:Nat,k<c.Harts.flatten.length∧cand_from n c c.Harts.flatten (k:Int)=some false) ?_ ?_
  · refine T.loop c.Harts.flatten.length (fun i s=>s=(i:Int)∧∀ k:Nat,k<i→cand_from n c c.Harts.flatten (k:Int)=some true) _ ?_ ⟨rfl,fun k h=>by omega⟩ (by omega)
    rintro i s hi ⟨rfl,hq⟩
    unfold cand_Check_L2
    refine T.ite (fun cd=>?_) (fun cd=>T.fin (fun k hk=>hq k (by have:=ge_of cd; omega)))
    have hil:=lt_of cd
    obtain ⟨b,hb,_⟩:=from_ n c c.Harts.flatten i hcells (by omega) hn hil (by omega)
    refine T.eqb hb ?_
    refine T.ite (fun d=>T.ret ⟨i,hil,by rw [hb]; cases b <;> simp_all⟩) (fun c5=>?_)
    rw [not_of c5] at hb
    refine T.ret ⟨hil,addN1 _ (by omega),fun k hk=>?_⟩
    by_cases e:k=i
    · subst e; exact hb
    · exact hq k (by omega)
  intro r hr
  cases r with
  | inr _ =>
    obtain ⟨k,hk,hkf⟩:=hr
    exact T.ret (.inr ⟨rfl,fun h=>by have:=h.froms k hk; rw [hkf] at this; cases this⟩)
  | inl w2 =>
  have hfroms:∀ k:Nat,k<c.Harts.flatten.length→cand_from n c c.Harts.flatten (k:Int)=some true:=hr
  obtain ⟨b,hb,hb2⟩:=orderedF_ n c c.Harts.flatten hf hor hn
  refine T.eqb hb ?_
  refine T.ite (fun d=>T.ret (.inr ⟨rfl,fun h=>by have:=h.ordB; rw [hb] at this; cases this; simp at d⟩)) (fun c5=>?_)
  have:=not_of c5
  subst this
  obtain ⟨o1,o2,o3⟩:=hb2 rfl
  exact T.ret (.inl ⟨rfl,by omega,by omega,hb1,hcells,⟨w,hr1,hr2⟩,hlen,hfroms,hb,o1,o2,o3⟩)

/-! ### All events -/
theorem clone_ (n:Nat) (l:List Int) (h:l.length≤60):slices_Clone_int_int n l=some l:=by
  unfold slices_Clone_int_int
  rw [grd_pos (ble_of (by omega))]
theorem own_ (n:Nat) (e:Event) (h:small e):cand_own n e=some e:=by
  unfold cand_own
  rw [clone_ n _ h.1,clone_ n _ h.2.1,clone_ n _ h.2.2]
  rfl
theorem small_at {c:Cand} (hc:Light c) (i:Nat) (hi:i<c.Harts.flatten.length):small c.Harts.flatten[i]:=by
  obtain ⟨q,hq,k,hk,_,e⟩:=flat_at c.Harts i hi
  rw [e]
  exact (hc.rows _ (List.getElem_mem hq)).2 _ (List.getElem_mem hk)
theorem all_ (n:Nat) (c:Cand) (hc:Light c) (hn:200≤n) (h0:cand_Check n c=some 0):cand_All n c=some c.Harts.flatten:=by
  have hf:=hc.all
  have key:T (cand_All n c) (fun l=>l=c.Harts.flatten):=by
    unfold cand_All
    refine T.eqb h0 ?_
    refine T.ite (fun d=>by simp at d) (fun _=>?_)
    refine T.eqb (cflat_ n c hc hn) ?_
    refine T.bind (P:=fun l=>l=c.Harts.flatten) ?_ (fun l hl=>T.ret hl)
    refine T.loop c.Harts.flatten.length (fun i s=>s=(c.Harts.flatten.take i,(i:Int))) _ ?_ (by simp) (by omega)
    rintro i s hi rfl
    unfold cand_All_L1
    refine T.ite (fun cd=>?_) (fun cd=>T.fin (by dsimp only; exact List.take_of_length_le (ge_of cd)))
    have hil:=lt_of cd
    refine T.get i rfl hil ?_
    refine T.eqb (own_ n _ (small_at hc i hil)) ?_
    refine T.grd (ble_of (by simp only [List.length_take]; omega)) ?_
    refine T.ret ⟨hil,?_⟩
    rw [addN1 _ (by omega),List.take_succ_eq_append_getElem hil]
  obtain ⟨r,h1,h2⟩:=key
  rw [h1,h2]

/-! ### Places -/
theorem repeatX (n:Nat) (z:Int) (N:Nat) (hN:N≤60) (hn:200≤n):slices_Repeat_int_int_S n [z] (N:Int)=some (List.replicate N z):=by
  have key:T (slices_Repeat_int_int_S n [z] (N:Int)) (fun l=>l=List.replicate N z):=by
    unfold slices_Repeat_int_int_S
    refine T.ite (fun d=>by have:=of_decide_eq_true d; omega) (fun _=>?_)
    have e1:IntKind.wrap .u64 (([z]:List Int).length:Int)=1:=rfl
    rw [e1,wrapU (by omega) (by omega)]
    refine T.eqb (mulN n N (by omega)) ?_
    dsimp only
    refine T.ite (fun d=>by simp at d) (fun _=>?_)
    refine T.ite (fun d=>by have:=of_decide_eq_true d; omega) (fun _=>?_)
    rw [wrapI (by omega) (by omega)]
    refine T.grd (by simp [Nat.blt]; omega) ?_
    refine T.bind (P:=fun l=>l=List.replicate N z) ?_ (fun l hl=>T.ret hl)
    simp only [Int.toNat_natCast,List.length_replicate]
    refine T.loop N (fun i s=>∃ f:Nat,s=(List.replicate f z++List.replicate (N - f) 0,(f:Int))∧i≤f∧f≤N∧(1≤f∨N=0)) _ ?_ ⟨min 1 N,?_,by omega,by omega,by omega⟩ (by omega)
    · rintro i s hi ⟨f,rfl,h1,h2,h3⟩
      unfold slices_Repeat_int_int_S_L1
      dsimp only
      have hlen:(List.replicate f z++List.replicate (N - f) (0:Int)).length=N:=by simp; omega
      rw [hlen]
      refine T.ite (fun cd=>?_) (fun cd=>?_)
      · have hf:=lt_of cd
        simp only [Int.toNat_natCast]
        refine T.grd (by simp; omega) ?_
        refine T.grd (by simp; omega) ?_
        refine T.grd (ble_of (by omega)) ?_
        have ht:List.take f (List.replicate f z++List.replicate (N - f) (0:Int))=List.replicate f z:=by
          rw [List.take_append_of_le_length (by simp)]
          simp
        rw [List.drop_zero,ht,List.length_replicate]
        refine T.ret ⟨by omega,f + min f (N - f),?_,by omega,by omega,by omega⟩
        rw [addN _ _ (by omega)]
        congr 1
        rw [List.take_replicate,List.drop_append,List.length_replicate,List.drop_eq_nil_of_le (by simp),List.nil_append,List.drop_replicate,← List.append_assoc,List.replicate_append_replicate]
        have e2:f + min (N - f) f=f + min f (N - f):=by omega
        have e3:N - f - (f + min f (N - f) - f)=N - (f + min f (N - f)):=by omega
        rw [e2,e3]
      · have:=ge_of cd
        have e:f=N:=by omega
        subst e
        exact T.fin (by simp)
    · cases N with
      | zero=>simp
      | succ m =>
        have:min 1 (m + 1)=1:=by omega
        rw [this]
        simp only [List.length_cons,List.length_nil,Nat.zero_add,Nat.add_one_sub_one]
        congr 1
        simp [List.replicate_succ]
  obtain ⟨r,h1,h2⟩:=key
  rw [h1,h2]

/-- Where each number stands in the order. -/
def placed (c:Cand) (l:List Int) (i:Nat):Prop:=∀ (k:Nat) (hk:k<l.length),(l[k]=-1∧∀ (a:Nat) (_:a<i) (ha:a<c.Order.length),c.Order[a]≠(k:Int))∨∃ a:Nat,∃ ha:a<c.Order.length,a<i∧c.Order[a]=(k:Int)∧l[k]=(a:Int)
theorem places_ (n:Nat) (c:Cand) (hc:Light c) (hn:200≤n) (h0:cand_Check n c=some 0) (ok:OK n c):T (cand_Places n c) (fun l=>l.length=c.Harts.flatten.length∧placed c l c.Order.length):=by
  have hf:=hc.all
  have hor:=hc.order
  unfold cand_Places
  refine T.eqb h0 ?_
  refine T.ite (fun d=>by simp at d) (fun _=>?_)
  rw [ok.fromLen]
  refine T.eqb (repeatX n (-1) _ hf hn) ?_
  refine T.bind (P:=fun l=>l.length=c.Harts.flatten.length∧placed c l c.Order.length) ?_ (fun l hl=>T.ret hl)
  refine T.loop c.Order.length (fun i s=>s.2=(i:Int)∧s.1.length=c.Harts.flatten.length∧placed c s.1 i) _ ?_ ⟨rfl,by simp,fun k hk=>.inl ⟨by simp,fun a h=>by omega⟩⟩ (by omega)
  rintro i ⟨s1,s2⟩ hi ⟨e1,e2,hq⟩
  dsimp only at e1 e2 hq
  subst e1
  unfold cand_Places_L1
  refine T.ite (fun cd=>?_) (fun cd=>?_)
  · have hil:=lt_of cd
    obtain ⟨j,hj,hoj,_⟩:=ok.ord i hil
    refine T.get i rfl hil ?_
    refine T.get j hoj (by dsimp only; omega) ?_
    refine T.ret ⟨hil,addN1 _ (by omega),by dsimp only; rw [List.length_set]; exact e2,fun k hk=>?_⟩
    dsimp only at hk ⊢
    rw [setI hoj hk (by rw [List.length_set] at hk; exact hk)]
    by_cases e:j=k
    · subst e
      rw [if_pos rfl]
      exact .inr ⟨i,hil,by omega,hoj,rfl⟩
    · rw [if_neg e]
      rcases hq k (by rw [List.length_set] at hk; exact hk) with ⟨h1,h2⟩ | ⟨a,ha,h1,h2,h3⟩
      · refine .inl ⟨h1,fun a hai ha=>?_⟩
        by_cases e3:a=i
        · subst e3; rw [hoj]; omega
        · exact h2 a (by omega) ha
      · exact .inr ⟨a,ha,by omega,h2,h3⟩
  · have:=ge_of cd
    have e:i=c.Order.length:=by omega
    subst e
    exact T.fin ⟨e2,hq⟩

/-! ### Numbers -/
theorem number_ (n:Nat) (c:Cand) (hc:Light c) (hn:200≤n) (h0:cand_Check n c=some 0) (h k:Nat) (hh:h<c.Harts.length) (hk:k<c.Harts[h].length):cand_Number n c (h:Int) (k:Int)=some ((((FL c.Harts h).length + k:Nat):Int),0):=by
  have hf:=hc.all
  have hhl:=hc.harts
  have hro:=FL_row hh
  have hb:∀ i:Nat,i<c.Harts.length→cand_bases_1_S n c.First c.Harts c.From c.Order ((FL c.Harts i).length:Int) (i:Int)=some (((FL c.Harts (i + 1)).length:Int),((i + 1:Nat):Int)):=fun i hi=>by
    unfold cand_bases_1_S
    rw [if_pos (by simp; omega),getI_at rfl hi]
    have hr:=FL_row hi
    simp only [Option.bind_some]
    rw [addN _ _ (by omega),addN1 _ (by omega),FL_succ hi,List.length_append]
  have key:T (cand_Number n c (h:Int) (k:Int)) (fun r=>r=((((FL c.Harts h).length + k:Nat):Int),0)):=by
    unfold cand_Number
    refine T.eqb h0 ?_
    refine T.ite (fun d=>by simp at d) (fun _=>?_)
    refine T.ite (fun d=>by have:=of_decide_eq_true d; omega) (fun _=>?_)
    refine T.ite (fun d=>by have:=of_decide_eq_true d; omega) (fun _=>?_)
    refine T.ite (fun d=>by have:=of_decide_eq_true d; omega) (fun _=>?_)
    refine T.get h rfl hh ?_
    refine T.ite (fun d=>by have:=of_decide_eq_true d; omega) (fun _=>?_)
    refine T.eqb (a:=(0,0)) rfl ?_
    refine T.bind (P:=fun t=>t=(((FL c.Harts h).length:Int),(h:Int))) ?_ ?_
    · refine T.loop h (fun i s=>s=(((FL c.Harts i).length:Int),(i:Int),(i:Int))) _ ?_ rfl (by omega)
      rintro i s hi rfl
      unfold cand_Number_L1
      refine T.ite (fun cd=>?_) (fun cd=>?_)
      rotate_left
      · have hge:=ge_of cd
        have e:i=h:=by omega
        subst e
        exact T.fin rfl
      have hil:i<h:=lt_of cd
      refine T.eqb (hb i (by omega)) ?_
      refine T.ret ⟨hil,?_⟩
      rw [addN1 _ (by omega)]
    · rintro t rfl
      refine T.eqb (hb h hh) ?_
      refine T.ret ?_
      rw [addN _ _ (by omega)]
  obtain ⟨r,h1,h2⟩:=key
  rw [h1,h2]

/-! ### The same events -/
theorem sameL_ (n:Nat) (l:List Int) (hl:l.length≤60) (hn:200≤n):kit_Same_int n l l=some true:=by
  have key:T (kit_Same_int n l l) (fun b=>b=true):=by
    unfold kit_Same_int
    refine T.ite (fun d=>by simp at d) (fun _=>?_)
    refine T.bind (P:=fun (r:Unit⊕Unit)=>match r with | .inl _=>True | .inr _=>False) ?_ (fun r hr=>by
      cases r with
      | inl _=>exact T.ret rfl
      | inr _=>exact hr.elim)
    refine T.loop l.length (fun i s=>s=(i:Int)) _ ?_ rfl (by omega)
    rintro i s hi rfl
    unfold kit_Same_int_L1
    refine T.ite (fun cd=>?_) (fun cd=>T.fin trivial)
    have hil:=lt_of cd
    refine T.get i rfl hil ?_
    refine T.get i rfl hil ?_
    refine T.ite (fun d=>by simp at d) (fun _=>?_)
    exact T.ret ⟨hil,addN1 _ (by omega)⟩
  obtain ⟨r,h1,h2⟩:=key
  rw [h1,h2]
theorem event_ (n:Nat) (e:Event) (h:small e) (hn:200≤n):kit_Event n e e=some true:=by
  unfold kit_Event kit_Deps
  rw [sameL_ n _ h.1 hn,sameL_ n _ h.2.1 hn,sameL_ n _ h.2.2 hn]
  simp

end Go.Proofs.Ytcckeabholabcaa
