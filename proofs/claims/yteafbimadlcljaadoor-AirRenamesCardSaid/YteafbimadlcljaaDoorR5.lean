/- The law's loops: registers rotated; what is live, compared -/
import Derived.Test.YteafbimadlcljaaDoorR4
namespace Go.Proofs.YteafbimadlcljaaDoor
open Go A

/-- A register, rotated. -/
def lx (R w:Int):Int→Int:=fun x=>af .i64 (ac .i64 x w) R
def m9 (R w:Nat) (x:Nat):Nat:=if x + w<R then x + w else x + w - R
theorem mK {R w x:Nat} (hR:R≤60) (hw:w≤R) (hx:x<R):lx (R:Int) (w:Int) (x:Int)=(m9 R w x:Int):=by
  unfold lx m9 af
  rw [Dl (by omega) (by omega),Int.tmod_eq_emod_of_nonneg (by omega)]
  split
  · rw [Int.emod_eq_of_lt (by omega) (by omega)]
    omega
  · have:(x:Int) + (w:Int)=((x + w - R:Nat):Int) + (R:Int) * 1:=by omega
    rw [this,Int.add_mul_emod_self_left,Int.emod_eq_of_lt (by omega) (by omega)]
theorem r7 {R w x:Nat} (hw:w≤R) (hx:x<R):m9 R w x<R:=by
  unfold m9
  split <;> omega
theorem BL {R w x:Nat} (hw:w≤R) (hx:x<R):m9 R (R - w) (m9 R w x)=x:=by
  unfold m9
  split <;> split <;> omega
theorem AJ {R w:Nat} (hR:R≤60) (hw:w≤R):Ren R (lx (R:Int) (w:Int)) (lx (R:Int) ((R - w:Nat):Int)):=by
  have one:∀ v:Nat,v≤R→∀ r:Int,0≤r→r<(R:Int)→0≤lx (R:Int) (v:Int) r∧lx (R:Int) (v:Int) r<(R:Int):=fun v hv r h1 h2=>by
    obtain ⟨x,rfl⟩:∃ x:Nat,r=(x:Int):=⟨r.toNat,by omega⟩
    rw [mK hR hv (by omega)]
    have:=r7 hv (x:=x) (by omega)
    omega
  have two:∀ v:Nat,v≤R→∀ r:Int,0≤r→r<(R:Int)→lx (R:Int) ((R - v:Nat):Int) (lx (R:Int) (v:Int) r)=r:=fun v hv r h1 h2=>by
    obtain ⟨x,rfl⟩:∃ x:Nat,r=(x:Int):=⟨r.toNat,by omega⟩
    rw [mK hR hv (by omega),mK hR (by omega) (r7 hv (by omega)),BL hv (by omega)]
  refine ⟨one w hw,one (R - w) (by omega),two w hw,fun r h1 h2=>?_⟩
  have:=two (R - w) (by omega) r h1 h2
  rwa [show R - (R - w)=w by omega] at this
theorem Gg (n:Nat) (x:Int) {R:Nat} (hR:R≤60):T (o9 n x (R:Int)) (fun y=>∃ w:Nat,y=(w:Int)∧w≤R):=by
  unfold o9
  refine T.ite (fun _=>T.ret ⟨0,rfl,by omega⟩) (fun h=>T.grd ?_ ?_)
  · simp at h ⊢
    omega
  · simp at h
    have h1:=Int.lt_tmod_of_pos x (b:=(R:Int)) (by omega)
    have h2:=Int.tmod_lt_of_pos x (b:=(R:Int)) (by omega)
    unfold af
    refine T.ite (fun h3=>T.ret ?_) (fun h3=>T.ret ?_)
    · rw [decide_eq_true_eq] at h3
      rw [Dl (by omega) (by omega)]
      exact ⟨(x.tmod R + R).toNat,by omega,by omega⟩
    · rw [decide_eq_false_iff_not] at h3
      exact ⟨(x.tmod R).toNat,by omega,by omega⟩

/-! ### The registers of each step -/
theorem rd_some (s:ab):decide (((yN s).length:Int)>0)=hB s.Op:=by
  cases h:hB s.Op with
  | true =>
    have:s.B∈yN s:=(mJ s _).2 (.inl ⟨h,rfl⟩)
    have:=List.length_pos_of_mem this
    simp
    exact this
  | false =>
    have h2:hC s.Op=false∧hD s.Op=false:=by
      unfold hB at h
      unfold hC hD
      simp at h ⊢
      omega
    have:yN s=[]:=by
      rw [List.eq_nil_iff_forall_not_mem]
      intro x hx
      rcases (mJ s x).1 hx with hx | hx | hx
      · rw [h] at hx
        cases hx.1
      · rw [h2.1] at hx
        cases hx.1
      · rw [h2.2] at hx
        cases hx.1
    rw [this]
    rfl
theorem C9 {α:Type} {l:List α} {i:Nat} (h:i<l.length) (x:α):aH (l.set i x) (i:Int)=some x:=by
  rw [ko,List.getElem?_set_self h]
theorem Da (n:Nat) (c:bh) (w:Int) (y8:Int×List ab) (l:List ab) (i:Nat) (hi:i<l.length) (hi2:i<200) (s:ab) (hs:l[i]?=some s) (hok:r5 s c.Regs):cx n c w y8 (l,(i:Int))=some (.inl (l.set i (b8 (lx c.Regs w) s),((i + 1:Nat):Int))):=by
  have hgs:∀ x:ab,aH (l.set i x) (i:Int)=some x:=fun x=>C9 hi x
  have hg:aH l (i:Int)=some s:=by rw [ko,hs]
  have hw:(rv s).2=nC s.Op:=by
    unfold rv
    split <;> simp_all
  unfold cx
  dsimp only
  rw [if_pos (by simpa using hi),hg,Option.bind_some,o5,Option.bind_some,r4,Option.bind_some,rd_some,hw,ga i (by omega),Int.toNat_natCast]
  rw [m2] at hok
  obtain ⟨o1,o2,o3,o4⟩:=hok
  obtain ⟨op,a,b,cc,d,imm,bin,to,sh⟩:=s
  dsimp only at o1 o2 o3 o4 ⊢
  rcases aj op with e | e | e | e | e | e | e | e | e | e | e
  case inr.inr.inr.inr.inr.inr.inr.inr.inr.inr =>
    have e1:nC op=false:=by unfold nC; simp; omega
    have e2:hB op=false:=by unfold hB; simp; omega
    have e3:hC op=false:=by unfold hC; simp; omega
    have e4:hD op=false:=by unfold hD; simp; omega
    have e5:(op==3)=false:=by simp; omega
    have e6:(op==5)=false:=by simp; omega
    have e7:(op==6)=false:=by simp; omega
    simp [e1,e2,e3,e4,e5,e6,e7,b8]
    rw [← getElem?_eq_some_iff.1 hs |>.2,List.set_getElem_self]
  all_goals
    subst e
    simp [nC,hB,hC,hD] at o1 o2 o3 o4
    first
      | (have hR0:¬ c.Regs=0:=by omega
         simp [nC,hB,hC,hD,b8,hgs,grd,hR0,lx])
      | (simp [nC,hB,hC,hD,b8]
         rw [← List.getElem?_eq_some_iff.1 hs |>.2,List.set_getElem_self])

theorem GJ {R w:Nat} (n:Nat) (c:bh) (y8:Int×List ab) (hcR:c.Regs=(R:Int)) (hl:c.Steps.length≤120) (hok:zT c R) (hn:200≤n) :
    T (iter (fun s=>cx n c (w:Int) y8 s) n (c.Steps,0)) (fun t=>t=c.Steps.map (b8 (lx (R:Int) (w:Int)))):=by
  refine T.loop c.Steps.length (fun i s=>∃ l,s=(l,(i:Int))∧l.length=c.Steps.length∧∀ k,l[k]?=if k<i then (c.Steps[k]?).map (b8 (lx (R:Int) (w:Int))) else c.Steps[k]?) _ (fun i s hi hs=>?_) ⟨c.Steps,rfl,rfl,fun k=>by rw [if_neg (by omega)]⟩ (by omega)
  obtain ⟨l,rfl,h1,h2⟩:=hs
  by_cases h:i<c.Steps.length
  · have hs:l[i]?=some c.Steps[i]:=by rw [h2,if_neg (by omega),List.getElem?_eq_getElem h]
    rw [Da n c (w:Int) y8 l i (by omega) (by omega) _ hs (by rw [hcR]; exact hok i h)]
    refine T.next ⟨h,_,rfl,by rw [List.length_set]; exact h1,fun k=>?_⟩
    by_cases e:i=k
    · subst e
      rw [List.getElem?_set_self (by omega),if_pos (by omega),List.getElem?_eq_getElem h,hcR]
      rfl
    · rw [List.getElem?_set_ne e,h2]
      by_cases h3:k<i
      · rw [if_pos h3,if_pos (by omega)]
      · rw [if_neg h3,if_neg (by omega)]
  · have e:i=c.Steps.length:=by omega
    subst e
    unfold cx
    refine T.ite (fun h3=>?_) (fun _=>T.fin ?_)
    · simp at h3
      omega
    · show l=_
      apply List.ext_getElem?
      intro k
      rw [h2,List.getElem?_map]
      by_cases h3:k<c.Steps.length
      · rw [if_pos h3]
      · rw [if_neg h3,List.getElem?_eq_none (by omega)]
        rfl

/-! ### What is live -/
theorem Ip (n:Nat) (l:List Int) (r:Int) (hl:l.length≤1000) (hn:2000≤n):T (v5 n l r) (fun b=>b=decide (r∈l)):=by
  unfold v5
  refine T.bind (P:=Rd (fun _:Unit=>r ∉ l) (fun _:Unit=>r∈l)) ?_ (fun t ht=>by
    cases t with
    | inl _=>exact T.ret (by have ht:r ∉ l:=ht; simp [ht])
    | inr _=>exact T.ret (by have ht:r∈l:=ht; simp [ht]))
  refine T.loop l.length (fun i s=>s=(i:Int)∧r ∉ l.take i) _ (fun i s hi hs=>?_) ⟨rfl,by simp⟩ (by omega)
  obtain ⟨rfl,hs⟩:=hs
  unfold mL
  refine T.ite (fun h=>?_) (fun h=>?_)
  · rw [decide_eq_true_eq] at h
    have hi':i<l.length:=by omega
    refine T.get i rfl hi' (T.ite (fun h=>T.fin ?_) (fun h=>T.next ⟨hi',ga i (by omega),?_⟩))
    · have:l[i]=r:=by simpa using h
      show r∈l
      rw [← this]
      exact List.getElem_mem hi'
    · rw [List.take_succ_eq_append_getElem hi',List.mem_append,List.mem_singleton]
      have:l[i]≠r:=by simpa using h
      rintro (h1 | h1)
      · exact hs h1
      · exact this h1.symm
  · rw [decide_eq_false_iff_not] at h
    have e:i=l.length:=by omega
    subst e
    rw [List.take_length] at hs
    exact T.fin hs
theorem AK {R r:Nat} {b:W}:(r:Int)∈iE R b↔r<R∧b.getLsbD r=true:=by
  unfold iE Ns
  rw [List.mem_map]
  constructor
  · rintro ⟨q,h1,h2⟩
    have:q=r:=by omega
    subst this
    rw [List.mem_filter,List.mem_range] at h1
    exact h1
  · intro h
    exact ⟨r,by rw [List.mem_filter,List.mem_range]; exact h,rfl⟩
theorem AL (R:Nat) (b:W):(iE R b).length≤R:=by
  unfold iE
  rw [eK]
  have:=List.length_filter_le (fun q=>b.getLsbD q) (List.range R)
  rwa [List.length_range] at this
theorem BM {R w:Nat} (hw:w≤R) {p q:Nat→Bool} (h:∀ r,r<R→p (m9 R w r)=q r):(List.range R).countP p=(List.range R).countP q:=by
  have split:∀ (a b:Nat) (p:Nat→Bool),(List.range (a + b)).countP p=(List.range a).countP p + (List.range b).countP (fun i=>p (a + i)):=fun a b p=>by
    rw [List.range_add,List.countP_append,List.countP_map]
    rfl
  have e1:(List.range R).countP p=(List.range (w + (R - w))).countP p:=by rw [show w + (R - w)=R by omega]
  have e2:(List.range R).countP q=(List.range ((R - w) + w)).countP q:=by rw [show (R - w) + w=R by omega]
  rw [e1,e2,split,split]
  have e3:(List.range w).countP p=(List.range w).countP (fun i=>q (R - w + i)):=by
    apply List.countP_congr
    intro i hi
    have hi:=List.mem_range.1 hi
    have:=h (R - w + i) (by omega)
    unfold m9 at this
    rw [if_neg (by omega),show R - w + i + w - R=i by omega] at this
    rw [this]
  have e4:(List.range (R - w)).countP (fun i=>p (w + i))=(List.range (R - w)).countP q:=by
    apply List.countP_congr
    intro i hi
    have hi:=List.mem_range.1 hi
    have:=h i (by omega)
    unfold m9 at this
    rw [if_pos (by omega),Nat.add_comm] at this
    rw [this]
  rw [e3,e4]
  omega
theorem D4 {R w:Nat} (hw:w≤R) {b b':W} (h:∀ r,r<R→b'.getLsbD (m9 R w r)=b.getLsbD r):(iE R b').length=(iE R b).length:=by
  unfold iE
  rw [eK,eK,← List.countP_eq_length_filter,← List.countP_eq_length_filter]
  exact BM hw h
theorem Db {R w:Nat} (hR:R≤60) (hw:w≤R) {c:bh} (hok:zT c R) {bs bs':List W} (h:LI c R bs []) (h':LI (iA (lx (R:Int) (w:Int)) c) R bs' []) {k r:Nat} (hr:r<R):gb bs' k (m9 R w r)↔gb bs k r:=by
  rw [h'.way (r7 hw hr),h.way hr]
  exact FA (AJ hR hw) hok hr (mK hR hw hr).symm
theorem AM {bs:List W} {k r:Nat} (hk:k<bs.length):gb bs k r↔bs[k].getLsbD r=true:=by
  unfold gb
  rw [List.getElem?_eq_getElem hk]
  simp
theorem Gi {R w:Nat} (hR:R≤60) (hw:w≤R) (n:Nat) (hn:5000≤n) (c:bh) (hcR:c.Regs=(R:Int)) (bs bs':List W) (i:Nat) (hi:i<bs.length) (hi':i<bs'.length) (hb:∀ r,r<R→bs'[i].getLsbD (m9 R w r)=bs[i].getLsbD r) :
    T (iter (fun s=>dO n c (w:Int) (bs.map (iE R)) (bs'.map (iE R)) s) n ((i:Int),0)) (fun t=>t=.inl (i:Int)):=by
  have hle:=AL R bs[i]
  refine T.loop (iE R bs[i]).length (fun j s=>s=((i:Int),(j:Int))) _ (fun j s hj hs=>?_) rfl (by omega)
  subst hs
  unfold dO
  refine T.get i rfl (by rw [List.length_map]; exact hi) ?_
  rw [List.getElem_map]
  refine T.ite (fun h=>?_) (fun _=>T.fin rfl)
  rw [decide_eq_true_eq] at h
  have hj':j<(iE R bs[i]).length:=by simpa using h
  refine T.get i rfl (by rw [List.length_map]; exact hi') (T.get j rfl hj' ?_)
  have hm:(iE R bs[i])[j]∈iE R bs[i]:=List.getElem_mem hj'
  obtain ⟨q,hq⟩:∃ q:Nat,(iE R bs[i])[j]=(q:Int):=by
    have hm2:=hm
    unfold iE Ns at hm2
    obtain ⟨q,_,h2⟩:=List.mem_map.1 hm2
    exact ⟨q,h2.symm⟩
  rw [hq] at hm ⊢
  obtain ⟨hqR,hqb⟩:=AK.1 hm
  refine T.grd (by rw [hcR]; simp; omega) ?_
  have e:af .i64 (ac .i64 (q:Int) (w:Int)) c.Regs=(m9 R w q:Int):=by
    rw [hcR]
    exact mK hR hw hqR
  rw [e,List.getElem_map]
  refine (Ip n _ _ (by have:=AL R bs'[i]; omega) (by omega)).bind (fun y hy=>T.ite (fun hc=>?_) (fun _=>T.next ⟨hj',by rw [ga j (by omega)]⟩))
  have:y=true:=by
    rw [hy,decide_eq_true_eq,AK,hb q hqR]
    exact ⟨r7 hw hqR,hqb⟩
  rw [this] at hc
  cases hc

end Go.Proofs.YteafbimadlcljaaDoor
