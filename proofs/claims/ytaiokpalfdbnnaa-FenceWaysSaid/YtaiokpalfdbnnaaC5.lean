/- Put; how many fences -/
import Derived.Test.YtaiokpalfdbnnaaC4
namespace Go.Proofs.Ytaiokpalfdbnnaa
open Go A

/-- Before these steps a fence is put. -/
noncomputable def pD (l:List ab) (i:Nat):Bool:=@decide (D l i true∧∃ s,l[i]?=some s∧uw s=true) (Classical.propDecidable _)
theorem zw {l:List ab} {i:Nat}:pD l i=true↔D l i true∧∃ s,l[i]?=some s∧uw s=true:=by
  unfold pD
  exact @decide_eq_true_iff _ (Classical.propDecidable _)
def pn (p:Nat→Bool):Nat→Nat
  | 0=>0
  | i + 1=>pn p i + (if p i=true then 1 else 0)
theorem AY (p:Nat→Bool):∀ i,ps p i=i + pn p i
  | 0=>rfl
  | i + 1=>by
    have:=AY p i
    show ps p i + _=i + 1 + (pn p i + _)
    split <;> omega
theorem AZ (p:Nat→Bool):∀ i,pn p i≤i
  | 0=>Nat.le_refl _
  | i + 1=>by
    have:=AZ p i
    show pn p i + _≤i + 1
    split <;> omega
theorem A1 {p:Nat→Bool} {l:List ab}:∀ {n:Nat} {s:ab},s∈jY p l n→s=lH∨s∈l
  | n + 1,s,h=>by
    have h:s∈jY p l n++_:=h
    rcases List.mem_append.1 h with h | h
    · exact A1 h
    · cases hs:l[n]? with
      | none=>rw [hs] at h; cases h
      | some t =>
        rw [hs] at h
        have ht:=List.mem_of_getElem? hs
        dsimp only at h
        split at h
        · rcases List.mem_cons.1 h with h | h
          · exact .inl h
          · rw [List.mem_singleton.1 h]; exact .inr ht
        · rw [List.mem_singleton.1 h]; exact .inr ht
theorem LS (n:Nat) (c:ax) (e:Int) (vs:List Nat) (hv:vs.length=c.Steps.length) (hl:c.Steps.length≤4096) (hn:10000≤n) (p:Nat→Bool) (hp:∀ i s v,c.Steps[i]?=some s→vs[i]?=some v→p i=(v==2&&uw s)) :
    T (iter (fun s=>h_ n (c,e) (Ns vs) s) n (([]:List ab),([]:List Int),0)) (fun t=>t=(jY p c.Steps c.Steps.length,(List.range c.Steps.length).map (fun k=>((ps p k:Nat):Int)))):=by
  refine T.loop c.Steps.length (fun i s=>s=(jY p c.Steps i,(List.range i).map (fun k=>((ps p k:Nat):Int)),(i:Int))) _ (fun i s hi hs=>?_) rfl (by omega)
  subst hs
  unfold h_
  refine T.ite (fun h=>?_) (fun h=>?_)
  · have h:=of_decide_eq_true h
    have h:(i:Int)<((Ns vs).length:Int):=h
    rw [jd] at h
    have hi':i<c.Steps.length:=by omega
    have hs:c.Steps[i]?=some c.Steps[i]:=List.getElem?_eq_getElem hi'
    have hvi:vs[i]?=some (vs[i]'(by omega)):=List.getElem?_eq_getElem (by omega)
    have hpi:=hp i _ _ hs hvi
    have hlen:=ol (p:=p) (l:=c.Steps) (i:=i) (by omega)
    have hps:=AY p i
    have hpn:=AZ p i
    have hx:ah .i64 (i:Int) 1=((i + 1:Nat):Int):=cN i (by omega)
    have hrl:((List.range i).map (fun k=>((ps p k:Nat):Int))).length=i:=by rw [List.length_map,List.length_range]
    have hrm:(List.range i).map (fun k=>((ps p k:Nat):Int))++([((jY p c.Steps i).length:Int)]:List Int)=(List.range (i + 1)).map (fun k=>((ps p k:Nat):Int)):=by
      rw [List.range_succ,List.map_append,hlen]
      rfl
    refine T.eqb (qn (by omega)) (T.grd (Nat.ble_eq_true_of_le (by show (((List.range i).map _).length + 1) * 8≤_; rw [hrl]; omega)) ?_)
    have plain:p i=false→T (some (.inl ((jY p c.Steps i++([c.Steps[i]]:List ab)),((List.range i).map (fun k=>((ps p k:Nat):Int))++([((jY p c.Steps i).length:Int)]:List Int)),(ah .i64 (i:Int) 1)):(List ab×List Int×Int)⊕(List ab×List Int))) (Rd (fun s'=>i<c.Steps.length∧s'=(jY p c.Steps (i + 1),(List.range (i + 1)).map (fun k=>((ps p k:Nat):Int)),((i + 1:Nat):Int))) (fun t=>t=(jY p c.Steps c.Steps.length,(List.range c.Steps.length).map (fun k=>((ps p k:Nat):Int))))):=fun h0=>by
      refine T.next ⟨hi',?_⟩
      rw [hx,hrm,oO hs,if_neg (by rw [h0]; decide)]
    have g1:Nat.ble (((jY p c.Steps i).length + 1) * 72) 140737488355328=true:=Nat.ble_eq_true_of_le (by omega)
    refine T.ite (fun h2=>T.get i rfl hi' (T.eqb (wn n _) (T.ite (fun h3=>T.grd g1 (T.grd (Nat.ble_eq_true_of_le ?_) (T.next ⟨hi',?_⟩))) (fun h3=>T.grd g1 (plain ?_))))) (fun h2=>T.get i rfl hi' (T.grd g1 (plain ?_)))
    · rw [List.length_append,List.length_singleton]
      show ((jY p c.Steps i).length + 1 + 1) * 72≤_
      omega
    · have h4:p i=true:=by
        have h2:vs[i]'(by omega)=2:=by simp at h2; omega
        rw [hpi,h2,h3]
        rfl
      show ((jY p c.Steps i++([lH]:List ab))++([c.Steps[i]]:List ab),(List.range i).map (fun k=>((ps p k:Nat):Int))++([((jY p c.Steps i).length:Int)]:List Int),ah .i64 (i:Int) 1)=_
      rw [hx,hrm,oO hs,if_pos h4,List.append_assoc]
      rfl
    · rw [hpi,h3,Bool.and_false]
    · have h2:¬ vs[i]'(by omega)=2:=by simp at h2; omega
      rw [hpi,beq_eq_false_iff_ne.2 h2,Bool.false_and]
  · have h:=of_decide_eq_false h
    have h:¬ (i:Int)<((Ns vs).length:Int):=h
    rw [jd] at h
    have e:i=c.Steps.length:=by omega
    subst e
    exact T.fin rfl
theorem GJ (n:Nat) (f:Nat→Nat) (N:Nat) (oE:List ab) (hE:oE.length≤10000) (h0:oE≠[]) (hn:20000≤n) (oC:List Int) (hf:∀ k,k<N→oC[k]?=some ((f k:Nat):Int)) (hto:∀ s∈oE,s.Op=8∨s.Op=9→0≤s.To∧s.To.toNat<N) :
    T (j9 n oE oC) (fun y=>y=(oE.length,0,oE.map (mv f))):=Cd n f N oE hE h0 hn oC hf hto 0 [] 0
/-- What Put answers. -/
noncomputable def xn (c:ax):ax:=ax.mk c.Regs (gv (pD (bi c.Steps)) (bi c.Steps))
theorem IY (n:Nat) (hn:1000000<n) (c:ax) (hr:cg c) (hb:c.Regs≤150) (hl:c.Steps.length≤400):T (oq n c) (fun y=>y=(xn c,0)):=by
  unfold oq
  refine (H3 n hn c hr hb hl).bind (fun y1 hy1=>?_)
  subst hy1
  have hbr:=mR hr
  have hble:(bi c.Steps).length≤c.Steps.length:=by
    unfold bi
    rw [List.length_map]
    exact List.length_filter_le ..
  have hb1:1≤(bi c.Steps).length:=hbr.len.1
  refine T.ite (fun h=>by simp at h) (fun _=>?_)
  refine (wu n hn (ax.mk c.Regs (bi c.Steps)) hb1 (by show (bi c.Steps).length≤_; omega)).bind (fun y3 hy3=>?_)
  obtain ⟨vs,rfl,hv,hvd⟩:=hy3
  have hp:∀ (i:Nat) (s:ab) (v:Nat),(bi c.Steps)[i]?=some s→vs[i]?=some v→pD (bi c.Steps) i=(v==2&&uw s):=fun i s v hs hvi=>by
    have h1:(v==2)=true↔D (bi c.Steps) i true:=by
      rw [beq_iff_eq,← hvd i,hvi,Option.some.injEq]
    rw [Bool.eq_iff_iff,zw,Bool.and_eq_true,h1,hs]
    constructor
    · rintro ⟨h2,t,h3,h4⟩
      cases h3
      exact ⟨h2,h4⟩
    · rintro ⟨h2,h3⟩
      exact ⟨h2,s,rfl,h3⟩
  refine (LS n (ax.mk c.Regs (bi c.Steps)) 0 vs hv (by show (bi c.Steps).length≤_; omega) (by omega) _ hp).bind (fun t4 ht4=>?_)
  subst ht4
  have hil:=ol (p:=pD (bi c.Steps)) (l:=bi c.Steps) (Nat.le_refl _)
  have hps:=AY (pD (bi c.Steps)) (bi c.Steps).length
  have hpn:=AZ (pD (bi c.Steps)) (bi c.Steps).length
  refine T.ite (fun h=>?_) (fun _=>?_)
  · have h:=of_decide_eq_true h
    have h:((jY (pD (bi c.Steps)) (bi c.Steps) (bi c.Steps).length).length:Int)>4096:=h
    omega
  refine (GJ n (ps (pD (bi c.Steps))) (bi c.Steps).length _ (by show (jY (pD (bi c.Steps)) (bi c.Steps) (bi c.Steps).length).length≤_; omega) (fun e=>?_) (by omega) _ (fun k hk=>?_) (fun s hs hop=>?_)).bind (fun y6 hy6=>T.ret ?_)
  · have e:jY (pD (bi c.Steps)) (bi c.Steps) (bi c.Steps).length=[]:=e
    rw [e] at hil
    simp at hil
    omega
  · show ((List.range (bi c.Steps).length).map (fun k=>((ps (pD (bi c.Steps)) k:Nat):Int)))[k]?=_
    rw [List.getElem?_map,List.getElem?_range hk]
    rfl
  · rcases A1 hs with rfl | hs
    · rcases hop with hop | hop <;> cases hop
    · obtain ⟨k,hk⟩:=List.getElem?_of_mem hs
      exact hbr.to hk hop
  · subst hy6
    unfold xn gv
    dsimp only
    rw [List.drop_zero,List.take_of_length_le (by rw [List.length_map]; exact Nat.le_refl _)]
theorem Cf {c:ax} (hr:cg c) (hl:c.Steps.length≤400):cg (xn c):=by
  have hble:(bi c.Steps).length≤c.Steps.length:=by
    unfold bi
    rw [List.length_map]
    exact List.length_filter_le ..
  have hps:=AY (pD (bi c.Steps)) (bi c.Steps).length
  have hpn:=AZ (pD (bi c.Steps)) (bi c.Steps).length
  exact Ef (mR hr) (pD (bi c.Steps)) (by show ps _ (bi c.Steps).length≤_; omega)

/-! ### Counting -/
def cf (l:List ab):Nat:=l.countP (fun s=>!nf s)
theorem Da (n:Nat) (hn:1000000<n) (c:ax) (hr:cg c) (hb:c.Regs≤150) (hl:c.Steps.length≤400):T (jo n c) (fun y=>y=((cf c.Steps:Nat):Int)):=by
  unfold jo
  refine (rx n hn c hb hl).bind (fun y hy=>?_)
  have hy0:=hy.2 hr
  subst hy0
  refine T.ite (fun h=>by simp at h) (fun _=>?_)
  refine T.bind (T.loop c.Steps.length (fun i s=>s=((i:Int),((cf (c.Steps.take i):Nat):Int))) (fun t=>t=((cf c.Steps:Nat):Int)) (fun i s hi hs=>?_) rfl (by omega)) (fun t ht=>T.ret ht)
  subst hs
  unfold ij gx
  refine T.ite (fun h=>?_) (fun h=>?_)
  · have h:=of_decide_eq_true h
    have h:(i:Int)<(c.Steps.length:Int):=h
    have hi':i<c.Steps.length:=by omega
    have hx:ah .i64 (i:Int) 1=((i + 1:Nat):Int):=cN i (by omega)
    have hcl:cf (c.Steps.take i)≤400:=by
      have:=List.countP_le_length (p:=fun s=>!nf s) (l:=c.Steps.take i)
      rw [List.length_take] at this
      unfold cf
      omega
    have hsucc:cf (c.Steps.take (i + 1))=cf (c.Steps.take i) + (if nf c.Steps[i]=true then 0 else 1):=by
      unfold cf
      rw [List.take_succ_eq_append_getElem hi',List.countP_append]
      cases h:nf c.Steps[i] <;> simp [h]
    refine T.get i rfl hi' (T.ite (fun h2=>T.next ⟨hi',?_⟩) (fun h2=>T.next ⟨hi',?_⟩))
    · have h2:(c.Steps[i].Op==7)=true:=h2
      rw [H2] at h2
      show (ah .i64 (i:Int) 1,ah .i64 ((cf (c.Steps.take i):Nat):Int) 1)=_
      rw [hx,cN _ (by omega),hsucc,if_neg (by simpa using h2)]
    · have h2:(c.Steps[i].Op==7)=false:=h2
      rw [H2] at h2
      show (ah .i64 (i:Int) 1,((cf (c.Steps.take i):Nat):Int))=_
      rw [hx,hsucc,if_pos (by simpa using h2)]
      rfl
  · have h:=of_decide_eq_false h
    have h:¬ (i:Int)<(c.Steps.length:Int):=h
    rw [List.take_of_length_le (show c.Steps.length≤i by omega)]
    exact T.fin rfl
end Go.Proofs.Ytaiokpalfdbnnaa
