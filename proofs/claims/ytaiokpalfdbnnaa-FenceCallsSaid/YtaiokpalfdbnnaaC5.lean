/- Put; how many fences -/
import Derived.Test.YtaiokpalfdbnnaaC3
namespace Go.Proofs.Ytaiokpalfdbnnaa
open Go A

/-- Before these steps a fence is put. -/
noncomputable def pD (l:List ab) (i:Nat):Bool:=@decide (D l i true∧∃ s,l[i]?=some s∧zn s=true) (Classical.propDecidable _)
theorem Dk {l:List ab} {i:Nat}:pD l i=true↔D l i true∧∃ s,l[i]?=some s∧zn s=true:=by
  unfold pD
  exact @decide_eq_true_iff _ (Classical.propDecidable _)
def pn (p:Nat→Bool):Nat→Nat
  | 0=>0
  | i + 1=>pn p i + (if p i=true then 1 else 0)
theorem BY (p:Nat→Bool):∀ i,ps p i=i + pn p i
  | 0=>rfl
  | i + 1=>by
    have:=BY p i
    show ps p i + _=i + 1 + (pn p i + _)
    split <;> omega
theorem BZ (p:Nat→Bool):∀ i,pn p i≤i
  | 0=>Nat.le_refl _
  | i + 1=>by
    have:=BZ p i
    show pn p i + _≤i + 1
    split <;> omega
theorem B0 {p:Nat→Bool} {l:List ab}:∀ {n:Nat} {s:ab},s∈j4 p l n→s=jB∨s∈l
  | n + 1,s,h=>by
    have h:s∈j4 p l n++_:=h
    rcases List.mem_append.1 h with h | h
    · exact B0 h
    · cases hs:l[n]? with
      | none=>rw [hs] at h; cases h
      | some t =>
        rw [hs] at h
        have ht:=List.mem_of_getElem? hs
        dsimp only at h
        split at h
        · rcases List.mem_cons.1 h with h | h
          · exact .inl h
          · rw [List.mem_singleton.1 h]; exact .inr ht
        · rw [List.mem_singleton.1 h]; exact .inr ht
theorem Oq (n:Nat) (c:aj) (e:Int) (vs:List Nat) (hv:vs.length=c.Steps.length) (hl:c.Steps.length≤4096) (hn:10000≤n) (p:Nat→Bool) (hp:∀ i s v,c.Steps[i]?=some s→vs[i]?=some v→p i=(v==2&&zn s)) :
    T (iter (fun s=>iE n (c,e) (Ns vs) s) n (([]:List ab),([]:List Int),0)) (fun t=>t=(j4 p c.Steps c.Steps.length,(List.range c.Steps.length).map (fun k=>((ps p k:Nat):Int)))):=by
  refine T.loop c.Steps.length (fun i s=>s=(j4 p c.Steps i,(List.range i).map (fun k=>((ps p k:Nat):Int)),(i:Int))) _ (fun i s hi hs=>?_) rfl (by omega)
  subst hs
  unfold iE
  refine T.ite (fun h=>?_) (fun h=>?_)
  · have h:=of_decide_eq_true h
    have h:(i:Int)<((Ns vs).length:Int):=h
    rw [jA] at h
    have hi':i<c.Steps.length:=by omega
    have hs:c.Steps[i]?=some c.Steps[i]:=List.getElem?_eq_getElem hi'
    have hvi:vs[i]?=some (vs[i]'(by omega)):=List.getElem?_eq_getElem (by omega)
    have hpi:=hp i _ _ hs hvi
    have hlen:=py (p:=p) (l:=c.Steps) (i:=i) (by omega)
    have hps:=BY p i
    have hpn:=BZ p i
    have hx:ae .i64 (i:Int) 1=((i + 1:Nat):Int):=bM i (by omega)
    have hrl:((List.range i).map (fun k=>((ps p k:Nat):Int))).length=i:=by rw [List.length_map,List.length_range]
    have hrm:(List.range i).map (fun k=>((ps p k:Nat):Int))++([((j4 p c.Steps i).length:Int)]:List Int)=(List.range (i + 1)).map (fun k=>((ps p k:Nat):Int)):=by
      rw [List.range_succ,List.map_append,hlen]
      rfl
    refine T.eqb (rn (by omega)) (T.grd (Nat.ble_eq_true_of_le (by show (((List.range i).map _).length + 1) * 8≤_; rw [hrl]; omega)) ?_)
    have plain:p i=false→T (some (.inl ((j4 p c.Steps i++([c.Steps[i]]:List ab)),((List.range i).map (fun k=>((ps p k:Nat):Int))++([((j4 p c.Steps i).length:Int)]:List Int)),(ae .i64 (i:Int) 1)):(List ab×List Int×Int)⊕(List ab×List Int))) (Rd (fun s'=>i<c.Steps.length∧s'=(j4 p c.Steps (i + 1),(List.range (i + 1)).map (fun k=>((ps p k:Nat):Int)),((i + 1:Nat):Int))) (fun t=>t=(j4 p c.Steps c.Steps.length,(List.range c.Steps.length).map (fun k=>((ps p k:Nat):Int))))):=fun h0=>by
      refine T.next ⟨hi',?_⟩
      rw [hx,hrm,pV hs,if_neg (by rw [h0]; decide)]
    have g1:Nat.ble (((j4 p c.Steps i).length + 1) * 72) 140737488355328=true:=Nat.ble_eq_true_of_le (by omega)
    refine T.ite (fun h2=>T.get i rfl hi' (T.eqb (xu n _) (T.ite (fun h3=>T.grd g1 (T.grd (Nat.ble_eq_true_of_le ?_) (T.next ⟨hi',?_⟩))) (fun h3=>T.grd g1 (plain ?_))))) (fun h2=>T.get i rfl hi' (T.grd g1 (plain ?_)))
    · rw [List.length_append,List.length_singleton]
      show ((j4 p c.Steps i).length + 1 + 1) * 72≤_
      omega
    · have h4:p i=true:=by
        have h2:vs[i]'(by omega)=2:=by simp at h2; omega
        rw [hpi,h2,h3]
        rfl
      show ((j4 p c.Steps i++([jB]:List ab))++([c.Steps[i]]:List ab),(List.range i).map (fun k=>((ps p k:Nat):Int))++([((j4 p c.Steps i).length:Int)]:List Int),ae .i64 (i:Int) 1)=_
      rw [hx,hrm,pV hs,if_pos h4,List.append_assoc]
      rfl
    · rw [hpi,h3,Bool.and_false]
    · have h2:¬ vs[i]'(by omega)=2:=by simp at h2; omega
      rw [hpi,beq_eq_false_iff_ne.2 h2,Bool.false_and]
  · have h:=of_decide_eq_false h
    have h:¬ (i:Int)<((Ns vs).length:Int):=h
    rw [jA] at h
    have e:i=c.Steps.length:=by omega
    subst e
    exact T.fin rfl
theorem H1 (n:Nat) (f:Nat→Nat) (N:Nat) (oE:List ab) (hE:oE.length≤10000) (h0:oE≠[]) (hn:20000≤n) (oC:List Int) (hf:∀ k,k<N→oC[k]?=some ((f k:Nat):Int)) (hto:∀ s∈oE,s.Op=8∨s.Op=9→0≤s.To∧s.To.toNat<N) :
    T (kQ n oE oC) (fun y=>y=(oE.length,0,oE.map (mv f))):=Dj n f N oE hE h0 hn oC hf hto 0 [] 0
/-- What Put answers. -/
noncomputable def Aq (c:aj):aj:=aj.mk c.Regs (oc (pD (aI c.Steps)) (aI c.Steps))
theorem Kv (n:Nat) (hn:1000000<n) (c:aj) (hr:aK c) (hb:c.Regs≤150) (hl:c.Steps.length≤400):T (kH n c) (fun y=>y=(Aq c,0)):=by
  unfold kH
  refine (G3 n hn c hr hb hl).bind (fun y1 hy1=>?_)
  subst hy1
  have hbr:=lI hr
  have hble:(aI c.Steps).length≤c.Steps.length:=by
    unfold aI
    rw [List.length_map]
    exact List.length_filter_le ..
  have hb1:1≤(aI c.Steps).length:=hbr.len.1
  refine T.ite (fun h=>by simp at h) (fun _=>?_)
  refine (xz n hn (aj.mk c.Regs (aI c.Steps)) hb1 (by show (aI c.Steps).length≤_; omega)).bind (fun y3 hy3=>?_)
  obtain ⟨vs,rfl,hv,hvd⟩:=hy3
  have hp:∀ (i:Nat) (s:ab) (v:Nat),(aI c.Steps)[i]?=some s→vs[i]?=some v→pD (aI c.Steps) i=(v==2&&zn s):=fun i s v hs hvi=>by
    have h1:(v==2)=true↔D (aI c.Steps) i true:=by
      rw [beq_iff_eq,← hvd i,hvi,Option.some.injEq]
    rw [Bool.eq_iff_iff,Dk,Bool.and_eq_true,h1,hs]
    constructor
    · rintro ⟨h2,t,h3,h4⟩
      cases h3
      exact ⟨h2,h4⟩
    · rintro ⟨h2,h3⟩
      exact ⟨h2,s,rfl,h3⟩
  refine (Oq n (aj.mk c.Regs (aI c.Steps)) 0 vs hv (by show (aI c.Steps).length≤_; omega) (by omega) _ hp).bind (fun t4 ht4=>?_)
  subst ht4
  have hil:=py (p:=pD (aI c.Steps)) (l:=aI c.Steps) (Nat.le_refl _)
  have hps:=BY (pD (aI c.Steps)) (aI c.Steps).length
  have hpn:=BZ (pD (aI c.Steps)) (aI c.Steps).length
  refine T.ite (fun h=>?_) (fun _=>?_)
  · have h:=of_decide_eq_true h
    have h:((j4 (pD (aI c.Steps)) (aI c.Steps) (aI c.Steps).length).length:Int)>4096:=h
    omega
  refine (H1 n (ps (pD (aI c.Steps))) (aI c.Steps).length _ (by show (j4 (pD (aI c.Steps)) (aI c.Steps) (aI c.Steps).length).length≤_; omega) (fun e=>?_) (by omega) _ (fun k hk=>?_) (fun s hs hop=>?_)).bind (fun y6 hy6=>T.ret ?_)
  · have e:j4 (pD (aI c.Steps)) (aI c.Steps) (aI c.Steps).length=[]:=e
    rw [e] at hil
    simp at hil
    omega
  · show ((List.range (aI c.Steps).length).map (fun k=>((ps (pD (aI c.Steps)) k:Nat):Int)))[k]?=_
    rw [List.getElem?_map,List.getElem?_range hk]
    rfl
  · rcases B0 hs with rfl | hs
    · rcases hop with hop | hop <;> cases hop
    · obtain ⟨k,hk⟩:=List.getElem?_of_mem hs
      exact hbr.to hk hop
  · subst hy6
    unfold Aq oc
    dsimp only
    rw [List.drop_zero,List.take_of_length_le (by rw [List.length_map]; exact Nat.le_refl _)]
theorem Dl {c:aj} (hr:aK c) (hl:c.Steps.length≤400):aK (Aq c):=by
  have hble:(aI c.Steps).length≤c.Steps.length:=by
    unfold aI
    rw [List.length_map]
    exact List.length_filter_le ..
  have hps:=BY (pD (aI c.Steps)) (aI c.Steps).length
  have hpn:=BZ (pD (aI c.Steps)) (aI c.Steps).length
  exact Ft (lI hr) (pD (aI c.Steps)) (by show ps _ (aI c.Steps).length≤_; omega)

/-! ### Counting -/
def cf (l:List ab):Nat:=l.countP (fun s=>!nf s)
theorem H2 (n:Nat) (hn:1000000<n) (c:aj) (hr:aK c) (hb:c.Regs≤150) (hl:c.Steps.length≤400):T (eK n c) (fun y=>y=((cf c.Steps:Nat):Int)):=by
  unfold eK
  refine (pU n hn c hb hl).bind (fun y hy=>?_)
  have hy0:=hy.2 hr
  subst hy0
  refine T.ite (fun h=>by simp at h) (fun _=>?_)
  refine T.bind (T.loop c.Steps.length (fun i s=>s=((i:Int),((cf (c.Steps.take i):Nat):Int))) (fun t=>t=((cf c.Steps:Nat):Int)) (fun i s hi hs=>?_) rfl (by omega)) (fun t ht=>T.ret ht)
  subst hs
  unfold iI fc
  refine T.ite (fun h=>?_) (fun h=>?_)
  · have h:=of_decide_eq_true h
    have h:(i:Int)<(c.Steps.length:Int):=h
    have hi':i<c.Steps.length:=by omega
    have hx:ae .i64 (i:Int) 1=((i + 1:Nat):Int):=bM i (by omega)
    have hcl:cf (c.Steps.take i)≤400:=by
      have:=List.countP_le_length (p:=fun s=>!nf s) (l:=c.Steps.take i)
      rw [List.length_take] at this
      unfold cf
      omega
    have hsucc:cf (c.Steps.take (i + 1))=cf (c.Steps.take i) + (if nf c.Steps[i]=true then 0 else 1):=by
      unfold cf
      rw [List.take_succ_eq_append_getElem hi',List.countP_append]
      cases h:nf c.Steps[i] <;> simp [h]
    refine T.get i rfl hi' (T.ite (fun h2=>T.next ⟨hi',?_⟩) (fun h2=>T.next ⟨hi',?_⟩))
    · have h2:(c.Steps[i].Op==7)=true:=h2
      rw [G2] at h2
      show (ae .i64 (i:Int) 1,ae .i64 ((cf (c.Steps.take i):Nat):Int) 1)=_
      rw [hx,bM _ (by omega),hsucc,if_neg (by simpa using h2)]
    · have h2:(c.Steps[i].Op==7)=false:=h2
      rw [G2] at h2
      show (ae .i64 (i:Int) 1,((cf (c.Steps.take i):Nat):Int))=_
      rw [hx,hsucc,if_pos (by simpa using h2)]
      rfl
  · have h:=of_decide_eq_false h
    have h:¬ (i:Int)<(c.Steps.length:Int):=h
    rw [List.take_of_length_le (show c.Steps.length≤i by omega)]
    exact T.fin rfl
end Go.Proofs.Ytaiokpalfdbnnaa
