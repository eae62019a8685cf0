/- What leads to what by steps, by the program and by the document. Plain lists, no program in sight. -/
import Derived.Test.YtigcbjbaibcgfaaGreatQ4
import Derived.Test.YtigcbjbaibcgfaaGreatQ5
namespace Go.Proofs.YtigcbjbaibcgfaaGreat
open Go A

/-- By steps. -/
inductive RT (n:Nat) (v:ppo_view) (a:Nat):Nat→Prop
 | z:RT n v a a
 | s {m k:Nat} (h:RT n v a m) (h1:m<k) (h2:0<rv n v m k):RT n v a k
theorem RT.le {n:Nat} {v:ppo_view} {a k:Nat} (h:RT n v a k):a≤k:=by
 induction h with
 | z=>exact Nat.le_refl _
 | s _ h1 _ ih=>omega
theorem RT.inv {n:Nat} {v:ppo_view} {a k:Nat} (h:RT n v a k) (hne:a<k):∃ m,a≤m∧m<k∧RT n v a m∧0<rv n v m k:=by
 cases h with
 | z=>omega
 | s h h1 h2=>exact ⟨_,h.le,h1,h,h2⟩
theorem put_has (x j k:Nat) (h:x.testBit k=true):(x ||| 2 ^ j).testBit k=true:=by rw [Nat.testBit_or,h,Bool.true_or]
theorem put_self (x j:Nat):(x ||| 2 ^ j).testBit j=true:=by rw [Nat.testBit_or,Nat.testBit_two_pow_self,Bool.or_true]
theorem put_only (x j k:Nat) (h:(x ||| 2 ^ j).testBit k=true):x.testBit k=true∨k=j:=by
 rw [Nat.testBit_or,Nat.testBit_two_pow,Bool.or_eq_true] at h
 rcases h with h | h
 ·exact .inl h
 ·exact .inr (of_decide_eq_true h).symm
theorem shlN:∀ b:Nat,b<32→shlW .u64 1 (b:Int)=((2 ^ b:Nat):Int):=by decide +kernel
theorem quo32:∀ k:Nat,k<32→quoW .i64 (k:Int) 64=0:=by decide +kernel
theorem rem32:∀ k:Nat,k<32→remW .i64 (k:Int) 64=(k:Int):=by decide +kernel
theorem sHas_ (n:Nat) (x j:Nat) (h:x<2 ^ 32) (hj:j<32):ppo_set_has n [(x:Int)] (j:Int)=some (x.testBit j):=by
 unfold ppo_set_has
 rw [quo32 j (by omega),rem32 j (by omega)]
 show (grd (decide (0≤(j:Int))) (some (andW .u64 (shrW .u64 (x:Int) (j:Int)) 1==1)))=_
 rw [grd_pos (by simp),shrN x j (by omega)]
 have hl:x / 2 ^ j≤x:=Nat.div_le_self _ _
 have:=andN (x / 2 ^ j) 1 (by omega) (by omega)
 rw [show ((1:Nat):Int)=1 from rfl] at this
 rw [this,Nat.and_one_is_mod,Nat.testBit_eq_decide_div_mod_eq]
 congr 1
 by_cases c:x / 2 ^ j % 2=1
 ·rw [c]; rfl
 ·have h0:x / 2 ^ j % 2=0:=by omega
  rw [decide_eq_false c,h0]
  rfl
theorem sPut_ (n:Nat) (x j:Nat) (h:x<2 ^ 32) (hj:j<32):ppo_set_put_S n (j:Int) [(x:Int)]=some [((x ||| 2 ^ j:Nat):Int)]:=by
 unfold ppo_set_put_S
 rw [quo32 j (by omega),rem32 j (by omega),shlN j hj]
 show (grd (decide (0≤(j:Int))) (some [orW .u64 (x:Int) ((2 ^ j:Nat):Int)]))=_
 rw [grd_pos (by simp),orN x (2 ^ j) h (Nat.pow_lt_pow_right (by omega) hj)]
theorem sCount_ (n:Nat) (x:Nat) (h:x<2 ^ 32) (hn:200≤n):ppo_set_count n [(x:Int)]=some ((oc x:Nat):Int):=by
 have hle:=oc_le x
 have:T (ppo_set_count n [(x:Int)]) (fun r=>r=((oc x:Nat):Int)):=by
  unfold ppo_set_count
  refine T.bind (P:=fun r=>r=((oc x:Nat):Int)) ?_ (fun r hr=>T.ret hr)
  refine T.loop 1 (fun i s=>s=(if i=0 then 0 else ((oc x:Nat):Int),(i:Int))) _ ?_ rfl (by omega)
  rintro i s hi rfl
  unfold ppo_set_count_L1
  refine T.ite (fun cd=>?_) (fun cd=>?_)
  ·have hi1:i<1:=lt_of (m:=1) cd
   have hi0:i=0:=by omega
   subst hi0
   refine T.get 0 rfl (by simp) ?_
   refine T.eqb (count_ n x h) ?_
   refine T.ret ⟨by omega,?_⟩
   simp only [if_true]
   rw [addI (by omega) (by omega),Int.zero_add]
   rfl
  ·have:1≤i:=ge_of (m:=1) cd
   refine T.fin ?_
   dsimp only
   rw [if_neg (by omega)]
 obtain ⟨r,h1,h2⟩:=this
 rw [h1,h2]
def shut (n:Nat) (v:ppo_view) (b x m:Nat):Prop:=∀ k,m<k→k≤b→x.testBit m=true→0<rv n v m k→x.testBit k=true
/-- What is in has been led to. -/
def led (n:Nat) (v:ppo_view) (a x:Nat):Prop:=∀ k,x.testBit k=true→RT n v a k

section
variable {n:Nat} {c:Cand} {v:ppo_view} (R:Rules n c v) (hN:c.Harts.flatten.length≤30) (hn:200≤n)
include R hN hn
theorem leads3_ (a b m x:Nat) (w:Int) (hm:m<b) (hb:b<c.Harts.flatten.length) (hx:x<2 ^ 32) (hl:led n v a x) :
  T (iter (fun s=>ppo_view_leads2_L3 n v (a:Int) (b:Int) w s) n ([(x:Int)],((m + 1:Nat):Int),(m:Int)))
   (fun r=>∃ x':Nat,r=([(x':Int)],(m:Int))∧x'<2 ^ 32∧led n v a x'∧(∀ k,x.testBit k=true→x'.testBit k=true)∧((x'=x∧shut n v b x m)∨oc x<oc x')):=by
 refine T.loop (b - m) (fun i s=>∃ x':Nat,s=([(x':Int)],((m + 1 + i:Nat):Int),(m:Int))∧x'<2 ^ 32∧led n v a x'∧(∀ k,x.testBit k=true→x'.testBit k=true) ∧
  ((x'=x∧∀ k,m<k→k<m + 1 + i→x.testBit m=true→0<rv n v m k→x.testBit k=true)∨oc x<oc x')) _ ?_ ⟨x,rfl,hx,hl,fun _ h=>h,.inl ⟨rfl,fun k h1 h2=>by omega⟩⟩ (by omega)
 rintro i s hi ⟨x',rfl,hx',hl',hs,ho⟩
 unfold ppo_view_leads2_L3
 refine T.ite (fun cd=>?_) (fun cd=>?_)
 ·have hk:m + 1 + i≤b:=by
   have:((m + 1 + i:Nat):Int)≤(b:Int):=by simpa using cd
   omega
  dsimp only
  refine T.eqb (sHas_ n x' m hx' (by omega)) ?_
  refine T.ite (fun hm1=>?_) (fun hm1=>?_)
  ·refine T.eqb (sHas_ n x' (m + 1 + i) hx' (by omega)) ?_
   have next:(∀ (h:x'=x),x.testBit m=true→0<rv n v m (m + 1 + i)→x.testBit (m + 1 + i)=true) →
     T (some (.inl ([(x':Int)],addW .i64 ((m + 1 + i:Nat):Int) 1,(m:Int))):Option ((List Int×Int×Int)⊕(List Int×Int))) (Rd (fun s'=>i<b - m∧∃ x':Nat,s'=([(x':Int)],((m + 1 + (i + 1):Nat):Int),(m:Int))∧x'<2 ^ 32∧led n v a x'∧(∀ k,x.testBit k=true→x'.testBit k=true) ∧
      ((x'=x∧∀ k,m<k→k<m + 1 + (i + 1)→x.testBit m=true→0<rv n v m k→x.testBit k=true)∨oc x<oc x'))
      (fun r=>∃ x':Nat,r=([(x':Int)],(m:Int))∧x'<2 ^ 32∧led n v a x'∧(∀ k,x.testBit k=true→x'.testBit k=true)∧((x'=x∧shut n v b x m)∨oc x<oc x'))):=by
    intro hk2
    refine T.ret ⟨by omega,x',by rw [addN1 _ (by omega)]; rfl,hx',hl',hs,?_⟩
    rcases ho with ⟨e,ho⟩ | ho
    ·refine .inl ⟨e,fun k h1 h2 h3 h4=>?_⟩
     by_cases ek:k=m + 1 + i
     ·subst ek; exact hk2 e h3 h4
     ·exact ho k h1 (by omega) h3 h4
    ·exact .inr ho
   refine T.ite (fun hk1=>?_) (fun hk1=>?_)
   ·refine T.eqb (R.val m (m + 1 + i) (by omega) (by omega)) ?_
    refine T.ite (fun hr=>?_) (fun hr=>?_)
    ·have hr:=of_decide_eq_true hr
     refine T.eqb (sPut_ n x' (m + 1 + i) hx' (by omega)) ?_
     have hoc:=oc_put x' (m + 1 + i) hx' (by omega) (by simpa using hk1)
     refine T.ret ⟨by omega,x' ||| 2 ^ (m + 1 + i),by rw [addN1 _ (by omega)]; rfl,put_lt _ _ hx' (by omega),fun k h=>?_,fun k h=>put_has _ _ _ (hs k h),.inr ?_⟩
     ·rcases put_only _ _ _ h with h | rfl
      ·exact hl' k h
      ·exact .s (hl' m hm1) (by omega) hr
     ·rcases ho with ⟨e,_⟩ | ho
      ·subst e; omega
      ·omega
    ·have:=of_decide_eq_false hr
     exact next (fun _ _ h=>absurd h this)
   ·exact next (fun e _ _=>by subst e; exact not_of hk1)
  ·refine T.fin ⟨x',rfl,hx',hl',hs,?_⟩
   rcases ho with ⟨e,_⟩ | ho
   ·subst e
    exact .inl ⟨rfl,fun k _ _ h3=>by rw [h3] at hm1; simp at hm1⟩
   ·exact .inr ho
 ·have hk:¬ m + 1 + i≤b:=by
   have:¬ ((m + 1 + i:Nat):Int)≤(b:Int):=by simpa using cd
   omega
  refine T.fin ⟨x',rfl,hx',hl',hs,?_⟩
  rcases ho with ⟨e,ho⟩ | ho
  ·exact .inl ⟨e,fun k h1 h2 h3 h4=>ho k h1 (by omega) h3 h4⟩
  ·exact .inr ho
theorem leads2_ (a b x:Nat) (w:Int) (hab:a<b) (hb:b<c.Harts.flatten.length) (hx:x<2 ^ 32) (hl:led n v a x) :
  T (iter (fun s=>ppo_view_leads2_L2 n v (a:Int) (b:Int) w s) n ([(x:Int)],(a:Int)))
   (fun r=>∃ x':Nat,r=[(x':Int)]∧x'<2 ^ 32∧led n v a x'∧(∀ k,x.testBit k=true→x'.testBit k=true)∧((x'=x∧∀ m,a≤m→m<b→shut n v b x m)∨oc x<oc x')):=by
 refine T.loop (b - a) (fun i s=>∃ x':Nat,s=([(x':Int)],((a + i:Nat):Int))∧x'<2 ^ 32∧led n v a x'∧(∀ k,x.testBit k=true→x'.testBit k=true) ∧
  ((x'=x∧∀ m,a≤m→m<a + i→shut n v b x m)∨oc x<oc x')) _ ?_ ⟨x,rfl,hx,hl,fun _ h=>h,.inl ⟨rfl,fun k h1 h2=>by omega⟩⟩ (by omega)
 rintro i s hi ⟨x',rfl,hx',hl',hs,ho⟩
 unfold ppo_view_leads2_L2
 refine T.ite (fun cd=>?_) (fun cd=>?_)
 ·have hk:a + i<b:=lt_of cd
  dsimp only
  rw [addN1 _ (by omega)]
  refine T.bind (leads3_ R hN hn a b (a + i) x' w hk hb hx' hl') ?_
  rintro r ⟨x'',rfl,h1,h1',h2,h3⟩
  refine T.ret ⟨by omega,x'',by dsimp only; rw [addN1 _ (by omega)]; rfl,h1,h1',fun k h=>h2 k (hs k h),?_⟩
  rcases ho with ⟨e,ho⟩ | ho
  ·subst e
   rcases h3 with ⟨e,h3⟩ | h3
   ·refine .inl ⟨e,fun m g1 g2=>?_⟩
    by_cases em:m=a + i
    ·subst em; exact h3
    ·exact ho m g1 (by omega)
   ·exact .inr h3
  ·rcases h3 with ⟨e,_⟩ | h3
   ·subst e; exact .inr ho
   ·exact .inr (by omega)
 ·have hk:b≤a + i:=ge_of cd
  refine T.fin ⟨x',rfl,hx',hl',hs,?_⟩
  rcases ho with ⟨e,ho⟩ | ho
  ·exact .inl ⟨e,fun m g1 g2=>ho m g1 (by omega)⟩
  ·exact .inr ho
theorem leads1_ (a b x:Nat) (hab:a<b) (hb:b<c.Harts.flatten.length) (hx:x<2 ^ 32) (hl:led n v a x) (ha:x.testBit a=true) (h1:0<oc x) :
  T (iter (fun s=>ppo_view_leads2_L1 n v (a:Int) (b:Int) s) n ([(x:Int)],0))
   (fun r=>∃ x':Nat,r=[(x':Int)]∧x'<2 ^ 32∧led n v a x'∧x'.testBit a=true∧∀ m,a≤m→m<b→shut n v b x' m):=by
 refine T.loop 33 (fun i s=>∃ x' w:Nat,s=([(x':Int)],(w:Int))∧x'<2 ^ 32∧led n v a x'∧x'.testBit a=true∧i≤w∧w≤oc x'∧0<oc x'∧(w=oc x'→∀ m,a≤m→m<b→shut n v b x' m)) _ ?_
  ⟨x,0,rfl,hx,hl,ha,by omega,by omega,h1,fun h=>by omega⟩ (by omega)
 rintro i s hi ⟨x',w,rfl,hx',hl',ha',hw,hw2,h0,hsh⟩
 have hle:=oc_le x'
 unfold ppo_view_leads2_L1
 refine T.eqb (sCount_ n x' hx' hn) ?_
 refine T.ite (fun cd=>?_) (fun cd=>?_)
 ·have hne:w≠oc x':=by
   have:(w:Int)≠((oc x':Nat):Int):=by simpa using cd
   omega
  refine T.eqb (sCount_ n x' hx' hn) ?_
  refine T.bind (leads2_ R hN hn a b x' _ hab hb hx' hl') ?_
  rintro r ⟨x'',rfl,g1,g1',g2,g3⟩
  refine T.ret ⟨by omega,x'',oc x',rfl,g1,g1',g2 a ha',by omega,?_⟩
  rcases g3 with ⟨e,g3⟩ | g3
  ·subst e
   exact ⟨by omega,h0,fun _=>g3⟩
  ·exact ⟨by omega,by omega,fun h=>by omega⟩
 ·have he:w=oc x':=by
   have:(w:Int)=((oc x':Nat):Int):=by simpa using cd
   omega
  exact T.fin ⟨x',rfl,hx',hl',ha',hsh he⟩
theorem leadsX_ (hv:View c v) (a b:Nat) (h:aheadB c.Harts.flatten a b=true) :
  T (ppo_view_leads2 n v (a:Int) (b:Int)) (fun r=>r=true↔RT n v a b):=by
 obtain ⟨hab,hb⟩:=aheadB_lt h
 unfold ppo_view_leads2
 refine T.eqb (aheads_ n c v hv a b (by omega) hb) ?_
 rw [h]
 refine T.ite (fun d=>by simp at d) (fun _=>?_)
 rw [hv.alls,quo32 _ (by omega)]
 refine T.grd (by decide +kernel) ?_
 refine T.eqb (sPut_ n 0 a (by omega) (by omega)) ?_
 have hoc:=oc_put 0 a (by omega) (by omega) (by simp)
 have hl0:led n v a (0 ||| 2 ^ a):=fun k hk=>by
  rcases put_only _ _ _ hk with h | rfl
  ·simp at h
  ·exact .z
 refine T.bind (leads1_ R hN hn a b (0 ||| 2 ^ a) hab hb (put_lt 0 a (by omega) (by omega)) hl0 (put_self 0 a) (by omega)) ?_
 rintro r ⟨x,rfl,hx,hl,ha,hs⟩
 refine T.eqb (sHas_ n x b hx (by omega)) ?_
 refine T.ret ⟨fun h=>hl b h,fun hr=>?_⟩
 have all:∀ k,RT n v a k→k≤b→x.testBit k=true:=fun k hk=>by
  induction hk with
  | z=>exact fun _=>ha
  | s h h1 h2 ih=>exact fun hkb=>hs _ h.le (by omega) _ h1 hkb (ih (by omega)) h2
 exact all b hr (Nat.le_refl _)
end

/-! ### The document's map -/
theorem beqI_eq (a b:Int):beqI a b=decide (a=b):=by
 unfold beqI
 exact (decide_eq_decide.2 Iff.rfl:decide (a=b)=decide (a=b))
theorem mgetI (l:List (Int×Int)) (p q b:Int):mget beqI (mput beqI l p b) q=if q=p then some b else mget beqI l q:=by
 induction l with
 | nil =>
  unfold mput mget
  rw [beqI_eq]
  by_cases e:q=p
  ·simp [e]
  ·simp [e,mget]
 | cons x l ih =>
  unfold mput
  rw [beqI_eq]
  by_cases h:p=x.1
  ·rw [if_pos (by simpa using h)]
   unfold mget
   rw [beqI_eq,beqI_eq]
   by_cases e:q=p
   ·simp [e]
   ·have:¬ q=x.1:=by rw [← h]; exact e
    simp [e,this]
  ·rw [if_neg (by simpa using h)]
   unfold mget
   rw [beqI_eq]
   by_cases e:q=x.1
   ·have:¬ q=p:=by rw [e]; exact fun g=>h g.symm
    simp [e]
    intro g
    exact absurd g.symm h
   ·simp [e,ih]
def inM (l:List (Int×Int)) (k:Nat):Prop:=((mget beqI l (k:Int)).getD 0 != 0)=true
theorem inM_put (l:List (Int×Int)) (p k:Nat):inM (mput beqI l (p:Int) 1) k↔(k=p∨inM l k):=by
 unfold inM
 rw [mgetI]
 by_cases e:k=p
 ·subst e
  rw [if_pos rfl]
  simp
 ·rw [if_neg (by omega)]
  simp [e]
theorem inM_nil (k:Nat):¬ inM [] k:=by unfold inM; simp [mget]
theorem wholeX_ {n:Nat} {v:ppo_view} (V:fencepostref10_View) (N:Nat) (hN:N≤60) (hn:200≤n) (hR:∀ m k:Nat,m<N→k<N→ref_View_Rule n V (m:Int) (k:Int)=some (rv n v m k)) (a b:Nat) (hab:a<b) (hb:b<N) (hah:ref_View_ahead n V (a:Int) (b:Int)=some true) :
  T (ref_View_whole n V (a:Int) (b:Int)) (fun r=>r=true↔RT n v a b):=by
 unfold ref_View_whole
 refine T.eqb hah ?_
 refine T.ite (fun d=>by simp at d) (fun _=>?_)
 rw [addN1 _ (by omega)]
 refine T.bind (P:=fun l=>∀ k,a≤k→k≤b→(inM l k↔RT n v a k)) ?_ (fun l hl=>T.ret (hl b (by omega) (Nat.le_refl _)))
 refine T.loop (b - a) (fun i s=>s.2=((a + 1 + i:Nat):Int)∧∀ k,a≤k→(inM s.1 k↔(k<a + 1 + i∧RT n v a k))) _ ?_ ⟨rfl,fun k hk=>?_⟩ (by omega)
 ·rintro i ⟨l,s2⟩ hi ⟨e,hq⟩
  dsimp only at e hq
  subst e
  unfold ref_View_whole_L1
  refine T.ite (fun cd=>?_) (fun cd=>T.fin (fun k h1 h2=>?_))
  case _ =>
   have hk:a + 1 + i≤b:=by
    have:((a + 1 + i:Nat):Int)≤(b:Int):=of_decide_eq_true cd
    omega
   generalize hp:a + 1 + i=p at *
   refine T.bind (P:=fun r=>r.2=(p:Int)∧∀ k,a≤k→(inM r.1 k↔(k<p + 1∧RT n v a k))) ?_ (fun r hr=>T.ret ⟨by omega,by dsimp only; rw [hr.1,addN1 _ (by omega)]; congr 1; omega,fun k hk=>by dsimp only; rw [show a + 1 + (i + 1)=p + 1 by omega]; exact hr.2 k hk⟩)
   refine T.loop (p - a) (fun j s=>s.2.1=(p:Int)∧s.2.2=((a + j:Nat):Int)∧((s.1=l∧∀ m,a≤m→m<a + j→¬ (RT n v a m∧0<rv n v m p))∨(s.1=mput beqI l (p:Int) 1∧RT n v a p))) _ ?_ ⟨rfl,rfl,.inl ⟨rfl,fun m h1 h2=>by omega⟩⟩ (by omega)
   rintro j ⟨l',s2,s3⟩ hj ⟨e2,e3,ho⟩
   dsimp only at e2 e3 ho
   subst e2 e3
   have finM:T (some (.inr (l',(p:Int))):Option ((List (Int×Int)×Int×Int)⊕(List (Int×Int)×Int))) (Rd (fun s'=>j<p - a∧(s'.2.1=(p:Int)∧s'.2.2=((a + (j + 1):Nat):Int)∧((s'.1=l∧∀ m,a≤m→m<a + (j + 1)→¬ (RT n v a m∧0<rv n v m p))∨(s'.1=mput beqI l (p:Int) 1∧RT n v a p)))) (fun r=>r.2=(p:Int)∧∀ k,a≤k→(inM r.1 k↔(k<p + 1∧RT n v a k))))∨(l'=l∧a + j<p):=by
    rcases ho with ⟨rfl,ho⟩ | ⟨rfl,hrt⟩
    ·by_cases g:a + j<p
     ·exact .inr ⟨rfl,g⟩
     ·refine .inl (T.fin ⟨rfl,fun k hk=>?_⟩)
      rw [hq k hk]
      refine ⟨fun h=>⟨by omega,h.2⟩,fun h=>⟨?_,h.2⟩⟩
      by_cases e:k=p
      ·subst e
       obtain ⟨m,h1,h2,h3,h4⟩:=h.2.inv (by omega)
       exact absurd ⟨h3,h4⟩ (ho m h1 (by omega))
      ·omega
    ·refine .inl (T.fin ⟨rfl,fun k hk=>?_⟩)
     dsimp only
     rw [inM_put,hq k hk]
     refine ⟨fun h=>?_,fun h=>?_⟩
     ·rcases h with rfl | h
      ·exact ⟨by omega,hrt⟩
      ·exact ⟨by omega,h.2⟩
     ·by_cases e:k=p
      ·exact .inl e
      ·exact .inr ⟨by omega,h.2⟩
   unfold ref_View_whole_L2
   refine T.ite (fun cd=>?_) (fun cd=>?_)
   case _ =>
    have hlt:a + j<p:=lt_of cd
    dsimp only
    refine T.ite (fun d0=>?_) (fun d0=>?_)
    ·have hl:l'=l:=by
      rcases ho with ⟨h,_⟩ | ⟨h,_⟩
      ·exact h
      ·subst h
       have:inM (mput beqI l (p:Int) 1) p:=(inM_put _ _ _).2 (.inl rfl)
       unfold inM at this
       rw [eq_of_beq d0] at this
       simp at this
     have ho':∀ m,a≤m→m<a + j→¬ (RT n v a m∧0<rv n v m p):=by
      rcases ho with ⟨_,h⟩ | ⟨h6,_⟩
      ·exact h
      ·exfalso
       have:inM l' p:=by rw [h6]; exact (inM_put _ _ _).2 (.inl rfl)
       unfold inM at this
       rw [eq_of_beq d0] at this
       simp at this
     subst hl
     have next:¬ (RT n v a (a + j)∧0<rv n v (a + j) p)→T (some (.inl (l',(p:Int),addW .i64 ((a + j:Nat):Int) 1)):Option ((List (Int×Int)×Int×Int)⊕(List (Int×Int)×Int))) (Rd (fun s'=>j<p - a∧(s'.2.1=(p:Int)∧s'.2.2=((a + (j + 1):Nat):Int)∧((s'.1=l'∧∀ m,a≤m→m<a + (j + 1)→¬ (RT n v a m∧0<rv n v m p))∨(s'.1=mput beqI l' (p:Int) 1∧RT n v a p)))) (fun r=>r.2=(p:Int)∧∀ k,a≤k→(inM r.1 k↔(k<p + 1∧RT n v a k)))):=fun hno =>
      T.ret ⟨by omega,rfl,by dsimp only; rw [addN1 _ (by omega)]; rfl,.inl ⟨rfl,fun m h1 h2=>by
       by_cases e:m=a + j
       ·subst e; exact hno
       ·exact ho' m h1 (by omega)⟩⟩
     refine T.ite (fun d1=>?_) (fun d1=>next (fun h=>?_))
     ·have hrt:=((hq (a + j) (by omega)).1 d1).2
      refine T.eqb (hR (a + j) p (by omega) (by omega)) ?_
      refine T.ite (fun d2=>?_) (fun d2=>next (fun h=>absurd h.2 (of_decide_eq_false d2)))
      exact T.ret ⟨by omega,rfl,by dsimp only; rw [addN1 _ (by omega)]; rfl,.inr ⟨rfl,.s hrt hlt (of_decide_eq_true d2)⟩⟩
     ·have:inM l' (a + j):=(hq (a + j) (by omega)).2 ⟨by omega,h.1⟩
      exact ff_of d1 this
    ·rcases finM with h | ⟨rfl,_⟩
     ·exact h
     ·exfalso
      have:¬ inM l' p:=fun h=>by have:=(hq p (by omega)).1 h; omega
      apply this
      unfold inM
      simpa using d0
   case _ =>
    have hge:=ge_of cd
    rcases finM with h | ⟨_,h⟩
    ·exact h
    ·omega
  case _ =>
   have hk:¬ a + 1 + i≤b:=by
    have:¬ ((a + 1 + i:Nat):Int)≤(b:Int):=of_decide_eq_false cd
    omega
   dsimp only
   rw [hq k h1]
   exact ⟨fun h=>h.2,fun h=>⟨by omega,h⟩⟩
 ·dsimp only
  rw [inM_put]
  refine ⟨fun h=>?_,fun h=>.inl (by omega)⟩
  rcases h with rfl | h
  ·exact ⟨by omega,.z⟩
  ·exact absurd h (inM_nil k)
end Go.Proofs.YtigcbjbaibcgfaaGreat
