/- PpoCalls, on plain lists: no program in sight. -/
import Derived.Test.YtigcbjbaibcgfaaGreatQ7
import Derived.KernelRfl
namespace Go.Proofs.YtigcbjbaibcgfaaGreat
open Go A

set_option maxRecDepth 100000 in
theorem lives_:law_lives 2000=some true:=by kernel_rfl
theorem all_ (n:Nat) (c:Cand) (hc:Light c) (hn:200≤n) (h:ref_Check n c=some 0):ref_All n c=some c.Harts.flatten:=by
 unfold ref_All
 rw [h]
 simp only [Option.bind_some]
 rw [if_neg (by simp),flat_ n c hc hn]
 rfl

/-! ### The program's, rule by rule -/
theorem proH0 (n:Nat) (c:Cand) (v:ppo_view) (hof:ppo_of n c=some (some v)) (a b rule:Int) (h:ppo_view_ahead2 n v a b=some false):ppo_Holds n c a b rule=some false:=by
 have key:T (ppo_Holds n c a b rule) (fun r=>r=false):=by
  unfold ppo_Holds
  refine T.eqb hof ?_
  dsimp only
  refine T.eqb (a:=()) rfl ?_
  refine T.ite (fun _=>T.ret rfl) (fun _=>?_)
  refine T.ite (fun _=>T.ret rfl) (fun _=>?_)
  refine T.eqb h ?_
  exact T.ite (fun _=>T.ret rfl) (fun d=>by simp at d)
 obtain ⟨r,h1,h2⟩:=key
 rw [h1,h2]
theorem proHout (n:Nat) (c:Cand) (v:ppo_view) (hof:ppo_of n c=some (some v)) (a b rule:Int) (h:rule<1∨rule>13):ppo_Holds n c a b rule=some false:=by
 have key:T (ppo_Holds n c a b rule) (fun r=>r=false):=by
  unfold ppo_Holds
  refine T.eqb hof ?_
  dsimp only
  refine T.eqb (a:=()) rfl ?_
  refine T.ite (fun _=>T.ret rfl) (fun d1=>?_)
  refine T.ite (fun _=>T.ret rfl) (fun d2=>?_)
  have d1:=of_decide_eq_false d1
  have d2:=of_decide_eq_false d2
  omega
 obtain ⟨r,h1,h2⟩:=key
 rw [h1,h2]
theorem refHout (n:Nat) (V:fencepostref10_View) (a b rule:Int) (ha:∃ q,ref_View_ahead n V a b=some q) (g1:∃ x,getI V.All a=some x) (g2:∃ y,getI V.All b=some y) (h:rule<1∨rule>13):ref_View_Holds n V a b rule=some false:=by
 obtain ⟨q,hq⟩:=ha
 obtain ⟨x,hx⟩:=g1
 obtain ⟨y,hy⟩:=g2
 have key:T (ref_View_Holds n V a b rule) (fun r=>r=false):=by
  unfold ref_View_Holds
  refine T.eqb hq ?_
  refine T.ite (fun _=>T.ret rfl) (fun _=>?_)
  refine T.eqb hx ?_
  refine T.eqb hy ?_
  iterate 13 refine T.ite (fun d=>by have:=eq_of_beq d; omega) (fun _=>?_)
  exact T.ret rfl
 obtain ⟨r,h1,h2⟩:=key
 rw [h1,h2]
section
variable {n:Nat} {c:Cand} {v:ppo_view} (hv:XV c v) (hof:ppo_of n c=some (some v)) (hc:Light c) (hr:RefOK n c) (R:Rules n c v) (hN:c.Harts.flatten.length≤30) (hn:200≤n)
include hv hof hc hr hn
theorem holds_ (a b i:Nat) (ha:a<c.Harts.flatten.length) (hb:b<c.Harts.flatten.length) (hi:i<13):ppo_Holds n c (a:Int) (b:Int) ((i + 1:Nat):Int)=some (hk n c v a b i):=by
 have key:T (ppo_Holds n c (a:Int) (b:Int) ((i + 1:Nat):Int)) (fun r=>r=hk n c v a b i):=by
  unfold ppo_Holds
  refine T.eqb hof ?_
  dsimp only
  refine T.eqb (a:=()) rfl ?_
  refine T.ite (fun d=>absurd (of_decide_eq_true d) (by omega)) (fun _=>?_)
  refine T.ite (fun d=>absurd (of_decide_eq_true d) (by omega)) (fun _=>?_)
  refine T.eqb (aheads_ n c v hv.view a b ha hb) ?_
  unfold hk
  cases e:aheadB c.Harts.flatten a b with
  | false=>exact T.ite (fun _=>T.ret rfl) (fun d=>by simp at d)
  | true =>
  refine T.ite (fun d=>by simp at d) (fun _=>?_)
  rw [Bool.true_and]
  have hab:=(aheadB_lt e).1
  have hR:=H_ (R_ n c v hv.view hc hr a b hab hb hn i hi)
  have ga:getI v.all (a:Int)=some c.Harts.flatten[a]:=by rw [hv.view.alls]; exact getI_at rfl ha
  have gb:getI v.all (b:Int)=some c.Harts.flatten[b]:=by rw [hv.view.alls]; exact getI_at rfl hb
  have hHH:HH n c v a b i=H n v a b c.Harts.flatten[a] c.Harts.flatten[b] i:=by
   unfold HH
   rw [List.getElem?_eq_getElem ha,List.getElem?_eq_getElem hb]
  rw [subN1 (i + 1) (by omega) (by omega),Nat.add_sub_cancel,hHH]
  have leaf:∀ k:Nat,i=k→T ((getI v.all (a:Int)).bind fun x3=>(getI v.all (b:Int)).bind fun x4=>(Go.Proofs.YtigcbjbaibcgfaaGreat.R n v a b x3 x4 k).bind fun y5=>some y5) (fun r=>r=H n v a b c.Harts.flatten[a] c.Harts.flatten[b] i):=by
   rintro k rfl
   exact T.eqb ga (T.eqb gb (T.eqb hR (T.ret rfl)))
  refine T.ite (fun k=>leaf 0 (by have k2:=eq_of_beq k; omega)) (fun k0=>?_)
  have k0:(i:Int)≠0:=by simpa using k0
  refine T.ite (fun k=>leaf 1 (by have k2:=eq_of_beq k; omega)) (fun k1=>?_)
  have k1:(i:Int)≠1:=by simpa using k1
  refine T.ite (fun k=>leaf 2 (by have k2:=eq_of_beq k; omega)) (fun k2=>?_)
  have k2:(i:Int)≠2:=by simpa using k2
  refine T.ite (fun k=>leaf 3 (by have k2:=eq_of_beq k; omega)) (fun k3=>?_)
  have k3:(i:Int)≠3:=by simpa using k3
  refine T.ite (fun k=>leaf 4 (by have k2:=eq_of_beq k; omega)) (fun k4=>?_)
  have k4:(i:Int)≠4:=by simpa using k4
  refine T.ite (fun k=>leaf 5 (by have k2:=eq_of_beq k; omega)) (fun k5=>?_)
  have k5:(i:Int)≠5:=by simpa using k5
  refine T.ite (fun k=>leaf 6 (by have k2:=eq_of_beq k; omega)) (fun k6=>?_)
  have k6:(i:Int)≠6:=by simpa using k6
  refine T.ite (fun k=>leaf 7 (by have k2:=eq_of_beq k; omega)) (fun k7=>?_)
  have k7:(i:Int)≠7:=by simpa using k7
  refine T.ite (fun k=>leaf 8 (by have k2:=eq_of_beq k; omega)) (fun k8=>?_)
  have k8:(i:Int)≠8:=by simpa using k8
  refine T.ite (fun k=>leaf 9 (by have k2:=eq_of_beq k; omega)) (fun k9=>?_)
  have k9:(i:Int)≠9:=by simpa using k9
  refine T.ite (fun k=>leaf 10 (by have k2:=eq_of_beq k; omega)) (fun k10=>?_)
  have k10:(i:Int)≠10:=by simpa using k10
  refine T.ite (fun k=>leaf 11 (by have k2:=eq_of_beq k; omega)) (fun k11=>?_)
  have k11:(i:Int)≠11:=by simpa using k11
  refine T.ite (fun k=>leaf 12 (by have k2:=eq_of_beq k; omega)) (fun k12=>?_)
  have k12:(i:Int)≠12:=by simpa using k12
  omega
 obtain ⟨r,h1,h2⟩:=key
 rw [h1,h2]

/-! ### Two numbers, of those that there are or beside them -/
omit hof hc hr hn in
theorem out_ (a b:Int) (h:a=-1∨b=-1∨a=(c.Harts.flatten.length:Int)∨b=(c.Harts.flatten.length:Int)):ppo_view_ahead2 n v a b=some false∧ref_View_ahead n (VV c) a b=some false:=by
 have hall:=hv.view.alls
 constructor
 ·have:T (ppo_view_ahead2 n v a b) (fun r=>r=false):=by
   unfold ppo_view_ahead2
   refine T.ite (fun _=>T.ret rfl) (fun d1=>?_)
   refine T.ite (fun _=>T.ret rfl) (fun d2=>?_)
   refine T.ite (fun _=>T.ret rfl) (fun d3=>?_)
   have d1:=of_decide_eq_false d1
   have d2:=of_decide_eq_false d2
   have d3:=of_decide_eq_false d3
   rw [hall] at d2
   omega
  obtain ⟨r,g1,g2⟩:=this
  rw [g1,g2]
 ·have:T (ref_View_ahead n (VV c) a b) (fun r=>r=false):=by
   unfold ref_View_ahead
   refine T.ite (fun _=>T.ret rfl) (fun d1=>?_)
   refine T.ite (fun _=>T.ret rfl) (fun d2=>?_)
   refine T.ite (fun _=>T.ret rfl) (fun d3=>?_)
   refine T.ite (fun _=>T.ret rfl) (fun d4=>?_)
   have d1:=of_decide_eq_false d1
   have d2:=of_decide_eq_false d2
   have d3:=of_decide_eq_false d3
   have d4:=of_decide_eq_false d4
   dsimp only at d3 d4
   omega
  obtain ⟨r,g1,g2⟩:=this
  rw [g1,g2]
include R hN
theorem three_ (a b rule:Int) (h2:-1≤a∧a≤(c.Harts.flatten.length:Int)∧-1≤b∧b≤(c.Harts.flatten.length:Int)) :
  (∃ r,ppo_view_rule2 n v a b=some r∧ref_View_Rule n (VV c) a b=some r)∧(∃ q,ppo_Holds n c a b rule=some q∧ref_View_Holds n (VV c) a b rule=some q)∧∃ w,ppo_view_leads2 n v a b=some w∧ref_View_whole n (VV c) a b=some w:=by
 by_cases ho:a=-1∨b=-1∨a=(c.Harts.flatten.length:Int)∨b=(c.Harts.flatten.length:Int)
 ·obtain ⟨p,r⟩:=out_ hv a b ho
  exact ⟨⟨0,proR0 n v a b p,refR0 n _ a b hn r⟩,⟨false,proH0 n c v hof a b rule p,refH0 n _ a b rule r⟩,false,proL0 n v a b p,refW0 n _ a b r⟩
 ·obtain ⟨x,rfl⟩:∃ x:Nat,a=(x:Int):=⟨a.toNat,by omega⟩
  obtain ⟨y,rfl⟩:∃ y:Nat,b=(y:Int):=⟨b.toNat,by omega⟩
  have hx:x<c.Harts.flatten.length:=by omega
  have hy:y<c.Harts.flatten.length:=by omega
  obtain ⟨w1,w2⟩:=whole_ hv hc hr R hN hn x y hx hy
  refine ⟨⟨_,R.val x y hx hy,refRule_ hv hc hr R hn x y hx hy⟩,?_,_,w1,w2⟩
  by_cases hru:rule<1∨rule>13
  ·exact ⟨false,proHout n c v hof _ _ rule hru,refHout n _ _ _ rule ⟨_,refA_ hr x y hx hy⟩ ⟨_,getI_at rfl hx⟩ ⟨_,getI_at rfl hy⟩ hru⟩
  ·obtain ⟨i,rfl⟩:∃ i:Nat,rule=((i + 1:Nat):Int):=⟨(rule - 1).toNat,by omega⟩
   exact ⟨_,holds_ hv hof hc hr hn x y i hx hy (by omega),refH_ hv hc hr hn x y i hx hy (by omega)⟩

/-! ### Fullness -/
def lastM (all:List Event):Nat→Option Nat
 | 0=>none
 | i + 1=>match all[i]? with
  | some e=>if memB e.Kind=true then some i else lastM all i
  | none=>lastM all i
omit hv hof hc hr R hN hn in
theorem lastM_lt (all:List Event):∀ (i q:Nat),lastM all i=some q→q<i
 | 0,_,h=>by cases h
 | i + 1,q,h=>by
  unfold lastM at h
  split at h
  ·split at h
   ·cases h; omega
   ·have:=lastM_lt all i q h; omega
  ·have:=lastM_lt all i q h; omega
omit hv hof hc hr R hN hn in
theorem lastM_mem {all:List Event} {i:Nat} (hi:i<all.length) (h:memB all[i].Kind=true):lastM all (i + 1)=some i:=by
 unfold lastM
 rw [List.getElem?_eq_getElem hi]
 dsimp only
 rw [if_pos h]
omit hv hof hc hr R hN hn in
theorem lastM_not {all:List Event} {i:Nat} (hi:i<all.length) (h:memB all[i].Kind=false):lastM all (i + 1)=lastM all i:=by
 show (match all[i]? with | some e=>if memB e.Kind=true then some i else lastM all i | none=>lastM all i)=lastM all i
 rw [List.getElem?_eq_getElem hi]
 dsimp only
 rw [if_neg (by rw [h]; exact Bool.false_ne_true)]
def encL:Option Nat→Int
 | none=>-1
 | some q=>(q:Int)
def goodF (n:Nat) (c:Cand) (v:ppo_view) (i:Nat):Prop:=∀ hi:i<c.Harts.flatten.length,memB c.Harts.flatten[i].Kind=true→∀ q,lastM c.Harts.flatten i=some q→∀ hq:q<c.Harts.flatten.length,c.Harts.flatten[q].Hart=c.Harts.flatten[i].Hart→wq n v q i=true
theorem fullP_:T (ppo_Full n c) (fun r=>r=true↔∀ i,i<c.Harts.flatten.length→goodF n c v i):=by
 have hall:=hv.view.alls
 unfold ppo_Full
 refine T.eqb hof ?_
 dsimp only
 refine T.bind (P:=fun (r:Unit⊕Unit)=>match r with | .inl _=>∀ i,i<c.Harts.flatten.length→goodF n c v i | .inr _=>¬ ∀ i,i<c.Harts.flatten.length→goodF n c v i) ?_ (fun r hr=>by
  cases r with
  | inl _=>exact T.ret (tt_iff hr)
  | inr _=>exact T.ret (ff_iff hr))
 refine T.loop c.Harts.flatten.length (fun i s=>s=((i:Int),encL (lastM c.Harts.flatten i))∧∀ j,j<i→goodF n c v j) _ ?_ ⟨rfl,fun j h=>by omega⟩ (by omega)
 rintro i s hi ⟨rfl,hq⟩
 unfold ppo_Full_L1
 dsimp only
 rw [hall]
 refine T.ite (fun cd=>?_) (fun cd=>T.fin (fun j hj=>hq j (by have:=ge_of cd; omega)))
 have hil:=lt_of cd
 refine T.get i rfl hil ?_
 refine T.eqb (eMemory_ n _) ?_
 have put:goodF n c v i→∀ j,j<i + 1→goodF n c v j:=fun h j hj=>by
  by_cases e:j=i
  ·subst e; exact h
  ·exact hq j (by omega)
 refine T.ite (fun hm=>?_) (fun hm=>?_)
 ·have hm:memB c.Harts.flatten[i].Kind=false:=by simpa using hm
  exact T.ret ⟨hil,by rw [lastM_not hil hm,addN1 _ (by omega)],put (fun _ h=>by rw [hm] at h; simp at h)⟩
 have hm:=not_of hm
 have next:goodF n c v i→T (some (.inl (addW .i64 (i:Int) 1,(i:Int))):Option ((Int×Int)⊕(Unit⊕Unit))) (Rd (fun s'=>i<c.Harts.flatten.length∧(s'=(((i + 1:Nat):Int),encL (lastM c.Harts.flatten (i + 1)))∧∀ j,j<i + 1→goodF n c v j)) (fun (r:Unit⊕Unit)=>match r with | .inl _=>∀ i,i<c.Harts.flatten.length→goodF n c v i | .inr _=>¬ ∀ i,i<c.Harts.flatten.length→goodF n c v i)):=fun h =>
  T.ret ⟨hil,by rw [lastM_mem hil hm,addN1 _ (by omega)]; rfl,put h⟩
 cases hl:lastM c.Harts.flatten i with
 | none =>
  refine T.ite (fun d=>absurd (of_decide_eq_true d) (by show ¬ ((-1:Int)≥0); omega)) (fun _=>next (fun _ _ q h=>by rw [hl] at h; cases h))
 | some q =>
  have hqi:=lastM_lt _ _ _ hl
  have hql:q<c.Harts.flatten.length:=by omega
  refine T.ite (fun _=>?_) (fun d=>absurd (show ((q:Nat):Int)≥0 by omega) (of_decide_eq_false d))
  refine T.get q rfl hql ?_
  refine T.ite (fun h4=>?_) (fun h4=>next (fun _ _ q' h hq' e=>?_))
  ·have h4:=eq_of_beq h4
   refine T.eqb (whole_ hv hc hr R hN hn q i hql hil).1 ?_
   refine T.ite (fun d=>T.fin (fun h=>?_)) (fun d=>next (fun _ _ q' h hq' e=>?_))
   ·have:=h i hil hil hm q hl hql h4
    rw [this] at d
    simp at d
   ·rw [hl] at h
    cases h
    exact not_of d
  ·rw [hl] at h
   cases h
   rw [e] at h4
   simp at h4
omit hof in
theorem fullR_ (h0:ref_Of n c=some (VV c,true)):T (ref_Full n c) (fun r=>r=true↔∀ i,i<c.Harts.flatten.length→goodF n c v i):=by
 unfold ref_Full
 refine T.eqb h0 ?_
 refine T.bind (P:=fun (r:Unit⊕Unit)=>match r with | .inl _=>∀ i,i<c.Harts.flatten.length→goodF n c v i | .inr _=>¬ ∀ i,i<c.Harts.flatten.length→goodF n c v i) ?_ (fun r hr=>by
  cases r with
  | inl _=>exact T.ret (tt_iff hr)
  | inr _=>exact T.ret (ff_iff hr))
 refine T.loop c.Harts.flatten.length (fun i s=>s=(encL (lastM c.Harts.flatten i),(i:Int))∧∀ j,j<i→goodF n c v j) _ ?_ ⟨rfl,fun j h=>by omega⟩ (by omega)
 rintro i s hi ⟨rfl,hq⟩
 unfold ref_Full_L1
 dsimp only
 refine T.ite (fun cd=>?_) (fun cd=>T.fin (fun j hj=>hq j (by have:=ge_of cd; omega)))
 have hil:=lt_of cd
 refine T.ite (fun _=>?_) (fun d=>by simp at d)
 refine T.get i rfl hil ?_
 refine T.eqb (refMem_ n _) ?_
 have put:goodF n c v i→∀ j,j<i + 1→goodF n c v j:=fun h j hj=>by
  by_cases e:j=i
  ·subst e; exact h
  ·exact hq j (by omega)
 refine T.ite (fun hm=>?_) (fun hm=>?_)
 ·have hm:memB c.Harts.flatten[i].Kind=false:=by simpa using hm
  exact T.ret ⟨hil,by rw [lastM_not hil hm,addN1 _ (by omega)],put (fun _ h=>by rw [hm] at h; simp at h)⟩
 have hm:=not_of hm
 have next:goodF n c v i→T (some (.inl ((i:Int),addW .i64 (i:Int) 1)):Option ((Int×Int)⊕(Unit⊕Unit))) (Rd (fun s'=>i<c.Harts.flatten.length∧(s'=(encL (lastM c.Harts.flatten (i + 1)),((i + 1:Nat):Int))∧∀ j,j<i + 1→goodF n c v j)) (fun (r:Unit⊕Unit)=>match r with | .inl _=>∀ i,i<c.Harts.flatten.length→goodF n c v i | .inr _=>¬ ∀ i,i<c.Harts.flatten.length→goodF n c v i)):=fun h =>
  T.ret ⟨hil,by rw [lastM_mem hil hm,addN1 _ (by omega)]; rfl,put h⟩
 cases hl:lastM c.Harts.flatten i with
 | none =>
  refine T.ite (fun d=>absurd (of_decide_eq_true d) (by show ¬ ((-1:Int)≥0); omega)) (fun _=>next (fun _ _ q h=>by rw [hl] at h; cases h))
 | some q =>
  have hqi:=lastM_lt _ _ _ hl
  have hql:q<c.Harts.flatten.length:=by omega
  refine T.ite (fun _=>?_) (fun d=>absurd (show ((q:Nat):Int)≥0 by omega) (of_decide_eq_false d))
  refine T.get q rfl hql ?_
  refine T.ite (fun h4=>?_) (fun h4=>next (fun _ _ q' h hq' e=>?_))
  ·have h4:=eq_of_beq h4
   refine T.eqb (whole_ hv hc hr R hN hn q i hql hil).2 ?_
   refine T.ite (fun d=>T.fin (fun h=>?_)) (fun d=>next (fun _ _ q' h hq' e=>?_))
   ·have:=h i hil hil hm q hl hql h4
    rw [this] at d
    simp at d
   ·rw [hl] at h
    cases h
    exact not_of d
  ·rw [hl] at h
   cases h
   rw [e] at h4
   simp at h4
end

/-! ### One that may not be -/
theorem bad_ (n:Nat) (c:Cand) (h1:∃ r,ref_Check n c=some r∧r≠0) (h2:∃ s,cand_Check n c=some s∧s≠0):ppo_of n c=some none∧ref_Of n c=some (fencepostref10_View.mk c [],false):=by
 obtain ⟨r,h1,h3⟩:=h1
 obtain ⟨s,h2,h4⟩:=h2
 constructor
 ·unfold ppo_of
  rw [h2]
  simp only [Option.bind_some]
  rw [if_pos (by simpa using h4)]
 ·unfold ref_Of ref_All
  rw [h1]
  simp only [Option.bind_some]
  rw [if_pos (by simpa using h3)]
  simp only [Option.bind_some]
  have:(r==0)=false:=by simpa using h3
  rw [this]
theorem good_ (n:Nat) (c:Cand) (hc:Light c) (hn:200≤n) (h:ref_Check n c=some 0):ref_Of n c=some (VV c,true):=by
 unfold ref_Of
 rw [all_ n c hc hn h,h]
 rfl
theorem pick_ (n:Nat) (a:Int) (m:Nat) (hm:1≤m) (h2:m≤1000):T (kit_Pick n a (m:Int)) (fun r=>0≤r∧r<(m:Int)):=by
 unfold kit_Pick
 refine T.ite (fun d=>absurd (of_decide_eq_true d) (by omega)) (fun _=>?_)
 refine T.grd (by simp; omega) ?_
 have h1:remW .i64 a (m:Int)<(m:Int):=Int.tmod_lt_of_pos a (by omega)
 have h3:-(m:Int)<remW .i64 a (m:Int):=by
  have:=Int.tmod_lt_of_pos (-a) (show 0<(m:Int) by omega)
  rw [Int.neg_tmod] at this
  show -(m:Int)<a.tmod (m:Int)
  omega
 refine T.ite (fun d=>?_) (fun d=>?_)
 ·have d:=of_decide_eq_true d
  rw [addI (by omega) (by omega)]
  exact T.ret ⟨by omega,by omega⟩
 ·have d:=of_decide_eq_false d
  exact T.ret ⟨by omega,h1⟩
theorem calls_true (c:Cand) (a b rule:Int):law_PpoCalls 2000 c a b rule=some true:=by
 have key:T (law_PpoCalls 2000 c a b rule) (fun b=>b=true):=by
  unfold law_PpoCalls
  refine T.eqb lives_ ?_
  refine T.ite (fun d=>by simp at d) (fun _=>?_)
  refine T.bind (light_ 2000 c 30 (by omega) (by omega)) (fun b' hb=>?_)
  refine T.ite (fun _=>T.ret rfl) (fun d=>?_)
  obtain ⟨hc,hN⟩:=hb (not_of d)
  rcases checks_ 2000 c hc (by omega) with hr | ⟨hb1,hb2⟩
  ·have h0:=refB_ 2000 c hc (by omega) hr
   have hfl:=hr.fromLen
   refine T.eqb h0 ?_
   refine T.ite (fun _=>?_) (fun d=>by simp at d)
   have e2:addW .i64 (c.From.length:Int) 2=((c.From.length + 2:Nat):Int):=addN c.From.length 2 (by omega)
   rw [e2]
   refine T.bind (pick_ 2000 a (c.From.length + 2) (by omega) (by omega)) (fun x hx=>?_)
   refine T.bind (pick_ 2000 b (c.From.length + 2) (by omega) (by omega)) (fun y hy=>?_)
   refine T.eqb (ownCand_ 2000 c hc (by omega)) ?_
   obtain ⟨_,hof,v,rfl,hv⟩:=ofX_ 2000 c hc (by omega) hr
   have R:=rules_ 2000 c v hv.view hc hr (by omega)
   have hO:=good_ 2000 c hc (by omega) h0
   refine T.bind (pairs_ 2000 c v hv.view hof hr R (by omega) (by omega)) (fun l hl=>?_)
   have hll:=hl.len
   have hrp:T (ref_Pairs 2000 c) (fun m=>m=l):=by
    unfold ref_Pairs
    refine T.eqb hO ?_
    exact T.bind (refPairsV_ hv hc hr R hN (by omega)) (fun m hm=>T.ret (hm.uniq hl))
   refine T.bind hrp ?_
   rintro _ rfl
   refine T.eqb (same_refl 2000 _ (by omega) (by omega)) ?_
   refine T.ite (fun _=>?_) (fun d=>by simp at d)
   rw [subI (by omega) (by omega),subI (by omega) (by omega)]
   obtain ⟨⟨r,r1,r2⟩,⟨q,q1,q2⟩,w,w1,w2⟩:=three_ hv hof hc hr R hN (by omega) (x - 1) (y - 1) rule (by omega)
   refine T.eqb (a:=r) (by unfold ppo_Rule; rw [hof]; simp only [Option.bind_some]; rw [r1]; rfl) ?_
   refine T.eqb (a:=r) (by unfold ref_Rule; rw [hO]; simp only [Option.bind_some]; rw [if_neg (by simp),r2]; rfl) ?_
   refine T.ite (fun _=>?_) (fun d=>by simp at d)
   refine T.eqb q1 ?_
   refine T.eqb (a:=q) (by unfold ref_Holds; rw [hO]; simp only [Option.bind_some]; rw [if_pos trivial,q2]; rfl) ?_
   refine T.ite (fun _=>?_) (fun d=>by simp at d)
   refine T.eqb (a:=w) (by unfold ppo_Whole; rw [hof]; simp only [Option.bind_some]; rw [w1]; rfl) ?_
   refine T.eqb (a:=w) (by unfold ref_Whole; rw [hO]; simp only [Option.bind_some]; rw [if_pos trivial,w2]; rfl) ?_
   refine T.ite (fun _=>?_) (fun d=>by simp at d)
   refine T.bind (fullP_ hv hof hc hr R hN (by omega)) (fun f hf=>?_)
   refine T.bind (fullR_ hv hc hr R hN (by omega) hO) (fun g hg=>T.ret ?_)
   have hfg:f=g:=by
    have hi:=hf.trans hg.symm
    clear hf hg
    cases f <;> cases g <;> simp_all
   rw [hfg]
   simp
  ·obtain ⟨hof,hO⟩:=bad_ 2000 c hb1 hb2
   obtain ⟨r0,h0,h1⟩:=hb1
   refine T.eqb h0 ?_
   refine T.ite (fun d=>absurd (eq_of_beq d) h1) (fun _=>?_)
   refine T.eqb (ownCand_ 2000 c hc (by omega)) ?_
   refine T.eqb (a:=[]) (by unfold ppo_Pairs; rw [hof]; rfl) ?_
   have hrp:T (ref_Pairs 2000 c) (fun m=>m=[]):=by
    unfold ref_Pairs
    refine T.eqb hO ?_
    refine T.bind (P:=fun m=>m=[]) ?_ (fun m hm=>T.ret hm)
    refine T.loop 0 (fun i s=>s=([],0)) _ ?_ rfl (by omega)
    rintro i s hi rfl
    unfold ref_Pairs_L1
    exact T.ite (fun d=>absurd (of_decide_eq_true d) (by simp)) (fun _=>T.fin rfl)
   refine T.bind hrp ?_
   rintro _ rfl
   refine T.eqb (same_refl 2000 [] (by simp) (by simp)) ?_
   refine T.ite (fun _=>?_) (fun d=>by simp at d)
   refine T.eqb (a:=0) (by unfold ppo_Rule; rw [hof]; rfl) ?_
   refine T.eqb (a:=0) (by unfold ref_Rule; rw [hO]; rfl) ?_
   refine T.ite (fun _=>?_) (fun d=>by simp at d)
   have hh:T (ppo_Holds 2000 c a b rule) (fun r=>r=false):=by
    unfold ppo_Holds
    refine T.eqb hof ?_
    dsimp only
    refine T.eqb (a:=()) rfl ?_
    refine T.ite (fun _=>T.ret rfl) (fun _=>?_)
    refine T.ite (fun _=>T.ret rfl) (fun _=>?_)
    refine T.eqb (a:=false) rfl ?_
    exact T.ite (fun _=>T.ret rfl) (fun d=>by simp at d)
   refine T.bind hh ?_
   rintro _ rfl
   refine T.eqb (a:=false) (by unfold ref_Holds; rw [hO]; rfl) ?_
   refine T.ite (fun _=>?_) (fun d=>by simp at d)
   refine T.eqb (a:=false) (by unfold ppo_Whole; rw [hof]; rfl) ?_
   refine T.eqb (a:=false) (by unfold ref_Whole; rw [hO]; rfl) ?_
   refine T.ite (fun _=>?_) (fun d=>by simp at d)
   refine T.eqb (a:=false) (by unfold ppo_Full; rw [hof]; rfl) ?_
   have hfu:T (ref_Full 2000 c) (fun r=>r=false):=by
    unfold ref_Full
    refine T.eqb hO ?_
    refine T.bind (P:=fun (r:Unit⊕Unit)=>match r with | .inl _=>True | .inr _=>True) ?_ (fun r _=>by cases r <;> exact T.ret rfl)
    refine T.loop 0 (fun i s=>s=(-1,0)) _ ?_ rfl (by omega)
    rintro i s hi rfl
    unfold ref_Full_L1
    exact T.ite (fun d=>absurd (of_decide_eq_true d) (by simp)) (fun _=>T.fin trivial)
   refine T.bind hfu ?_
   rintro _ rfl
   exact T.ret rfl
 obtain ⟨r,h1,h2⟩:=key
 rw [h1,h2]
end Go.Proofs.YtigcbjbaibcgfaaGreat
