/- Rules, steps, pairs: both the same. Plain lists, no program in sight. -/
import Derived.Test.YtigcbjbaibcgfaaGreatQ6
import Derived.Test.YtigcbjbaibcgfaaGreatV3
namespace Go.Proofs.YtigcbjbaibcgfaaGreat
open Go A

theorem firstH_uniq {h:Nat→Bool} {r s:Int} (h1:firstH h r) (h2:firstH h s):r=s:=by
 rcases h1 with ⟨a,b⟩ | ⟨i,hi,a,b,c⟩ <;> rcases h2 with ⟨d,e⟩ | ⟨j,hj,d,e,f⟩
 ·omega
 ·rw [b j hj] at e; simp at e
 ·rw [e i hi] at b; simp at b
 ·have:i=j:=by
   by_cases g:i<j
   ·rw [f i g] at b; simp at b
   ·by_cases g2:j<i
    ·rw [c j g2] at e; simp at e
    ·omega
  omega
def hk (n:Nat) (c:Cand) (v:ppo_view) (a b k:Nat):Bool:=aheadB c.Harts.flatten a b&&HH n c v a b k
def wq (n:Nat) (v:ppo_view) (a b:Int):Bool:=(ppo_view_leads2 n v a b).getD false
abbrev VV (c:Cand):fencepostref10_View:=fencepostref10_View.mk c c.Harts.flatten

/-! ### None ahead -/
theorem refH0 (n:Nat) (V:fencepostref10_View) (a b rule:Int) (h:ref_View_ahead n V a b=some false):ref_View_Holds n V a b rule=some false:=by
 unfold ref_View_Holds
 rw [h]
 rfl
theorem refR0 (n:Nat) (V:fencepostref10_View) (a b:Int) (hn:200≤n) (h:ref_View_ahead n V a b=some false):ref_View_Rule n V a b=some 0:=by
 have:T (ref_View_Rule n V a b) (fun r=>r=0):=by
  unfold ref_View_Rule
  refine T.bind (P:=fun (r:Unit⊕Int)=>match r with | .inl _=>True | .inr _=>False) ?_ (fun r hr=>by
   cases r with
   | inl _=>exact T.ret rfl
   | inr _=>exact hr.elim)
  refine T.loop 13 (fun i s=>s=((i + 1:Nat):Int)) _ ?_ rfl (by omega)
  rintro i s hi rfl
  unfold ref_View_Rule_L1
  refine T.ite (fun cd=>?_) (fun _=>T.fin trivial)
  have h13:i<13:=by
   have h:((i + 1:Nat):Int)≤13:=of_decide_eq_true cd
   omega
  refine T.eqb (refH0 n V a b _ h) ?_
  exact T.ite (fun d=>by simp at d) (fun _=>T.ret ⟨h13,addN1 _ (by omega)⟩)
 obtain ⟨r,h1,h2⟩:=this
 rw [h1,h2]
theorem refW0 (n:Nat) (V:fencepostref10_View) (a b:Int) (h:ref_View_ahead n V a b=some false):ref_View_whole n V a b=some false:=by
 unfold ref_View_whole
 rw [h]
 rfl
theorem proL0 (n:Nat) (v:ppo_view) (a b:Int) (h:ppo_view_ahead2 n v a b=some false):ppo_view_leads2 n v a b=some false:=by
 unfold ppo_view_leads2
 rw [h]
 rfl
theorem proR0 (n:Nat) (v:ppo_view) (a b:Int) (h:ppo_view_ahead2 n v a b=some false):ppo_view_rule2 n v a b=some 0:=by
 unfold ppo_view_rule2
 rw [h]
 rfl

section
variable {n:Nat} {c:Cand} {v:ppo_view} (hv:XV c v) (hof:ppo_of n c=some (some v)) (hc:Light c) (hr:RefOK n c) (R:Rules n c v) (hN:c.Harts.flatten.length≤30) (hn:200≤n)
include hr hn
omit hn in
theorem refA_ (a b:Nat) (ha:a<c.Harts.flatten.length) (hb:b<c.Harts.flatten.length):ref_View_ahead n (VV c) (a:Int) (b:Int)=some (aheadB c.Harts.flatten a b):=by
 have key:T (ref_View_ahead n (VV c) (a:Int) (b:Int)) (fun r=>r=aheadB c.Harts.flatten a b):=by
  unfold ref_View_ahead
  refine T.ite (fun d=>absurd (of_decide_eq_true d) (by omega)) (fun _=>?_)
  refine T.ite (fun d=>absurd (of_decide_eq_true d) (by omega)) (fun _=>?_)
  refine T.ite (fun d=>absurd (of_decide_eq_true d) (by dsimp only; omega)) (fun _=>?_)
  refine T.ite (fun d=>absurd (of_decide_eq_true d) (by dsimp only; omega)) (fun _=>?_)
  refine T.get a rfl ha ?_
  refine T.get b rfl hb ?_
  dsimp only
  rw [aheadB_eq ha hb]
  refine T.ite (fun d=>?_) (fun d=>?_)
  ·have hh:=eq_of_beq d
   have hs:=same_base hr a b ha hb hh
   rw [decide_eq_true hh]
   refine T.ite (fun d=>?_) (fun d=>?_)
   ·have d:=of_decide_eq_true d
    rw [decide_eq_true (show a<b by omega)]
    refine T.eqb (refMem_ n _) ?_
    refine T.ite (fun d=>?_) (fun d=>T.ret (by rw [d]; rfl))
    refine T.eqb (refMem_ n _) (T.ret ?_)
    rw [d]
    simp
   ·have d:=of_decide_eq_false d
    rw [decide_eq_false (show ¬ a<b by omega)]
    exact T.ret rfl
  ·have hh:¬ c.Harts.flatten[a].Hart=c.Harts.flatten[b].Hart:=by simpa using d
   rw [decide_eq_false hh]
   exact T.ret (by simp)
 obtain ⟨r,h1,h2⟩:=key
 rw [h1,h2]
include hv hc
theorem refH_ (a b i:Nat) (ha:a<c.Harts.flatten.length) (hb:b<c.Harts.flatten.length) (hi:i<13):ref_View_Holds n (VV c) (a:Int) (b:Int) ((i + 1:Nat):Int)=some (hk n c v a b i):=by
 unfold hk
 cases e:aheadB c.Harts.flatten a b with
 | false =>
  rw [Bool.false_and]
  exact refH0 n _ _ _ _ (by rw [refA_ hr a b ha hb,e])
 | true =>
  rw [Bool.true_and]
  have hab:=(aheadB_lt e).1
  rw [aheadB_eq ha hb] at e
  simp only [Bool.and_eq_true,decide_eq_true_eq] at e
  obtain ⟨_,h1,h2,h3⟩:=e
  obtain ⟨q,q1,q2⟩:=DX hc hr hn a b hab hb h1 h2 h3 i hi
  obtain ⟨r,r1,r2⟩:=RX hc hr hn a b hab hb v hv h1 h2 i hi
  have:HH n c v a b i=r:=by
   unfold HH
   rw [List.getElem?_eq_getElem ha,List.getElem?_eq_getElem hb]
   show (R n v (a:Int) (b:Int) c.Harts.flatten[a] c.Harts.flatten[b] i).getD false=r
   rw [r1]
   rfl
  rw [q1,this]
  congr 1
  cases q <;> cases r <;> simp_all
include R
theorem refRule_ (a b:Nat) (ha:a<c.Harts.flatten.length) (hb:b<c.Harts.flatten.length):ref_View_Rule n (VV c) (a:Int) (b:Int)=some (rv n v a b):=by
 cases e:aheadB c.Harts.flatten a b with
 | false =>
  rw [R.no a b ha hb e]
  exact refR0 n _ _ _ hn (by rw [refA_ hr a b ha hb,e])
 | true =>
  have hf:=R.first a b ha hb e
  have key:T (ref_View_Rule n (VV c) (a:Int) (b:Int)) (fun r=>firstH (HH n c v a b) r):=by
   unfold ref_View_Rule
   refine T.bind (P:=fun (r:Unit⊕Int)=>firstH (HH n c v a b) (match r with | .inl _=>0 | .inr w=>w)) ?_ (fun r hr=>by
    cases r with
    | inl _=>exact T.ret hr
    | inr _=>exact T.ret hr)
   refine T.loop 13 (fun i s=>s=((i + 1:Nat):Int)∧∀ j,j<i→HH n c v a b j=false) _ ?_ ⟨rfl,fun j h=>by omega⟩ (by omega)
   rintro i s hi ⟨rfl,hq⟩
   unfold ref_View_Rule_L1
   refine T.ite (fun cd=>?_) (fun cd=>T.fin (.inl ⟨rfl,fun j hj=>hq j ?_⟩))
   ·have h13:i<13:=by
     have h:((i + 1:Nat):Int)≤13:=of_decide_eq_true cd
     omega
    refine T.eqb (refH_ hv hc hr hn a b i ha hb h13) ?_
    unfold hk
    rw [e,Bool.true_and]
    refine T.ite (fun t=>T.fin (.inr ⟨i,h13,rfl,t,hq⟩)) (fun t=>T.ret ⟨h13,addN1 _ (by omega),fun j hj=>?_⟩)
    by_cases e:j=i
    ·subst e; exact t
    ·exact hq j (by omega)
   ·have h:¬ ((i + 1:Nat):Int)≤13:=of_decide_eq_false cd
    omega
  obtain ⟨r,h1,h2⟩:=key
  rw [h1,firstH_uniq h2 hf]
include hN
theorem whole_ (a b:Nat) (ha:a<c.Harts.flatten.length) (hb:b<c.Harts.flatten.length):ppo_view_leads2 n v (a:Int) (b:Int)=some (wq n v a b)∧ref_View_whole n (VV c) (a:Int) (b:Int)=some (wq n v a b):=by
 unfold wq
 cases e:aheadB c.Harts.flatten a b with
 | false =>
  have h1:=proL0 n v (a:Int) (b:Int) (by rw [aheads_ n c v hv.view a b ha hb,e])
  have h2:=refW0 n (VV c) (a:Int) (b:Int) (by rw [refA_ hr a b ha hb,e])
  rw [h1,h2]
  exact ⟨rfl,rfl⟩
 | true =>
  obtain ⟨r,h1,h2⟩:=leadsX_ R hN hn hv.view a b e
  obtain ⟨q,h3,h4⟩:=wholeX_ (v:=v) (VV c) c.Harts.flatten.length (by omega) hn (fun m k hm hk=>refRule_ hv hc hr R hn m k hm hk) a b (aheadB_lt e).1 hb (by rw [refA_ hr a b ha hb,e])
  rw [h1,h3]
  have:q=r:=by cases q <;> cases r <;> simp_all
  rw [this]
  exact ⟨rfl,rfl⟩

/-! ### Pairs -/
theorem refPairsV_:T (iter (fun s=>ref_Pairs_L1 n (VV c,true) s) n (([]:List (Arr2 Int)),0)) (fun l=>PQ n c.Harts.flatten.length v c.Harts.flatten.length 0 l):=by
 refine T.loop c.Harts.flatten.length (fun i s=>s.2=(i:Int)∧PQ n c.Harts.flatten.length v i 0 s.1) _ ?_ ⟨rfl,⟨fun p hp=>by simp at hp,List.Pairwise.nil,fun x y _ _ _ hb=>by unfold bef at hb; omega,by simp⟩⟩ (by omega)
 rintro i ⟨l,s2⟩ hi ⟨e,hq⟩
 dsimp only at e hq
 subst e
 unfold ref_Pairs_L1
 dsimp only
 refine T.ite (fun cd=>?_) (fun cd=>?_)
 ·have hil:=lt_of cd
  refine T.ite (fun _=>?_) (fun d=>by simp at d)
  rw [addN1 _ (by omega)]
  refine T.bind (P:=fun r=>r.2=(i:Int)∧PQ n c.Harts.flatten.length v (i + 1) 0 r.1) ?_ (fun r hr=>T.ret ⟨hil,by dsimp only; rw [hr.1,addN1 _ (by omega)],hr.2⟩)
  refine T.loop c.Harts.flatten.length (fun k s=>s.2.1=(i:Int)∧s.2.2=((i + 1 + k:Nat):Int)∧i + 1 + k≤c.Harts.flatten.length∧PQ n c.Harts.flatten.length v i (i + 1 + k) s.1) _ ?_ ⟨rfl,rfl,by omega,?_⟩ (by omega)
  ·rintro k ⟨l,s2,s3⟩ hk ⟨e2,e3,hle,hq⟩
   dsimp only at e2 e3 hq
   subst e2 e3
   have fin:(∀ y:Nat,i + 1 + k≤y→y<c.Harts.flatten.length→¬ 0<rv n v i y)→PQ n c.Harts.flatten.length v (i + 1) 0 l:=fun hno=>by
    refine hq.skip _ _ (by omega) (fun x y h=>by unfold bef at *; omega) (fun x y hx hy hp h=>?_)
    unfold bef at *
    by_cases ex:x=i
    ·subst ex
     by_cases hy2:y<x + 1 + k
     ·exact .inr ⟨rfl,hy2⟩
     ·exact absurd hp (hno y (by omega) hy)
    ·omega
   unfold ref_Pairs_L2
   dsimp only
   refine T.ite (fun cd=>?_) (fun cd=>T.fin ⟨rfl,fin (fun y h1 h2=>by have:=ge_of cd; omega)⟩)
   have hb:=lt_of cd
   refine T.get (i + 1 + k) rfl hb ?_
   refine T.get i rfl hil ?_
   refine T.ite (fun ch=>?_) (fun ch=>?_)
   ·refine T.eqb (refRule_ hv hc hr R hn i (i + 1 + k) hil hb) ?_
    refine T.ite (fun cp=>?_) (fun cp=>?_)
    ·have hp:=of_decide_eq_true cp
     refine T.grd (ble_of (by have:=hq.len; omega)) ?_
     exact T.ret ⟨by omega,rfl,addN1 _ (by omega),by omega,hq.push hil hb hp⟩
    ·have hp:¬ 0<rv n v i (i + 1 + k):=of_decide_eq_false cp
     refine T.ret ⟨by omega,rfl,addN1 _ (by omega),by omega,hq.skip _ _ (by omega) (fun x y h=>by unfold bef at *; omega) (fun x y hx hy hpp h=>?_)⟩
     unfold bef at *
     by_cases e:x=i∧y=i + 1 + k
     ·obtain ⟨rfl,rfl⟩:=e
      exact absurd hpp hp
     ·omega
   ·refine T.fin ⟨rfl,fin (fun y h1 h2 hp=>?_)⟩
    have hah:=rv_pos R hil h2 hp
    rw [aheadB_eq hil h2] at hah
    simp only [Bool.and_eq_true,decide_eq_true_eq] at hah
    have:=hart_between hr i (i + 1 + k) y (by omega) h1 h2 hah.2.1
    have hne:¬ (c.Harts.flatten[i + 1 + k].Hart=c.Harts.flatten[i].Hart):=by simpa using ch
    exact hne this
  ·refine hq.skip _ _ (by omega) (fun x y h=>by unfold bef at *; omega) (fun x y hx hy hp h=>?_)
   have hah:=aheadB_lt (rv_pos R hx hy hp)
   unfold bef at *
   omega
 ·have:=ge_of cd
  have:i=c.Harts.flatten.length:=by omega
  subst this
  exact T.fin hq
end
theorem lx_uniq:∀ (l m:List (Arr2 Int)),l.Pairwise lx→m.Pairwise lx→(∀ p,p∈l↔p∈m)→l=m
 | [],[],_,_,_=>rfl
 | [],y::m,_,_,h=>by have:=(h y).2 (by simp); simp at this
 | x::l,[],_,_,h=>by have:=(h x).1 (by simp); simp at this
 | x::l,y::m,h1,h2,h=>by
  rw [List.pairwise_cons] at h1 h2
  have irr:∀ p:Arr2 Int,¬ lx p p:=fun p h=>by unfold lx at h; omega
  have asy:∀ p q:Arr2 Int,lx p q→¬ lx q p:=fun p q h g=>by unfold lx at h g; omega
  have e:x=y:=by
   rcases List.mem_cons.1 ((h x).1 (by simp)) with e | e
   ·exact e
   ·rcases List.mem_cons.1 ((h y).2 (by simp)) with f | f
    ·exact f.symm
    ·exact absurd (h1.1 y f) (asy _ _ (h2.1 x e))
  subst e
  rw [lx_uniq l m h1.2 h2.2 (fun p=>⟨fun hp=>?_,fun hp=>?_⟩)]
  ·rcases List.mem_cons.1 ((h p).1 (List.mem_cons_of_mem _ hp)) with e | e
   ·subst e; exact absurd (h1.1 p hp) (irr p)
   ·exact e
  ·rcases List.mem_cons.1 ((h p).2 (List.mem_cons_of_mem _ hp)) with e | e
   ·subst e; exact absurd (h2.1 p hp) (irr p)
   ·exact e
theorem PQ.uniq {n N:Nat} {v:ppo_view} {l m:List (Arr2 Int)} (h:PQ n N v N 0 l) (k:PQ n N v N 0 m):l=m:=by
 refine lx_uniq l m h.ord k.ord (fun p=>⟨fun hp=>?_,fun hp=>?_⟩)
 ·obtain ⟨x,y,rfl,hx,hy,hr,hb⟩:=h.el p hp
  exact k.all x y hx hy hr hb
 ·obtain ⟨x,y,rfl,hx,hy,hr,hb⟩:=k.el p hp
  exact h.all x y hx hy hr hb
theorem same_refl (n:Nat) (l:List (Arr2 Int)) (hl:l.length<n) (h2:l.length≤100000):kit_Same_2_int n l l=some true:=by
 have:T (kit_Same_2_int n l l) (fun r=>r=true):=by
  unfold kit_Same_2_int
  refine T.ite (fun d=>by simp at d) (fun _=>?_)
  refine T.bind (P:=fun (r:Unit⊕Unit)=>match r with | .inl _=>True | .inr _=>False) ?_ (fun r hr=>by
   cases r with
   | inl _=>exact T.ret rfl
   | inr _=>exact hr.elim)
  refine T.loop l.length (fun i s=>s=(i:Int)) _ ?_ rfl hl
  rintro i s hi rfl
  unfold kit_Same_2_int_L1
  refine T.ite (fun cd=>?_) (fun _=>T.fin trivial)
  have hil:=lt_of cd
  refine T.get i rfl hil ?_
  refine T.get i rfl hil ?_
  refine T.ite (fun d=>by simp [arr36_beq] at d) (fun _=>T.ret ⟨hil,addN1 _ (by omega)⟩)
 obtain ⟨r,h1,h2⟩:=this
 rw [h1,h2]
end Go.Proofs.YtigcbjbaibcgfaaGreat
