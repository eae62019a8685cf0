/- Copies; the list of the pairs. Plain lists, no program in sight. -/
import Derived.Test.YtigcbjbaibcgfaaGreatV1
namespace Go.Proofs.YtigcbjbaibcgfaaGreat
open Go A

/-! ### Copies -/
theorem ownInt_ (n:Nat) (l:List Int) (h:l.length≤1000):kit_Own_int n l=some l:=by
 unfold kit_Own_int
 rw [grd_pos (ble_of (by omega))]
theorem ownEvent_ (n:Nat) (e:Event) (h:small e):kit_OwnEvent n e=some e:=by
 unfold small at h
 unfold kit_OwnEvent kit_OwnDeps
 rw [ownInt_ n _ (by omega),ownInt_ n _ (by omega),ownInt_ n _ (by omega)]
 rfl
/-! ### Harts in a row -/
theorem FL_mono (l:List (List Event)):∀ (d i:Nat),(FL l i).length≤(FL l (i + d)).length
 | 0,i=>Nat.le_refl _
 | d + 1,i=>by
  refine Nat.le_trans (FL_mono l d i) ?_
  by_cases h:i + d<l.length
  ·rw [← Nat.add_assoc,FL_succ h,List.length_append]
   omega
  ·rw [FL_all l (by omega),FL_all l (by omega)]
   omega
theorem hart_mono {n:Nat} {c:Cand} (h:RefOK n c) (a b:Nat) (hab:a≤b) (hb:b<c.Harts.flatten.length):(c.Harts.flatten[a]'(by omega)).Hart≤c.Harts.flatten[b].Hart:=by
 obtain ⟨q,hq,k,hk,e1,e2⟩:=flat_at c.Harts a (by omega)
 obtain ⟨r,hr,j,hj,e3,e4⟩:=flat_at c.Harts b hb
 rw [e2,e4,(h.rows q hq k hk).2.1,(h.rows r hr j hj).2.1]
 by_cases hqr:q≤r
 ·omega
 ·exfalso
  have h1:=FL_succ (l:=c.Harts) hr
  have h2:=FL_mono c.Harts (q - (r + 1)) (r + 1)
  rw [show r + 1 + (q - (r + 1))=q by omega,h1,List.length_append] at h2
  omega
theorem hart_between {n:Nat} {c:Cand} (h:RefOK n c) (a k b:Nat) (h1:a≤k) (h2:k≤b) (hb:b<c.Harts.flatten.length) (e:(c.Harts.flatten[a]'(by omega)).Hart=c.Harts.flatten[b].Hart) :
  (c.Harts.flatten[k]'(by omega)).Hart=(c.Harts.flatten[a]'(by omega)).Hart:=by
 have g1:=hart_mono h a k h1 (by omega)
 have g2:=hart_mono h k b h2 hb
 omega

/-! ### Pairs -/
def lx (p q:Arr2 Int):Prop:=p.e0<q.e0∨(p.e0=q.e0∧p.e1<q.e1)
def bef (x y a b:Nat):Prop:=x<a∨(x=a∧y<b)
structure PQ (n:Nat) (N:Nat) (v:ppo_view) (a b:Nat) (l:List (Arr2 Int)):Prop where
 el:∀ p∈l,∃ x y:Nat,p=Arr2.mk (x:Int) (y:Int)∧x<N∧y<N∧0<rv n v x y∧bef x y a b
 ord:l.Pairwise lx
 all:∀ x y:Nat,x<N→y<N→0<rv n v x y→bef x y a b→Arr2.mk (x:Int) (y:Int)∈l
 len:l.length≤60 * a + b
theorem PQ.skip {n N:Nat} {v:ppo_view} {a b:Nat} {l:List (Arr2 Int)} (h:PQ n N v a b l) (a' b':Nat) (h1:60 * a + b≤60 * a' + b') (h2:∀ x y,bef x y a b→bef x y a' b')
  (h3:∀ x y:Nat,x<N→y<N→0<rv n v x y→bef x y a' b'→bef x y a b):PQ n N v a' b' l :=
 ⟨fun p hp=>by
  obtain ⟨x,y,e,g1,g2,g3,g4⟩:=h.el p hp
  exact ⟨x,y,e,g1,g2,g3,h2 x y g4⟩,h.ord,fun x y hx hy hp hb=>h.all x y hx hy hp (h3 x y hx hy hp hb),by have:=h.len; omega⟩
theorem PQ.push {n N:Nat} {v:ppo_view} {a b:Nat} {l:List (Arr2 Int)} (h:PQ n N v a b l) (ha:a<N) (hb:b<N) (hp:0<rv n v a b):PQ n N v a (b + 1) (l++[Arr2.mk (a:Int) (b:Int)]):=by
 refine ⟨fun p hq=>?_,?_,fun x y hx hy hq hb'=>?_,?_⟩
 ·rcases List.mem_append.1 hq with hq | hq
  ·obtain ⟨x,y,e,g1,g2,g3,g4⟩:=h.el p hq
   exact ⟨x,y,e,g1,g2,g3,by unfold bef at *; omega⟩
  ·exact ⟨a,b,by simpa using hq,ha,hb,hp,by unfold bef; omega⟩
 ·refine List.pairwise_append.2 ⟨h.ord,List.pairwise_singleton _ _,fun p hq q hr=>?_⟩
  obtain ⟨x,y,e,_,_,_,g4⟩:=h.el p hq
  have hr:q=Arr2.mk (a:Int) (b:Int):=by simpa using hr
  subst e hr
  unfold lx
  unfold bef at g4
  dsimp only
  omega
 ·by_cases e:x=a∧y=b
  ·obtain ⟨rfl,rfl⟩:=e
   simp
  ·exact List.mem_append_left _ (h.all x y hx hy hq (by unfold bef at *; omega))
 ·rw [List.length_append]
  have:=h.len
  simp
  omega
theorem pairs_ (n:Nat) (c:Cand) (v:ppo_view) (hv:View c v) (hof:ppo_of n c=some (some v)) (hr:RefOK n c) (R:Rules n c v) (hN:c.Harts.flatten.length≤60) (hn:200≤n) :
  T (ppo_Pairs n c) (fun l=>PQ n c.Harts.flatten.length v c.Harts.flatten.length 0 l):=by
 have hall:=hv.alls
 unfold ppo_Pairs
 refine T.eqb hof ?_
 dsimp only
 refine T.bind (P:=fun l=>PQ n c.Harts.flatten.length v c.Harts.flatten.length 0 l) ?_ (fun r hr=>T.ret hr)
 refine T.loop c.Harts.flatten.length (fun i s=>s.2=(i:Int)∧PQ n c.Harts.flatten.length v i 0 s.1) _ ?_ ⟨rfl,⟨fun p hp=>by simp at hp,List.Pairwise.nil,fun x y _ _ _ hb=>by unfold bef at hb; omega,by simp⟩⟩ (by omega)
 rintro i ⟨l,s2⟩ hi ⟨e,hq⟩
 dsimp only at e hq
 subst e
 unfold ppo_Pairs_L1
 refine T.ite (fun cd=>?_) (fun cd=>?_)
 ·rw [hall] at cd
  have hil:=lt_of cd
  refine T.eqb (a:=c.Harts.flatten[i]) (by rw [hall]; exact getI_at rfl hil) ?_
  dsimp only
  rw [addN1 _ (by omega)]
  refine T.bind (P:=fun r=>r.2=(i:Int)∧PQ n c.Harts.flatten.length v (i + 1) 0 r.1) ?_ (fun r hr=>T.ret ⟨hil,by dsimp only; rw [hr.1,addN1 _ (by omega)],hr.2⟩)
  refine T.loop c.Harts.flatten.length (fun k s=>s.2.1=(i:Int)∧s.2.2.1=(i:Int)∧s.2.2.2=((i + 1 + k:Nat):Int)∧i + 1 + k≤c.Harts.flatten.length∧PQ n c.Harts.flatten.length v i (i + 1 + k) s.1) _ ?_ ⟨rfl,rfl,rfl,by omega,?_⟩ (by omega)
  ·rintro k ⟨l,s2,s3,s4⟩ hk ⟨e2,e3,e4,hle,hq⟩
   dsimp only at e2 e3 e4 hq
   subst e2 e3 e4
   have fin:(∀ y:Nat,i + 1 + k≤y→y<c.Harts.flatten.length→¬ 0<rv n v i y)→PQ n c.Harts.flatten.length v (i + 1) 0 l:=fun hno=>by
    refine hq.skip _ _ (by omega) (fun x y h=>by unfold bef at *; omega) (fun x y hx hy hp h=>?_)
    unfold bef at *
    by_cases ex:x=i
    ·subst ex
     by_cases hy2:y<x + 1 + k
     ·exact .inr ⟨rfl,hy2⟩
     ·exact absurd hp (hno y (by omega) hy)
    ·omega
   unfold ppo_Pairs_L2
   dsimp only
   rw [hall]
   refine T.ite (fun cd=>?_) (fun cd=>T.fin ⟨rfl,fin (fun y h1 h2=>by have:=ge_of cd; omega)⟩)
   have hb:=lt_of cd
   refine T.get (i + 1 + k) rfl hb ?_
   refine T.ite (fun ch=>?_) (fun ch=>?_)
   ·refine T.eqb (R.val i (i + 1 + k) hil hb) ?_
    refine T.ite (fun cp=>?_) (fun cp=>?_)
    ·have hp:=of_decide_eq_true cp
     refine T.grd (ble_of (by have:=hq.len; omega)) ?_
     exact T.ret ⟨by omega,rfl,rfl,addN1 _ (by omega),by omega,hq.push hil hb hp⟩
    ·have hp:¬ 0<rv n v i (i + 1 + k):=of_decide_eq_false cp
     refine T.ret ⟨by omega,rfl,rfl,addN1 _ (by omega),by omega,hq.skip _ _ (by omega) (fun x y h=>by unfold bef at *; omega) (fun x y hx hy hpp h=>?_)⟩
     unfold bef at *
     by_cases e:x=i∧y=i + 1 + k
     ·obtain ⟨rfl,rfl⟩:=e
      exact absurd hpp hp
     ·omega
   ·refine T.fin ⟨rfl,fin (fun y h1 h2 hp=>?_)⟩
    have hah:=rv_pos R hil h2 hp
    rw [aheadB_eq hil h2] at hah
    simp only [Bool.and_eq_true,decide_eq_true_eq] at hah
    have:=hart_between hr i (i + 1 + k) y (by omega) h1 h2 hah.2.1
    have hne:¬ (c.Harts.flatten[i + 1 + k].Hart=c.Harts.flatten[i].Hart):=by simpa using ch
    exact hne this
  ·refine hq.skip _ _ (by omega) (fun x y h=>by unfold bef at *; omega) (fun x y hx hy hp h=>?_)
   have hah:=aheadB_lt (rv_pos R hx hy hp)
   unfold bef at *
   omega
 ·rw [hall] at cd
  have:=ge_of cd
  have:i=c.Harts.flatten.length:=by omega
  subst this
  exact T.ret hq
end Go.Proofs.YtigcbjbaibcgfaaGreat
