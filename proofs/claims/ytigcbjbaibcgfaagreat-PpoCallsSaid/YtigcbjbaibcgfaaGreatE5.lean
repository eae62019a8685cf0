/- Cells: looked up by halves, and one by one. Plain lists, no program in sight. -/
import Derived.Test.YtigcbjbaibcgfaaGreatE4
namespace Go.Proofs.YtigcbjbaibcgfaaGreat
open Go A

def cellsP (l:List Cell):Prop:=∀ (k:Nat) (hk:k<l.length),∀ h0:0<k,l[k - 1].Addr<l[k].Addr
theorem refCells_ (n:Nat) (l:List Cell) (hl:l.length≤100) (hn:200≤n):T (ref_Cells n l) (fun b=>b=true→cellsP l):=by
 unfold ref_Cells
 refine T.bind (P:=fun (r:Unit⊕Unit)=>match r with | .inl _=>cellsP l | .inr _=>True) ?_ (fun r hr=>by
  cases r with
  | inl _=>exact T.ret (fun _=>hr)
  | inr _=>exact T.ret (fun h=>by simp at h))
 refine T.loop l.length (fun i s=>s=(i:Int)∧∀ (k:Nat) (_:k<i) (hk:k<l.length),∀ h0:0<k,l[k - 1].Addr<l[k].Addr) _ ?_ ⟨rfl,fun k hk=>by omega⟩ (by omega)
 rintro i s hi ⟨rfl,hq⟩
 unfold ref_Cells_L1
 refine T.ite (fun c=>?_) (fun c=>?_)
 ·have hil:i<l.length:=by
   have:(i:Int)<l.length:=by simpa using c
   omega
  refine T.get i rfl hil ?_
  refine T.ite (fun _=>T.ret trivial) (fun c1=>?_)
  refine T.ite (fun c2=>?_) (fun c2=>?_)
  ·have h0:0<i:=by simpa using c2
   refine T.get (i - 1) (subN1 i (by omega) (by omega)) (by omega) ?_
   refine T.ite (fun _=>T.ret trivial) (fun c3=>?_)
   refine T.ret ⟨hil,addN1 _ (by omega),fun k hk hkl h=>?_⟩
   by_cases e:k=i
   ·subst e
    have:=of_decide_eq_false c3
    omega
   ·exact hq k (by omega) hkl h
  ·have h0:¬ 0<i:=by simpa using c2
   refine T.ret ⟨hil,addN1 _ (by omega),fun k hk hkl h=>?_⟩
   omega
 ·have:¬ (i:Int)<l.length:=by simpa using c
  exact T.ret (fun k hk h=>hq k (by omega) hk h)
theorem cells_same (n:Nat) (l:List Cell):cand_cells n l=ref_Cells n l:=rfl
theorem cells_lt {l:List Cell} (h:cellsP l):∀ (j k:Nat) (hj:j<l.length) (hk:k<l.length),j<k→l[j].Addr<l[k].Addr:=by
 intro j k
 induction k with
 | zero=>intros; omega
 | succ k ih =>
  intro hj hk hjk
  have h1:=h (k + 1) hk (by omega)
  simp only [Nat.add_sub_cancel] at h1
  by_cases e:j=k
  ·subst e; exact h1
  ·have:=ih hj (by omega) (by omega)
   omega

def firstP (l:List Cell) (a v:Int):Prop:=(∃ k:Nat,∃ hk:k<l.length,l[k].Addr=a∧v=l[k].Value)∨((∀ (k:Nat) (hk:k<l.length),l[k].Addr≠a)∧v=0)
theorem first_uniq {l:List Cell} (h:cellsP l) {a v w:Int} (h1:firstP l a v) (h2:firstP l a w):v=w:=by
 rcases h1 with ⟨k,hk,e1,e2⟩ | ⟨e1,e2⟩
 ·rcases h2 with ⟨j,hj,f1,f2⟩ | ⟨f1,f2⟩
  ·by_cases h3:k<j
   ·have:=cells_lt h k j hk hj h3; omega
   by_cases h4:j<k
   ·have:=cells_lt h j k hj hk h4; omega
   have:k=j:=by omega
   subst this
   rw [e2,f2]
  ·exact absurd e1 (f1 k hk)
 ·rcases h2 with ⟨j,hj,f1,f2⟩ | ⟨f1,f2⟩
  ·exact absurd f1 (e1 j hj)
  ·rw [e2,f2]
theorem first_ (n:Nat) (l:List Cell) (a:Int) (hl:l.length≤100) (hn:200≤n):T (ref_first n l a) (firstP l a):=by
 unfold ref_first
 refine T.bind (P:=fun (r:Unit⊕Int)=>match r with | .inl _=>firstP l a 0 | .inr w=>firstP l a w) ?_ (fun r hr=>by
  cases r with
  | inl _=>exact T.ret hr
  | inr _=>exact T.ret hr)
 refine T.loop l.length (fun i s=>s=(i:Int)∧∀ (k:Nat) (_:k<i) (hk:k<l.length),l[k].Addr≠a) _ ?_ ⟨rfl,fun k hk=>by omega⟩ (by omega)
 rintro i s hi ⟨rfl,hq⟩
 unfold ref_first_L1
 refine T.ite (fun c=>?_) (fun c=>?_)
 ·have hil:i<l.length:=by
   have:(i:Int)<l.length:=by simpa using c
   omega
  refine T.get i rfl hil ?_
  refine T.ite (fun c1=>T.ret (.inl ⟨i,hil,by simpa using c1,rfl⟩)) (fun c1=>?_)
  refine T.ret ⟨hil,addN1 _ (by omega),fun k hk hkl=>?_⟩
  by_cases e:k=i
  ·subst e; simpa using c1
  ·exact hq k (by omega) hkl
 ·have:¬ (i:Int)<l.length:=by simpa using c
  exact T.ret (.inr ⟨fun k hk=>hq k (by omega) hk,rfl⟩)

theorem mid (a b:Nat) (h:a + b≤100000):IntKind.wrap .i64 (shrW .u64 (IntKind.wrap .u64 (addW .i64 (a:Int) (b:Int))) 1)=(((a + b) / 2:Nat):Int):=by
 rw [addN _ _ (by omega),wrapU (by omega) (by omega)]
 have:shrW .u64 ((a + b:Nat):Int) 1=(((a + b) / 2:Nat):Int):=by
  unfold shrW
  rw [show (2:Int) ^ (min (Int.toNat 1) IntKind.u64.bits)=2 from rfl,Int.fdiv_eq_ediv_of_nonneg _ (by omega)]
  omega
 rw [this,wrapI (by omega) (by omega)]
def cmpV (x y:Int):Int:=if x<y then -1 else if x>y then 1 else 0
theorem cmp_ (n:Nat) (x y:Int):cmp_Compare_uint64 n x y=some (cmpV x y):=by
 unfold cmp_Compare_uint64 cmp_isNaN_uint64 cmpV
 have h:∀ z:Int,(z != z)=false:=by simp
 rw [h,h]
 simp only [Option.bind_some,Bool.false_eq_true,if_false,decide_eq_true_eq]
 by_cases c:x<y
 ·rw [if_pos c,if_pos c]
 ·rw [if_neg c,if_neg c]
  by_cases d:x>y
  ·rw [if_pos d,if_pos d]
  ·rw [if_neg d,if_neg d]
theorem found1_ (n:Nat) (x:Cell) (a:Int):cand_found_1 n x a=some (cmpV x.Addr a):=by
 unfold cand_found_1
 rw [cmp_]
 rfl
theorem found_ (n:Nat) (l:List Cell) (a:Int) (h:cellsP l) (hl:l.length≤100) (hn:200≤n):T (cand_found n l a) (firstP l a):=by
 unfold cand_found slices_BinarySearchFunc_api_Cell_api_Cell_uint64
 have key:T (iter (fun s=>slices_BinarySearchFunc_api_Cell_api_Cell_uint64_L1 n l a s) n ((l.length:Int),0)) (fun t=>∃ k:Nat,t=(k:Int)∧k≤l.length∧(∀ j (_:j<k) (hj:j<l.length),l[j].Addr<a)∧(∀ j (_:k≤j) (hj:j<l.length),a≤l[j].Addr)):=by
  refine T.loop l.length (fun i s=>∃ lo hi:Nat,s=((hi:Int),(lo:Int))∧lo≤hi∧hi≤l.length∧hi - lo≤l.length - i∧(∀ j (_:j<lo) (hj:j<l.length),l[j].Addr<a)∧(∀ j (_:hi≤j) (hj:j<l.length),a≤l[j].Addr)) _ ?_ ⟨0,l.length,rfl,by omega,by omega,by omega,fun j h=>by omega,fun j h=>by omega⟩ (by omega)
  rintro i s hi ⟨lo,hi,rfl,h1,h2,h3,h4,h5⟩
  unfold slices_BinarySearchFunc_api_Cell_api_Cell_uint64_L1
  refine T.ite (fun c=>?_) (fun c=>?_)
  ·have hlt:lo<hi:=by
    have:(lo:Int)<(hi:Int):=by simpa using c
    omega
   dsimp only
   rw [mid lo hi (by omega)]
   refine T.get ((lo + hi) / 2) rfl (by omega) ?_
   refine T.eqb (found1_ _ _ _) ?_
   refine T.ite (fun c1=>?_) (fun c1=>?_)
   ·have hl1:l[(lo + hi) / 2].Addr<a:=by
     unfold cmpV at c1
     by_cases e:l[(lo + hi) / 2].Addr<a
     ·exact e
     ·rw [if_neg e] at c1
      split at c1 <;> simp at c1
    refine T.ret ⟨by omega,(lo + hi) / 2 + 1,hi,by rw [addN1 _ (by omega)],by omega,by omega,by omega,fun j g hj=>?_,h5⟩
    by_cases e:j=(lo + hi) / 2
    ·subst e; exact hl1
    ·have:=cells_lt h j ((lo + hi) / 2) hj (by omega) (by omega)
     omega
   ·have hl1:a≤l[(lo + hi) / 2].Addr:=by
     unfold cmpV at c1
     by_cases e:l[(lo + hi) / 2].Addr<a
     ·rw [if_pos e] at c1
      simp at c1
     ·omega
    refine T.ret ⟨by omega,lo,(lo + hi) / 2,rfl,by omega,by omega,by omega,h4,fun j g hj=>?_⟩
    by_cases e:j=(lo + hi) / 2
    ·subst e; exact hl1
    ·have:=cells_lt h ((lo + hi) / 2) j (by omega) hj (by omega)
     omega
  ·have hge:¬ lo<hi:=by
    have:¬ (lo:Int)<(hi:Int):=by simpa using c
    omega
   have e:lo=hi:=by omega
   subst e
   exact T.ret ⟨lo,rfl,h2,h4,h5⟩
 refine T.bind (P:=fun (y:Int×Bool)=>(y.2=true→∃ k:Nat,y.1=(k:Int)∧∃ hk:k<l.length,l[k].Addr=a)∧(y.2=false→∀ (k:Nat) (hk:k<l.length),l[k].Addr≠a)) ?_ ?_
 ·refine T.bind key ?_
  rintro t ⟨k,rfl,h1,h2,h3⟩
  refine T.ite (fun c=>?_) (fun c=>?_)
  ·have hk:k<l.length:=by
    have:(k:Int)<l.length:=by simpa using c
    omega
   refine T.get k rfl hk ?_
   refine T.eqb (found1_ _ _ _) ?_
   refine T.ret ⟨fun e=>⟨k,rfl,hk,?_⟩,fun e j hj=>?_⟩
   ·have e':cmpV l[k].Addr a=0:=by simpa using e
    unfold cmpV at e'
    split at e'
    ·simp at e'
    ·split at e'
     ·simp at e'
     ·omega
   ·have e':cmpV l[k].Addr a≠0:=by simpa using e
    have hne:l[k].Addr≠a:=by
     intro e2
     apply e'
     unfold cmpV
     rw [if_neg (by omega),if_neg (by omega)]
    by_cases f:j<k
    ·have:=h2 j f hj; omega
    ·by_cases g:j=k
     ·subst g; exact hne
     ·have:=cells_lt h k j hk hj (by omega)
      have:=h3 k (by omega) hk
      omega
  ·have hk:¬ k<l.length:=by
    have:¬ (k:Int)<l.length:=by simpa using c
    omega
   refine T.ret ⟨fun e=>by simp at e,fun _ j hj=>?_⟩
   have:=h2 j (by omega) hj
   omega
 ·rintro ⟨y1,y2⟩ ⟨h1,h2⟩
  dsimp only at h1 h2 ⊢
  cases y2 with
  | false=>exact T.ret (.inr ⟨h2 rfl,rfl⟩)
  | true =>
   obtain ⟨k,rfl,hk,e⟩:=h1 rfl
   refine T.ite (fun c=>by simp at c) (fun _=>?_)
   exact T.get k rfl hk (T.ret (.inl ⟨k,hk,e,rfl⟩))
theorem found_first (n:Nat) (l:List Cell) (a:Int) (h:cellsP l) (hl:l.length≤100) (hn:200≤n):cand_found n l a=ref_first n l a:=by
 obtain ⟨v,e1,p1⟩:=found_ n l a h hl hn
 obtain ⟨w,e2,p2⟩:=first_ n l a hl hn
 rw [e1,e2,first_uniq h p1 p2]
theorem from_same (n:Nat) (c:Cand) (all:List Event) (k:Int) (h:cellsP c.First) (hl:c.First.length≤100) (hn:200≤n):cand_from n c all k=ref_from n c all k:=by
 unfold cand_from ref_from
 simp only [eReads_,reads_,eWrites_,writes_,found_first n _ _ h hl hn]

/-! ### Whether a list has a number -/
theorem less_ (n:Nat) (x y:Int):cmp_Less_int n x y=some (decide (x<y)):=by
 unfold cmp_Less_int cmp_isNaN_int
 rw [show (x != x)=false by simp]
 rfl
theorem on_ (n:Nat) (l:List Int) (a:Int) (hl:l.length≤100) (hn:200≤n):T (ppo_on n l a) (fun _=>True):=by
 unfold ppo_on
 refine T.bind (P:=fun _=>True) ?_ (fun _ _=>T.ret trivial)
 unfold slices_BinarySearch_int_int
 refine T.bind (P:=fun t=>∃ k:Nat,t=(k:Int)) ?_ ?_
 ·refine T.loop l.length (fun i s=>∃ lo hi:Nat,s=((lo:Int),(hi:Int))∧lo≤hi∧hi≤l.length∧hi - lo≤l.length - i) _ ?_ ⟨0,l.length,rfl,by omega,by omega,by omega⟩ (by omega)
  rintro i s hi ⟨lo,hi,rfl,h1,h2,h3⟩
  unfold slices_BinarySearch_int_int_L1
  refine T.ite (fun c=>?_) (fun c=>T.ret ⟨lo,rfl⟩)
  have hlt:lo<hi:=by
   have:(lo:Int)<(hi:Int):=by simpa using c
   omega
  dsimp only
  rw [mid lo hi (by omega)]
  refine T.get ((lo + hi) / 2) rfl (by omega) ?_
  refine T.eqb (less_ _ _ _) ?_
  refine T.ite (fun c1=>?_) (fun c1=>?_)
  ·exact T.ret ⟨by omega,(lo + hi) / 2 + 1,hi,by rw [addN1 _ (by omega)],by omega,by omega,by omega⟩
  ·exact T.ret ⟨by omega,lo,(lo + hi) / 2,rfl,by omega,by omega,by omega⟩
 ·rintro t ⟨k,rfl⟩
  refine T.ite (fun c=>?_) (fun c=>T.ret trivial)
  have hk:k<l.length:=by
   have:(k:Int)<l.length:=by simpa using c
   omega
  refine T.get k rfl hk ?_
  refine T.ite (fun _=>T.ret trivial) (fun _=>?_)
  refine T.eqb (a:=l[k] != l[k]) rfl ?_
  refine T.ite (fun _=>T.ret trivial) (fun _=>T.ret trivial)
end Go.Proofs.YtigcbjbaibcgfaaGreat
