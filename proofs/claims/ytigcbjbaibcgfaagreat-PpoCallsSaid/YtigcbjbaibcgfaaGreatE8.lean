/- The view of a candidate that may be. Plain lists, no program in sight. -/
import Derived.Test.YtigcbjbaibcgfaaGreatE7
namespace Go.Proofs.YtigcbjbaibcgfaaGreat
open Go A

theorem ris_mem:∀ (l:List Int) (a:Int),risB a l=true→∀ x∈l,a<x
 | [],_,_,_,h=>by simp at h
 | y::l,a,h,x,hx=>by
  unfold risB at h
  simp only [Bool.and_eq_true,decide_eq_true_eq] at h
  rcases List.mem_cons.1 hx with rfl | hx
  ·exact h.1
  ·have:=ris_mem l y h.2 x hx
   omega
theorem ris_last:∀ (l:List Int) (a:Int),risB a l=true→∀ x∈l,∀ z,l.getLast?=some z→x≤z
 | [],_,_,_,h,_,_=>by simp at h
 | [y],a,h,x,hx,z,hz=>by simp at hx hz; omega
 | y::w::l,a,h,x,hx,z,hz=>by
  have h':=h
  unfold risB at h
  simp only [Bool.and_eq_true,decide_eq_true_eq] at h
  have hz':(w::l).getLast?=some z:=by rw [List.getLast?_cons_cons] at hz; exact hz
  rcases List.mem_cons.1 hx with rfl | hx
  ·have h1:=ris_mem _ _ h.2 w (by simp)
   have h2:=ris_last (w::l) x h.2 w (by simp) z hz'
   omega
  ·exact ris_last (w::l) y h.2 x hx z hz'
theorem bel_mem {l:List Int} {a:Int} (h:belB l a=true):∀ x∈l,0≤x∧x<a:=by
 intro x hx
 unfold belB at h
 simp only [Bool.and_eq_true] at h
 refine ⟨by have:=ris_mem l (-1) h.1 x hx; omega,?_⟩
 cases hg:l.getLast? with
 | none=>rw [List.getLast?_eq_none_iff] at hg; rw [hg] at hx; simp at hx
 | some z =>
  have h1:=ris_last l (-1) h.1 x hx z hg
  rw [hg] at h
  have h2:z<a:=by simpa using h.2
  omega

theorem FL_at (l:List (List Event)):∀ (r:Nat) (_:r≤l.length) (i:Nat) (hi:i<(FL l r).length),∃ q:Nat,∃ hq:q<l.length,∃ k:Nat,∃ hk:k<l[q].length,i=(FL l q).length + k∧(FL l r)[i]=l[q][k]
 | 0,_,i,hi=>by simp [FL_zero] at hi
 | r + 1,hr,i,hi=>by
  have e:=FL_succ (l:=l) (i:=r) (by omega)
  have hi':i<(FL l r++l[r]).length:=by rw [← e]; exact hi
  have e2:(FL l (r + 1))[i]=(FL l r++l[r])[i]:=by congr 1
  by_cases h:i<(FL l r).length
  ·obtain ⟨q,hq,k,hk,e3,e4⟩:=FL_at l r (by omega) i h
   exact ⟨q,hq,k,hk,e3,by rw [e2,List.getElem_append_left h,e4]⟩
  ·have hk:i - (FL l r).length<l[r].length:=by rw [List.length_append] at hi'; omega
   exact ⟨r,by omega,i - (FL l r).length,hk,by omega,by rw [e2,List.getElem_append_right (by omega)]⟩
theorem flat_at (l:List (List Event)) (i:Nat) (hi:i<l.flatten.length):∃ q:Nat,∃ hq:q<l.length,∃ k:Nat,∃ hk:k<l[q].length,i=(FL l q).length + k∧l.flatten[i]=l[q][k]:=by
 have e:=FL_all l (Nat.le_refl l.length)
 obtain ⟨q,hq,k,hk,e1,e2⟩:=FL_at l l.length (Nat.le_refl _) i (by rw [e]; exact hi)
 exact ⟨q,hq,k,hk,e1,by rw [← e2]; congr 1; exact e.symm⟩
/-- An event of a candidate that may be. -/
theorem ev_ok {n:Nat} {c:Cand} (hc:Light c) (h:RefOK n c) (i:Nat) (hi:i<c.Harts.flatten.length):small c.Harts.flatten[i]∧okE c.Harts.flatten[i]=true∧0≤c.Harts.flatten[i].At∧c.Harts.flatten[i].At≤(i:Int):=by
 obtain ⟨q,hq,k,hk,e1,e2⟩:=flat_at c.Harts i hi
 rw [e2]
 have h1:=h.rows q hq k hk
 have h2:=(hc.rows _ (List.getElem_mem hq)).2 _ (List.getElem_mem hk)
 obtain ⟨o1,_,o2,_⟩:=h1
 exact ⟨h2,o1,by omega,by omega⟩

theorem mul_:∀ k:Nat,k<61→math_bits_Mul 0 1 (k:Int)=some (0,(k:Int)):=by decide +kernel
theorem mulN (n:Nat) (k:Nat) (h:k<61):math_bits_Mul n 1 (k:Int)=some (0,(k:Int)):=mul_ k h
/-- What a view has. -/
structure View (c:Cand) (v:ppo_view):Prop where
 cand:v.c=some c
 alls:v.all=c.Harts.flatten
 f0:v.fences.e0.length=c.Harts.flatten.length + 1
 f1:v.fences.e1.length=c.Harts.flatten.length + 1
 f2:v.fences.e2.length=c.Harts.flatten.length + 1
 f3:v.fences.e3.length=c.Harts.flatten.length + 1
 hung:v.hung.length=c.Harts.flatten.length
def Ls (N:Nat) (g f0 f1 f2 f3:List Int):Prop:=g.length=N∧f0.length=N + 1∧f1.length=N + 1∧f2.length=N + 1∧f3.length=N + 1
theorem quo4:∀ k:Nat,k<4→decide (0≤quoW .i64 (k:Int) 2)=true:=by decide +kernel
theorem rem4:∀ k:Nat,k<4→decide (0≤remW .i64 (k:Int) 2)=true:=by decide +kernel
end Go.Proofs.YtigcbjbaibcgfaaGreat
