/- Rows: one that the document takes, the program takes; and the looking up of cells. Plain lists, no program in sight. -/
import Derived.Test.YtigcbjbaibcgfaaGreatE3
namespace Go.Proofs.YtigcbjbaibcgfaaGreat
open Go A

theorem okTail (e:Event) (h:okE e=true):0≤e.Hart∧e.Hart<8∧0≤e.At∧0≤e.Pred∧0≤e.Succ∧(e.Kind=4→0≤e.Pair∧e.Pair<e.At)∧belB e.Deps.Addr e.At=true∧belB e.Deps.Data e.At=true∧belB e.Deps.Way e.At=true:=by
 unfold okE tailB at h
 simp only [Bool.and_eq_true,decide_eq_true_eq,Bool.or_eq_true] at h
 obtain ⟨_,h1,h2,h3,_,_,h4,_,h5,_,h6,h7,h8,h9⟩:=h
 refine ⟨h1,h2,h3,h4,h5,fun k=>?_,h7,h8,h9⟩
 rcases h6 with h6 | h6
 ·rw [k,hv4] at h6
  have:((andW .u64 14 8) != 0)=true:=by decide +kernel
  rw [this] at h6
  simp at h6
 ·exact h6

def pairP (l:List Event) (k:Nat) (hk:k<l.length):Prop :=
 ∃ p:Nat,∃ hp:p<k,l[k].Pair=(p:Int)∧l[p].Kind=3∧l[p].Addr=l[k].Addr∧∀ j:Nat,p<j→∀ hj:j<k,l[j].Kind≠3∧l[j].Kind≠4
def evP (h:Int) (l:List Event) (k:Nat) (hk:k<l.length):Prop:=okE l[k]=true∧l[k].Hart=h∧l[k].At=(k:Int)∧(l[k].Kind=4→pairP l k hk)
def rowP (h:Int) (l:List Event):Prop:=∀ (k:Nat) (hk:k<l.length),evP h l k hk
def smalls (l:List Event):Prop:=l.length≤100∧∀ e∈l,small e

theorem refRow_ (n:Nat) (h:Int) (l:List Event) (hl:smalls l) (hn:200≤n):T (ref_Row n h l) (fun r=>r=0→rowP h l):=by
 have hll:=hl.1
 unfold ref_Row
 refine T.bind (P:=fun r=>match r with | .inl _=>rowP h l | .inr _=>True) ?_ (fun r hr=>by
  cases r with
  | inl _=>exact T.ret (fun _=>hr)
  | inr _=>exact T.ret (fun h=>by simp at h))
 refine T.loop l.length (fun i s=>s=(i:Int)∧∀ k (_:k<i) (hk:k<l.length),evP h l k hk) _ ?_ ⟨rfl,fun k hk=>by omega⟩ (by omega)
 rintro i s hi ⟨rfl,hq⟩
 unfold ref_Row_L1
 refine T.ite (fun c=>?_) (fun c=>?_)
 case _=>
  have hil:i<l.length:=by
   have:(i:Int)<l.length:=by simpa using c
   omega
  refine T.get i rfl hil ?_
  refine T.bind (refOk_ n l[i] (hl.2 _ (List.getElem_mem hil)) (by omega)) (fun r hr=>?_)
  refine T.ite (fun _=>T.ret trivial) (fun c1=>?_)
  have ok:=hr (by simpa using c1)
  refine T.ite (fun _=>T.ret trivial) (fun c2=>?_)
  have hh:l[i].Hart=h:=by simpa using c2
  refine T.ite (fun _=>T.ret trivial) (fun c3=>?_)
  have ha:l[i].At=(i:Int):=by simpa using c3
  have next:∀ (_:l[i].Kind=4→pairP l i hil) (j:Int),j=(i:Int)→T (some (.inl (addW .i64 j 1):Int⊕(Unit⊕Unit))) (Rd (fun s'=>i<l.length∧(s'=((i + 1:Nat):Int)∧∀ k (_:k<i + 1) (hk:k<l.length),evP h l k hk)) (fun r=>match r with | .inl _=>rowP h l | .inr _=>True)):=by
   rintro hp j rfl
   refine T.ret ⟨hil,addN1 _ (by omega),fun k hk hkl=>?_⟩
   by_cases e:k=i
   ·subst e
    exact ⟨ok,hh,ha,hp⟩
   ·exact hq k (by omega) hkl
  refine T.ite (fun c4=>next (fun e=>by rw [e] at c4; simp at c4) _ rfl) (fun c4=>?_)
  have k4:l[i].Kind=4:=by simpa using c4
  obtain ⟨p1,p2⟩:=(okTail _ ok).2.2.2.2.2.1 k4
  obtain ⟨p,hp⟩:∃ p:Nat,l[i].Pair=(p:Int):=⟨l[i].Pair.toNat,by omega⟩
  have hpi:p<i:=by omega
  refine T.get p hp (by omega) ?_
  refine T.ite (fun _=>T.ret trivial) (fun c5=>?_)
  have k3:l[p].Kind=3:=by simpa using c5
  refine T.ite (fun _=>T.ret trivial) (fun c6=>?_)
  have hA:l[p].Addr=l[i].Addr:=by simpa using c6
  refine T.bind (P:=fun (r:(Int×Bool×Int)⊕Unit)=>match r with | .inl w=>w.2.2=(i:Int)∧∀ j:Nat,p<j→∀ hj:j<i,l[j].Kind≠3∧l[j].Kind≠4 | .inr _=>True) ?_ (fun r hr=>by
   cases r with
   | inl w =>
    obtain ⟨g1,g2⟩:w.2.2=(i:Int)∧∀ j:Nat,p<j→∀ hj:j<i,l[j].Kind≠3∧l[j].Kind≠4:=hr
    exact next (fun _=>⟨p,hpi,hp,k3,hA,g2⟩) _ g1
   | inr _=>exact T.ret trivial)
  refine T.loop i (fun m s=>s.2.2.1=(i:Int)∧s.2.2.2=((p + 1 + m:Nat):Int)∧∀ j:Nat,p<j→j<p + 1 + m→∀ hj:j<i,l[j].Kind≠3∧l[j].Kind≠4) _ ?_ ⟨rfl,by rw [hp]; exact addN1 p (by omega),fun j h1 h2=>by omega⟩ (by omega)
  rintro m ⟨s1,s2,s3,s4⟩ hm ⟨e3,e4,hs⟩
  dsimp only at e3 e4
  subst e3 e4
  unfold ref_Row_L2
  refine T.ite (fun c=>?_) (fun c=>?_)
  ·have hm2:p + 1 + m<i:=by
    have:((p + 1 + m:Nat):Int)<(i:Int):=by simpa using c
    omega
   refine T.get (p + 1 + m) rfl (by omega) ?_
   refine T.ite (fun _=>T.ret trivial) (fun k1=>?_)
   refine T.ite (fun _=>T.ret trivial) (fun k2=>?_)
   refine T.ret ⟨by omega,rfl,addN1 _ (by omega),fun j h1 h2 hj=>?_⟩
   by_cases e:j=p + 1 + m
   ·subst e
    exact ⟨by simpa using k1,by simpa using k2⟩
   ·exact hs j h1 (by omega) hj
  ·have hm2:¬ p + 1 + m<i:=by
    have:¬ ((p + 1 + m:Nat):Int)<(i:Int):=by simpa using c
    omega
   exact T.ret ⟨rfl,fun j h1 hj=>hs j h1 (by omega) hj⟩
 ·have:¬ (i:Int)<l.length:=by simpa using c
  exact T.ret (fun k hk=>hq k (by omega) hk)

theorem evRow_ (n:Nat) (h:Int) (l:List Event) (hl:smalls l) (hn:200≤n) (hr:rowP h l):event_Row n h l=some 0:=by
 have hll:=hl.1
 have:T (event_Row n h l) (fun r=>r=0):=by
  unfold event_Row
  refine T.bind (P:=fun r=>match r with | .inl _=>True | .inr _=>False) ?_ (fun r hr=>by
   cases r with
   | inl _=>exact T.ret rfl
   | inr _=>exact hr.elim)
  refine T.loop l.length (fun i s=>s.1=(i:Int)∧∀ p:Nat,p<i→∀ hp:p<l.length,l[p].Kind=3→(∀ j:Nat,p<j→j<i→∀ hj:j<l.length,l[j].Kind≠3∧l[j].Kind≠4)→s.2=(p:Int)) _ ?_ ⟨rfl,fun p hp=>by omega⟩ (by omega)
  rintro i ⟨s1,s2⟩ hi ⟨e1,hq⟩
  dsimp only at e1 hq
  subst e1
  unfold event_Row_L1
  refine T.ite (fun c=>?_) (fun c=>T.ret trivial)
  have hil:i<l.length:=by
   have:(i:Int)<l.length:=by simpa using c
   omega
  obtain ⟨ok,hh,ha,hp⟩:=hr i hil
  refine T.get i rfl hil ?_
  refine T.eqb (check_ n l[i] (hl.2 _ (List.getElem_mem hil)) (by omega)) ?_
  rw [if_pos ok]
  refine T.ite (fun c1=>by simp at c1) (fun _=>?_)
  refine T.ite (fun c1=>by simp [hh] at c1) (fun _=>?_)
  refine T.ite (fun c1=>by simp [ha] at c1) (fun _=>?_)
  refine T.ite (fun c3=>?_) (fun c3=>?_)
  ·have k3:l[i].Kind=3:=by simpa using c3
   refine T.ret ⟨hil,addN1 _ (by omega),fun p h1 h2 h3 h4=>?_⟩
   by_cases e:p=i
   ·rw [e]
   ·exact absurd k3 (h4 i (by omega) (by omega) hil).1
  have k3:l[i].Kind≠3:=by simpa using c3
  refine T.ite (fun c4=>?_) (fun c4=>?_)
  ·have k4:l[i].Kind=4:=by simpa using c4
   obtain ⟨p,hpi,e1,e2,e3,e4⟩:=hp k4
   have hs2:s2=(p:Int):=hq p hpi (by omega) e2 (fun j h1 h2 _=>e4 j h1 h2)
   refine T.ite (fun c5=>by simp [e1,hs2] at c5) (fun _=>?_)
   refine T.get p hs2 (by omega) ?_
   refine T.ite (fun c5=>by simp [e3] at c5) (fun _=>?_)
   refine T.ret ⟨hil,addN1 _ (by omega),fun p h1 h2 h3 h4=>?_⟩
   by_cases e:p=i
   ·subst e; exact absurd h3 k3
   ·exact absurd k4 (h4 i (by omega) (by omega) hil).2
  ·have k4:l[i].Kind≠4:=by simpa using c4
   refine T.ret ⟨hil,addN1 _ (by omega),fun p h1 h2 h3 h4=>?_⟩
   by_cases e:p=i
   ·subst e; exact absurd h3 k3
   ·exact hq p (by omega) h2 h3 (fun j g1 g2 hj=>h4 j g1 (by omega) hj)
 obtain ⟨r,h1,h2⟩:=this
 rw [h1,h2]
end Go.Proofs.YtigcbjbaibcgfaaGreat
