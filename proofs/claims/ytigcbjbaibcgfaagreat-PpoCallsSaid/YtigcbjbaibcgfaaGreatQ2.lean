/- A view, exactly. Plain lists, no program in sight. -/
import Derived.Test.YtigcbjbaibcgfaaGreatV2
namespace Go.Proofs.YtigcbjbaibcgfaaGreat
open Go A

/-! ### Fences, counted -/
def bitP (x:Int) (k:Int):Bool:=(andW .i64 (shrW .i64 x k) 1)==1
def fenceK (k:Nat) (e:Event):Bool:=(e.Kind==6)&&(bitP e.Pred (quoW .i64 (k:Int) 2)&&bitP e.Succ (remW .i64 (k:Int) 2))
structure FQ (all:List Event) (k:Nat) (f:List Int) (m:Nat):Prop where
 len:f.length=all.length + 1
 rng:∀ (j:Nat) (hj:j<f.length),j≤m→0≤f[j]∧f[j]≤(j:Int)
 up:∀ (j:Nat) (hj:j + 1<f.length) (ha:j<all.length),j<m→f[j + 1]=f[j] + (if fenceK k all[j]=true then 1 else 0)
theorem FQ.zero (all:List Event) (k:Nat):FQ all k (List.replicate (all.length + 1) 0) 0 :=
 ⟨by simp,fun j hj h=>by simp,fun j hj ha h=>by omega⟩
theorem FQ.put {all:List Event} {k:Nat} {f:List Int} {i:Nat} (h:FQ all k f i) (hi:i<all.length) (y:Int) (hy:y=f[i]'(by have:=h.len; omega) + (if fenceK k all[i]=true then 1 else 0)):FQ all k (f.set (i + 1) y) (i + 1):=by
 have hl:=h.len
 have h0:=h.rng i (by omega) (Nat.le_refl _)
 refine ⟨by rw [List.length_set]; exact hl,fun j hj hm=>?_,fun j hj ha hm=>?_⟩
 ·have hj':j<f.length:=by rw [List.length_set] at hj; exact hj
  rw [List.getElem_set]
  by_cases e:i + 1=j
  ·subst e
   rw [if_pos rfl,hy]
   split <;> omega
  ·rw [if_neg e]
   exact h.rng j hj' (by omega)
 ·have hj':j + 1<f.length:=by rw [List.length_set] at hj; exact hj
  rw [List.getElem_set,List.getElem_set,if_neg (show ¬ i + 1=j by omega)]
  by_cases e:j=i
  ·subst e
   rw [if_pos rfl]
   exact hy
  ·rw [if_neg (by omega)]
   exact h.up j hj' ha (by omega)
theorem FQ.le {all:List Event} {k:Nat} {f:List Int} (h:FQ all k f all.length) (a:Nat):∀ (d:Nat) (hd:a + d≤all.length),f[a]'(by have:=h.len; omega)≤f[a + d]'(by have:=h.len; omega) ∧
  (f[a]'(by have:=h.len; omega)<f[a + d]'(by have:=h.len; omega)↔∃ m:Nat,∃ hm:m<all.length,a≤m∧m<a + d∧fenceK k all[m]=true)
 | 0,hd=>by
  refine ⟨by simp,fun h=>?_,fun ⟨m,hm,h1,h2,_⟩=>by omega⟩
  simp at h
 | d + 1,hd=>by
  obtain ⟨h1,h2⟩:=FQ.le h a d (by omega)
  have hl:=h.len
  have h3:=h.up (a + d) (by omega) (by omega) (by omega)
  have e1:f[a + (d + 1)]'(by omega)=f[a + d + 1]'(by omega):=rfl
  rw [e1,h3]
  by_cases c:fenceK k (all[a + d]'(by omega))=true
  ·rw [if_pos c]
   exact ⟨by omega,fun _=>⟨a + d,by omega,by omega,by omega,c⟩,fun _=>by omega⟩
  ·rw [if_neg c]
   refine ⟨by omega,fun g=>?_,fun ⟨m,hm,g1,g2,g3⟩=>?_⟩
   ·obtain ⟨m,hm,g1,g2,g3⟩:=h2.1 (by omega)
    exact ⟨m,hm,g1,by omega,g3⟩
   ·have:m≠a + d:=fun e=>by subst e; exact c g3
    have:=h2.2 ⟨m,hm,g1,by omega,g3⟩
    omega
theorem FQ.over {all:List Event} {k:Nat} {f:List Int} (h:FQ all k f all.length) (a b:Nat) (h1:a≤b) (hb:b≤all.length):(f[a]'(by have:=h.len; omega)<f[b]'(by have:=h.len; omega)↔∃ m:Nat,∃ hm:m<all.length,a≤m∧m<b∧fenceK k all[m]=true):=by
 obtain ⟨d,rfl⟩:=Nat.exists_eq_add_of_le h1
 exact (h.le a d hb).2

theorem qcore {β:Type} {all:List Event} {f:List Int} {i k:Nat} (h:FQ all k f i) (hi:i<all.length) (hN:all.length≤60) (hk:k<4) (x:Event) (hx:all[i]=x) (Z:List Int→Option β) {Q:β→Prop} (hZ:∀ f',FQ all k f' (i + 1)→T (Z f') Q) :
  T ((getI f (i:Int)).bind fun xb3=>(getI f (addW .i64 (i:Int) 1)).bind fun _ =>
   if (x.Kind==6)=true then
    grd (decide (0≤(quoW .i64 (k:Int) 2))) <|
    if ((andW .i64 (shrW .i64 x.Pred (quoW .i64 (k:Int) 2)) 1)==1)=true then
     grd (decide (0≤(remW .i64 (k:Int) 2))) <|
     if ((andW .i64 (shrW .i64 x.Succ (remW .i64 (k:Int) 2)) 1)==1)=true then
      (getI (f.set ((addW .i64 (i:Int) 1)).toNat xb3) (addW .i64 (i:Int) 1)).bind fun xb10=>Z ((f.set ((addW .i64 (i:Int) 1)).toNat xb3).set ((addW .i64 (i:Int) 1)).toNat (addW .i64 xb10 1))
     else Z (f.set ((addW .i64 (i:Int) 1)).toNat xb3)
    else Z (f.set ((addW .i64 (i:Int) 1)).toNat xb3)
   else Z (f.set ((addW .i64 (i:Int) 1)).toNat xb3)) Q:=by
 have hl:=h.len
 have h0:=h.rng i (by omega) (Nat.le_refl _)
 have hfk:fenceK k all[i]=((x.Kind==6)&&(((andW .i64 (shrW .i64 x.Pred (quoW .i64 (k:Int) 2)) 1)==1)&&((andW .i64 (shrW .i64 x.Succ (remW .i64 (k:Int) 2)) 1)==1))):=by rw [hx]; rfl
 refine T.get i rfl (by omega) ?_
 rw [addN1 i (by omega)]
 refine T.get (i + 1) rfl (by omega) ?_
 have same:fenceK k all[i]=false→T (Z (f.set (((i + 1:Nat):Int)).toNat f[i])) Q:=fun hn=>hZ _ (by
  rw [Int.toNat_natCast]
  exact h.put hi _ (by rw [hn]; simp))
 refine T.ite (fun c1=>?_) (fun c1=>same (by rw [hfk,c1]; rfl))
 refine T.grd (quo4 k hk) ?_
 refine T.ite (fun c2=>?_) (fun c2=>same (by rw [hfk,c1,c2]; rfl))
 refine T.grd (rem4 k hk) ?_
 refine T.ite (fun c3=>?_) (fun c3=>same (by rw [hfk,c1,c2,c3]; rfl))
 refine T.get (i + 1) rfl (by rw [List.length_set]; omega) ?_
 have e:(f.set (((i + 1:Nat):Int)).toNat f[i])[i + 1]'(by rw [List.length_set]; omega)=f[i]:=by
  simp only [Int.toNat_natCast]
  rw [List.getElem_set,if_pos rfl]
 rw [e,Int.toNat_natCast,List.set_set,addI (by omega) (by omega)]
 exact hZ _ (h.put hi _ (by rw [hfk,c1,c2,c3]; rfl))

/-! ### What hangs on an event by its address -/
def hit (e:Event) (i a:Nat):Prop:=∃ t∈e.Deps.Addr,(i:Int) - e.At + t=(a:Int)
structure HG (all:List Event) (g:List Int) (m:Nat):Prop where
 len:g.length=all.length
 lo:∀ (a:Nat) (ha:a<g.length),g[a]=(all.length:Int)∨∃ i:Nat,∃ hi:i<all.length,i<m∧hit all[i] i a∧g[a]=(i:Int)
 up:∀ (a:Nat) (ha:a<g.length) (i:Nat) (hi:i<all.length),i<m→hit all[i] i a→g[a]≤(i:Int)
structure HJ (all:List Event) (x:Event) (g:List Int) (i j:Nat):Prop where
 len:g.length=all.length
 lo:∀ (a:Nat) (ha:a<g.length),g[a]=(all.length:Int)∨(∃ i':Nat,∃ hi:i'<all.length,i'<i∧hit all[i'] i' a∧g[a]=(i':Int))∨((∃ t:Nat,∃ ht:t<x.Deps.Addr.length,t<j∧(i:Int) - x.At + x.Deps.Addr[t]=(a:Int))∧g[a]=(i:Int))
 up:∀ (a:Nat) (ha:a<g.length) (i':Nat) (hi:i'<all.length),i'<i→hit all[i'] i' a→g[a]≤(i':Int)
 up2:∀ (a:Nat) (ha:a<g.length) (t:Nat) (ht:t<x.Deps.Addr.length),t<j→(i:Int) - x.At + x.Deps.Addr[t]=(a:Int)→g[a]≤(i:Int)
theorem HJ.of {all:List Event} {g:List Int} {i:Nat} (x:Event) (h:HG all g i):HJ all x g i 0 :=
 ⟨h.len,fun a ha=>by
  rcases h.lo a ha with h | ⟨i',hi,h1,h2,h3⟩
  ·exact .inl h
  ·exact .inr (.inl ⟨i',hi,h1,h2,h3⟩),h.up,fun a ha t ht h=>by omega⟩
theorem HJ.to {all:List Event} {g:List Int} {i:Nat} {x:Event} (hi:i<all.length) (hx:all[i]=x) (h:HJ all x g i x.Deps.Addr.length):HG all g (i + 1):=by
 refine ⟨h.len,fun a ha=>?_,fun a ha i' hi' hlt hh=>?_⟩
 ·rcases h.lo a ha with h | ⟨i',hi',h1,h2,h3⟩ | ⟨⟨t,ht,h1,h2⟩,h3⟩
  ·exact .inl h
  ·exact .inr ⟨i',hi',by omega,h2,h3⟩
  ·exact .inr ⟨i,hi,by omega,by rw [hx]; exact ⟨_,List.getElem_mem ht,h2⟩,h3⟩
 ·by_cases e:i'=i
  ·subst e
   rw [hx] at hh
   obtain ⟨t,ht,h2⟩:=hh
   obtain ⟨k,hk,rfl⟩:=List.getElem_of_mem ht
   exact h.up2 a ha k hk hk h2
  ·exact h.up a ha i' hi' (by omega) hh
theorem HJ.put {all:List Event} {g:List Int} {i j:Nat} {x:Event} (h:HJ all x g i j) (hj:j<x.Deps.Addr.length) (a:Nat) (ha:a<g.length) (he:(i:Int) - x.At + x.Deps.Addr[j]=(a:Int)):HJ all x (g.set a (minI g[a] (i:Int))) i (j + 1):=by
 have hmin:minI g[a] (i:Int)≤g[a]∧minI g[a] (i:Int)≤(i:Int)∧(minI g[a] (i:Int)=g[a]∨minI g[a] (i:Int)=(i:Int)):=by
  unfold minI
  split <;> omega
 refine ⟨by rw [List.length_set]; exact h.len,fun b hb=>?_,fun b hb i' hi' hlt hh=>?_,fun b hb t ht hlt hh=>?_⟩ <;> have hb':b<g.length:=by rw [List.length_set] at hb; exact hb
 ·rw [List.getElem_set]
  by_cases e:a=b
  ·subst e
   rw [if_pos rfl]
   rcases hmin.2.2 with m | m
   ·rw [m]
    rcases h.lo a ha with h | ⟨i',hi',h1,h2,h3⟩ | ⟨⟨t,ht,h1,h2⟩,h3⟩
    ·exact .inl h
    ·exact .inr (.inl ⟨i',hi',h1,h2,h3⟩)
    ·exact .inr (.inr ⟨⟨t,ht,by omega,h2⟩,h3⟩)
   ·exact .inr (.inr ⟨⟨j,hj,by omega,he⟩,m⟩)
  ·rw [if_neg e]
   rcases h.lo b hb' with h | ⟨i',hi',h1,h2,h3⟩ | ⟨⟨t,ht,h1,h2⟩,h3⟩
   ·exact .inl h
   ·exact .inr (.inl ⟨i',hi',h1,h2,h3⟩)
   ·exact .inr (.inr ⟨⟨t,ht,by omega,h2⟩,h3⟩)
 ·rw [List.getElem_set]
  have:=h.up b hb' i' hi' hlt hh
  by_cases e:a=b
  ·subst e; rw [if_pos rfl]; omega
  ·rw [if_neg e]; exact this
 ·rw [List.getElem_set]
  by_cases e:a=b
  ·subst e; rw [if_pos rfl]; omega
  ·rw [if_neg e]
   by_cases f:t=j
   ·subst f; omega
   ·exact h.up2 b hb' t ht (by omega) hh

/-- A view, exactly. -/
structure XV (c:Cand) (v:ppo_view):Prop where
 view:View c v
 p0:FQ c.Harts.flatten 0 v.fences.e0 c.Harts.flatten.length
 p1:FQ c.Harts.flatten 1 v.fences.e1 c.Harts.flatten.length
 p2:FQ c.Harts.flatten 2 v.fences.e2 c.Harts.flatten.length
 p3:FQ c.Harts.flatten 3 v.fences.e3 c.Harts.flatten.length
 hg:HG c.Harts.flatten v.hung c.Harts.flatten.length
def at4 (j k i:Nat):Nat:=if j<k then i + 1 else i
structure Lk (all:List Event) (i k:Nat) (g f0 f1 f2 f3:List Int):Prop where
 g:HG all g i
 p0:FQ all 0 f0 (at4 0 k i)
 p1:FQ all 1 f1 (at4 1 k i)
 p2:FQ all 2 f2 (at4 2 k i)
 p3:FQ all 3 f3 (at4 3 k i)
theorem of2X_ (n:Nat) (c:Cand) (all:List Event) (x:Event) (i:Nat) (hi:i<all.length) (hx:all[i]=x) (hN:all.length≤60) (g f0 f1 f2 f3:List Int) (j:Int) (h:Lk all i 0 g f0 f1 f2 f3) (hn:200≤n) :
  T (iter (fun s=>ppo_of_L2 n c all x s) n (g,f0,f1,f2,f3,j,0,(i:Int))) (fun s=>Lk all i 4 s.1 s.2.1 s.2.2.1 s.2.2.2.1 s.2.2.2.2.1∧s.2.2.2.2.2.1=j∧s.2.2.2.2.2.2=(i:Int)):=by
 refine T.loop 4 (fun k s=>Lk all i k s.1 s.2.1 s.2.2.1 s.2.2.2.1 s.2.2.2.2.1∧s.2.2.2.2.2.1=j∧s.2.2.2.2.2.2.1=(k:Int)∧s.2.2.2.2.2.2.2=(i:Int)) _ ?_ ⟨h,rfl,rfl,rfl⟩ (by omega)
 rintro k ⟨g,f0,f1,f2,f3,j',s7,s8⟩ hk ⟨⟨e1,e2,e3,e4,e5⟩,ej,e6,e7⟩
 dsimp only at e1 e2 e3 e4 e5 ej e6 e7
 subst e6 e7 ej
 unfold ppo_of_L2
 refine T.ite (fun cd=>?_) (fun cd=>?_)
 case _ =>
  have hk4:k<4:=lt_of (m:=4) cd
  dsimp only
  have leaf:∀ (g f0 f1 f2 f3:List Int),Lk all i (k + 1) g f0 f1 f2 f3→T (some (.inl (g,f0,f1,f2,f3,j',addW .i64 (k:Int) 1,(i:Int)):(List Int×List Int×List Int×List Int×List Int×Int×Int×Int)⊕(List Int×List Int×List Int×List Int×List Int×Int×Int)))
    (Rd (fun s'=>k<4∧(Lk all i (k + 1) s'.1 s'.2.1 s'.2.2.1 s'.2.2.2.1 s'.2.2.2.2.1∧s'.2.2.2.2.2.1=j'∧s'.2.2.2.2.2.2.1=((k + 1:Nat):Int)∧s'.2.2.2.2.2.2.2=(i:Int))) (fun s=>Lk all i 4 s.1 s.2.1 s.2.2.1 s.2.2.2.1 s.2.2.2.2.1∧s.2.2.2.2.2.1=j'∧s.2.2.2.2.2.2=(i:Int))) :=
   fun g f0 f1 f2 f3 h=>T.ret ⟨hk4,h,rfl,addN1 _ (by omega),rfl⟩
  refine T.ite (fun k0=>?_) (fun k0=>?_)
  ·have hk0:k=0:=by have:=eq_of_beq k0; omega
   subst hk0
   exact qcore (β:=(List Int×List Int×List Int×List Int×List Int×Int×Int×Int)⊕(List Int×List Int×List Int×List Int×List Int×Int×Int)) e2 hi hN hk4 x hx (fun f=>some (.inl (g,f,f1,f2,f3,j',addW .i64 ((0:Nat):Int) 1,(i:Int)))) (fun f' hf=>leaf g f' f1 f2 f3 ⟨e1,hf,e3,e4,e5⟩)
  refine T.ite (fun k1=>?_) (fun k1=>?_)
  ·have hk0:k=1:=by have:=eq_of_beq k1; omega
   subst hk0
   exact qcore (β:=(List Int×List Int×List Int×List Int×List Int×Int×Int×Int)⊕(List Int×List Int×List Int×List Int×List Int×Int×Int)) e3 hi hN hk4 x hx (fun f=>some (.inl (g,f0,f,f2,f3,j',addW .i64 ((1:Nat):Int) 1,(i:Int)))) (fun f' hf=>leaf g f0 f' f2 f3 ⟨e1,e2,hf,e4,e5⟩)
  refine T.ite (fun k2=>?_) (fun k2=>?_)
  ·have hk0:k=2:=by have:=eq_of_beq k2; omega
   subst hk0
   exact qcore (β:=(List Int×List Int×List Int×List Int×List Int×Int×Int×Int)⊕(List Int×List Int×List Int×List Int×List Int×Int×Int)) e4 hi hN hk4 x hx (fun f=>some (.inl (g,f0,f1,f,f3,j',addW .i64 ((2:Nat):Int) 1,(i:Int)))) (fun f' hf=>leaf g f0 f1 f' f3 ⟨e1,e2,e3,hf,e5⟩)
  refine T.ite (fun k3=>?_) (fun k3=>?_)
  ·have hk0:k=3:=by have:=eq_of_beq k3; omega
   subst hk0
   exact qcore (β:=(List Int×List Int×List Int×List Int×List Int×Int×Int×Int)⊕(List Int×List Int×List Int×List Int×List Int×Int×Int)) e5 hi hN hk4 x hx (fun f=>some (.inl (g,f0,f1,f2,f,j',addW .i64 ((3:Nat):Int) 1,(i:Int)))) (fun f' hf=>leaf g f0 f1 f2 f' ⟨e1,e2,e3,e4,hf⟩)
  ·have k0:(k:Int)≠0:=by simpa using k0
   have k1:(k:Int)≠1:=by simpa using k1
   have k2:(k:Int)≠2:=by simpa using k2
   have k3:(k:Int)≠3:=by simpa using k3
   omega
 case _ =>
  have h4:4≤k:=ge_of (m:=4) cd
  have:k=4:=by omega
  subst this
  exact T.fin ⟨⟨e1,e2,e3,e4,e5⟩,rfl,rfl⟩
theorem of3X_ (n:Nat) (c:Cand) (all:List Event) (x:Event) (i:Nat) (hi:i<all.length) (hN:all.length≤60) (g f0 f1 f2 f3:List Int) (h:HJ all x g i 0) (hs:small x) (hx:okE x=true) (hx2:x.At≤(i:Int)) (k:Int) (hn:200≤n) :
  T (iter (fun s=>ppo_of_L3 n c all x s) n (g,f0,f1,f2,f3,0,k,(i:Int))) (fun s=>HJ all x s.1 i x.Deps.Addr.length∧s.2=(f0,f1,f2,f3,k)):=by
 have hb:=(okTail x hx).2.2.2.2.2.2.1
 have hA:=(okTail x hx).2.2.1
 unfold small at hs
 refine T.loop x.Deps.Addr.length (fun j s=>HJ all x s.1 i j∧s.2=(f0,f1,f2,f3,(j:Int),k,(i:Int))) _ ?_ ⟨h,rfl⟩ (by omega)
 rintro j ⟨g,s2⟩ hj ⟨e1,e2⟩
 dsimp only at e1 e2
 subst e2
 unfold ppo_of_L3
 refine T.ite (fun cd=>?_) (fun cd=>?_)
 ·have hjl:=lt_of cd
  dsimp only at hjl ⊢
  have hm:=bel_mem hb _ (List.getElem_mem hjl)
  have hgl:=e1.len
  refine T.get j rfl hjl ?_
  have ha:addW .i64 (subW .i64 (i:Int) x.At) x.Deps.Addr[j]=((((i:Int) - x.At + x.Deps.Addr[j]).toNat:Nat):Int):=by
   rw [subI (by omega) (by omega),addI (by omega) (by omega)]
   omega
  refine T.get _ ha (by omega) ?_
  refine T.ret ⟨hjl,?_,by dsimp only; rw [addN1 _ (by omega)]⟩
  dsimp only
  rw [ha,Int.toNat_natCast]
  exact e1.put hjl _ (by omega) (by omega)
 ·have:=ge_of cd
  have:j=x.Deps.Addr.length:=by omega
  subst this
  exact T.fin ⟨e1,rfl⟩
theorem repeatX_ (n:Nat) (z:Int) (N:Nat) (o1:List Cell) (o2:List (List Event)) (o3 o4:List Int) (o5:List Event) (hN:N≤60) (hn:200≤n):T (slices_Repeat_int_int_S n [z] (N:Int) o1 o2 o3 o4 o5) (fun l=>l=List.replicate N z):=by
 unfold slices_Repeat_int_int_S
 refine T.ite (fun d=>by have:=of_decide_eq_true d; omega) (fun _=>?_)
 have e1:IntKind.wrap .u64 (([z]:List Int).length:Int)=1:=rfl
 rw [e1,wrapU (by omega) (by omega)]
 refine T.eqb (mulN n N (by omega)) ?_
 dsimp only
 refine T.ite (fun d=>by simp at d) (fun _=>?_)
 refine T.ite (fun d=>by have:=of_decide_eq_true d; omega) (fun _=>?_)
 rw [wrapI (by omega) (by omega)]
 refine T.grd (by simp [Nat.blt]; omega) ?_
 refine T.bind (P:=fun l=>l=List.replicate N z) ?_ (fun l hl=>T.ret hl)
 simp only [Int.toNat_natCast,List.length_replicate]
 refine T.loop N (fun i s=>∃ f:Nat,s.2=(f:Int)∧s.1.length=N∧s.1.take f=List.replicate f z∧i≤f∧f≤N∧(1≤f∨N=0)) _ ?_ ⟨min 1 N,rfl,?_,?_,by omega,by omega,by omega⟩ (by omega)
 ·rintro i ⟨s1,s2⟩ hi ⟨f,rfl,e,ht,h1,h2,h3⟩
  dsimp only at e ht
  unfold slices_Repeat_int_int_S_L1
  refine T.ite (fun cd=>?_) (fun cd=>T.fin ?_)
  ·have hf:=lt_of cd
   dsimp only at hf
   simp only [Int.toNat_natCast]
   refine T.grd (by simp; omega) ?_
   refine T.grd (by simp; omega) ?_
   refine T.grd (ble_of (by omega)) ?_
   rw [List.drop_zero,ht]
   have hm:(List.replicate f z).length=f:=by simp
   rw [hm]
   refine T.ret ⟨by omega,f + min f (s1.length - f),by dsimp only; rw [addN _ _ (by omega)],?_,?_,by omega,by omega,by omega⟩
   ·simp only [List.length_append,List.length_take,List.length_drop,List.length_replicate]
    omega
   ·dsimp only
    rw [List.take_replicate,← List.append_assoc,← List.replicate_append_replicate.symm,List.take_append_of_le_length (by simp; omega),List.take_of_length_le (by simp; omega)]
    congr 1
    omega
  ·have:=ge_of cd
   dsimp only at this ⊢
   have:f=N:=by omega
   subst this
   rw [List.take_of_length_le (by omega)] at ht
   exact ht
 ·simp only [List.length_append,List.length_take,List.length_drop,List.length_replicate,List.length_cons,List.length_nil]
  omega
 ·by_cases e:N=0
  ·subst e; simp
  ·have:min 1 N=1:=by omega
   rw [this]
   have h2:N=(N - 1) + 1:=by omega
   rw [h2]
   simp
theorem ofX_ (n:Nat) (c:Cand) (hc:Light c) (hn:200≤n) (h:RefOK n c):T (ppo_of n c) (fun r=>∃ v,r=some v∧XV c v):=by
 have hf:=hc.all
 have hev:=fun i hi=>ev_ok hc h i hi
 unfold ppo_of
 refine T.eqb (candCheck_ n c hc hn h) ?_
 refine T.ite (fun d=>by simp at d) (fun _=>?_)
 refine T.eqb (concat_ n c hc hn) ?_
 refine T.bind (repeatX_ n _ _ _ _ _ _ _ hf hn) (fun g hg=>?_)
 rw [addN1 _ (by omega)]
 generalize hall:c.Harts.flatten=all at *
 have hgr:(decide (0≤((all.length + 1:Nat):Int))&&decide (((all.length + 1:Nat):Int)≤((all.length + 1:Nat):Int))&&decide (8 * ((all.length + 1:Nat):Int)≤140737488355328)&&decide (((all.length + 1:Nat):Int)≤140737488355328)&&Nat.blt 0 1)=true:=by
  simp [Nat.blt]; omega
 refine T.grd hgr ?_
 refine T.grd hgr ?_
 refine T.grd hgr ?_
 refine T.grd hgr ?_
 simp only [Int.toNat_natCast]
 have hg0:HG all g 0:=by
  subst hg
  exact ⟨by simp,fun a ha=>.inl (by simp),fun a ha i hi h=>by omega⟩
 refine T.bind (P:=fun t=>Lk all all.length 0 t.1 t.2.1 t.2.2.1 t.2.2.2.1 t.2.2.2.2) ?_ ?_
 ·refine T.loop all.length (fun i s=>Lk all i 0 s.1 s.2.1 s.2.2.1 s.2.2.2.1 s.2.2.2.2.1∧s.2.2.2.2.2=(i:Int)) _ ?_ ⟨⟨hg0,FQ.zero all _,FQ.zero all _,FQ.zero all _,FQ.zero all _⟩,rfl⟩ (by omega)
  rintro i ⟨g,f0,f1,f2,f3,s6⟩ hi ⟨hls,e6⟩
  dsimp only at hls e6
  subst e6
  unfold ppo_of_L1
  refine T.ite (fun cd=>?_) (fun cd=>?_)
  case _ =>
   have hil:=lt_of cd
   dsimp only at hil ⊢
   refine T.get i rfl hil ?_
   obtain ⟨o1,o2,o3,o4⟩:=hev i hil
   refine T.bind (of2X_ n c all all[i] i hil rfl hf g f0 f1 f2 f3 (i:Int) hls hn) ?_
   rintro ⟨g,f0,f1,f2,f3,s6,s7⟩ ⟨hls,e6,e7⟩
   dsimp only at hls e6 e7 ⊢
   subst e6 e7
   refine T.bind (of3X_ n c all all[i] i hil hf g f0 f1 f2 f3 (HJ.of _ hls.g) o1 o2 o4 _ hn) ?_
   rintro ⟨g,s2⟩ ⟨e1,e2⟩
   dsimp only at e1 e2 ⊢
   subst e2
   exact T.ret ⟨hil,⟨HJ.to hil rfl e1,hls.p0,hls.p1,hls.p2,hls.p3⟩,addN1 _ (by omega)⟩
  case _ =>
   have:=ge_of cd
   have:i=all.length:=by omega
   subst this
   exact T.fin hls
 ·rintro ⟨g,f0,f1,f2,f3⟩ ⟨e1,e2,e3,e4,e5⟩
  have r:∀ {f:List Int} {k j:Nat},FQ all j f (at4 k 0 all.length)→FQ c.Harts.flatten j f c.Harts.flatten.length:=fun h=>by rw [hall]; exact h
  refine T.ret ⟨_,rfl,⟨⟨rfl,hall.symm,?_,?_,?_,?_,by rw [hall]; exact e1.len⟩,r e2,r e3,r e4,r e5,by rw [hall]; exact e1⟩⟩
  ·rw [hall]; exact e2.len
  ·rw [hall]; exact e3.len
  ·rw [hall]; exact e4.len
  ·rw [hall]; exact e5.len
end Go.Proofs.YtigcbjbaibcgfaaGreat
