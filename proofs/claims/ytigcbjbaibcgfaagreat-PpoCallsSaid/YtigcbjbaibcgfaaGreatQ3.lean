/- The thirteen rules, by the program and by the document. Plain lists, no program in sight. -/
import Derived.Test.YtigcbjbaibcgfaaGreatQ2
import Derived.Test.YtigcbjbaibcgfaaGreatQ1
namespace Go.Proofs.YtigcbjbaibcgfaaGreat
open Go A

/-! ### Numbers in a list -/
theorem ris_lt:∀ (l:List Int) (a:Int),risB a l=true→∀ (i j:Nat) (hj:j<l.length) (hij:i<j),l[i]<l[j]
 | [],_,_,i,j,hj,_=>by simp at hj
 | x::l,a,h,i,j,hj,hij=>by
  unfold risB at h
  simp only [Bool.and_eq_true,decide_eq_true_eq] at h
  cases j with
  | zero=>omega
  | succ j =>
   cases i with
   | zero=>exact ris_mem l x h.2 _ (List.getElem_mem _)
   | succ i=>exact ris_lt l x h.2 i j (by simpa using hj) (by omega)
theorem onX_ (n:Nat) (l:List Int) (a:Int) (hl:l.length≤100) (hs:risB (-1) l=true) (hn:200≤n):T (ppo_on n l a) (fun r=>r=true↔a∈l):=by
 have hlt:=ris_lt l (-1) hs
 unfold ppo_on
 refine T.bind (P:=fun (r:Int×Bool)=>r.2=true↔a∈l) ?_ (fun r hr=>T.ret hr)
 unfold slices_BinarySearch_int_int
 refine T.bind (P:=fun t=>∃ k:Nat,t=(k:Int)∧(∀ (j:Nat) (_:j<k) (hj:j<l.length),l[j]<a)∧∀ (j:Nat) (_:k≤j) (hj:j<l.length),a≤l[j]) ?_ ?_
 ·refine T.loop l.length (fun i s=>∃ lo hi:Nat,s=((lo:Int),(hi:Int))∧lo≤hi∧hi≤l.length∧hi - lo≤l.length - i∧(∀ (j:Nat) (_:j<lo) (hj:j<l.length),l[j]<a)∧∀ (j:Nat) (_:hi≤j) (hj:j<l.length),a≤l[j]) _ ?_ ⟨0,l.length,rfl,by omega,by omega,by omega,fun j h=>by omega,fun j h=>by omega⟩ (by omega)
  rintro i s hi ⟨lo,hi,rfl,h1,h2,h3,h4,h5⟩
  unfold slices_BinarySearch_int_int_L1
  refine T.ite (fun c=>?_) (fun c=>?_)
  ·have hlo:lo<hi:=lt_of c
   dsimp only
   rw [mid lo hi (by omega)]
   refine T.get ((lo + hi) / 2) rfl (by omega) ?_
   refine T.eqb (less_ _ _ _) ?_
   refine T.ite (fun c1=>?_) (fun c1=>?_)
   ·have c1:=of_decide_eq_true c1
    refine T.ret ⟨by omega,(lo + hi) / 2 + 1,hi,by rw [addN1 _ (by omega)],by omega,by omega,by omega,fun j g hj=>?_,h5⟩
    by_cases e:j=(lo + hi) / 2
    ·subst e; exact c1
    ·exact Int.lt_trans (hlt j ((lo + hi) / 2) (by omega) (by omega)) c1
   ·have c1:=of_decide_eq_false c1
    refine T.ret ⟨by omega,lo,(lo + hi) / 2,rfl,by omega,by omega,by omega,h4,fun j g hj=>?_⟩
    by_cases e:j=(lo + hi) / 2
    ·subst e; omega
    ·have:=hlt ((lo + hi) / 2) j hj (by omega)
     omega
  ·have hge:=ge_of c
   have e:lo=hi:=by omega
   subst e
   exact T.fin ⟨lo,rfl,h4,h5⟩
 ·rintro t ⟨k,rfl,h1,h2⟩
  refine T.ite (fun c=>?_) (fun c=>?_)
  ·have hk:k<l.length:=lt_of c
   refine T.get k rfl hk ?_
   have key:l[k]≠a→¬ a∈l:=fun hne hm=>by
    obtain ⟨j,hj,rfl⟩:=List.getElem_of_mem hm
    by_cases g:j<k
    ·have:=h1 j g hj; omega
    ·by_cases e:j=k
     ·subst e; exact hne rfl
     ·have:=hlt k j hj (by omega)
      have:=h2 k (Nat.le_refl _) hk
      omega
   refine T.ite (fun e=>T.ret ⟨fun _=>by rw [← eq_of_beq e]; exact List.getElem_mem hk,fun _=>rfl⟩) (fun e=>?_)
   have hne:l[k]≠a:=by simpa using e
   refine T.eqb (a:=l[k] != l[k]) rfl ?_
   refine T.ite (fun d=>by simp at d) (fun _=>T.ret ⟨fun h=>by simp at h,fun h=>absurd h (key hne)⟩)
  ·have hk:l.length≤k:=ge_of c
   refine T.ret ⟨fun h=>by simp at h,fun hm=>?_⟩
   obtain ⟨j,hj,rfl⟩:=List.getElem_of_mem hm
   have:=h1 j (by omega) hj
   omega
theorem inX_ (n:Nat) (l:List Int) (a:Int) (hl:l.length≤100) (hn:200≤n):T (ref_in n l a) (fun r=>r=true↔a∈l):=by
 unfold ref_in
 refine T.bind (P:=fun (r:Unit⊕Unit)=>match r with | .inl _=>¬ a∈l | .inr _=>a∈l) ?_ (fun r hr=>by
  cases r with
  | inl _=>exact T.ret ⟨fun h=>by simp at h,fun h=>absurd h hr⟩
  | inr _=>exact T.ret ⟨fun _=>hr,fun _=>rfl⟩)
 refine T.loop l.length (fun i s=>s=(i:Int)∧∀ (j:Nat) (_:j<i) (hj:j<l.length),l[j]≠a) _ ?_ ⟨rfl,fun j h=>by omega⟩ (by omega)
 rintro i s hi ⟨rfl,hq⟩
 unfold ref_in_L1
 refine T.ite (fun c=>?_) (fun c=>T.fin (fun hm=>?_))
 ·have hil:=lt_of c
  refine T.get i rfl hil ?_
  refine T.ite (fun d=>T.fin (by show a∈l; rw [← eq_of_beq d]; exact List.getElem_mem hil)) (fun d=>T.ret ⟨hil,addN1 _ (by omega),fun j g hj=>?_⟩)
  by_cases e:j=i
  ·subst e; simpa using d
  ·exact hq j (by omega) hj
 ·obtain ⟨j,hj,e⟩:=List.getElem_of_mem hm
  exact hq j (by have:=ge_of c; omega) hj e

/-! ### Loops that look for one -/
theorem scan_ {n:Nat} (step:Int→Option (Int⊕(Unit⊕Unit))) (a b:Nat) (C:Nat→Prop) (hb:b≤100) (hn:200≤n)
  (h1:∀ m:Nat,a<m→m<b→T (step (m:Int)) (fun r=>(r=.inl ((m + 1:Nat):Int)∧¬ C m)∨(r=.inr (.inr ())∧C m))) (h2:∀ m:Nat,b≤m→step (m:Int)=some (.inr (.inl ()))) :
  T (iter step n ((a + 1:Nat):Int)) (fun (r:Unit⊕Unit)=>match r with | .inl _=>∀ m,a<m→m<b→¬ C m | .inr _=>∃ m,a<m∧m<b∧C m):=by
 refine T.loop b (fun i s=>s=((a + 1 + i:Nat):Int)∧∀ m,a<m→m<a + 1 + i→m<b→¬ C m) _ ?_ ⟨rfl,fun m h1 h2=>by omega⟩ (by omega)
 rintro i s hi ⟨rfl,hq⟩
 by_cases c:a + 1 + i<b
 ·refine (h1 (a + 1 + i) (by omega) c).imp (fun r hr=>?_)
  rcases hr with ⟨rfl,hr⟩ | ⟨rfl,hr⟩
  ·refine ⟨by omega,rfl,fun m g1 g2 g3=>?_⟩
   by_cases e:m=a + 1 + i
   ·subst e; exact hr
   ·exact hq m g1 (by omega) g3
  ·exact ⟨_,by omega,c,hr⟩
 ·rw [h2 _ (by omega)]
  exact T.fin (fun m g1 g2=>hq m g1 (by omega) g2)

/-! ### Fences -/
def sideB (part:Int) (e:Event):Bool:=(remW .i64 (quoW .i64 part 2) 2==1&&rdB e.Kind)||(remW .i64 (quoW .i64 part 1) 2==1&&wrB e.Kind)
theorem side_ (n:Nat) (part:Int) (e:Event):ref_side n part e=some (sideB part e):=by
 unfold ref_side sideB
 rw [reads_,writes_]
 cases h1:(remW .i64 (quoW .i64 part 2) 2==1) <;> cases h2:(remW .i64 (quoW .i64 part 1) 2==1) <;> cases rdB e.Kind <;> cases wrB e.Kind <;> rfl
def sidesL (e:Event):List Int:=if wrB e.Kind=true then (if rdB e.Kind=true then [0,1] else [0]) else (if rdB e.Kind=true then [1] else [])
theorem sidesX_ (n:Nat) (e:Event):ppo_sides n e=some (sidesL e):=by
 unfold ppo_sides sidesL
 rw [eReads_,eWrites_]
 cases rdB e.Kind <;> cases wrB e.Kind <;> rfl
theorem sidesL_mem (e:Event) (s:Int):s∈sidesL e↔(s=0∧wrB e.Kind=true)∨(s=1∧rdB e.Kind=true):=by
 unfold sidesL
 cases rdB e.Kind <;> cases wrB e.Kind <;> simp
theorem bit0:∀ p:Nat,p<16→bitP (p:Int) 0=(remW .i64 (quoW .i64 (p:Int) 1) 2==1):=by decide +kernel
theorem bit1:∀ p:Nat,p<16→bitP (p:Int) 1=(remW .i64 (quoW .i64 (p:Int) 2) 2==1):=by decide +kernel
theorem bitI (p:Int) (h:0≤p∧p≤15):bitP p 0=(remW .i64 (quoW .i64 p 1) 2==1)∧bitP p 1=(remW .i64 (quoW .i64 p 2) 2==1):=by
 obtain ⟨k,rfl⟩:∃ k:Nat,p=(k:Int):=⟨p.toNat,by omega⟩
 exact ⟨bit0 k (by omega),bit1 k (by omega)⟩
theorem fk0 (e:Event):fenceK 0 e=((e.Kind==6)&&(bitP e.Pred 0&&bitP e.Succ 0)):=rfl
theorem fk1 (e:Event):fenceK 1 e=((e.Kind==6)&&(bitP e.Pred 0&&bitP e.Succ 1)):=rfl
theorem fk2 (e:Event):fenceK 2 e=((e.Kind==6)&&(bitP e.Pred 1&&bitP e.Succ 0)):=rfl
theorem fk3 (e:Event):fenceK 3 e=((e.Kind==6)&&(bitP e.Pred 1&&bitP e.Succ 1)):=rfl
/-- A fence's sides, as the program counts them and as the document says them. -/
theorem sides_fence (f x y:Event) (hp:0≤f.Pred∧f.Pred≤15) (hs:0≤f.Succ∧f.Succ≤15) :
  (∃ p∈sidesL x,∃ s∈sidesL y,fenceK (2 * p + s).toNat f=true)↔(f.Kind=6∧sideB f.Pred x=true∧sideB f.Succ y=true):=by
 obtain ⟨p0,p1⟩:=bitI f.Pred hp
 obtain ⟨s0,s1⟩:=bitI f.Succ hs
 unfold sideB
 rw [← p0,← p1,← s0,← s1]
 constructor
 ·rintro ⟨p,hp,s,hs,h⟩
  rw [sidesL_mem] at hp hs
  rcases hp with ⟨rfl,hp⟩ | ⟨rfl,hp⟩ <;> rcases hs with ⟨rfl,hs⟩ | ⟨rfl,hs⟩
  ·have h:fenceK 0 f=true:=h
   rw [fk0] at h
   simp only [Bool.and_eq_true,beq_iff_eq] at h
   simp [h.1,h.2.1,h.2.2,hp,hs]
  ·have h:fenceK 1 f=true:=h
   rw [fk1] at h
   simp only [Bool.and_eq_true,beq_iff_eq] at h
   simp [h.1,h.2.1,h.2.2,hp,hs]
  ·have h:fenceK 2 f=true:=h
   rw [fk2] at h
   simp only [Bool.and_eq_true,beq_iff_eq] at h
   simp [h.1,h.2.1,h.2.2,hp,hs]
  ·have h:fenceK 3 f=true:=h
   rw [fk3] at h
   simp only [Bool.and_eq_true,beq_iff_eq] at h
   simp [h.1,h.2.1,h.2.2,hp,hs]
 ·rintro ⟨hk,h1,h2⟩
  simp only [Bool.or_eq_true,Bool.and_eq_true] at h1 h2
  have hk6:(f.Kind==6)=true:=by simpa using hk
  rcases h1 with ⟨h1,x1⟩ | ⟨h1,x1⟩ <;> rcases h2 with ⟨h2,y1⟩ | ⟨h2,y1⟩
  ·exact ⟨1,(sidesL_mem _ _).2 (.inr ⟨rfl,x1⟩),1,(sidesL_mem _ _).2 (.inr ⟨rfl,y1⟩),by show fenceK 3 f=true; rw [fk3,hk6,h1,h2]; rfl⟩
  ·exact ⟨1,(sidesL_mem _ _).2 (.inr ⟨rfl,x1⟩),0,(sidesL_mem _ _).2 (.inl ⟨rfl,y1⟩),by show fenceK 2 f=true; rw [fk2,hk6,h1,h2]; rfl⟩
  ·exact ⟨0,(sidesL_mem _ _).2 (.inl ⟨rfl,x1⟩),1,(sidesL_mem _ _).2 (.inr ⟨rfl,y1⟩),by show fenceK 1 f=true; rw [fk1,hk6,h1,h2]; rfl⟩
  ·exact ⟨0,(sidesL_mem _ _).2 (.inl ⟨rfl,x1⟩),0,(sidesL_mem _ _).2 (.inl ⟨rfl,y1⟩),by show fenceK 0 f=true; rw [fk0,hk6,h1,h2]; rfl⟩
theorem fencedX_ (n:Nat) (c:Cand) (v:ppo_view) (hv:XV c v) (a b:Nat) (ha:a<c.Harts.flatten.length) (hb:b<c.Harts.flatten.length) (hab:a≤b) (hn:200≤n) :
  T (ppo_view_fenced n v (a:Int) (b:Int)) (fun r=>r=true↔∃ p∈sidesL c.Harts.flatten[a],∃ s∈sidesL c.Harts.flatten[b],∃ m:Nat,∃ hm:m<c.Harts.flatten.length,a≤m∧m<b∧fenceK (2 * p + s).toNat c.Harts.flatten[m]=true):=by
 have ga:getI v.all (a:Int)=some c.Harts.flatten[a]:=by rw [hv.view.alls]; exact getI_at rfl ha
 have gb:getI v.all (b:Int)=some c.Harts.flatten[b]:=by rw [hv.view.alls]; exact getI_at rfl hb
 have l0:=hv.p0.len
 have l1:=hv.p1.len
 have l2:=hv.p2.len
 have l3:=hv.p3.len
 have o0:=hv.p0.over a b hab (by omega)
 have o1:=hv.p1.over a b hab (by omega)
 have o2:=hv.p2.over a b hab (by omega)
 have o3:=hv.p3.over a b hab (by omega)
 generalize hF:(fun k:Nat=>∃ m:Nat,∃ hm:m<c.Harts.flatten.length,a≤m∧m<b∧fenceK k c.Harts.flatten[m]=true)=F
 have hFk:∀ k,F k↔∃ m:Nat,∃ hm:m<c.Harts.flatten.length,a≤m∧m<b∧fenceK k c.Harts.flatten[m]=true:=fun k=>by rw [← hF]
 simp only [← hFk] at o0 o1 o2 o3 ⊢
 have hsm:∀ e:Event,(sidesL e).length≤2:=fun e=>by unfold sidesL; split <;> split <;> simp
 unfold ppo_view_fenced
 refine T.eqb ga ?_
 refine T.eqb (sidesX_ n _) ?_
 have hx2:=hsm c.Harts.flatten[a]
 have hy2:=hsm c.Harts.flatten[b]
 have hxm:=sidesL_mem c.Harts.flatten[a]
 have hym:=sidesL_mem c.Harts.flatten[b]
 generalize sidesL c.Harts.flatten[a]=ps at hx2 hxm ⊢
 refine T.bind (P:=fun (r:Unit⊕Unit)=>match r with | .inl _=>∀ p∈ps,∀ s∈sidesL c.Harts.flatten[b],¬ F (2 * p + s).toNat | .inr _=>∃ p∈ps,∃ s∈sidesL c.Harts.flatten[b],F (2 * p + s).toNat) ?_ (fun r hr=>by
  cases r with
  | inl _=>exact T.ret ⟨fun h=>by simp at h,fun ⟨p,hp,s,hs,h⟩=>absurd h (hr p hp s hs)⟩
  | inr _=>exact T.ret ⟨fun _=>hr,fun _=>rfl⟩)
 refine T.loop ps.length (fun i s=>s=(i:Int)∧∀ (j:Nat) (_:j<i) (hj:j<ps.length),∀ s∈sidesL c.Harts.flatten[b],¬ F (2 * ps[j] + s).toNat) _ ?_ ⟨rfl,fun j h=>by omega⟩ (by omega)
 rintro i s hi ⟨rfl,hq⟩
 unfold ppo_view_fenced_L1
 refine T.ite (fun cd=>?_) (fun cd=>T.fin (fun p hp=>?_))
 case _ =>
  have hil:=lt_of cd
  refine T.get i rfl hil ?_
  refine T.eqb gb ?_
  refine T.eqb (sidesX_ n _) ?_
  generalize sidesL c.Harts.flatten[b]=qs at hy2 hym hq ⊢
  have hx:=(hxm ps[i]).1 (List.getElem_mem hil)
  refine T.bind (P:=fun (r:Int⊕Unit)=>match r with | .inl w=>w=(i:Int)∧∀ s∈qs,¬ F (2 * ps[i] + s).toNat | .inr _=>∃ s∈qs,F (2 * ps[i] + s).toNat) ?_ (fun r hr=>by
   cases r with
   | inl w =>
    obtain ⟨hw,hr⟩:w=(i:Int)∧∀ s∈qs,¬ F (2 * ps[i] + s).toNat:=hr
    subst hw
    refine T.ret ⟨hil,addN1 _ (by omega),fun j g hj=>?_⟩
    by_cases e:j=i
    ·subst e; exact hr
    ·exact hq j (by omega) hj
   | inr _=>exact T.fin ⟨_,List.getElem_mem hil,hr⟩)
  refine T.loop qs.length (fun k s=>s=((i:Int),(k:Int))∧∀ (j:Nat) (_:j<k) (hj:j<qs.length),¬ F (2 * ps[i] + qs[j]).toNat) _ ?_ ⟨rfl,fun j h=>by omega⟩ (by omega)
  rintro k s hk ⟨rfl,hq2⟩
  unfold ppo_view_fenced_L2
  refine T.ite (fun cd=>?_) (fun cd=>T.fin ⟨rfl,fun s hs=>?_⟩)
  case _ =>
   have hkl:=lt_of cd
   refine T.get k rfl hkl ?_
   have hy:=(hym qs[k]).1 (List.getElem_mem hkl)
   have hmem:=List.getElem_mem hkl
   have next:¬ F (2 * ps[i] + qs[k]).toNat→T (some (.inl ((i:Int),addW .i64 (k:Int) 1)):Option ((Int×Int)⊕(Int⊕Unit))) (Rd (fun s'=>k<qs.length∧(s'=((i:Int),((k + 1:Nat):Int))∧∀ (j:Nat) (_:j<k + 1) (hj:j<qs.length),¬ F (2 * ps[i] + qs[j]).toNat)) (fun (r:Int⊕Unit)=>match r with | .inl w=>w=(i:Int)∧∀ s∈qs,¬ F (2 * ps[i] + s).toNat | .inr _=>∃ s∈qs,F (2 * ps[i] + s).toNat)):=fun hno=>by
    refine T.ret ⟨hkl,by rw [addN1 _ (by omega)],fun j g hj=>?_⟩
    by_cases e:j=k
    ·subst e; exact hno
    ·exact hq2 j (by omega) hj
   have stop:F (2 * ps[i] + qs[k]).toNat→T (some (.inr (.inr ())):Option ((Int×Int)⊕(Int⊕Unit))) (Rd (fun s'=>k<qs.length∧(s'=((i:Int),((k + 1:Nat):Int))∧∀ (j:Nat) (_:j<k + 1) (hj:j<qs.length),¬ F (2 * ps[i] + qs[j]).toNat)) (fun (r:Int⊕Unit)=>match r with | .inl w=>w=(i:Int)∧∀ s∈qs,¬ F (2 * ps[i] + s).toNat | .inr _=>∃ s∈qs,F (2 * ps[i] + s).toNat)):=fun hy=>T.fin ⟨_,hmem,hy⟩
   generalize qs[k]=q at *
   generalize ps[i]=p at *
   rw [mulI (by omega) (by omega),addI (by omega) (by omega)]
   refine T.ite (fun c0=>?_) (fun c0=>?_)
   ·have e:(2 * p + q).toNat=0:=by have:=eq_of_beq c0; omega
    rw [e] at next stop
    exact T.get b rfl (by omega) (T.get a rfl (by omega) (T.ite (fun d=>stop (o0.1 (of_decide_eq_true d))) (fun d=>next (fun h=>of_decide_eq_false d (o0.2 h)))))
   refine T.ite (fun c1=>?_) (fun c1=>?_)
   ·have e:(2 * p + q).toNat=1:=by have:=eq_of_beq c1; omega
    rw [e] at next stop
    exact T.get b rfl (by omega) (T.get a rfl (by omega) (T.ite (fun d=>stop (o1.1 (of_decide_eq_true d))) (fun d=>next (fun h=>of_decide_eq_false d (o1.2 h)))))
   refine T.ite (fun c2=>?_) (fun c2=>?_)
   ·have e:(2 * p + q).toNat=2:=by have:=eq_of_beq c2; omega
    rw [e] at next stop
    exact T.get b rfl (by omega) (T.get a rfl (by omega) (T.ite (fun d=>stop (o2.1 (of_decide_eq_true d))) (fun d=>next (fun h=>of_decide_eq_false d (o2.2 h)))))
   refine T.ite (fun c3=>?_) (fun c3=>?_)
   ·have e:(2 * p + q).toNat=3:=by have:=eq_of_beq c3; omega
    rw [e] at next stop
    exact T.get b rfl (by omega) (T.get a rfl (by omega) (T.ite (fun d=>stop (o3.1 (of_decide_eq_true d))) (fun d=>next (fun h=>of_decide_eq_false d (o3.2 h)))))
   exfalso
   have c0:¬ (2 * p + q=0):=by simpa using c0
   have c1:¬ (2 * p + q=1):=by simpa using c1
   have c2:¬ (2 * p + q=2):=by simpa using c2
   have c3:¬ (2 * p + q=3):=by simpa using c3
   omega
  case _ =>
   obtain ⟨j,hj,rfl⟩:=List.getElem_of_mem hs
   exact hq2 j (by have:=ge_of cd; omega) hj
 case _ =>
  obtain ⟨j,hj,rfl⟩:=List.getElem_of_mem hp
  exact hq j (by have:=ge_of cd; omega) hj
end Go.Proofs.YtigcbjbaibcgfaaGreat
