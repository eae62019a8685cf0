/- Answers that exist and are as they should be; an event that the document takes, the program takes. Plain lists, no program in sight. -/
import Derived.Test.YtigcbjbaibcgfaaGreatE2
namespace Go.Proofs.YtigcbjbaibcgfaaGreat
open Go A

/-- There is an answer, and it is so. -/
def T {α:Type} (x:Option α) (P:α→Prop):Prop:=∃ r,x=some r∧P r
theorem T.ret {α:Type} {a:α} {P:α→Prop} (h:P a):T (some a) P:=⟨a,rfl,h⟩
theorem T.bind {α β:Type} {x:Option α} {f:α→Option β} {P:α→Prop} {Q:β→Prop} (h:T x P) (k:∀ r,P r→T (f r) Q):T (x.bind f) Q:=by
 obtain ⟨r,e,p⟩:=h
 rw [e]
 exact k r p
theorem T.eqb {α β:Type} {x:Option α} {f:α→Option β} {a:α} {Q:β→Prop} (h:x=some a) (k:T (f a) Q):T (x.bind f) Q:=by
 rw [h]
 exact k
theorem T.ite {α:Type} {b:Bool} {x y:Option α} {Q:α→Prop} (h1:b=true→T x Q) (h2:b=false→T y Q):T (if b=true then x else y) Q:=by
 cases b
 ·exact h2 rfl
 ·exact h1 rfl
theorem T.grd {α:Type} {b:Bool} {x:Option α} {Q:α→Prop} (h:b=true) (k:T x Q):T (grd b x) Q:=by
 rw [grd_pos h]
 exact k
theorem T.imp {α:Type} {x:Option α} {P Q:α→Prop} (h:T x P) (k:∀ r,P r→Q r):T x Q:=by
 obtain ⟨r,e,p⟩:=h
 exact ⟨r,e,k r p⟩
theorem getI_at {α:Type} {l:List α} {i:Int} {k:Nat} (hi:i=(k:Int)) (h:k<l.length):getI l i=some l[k]:=by
 rw [hi,getI_nat,List.getElem?_eq_getElem h]
theorem T.get {α β:Type} {l:List α} {i:Int} {f:α→Option β} {Q:β→Prop} (k:Nat) (hi:i=(k:Int)) (h:k<l.length) (g:T (f l[k]) Q):T ((getI l i).bind f) Q:=T.eqb (getI_at hi h) g
/-- A round's end. -/
def Rd {σ τ:Type} (P:σ→Prop) (Q:τ→Prop):σ⊕τ→Prop
 | .inl s=>P s
 | .inr t=>Q t
theorem T.fin {σ τ:Type} {P:σ→Prop} {Q:τ→Prop} {t:τ} (h:Q t):T (some (.inr t:σ⊕τ)) (Rd P Q):=T.ret h
/-- So many rounds at most; St tells what is so at the beginning of each. -/
theorem T.loopFrom {σ τ:Type} {step:σ→Option (σ⊕τ)} (N:Nat) (St:Nat→σ→Prop) (Post:τ→Prop)
  (hs:∀ i s,i≤N→St i s→T (step s) (Rd (fun s'=>i<N∧St (i + 1) s') Post)):∀ (n i:Nat) (s:σ),i≤N→St i s→N - i<n→T (iter step n s) Post
 | 0,_,_,_,_,h=>by omega
 | n + 1,i,s,hi,h0,h=>by
  rw [iter_succ]
  obtain ⟨r,e,p⟩:=hs i s hi h0
  rw [e]
  cases r with
  | inl s'=>exact T.loopFrom N St Post hs n (i + 1) s' p.1 p.2 (by have:=p.1; omega)
  | inr t=>exact T.ret p
theorem T.loop {σ τ:Type} {step:σ→Option (σ⊕τ)} (N:Nat) (St:Nat→σ→Prop) (Post:τ→Prop)
  (hs:∀ i s,i≤N→St i s→T (step s) (Rd (fun s'=>i<N∧St (i + 1) s') Post)) {n:Nat} {s:σ} (h0:St 0 s) (hn:N<n):T (iter step n s) Post :=
 T.loopFrom N St Post hs n 0 s (Nat.zero_le _) h0 hn

/-! ### Events -/
def restB (e:Event):Bool:=marksB e&&(pairB e&&(belB e.Deps.Addr e.At&&(belB e.Deps.Data e.At&&(belB e.Deps.Way e.At&&(wrB e.Kind||decide (e.Deps.Data=[]))))))
theorem rcC2_ (n:Nat) (e:Event) (b:Bool) (he:small e) (hn:100≤n):ref_Check2_C2 n e b=some (b&&restB e):=by
 rw [rc2_,rc3_,rc4_ n e _ he hn]
 unfold restB
 simp only [Bool.and_assoc]
theorem leafF (b:Bool) (Q:Prop):T (some (if (false&&b)=true then (0:Int) else 2)) (fun r=>r=0→Q):=T.ret (fun h=>by simp at h)
theorem leafF2 (Q:Prop):T (some (if false=true then (0:Int) else 2)) (fun r=>r=0→Q):=T.ret (fun h=>by simp at h)

theorem hv1:hasV 1=1:=rfl
theorem hv2:hasV 2=2:=rfl
theorem hv3:hasV 3=5:=rfl
theorem hv4:hasV 4=14:=rfl
theorem hv5:hasV 5=7:=rfl
theorem hv6:hasV 6=16:=rfl
def bits:Int→List Bool
 | h=>[(andW .u64 h 16) != 0,(andW .u64 h 1) != 0,(andW .u64 h 2) != 0,(andW .u64 h 4) != 0,(andW .u64 h 8) != 0]
theorem b1:bits 1=[false,true,false,false,false]:=by decide +kernel
theorem b2:bits 2=[false,false,true,false,false]:=by decide +kernel
theorem b5:bits 5=[false,true,false,true,false]:=by decide +kernel
theorem b14:bits 14=[false,false,true,true,true]:=by decide +kernel
theorem b7:bits 7=[false,true,true,true,false]:=by decide +kernel
theorem b16:bits 16=[true,false,false,false,false]:=by decide +kernel
theorem b0:bits 0=[false,false,false,false,false]:=by decide +kernel
theorem kinds (k:Int):k=1∨k=2∨k=3∨k=4∨k=5∨k=6∨(hasV k=0∧rdB k=false∧wrB k=false):=by
 by_cases h:k=1∨k=2∨k=3∨k=4∨k=5∨k=6
 ·omega
 ·have:hasV k=0:=by unfold hasV; rw [if_neg (by omega),if_neg (by omega),if_neg (by omega),if_neg (by omega),if_neg (by omega),if_neg (by omega)]
  refine .inr (.inr (.inr (.inr (.inr (.inr ⟨this,?_,?_⟩)))))
  ·unfold rdB; simp; omega
  ·unfold wrB; simp; omega
theorem eReads_ (n:Nat) (e:Event):event_Reads n e=some (rdB e.Kind):=by
 unfold event_Reads
 rw [has_]
 have h:∀ h:Int,bits h=[(andW .u64 h 16) != 0,(andW .u64 h 1) != 0,(andW .u64 h 2) != 0,(andW .u64 h 4) != 0,(andW .u64 h 8) != 0]:=fun _=>rfl
 have g:∀ (l:List Bool) (h:Int),bits h=l→((andW .u64 h 1) != 0)=l[1]!:=fun l h e=>by rw [← e]; rfl
 simp only [Option.bind_some]
 congr 1
 rcases kinds e.Kind with k | k | k | k | k | k | ⟨k,k2,_⟩
 ·rw [k,hv1,g _ _ b1]; rfl
 ·rw [k,hv2,g _ _ b2]; rfl
 ·rw [k,hv3,g _ _ b5]; rfl
 ·rw [k,hv4,g _ _ b14]; rfl
 ·rw [k,hv5,g _ _ b7]; rfl
 ·rw [k,hv6,g _ _ b16]; rfl
 ·rw [k,k2,g _ _ b0]; rfl
theorem eWrites_ (n:Nat) (e:Event):event_Writes n e=some (wrB e.Kind):=by
 unfold event_Writes
 rw [has_]
 have g:∀ (l:List Bool) (h:Int),bits h=l→((andW .u64 h 2) != 0)=l[2]!:=fun l h e=>by rw [← e]; rfl
 simp only [Option.bind_some]
 congr 1
 rcases kinds e.Kind with k | k | k | k | k | k | ⟨k,_,k2⟩
 ·rw [k,hv1,g _ _ b1]; rfl
 ·rw [k,hv2,g _ _ b2]; rfl
 ·rw [k,hv3,g _ _ b5]; rfl
 ·rw [k,hv4,g _ _ b14]; rfl
 ·rw [k,hv5,g _ _ b7]; rfl
 ·rw [k,hv6,g _ _ b16]; rfl
 ·rw [k,k2,g _ _ b0]; rfl
def memB (k:Int):Bool:=rdB k||wrB k
theorem eMemory_ (n:Nat) (e:Event):event_Memory n e=some (memB e.Kind):=by
 unfold event_Memory memB
 rw [eReads_,eWrites_]
 cases rdB e.Kind <;> rfl

theorem beqR (a:event_rest):event_rest.beq a a=true:=by unfold event_rest.beq; simp
/-- What an event is like, by the bits of its kind. -/
theorem okE_of (e:Event) (f r w m p:Bool) (h0:hasV e.Kind≠0) (hb:bits (hasV e.Kind)=[f,r,w,m,p])
  (h1:f=true→e.Addr=0∧e.Deps.Addr=[]∧e.Deps.Way=[]) (h2:r=false→e.Load=0) (h3:w=false→e.Store=0∧e.Deps.Data=[]) (h4:m=false→e.Aq=false∧e.Rl=false)
  (h5:f=false→e.Pred=0∧e.Succ=0) (h6:p=false→e.Pair=0) (h:tailB e true p=true):okE e=true:=by
 unfold bits at hb
 injection hb with hb1 hb
 injection hb with hb2 hb
 injection hb with hb3 hb
 injection hb with hb4 hb
 injection hb with hb5 _
 have hw:wantE e=e:=by
  unfold wantE
  simp only [hb1,hb2,hb3,hb4,hb5]
  obtain ⟨ht,at_,k,ad,lo,st,aq,rl,pr,su,pa,⟨da,dd,dw⟩⟩:=e
  dsimp only at *
  have e1:(if f=true then (0:Int) else ad)=ad:=by cases f <;> simp at *; exact h1.1.symm
  have e2:(if r=true then lo else 0)=lo:=by cases r <;> simp at *; exact h2.symm
  have e3:(if w=true then st else 0)=st:=by cases w <;> simp at *; exact h3.1.symm
  have e4:(if m=true then aq else false)=aq:=by cases m <;> simp at *; rw [h4.1]
  have e5:(if m=true then rl else false)=rl:=by cases m <;> simp at *; rw [h4.2]
  have e6:(if f=true then pr else 0)=pr:=by cases f <;> simp at *; exact h5.1.symm
  have e7:(if f=true then su else 0)=su:=by cases f <;> simp at *; exact h5.2.symm
  have e8:(if p=true then pa else 0)=pa:=by cases p <;> simp at *; exact h6.symm
  have e9:(if f=true then [] else da)=da:=by cases f <;> simp at *; exact h1.2.1
  have e10:(if w=true then dd else [])=dd:=by cases w <;> simp at *; exact h3.2
  have e11:(if f=true then [] else dw)=dw:=by cases f <;> simp at *; exact h1.2.2
  rw [e1,e2,e3,e4,e5,e6,e7,e8,e9,e10,e11]
 have hs:sameB (wantE e) e=true:=by
  rw [hw]
  unfold sameB
  rw [beqR]
  simp
 unfold okE
 rw [hs,hb5,h,decide_eq_true h0]
 rfl
theorem belNil (a:Int):belB [] a=true:=rfl
theorem okFence (e:Event) (hk:e.Kind=6) (g1:0≤e.Hart) (g2:e.Hart<8) (g3:0≤e.At) (h1:e.Addr=0) (h2:e.Load=0) (h3:e.Store=0) (h4:e.Aq=false) (h5:e.Rl=false) (h6:e.Pair=0)
  (h7:e.Deps.Addr=[]) (h8:e.Deps.Data=[]) (h9:e.Deps.Way=[]) (p1:0≤e.Pred) (p2:e.Pred≤15) (s1:0≤e.Succ) (s2:e.Succ≤15):okE e=true:=by
 refine okE_of e true false false false false (by rw [hk]; decide) (by rw [hk]; exact b16) (fun _=>⟨h1,h7,h9⟩) (fun _=>h2) (fun _=>⟨h3,h8⟩) (fun _=>⟨h4,h5⟩) (fun h=>by simp at h) (fun _=>h6) ?_
 unfold tailB
 rw [h7,h8,h9,belNil,h1]
 have:remW .u64 0 8=0:=rfl
 simp [g1,g2,g3,p1,p2,s1,s2,this]
theorem okMem (e:Event) (g1:0≤e.Hart) (g2:e.Hart<8) (g3:0≤e.At) (hk:(rdB e.Kind||wrB e.Kind)=true) (h1:remW .u64 e.Addr 8=0) (h2:rdB e.Kind=true∨e.Load=0) (h3:wrB e.Kind=true∨e.Store=0)
  (p1:e.Pred=0) (p2:e.Succ=0) (hr:restB e=true):okE e=true:=by
 unfold restB at hr
 simp only [Bool.and_eq_true,Bool.or_eq_true,decide_eq_true_eq] at hr
 obtain ⟨m1,m2,d1,d2,d3,d4⟩:=hr
 have ht:∀ p:Bool,(p=true→0≤e.Pair∧e.Pair<e.At)→tailB e true p=true:=by
  intro p hp
  unfold tailB
  rw [d1,d2,d3,p1,p2]
  cases p with
  | false=>simp [g1,g2,g3,h1]
  | true=>simp [g1,g2,g3,h1,hp rfl]
 unfold marksB at m1
 unfold pairB at m2
 rcases kinds e.Kind with k | k | k | k | k | k | ⟨k,k1,k2⟩
 ·refine okE_of e false true false false false (by rw [k]; decide) (by rw [k]; exact b1) (fun h=>by simp at h) (fun h=>by simp at h) (fun _=>⟨?_,?_⟩) (fun _=>?_) (fun _=>⟨p1,p2⟩) (fun _=>?_) (ht _ (fun h=>by simp at h))
  ·rw [k] at h3; simpa [wrB] using h3
  ·rw [k] at d4; simpa [wrB] using d4
  ·rw [k] at m1; simpa using m1
  ·rw [k] at m2; simpa using m2
 ·refine okE_of e false false true false false (by rw [k]; decide) (by rw [k]; exact b2) (fun h=>by simp at h) (fun _=>?_) (fun h=>by simp at h) (fun _=>?_) (fun _=>⟨p1,p2⟩) (fun _=>?_) (ht _ (fun h=>by simp at h))
  ·rw [k] at h2; simpa [rdB] using h2
  ·rw [k] at m1; simpa using m1
  ·rw [k] at m2; simpa using m2
 ·refine okE_of e false true false true false (by rw [k]; decide) (by rw [k]; exact b5) (fun h=>by simp at h) (fun h=>by simp at h) (fun _=>⟨?_,?_⟩) (fun h=>by simp at h) (fun _=>⟨p1,p2⟩) (fun _=>?_) (ht _ (fun h=>by simp at h))
  ·rw [k] at h3; simpa [wrB] using h3
  ·rw [k] at d4; simpa [wrB] using d4
  ·rw [k] at m2; simpa using m2
 ·refine okE_of e false false true true true (by rw [k]; decide) (by rw [k]; exact b14) (fun h=>by simp at h) (fun _=>?_) (fun h=>by simp at h) (fun h=>by simp at h) (fun _=>⟨p1,p2⟩) (fun h=>by simp at h) (ht _ (fun _=>?_))
  ·rw [k] at h2; simpa [rdB] using h2
  ·rw [k] at m2; simpa using m2
 ·refine okE_of e false true true true false (by rw [k]; decide) (by rw [k]; exact b7) (fun h=>by simp at h) (fun h=>by simp at h) (fun h=>by simp at h) (fun h=>by simp at h) (fun _=>⟨p1,p2⟩) (fun _=>?_) (ht _ (fun h=>by simp at h))
  rw [k] at m2; simpa using m2
 ·rw [k] at hk; simp [rdB,wrB] at hk
 ·rw [k1,k2] at hk; simp at hk
theorem memV (e:Event) (h:okE e=true):hasV e.Kind≠0:=by
 unfold okE at h
 simp only [Bool.and_eq_true,decide_eq_true_eq] at h
 exact h.1
theorem len0 {l:List Int} (h:(l.length:Int)=0):l=[]:=by
 cases l with
 | nil=>rfl
 | cons x l=>simp at h; omega
theorem refOk_ (n:Nat) (e:Event) (he:small e) (hn:100≤n):T (ref_Check2 n e) (fun r=>r=0→okE e=true):=by
 have hsm:=he
 unfold small at hsm
 unfold ref_Check2
 simp only [memory_,reads_,writes_,Option.bind_some,rcC2_ n e _ he hn,rc1_]
 refine T.ite (fun c1=>?_) (fun _=>by repeat' (first | exact leafF _ _ | exact leafF2 _ | (refine T.ite (fun _=>?_) (fun _=>?_))))
 refine T.ite (fun c2=>?_) (fun _=>by repeat' (first | exact leafF _ _ | exact leafF2 _ | (refine T.ite (fun _=>?_) (fun _=>?_))))
 have g1:0≤e.Hart:=by simpa using c1
 have g2:e.Hart<8:=by simpa using c2
 refine T.ite (fun c3=>?_) (fun _=>?_)
 ·have k6:e.Kind=6:=by simpa using c3
  refine T.ite (fun d1=>?_) (fun _=>leafF2 _)
  refine T.ite (fun d2=>?_) (fun _=>leafF2 _)
  refine T.ite (fun d3=>?_) (fun _=>leafF2 _)
  refine T.ite (fun d4=>?_) (fun _=>leafF2 _)
  refine T.ite (fun d5=>?_) (fun _=>leafF2 _)
  refine T.ite (fun d6=>?_) (fun _=>leafF2 _)
  refine T.ite (fun d7=>?_) (fun _=>leafF2 _)
  refine T.ite (fun d8=>?_) (fun _=>leafF2 _)
  refine T.ite (fun d9=>?_) (fun _=>leafF2 _)
  refine T.ite (fun d10=>?_) (fun _=>leafF2 _)
  refine T.ite (fun d11=>?_) (fun _=>leafF2 _)
  refine T.ret (fun h=>?_)
  by_cases d12:e.Succ≤15
  case neg=>simp [d12] at h
  rw [addN _ _ (by omega),addN _ _ (by omega)] at d8
  have d8':((e.Deps.Addr.length + e.Deps.Data.length + e.Deps.Way.length:Nat):Int)=0:=by simpa using d8
  exact okFence e k6 g1 g2 (by simpa using d1) (by simpa using d2) (by simpa using d3) (by simpa using d4) (by simpa using d5) (by simpa using d6) (by simpa using d7) (len0 (by omega)) (len0 (by omega)) (len0 (by omega)) (by simpa using d9) (by simpa using d10) (by simpa using d11) d12
 ·refine T.ite (fun d1=>?_) (fun _=>leafF _ _)
  refine T.ite (fun d2=>?_) (fun _=>leafF _ _)
  refine T.ite (fun d3=>?_) (fun _=>leafF _ _)
  have fin:(rdB e.Kind=true∨(e.Load==0)=true)→(wrB e.Kind=true∨(e.Store==0)=true)→(e.Pred==0)=true→T (some (if ((e.Succ==0)&&restB e)=true then (0:Int) else 2)) (fun r=>r=0→okE e=true):=by
   intro f1 f2 f3
   refine T.ret (fun h=>?_)
   by_cases f4:e.Succ=0∧restB e=true
   ·exact okMem e g1 g2 (by simpa using d1) d2 (by simpa using d3) (by simpa using f1) (by simpa using f2) (by simpa using f3) f4.1 f4.2
   ·rw [if_neg (by simpa using f4)] at h
    simp at h
  refine T.ite (fun r1=>?_) (fun _=>?_)
  ·refine T.ite (fun w1=>?_) (fun _=>?_)
   ·exact T.ite (fun p1=>fin (.inl r1) (.inl w1) p1) (fun _=>leafF _ _)
   ·refine T.ite (fun w1=>?_) (fun _=>leafF _ _)
    exact T.ite (fun p1=>fin (.inl r1) (.inr w1) p1) (fun _=>leafF _ _)
  ·refine T.ite (fun r1=>?_) (fun _=>leafF _ _)
   refine T.ite (fun w1=>?_) (fun _=>?_)
   ·exact T.ite (fun p1=>fin (.inr r1) (.inl w1) p1) (fun _=>leafF _ _)
   ·refine T.ite (fun w1=>?_) (fun _=>leafF _ _)
    exact T.ite (fun p1=>fin (.inr r1) (.inr w1) p1) (fun _=>leafF _ _)
end Go.Proofs.YtigcbjbaibcgfaaGreat
