/- Events and rows of a hart: what the program's checks say. Plain lists, no program in sight. -/
import Derived.Test.YtnmmknnnggcijaaDoorM1
namespace Go.Proofs.YtnmmknnnggcijaaDoor
open Go A

theorem addN (a b:Nat) (h:a + b≤1000000):av .i64 (a:Int) (b:Int)=((a + b:Nat):Int):=by
  rw [xt (by omega) (by omega)]; omega
theorem yS (a:Nat) (h:a<1000000):av .i64 (a:Int) 1=((a + 1:Nat):Int):=by
  have:=addN a 1 (by omega)
  exact this
theorem FO (a b:Nat) (h:b≤a) (h2:a≤1000000):aE .i64 (a:Int) (b:Int)=((a - b:Nat):Int):=by
  rw [BJ (by omega) (by omega)]; omega
theorem DY (a:Nat) (h:1≤a) (h2:a≤1000000):aE .i64 (a:Int) 1=((a - 1:Nat):Int):=by
  have:=FO a 1 h h2
  exact this
def p9:Int→List Int→Bool
  | _,[]=>true
  | a,x::l=>decide (a<x)&&p9 x l
theorem AK (n0:Nat) (l:List Int) (hl:l.length≤1000):∀ (xs pre:List Int) (a:Int) (n:Nat),l=pre++xs→xs.length<n →
    iter (fun s=>ck n0 l s) n (a,(pre.length:Int))=some (if p9 a xs=true then .inl () else .inr ())
  | _,_,_,0,_,h=>by omega
  | [],pre,a,n + 1,h1,h2=>by
    rw [il]
    have:ck n0 l (a,(pre.length:Int))=some (.inr (.inl ())):=by
      unfold ck
      rw [if_neg (by simp [h1])]
    rw [this]
    rfl
  | x::xs,pre,a,n + 1,h1,h2=>by
    rw [il]
    have hx:i4 l (pre.length:Int)=some x:=by rw [jE,h1]; simp
    have hlen:pre.length<l.length:=by rw [h1]; simp
    have hs:ck n0 l (a,(pre.length:Int))=if a<x then some (.inl (x,((pre++[x]).length:Int))) else some (.inr (.inr ())):=by
      unfold ck
      rw [if_pos (by simp; omega)]
      dsimp only
      rw [hx]
      simp only [Option.bind_some]
      rw [yS _ (by omega)]
      by_cases c:a<x
      · rw [if_pos c,if_neg (by simp; omega)]; simp
      · rw [if_neg c,if_pos (by simp; omega)]
    rw [hs]
    by_cases c:a<x
    · rw [if_pos c]
      simp only
      rw [AK n0 l hl xs (pre++[x]) x n (by rw [h1]; simp) (by simp at h2; omega)]
      simp [p9,c]
    · rw [if_neg c]
      simp [p9,c]
theorem CK (n:Nat) (l:List Int) (hl:l.length≤1000) (hn:l.length<n):ji n l=some (p9 (-1) l):=by
  unfold ji
  have:=AK n l hl l [] (-1) n rfl hn
  rw [show (([]:List Int).length:Int)=0 from rfl] at this
  rw [this]
  cases p9 (-1) l <;> rfl
def kY (l:List Int) (at_:Int):Bool:=p9 (-1) l&&(match l.getLast? with | none=>true | some x=>decide (x<at_))
theorem CL (l:List Int) (h:l≠[]) (hl:l.length≤1000):i4 l (aE .i64 (l.length:Int) 1)=l.getLast?:=by
  have:=List.length_pos_iff.2 h
  rw [DY _ (by omega) (by omega),jE,List.getLast?_eq_getElem?]
theorem ui (l:List Int) (at_:Int) (hl:l.length≤1000):(if p9 (-1) l=true then if ((l.length:Int)==0)=true then some true else (i4 l (aE .i64 (l.length:Int) 1)).bind fun x4=>some (decide (x4<at_)) else some false)=some (kY l at_):=by
  unfold kY
  cases hr:p9 (-1) l with
  | false=>simp
  | true =>
    cases l with
    | nil=>rfl
    | cons x l =>
      rw [if_pos rfl,if_neg (by simp; omega),CL _ (by simp) hl]
      have hs:(x::l).getLast?=some ((x::l).getLast (by simp)):=List.getLast?_eq_some_getLast (by simp)
      rw [hs]
      simp
theorem z5 (n:Nat) (l:List Int) (at_:Int) (hl:l.length≤1000) (hn:l.length<n):dI n l at_=some (kY l at_):=by
  unfold dI
  rw [CK n l hl hn]
  exact ui l at_ hl
theorem CM (n0:Nat) (l m:List Int) (hl:l.length≤1000) (hlm:l.length=m.length):∀ (xs pre ys:List Int) (n:Nat),l=pre++xs→m=pre++ys→xs.length<n →
    iter (fun s=>aZ n0 l m s) n (pre.length:Int)=some (if xs=ys then .inl () else .inr ())
  | _,_,_,0,_,_,h=>by omega
  | [],pre,ys,n + 1,h1,h2,h3=>by
    rw [il]
    have:aZ n0 l m (pre.length:Int)=some (.inr (.inl ())):=by
      unfold aZ
      rw [if_neg (by simp [h1])]
    rw [this]
    have:ys=[]:=by rw [h1,h2] at hlm; simp at hlm; exact hlm
    rw [this]
    rfl
  | x::xs,pre,[],n + 1,h1,h2,h3=>by rw [h1,h2] at hlm; simp at hlm
  | x::xs,pre,y::ys,n + 1,h1,h2,h3=>by
    rw [il]
    have hx:i4 l (pre.length:Int)=some x:=by rw [jE,h1]; simp
    have hy:i4 m (pre.length:Int)=some y:=by rw [jE,h2]; simp
    have hlen:pre.length<l.length:=by rw [h1]; simp
    have hs:aZ n0 l m (pre.length:Int)=if x=y then some (.inl ((pre++[x]).length:Int)) else some (.inr (.inr ())):=by
      unfold aZ
      rw [if_pos (by simp; omega),hx]
      simp only [Option.bind_some]
      rw [hy]
      simp only [Option.bind_some]
      rw [yS _ (by omega)]
      by_cases c:x=y
      · rw [if_pos c,if_neg (by simp [c])]; simp
      · rw [if_neg c,if_pos (by simp [c])]
    rw [hs]
    by_cases c:x=y
    · rw [if_pos c]
      subst c
      simp only
      rw [CM n0 l m hl hlm xs (pre++[x]) ys n (by rw [h1]; simp) (by rw [h2]; simp) (by simp at h3; omega)]
      simp
    · rw [if_neg c]
      simp [c]
theorem FP (n:Nat) (l m:List Int) (hl:l.length≤1000) (hn:l.length<n):b6 n l m=some (decide (l=m)):=by
  unfold b6
  by_cases h:l.length=m.length
  · rw [if_neg (by simp; omega)]
    have:=CM n l m hl h l [] m n rfl rfl hn
    rw [show (([]:List Int).length:Int)=0 from rfl] at this
    rw [this]
    by_cases c:l=m
    · rw [if_pos c]; simp [c]
    · rw [if_neg c]; simp [c]
  · rw [if_pos (by simp; omega)]
    have:l≠m:=fun e=>h (by rw [e])
    simp [this]
def small (e:Event):Prop:=e.Deps.Addr.length≤60∧e.Deps.Data.length≤60∧e.Deps.Way.length≤60
def z6 (e:Event):aP:=aP.mk e.Hart e.At e.Kind e.Pred e.Succ e.Pair e.Addr e.Load e.Store e.Aq e.Rl
def p_ (a b:Event):Bool:=decide (a.Deps.Addr=b.Deps.Addr)&&(decide (a.Deps.Data=b.Deps.Data)&&(decide (a.Deps.Way=b.Deps.Way)&&aP.beq (z6 a) (z6 b)))
theorem Fc (n:Nat) (a b:Event) (ha:small a) (hn:100≤n):k8 n a b=some (p_ a b):=by
  unfold small at ha
  unfold k8 jh
  rw [FP n _ _ (by omega) (by omega),FP n _ _ (by omega) (by omega),FP n _ _ (by omega) (by omega)]
  unfold p_ z6
  simp only [Option.bind_some]
  generalize decide (a.Deps.Addr=b.Deps.Addr)=b1
  generalize decide (a.Deps.Data=b.Deps.Data)=b2
  generalize decide (a.Deps.Way=b.Deps.Way)=b3
  generalize aP.beq _ _=b4
  cases b1 <;> cases b2 <;> cases b3 <;> cases b4 <;> rfl
def kZ (k:Int):Int:=if k=1 then 1 else if k=2 then 2 else if k=3 then 5 else if k=4 then 14 else if k=5 then 7 else if k=6 then 16 else 0
theorem EF (n:Nat) (k:Int):jo n k=some (kZ k):=by
  unfold jo kZ
  simp only [decide_eq_true_eq,beq_iff_eq]
  by_cases h1:k<1
  · rw [if_pos h1,if_neg (by omega),if_neg (by omega),if_neg (by omega),if_neg (by omega),if_neg (by omega),if_neg (by omega)]
  rw [if_neg h1]
  by_cases h6:k>6
  · rw [if_pos h6,if_neg (by omega),if_neg (by omega),if_neg (by omega),if_neg (by omega),if_neg (by omega),if_neg (by omega)]
  rw [if_neg h6,if_neg (by omega)]
  have:k=1∨k=2∨k=3∨k=4∨k=5∨k=6:=by omega
  rcases this with rfl | rfl | rfl | rfl | rfl | rfl <;> rfl
def rn (e:Event) (s p:Bool):Bool :=
  decide (0≤e.Hart)&&(decide (e.Hart<8)&&(decide (0≤e.At)&&(s&&(decide (aM .u64 e.Addr 8=0)&&(decide (0≤e.Pred)&&(decide (e.Pred≤15)&&(decide (0≤e.Succ)&&(decide (e.Succ≤15) &&
    ((!p||(decide (0≤e.Pair)&&decide (e.Pair<e.At)))&&(kY e.Deps.Addr e.At&&(kY e.Deps.Data e.At&&kY e.Deps.Way e.At)))))))))))
theorem Hw (n:Nat) (e:Event) (hv:Int) (h0:hv≠0) (he:small e) (hn:100≤n) (sf:Int×(List Int)×(List Int)×(List Int)×Int×Int×Int×Bool×Bool×Int×Int) (hs:sf.2.1.length≤60∧sf.2.2.1.length≤60∧sf.2.2.2.1.length≤60) :
    cg n e hv sf=some (if rn e (p_ (Event.mk e.Hart e.At e.Kind sf.2.2.2.2.1 sf.2.2.2.2.2.1 sf.2.2.2.2.2.2.1 sf.2.2.2.2.2.2.2.1 sf.2.2.2.2.2.2.2.2.1 sf.2.2.2.2.2.2.2.2.2.1 sf.2.2.2.2.2.2.2.2.2.2 sf.1 (Deps.mk sf.2.1 sf.2.2.1 sf.2.2.2.1)) e) ((aj .u64 hv 8) != 0)=true then 0 else 2):=by
  have hsm:=he
  unfold small at hsm
  unfold cg
  have hsame:=Fc n (Event.mk e.Hart e.At e.Kind sf.2.2.2.2.1 sf.2.2.2.2.2.1 sf.2.2.2.2.2.2.1 sf.2.2.2.2.2.2.2.1 sf.2.2.2.2.2.2.2.2.1 sf.2.2.2.2.2.2.2.2.2.1 sf.2.2.2.2.2.2.2.2.2.2 sf.1 (Deps.mk sf.2.1 sf.2.2.1 sf.2.2.2.1)) e hs hn
  rw [if_neg (by simpa using h0),hsame,z5 n _ _ (by omega) (by omega),z5 n _ _ (by omega) (by omega),z5 n _ _ (by omega) (by omega)]
  unfold rn
  generalize p_ _ e=s
  generalize kY e.Deps.Addr e.At=b1
  generalize kY e.Deps.Data e.At=b2
  generalize kY e.Deps.Way e.At=b3
  generalize ((aj .u64 hv 8) != 0)=p
  simp only [Option.bind_some,decide_eq_true_eq,bne_iff_ne]
  by_cases c1:e.Hart<0
  · rw [if_pos c1]; simp; omega
  rw [if_neg c1]
  by_cases c2:e.Hart≥8
  · rw [if_pos c2]; simp; omega
  rw [if_neg c2]
  by_cases c3:e.At<0
  · rw [if_pos c3]; simp; omega
  rw [if_neg c3]
  cases s with
  | false=>simp
  | true =>
  simp only [Bool.not_true,Bool.false_eq_true,if_false]
  by_cases c4:aM .u64 e.Addr 8=0
  case neg=>rw [if_pos (by simpa using c4)]; simp [c4]
  rw [if_neg (by simpa using c4)]
  by_cases c5:e.Pred<0
  · rw [if_pos c5]; simp; omega
  rw [if_neg c5]
  by_cases c6:e.Pred>15
  · rw [if_pos c6]; simp; omega
  rw [if_neg c6]
  by_cases c7:e.Succ<0
  · rw [if_pos c7]; simp; omega
  rw [if_neg c7]
  by_cases c8:e.Succ>15
  · rw [if_pos c8]; simp; omega
  rw [if_neg c8]
  have d1:decide (0≤e.Hart)=true:=by simp; omega
  have d2:decide (e.Hart<8)=true:=by simp; omega
  have d3:decide (0≤e.At)=true:=by simp; omega
  have d4:decide (aM .u64 e.Addr 8=0)=true:=by simpa using c4
  have d5:decide (0≤e.Pred)=true:=by simp; omega
  have d6:decide (e.Pred≤15)=true:=by simp; omega
  have d7:decide (0≤e.Succ)=true:=by simp; omega
  have d8:decide (e.Succ≤15)=true:=by simp; omega
  rw [d1,d2,d3,d4,d5,d6,d7,d8]
  simp only [Bool.true_and]
  cases p with
  | false =>
    simp only [Bool.false_eq_true,if_false,Bool.not_false,Bool.true_or,Bool.true_and]
    cases b1 <;> cases b2 <;> cases b3 <;> rfl
  | true =>
    simp only [if_true,Bool.not_true,Bool.false_or]
    by_cases c9:e.Pair<0
    · rw [if_pos c9]
      have:decide (0≤e.Pair)=false:=by simp; omega
      rw [this]; rfl
    rw [if_neg c9]
    have d9:decide (0≤e.Pair)=true:=by simp; omega
    rw [d9]
    by_cases c10:e.Pair≥e.At
    · rw [if_pos c10]
      have:decide (e.Pair<e.At)=false:=by simp; omega
      rw [this]; rfl
    rw [if_neg c10]
    have d10:decide (e.Pair<e.At)=true:=by simp; omega
    rw [d10]
    cases b1 <;> cases b2 <;> cases b3 <;> rfl
/-- What an event of its kind has. -/
def uj (e:Event):Event :=
  let h:=kZ e.Kind
  let f:=(aj .u64 h 16) != 0
  let r:=(aj .u64 h 1) != 0
  let w:=(aj .u64 h 2) != 0
  let m:=(aj .u64 h 4) != 0
  let p:=(aj .u64 h 8) != 0
  Event.mk e.Hart e.At e.Kind (if f=true then 0 else e.Addr) (if r=true then e.Load else 0) (if w=true then e.Store else 0) (if m=true then e.Aq else false) (if m=true then e.Rl else false) (if f=true then e.Pred else 0) (if f=true then e.Succ else 0) (if p=true then e.Pair else 0)
    (Deps.mk (if f=true then [] else e.Deps.Addr) (if w=true then e.Deps.Data else []) (if f=true then [] else e.Deps.Way))
def xj (e:Event):Bool:=decide (kZ e.Kind≠0)&&rn e (p_ (uj e) e) ((aj .u64 (kZ e.Kind) 8) != 0)
theorem rt {α:Type} (x:Option α):(x.bind fun t=>some t)=x:=by cases x <;> rfl
theorem Hy (n:Nat) (e:Event) (h:Int) (s:(List Int)×(List Int)×(List Int)×Int×Int×Int×Bool×Bool×Int×Int):cH n e h s=cg n e h (if ((aj .u64 h 8) != 0)=true then e.Pair else 0,s.1,s.2.1,s.2.2.1,s.2.2.2.1,s.2.2.2.2.1,s.2.2.2.2.2.1,s.2.2.2.2.2.2.1,s.2.2.2.2.2.2.2.1,s.2.2.2.2.2.2.2.2.1,s.2.2.2.2.2.2.2.2.2):=by
  unfold cH
  simp only [rt]
  split <;> rfl
theorem Hz (n:Nat) (e:Event) (h:Int) (s:(List Int)×(List Int)×(List Int)×Int×Int×Int×Int×Int):cI n e h s=cH n e h (s.1,s.2.1,s.2.2.1,s.2.2.2.1,s.2.2.2.2.1,s.2.2.2.2.2.1,(if ((aj .u64 h 4) != 0)=true then e.Aq else false),(if ((aj .u64 h 4) != 0)=true then e.Rl else false),s.2.2.2.2.2.2.1,s.2.2.2.2.2.2.2):=by
  unfold cI
  simp only [rt]
  split <;> rfl
theorem HA (n:Nat) (e:Event) (h:Int) (s:(List Int)×(List Int)×Int×Int×Int×Int):cJ n e h s=cI n e h (s.1,(if ((aj .u64 h 2) != 0)=true then e.Deps.Data else []),s.2.1,s.2.2.1,s.2.2.2.1,(if ((aj .u64 h 2) != 0)=true then e.Store else 0),s.2.2.2.2.1,s.2.2.2.2.2):=by
  unfold cJ
  simp only [rt]
  split <;> rfl
theorem HB (n:Nat) (e:Event) (h:Int) (s:(List Int)×(List Int)×Int×Int×Int):cK n e h s=cJ n e h (s.1,s.2.1,s.2.2.1,(if ((aj .u64 h 1) != 0)=true then e.Load else 0),s.2.2.2.1,s.2.2.2.2):=by
  unfold cK
  simp only [rt]
  split <;> rfl
theorem HC (n:Nat) (e:Event):eH n e=cK n e (kZ e.Kind) ((if ((aj .u64 (kZ e.Kind) 16) != 0)=true then [] else e.Deps.Addr),(if ((aj .u64 (kZ e.Kind) 16) != 0)=true then [] else e.Deps.Way),(if ((aj .u64 (kZ e.Kind) 16) != 0)=true then 0 else e.Addr),(if ((aj .u64 (kZ e.Kind) 16) != 0)=true then e.Pred else 0),(if ((aj .u64 (kZ e.Kind) 16) != 0)=true then e.Succ else 0)):=by
  unfold eH
  rw [EF]
  simp only [Option.bind_some,rt]
  split <;> rfl
theorem z7 (n:Nat) (e:Event) (he:small e) (hn:100≤n):eH n e=some (if xj e=true then 0 else 2):=by
  rw [HC,HB,HA,Hz,Hy]
  by_cases h0:kZ e.Kind=0
  · have hd:xj e=false:=by unfold xj; simp [h0]
    rw [hd]
    unfold cg
    rw [if_pos (by simpa using h0)]
    rfl
  · have hsm:=he
    unfold small at hsm
    have hi:∀ (c:Bool) (l:List Int),l.length≤60→(if c=true then l else []).length≤60:=fun c l h=>by cases c <;> simp [h]
    have hj:∀ (c:Bool) (l:List Int),l.length≤60→(if c=true then [] else l).length≤60:=fun c l h=>by cases c <;> simp [h]
    refine (Hw n e _ h0 he hn _ ?_).trans ?_
    · refine ⟨?_,?_,?_⟩
      · exact hj _ _ hsm.1
      · exact hi _ _ hsm.2.1
      · exact hj _ _ hsm.2.2
    have ho:xj e=rn e (p_ (uj e) e) ((aj .u64 (kZ e.Kind) 8) != 0):=by
      unfold xj
      rw [decide_eq_true h0]
      exact Bool.true_and _
    rw [ho]
    unfold uj
    dsimp only
def ul (k:Int):Bool:=k==1||(k==3||k==5)
def nM (k:Int):Bool:=k==2||(k==4||k==5)
def uo (e:Event):Bool:=(decide (e.Kind=4)&&(decide (0≤e.Pair)&&decide (e.Pair<e.At)))||(decide (e.Kind≠4)&&decide (e.Pair=0))
def o6 (e:Event):Bool:=(decide (e.Kind≠1)&&decide (e.Kind≠2))||(!e.Aq&&!e.Rl)
/-- There is an answer, and it is so. -/
def T {α:Type} (x:Option α) (P:α→Prop):Prop:=∃ r,x=some r∧P r
theorem T.ret {α:Type} {a:α} {P:α→Prop} (h:P a):T (some a) P:=⟨a,rfl,h⟩
theorem T.bind {α β:Type} {x:Option α} {f:α→Option β} {P:α→Prop} {Q:β→Prop} (h:T x P) (k:∀ r,P r→T (f r) Q):T (x.bind f) Q:=by
  obtain ⟨r,e,p⟩:=h
  rw [e]
  exact k r p
theorem T.eqb {α β:Type} {x:Option α} {f:α→Option β} {a:α} {Q:β→Prop} (h:x=some a) (k:T (f a) Q):T (x.bind f) Q:=by
  rw [h]
  exact k
theorem T.ite {α:Type} {b:Bool} {x y:Option α} {Q:α→Prop} (h1:b=true→T x Q) (h2:b=false→T y Q):T (if b=true then x else y) Q:=by
  cases b
  · exact h2 rfl
  · exact h1 rfl
theorem T.grd {α:Type} {b:Bool} {x:Option α} {Q:α→Prop} (h:b=true) (k:T x Q):T (grd b x) Q:=by
  rw [wc h]
  exact k
theorem T.imp {α:Type} {x:Option α} {P Q:α→Prop} (h:T x P) (k:∀ r,P r→Q r):T x Q:=by
  obtain ⟨r,e,p⟩:=h
  exact ⟨r,e,k r p⟩
theorem Dp {α:Type} {l:List α} {i:Int} {k:Nat} (hi:i=(k:Int)) (h:k<l.length):i4 l i=some l[k]:=by
  rw [hi,jE,List.getElem?_eq_getElem h]
theorem T.get {α β:Type} {l:List α} {i:Int} {f:α→Option β} {Q:β→Prop} (k:Nat) (hi:i=(k:Int)) (h:k<l.length) (g:T (f l[k]) Q):T ((i4 l i).bind f) Q:=T.eqb (Dp hi h) g
/-- A round's end. -/
def Rd {σ τ:Type} (P:σ→Prop) (Q:τ→Prop):σ⊕τ→Prop
  | .inl s=>P s
  | .inr t=>Q t
theorem T.fin {σ τ:Type} {P:σ→Prop} {Q:τ→Prop} {t:τ} (h:Q t):T (some (.inr t:σ⊕τ)) (Rd P Q):=T.ret h
theorem T.next {σ τ:Type} {P:σ→Prop} {Q:τ→Prop} {s:σ} (h:P s):T (some (.inl s:σ⊕τ)) (Rd P Q):=T.ret h
/-- So many rounds at most; St tells what is so at the beginning of each. -/
theorem T.loopFrom {σ τ:Type} {step:σ→Option (σ⊕τ)} (N:Nat) (St:Nat→σ→Prop) (Post:τ→Prop)
    (hs:∀ i s,i≤N→St i s→T (step s) (Rd (fun s'=>i<N∧St (i + 1) s') Post)):∀ (n i:Nat) (s:σ),i≤N→St i s→N - i<n→T (iter step n s) Post
  | 0,_,_,_,_,h=>by omega
  | n + 1,i,s,hi,h0,h=>by
    rw [il]
    obtain ⟨r,e,p⟩:=hs i s hi h0
    rw [e]
    cases r with
    | inl s'=>exact T.loopFrom N St Post hs n (i + 1) s' p.1 p.2 (by have:=p.1; omega)
    | inr t=>exact T.ret p
theorem T.loop {σ τ:Type} {step:σ→Option (σ⊕τ)} (N:Nat) (St:Nat→σ→Prop) (Post:τ→Prop)
    (hs:∀ i s,i≤N→St i s→T (step s) (Rd (fun s'=>i<N∧St (i + 1) s') Post)) {n:Nat} {s:σ} (h0:St 0 s) (hn:N<n):T (iter step n s) Post :=
  T.loopFrom N St Post hs n 0 s (Nat.zero_le _) h0 hn
def lZ (e:Event):Bool:=o6 e&&(uo e&&(kY e.Deps.Addr e.At&&(kY e.Deps.Data e.At&&(kY e.Deps.Way e.At&&(nM e.Kind||decide (e.Deps.Data=[]))))))
theorem FQ:kZ 2=2:=rfl
def bits:Int→List Bool
  | h=>[(aj .u64 h 16) != 0,(aj .u64 h 1) != 0,(aj .u64 h 2) != 0,(aj .u64 h 4) != 0,(aj .u64 h 8) != 0]
theorem b1:bits 1=[false,true,false,false,false]:=by decide +kernel
theorem b2:bits 2=[false,false,true,false,false]:=by decide +kernel
theorem b5:bits 5=[false,true,false,true,false]:=by decide +kernel
theorem GD:bits 14=[false,false,true,true,true]:=by decide +kernel
theorem b7:bits 7=[false,true,true,true,false]:=by decide +kernel
theorem GE:bits 16=[true,false,false,false,false]:=by decide +kernel
theorem kinds (k:Int):k=1∨k=2∨k=3∨k=4∨k=5∨k=6∨(kZ k=0∧ul k=false∧nM k=false):=by
  by_cases h:k=1∨k=2∨k=3∨k=4∨k=5∨k=6
  · omega
  · have:kZ k=0:=by unfold kZ; rw [if_neg (by omega),if_neg (by omega),if_neg (by omega),if_neg (by omega),if_neg (by omega),if_neg (by omega)]
    refine .inr (.inr (.inr (.inr (.inr (.inr ⟨this,?_,?_⟩)))))
    · unfold ul; simp; omega
    · unfold nM; simp; omega
def z8 (k:Int):Bool:=ul k||nM k
theorem FR (a:aP):aP.beq a a=true:=by unfold aP.beq; simp
/-- What an event is like, by the bits of its kind. -/
theorem qN (e:Event) (f r w m p:Bool) (h0:kZ e.Kind≠0) (hb:bits (kZ e.Kind)=[f,r,w,m,p])
    (h1:f=true→e.Addr=0∧e.Deps.Addr=[]∧e.Deps.Way=[]) (h2:r=false→e.Load=0) (h3:w=false→e.Store=0∧e.Deps.Data=[]) (h4:m=false→e.Aq=false∧e.Rl=false)
    (h5:f=false→e.Pred=0∧e.Succ=0) (h6:p=false→e.Pair=0) (h:rn e true p=true):xj e=true:=by
  unfold bits at hb
  injection hb with hb1 hb
  injection hb with hb2 hb
  injection hb with hb3 hb
  injection hb with hb4 hb
  injection hb with hb5 _
  have hw:uj e=e:=by
    unfold uj
    simp only [hb1,hb2,hb3,hb4,hb5]
    obtain ⟨ht,at_,k,ad,lo,st,aq,rl,pr,su,pa,⟨da,dd,dw⟩⟩:=e
    dsimp only at *
    have e1:(if f=true then (0:Int) else ad)=ad:=by cases f <;> simp at *; exact h1.1.symm
    have e2:(if r=true then lo else 0)=lo:=by cases r <;> simp at *; exact h2.symm
    have e3:(if w=true then st else 0)=st:=by cases w <;> simp at *; exact h3.1.symm
    have e4:(if m=true then aq else false)=aq:=by cases m <;> simp at *; rw [h4.1]
    have e5:(if m=true then rl else false)=rl:=by cases m <;> simp at *; rw [h4.2]
    have e6:(if f=true then pr else 0)=pr:=by cases f <;> simp at *; exact h5.1.symm
    have e7:(if f=true then su else 0)=su:=by cases f <;> simp at *; exact h5.2.symm
    have e8:(if p=true then pa else 0)=pa:=by cases p <;> simp at *; exact h6.symm
    have e9:(if f=true then [] else da)=da:=by cases f <;> simp at *; exact h1.2.1
    have e10:(if w=true then dd else [])=dd:=by cases w <;> simp at *; exact h3.2
    have e11:(if f=true then [] else dw)=dw:=by cases f <;> simp at *; exact h1.2.2
    rw [e1,e2,e3,e4,e5,e6,e7,e8,e9,e10,e11]
  have hs:p_ (uj e) e=true:=by
    rw [hw]
    unfold p_
    rw [FR]
    simp
  unfold xj
  rw [hs,hb5,h,decide_eq_true h0]
  rfl
theorem z9 (a:Int):kY [] a=true:=rfl
theorem Dq (e:Event) (hk:e.Kind=6) (g1:0≤e.Hart) (g2:e.Hart<8) (g3:0≤e.At) (h1:e.Addr=0) (h2:e.Load=0) (h3:e.Store=0) (h4:e.Aq=false) (h5:e.Rl=false) (h6:e.Pair=0)
    (h7:e.Deps.Addr=[]) (h8:e.Deps.Data=[]) (h9:e.Deps.Way=[]) (p1:0≤e.Pred) (p2:e.Pred≤15) (s1:0≤e.Succ) (s2:e.Succ≤15):xj e=true:=by
  refine qN e true false false false false (by rw [hk]; decide) (by rw [hk]; exact GE) (fun _=>⟨h1,h7,h9⟩) (fun _=>h2) (fun _=>⟨h3,h8⟩) (fun _=>⟨h4,h5⟩) (fun h=>by simp at h) (fun _=>h6) ?_
  unfold rn
  rw [h7,h8,h9,z9,h1]
  have:aM .u64 0 8=0:=rfl
  simp [g1,g2,g3,p1,p2,s1,s2,this]
theorem yT (e:Event) (g1:0≤e.Hart) (g2:e.Hart<8) (g3:0≤e.At) (hk:(ul e.Kind||nM e.Kind)=true) (h1:aM .u64 e.Addr 8=0) (h2:ul e.Kind=true∨e.Load=0) (h3:nM e.Kind=true∨e.Store=0)
    (p1:e.Pred=0) (p2:e.Succ=0) (hr:lZ e=true):xj e=true:=by
  unfold lZ at hr
  simp only [Bool.and_eq_true,Bool.or_eq_true,decide_eq_true_eq] at hr
  obtain ⟨m1,m2,d1,d2,d3,d4⟩:=hr
  have ht:∀ p:Bool,(p=true→0≤e.Pair∧e.Pair<e.At)→rn e true p=true:=by
    intro p hp
    unfold rn
    rw [d1,d2,d3,p1,p2]
    cases p with
    | false=>simp [g1,g2,g3,h1]
    | true=>simp [g1,g2,g3,h1,hp rfl]
  unfold o6 at m1
  unfold uo at m2
  rcases kinds e.Kind with k | k | k | k | k | k | ⟨k,k1,k2⟩
  · refine qN e false true false false false (by rw [k]; decide) (by rw [k]; exact b1) (fun h=>by simp at h) (fun h=>by simp at h) (fun _=>⟨?_,?_⟩) (fun _=>?_) (fun _=>⟨p1,p2⟩) (fun _=>?_) (ht _ (fun h=>by simp at h))
    · rw [k] at h3; simpa [nM] using h3
    · rw [k] at d4; simpa [nM] using d4
    · rw [k] at m1; simpa using m1
    · rw [k] at m2; simpa using m2
  · refine qN e false false true false false (by rw [k]; decide) (by rw [k]; exact b2) (fun h=>by simp at h) (fun _=>?_) (fun h=>by simp at h) (fun _=>?_) (fun _=>⟨p1,p2⟩) (fun _=>?_) (ht _ (fun h=>by simp at h))
    · rw [k] at h2; simpa [ul] using h2
    · rw [k] at m1; simpa using m1
    · rw [k] at m2; simpa using m2
  · refine qN e false true false true false (by rw [k]; decide) (by rw [k]; exact b5) (fun h=>by simp at h) (fun h=>by simp at h) (fun _=>⟨?_,?_⟩) (fun h=>by simp at h) (fun _=>⟨p1,p2⟩) (fun _=>?_) (ht _ (fun h=>by simp at h))
    · rw [k] at h3; simpa [nM] using h3
    · rw [k] at d4; simpa [nM] using d4
    · rw [k] at m2; simpa using m2
  · refine qN e false false true true true (by rw [k]; decide) (by rw [k]; exact GD) (fun h=>by simp at h) (fun _=>?_) (fun h=>by simp at h) (fun h=>by simp at h) (fun _=>⟨p1,p2⟩) (fun h=>by simp at h) (ht _ (fun _=>?_))
    · rw [k] at h2; simpa [ul] using h2
    · rw [k] at m2; simpa using m2
  · refine qN e false true true true false (by rw [k]; decide) (by rw [k]; exact b7) (fun h=>by simp at h) (fun h=>by simp at h) (fun h=>by simp at h) (fun h=>by simp at h) (fun _=>⟨p1,p2⟩) (fun _=>?_) (ht _ (fun h=>by simp at h))
    rw [k] at m2; simpa using m2
  · rw [k] at hk; simp [ul,nM] at hk
  · rw [k1,k2] at hk; simp at hk
theorem FS (e:Event) (h:xj e=true):kZ e.Kind≠0:=by
  unfold xj at h
  simp only [Bool.and_eq_true,decide_eq_true_eq] at h
  exact h.1
theorem CN {a b:Nat} (h:a≤b):Nat.ble a b=true:=by simpa using h
structure HI (e:Event):Prop where
  hart:0≤e.Hart∧e.Hart<8
  at_:0≤e.At
  addr:aM .u64 e.Addr 8=0
  pred:0≤e.Pred∧e.Pred≤15
  succ:0≤e.Succ∧e.Succ≤15
  pair:e.Kind=4→0≤e.Pair∧e.Pair<e.At
  bels:kY e.Deps.Addr e.At=true∧kY e.Deps.Data e.At=true∧kY e.Deps.Way e.At=true
  want:p_ (uj e) e=true
theorem xk (n:Nat) (l:List Int) (h:l.length≤1000):gw n l=some l:=by
  unfold gw
  rw [wc (CN (by omega))]
theorem AL (n:Nat) (a:Int) (m:Nat) (hm:1≤m) (h2:m≤1000):T (jF n a (m:Int)) (fun r=>0≤r∧r<(m:Int)):=by
  unfold jF
  refine T.ite (fun d=>absurd (of_decide_eq_true d) (by omega)) (fun _=>?_)
  refine T.grd (by simp; omega) ?_
  have h1:aM .i64 a (m:Int)<(m:Int):=Int.tmod_lt_of_pos a (by omega)
  have h3:-(m:Int)<aM .i64 a (m:Int):=by
    have:=Int.tmod_lt_of_pos (-a) (show 0<(m:Int) by omega)
    rw [Int.neg_tmod] at this
    show -(m:Int)<a.tmod (m:Int)
    omega
  refine T.ite (fun d=>?_) (fun d=>?_)
  · have d:=of_decide_eq_true d
    rw [xt (by omega) (by omega)]
    exact T.ret ⟨by omega,by omega⟩
  · have d:=of_decide_eq_false d
    exact T.ret ⟨by omega,h1⟩

end Go.Proofs.YtnmmknnnggcijaaDoor
