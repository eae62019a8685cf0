/- Events, rows, cells, candidates, the view: plain facts (after chapters 9 and 10) -/
import Derived.Test.YtcckeabholabcaaM1
namespace Go.Proofs.Ytcckeabholabcaa
open Go A

theorem addN (a b:Nat) (h:a + b≤1000000):ae .i64 (a:Int) (b:Int)=((a + b:Nat):Int):=by
  rw [yb (by omega) (by omega)]; omega
theorem ez (a:Nat) (h:a<1000000):ae .i64 (a:Int) 1=((a + 1:Nat):Int):=by
  have:=addN a 1 (by omega)
  exact this
theorem mc (a b:Nat) (h:b≤a) (h2:a≤1000000):aj .i64 (a:Int) (b:Int)=((a - b:Nat):Int):=by
  rw [rZ (by omega) (by omega)]; omega
theorem BN (a:Nat) (h:1≤a) (h2:a≤1000000):aj .i64 (a:Int) 1=((a - 1:Nat):Int):=by
  have:=mc a 1 h h2
  exact this
def xZ:Int→List Int→Bool
  | _,[]=>true
  | a,x::l=>decide (a<x)&&xZ x l
theorem BO (n0:Nat) (l:List Int) (hl:l.length≤1000):∀ (xs pre:List Int) (a:Int) (n:Nat),l=pre++xs→xs.length<n →
    iter (fun s=>cZ n0 l s) n (a,(pre.length:Int))=some (if xZ a xs=true then .inl () else .inr ())
  | _,_,_,0,_,h=>by omega
  | [],pre,a,n + 1,h1,h2=>by
    rw [aZ]
    have:cZ n0 l (a,(pre.length:Int))=some (.inr (.inl ())):=by
      unfold cZ
      rw [if_neg (by simp [h1])]
    rw [this]
    rfl
  | x::xs,pre,a,n + 1,h1,h2=>by
    rw [aZ]
    have hx:aN l (pre.length:Int)=some x:=by rw [jL,h1]; simp
    have hlen:pre.length<l.length:=by rw [h1]; simp
    have hs:cZ n0 l (a,(pre.length:Int))=if a<x then some (.inl (x,((pre++[x]).length:Int))) else some (.inr (.inr ())):=by
      unfold cZ
      rw [if_pos (by simp; omega)]
      dsimp only
      rw [hx]
      simp only [Option.bind_some]
      rw [ez _ (by omega)]
      by_cases c:a<x
      · rw [if_pos c,if_neg (by simp; omega)]; simp
      · rw [if_neg c,if_pos (by simp; omega)]
    rw [hs]
    by_cases c:a<x
    · rw [if_pos c]
      simp only
      rw [BO n0 l hl xs (pre++[x]) x n (by rw [h1]; simp) (by simp at h2; omega)]
      simp [xZ,c]
    · rw [if_neg c]
      simp [xZ,c]
theorem Eo (n:Nat) (l:List Int) (hl:l.length≤1000) (hn:l.length<n):ju n l=some (xZ (-1) l):=by
  unfold ju
  have:=BO n l hl l [] (-1) n rfl hn
  rw [show (([]:List Int).length:Int)=0 from rfl] at this
  rw [this]
  cases xZ (-1) l <;> rfl
def oR (l:List Int) (at_:Int):Bool:=xZ (-1) l&&(match l.getLast? with | none=>true | some x=>decide (x<at_))
theorem Ep (l:List Int) (h:l≠[]) (hl:l.length≤1000):aN l (aj .i64 (l.length:Int) 1)=l.getLast?:=by
  have:=List.length_pos_iff.2 h
  rw [BN _ (by omega) (by omega),jL,List.getLast?_eq_getElem?]
theorem A3 (l:List Int) (at_:Int) (hl:l.length≤1000):(if xZ (-1) l=true then if ((l.length:Int)==0)=true then some true else (aN l (aj .i64 (l.length:Int) 1)).bind fun x4=>some (decide (x4<at_)) else some false)=some (oR l at_):=by
  unfold oR
  cases hr:xZ (-1) l with
  | false=>simp
  | true =>
    cases l with
    | nil=>rfl
    | cons x l =>
      rw [if_pos rfl,if_neg (by simp; omega),Ep _ (by simp) hl]
      have hs:(x::l).getLast?=some ((x::l).getLast (by simp)):=List.getLast?_eq_some_getLast (by simp)
      rw [hs]
      simp
theorem A4 (n:Nat) (l:List Int) (at_:Int) (hl:l.length≤1000) (hn:l.length<n):ek n l at_=some (oR l at_):=by
  unfold ek
  rw [Eo n l hl hn]
  exact A3 l at_ hl
theorem Er (n0:Nat) (l m:List Int) (hl:l.length≤1000) (hlm:l.length=m.length):∀ (xs pre ys:List Int) (n:Nat),l=pre++xs→m=pre++ys→xs.length<n →
    iter (fun s=>bD n0 l m s) n (pre.length:Int)=some (if xs=ys then .inl () else .inr ())
  | _,_,_,0,_,_,h=>by omega
  | [],pre,ys,n + 1,h1,h2,h3=>by
    rw [aZ]
    have:bD n0 l m (pre.length:Int)=some (.inr (.inl ())):=by
      unfold bD
      rw [if_neg (by simp [h1])]
    rw [this]
    have:ys=[]:=by rw [h1,h2] at hlm; simp at hlm; exact hlm
    rw [this]
    rfl
  | x::xs,pre,[],n + 1,h1,h2,h3=>by rw [h1,h2] at hlm; simp at hlm
  | x::xs,pre,y::ys,n + 1,h1,h2,h3=>by
    rw [aZ]
    have hx:aN l (pre.length:Int)=some x:=by rw [jL,h1]; simp
    have hy:aN m (pre.length:Int)=some y:=by rw [jL,h2]; simp
    have hlen:pre.length<l.length:=by rw [h1]; simp
    have hs:bD n0 l m (pre.length:Int)=if x=y then some (.inl ((pre++[x]).length:Int)) else some (.inr (.inr ())):=by
      unfold bD
      rw [if_pos (by simp; omega),hx]
      simp only [Option.bind_some]
      rw [hy]
      simp only [Option.bind_some]
      rw [ez _ (by omega)]
      by_cases c:x=y
      · rw [if_pos c,if_neg (by simp [c])]; simp
      · rw [if_neg c,if_pos (by simp [c])]
    rw [hs]
    by_cases c:x=y
    · rw [if_pos c]
      subst c
      simp only
      rw [Er n0 l m hl hlm xs (pre++[x]) ys n (by rw [h1]; simp) (by rw [h2]; simp) (by simp at h3; omega)]
      simp
    · rw [if_neg c]
      simp [c]
theorem Kh (n:Nat) (l m:List Int) (hl:l.length≤1000) (hn:l.length<n):cJ n l m=some (decide (l=m)):=by
  unfold cJ
  by_cases h:l.length=m.length
  · rw [if_neg (by simp; omega)]
    have:=Er n l m hl h l [] m n rfl rfl hn
    rw [show (([]:List Int).length:Int)=0 from rfl] at this
    rw [this]
    by_cases c:l=m
    · rw [if_pos c]; simp [c]
    · rw [if_neg c]; simp [c]
  · rw [if_pos (by simp; omega)]
    have:l≠m:=fun e=>h (by rw [e])
    simp [this]
def small (e:Event):Prop:=e.Deps.Addr.length≤60∧e.Deps.Data.length≤60∧e.Deps.Way.length≤60
def A5 (e:Event):bo:=bo.mk e.Hart e.At e.Kind e.Pred e.Succ e.Pair e.Addr e.Load e.Store e.Aq e.Rl
def uK (a b:Event):Bool:=decide (a.Deps.Addr=b.Deps.Addr)&&(decide (a.Deps.Data=b.Deps.Data)&&(decide (a.Deps.Way=b.Deps.Way)&&bo.beq (A5 a) (A5 b)))
theorem H2 (n:Nat) (a b:Event) (ha:small a) (hn:100≤n):lj n a b=some (uK a b):=by
  unfold small at ha
  unfold lj jt
  rw [Kh n _ _ (by omega) (by omega),Kh n _ _ (by omega) (by omega),Kh n _ _ (by omega) (by omega)]
  unfold uK A5
  simp only [Option.bind_some]
  generalize decide (a.Deps.Addr=b.Deps.Addr)=b1
  generalize decide (a.Deps.Data=b.Deps.Data)=b2
  generalize decide (a.Deps.Way=b.Deps.Way)=b3
  generalize bo.beq _ _=b4
  cases b1 <;> cases b2 <;> cases b3 <;> cases b4 <;> rfl
def kj (k:Int):Int:=if k=1 then 1 else if k=2 then 2 else if k=3 then 5 else if k=4 then 14 else if k=5 then 7 else if k=6 then 16 else 0
theorem G7 (n:Nat) (k:Int):jD n k=some (kj k):=by
  unfold jD kj
  simp only [decide_eq_true_eq,beq_iff_eq]
  by_cases h1:k<1
  · rw [if_pos h1,if_neg (by omega),if_neg (by omega),if_neg (by omega),if_neg (by omega),if_neg (by omega),if_neg (by omega)]
  rw [if_neg h1]
  by_cases h6:k>6
  · rw [if_pos h6,if_neg (by omega),if_neg (by omega),if_neg (by omega),if_neg (by omega),if_neg (by omega),if_neg (by omega)]
  rw [if_neg h6,if_neg (by omega)]
  have:k=1∨k=2∨k=3∨k=4∨k=5∨k=6:=by omega
  rcases this with rfl | rfl | rfl | rfl | rfl | rfl <;> rfl
def wO (e:Event) (s p:Bool):Bool :=
  decide (0≤e.Hart)&&(decide (e.Hart<8)&&(decide (0≤e.At)&&(s&&(decide (ya .u64 e.Addr 8=0)&&(decide (0≤e.Pred)&&(decide (e.Pred≤15)&&(decide (0≤e.Succ)&&(decide (e.Succ≤15) &&
    ((!p||(decide (0≤e.Pair)&&decide (e.Pair<e.At)))&&(oR e.Deps.Addr e.At&&(oR e.Deps.Data e.At&&oR e.Deps.Way e.At)))))))))))
theorem Mb (n:Nat) (e:Event) (hv:Int) (h0:hv≠0) (he:small e) (hn:100≤n) (sf:Int×(List Int)×(List Int)×(List Int)×Int×Int×Int×Bool×Bool×Int×Int) (hs:sf.2.1.length≤60∧sf.2.2.1.length≤60∧sf.2.2.2.1.length≤60) :
    cX n e hv sf=some (if wO e (uK (Event.mk e.Hart e.At e.Kind sf.2.2.2.2.1 sf.2.2.2.2.2.1 sf.2.2.2.2.2.2.1 sf.2.2.2.2.2.2.2.1 sf.2.2.2.2.2.2.2.2.1 sf.2.2.2.2.2.2.2.2.2.1 sf.2.2.2.2.2.2.2.2.2.2 sf.1 (Deps.mk sf.2.1 sf.2.2.1 sf.2.2.2.1)) e) ((ch .u64 hv 8) != 0)=true then 0 else 2):=by
  have hsm:=he
  unfold small at hsm
  unfold cX
  have hsame:=H2 n (Event.mk e.Hart e.At e.Kind sf.2.2.2.2.1 sf.2.2.2.2.2.1 sf.2.2.2.2.2.2.1 sf.2.2.2.2.2.2.2.1 sf.2.2.2.2.2.2.2.2.1 sf.2.2.2.2.2.2.2.2.2.1 sf.2.2.2.2.2.2.2.2.2.2 sf.1 (Deps.mk sf.2.1 sf.2.2.1 sf.2.2.2.1)) e hs hn
  rw [if_neg (by simpa using h0),hsame,A4 n _ _ (by omega) (by omega),A4 n _ _ (by omega) (by omega),A4 n _ _ (by omega) (by omega)]
  unfold wO
  generalize uK _ e=s
  generalize oR e.Deps.Addr e.At=b1
  generalize oR e.Deps.Data e.At=b2
  generalize oR e.Deps.Way e.At=b3
  generalize ((ch .u64 hv 8) != 0)=p
  simp only [Option.bind_some,decide_eq_true_eq,bne_iff_ne]
  by_cases c1:e.Hart<0
  · rw [if_pos c1]; simp; omega
  rw [if_neg c1]
  by_cases c2:e.Hart≥8
  · rw [if_pos c2]; simp; omega
  rw [if_neg c2]
  by_cases c3:e.At<0
  · rw [if_pos c3]; simp; omega
  rw [if_neg c3]
  cases s with
  | false=>simp
  | true =>
  simp only [Bool.not_true,Bool.false_eq_true,if_false]
  by_cases c4:ya .u64 e.Addr 8=0
  case neg=>rw [if_pos (by simpa using c4)]; simp [c4]
  rw [if_neg (by simpa using c4)]
  by_cases c5:e.Pred<0
  · rw [if_pos c5]; simp; omega
  rw [if_neg c5]
  by_cases c6:e.Pred>15
  · rw [if_pos c6]; simp; omega
  rw [if_neg c6]
  by_cases c7:e.Succ<0
  · rw [if_pos c7]; simp; omega
  rw [if_neg c7]
  by_cases c8:e.Succ>15
  · rw [if_pos c8]; simp; omega
  rw [if_neg c8]
  have d1:decide (0≤e.Hart)=true:=by simp; omega
  have d2:decide (e.Hart<8)=true:=by simp; omega
  have d3:decide (0≤e.At)=true:=by simp; omega
  have d4:decide (ya .u64 e.Addr 8=0)=true:=by simpa using c4
  have d5:decide (0≤e.Pred)=true:=by simp; omega
  have d6:decide (e.Pred≤15)=true:=by simp; omega
  have d7:decide (0≤e.Succ)=true:=by simp; omega
  have d8:decide (e.Succ≤15)=true:=by simp; omega
  rw [d1,d2,d3,d4,d5,d6,d7,d8]
  simp only [Bool.true_and]
  cases p with
  | false =>
    simp only [Bool.false_eq_true,if_false,Bool.not_false,Bool.true_or,Bool.true_and]
    cases b1 <;> cases b2 <;> cases b3 <;> rfl
  | true =>
    simp only [if_true,Bool.not_true,Bool.false_or]
    by_cases c9:e.Pair<0
    · rw [if_pos c9]
      have:decide (0≤e.Pair)=false:=by simp; omega
      rw [this]; rfl
    rw [if_neg c9]
    have d9:decide (0≤e.Pair)=true:=by simp; omega
    rw [d9]
    by_cases c10:e.Pair≥e.At
    · rw [if_pos c10]
      have:decide (e.Pair<e.At)=false:=by simp; omega
      rw [this]; rfl
    rw [if_neg c10]
    have d10:decide (e.Pair<e.At)=true:=by simp; omega
    rw [d10]
    cases b1 <;> cases b2 <;> cases b3 <;> rfl
/-- What an event of its kind has. -/
def BP (e:Event):Event :=
  let h:=kj e.Kind
  let f:=(ch .u64 h 16) != 0
  let r:=(ch .u64 h 1) != 0
  let w:=(ch .u64 h 2) != 0
  let m:=(ch .u64 h 4) != 0
  let p:=(ch .u64 h 8) != 0
  Event.mk e.Hart e.At e.Kind (if f=true then 0 else e.Addr) (if r=true then e.Load else 0) (if w=true then e.Store else 0) (if m=true then e.Aq else false) (if m=true then e.Rl else false) (if f=true then e.Pred else 0) (if f=true then e.Succ else 0) (if p=true then e.Pair else 0)
    (Deps.mk (if f=true then [] else e.Deps.Addr) (if w=true then e.Deps.Data else []) (if f=true then [] else e.Deps.Way))
def C2 (e:Event):Bool:=decide (kj e.Kind≠0)&&wO e (uK (BP e) e) ((ch .u64 (kj e.Kind) 8) != 0)
theorem zS {α:Type} (x:Option α):(x.bind fun t=>some t)=x:=by cases x <;> rfl
theorem Mc (n:Nat) (e:Event) (h:Int) (s:(List Int)×(List Int)×(List Int)×Int×Int×Int×Bool×Bool×Int×Int):dw n e h s=cX n e h (if ((ch .u64 h 8) != 0)=true then e.Pair else 0,s.1,s.2.1,s.2.2.1,s.2.2.2.1,s.2.2.2.2.1,s.2.2.2.2.2.1,s.2.2.2.2.2.2.1,s.2.2.2.2.2.2.2.1,s.2.2.2.2.2.2.2.2.1,s.2.2.2.2.2.2.2.2.2):=by
  unfold dw
  simp only [zS]
  split <;> rfl
theorem Md (n:Nat) (e:Event) (h:Int) (s:(List Int)×(List Int)×(List Int)×Int×Int×Int×Int×Int):dx n e h s=dw n e h (s.1,s.2.1,s.2.2.1,s.2.2.2.1,s.2.2.2.2.1,s.2.2.2.2.2.1,(if ((ch .u64 h 4) != 0)=true then e.Aq else false),(if ((ch .u64 h 4) != 0)=true then e.Rl else false),s.2.2.2.2.2.2.1,s.2.2.2.2.2.2.2):=by
  unfold dx
  simp only [zS]
  split <;> rfl
theorem Me (n:Nat) (e:Event) (h:Int) (s:(List Int)×(List Int)×Int×Int×Int×Int):dy n e h s=dx n e h (s.1,(if ((ch .u64 h 2) != 0)=true then e.Deps.Data else []),s.2.1,s.2.2.1,s.2.2.2.1,(if ((ch .u64 h 2) != 0)=true then e.Store else 0),s.2.2.2.2.1,s.2.2.2.2.2):=by
  unfold dy
  simp only [zS]
  split <;> rfl
theorem Mf (n:Nat) (e:Event) (h:Int) (s:(List Int)×(List Int)×Int×Int×Int):dz n e h s=dy n e h (s.1,s.2.1,s.2.2.1,(if ((ch .u64 h 1) != 0)=true then e.Load else 0),s.2.2.2.1,s.2.2.2.2):=by
  unfold dz
  simp only [zS]
  split <;> rfl
theorem Mg (n:Nat) (e:Event):iV n e=dz n e (kj e.Kind) ((if ((ch .u64 (kj e.Kind) 16) != 0)=true then [] else e.Deps.Addr),(if ((ch .u64 (kj e.Kind) 16) != 0)=true then [] else e.Deps.Way),(if ((ch .u64 (kj e.Kind) 16) != 0)=true then 0 else e.Addr),(if ((ch .u64 (kj e.Kind) 16) != 0)=true then e.Pred else 0),(if ((ch .u64 (kj e.Kind) 16) != 0)=true then e.Succ else 0)):=by
  unfold iV
  rw [G7]
  simp only [Option.bind_some,zS]
  split <;> rfl
theorem Es (n:Nat) (e:Event) (he:small e) (hn:100≤n):iV n e=some (if C2 e=true then 0 else 2):=by
  rw [Mg,Mf,Me,Md,Mc]
  by_cases h0:kj e.Kind=0
  · have hd:C2 e=false:=by unfold C2; simp [h0]
    rw [hd]
    unfold cX
    rw [if_pos (by simpa using h0)]
    rfl
  · have hsm:=he
    unfold small at hsm
    have hi:∀ (c:Bool) (l:List Int),l.length≤60→(if c=true then l else []).length≤60:=fun c l h=>by cases c <;> simp [h]
    have hj:∀ (c:Bool) (l:List Int),l.length≤60→(if c=true then [] else l).length≤60:=fun c l h=>by cases c <;> simp [h]
    refine (Mb n e _ h0 he hn _ ?_).trans ?_
    · refine ⟨?_,?_,?_⟩
      · exact hj _ _ hsm.1
      · exact hi _ _ hsm.2.1
      · exact hj _ _ hsm.2.2
    have ho:C2 e=wO e (uK (BP e) e) ((ch .u64 (kj e.Kind) 8) != 0):=by
      unfold C2
      rw [decide_eq_true h0]
      exact Bool.true_and _
    rw [ho]
    unfold BP
    dsimp only
def H3 (k:Int):Bool:=k==1||(k==3||k==5)
def Fs (k:Int):Bool:=k==2||(k==4||k==5)
theorem Fu (n:Nat) (e:Event):jN n e=some (Fs e.Kind):=by
  unfold jN Fs
  by_cases h1:(e.Kind==2)=true
  · rw [if_pos h1,h1]; rfl
  · rw [if_neg h1,Bool.eq_false_iff.2 h1]
    by_cases h3:(e.Kind==4)=true
    · rw [if_pos h3,h3]; rfl
    · rw [if_neg h3,Bool.eq_false_iff.2 h3]; rfl
/-- There is an answer, and it is so. -/
def T {α:Type} (x:Option α) (P:α→Prop):Prop:=∃ r,x=some r∧P r
theorem T.ret {α:Type} {a:α} {P:α→Prop} (h:P a):T (some a) P:=⟨a,rfl,h⟩
theorem T.bind {α β:Type} {x:Option α} {f:α→Option β} {P:α→Prop} {Q:β→Prop} (h:T x P) (k:∀ r,P r→T (f r) Q):T (x.bind f) Q:=by
  obtain ⟨r,e,p⟩:=h
  rw [e]
  exact k r p
theorem T.eqb {α β:Type} {x:Option α} {f:α→Option β} {a:α} {Q:β→Prop} (h:x=some a) (k:T (f a) Q):T (x.bind f) Q:=by
  rw [h]
  exact k
theorem T.ite {α:Type} {b:Bool} {x y:Option α} {Q:α→Prop} (h1:b=true→T x Q) (h2:b=false→T y Q):T (if b=true then x else y) Q:=by
  cases b
  · exact h2 rfl
  · exact h1 rfl
theorem T.grd {α:Type} {b:Bool} {x:Option α} {Q:α→Prop} (h:b=true) (k:T x Q):T (grd b x) Q:=by
  rw [m8 h]
  exact k
theorem T.imp {α:Type} {x:Option α} {P Q:α→Prop} (h:T x P) (k:∀ r,P r→Q r):T x Q:=by
  obtain ⟨r,e,p⟩:=h
  exact ⟨r,e,k r p⟩
theorem Fv {α:Type} {l:List α} {i:Int} {k:Nat} (hi:i=(k:Int)) (h:k<l.length):aN l i=some l[k]:=by
  rw [hi,jL,List.getElem?_eq_getElem h]
theorem T.get {α β:Type} {l:List α} {i:Int} {f:α→Option β} {Q:β→Prop} (k:Nat) (hi:i=(k:Int)) (h:k<l.length) (g:T (f l[k]) Q):T ((aN l i).bind f) Q:=T.eqb (Fv hi h) g
/-- A round's end. -/
def Rd {σ τ:Type} (P:σ→Prop) (Q:τ→Prop):σ⊕τ→Prop
  | .inl s=>P s
  | .inr t=>Q t
theorem T.fin {σ τ:Type} {P:σ→Prop} {Q:τ→Prop} {t:τ} (h:Q t):T (some (.inr t:σ⊕τ)) (Rd P Q):=T.ret h
theorem T.next {σ τ:Type} {P:σ→Prop} {Q:τ→Prop} {s:σ} (h:P s):T (some (.inl s:σ⊕τ)) (Rd P Q):=T.ret h
/-- So many rounds at most; St tells what is so at the beginning of each. -/
theorem T.loopFrom {σ τ:Type} {step:σ→Option (σ⊕τ)} (N:Nat) (St:Nat→σ→Prop) (Post:τ→Prop)
    (hs:∀ i s,i≤N→St i s→T (step s) (Rd (fun s'=>i<N∧St (i + 1) s') Post)):∀ (n i:Nat) (s:σ),i≤N→St i s→N - i<n→T (iter step n s) Post
  | 0,_,_,_,_,h=>by omega
  | n + 1,i,s,hi,h0,h=>by
    rw [aZ]
    obtain ⟨r,e,p⟩:=hs i s hi h0
    rw [e]
    cases r with
    | inl s'=>exact T.loopFrom N St Post hs n (i + 1) s' p.1 p.2 (by have:=p.1; omega)
    | inr t=>exact T.ret p
theorem T.loop {σ τ:Type} {step:σ→Option (σ⊕τ)} (N:Nat) (St:Nat→σ→Prop) (Post:τ→Prop)
    (hs:∀ i s,i≤N→St i s→T (step s) (Rd (fun s'=>i<N∧St (i + 1) s') Post)) {n:Nat} {s:σ} (h0:St 0 s) (hn:N<n):T (iter step n s) Post :=
  T.loopFrom N St Post hs n 0 s (Nat.zero_le _) h0 hn
theorem KN:kj 1=1:=rfl
theorem z2:kj 2=2:=rfl
theorem F7:kj 3=5:=rfl
theorem H4:kj 4=14:=rfl
theorem KO:kj 5=7:=rfl
theorem KP:kj 6=16:=rfl
def bits:Int→List Bool
  | h=>[(ch .u64 h 16) != 0,(ch .u64 h 1) != 0,(ch .u64 h 2) != 0,(ch .u64 h 4) != 0,(ch .u64 h 8) != 0]
theorem b1:bits 1=[false,true,false,false,false]:=by decide +kernel
theorem b2:bits 2=[false,false,true,false,false]:=by decide +kernel
theorem b5:bits 5=[false,true,false,true,false]:=by decide +kernel
theorem KQ:bits 14=[false,false,true,true,true]:=by decide +kernel
theorem b7:bits 7=[false,true,true,true,false]:=by decide +kernel
theorem Ki:bits 16=[true,false,false,false,false]:=by decide +kernel
theorem b0:bits 0=[false,false,false,false,false]:=by decide +kernel
theorem kinds (k:Int):k=1∨k=2∨k=3∨k=4∨k=5∨k=6∨(kj k=0∧H3 k=false∧Fs k=false):=by
  by_cases h:k=1∨k=2∨k=3∨k=4∨k=5∨k=6
  · omega
  · have:kj k=0:=by unfold kj; rw [if_neg (by omega),if_neg (by omega),if_neg (by omega),if_neg (by omega),if_neg (by omega),if_neg (by omega)]
    refine .inr (.inr (.inr (.inr (.inr (.inr ⟨this,?_,?_⟩)))))
    · unfold H3; simp; omega
    · unfold Fs; simp; omega
theorem BQ (n:Nat) (e:Event):iW n e=some (H3 e.Kind):=by
  unfold iW
  rw [G7]
  have h:∀ h:Int,bits h=[(ch .u64 h 16) != 0,(ch .u64 h 1) != 0,(ch .u64 h 2) != 0,(ch .u64 h 4) != 0,(ch .u64 h 8) != 0]:=fun _=>rfl
  have g:∀ (l:List Bool) (h:Int),bits h=l→((ch .u64 h 1) != 0)=l[1]! := fun l h e=>by rw [← e]; rfl
  simp only [Option.bind_some]
  congr 1
  rcases kinds e.Kind with k | k | k | k | k | k | ⟨k,k2,_⟩
  · rw [k,KN,g _ _ b1]; rfl
  · rw [k,z2,g _ _ b2]; rfl
  · rw [k,F7,g _ _ b5]; rfl
  · rw [k,H4,g _ _ KQ]; rfl
  · rw [k,KO,g _ _ b7]; rfl
  · rw [k,KP,g _ _ Ki]; rfl
  · rw [k,k2,g _ _ b0]; rfl
theorem uL (n:Nat) (e:Event):eO n e=some (Fs e.Kind):=by
  unfold eO
  rw [G7]
  have g:∀ (l:List Bool) (h:Int),bits h=l→((ch .u64 h 2) != 0)=l[2]! := fun l h e=>by rw [← e]; rfl
  simp only [Option.bind_some]
  congr 1
  rcases kinds e.Kind with k | k | k | k | k | k | ⟨k,_,k2⟩
  · rw [k,KN,g _ _ b1]; rfl
  · rw [k,z2,g _ _ b2]; rfl
  · rw [k,F7,g _ _ b5]; rfl
  · rw [k,H4,g _ _ KQ]; rfl
  · rw [k,KO,g _ _ b7]; rfl
  · rw [k,KP,g _ _ Ki]; rfl
  · rw [k,k2,g _ _ b0]; rfl
def oS (k:Int):Bool:=H3 k||Fs k
theorem zT (n:Nat) (e:Event):g9 n e=some (oS e.Kind):=by
  unfold g9 oS
  rw [BQ,uL]
  cases H3 e.Kind <;> rfl
theorem G8 (e:Event) (h:C2 e=true):0≤e.Hart∧e.Hart<8∧0≤e.At∧0≤e.Pred∧0≤e.Succ∧(e.Kind=4→0≤e.Pair∧e.Pair<e.At)∧oR e.Deps.Addr e.At=true∧oR e.Deps.Data e.At=true∧oR e.Deps.Way e.At=true:=by
  unfold C2 wO at h
  simp only [Bool.and_eq_true,decide_eq_true_eq,Bool.or_eq_true] at h
  obtain ⟨_,h1,h2,h3,_,_,h4,_,h5,_,h6,h7,h8,h9⟩:=h
  refine ⟨h1,h2,h3,h4,h5,fun k=>?_,h7,h8,h9⟩
  rcases h6 with h6 | h6
  · rw [k,H4] at h6
    have:((ch .u64 14 8) != 0)=true:=by decide +kernel
    rw [this] at h6
    simp at h6
  · exact h6
def F8 (l:List Event) (k:Nat) (hk:k<l.length):Prop :=
  ∃ p:Nat,∃ hp:p<k,l[k].Pair=(p:Int)∧l[p].Kind=3∧l[p].Addr=l[k].Addr∧∀ j:Nat,p<j→∀ hj:j<k,l[j].Kind≠3∧l[j].Kind≠4
def Kj (h:Int) (l:List Event) (k:Nat) (hk:k<l.length):Prop:=C2 l[k]=true∧l[k].Hart=h∧l[k].At=(k:Int)∧(l[k].Kind=4→F8 l k hk)
def rowP (h:Int) (l:List Event):Prop:=∀ (k:Nat) (hk:k<l.length),Kj h l k hk
def smalls (l:List Event):Prop:=l.length≤100∧∀ e∈l,small e
theorem G9 (n:Nat) (h:Int) (l:List Event) (hl:smalls l) (hn:200≤n) (hr:rowP h l):iC n h l=some 0:=by
  have hll:=hl.1
  have:T (iC n h l) (fun r=>r=0):=by
    unfold iC
    refine T.bind (P:=fun r=>match r with | .inl _=>True | .inr _=>False) ?_ (fun r hr=>by
      cases r with
      | inl _=>exact T.ret rfl
      | inr _=>exact hr.elim)
    refine T.loop l.length (fun i s=>s.1=(i:Int)∧∀ p:Nat,p<i→∀ hp:p<l.length,l[p].Kind=3→(∀ j:Nat,p<j→j<i→∀ hj:j<l.length,l[j].Kind≠3∧l[j].Kind≠4)→s.2=(p:Int)) _ ?_ ⟨rfl,fun p hp=>by omega⟩ (by omega)
    rintro i ⟨s1,s2⟩ hi ⟨e1,hq⟩
    dsimp only at e1 hq
    subst e1
    unfold g0
    refine T.ite (fun c=>?_) (fun c=>T.ret trivial)
    have hil:i<l.length:=by
      have:(i:Int)<l.length:=by simpa using c
      omega
    obtain ⟨ok,hh,ha,hp⟩:=hr i hil
    refine T.get i rfl hil ?_
    refine T.eqb (Es n l[i] (hl.2 _ (List.getElem_mem hil)) (by omega)) ?_
    rw [if_pos ok]
    refine T.ite (fun c1=>by simp at c1) (fun _=>?_)
    refine T.ite (fun c1=>by simp [hh] at c1) (fun _=>?_)
    refine T.ite (fun c1=>by simp [ha] at c1) (fun _=>?_)
    refine T.ite (fun c3=>?_) (fun c3=>?_)
    · have k3:l[i].Kind=3:=by simpa using c3
      refine T.ret ⟨hil,ez _ (by omega),fun p h1 h2 h3 h4=>?_⟩
      by_cases e:p=i
      · rw [e]
      · exact absurd k3 (h4 i (by omega) (by omega) hil).1
    have k3:l[i].Kind≠3:=by simpa using c3
    refine T.ite (fun c4=>?_) (fun c4=>?_)
    · have k4:l[i].Kind=4:=by simpa using c4
      obtain ⟨p,hpi,e1,e2,e3,e4⟩:=hp k4
      have hs2:s2=(p:Int):=hq p hpi (by omega) e2 (fun j h1 h2 _=>e4 j h1 h2)
      refine T.ite (fun c5=>by simp [e1,hs2] at c5) (fun _=>?_)
      refine T.get p hs2 (by omega) ?_
      refine T.ite (fun c5=>by simp [e3] at c5) (fun _=>?_)
      refine T.ret ⟨hil,ez _ (by omega),fun p h1 h2 h3 h4=>?_⟩
      by_cases e:p=i
      · subst e; exact absurd h3 k3
      · exact absurd k4 (h4 i (by omega) (by omega) hil).2
    · have k4:l[i].Kind≠4:=by simpa using c4
      refine T.ret ⟨hil,ez _ (by omega),fun p h1 h2 h3 h4=>?_⟩
      by_cases e:p=i
      · subst e; exact absurd h3 k3
      · exact hq p (by omega) h2 h3 (fun j g1 g2 hj=>h4 j g1 (by omega) hj)
  obtain ⟨r,h1,h2⟩:=this
  rw [h1,h2]
def lW (l:List Cell):Prop:=∀ (k:Nat) (hk:k<l.length),∀ h0:0<k,l[k - 1].Addr<l[k].Addr
theorem cells_lt {l:List Cell} (h:lW l):∀ (j k:Nat) (hj:j<l.length) (hk:k<l.length),j<k→l[j].Addr<l[k].Addr:=by
  intro j k
  induction k with
  | zero=>intros; omega
  | succ k ih =>
    intro hj hk hjk
    have h1:=h (k + 1) hk (by omega)
    simp only [Nat.add_sub_cancel] at h1
    by_cases e:j=k
    · subst e; exact h1
    · have:=ih hj (by omega) (by omega)
      omega
def A6 (l:List Cell) (a v:Int):Prop:=(∃ k:Nat,∃ hk:k<l.length,l[k].Addr=a∧v=l[k].Value)∨((∀ (k:Nat) (hk:k<l.length),l[k].Addr≠a)∧v=0)
theorem A7 {l:List Cell} (h:lW l) {a v w:Int} (h1:A6 l a v) (h2:A6 l a w):v=w:=by
  rcases h1 with ⟨k,hk,e1,e2⟩ | ⟨e1,e2⟩
  · rcases h2 with ⟨j,hj,f1,f2⟩ | ⟨f1,f2⟩
    · by_cases h3:k<j
      · have:=cells_lt h k j hk hj h3; omega
      by_cases h4:j<k
      · have:=cells_lt h j k hj hk h4; omega
      have:k=j:=by omega
      subst this
      rw [e2,f2]
    · exact absurd e1 (f1 k hk)
  · rcases h2 with ⟨j,hj,f1,f2⟩ | ⟨f1,f2⟩
    · exact absurd f1 (e1 j hj)
    · rw [e2,f2]
theorem mid (a b:Nat) (h:a + b≤100000):IntKind.wrap .i64 (bY .u64 (IntKind.wrap .u64 (ae .i64 (a:Int) (b:Int))) 1)=(((a + b) / 2:Nat):Int):=by
  rw [addN _ _ (by omega),FH (by omega) (by omega)]
  have:bY .u64 ((a + b:Nat):Int) 1=(((a + b) / 2:Nat):Int):=by
    unfold bY
    rw [show (2:Int) ^ (min (Int.toNat 1) IntKind.u64.bits)=2 from rfl,Int.fdiv_eq_ediv_of_nonneg _ (by omega)]
    omega
  rw [this,yc (by omega) (by omega)]
def x5 (x y:Int):Int:=if x<y then -1 else if x>y then 1 else 0
theorem Kk (n:Nat) (x y:Int):eN n x y=some (x5 x y):=by
  unfold eN di x5
  have h:∀ z:Int,(z != z)=false:=by simp
  rw [h,h]
  simp only [Option.bind_some,Bool.false_eq_true,if_false,decide_eq_true_eq]
  by_cases c:x<y
  · rw [if_pos c,if_pos c]
  · rw [if_neg c,if_neg c]
    by_cases d:x>y
    · rw [if_pos d,if_pos d]
    · rw [if_neg d,if_neg d]
theorem BR (n:Nat) (x:Cell) (a:Int):g8 n x a=some (x5 x.Addr a):=by
  unfold g8
  rw [Kk]
  rfl
theorem Et (n:Nat) (l:List Cell) (a:Int) (h:lW l) (hl:l.length≤100) (hn:200≤n):T (jM n l a) (A6 l a):=by
  unfold jM bI
  have key:T (iter (fun s=>aE n l a s) n ((l.length:Int),0)) (fun t=>∃ k:Nat,t=(k:Int)∧k≤l.length∧(∀ j (_:j<k) (hj:j<l.length),l[j].Addr<a)∧(∀ j (_:k≤j) (hj:j<l.length),a≤l[j].Addr)):=by
    refine T.loop l.length (fun i s=>∃ lo hi:Nat,s=((hi:Int),(lo:Int))∧lo≤hi∧hi≤l.length∧hi - lo≤l.length - i∧(∀ j (_:j<lo) (hj:j<l.length),l[j].Addr<a)∧(∀ j (_:hi≤j) (hj:j<l.length),a≤l[j].Addr)) _ ?_ ⟨0,l.length,rfl,by omega,by omega,by omega,fun j h=>by omega,fun j h=>by omega⟩ (by omega)
    rintro i s hi ⟨lo,hi,rfl,h1,h2,h3,h4,h5⟩
    unfold aE
    refine T.ite (fun c=>?_) (fun c=>?_)
    · have hlt:lo<hi:=by
        have:(lo:Int)<(hi:Int):=by simpa using c
        omega
      dsimp only
      rw [mid lo hi (by omega)]
      refine T.get ((lo + hi) / 2) rfl (by omega) ?_
      refine T.eqb (BR _ _ _) ?_
      refine T.ite (fun c1=>?_) (fun c1=>?_)
      · have hl1:l[(lo + hi) / 2].Addr<a:=by
          unfold x5 at c1
          by_cases e:l[(lo + hi) / 2].Addr<a
          · exact e
          · rw [if_neg e] at c1
            split at c1 <;> simp at c1
        refine T.ret ⟨by omega,(lo + hi) / 2 + 1,hi,by rw [ez _ (by omega)],by omega,by omega,by omega,fun j g hj=>?_,h5⟩
        by_cases e:j=(lo + hi) / 2
        · subst e; exact hl1
        · have:=cells_lt h j ((lo + hi) / 2) hj (by omega) (by omega)
          omega
      · have hl1:a≤l[(lo + hi) / 2].Addr:=by
          unfold x5 at c1
          by_cases e:l[(lo + hi) / 2].Addr<a
          · rw [if_pos e] at c1
            simp at c1
          · omega
        refine T.ret ⟨by omega,lo,(lo + hi) / 2,rfl,by omega,by omega,by omega,h4,fun j g hj=>?_⟩
        by_cases e:j=(lo + hi) / 2
        · subst e; exact hl1
        · have:=cells_lt h ((lo + hi) / 2) j (by omega) hj (by omega)
          omega
    · have hge:¬ lo<hi:=by
        have:¬ (lo:Int)<(hi:Int):=by simpa using c
        omega
      have e:lo=hi:=by omega
      subst e
      exact T.ret ⟨lo,rfl,h2,h4,h5⟩
  refine T.bind (P:=fun (y:Int×Bool)=>(y.2=true→∃ k:Nat,y.1=(k:Int)∧∃ hk:k<l.length,l[k].Addr=a)∧(y.2=false→∀ (k:Nat) (hk:k<l.length),l[k].Addr≠a)) ?_ ?_
  · refine T.bind key ?_
    rintro t ⟨k,rfl,h1,h2,h3⟩
    refine T.ite (fun c=>?_) (fun c=>?_)
    · have hk:k<l.length:=by
        have:(k:Int)<l.length:=by simpa using c
        omega
      refine T.get k rfl hk ?_
      refine T.eqb (BR _ _ _) ?_
      refine T.ret ⟨fun e=>⟨k,rfl,hk,?_⟩,fun e j hj=>?_⟩
      · have e':x5 l[k].Addr a=0:=by simpa using e
        unfold x5 at e'
        split at e'
        · simp at e'
        · split at e'
          · simp at e'
          · omega
      · have e':x5 l[k].Addr a≠0:=by simpa using e
        have hne:l[k].Addr≠a:=by
          intro e2
          apply e'
          unfold x5
          rw [if_neg (by omega),if_neg (by omega)]
        by_cases f:j<k
        · have:=h2 j f hj; omega
        · by_cases g:j=k
          · subst g; exact hne
          · have:=cells_lt h k j hk hj (by omega)
            have:=h3 k (by omega) hk
            omega
    · have hk:¬ k<l.length:=by
        have:¬ (k:Int)<l.length:=by simpa using c
        omega
      refine T.ret ⟨fun e=>by simp at e,fun _ j hj=>?_⟩
      have:=h2 j (by omega) hj
      omega
  · rintro ⟨y1,y2⟩ ⟨h1,h2⟩
    dsimp only at h1 h2 ⊢
    cases y2 with
    | false=>exact T.ret (.inr ⟨h2 rfl,rfl⟩)
    | true =>
      obtain ⟨k,rfl,hk,e⟩:=h1 rfl
      refine T.ite (fun c=>by simp at c) (fun _=>?_)
      exact T.get k rfl hk (T.ret (.inl ⟨k,hk,e,rfl⟩))
def FL (l:List (List Event)) (i:Nat):List Event:=(l.take i).flatten
theorem jC {l:List (List Event)} {i:Nat} (h:i<l.length):FL l (i + 1)=FL l i++l[i]:=by
  unfold FL
  rw [List.take_succ_eq_append_getElem h,List.flatten_append]
  simp
theorem m6 (l:List (List Event)) {i:Nat} (h:l.length≤i):FL l i=l.flatten:=by
  unfold FL
  rw [List.take_of_length_le h]
theorem rY (l:List (List Event)):FL l 0=[]:=rfl
theorem H5 (l:List (List Event)) (i:Nat):(FL l i).length≤l.flatten.length:=by
  have:l.flatten=FL l i++(l.drop i).flatten:=by
    unfold FL
    rw [← List.flatten_append,List.take_append_drop]
  rw [this,List.length_append]
  omega
theorem uM {l:List (List Event)} {i:Nat} (h:i<l.length):(FL l i).length + l[i].length≤l.flatten.length:=by
  have:=H5 l (i + 1)
  rw [jC h,List.length_append] at this
  exact this
/-- Not many events, harts, cells. -/
structure pX (c:aS):Prop where
  harts:c.Harts.length≤9
  all:c.Harts.flatten.length≤60
  first:c.First.length≤60
  from_:c.From.length≤120
  order:c.Order.length≤120
  rows:∀ l∈c.Harts,smalls l
theorem gW {i:Nat} {m:Nat} (c:decide ((i:Int)<(m:Int))=true):i<m:=by
  have:(i:Int)<m:=by simpa using c
  omega
theorem gu {i:Nat} {m:Nat} (c:decide ((i:Int)<(m:Int))=false):m≤i:=by
  have:¬ (i:Int)<m:=by simpa using c
  omega
theorem m7 {a b:Nat} (h:a≤b):Nat.ble a b=true:=by simpa using h
theorem Fw (n:Nat) (c:aS) (hc:pX c) (hn:200≤n):bG n c.Harts=some c.Harts.flatten:=by
  have hh:=hc.harts
  have hf:=hc.all
  have key:T (bG n c.Harts) (fun r=>r=c.Harts.flatten):=by
    unfold bG
    refine T.bind (P:=fun r=>r=(c.Harts.flatten.length:Int)) ?_ ?_
    · refine T.loop c.Harts.length (fun i s=>s=((i:Int),((FL c.Harts i).length:Int))) _ ?_ rfl (by omega)
      rintro i s hi rfl
      unfold bQ
      refine T.ite (fun cd=>?_) (fun cd=>T.fin (by dsimp only; rw [m6 _ (gu cd)]))
      have hil:=gW cd
      have hr:=uM hil
      refine T.get i rfl hil ?_
      dsimp only
      rw [addN _ _ (by omega)]
      refine T.ite (fun c1=>?_) (fun _=>?_)
      · have:((((FL c.Harts i).length + c.Harts[i].length:Nat)):Int)<0:=by simpa using c1
        omega
      · refine T.ret ⟨hil,?_⟩
        rw [ez _ (by omega),jC hil,List.length_append]
    rintro _ rfl
    unfold b6
    generalize hz:(Event.mk 0 0 0 0 0 0 false false 0 0 0 (Deps.mk ([]:List Int) ([]:List Int) ([]:List Int)))=z
    have h0:¬ (c.Harts.flatten.length:Int)<0:=by omega
    have hsub:aj .i64 (c.Harts.flatten.length:Int) 0=(c.Harts.flatten.length:Int):=by rw [rZ (by omega) (by omega)]; omega
    rw [if_neg (by simp),hsub]
    by_cases hp:0<c.Harts.flatten.length
    · rw [if_pos (decide_eq_true (by omega))]
      rw [m8 (by simp [Nat.blt,-List.length_flatten]; omega),m8 (by simp)]
      refine T.eqb rfl ?_
      refine T.bind (P:=fun t=>t.1=c.Harts.flatten.length∧t.2.2.take c.Harts.flatten.length=c.Harts.flatten) ?_ (fun t ht=>T.ret (by
        dsimp only
        rw [ht.1,List.drop_zero,ht.2]))
      refine T.loop c.Harts.length (fun i s=>s.1=(FL c.Harts i).length∧s.2.1=c.Harts.flatten.length - (FL c.Harts i).length∧s.2.2.1.length=c.Harts.flatten.length∧s.2.2.1.take (FL c.Harts i).length=FL c.Harts i∧s.2.2.2=(i:Int)) _ ?_ ⟨rfl,by simp [rY],by simp,by simp [rY],rfl⟩ (by omega)
      rintro i ⟨s1,s2,s3,s4⟩ hi ⟨e1,e2,e3,e4,e5⟩
      dsimp only at e1 e2 e3 e4 e5
      subst e1 e2 e5
      unfold bR
      refine T.ite (fun cd=>?_) (fun cd=>?_)
      · have hil:=gW cd
        have hr:=uM hil
        refine T.get i rfl hil ?_
        refine T.grd (m7 (by dsimp only; omega)) ?_
        refine T.grd (m7 (by dsimp only; omega)) ?_
        dsimp only
        refine T.ret ⟨hil,?_⟩
        dsimp only
        rw [jC hil,List.length_append]
        refine ⟨rfl,by omega,?_,?_,ez _ (by omega)⟩
        · simp only [List.length_append,List.length_take,List.length_drop]
          omega
        · rw [Nat.zero_add,e4,← List.append_assoc,List.take_append_of_le_length (by simp),List.take_of_length_le (by simp)]
      · refine T.ret ⟨by dsimp only; rw [m6 _ (gu cd)],?_⟩
        dsimp only
        rw [m6 _ (gu cd)] at e4
        exact e4
    · rw [if_neg (by rw [decide_eq_false (by omega)]; exact Bool.false_ne_true)]
      refine T.eqb rfl ?_
      have hL:T (iter (fun s=>bn n c.Harts s) n (([]:List Event),0)) (fun r=>r=c.Harts.flatten):=by
        refine T.loop c.Harts.length (fun i s=>s=(FL c.Harts i,(i:Int))) _ ?_ rfl (by omega)
        rintro i s hi rfl
        unfold bn
        refine T.ite (fun cd=>?_) (fun cd=>T.fin (by dsimp only; rw [m6 _ (gu cd)]))
        have hil:=gW cd
        have hr:=uM hil
        refine T.get i rfl hil ?_
        refine T.grd (m7 (by dsimp only; omega)) ?_
        refine T.ret ⟨hil,?_⟩
        dsimp only
        rw [ez _ (by omega),jC hil]
      exact T.bind hL (fun r hr=>T.ret hr)
  obtain ⟨r,h1,h2⟩:=key
  rw [h1,h2]
theorem x6 (n:Nat) (c:aS) (hc:pX c) (hn:200≤n):gL n c.First c.Harts c.From c.Order=some c.Harts.flatten:=by
  unfold gL
  rw [Fw n c hc hn]
  rfl
theorem G_ (n:Nat) (c:aS) (m:Nat) (hm:m≤60) (hn:200≤n):T (iO n c (m:Int)) (fun b=>b=true→pX c∧c.Harts.flatten.length≤m):=by
  have hev:∀ l:List Event,T (gv n l (m:Int)) (fun b=>b=true→smalls l∧l.length≤m):=by
    intro l
    unfold gv
    refine T.ite (fun _=>T.ret (fun h=>by simp at h)) (fun c1=>?_)
    have hl:l.length≤m:=by
      have:¬ (l.length:Int)>(m:Int):=of_decide_eq_false c1
      omega
    refine T.bind (P:=fun (r:Unit⊕Unit)=>match r with | .inl _=>∀ e∈l,small e | .inr _=>True) ?_ (fun r hr=>by
      cases r with
      | inl _=>exact T.ret (fun _=>⟨⟨by omega,hr⟩,hl⟩)
      | inr _=>exact T.ret (fun h=>by simp at h))
    refine T.loop l.length (fun i s=>s=(i:Int)∧∀ (k:Nat) (_:k<i) (hk:k<l.length),small l[k]) _ ?_ ⟨rfl,fun k hk=>by omega⟩ (by omega)
    rintro i s hi ⟨rfl,hq⟩
    unfold eQ
    refine T.ite (fun cd=>?_) (fun cd=>?_)
    · have hil:=gW cd
      refine T.get i rfl hil ?_
      refine T.bind (P:=fun b=>b=true→small l[i]) ?_ ?_
      · unfold kE
        refine T.ite (fun d1=>?_) (fun _=>T.ret (fun h=>by simp at h))
        refine T.ite (fun d2=>?_) (fun _=>T.ret (fun h=>by simp at h))
        refine T.ret (fun d3=>?_)
        have d1:=of_decide_eq_true d1
        have d2:=of_decide_eq_true d2
        have d3:=of_decide_eq_true d3
        unfold small
        omega
      · intro b hb
        refine T.ite (fun _=>T.ret trivial) (fun c2=>?_)
        refine T.ret ⟨hil,ez _ (by omega),fun k hk hkl=>?_⟩
        by_cases e:k=i
        · subst e
          exact hb (by simpa using c2)
        · exact hq k (by omega) hkl
    · have:=gu cd
      refine T.ret (fun e he=>?_)
      obtain ⟨k,hk,rfl⟩:=List.getElem_of_mem he
      exact hq k (by omega) hk
  unfold iO
  refine T.bind (P:=fun (r:Int⊕Unit)=>match r with | .inl w=>c.Harts.length≤9→(w=(c.Harts.flatten.length:Int)∧∀ l∈c.Harts,smalls l) | .inr _=>True) ?_ ?_
  · refine T.loop 10 (fun i s=>i≤c.Harts.length∧s=(((FL c.Harts i).length:Int),(i:Int))∧(FL c.Harts i).length≤100 * i∧∀ (k:Nat) (_:k<i) (hk:k<c.Harts.length),smalls c.Harts[k]) _ ?_ ⟨by omega,rfl,by simp [rY],fun k hk=>by omega⟩ (by omega)
    rintro i s hi ⟨hi2,rfl,hs,hq⟩
    unfold fP
    have fin:c.Harts.length≤i→∀ l∈c.Harts,smalls l:=fun h l hl=>by
      obtain ⟨k,hk,rfl⟩:=List.getElem_of_mem hl
      exact hq k (by omega) hk
    refine T.ite (fun cd=>?_) (fun cd=>?_)
    · have hil:=gW cd
      refine T.ite (fun cd2=>?_) (fun cd2=>?_)
      · have hi10:i<10:=gW (m:=10) cd2
        refine T.get i rfl hil ?_
        refine T.bind (hev _) (fun b hb=>?_)
        refine T.ite (fun _=>T.ret trivial) (fun c2=>?_)
        have hb':=hb (by simpa using c2)
        dsimp only
        refine T.ret ⟨hi10,hil,?_,?_,fun k hk hkl=>?_⟩
        · rw [ez _ (by omega),addN _ _ (by omega),jC hil,List.length_append]
        · rw [jC hil,List.length_append]
          omega
        · by_cases e:k=i
          · subst e
            exact hb'.1
          · exact hq k (by omega) hkl
      · have:10≤i:=gu (m:=10) cd2
        exact T.ret (fun h=>by omega)
    · have:=gu cd
      exact T.ret (fun h=>⟨by dsimp only; rw [m6 _ this],fin this⟩)
  · intro r hr
    cases r with
    | inr _=>exact T.ret (fun h=>by simp at h)
    | inl w =>
      refine T.ite (fun d1=>?_) (fun _=>T.ret (fun h=>by simp at h))
      refine T.ite (fun d2=>?_) (fun _=>T.ret (fun h=>by simp at h))
      refine T.ite (fun d3=>?_) (fun _=>T.ret (fun h=>by simp at h))
      refine T.ite (fun d4=>?_) (fun _=>T.ret (fun h=>by simp at h))
      refine T.ret (fun d5=>?_)
      have hmul:cp .i64 2 (m:Int)=2 * (m:Int):=Hj (by omega) (by omega)
      rw [hmul] at d4 d5
      have d1:=of_decide_eq_true d1
      have d2:=of_decide_eq_true d2
      have d3:=of_decide_eq_true d3
      have d4:=of_decide_eq_true d4
      have d5:=of_decide_eq_true d5
      obtain ⟨e1,e2⟩:=hr (by omega)
      subst e1
      exact ⟨⟨by omega,by omega,by omega,by omega,by omega,e2⟩,by omega⟩
theorem Fx {α:Type} {l:List α} {i:Int} {j k:Nat} {b:α} (hi:i=(j:Int)) (hk:k<(l.set i.toNat b).length) (hk2:k<l.length):(l.set i.toNat b)[k]=if j=k then b else l[k]:=by
  subst hi
  simp only [Int.toNat_natCast]
  rw [List.getElem_set]
def cnt (l:List Event) (i:Nat):Nat:=(l.take i).countP (fun e=>oS e.Kind)
theorem zU {l:List Event} {i:Nat} (h:i<l.length):cnt l (i + 1)=cnt l i + if oS l[i].Kind=true then 1 else 0:=by
  unfold cnt
  rw [List.take_succ_eq_append_getElem h,List.countP_append]
  simp [List.countP_cons]
theorem x_ (l:List Event) (i:Nat):cnt l i≤l.length:=by
  unfold cnt
  exact Nat.le_trans List.countP_le_length (by simp; omega)
theorem uN {b:Bool} (h:(!b)=false):b=true:=by cases b <;> simp_all
theorem uO {a b:Int} (h:(a != b)=false):a=b:=by simpa using h
theorem F9 (l:List (List Event)):∀ (r:Nat) (_:r≤l.length) (i:Nat) (hi:i<(FL l r).length),∃ q:Nat,∃ hq:q<l.length,∃ k:Nat,∃ hk:k<l[q].length,i=(FL l q).length + k∧(FL l r)[i]=l[q][k]
  | 0,_,i,hi=>by simp [rY] at hi
  | r + 1,hr,i,hi=>by
    have e:=jC (l:=l) (i:=r) (by omega)
    have hi':i<(FL l r++l[r]).length:=by rw [← e]; exact hi
    have e2:(FL l (r + 1))[i]=(FL l r++l[r])[i]:=by congr 1
    by_cases h:i<(FL l r).length
    · obtain ⟨q,hq,k,hk,e3,e4⟩:=F9 l r (by omega) i h
      exact ⟨q,hq,k,hk,e3,by rw [e2,List.getElem_append_left h,e4]⟩
    · have hk:i - (FL l r).length<l[r].length:=by rw [List.length_append] at hi'; omega
      exact ⟨r,by omega,i - (FL l r).length,hk,by omega,by rw [e2,List.getElem_append_right (by omega)]⟩
theorem Fy (l:List (List Event)) (i:Nat) (hi:i<l.flatten.length):∃ q:Nat,∃ hq:q<l.length,∃ k:Nat,∃ hk:k<l[q].length,i=(FL l q).length + k∧l.flatten[i]=l[q][k]:=by
  have e:=m6 l (Nat.le_refl l.length)
  obtain ⟨q,hq,k,hk,e1,e2⟩:=F9 l l.length (Nat.le_refl _) i (by rw [e]; exact hi)
  exact ⟨q,hq,k,hk,e1,by rw [← e2]; congr 1; exact e.symm⟩
def Ls (N:Nat) (g f0 f1 f2 f3:List Int):Prop:=g.length=N∧f0.length=N + 1∧f1.length=N + 1∧f2.length=N + 1∧f3.length=N + 1
theorem A1:∀ k:Nat,k<4→decide (0≤fC .i64 (k:Int) 2)=true:=by decide +kernel
structure Mh (e:Event):Prop where
  hart:0≤e.Hart∧e.Hart<8
  at_:0≤e.At
  addr:ya .u64 e.Addr 8=0
  pred:0≤e.Pred∧e.Pred≤15
  succ:0≤e.Succ∧e.Succ≤15
  pair:e.Kind=4→0≤e.Pair∧e.Pair<e.At
  bels:oR e.Deps.Addr e.At=true∧oR e.Deps.Data e.At=true∧oR e.Deps.Way e.At=true
  want:uK (BP e) e=true
theorem Mi (e:Event) (h:C2 e=true):Mh e:=by
  have hp:=(G8 e h).2.2.2.2.2.1
  unfold C2 wO at h
  simp only [Bool.and_eq_true,decide_eq_true_eq] at h
  obtain ⟨_,h1,h2,h3,hw,ha,h4,h4',h5,h5',_,h7,h8,h9⟩:=h
  exact ⟨⟨h1,h2⟩,h3,ha,⟨h4,h4'⟩,⟨h5,h5'⟩,hp,⟨h7,h8,h9⟩,hw⟩
theorem Fz (n:Nat) (h:Int) (l:List Event) (hl:smalls l) (hn:200≤n):T (iC n h l) (fun r=>r=0→rowP h l):=by
  have hll:=hl.1
  unfold iC
  refine T.bind (P:=fun (r:Unit⊕Unit)=>match r with | .inl _=>rowP h l | .inr _=>True) ?_ (fun r hr=>by
    cases r with
    | inl _=>exact T.ret (fun _=>hr)
    | inr _=>exact T.ret (fun h=>by simp at h))
  refine T.loop l.length (fun i s=>s.1=(i:Int)∧(∀ (k:Nat) (_:k<i) (hk:k<l.length),Kj h l k hk) ∧
    (s.2=-1∨∃ p:Nat,∃ hp:p<l.length,p<i∧s.2=(p:Int)∧l[p].Kind=3∧∀ j:Nat,p<j→j<i→∀ hj:j<l.length,l[j].Kind≠3∧l[j].Kind≠4)) _ ?_ ⟨rfl,fun k hk=>by omega,.inl rfl⟩ (by omega)
  rintro i ⟨s1,s2⟩ hi ⟨e1,hq,ho⟩
  dsimp only at e1 ho
  subst e1
  unfold g0
  refine T.ite (fun c=>?_) (fun c=>T.fin (fun k hk=>hq k (by have:=gu c; omega) hk))
  have hil:i<l.length:=gW c
  refine T.get i rfl hil ?_
  refine T.eqb (Es n l[i] (hl.2 _ (List.getElem_mem hil)) (by omega)) ?_
  refine T.ite (fun _=>T.ret trivial) (fun d=>?_)
  have ok:C2 l[i]=true:=by
    cases h:C2 l[i] with
    | true=>rfl
    | false=>rw [h] at d; simp at d
  refine T.ite (fun _=>T.ret trivial) (fun c2=>?_)
  have hh:l[i].Hart=h:=by simpa using c2
  refine T.ite (fun _=>T.ret trivial) (fun c3=>?_)
  have ha:l[i].At=(i:Int):=by simpa using c3
  have ev:(l[i].Kind=4→F8 l i hil)→∀ (k:Nat) (_:k<i + 1) (hk:k<l.length),Kj h l k hk:=fun hp k hk hkl=>by
    by_cases e:k=i
    · subst e; exact ⟨ok,hh,ha,hp⟩
    · exact hq k (by omega) hkl
  refine T.ite (fun c3=>?_) (fun c3=>?_)
  · have k3:l[i].Kind=3:=by simpa using c3
    exact T.ret ⟨hil,ez _ (by omega),ev (fun h=>by omega),.inr ⟨i,hil,by omega,rfl,k3,fun j h1 h2=>by omega⟩⟩
  have k3:l[i].Kind≠3:=by simpa using c3
  refine T.ite (fun c4=>?_) (fun c4=>?_)
  · have k4:l[i].Kind=4:=by simpa using c4
    have hp:=(Mi _ ok).pair k4
    refine T.ite (fun _=>T.ret trivial) (fun c5=>?_)
    have c5:l[i].Pair=s2:=by simpa using c5
    rcases ho with ho | ⟨p,hpl,hpi,ho,o3,o4⟩
    · omega
    subst ho
    refine T.get p rfl hpl ?_
    refine T.ite (fun _=>T.ret trivial) (fun c6=>?_)
    have c6:l[p].Addr=l[i].Addr:=by simpa using c6
    exact T.ret ⟨hil,ez _ (by omega),ev (fun _=>⟨p,hpi,c5,o3,c6,fun j h1 h2=>o4 j h1 h2 (by omega)⟩),.inl rfl⟩
  · have k4:l[i].Kind≠4:=by simpa using c4
    refine T.ret ⟨hil,ez _ (by omega),ev (fun h=>absurd h k4),?_⟩
    rcases ho with ho | ⟨p,hpl,hpi,ho,o3,o4⟩
    · exact .inl ho
    · refine .inr ⟨p,hpl,by omega,ho,o3,fun j h1 h2 hj=>?_⟩
      by_cases e:j=i
      · subst e; exact ⟨k3,k4⟩
      · exact o4 j h1 (by omega) hj
theorem CV (n:Nat) (c:aS) (all:List Event) (hf:all.length≤60) (hor:c.Order.length≤120) (hn:200≤n):T (eo n c all) (fun b=>b=true →
    (∀ (i:Nat) (hi:i<c.Order.length),∃ j:Nat,∃ hj:j<all.length,c.Order[i]=(j:Int)∧oS all[j].Kind=true)∧(∀ (i j:Nat) (hi:i<c.Order.length) (hj:j<c.Order.length),i<j→c.Order[i]≠c.Order[j])∧c.Order.length=cnt all all.length):=by
  have hcl:=x_ all all.length
  unfold eo
  refine T.grd (by simp [Nat.blt]; omega) ?_
  refine T.bind (P:=fun t=>t.1.length=all.length∧(∀ (j:Nat) (hj:j<t.1.length) (hj2:j<all.length),t.1[j]=oS all[j].Kind)∧t.2=(cnt all all.length:Int)) ?_ ?_
  · refine T.loop all.length (fun i s=>s.2.1=(i:Int)∧s.2.2=(cnt all i:Int)∧s.1.length=all.length∧(∀ (j:Nat) (hj:j<s.1.length) (hj2:j<all.length),s.1[j]=(decide (j<i)&&oS all[j].Kind))) _ ?_ ⟨rfl,rfl,by simp,by simp⟩ (by omega)
    rintro i ⟨s1,s2,s3⟩ hi ⟨e1,e2,e3,hq⟩
    dsimp only at e1 e2 e3 hq
    subst e1 e2
    unfold e6
    refine T.ite (fun cd=>?_) (fun cd=>?_)
    · have hil:=gW cd
      have hcs:=zU hil
      have hcl2:=x_ all i
      refine T.get i rfl hil ?_
      refine T.eqb (zT n _) ?_
      refine T.ite (fun c1=>?_) (fun c1=>?_)
      · rw [if_pos c1] at hcs
        refine T.get i rfl (by dsimp only; omega) ?_
        refine T.ret ⟨hil,ez _ (by omega),by dsimp only; rw [ez _ (by omega),hcs],by dsimp only; rw [List.length_set]; exact e3,?_⟩
        dsimp only
        intro j hj hj2
        rw [Fx rfl hj (by rw [List.length_set] at hj; exact hj)]
        by_cases e:i=j
        · subst e
          rw [if_pos rfl,c1]
          simp
        · rw [if_neg e,hq j (by rw [List.length_set] at hj; exact hj) hj2]
          have:decide (j<i + 1)=decide (j<i):=by simp; omega
          rw [this]
      · rw [if_neg (by rw [c1]; exact Bool.false_ne_true)] at hcs
        refine T.ret ⟨hil,ez _ (by omega),by dsimp only; rw [hcs]; rfl,e3,?_⟩
        dsimp only
        intro j hj hj2
        rw [hq j hj hj2]
        by_cases e:i=j
        · subst e
          rw [c1]
          simp
        · have:decide (j<i + 1)=decide (j<i):=by simp; omega
          rw [this]
    · have:=gu cd
      have e:i=all.length:=by omega
      subst e
      refine T.fin ⟨e3,fun j hj hj2=>?_,rfl⟩
      dsimp only
      rw [hq j hj hj2]
      simp [hj2]
  rintro ⟨t1,t2⟩ ⟨e1,e2,e3⟩
  dsimp only at e1 e2 e3
  subst e3
  refine T.bind (P:=fun (r:Int⊕Unit)=>match r with | .inl w=>w=(cnt all all.length:Int) - (c.Order.length:Int)∧(∀ (i:Nat) (hi:i<c.Order.length),∃ j:Nat,∃ hj:j<all.length,c.Order[i]=(j:Int)∧oS all[j].Kind=true)∧(∀ (i j:Nat) (hi:i<c.Order.length) (hj:j<c.Order.length),i<j→c.Order[i]≠c.Order[j]) | .inr _=>True) ?_ (fun r hr=>by
    cases r with
    | inl w =>
      obtain ⟨h1,h2,h3⟩:=hr
      exact T.ret (fun h=>⟨h2,h3,by have:=eq_of_beq h; omega⟩)
    | inr _=>exact T.ret (fun h=>by simp at h))
  refine T.loop c.Order.length (fun i s=>s.2.1=(i:Int)∧s.2.2=(cnt all all.length:Int) - (i:Int)∧s.1.length=all.length∧(∀ (j:Nat) (hj:j<s.1.length) (hj2:j<all.length),s.1[j]=true→oS all[j].Kind=true∧∀ (a:Nat) (_:a<i) (ha:a<c.Order.length),c.Order[a]≠(j:Int)) ∧
    (∀ (a:Nat) (_:a<i) (ha:a<c.Order.length),∃ j:Nat,∃ hj:j<all.length,c.Order[a]=(j:Int)∧oS all[j].Kind=true)∧(∀ (a b:Nat) (ha:a<c.Order.length) (hb:b<c.Order.length),a<b→b<i→c.Order[a]≠c.Order[b])) _ ?_ ⟨rfl,by simp,e1,fun j hj hj2 h=>⟨by rw [← e2 j hj hj2]; exact h,fun a h=>by omega⟩,fun a h=>by omega,fun a b _ _ _ h=>by omega⟩ (by omega)
  rintro i ⟨s1,s2,s3⟩ hi ⟨g1,g2,g3,hq,q2,q3⟩
  dsimp only at g1 g2 g3 hq
  subst g1 g2
  unfold e7
  refine T.ite (fun cd=>?_) (fun cd=>?_)
  · have hil:=gW cd
    refine T.get i rfl hil ?_
    dsimp only
    refine T.ite (fun _=>T.ret trivial) (fun d1=>?_)
    refine T.ite (fun _=>T.ret trivial) (fun d2=>?_)
    have d1:=of_decide_eq_false d1
    have d2:=of_decide_eq_false d2
    obtain ⟨j,hj⟩:∃ j:Nat,c.Order[i]=(j:Int):=⟨(c.Order[i]).toNat,by omega⟩
    have hjl:j<all.length:=by omega
    refine T.get j hj (by omega) ?_
    refine T.ite (fun _=>T.ret trivial) (fun d3=>?_)
    obtain ⟨hm,hne⟩:=hq j (by omega) hjl (uN d3)
    refine T.ret ⟨hil,ez _ (by omega),by dsimp only; rw [rZ (by omega) (by omega)]; omega,by dsimp only; rw [List.length_set]; exact g3,?_,?_,?_⟩
    · dsimp only
      intro k hk hk2 ht
      rw [Fx hj hk (by rw [List.length_set] at hk; exact hk)] at ht
      by_cases e:j=k
      · rw [if_pos e] at ht; simp at ht
      · rw [if_neg e] at ht
        obtain ⟨h1,h2⟩:=hq k (by rw [List.length_set] at hk; exact hk) hk2 ht
        refine ⟨h1,fun a ha hal=>?_⟩
        by_cases e2:a=i
        · subst e2; rw [hj]; omega
        · exact h2 a (by omega) hal
    · intro a ha hal
      by_cases e:a=i
      · subst e; exact ⟨j,hjl,hj,hm⟩
      · exact q2 a (by omega) hal
    · intro a b ha hb hab hbi
      by_cases e:b=i
      · subst e
        rw [hj]
        exact hne a hab ha
      · exact q3 a b ha hb hab (by omega)
  · have:=gu cd
    have e:i=c.Order.length:=by omega
    subst e
    exact T.fin ⟨rfl,fun a ha=>q2 a ha ha,fun a b ha hb h=>q3 a b ha hb h hb⟩
theorem Ha (n:Nat) (l:List Cell) (hl:l.length≤100) (hn:200≤n):T (iB n l) (fun b=>b=true→lW l):=by
  unfold iB
  refine T.bind (P:=fun (r:Unit⊕Unit)=>match r with | .inl _=>lW l | .inr _=>True) ?_ (fun r hr=>by
    cases r with
    | inl _=>exact T.ret (fun _=>hr)
    | inr _=>exact T.ret (fun h=>by simp at h))
  refine T.loop l.length (fun i s=>s=(i:Int)∧∀ (k:Nat) (hk:k<l.length),k<i→∀ h0:0<k,l[k - 1].Addr<l[k].Addr) _ ?_ ⟨rfl,fun k _ h=>by omega⟩ (by omega)
  rintro i s hi ⟨rfl,hq⟩
  unfold iM
  refine T.ite (fun cd=>?_) (fun cd=>T.fin (fun k hk=>hq k hk (by have:=gu cd; omega)))
  have hil:=gW cd
  refine T.get i rfl hil ?_
  refine T.ite (fun _=>T.ret trivial) (fun _=>?_)
  refine T.ite (fun c2=>?_) (fun c2=>?_)
  · have c2:0<i:=by have:=of_decide_eq_true c2; omega
    rw [BN _ (by omega) (by omega)]
    refine T.get (i - 1) rfl (by omega) ?_
    refine T.ite (fun _=>T.ret trivial) (fun c3=>?_)
    refine T.ret ⟨hil,ez _ (by omega),fun k hk hki h0=>?_⟩
    by_cases e:k=i
    · subst e
      have c3:=of_decide_eq_false c3
      omega
    · exact hq k hk (by omega) h0
  · have c2:¬ 0<i:=by have:=of_decide_eq_false c2; omega
    exact T.ret ⟨hil,ez _ (by omega),fun k hk hki h0=>by omega⟩
/-- May an event read from a number: there is an answer. -/
theorem from_ (n:Nat) (c:aS) (all:List Event) (k:Nat) (hcells:lW c.First) (hf:c.First.length≤100) (hn:200≤n) (h1:k<all.length) (h2:k<c.From.length):T (eJ n c all (k:Int)) (fun _=>True):=by
  unfold eJ
  refine T.get k rfl h1 ?_
  refine T.get k rfl h2 ?_
  refine T.eqb (BQ n _) ?_
  refine T.ite (fun _=>T.ret trivial) (fun _=>?_)
  refine T.ite (fun _=>?_) (fun _=>?_)
  · exact T.bind (Et n _ _ hcells hf hn) (fun _ _=>T.ret trivial)
  refine T.ite (fun _=>T.ret trivial) (fun d1=>?_)
  refine T.ite (fun _=>T.ret trivial) (fun d2=>?_)
  refine T.ite (fun _=>T.ret trivial) (fun _=>?_)
  have d1:=of_decide_eq_false d1
  have d2:=of_decide_eq_false d2
  refine T.get (c.From[k]).toNat (by omega) (by omega) ?_
  refine T.eqb (uL n _) ?_
  refine T.ite (fun _=>?_) (fun _=>T.ret trivial)
  refine T.ite (fun _=>?_) (fun _=>T.ret trivial)
  exact T.ret trivial
/-- What holds of a candidate that may be. -/
structure OK (n:Nat) (c:aS):Prop where
  h1:1≤c.Harts.length
  h8:c.Harts.length≤8
  cellsB:iB n c.First=some true
  cells:lW c.First
  rows:∃ w,iter (fun s=>fg n c s) n (0,0)=some (.inl w)∧w=(c.Harts.flatten.length:Int)
  fromLen:c.From.length=c.Harts.flatten.length
  froms:∀ k:Nat,k<c.Harts.flatten.length→eJ n c c.Harts.flatten (k:Int)=some true
  jm:eo n c c.Harts.flatten=some true
  ord:∀ (i:Nat) (hi:i<c.Order.length),∃ j:Nat,∃ hj:j<c.Harts.flatten.length,c.Order[i]=(j:Int)∧oS c.Harts.flatten[j].Kind=true
  dist:∀ (i j:Nat) (hi:i<c.Order.length) (hj:j<c.Order.length),i<j→c.Order[i]≠c.Order[j]
  count:c.Order.length=cnt c.Harts.flatten c.Harts.flatten.length
theorem A8 (n:Nat) (l:List Int) (h:l.length≤60):cK n l=some l:=by
  unfold cK
  rw [m8 (m7 (by omega))]
theorem Kl (n:Nat) (e:Event) (h:small e):oW n e=some e:=by
  unfold oW
  rw [A8 n _ h.1,A8 n _ h.2.1,A8 n _ h.2.2]
  rfl
theorem Eu {c:aS} (hc:pX c) (i:Nat) (hi:i<c.Harts.flatten.length):small c.Harts.flatten[i]:=by
  obtain ⟨q,hq,k,hk,_,e⟩:=Fy c.Harts i hi
  rw [e]
  exact (hc.rows _ (List.getElem_mem hq)).2 _ (List.getElem_mem hk)
theorem Km (n:Nat) (c:aS) (hc:pX c) (hn:200≤n) (h0:dj n c=some 0):mg n c=some c.Harts.flatten:=by
  have hf:=hc.all
  have key:T (mg n c) (fun l=>l=c.Harts.flatten):=by
    unfold mg
    refine T.eqb h0 ?_
    refine T.ite (fun d=>by simp at d) (fun _=>?_)
    refine T.eqb (x6 n c hc hn) ?_
    refine T.bind (P:=fun l=>l=c.Harts.flatten) ?_ (fun l hl=>T.ret hl)
    refine T.loop c.Harts.flatten.length (fun i s=>s=(c.Harts.flatten.take i,(i:Int))) _ ?_ (by simp) (by omega)
    rintro i s hi rfl
    unfold kn
    refine T.ite (fun cd=>?_) (fun cd=>T.fin (by dsimp only; exact List.take_of_length_le (gu cd)))
    have hil:=gW cd
    refine T.get i rfl hil ?_
    refine T.eqb (Kl n _ (Eu hc i hil)) ?_
    refine T.grd (m7 (by simp only [List.length_take]; omega)) ?_
    refine T.ret ⟨hil,?_⟩
    rw [ez _ (by omega),List.take_succ_eq_append_getElem hil]
  obtain ⟨r,h1,h2⟩:=key
  rw [h1,h2]
theorem rg (l:List Int) (h:l.length≤1000):Nat.ble (l.length * 8) 140737488355328=true:=m7 (by omega)
end Go.Proofs.Ytcckeabholabcaa
