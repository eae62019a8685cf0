/- Events, rows, cells, candidates, the view: plain facts (after chapters 9 and 10) -/
import Derived.Test.YtcckeabholabcaaGreatM1
namespace Go.Proofs.YtcckeabholabcaaGreat
open Go A

theorem addN (a b:Nat) (h:a + b≤1000000):ae .i64 (a:Int) (b:Int)=((a + b:Nat):Int):=by
  rw [AY (by omega) (by omega)]; omega
theorem bU (a:Nat) (h:a<1000000):ae .i64 (a:Int) 1=((a + 1:Nat):Int):=by
  have:=addN a 1 (by omega)
  exact this
theorem oz (a b:Nat) (h:b≤a) (h2:a≤1000000):al .i64 (a:Int) (b:Int)=((a - b:Nat):Int):=by
  rw [vz (by omega) (by omega)]; omega
theorem Cs (a:Nat) (h:1≤a) (h2:a≤1000000):al .i64 (a:Int) 1=((a - 1:Nat):Int):=by
  have:=oz a 1 h h2
  exact this
def sD:Int→List Int→Bool
  | _,[]=>true
  | a,x::l=>decide (a<x)&&sD x l
theorem Ev (n0:Nat) (l:List Int) (hl:l.length≤1000):∀ (xs pre:List Int) (a:Int) (n:Nat),l=pre++xs→xs.length<n →
    iter (fun s=>dA n0 l s) n (a,(pre.length:Int))=some (if sD a xs=true then .inl () else .inr ())
  | _,_,_,0,_,h=>by omega
  | [],pre,a,n + 1,h1,h2=>by
    rw [aQ]
    have:dA n0 l (a,(pre.length:Int))=some (.inr (.inl ())):=by
      unfold dA
      rw [if_neg (by simp [h1])]
    rw [this]
    rfl
  | x::xs,pre,a,n + 1,h1,h2=>by
    rw [aQ]
    have hx:ax l (pre.length:Int)=some x:=by rw [i4,h1]; simp
    have hlen:pre.length<l.length:=by rw [h1]; simp
    have hs:dA n0 l (a,(pre.length:Int))=if a<x then some (.inl (x,((pre++[x]).length:Int))) else some (.inr (.inr ())):=by
      unfold dA
      rw [if_pos (by simp; omega)]
      dsimp only
      rw [hx]
      simp only [Option.bind_some]
      rw [bU _ (by omega)]
      by_cases c:a<x
      · rw [if_pos c,if_neg (by simp; omega)]; simp
      · rw [if_neg c,if_pos (by simp; omega)]
    rw [hs]
    by_cases c:a<x
    · rw [if_pos c]
      simp only
      rw [Ev n0 l hl xs (pre++[x]) x n (by rw [h1]; simp) (by simp at h2; omega)]
      simp [sD,c]
    · rw [if_neg c]
      simp [sD,c]
theorem Hb (n:Nat) (l:List Int) (hl:l.length≤1000) (hn:l.length<n):kT n l=some (sD (-1) l):=by
  unfold kT
  have:=Ev n l hl l [] (-1) n rfl hn
  rw [show (([]:List Int).length:Int)=0 from rfl] at this
  rw [this]
  cases sD (-1) l <;> rfl
theorem Ew (n0:Nat) (l:List Int) (hl:l.length≤1000):∀ (xs pre:List Int) (a:Int) (n:Nat),l=pre++xs→((pre=[]∧a=-1)∨(pre.getLast?=some a∧0≤a))→xs.length<n →
    iter (fun s=>eK n0 l s) n (pre.length:Int)=some (if sD a xs=true then .inl () else .inr ())
  | _,_,_,0,_,_,h=>by omega
  | [],pre,a,n + 1,h1,_,h2=>by
    rw [aQ]
    have:eK n0 l (pre.length:Int)=some (.inr (.inl ())):=by
      unfold eK
      rw [if_neg (by simp [h1])]
    rw [this]
    rfl
  | x::xs,pre,a,n + 1,h1,ha,h2=>by
    rw [aQ]
    have hx:ax l (pre.length:Int)=some x:=by rw [i4,h1]; simp
    have hlen:pre.length<l.length:=by rw [h1]; simp
    have hs:eK n0 l (pre.length:Int)=if a<x then some (.inl ((pre++[x]).length:Int)) else some (.inr (.inr ())):=by
      unfold eK
      rw [if_pos (by simp; omega),hx]
      simp only [Option.bind_some]
      rw [bU _ (by omega)]
      rcases ha with ⟨rfl,rfl⟩ | ⟨hp,h0⟩
      · by_cases c:x<0
        · rw [if_pos (by simpa using c),if_neg (by omega)]
        · rw [if_neg (by simpa using c),if_neg (by simp),if_pos (by omega)]
          simp
      · have hne:pre≠[]:=by rintro rfl; simp at hp
        have hpl:0<pre.length:=List.length_pos_iff.2 hne
        have hg:ax l (al .i64 (pre.length:Int) 1)=some a:=by
          rw [Cs _ (by omega) (by omega),i4,h1,List.getElem?_append_left (by omega)]
          rw [List.getLast?_eq_getElem?] at hp
          exact hp
        by_cases c:x<0
        · rw [if_pos (by simpa using c),if_neg (by omega)]
        · rw [if_neg (by simpa using c),if_pos (by simp; omega),hg]
          simp only [Option.bind_some]
          by_cases c2:a<x
          · rw [if_neg (by simp; omega),if_pos c2]; simp
          · rw [if_pos (by simp; omega),if_neg c2]
    rw [hs]
    by_cases c:a<x
    · rw [if_pos c]
      simp only
      rw [Ew n0 l hl xs (pre++[x]) x n (by rw [h1]; simp) (.inr ⟨by simp,by rcases ha with ⟨_,rfl⟩ | ⟨_,h0⟩ <;> omega⟩) (by simp at h2; omega)]
      simp [sD,c]
    · rw [if_neg c]
      simp [sD,c]
theorem Hc (n:Nat) (l:List Int) (hl:l.length≤1000) (hn:l.length<n):nj n l=some (sD (-1) l):=by
  unfold nj
  have:=Ew n l hl l [] (-1) n rfl (.inl ⟨rfl,rfl⟩) hn
  rw [show (([]:List Int).length:Int)=0 from rfl] at this
  rw [this]
  cases sD (-1) l <;> rfl
def kE (l:List Int) (at_:Int):Bool:=sD (-1) l&&(match l.getLast? with | none=>true | some x=>decide (x<at_))
theorem Hd (l:List Int) (h:l≠[]) (hl:l.length≤1000):ax l (al .i64 (l.length:Int) 1)=l.getLast?:=by
  have:=List.length_pos_iff.2 h
  rw [Cs _ (by omega) (by omega),i4,List.getLast?_eq_getElem?]
theorem xC (l:List Int) (at_:Int) (hl:l.length≤1000):(if sD (-1) l=true then if ((l.length:Int)==0)=true then some true else (ax l (al .i64 (l.length:Int) 1)).bind fun x4=>some (decide (x4<at_)) else some false)=some (kE l at_):=by
  unfold kE
  cases hr:sD (-1) l with
  | false=>simp
  | true =>
    cases l with
    | nil=>rfl
    | cons x l =>
      rw [if_pos rfl,if_neg (by simp; omega),Hd _ (by simp) hl]
      have hs:(x::l).getLast?=some ((x::l).getLast (by simp)):=List.getLast?_eq_some_getLast (by simp)
      rw [hs]
      simp
theorem DD (n:Nat) (l:List Int) (at_:Int) (hl:l.length≤1000) (hn:l.length<n):eZ n l at_=some (kE l at_):=by
  unfold eZ
  rw [Hb n l hl hn]
  exact xC l at_ hl
theorem DF (n:Nat) (l:List Int) (at_:Int) (hl:l.length≤1000) (hn:l.length<n):li n l at_=some (kE l at_):=by
  unfold li
  rw [Hc n l hl hn]
  exact xC l at_ hl
theorem He (n0:Nat) (l m:List Int) (hl:l.length≤1000) (hlm:l.length=m.length):∀ (xs pre ys:List Int) (n:Nat),l=pre++xs→m=pre++ys→xs.length<n →
    iter (fun s=>bi n0 l m s) n (pre.length:Int)=some (if xs=ys then .inl () else .inr ())
  | _,_,_,0,_,_,h=>by omega
  | [],pre,ys,n + 1,h1,h2,h3=>by
    rw [aQ]
    have:bi n0 l m (pre.length:Int)=some (.inr (.inl ())):=by
      unfold bi
      rw [if_neg (by simp [h1])]
    rw [this]
    have:ys=[]:=by rw [h1,h2] at hlm; simp at hlm; exact hlm
    rw [this]
    rfl
  | x::xs,pre,[],n + 1,h1,h2,h3=>by rw [h1,h2] at hlm; simp at hlm
  | x::xs,pre,y::ys,n + 1,h1,h2,h3=>by
    rw [aQ]
    have hx:ax l (pre.length:Int)=some x:=by rw [i4,h1]; simp
    have hy:ax m (pre.length:Int)=some y:=by rw [i4,h2]; simp
    have hlen:pre.length<l.length:=by rw [h1]; simp
    have hs:bi n0 l m (pre.length:Int)=if x=y then some (.inl ((pre++[x]).length:Int)) else some (.inr (.inr ())):=by
      unfold bi
      rw [if_pos (by simp; omega),hx]
      simp only [Option.bind_some]
      rw [hy]
      simp only [Option.bind_some]
      rw [bU _ (by omega)]
      by_cases c:x=y
      · rw [if_pos c,if_neg (by simp [c])]; simp
      · rw [if_neg c,if_pos (by simp [c])]
    rw [hs]
    by_cases c:x=y
    · rw [if_pos c]
      subst c
      simp only
      rw [He n0 l m hl hlm xs (pre++[x]) ys n (by rw [h1]; simp) (by rw [h2]; simp) (by simp at h3; omega)]
      simp
    · rw [if_neg c]
      simp [c]
theorem O_ (n:Nat) (l m:List Int) (hl:l.length≤1000) (hn:l.length<n):bF n l m=some (decide (l=m)):=by
  unfold bF
  by_cases h:l.length=m.length
  · rw [if_neg (by simp; omega)]
    have:=He n l m hl h l [] m n rfl rfl hn
    rw [show (([]:List Int).length:Int)=0 from rfl] at this
    rw [this]
    by_cases c:l=m
    · rw [if_pos c]; simp [c]
    · rw [if_neg c]; simp [c]
  · rw [if_pos (by simp; omega)]
    have:l≠m:=fun e=>h (by rw [e])
    simp [this]
def small (e:Event):Prop:=e.Deps.Addr.length≤60∧e.Deps.Data.length≤60∧e.Deps.Way.length≤60
def AS (e:Event):aL:=aL.mk e.Hart e.At e.Kind e.Pred e.Succ e.Pair e.Addr e.Load e.Store e.Aq e.Rl
def pI (a b:Event):Bool:=decide (a.Deps.Addr=b.Deps.Addr)&&(decide (a.Deps.Data=b.Deps.Data)&&(decide (a.Deps.Way=b.Deps.Way)&&aL.beq (AS a) (AS b)))
theorem La (n:Nat) (a b:Event) (ha:small a) (hn:100≤n):iz n a b=some (pI a b):=by
  unfold small at ha
  unfold iz i5
  rw [O_ n _ _ (by omega) (by omega),O_ n _ _ (by omega) (by omega),O_ n _ _ (by omega) (by omega)]
  unfold pI AS
  simp only [Option.bind_some]
  generalize decide (a.Deps.Addr=b.Deps.Addr)=b1
  generalize decide (a.Deps.Data=b.Deps.Data)=b2
  generalize decide (a.Deps.Way=b.Deps.Way)=b3
  generalize aL.beq _ _=b4
  cases b1 <;> cases b2 <;> cases b3 <;> cases b4 <;> rfl
def kF (k:Int):Int:=if k=1 then 1 else if k=2 then 2 else if k=3 then 5 else if k=4 then 14 else if k=5 then 7 else if k=6 then 16 else 0
theorem JS (n:Nat) (k:Int):lf n k=some (kF k):=by
  unfold lf kF
  simp only [decide_eq_true_eq,beq_iff_eq]
  by_cases h1:k<1
  · rw [if_pos h1,if_neg (by omega),if_neg (by omega),if_neg (by omega),if_neg (by omega),if_neg (by omega),if_neg (by omega)]
  rw [if_neg h1]
  by_cases h6:k>6
  · rw [if_pos h6,if_neg (by omega),if_neg (by omega),if_neg (by omega),if_neg (by omega),if_neg (by omega),if_neg (by omega)]
  rw [if_neg h6,if_neg (by omega)]
  have:k=1∨k=2∨k=3∨k=4∨k=5∨k=6:=by omega
  rcases this with rfl | rfl | rfl | rfl | rfl | rfl <;> rfl
def qz (e:Event) (s p:Bool):Bool :=
  decide (0≤e.Hart)&&(decide (e.Hart<8)&&(decide (0≤e.At)&&(s&&(decide (ri .u64 e.Addr 8=0)&&(decide (0≤e.Pred)&&(decide (e.Pred≤15)&&(decide (0≤e.Succ)&&(decide (e.Succ≤15) &&
    ((!p||(decide (0≤e.Pair)&&decide (e.Pair<e.At)))&&(kE e.Deps.Addr e.At&&(kE e.Deps.Data e.At&&kE e.Deps.Way e.At)))))))))))
theorem Q5 (n:Nat) (e:Event) (hv:Int) (h0:hv≠0) (he:small e) (hn:100≤n) (sf:Int×(List Int)×(List Int)×(List Int)×Int×Int×Int×Bool×Bool×Int×Int) (hs:sf.2.1.length≤60∧sf.2.2.1.length≤60∧sf.2.2.2.1.length≤60) :
    du n e hv sf=some (if qz e (pI (Event.mk e.Hart e.At e.Kind sf.2.2.2.2.1 sf.2.2.2.2.2.1 sf.2.2.2.2.2.2.1 sf.2.2.2.2.2.2.2.1 sf.2.2.2.2.2.2.2.2.1 sf.2.2.2.2.2.2.2.2.2.1 sf.2.2.2.2.2.2.2.2.2.2 sf.1 (Deps.mk sf.2.1 sf.2.2.1 sf.2.2.2.1)) e) ((bV .u64 hv 8) != 0)=true then 0 else 2):=by
  have hsm:=he
  unfold small at hsm
  unfold du
  have hsame:=La n (Event.mk e.Hart e.At e.Kind sf.2.2.2.2.1 sf.2.2.2.2.2.1 sf.2.2.2.2.2.2.1 sf.2.2.2.2.2.2.2.1 sf.2.2.2.2.2.2.2.2.1 sf.2.2.2.2.2.2.2.2.2.1 sf.2.2.2.2.2.2.2.2.2.2 sf.1 (Deps.mk sf.2.1 sf.2.2.1 sf.2.2.2.1)) e hs hn
  rw [if_neg (by simpa using h0),hsame,DD n _ _ (by omega) (by omega),DD n _ _ (by omega) (by omega),DD n _ _ (by omega) (by omega)]
  unfold qz
  generalize pI _ e=s
  generalize kE e.Deps.Addr e.At=b1
  generalize kE e.Deps.Data e.At=b2
  generalize kE e.Deps.Way e.At=b3
  generalize ((bV .u64 hv 8) != 0)=p
  simp only [Option.bind_some,decide_eq_true_eq,bne_iff_ne]
  by_cases c1:e.Hart<0
  · rw [if_pos c1]; simp; omega
  rw [if_neg c1]
  by_cases c2:e.Hart≥8
  · rw [if_pos c2]; simp; omega
  rw [if_neg c2]
  by_cases c3:e.At<0
  · rw [if_pos c3]; simp; omega
  rw [if_neg c3]
  cases s with
  | false=>simp
  | true =>
  simp only [Bool.not_true,Bool.false_eq_true,if_false]
  by_cases c4:ri .u64 e.Addr 8=0
  case neg=>rw [if_pos (by simpa using c4)]; simp [c4]
  rw [if_neg (by simpa using c4)]
  by_cases c5:e.Pred<0
  · rw [if_pos c5]; simp; omega
  rw [if_neg c5]
  by_cases c6:e.Pred>15
  · rw [if_pos c6]; simp; omega
  rw [if_neg c6]
  by_cases c7:e.Succ<0
  · rw [if_pos c7]; simp; omega
  rw [if_neg c7]
  by_cases c8:e.Succ>15
  · rw [if_pos c8]; simp; omega
  rw [if_neg c8]
  have d1:decide (0≤e.Hart)=true:=by simp; omega
  have d2:decide (e.Hart<8)=true:=by simp; omega
  have d3:decide (0≤e.At)=true:=by simp; omega
  have d4:decide (ri .u64 e.Addr 8=0)=true:=by simpa using c4
  have d5:decide (0≤e.Pred)=true:=by simp; omega
  have d6:decide (e.Pred≤15)=true:=by simp; omega
  have d7:decide (0≤e.Succ)=true:=by simp; omega
  have d8:decide (e.Succ≤15)=true:=by simp; omega
  rw [d1,d2,d3,d4,d5,d6,d7,d8]
  simp only [Bool.true_and]
  cases p with
  | false =>
    simp only [Bool.false_eq_true,if_false,Bool.not_false,Bool.true_or,Bool.true_and]
    cases b1 <;> cases b2 <;> cases b3 <;> rfl
  | true =>
    simp only [if_true,Bool.not_true,Bool.false_or]
    by_cases c9:e.Pair<0
    · rw [if_pos c9]
      have:decide (0≤e.Pair)=false:=by simp; omega
      rw [this]; rfl
    rw [if_neg c9]
    have d9:decide (0≤e.Pair)=true:=by simp; omega
    rw [d9]
    by_cases c10:e.Pair≥e.At
    · rw [if_pos c10]
      have:decide (e.Pair<e.At)=false:=by simp; omega
      rw [this]; rfl
    rw [if_neg c10]
    have d10:decide (e.Pair<e.At)=true:=by simp; omega
    rw [d10]
    cases b1 <;> cases b2 <;> cases b3 <;> rfl
/-- What an event of its kind has. -/
def sE (e:Event):Event :=
  let h:=kF e.Kind
  let f:=(bV .u64 h 16) != 0
  let r:=(bV .u64 h 1) != 0
  let w:=(bV .u64 h 2) != 0
  let m:=(bV .u64 h 4) != 0
  let p:=(bV .u64 h 8) != 0
  Event.mk e.Hart e.At e.Kind (if f=true then 0 else e.Addr) (if r=true then e.Load else 0) (if w=true then e.Store else 0) (if m=true then e.Aq else false) (if m=true then e.Rl else false) (if f=true then e.Pred else 0) (if f=true then e.Succ else 0) (if p=true then e.Pair else 0)
    (Deps.mk (if f=true then [] else e.Deps.Addr) (if w=true then e.Deps.Data else []) (if f=true then [] else e.Deps.Way))
def yy (e:Event):Bool:=decide (kF e.Kind≠0)&&qz e (pI (sE e) e) ((bV .u64 (kF e.Kind) 8) != 0)
theorem Ct {α:Type} (x:Option α):(x.bind fun t=>some t)=x:=by cases x <;> rfl
theorem Q6 (n:Nat) (e:Event) (h:Int) (s:(List Int)×(List Int)×(List Int)×Int×Int×Int×Bool×Bool×Int×Int):dV n e h s=du n e h (if ((bV .u64 h 8) != 0)=true then e.Pair else 0,s.1,s.2.1,s.2.2.1,s.2.2.2.1,s.2.2.2.2.1,s.2.2.2.2.2.1,s.2.2.2.2.2.2.1,s.2.2.2.2.2.2.2.1,s.2.2.2.2.2.2.2.2.1,s.2.2.2.2.2.2.2.2.2):=by
  unfold dV
  simp only [Ct]
  split <;> rfl
theorem Q7 (n:Nat) (e:Event) (h:Int) (s:(List Int)×(List Int)×(List Int)×Int×Int×Int×Int×Int):dW n e h s=dV n e h (s.1,s.2.1,s.2.2.1,s.2.2.2.1,s.2.2.2.2.1,s.2.2.2.2.2.1,(if ((bV .u64 h 4) != 0)=true then e.Aq else false),(if ((bV .u64 h 4) != 0)=true then e.Rl else false),s.2.2.2.2.2.2.1,s.2.2.2.2.2.2.2):=by
  unfold dW
  simp only [Ct]
  split <;> rfl
theorem Q8 (n:Nat) (e:Event) (h:Int) (s:(List Int)×(List Int)×Int×Int×Int×Int):dX n e h s=dW n e h (s.1,(if ((bV .u64 h 2) != 0)=true then e.Deps.Data else []),s.2.1,s.2.2.1,s.2.2.2.1,(if ((bV .u64 h 2) != 0)=true then e.Store else 0),s.2.2.2.2.1,s.2.2.2.2.2):=by
  unfold dX
  simp only [Ct]
  split <;> rfl
theorem Q9 (n:Nat) (e:Event) (h:Int) (s:(List Int)×(List Int)×Int×Int×Int):dY n e h s=dX n e h (s.1,s.2.1,s.2.2.1,(if ((bV .u64 h 1) != 0)=true then e.Load else 0),s.2.2.2.1,s.2.2.2.2):=by
  unfold dY
  simp only [Ct]
  split <;> rfl
theorem Q_ (n:Nat) (e:Event):kh n e=dY n e (kF e.Kind) ((if ((bV .u64 (kF e.Kind) 16) != 0)=true then [] else e.Deps.Addr),(if ((bV .u64 (kF e.Kind) 16) != 0)=true then [] else e.Deps.Way),(if ((bV .u64 (kF e.Kind) 16) != 0)=true then 0 else e.Addr),(if ((bV .u64 (kF e.Kind) 16) != 0)=true then e.Pred else 0),(if ((bV .u64 (kF e.Kind) 16) != 0)=true then e.Succ else 0)):=by
  unfold kh
  rw [JS]
  simp only [Option.bind_some,Ct]
  split <;> rfl
theorem Hf (n:Nat) (e:Event) (he:small e) (hn:100≤n):kh n e=some (if yy e=true then 0 else 2):=by
  rw [Q_,Q9,Q8,Q7,Q6]
  by_cases h0:kF e.Kind=0
  · have hd:yy e=false:=by unfold yy; simp [h0]
    rw [hd]
    unfold du
    rw [if_pos (by simpa using h0)]
    rfl
  · have hsm:=he
    unfold small at hsm
    have hi:∀ (c:Bool) (l:List Int),l.length≤60→(if c=true then l else []).length≤60:=fun c l h=>by cases c <;> simp [h]
    have hj:∀ (c:Bool) (l:List Int),l.length≤60→(if c=true then [] else l).length≤60:=fun c l h=>by cases c <;> simp [h]
    refine (Q5 n e _ h0 he hn _ ?_).trans ?_
    · refine ⟨?_,?_,?_⟩
      · exact hj _ _ hsm.1
      · exact hi _ _ hsm.2.1
      · exact hj _ _ hsm.2.2
    have ho:yy e=qz e (pI (sE e) e) ((bV .u64 (kF e.Kind) 8) != 0):=by
      unfold yy
      rw [decide_eq_true h0]
      exact Bool.true_and _
    rw [ho]
    unfold sE
    dsimp only
theorem JU (n:Nat) (b:Bool):af n b=some (if b=true then 0 else 2):=by
  cases b <;> rfl
def Cu (k:Int):Bool:=k==1||(k==3||k==5)
def va (k:Int):Bool:=k==2||(k==4||k==5)
theorem xD (n:Nat) (e:Event):lh n e=some (Cu e.Kind):=by
  unfold lh Cu
  by_cases h1:(e.Kind==1)=true
  · rw [if_pos h1,h1]; rfl
  · rw [if_neg h1,Bool.eq_false_iff.2 h1]
    by_cases h3:(e.Kind==3)=true
    · rw [if_pos h3,h3]; rfl
    · rw [if_neg h3,Bool.eq_false_iff.2 h3]; rfl
theorem nW (n:Nat) (e:Event):fj n e=some (va e.Kind):=by
  unfold fj va
  by_cases h1:(e.Kind==2)=true
  · rw [if_pos h1,h1]; rfl
  · rw [if_neg h1,Bool.eq_false_iff.2 h1]
    by_cases h3:(e.Kind==4)=true
    · rw [if_pos h3,h3]; rfl
    · rw [if_neg h3,Bool.eq_false_iff.2 h3]; rfl
theorem AT (n:Nat) (e:Event):gz n e=some (Cu e.Kind||va e.Kind):=by
  unfold gz
  rw [xD,nW]
  cases Cu e.Kind <;> rfl
theorem Pb (n:Nat) (e:Event) (b:Bool) (he:small e) (hn:100≤n):bk n e b=some (b&&(kE e.Deps.Addr e.At&&(kE e.Deps.Data e.At&&(kE e.Deps.Way e.At&&(va e.Kind||decide (e.Deps.Data=[])))))):=by
  unfold small at he
  unfold bk
  rw [DF n _ _ (by omega) (by omega),DF n _ _ (by omega) (by omega),DF n _ _ (by omega) (by omega),nW]
  have hd:((e.Deps.Data.length:Int)==0)=decide (e.Deps.Data=[]):=by
    cases e.Deps.Data with
    | nil=>rfl
    | cons x l=>simp; omega
  rw [hd]
  cases b <;> cases kE e.Deps.Addr e.At <;> cases kE e.Deps.Data e.At <;> cases kE e.Deps.Way e.At <;> cases va e.Kind <;> rfl
def qA (e:Event):Bool:=(decide (e.Kind=4)&&(decide (0≤e.Pair)&&decide (e.Pair<e.At)))||(decide (e.Kind≠4)&&decide (e.Pair=0))
theorem Pd (n:Nat) (e:Event) (b:Bool):bP n e b=bk n e (b&&qA e):=by
  unfold bP qA
  have hb:∀ x:Option Bool,(x.bind fun t=>some t)=x:=fun x=>by cases x <;> rfl
  simp only [hb]
  cases b with
  | false=>rfl
  | true =>
    simp only [if_true,Bool.true_and]
    by_cases h4:e.Kind=4
    · rw [if_pos (by simpa using h4)]
      by_cases h0:e.Pair≥0
      · rw [if_pos (by simpa using h0)]
        by_cases h5:e.Pair<e.At
        · rw [if_pos (by simpa using h5)]
          have:(decide (e.Kind=4)&&(decide (0≤e.Pair)&&decide (e.Pair<e.At))||decide (e.Kind≠4)&&decide (e.Pair=0))=true:=by simp [h4,h5]; omega
          rw [this]
        · rw [if_neg (by simpa using h5),if_neg (by simp [h4])]
          have:(decide (e.Kind=4)&&(decide (0≤e.Pair)&&decide (e.Pair<e.At))||decide (e.Kind≠4)&&decide (e.Pair=0))=false:=by simp [h4,h5]
          rw [this]
      · rw [if_neg (by simpa using h0),if_neg (by simp [h4])]
        have:(decide (e.Kind=4)&&(decide (0≤e.Pair)&&decide (e.Pair<e.At))||decide (e.Kind≠4)&&decide (e.Pair=0))=false:=by simp [h4]; omega
        rw [this]
    · rw [if_neg (by simpa using h4),if_pos (by simpa using h4)]
      have:(decide (e.Kind=4)&&(decide (0≤e.Pair)&&decide (e.Pair<e.At))||decide (e.Kind≠4)&&decide (e.Pair=0))=(e.Pair==0):=by simp [h4]; rfl
      rw [this]
def mV (e:Event):Bool:=(decide (e.Kind≠1)&&decide (e.Kind≠2))||(!e.Aq&&!e.Rl)
theorem Pe (n:Nat) (e:Event) (b:Bool):au n e b=bP n e (b&&mV e):=by
  unfold au mV
  have hb:∀ x:Option Bool,(x.bind fun t=>some t)=x:=fun x=>by cases x <;> rfl
  simp only [hb]
  cases b with
  | false=>rfl
  | true =>
    simp only [if_true,Bool.true_and]
    by_cases h1:e.Kind=1
    · rw [if_neg (by simp [h1])]
      simp only [h1,ne_eq,not_true_eq_false,decide_false,Bool.false_and,Bool.false_or]
      cases e.Aq <;> rfl
    · rw [if_pos (by simpa using h1)]
      by_cases h2:e.Kind=2
      · rw [if_neg (by simp [h2])]
        simp only [h2,ne_eq,not_true_eq_false,decide_false,Bool.and_false,Bool.false_or]
        cases e.Aq <;> rfl
      · rw [if_pos (by simpa using h2)]
        simp [h1,h2]
/-- There is an answer, and it is so. -/
def T {α:Type} (x:Option α) (P:α→Prop):Prop:=∃ r,x=some r∧P r
theorem T.ret {α:Type} {a:α} {P:α→Prop} (h:P a):T (some a) P:=⟨a,rfl,h⟩
theorem T.bind {α β:Type} {x:Option α} {f:α→Option β} {P:α→Prop} {Q:β→Prop} (h:T x P) (k:∀ r,P r→T (f r) Q):T (x.bind f) Q:=by
  obtain ⟨r,e,p⟩:=h
  rw [e]
  exact k r p
theorem T.eqb {α β:Type} {x:Option α} {f:α→Option β} {a:α} {Q:β→Prop} (h:x=some a) (k:T (f a) Q):T (x.bind f) Q:=by
  rw [h]
  exact k
theorem T.ite {α:Type} {b:Bool} {x y:Option α} {Q:α→Prop} (h1:b=true→T x Q) (h2:b=false→T y Q):T (if b=true then x else y) Q:=by
  cases b
  · exact h2 rfl
  · exact h1 rfl
theorem T.grd {α:Type} {b:Bool} {x:Option α} {Q:α→Prop} (h:b=true) (k:T x Q):T (grd b x) Q:=by
  rw [fx h]
  exact k
theorem T.imp {α:Type} {x:Option α} {P Q:α→Prop} (h:T x P) (k:∀ r,P r→Q r):T x Q:=by
  obtain ⟨r,e,p⟩:=h
  exact ⟨r,e,k r p⟩
theorem Ey {α:Type} {l:List α} {i:Int} {k:Nat} (hi:i=(k:Int)) (h:k<l.length):ax l i=some l[k]:=by
  rw [hi,i4,List.getElem?_eq_getElem h]
theorem T.get {α β:Type} {l:List α} {i:Int} {f:α→Option β} {Q:β→Prop} (k:Nat) (hi:i=(k:Int)) (h:k<l.length) (g:T (f l[k]) Q):T ((ax l i).bind f) Q:=T.eqb (Ey hi h) g
/-- A round's end. -/
def Rd {σ τ:Type} (P:σ→Prop) (Q:τ→Prop):σ⊕τ→Prop
  | .inl s=>P s
  | .inr t=>Q t
theorem T.fin {σ τ:Type} {P:σ→Prop} {Q:τ→Prop} {t:τ} (h:Q t):T (some (.inr t:σ⊕τ)) (Rd P Q):=T.ret h
theorem T.next {σ τ:Type} {P:σ→Prop} {Q:τ→Prop} {s:σ} (h:P s):T (some (.inl s:σ⊕τ)) (Rd P Q):=T.ret h
/-- So many rounds at most; St tells what is so at the beginning of each. -/
theorem T.loopFrom {σ τ:Type} {step:σ→Option (σ⊕τ)} (N:Nat) (St:Nat→σ→Prop) (Post:τ→Prop)
    (hs:∀ i s,i≤N→St i s→T (step s) (Rd (fun s'=>i<N∧St (i + 1) s') Post)):∀ (n i:Nat) (s:σ),i≤N→St i s→N - i<n→T (iter step n s) Post
  | 0,_,_,_,_,h=>by omega
  | n + 1,i,s,hi,h0,h=>by
    rw [aQ]
    obtain ⟨r,e,p⟩:=hs i s hi h0
    rw [e]
    cases r with
    | inl s'=>exact T.loopFrom N St Post hs n (i + 1) s' p.1 p.2 (by have:=p.1; omega)
    | inr t=>exact T.ret p
theorem T.loop {σ τ:Type} {step:σ→Option (σ⊕τ)} (N:Nat) (St:Nat→σ→Prop) (Post:τ→Prop)
    (hs:∀ i s,i≤N→St i s→T (step s) (Rd (fun s'=>i<N∧St (i + 1) s') Post)) {n:Nat} {s:σ} (h0:St 0 s) (hn:N<n):T (iter step n s) Post :=
  T.loopFrom N St Post hs n 0 s (Nat.zero_le _) h0 hn
def ou (e:Event):Bool:=mV e&&(qA e&&(kE e.Deps.Addr e.At&&(kE e.Deps.Data e.At&&(kE e.Deps.Way e.At&&(va e.Kind||decide (e.Deps.Data=[]))))))
theorem IT (n:Nat) (e:Event) (b:Bool) (he:small e) (hn:100≤n):au n e b=some (b&&ou e):=by
  rw [Pe,Pd,Pb n e _ he hn]
  unfold ou
  simp only [Bool.and_assoc]
theorem ov (b:Bool) (Q:Prop):T (some (if (false&&b)=true then (0:Int) else 2)) (fun r=>r=0→Q):=T.ret (fun h=>by simp at h)
theorem jX (Q:Prop):T (some (if false=true then (0:Int) else 2)) (fun r=>r=0→Q):=T.ret (fun h=>by simp at h)
theorem PL:kF 1=1:=rfl
theorem CF:kF 2=2:=rfl
theorem IU:kF 3=5:=rfl
theorem Lb:kF 4=14:=rfl
theorem PM:kF 5=7:=rfl
theorem PN:kF 6=16:=rfl
def bits:Int→List Bool
  | h=>[(bV .u64 h 16) != 0,(bV .u64 h 1) != 0,(bV .u64 h 2) != 0,(bV .u64 h 4) != 0,(bV .u64 h 8) != 0]
theorem b1:bits 1=[false,true,false,false,false]:=by decide +kernel
theorem b2:bits 2=[false,false,true,false,false]:=by decide +kernel
theorem b5:bits 5=[false,true,false,true,false]:=by decide +kernel
theorem Lc:bits 14=[false,false,true,true,true]:=by decide +kernel
theorem b7:bits 7=[false,true,true,true,false]:=by decide +kernel
theorem Ld:bits 16=[true,false,false,false,false]:=by decide +kernel
theorem b0:bits 0=[false,false,false,false,false]:=by decide +kernel
theorem kinds (k:Int):k=1∨k=2∨k=3∨k=4∨k=5∨k=6∨(kF k=0∧Cu k=false∧va k=false):=by
  by_cases h:k=1∨k=2∨k=3∨k=4∨k=5∨k=6
  · omega
  · have:kF k=0:=by unfold kF; rw [if_neg (by omega),if_neg (by omega),if_neg (by omega),if_neg (by omega),if_neg (by omega),if_neg (by omega)]
    refine .inr (.inr (.inr (.inr (.inr (.inr ⟨this,?_,?_⟩)))))
    · unfold Cu; simp; omega
    · unfold va; simp; omega
theorem AU (n:Nat) (e:Event):ki n e=some (Cu e.Kind):=by
  unfold ki
  rw [JS]
  have h:∀ h:Int,bits h=[(bV .u64 h 16) != 0,(bV .u64 h 1) != 0,(bV .u64 h 2) != 0,(bV .u64 h 4) != 0,(bV .u64 h 8) != 0]:=fun _=>rfl
  have g:∀ (l:List Bool) (h:Int),bits h=l→((bV .u64 h 1) != 0)=l[1]! := fun l h e=>by rw [← e]; rfl
  simp only [Option.bind_some]
  congr 1
  rcases kinds e.Kind with k | k | k | k | k | k | ⟨k,k2,_⟩
  · rw [k,PL,g _ _ b1]; rfl
  · rw [k,CF,g _ _ b2]; rfl
  · rw [k,IU,g _ _ b5]; rfl
  · rw [k,Lb,g _ _ Lc]; rfl
  · rw [k,PM,g _ _ b7]; rfl
  · rw [k,PN,g _ _ Ld]; rfl
  · rw [k,k2,g _ _ b0]; rfl
theorem sF (n:Nat) (e:Event):fG n e=some (va e.Kind):=by
  unfold fG
  rw [JS]
  have g:∀ (l:List Bool) (h:Int),bits h=l→((bV .u64 h 2) != 0)=l[2]! := fun l h e=>by rw [← e]; rfl
  simp only [Option.bind_some]
  congr 1
  rcases kinds e.Kind with k | k | k | k | k | k | ⟨k,_,k2⟩
  · rw [k,PL,g _ _ b1]; rfl
  · rw [k,CF,g _ _ b2]; rfl
  · rw [k,IU,g _ _ b5]; rfl
  · rw [k,Lb,g _ _ Lc]; rfl
  · rw [k,PM,g _ _ b7]; rfl
  · rw [k,PN,g _ _ Ld]; rfl
  · rw [k,k2,g _ _ b0]; rfl
def oG (k:Int):Bool:=Cu k||va k
theorem Cv (n:Nat) (e:Event):i8 n e=some (oG e.Kind):=by
  unfold i8 oG
  rw [AU,sF]
  cases Cu e.Kind <;> rfl
theorem Pf (a:aL):aL.beq a a=true:=by unfold aL.beq; simp
/-- What an event is like, by the bits of its kind. -/
theorem tJ (e:Event) (f r w m p:Bool) (h0:kF e.Kind≠0) (hb:bits (kF e.Kind)=[f,r,w,m,p])
    (h1:f=true→e.Addr=0∧e.Deps.Addr=[]∧e.Deps.Way=[]) (h2:r=false→e.Load=0) (h3:w=false→e.Store=0∧e.Deps.Data=[]) (h4:m=false→e.Aq=false∧e.Rl=false)
    (h5:f=false→e.Pred=0∧e.Succ=0) (h6:p=false→e.Pair=0) (h:qz e true p=true):yy e=true:=by
  unfold bits at hb
  injection hb with hb1 hb
  injection hb with hb2 hb
  injection hb with hb3 hb
  injection hb with hb4 hb
  injection hb with hb5 _
  have hw:sE e=e:=by
    unfold sE
    simp only [hb1,hb2,hb3,hb4,hb5]
    obtain ⟨ht,at_,k,ad,lo,st,aq,rl,pr,su,pa,⟨da,dd,dw⟩⟩:=e
    dsimp only at *
    have e1:(if f=true then (0:Int) else ad)=ad:=by cases f <;> simp at *; exact h1.1.symm
    have e2:(if r=true then lo else 0)=lo:=by cases r <;> simp at *; exact h2.symm
    have e3:(if w=true then st else 0)=st:=by cases w <;> simp at *; exact h3.1.symm
    have e4:(if m=true then aq else false)=aq:=by cases m <;> simp at *; rw [h4.1]
    have e5:(if m=true then rl else false)=rl:=by cases m <;> simp at *; rw [h4.2]
    have e6:(if f=true then pr else 0)=pr:=by cases f <;> simp at *; exact h5.1.symm
    have e7:(if f=true then su else 0)=su:=by cases f <;> simp at *; exact h5.2.symm
    have e8:(if p=true then pa else 0)=pa:=by cases p <;> simp at *; exact h6.symm
    have e9:(if f=true then [] else da)=da:=by cases f <;> simp at *; exact h1.2.1
    have e10:(if w=true then dd else [])=dd:=by cases w <;> simp at *; exact h3.2
    have e11:(if f=true then [] else dw)=dw:=by cases f <;> simp at *; exact h1.2.2
    rw [e1,e2,e3,e4,e5,e6,e7,e8,e9,e10,e11]
  have hs:pI (sE e) e=true:=by
    rw [hw]
    unfold pI
    rw [Pf]
    simp
  unfold yy
  rw [hs,hb5,h,decide_eq_true h0]
  rfl
theorem JV (a:Int):kE [] a=true:=rfl
theorem Ia (e:Event) (hk:e.Kind=6) (g1:0≤e.Hart) (g2:e.Hart<8) (g3:0≤e.At) (h1:e.Addr=0) (h2:e.Load=0) (h3:e.Store=0) (h4:e.Aq=false) (h5:e.Rl=false) (h6:e.Pair=0)
    (h7:e.Deps.Addr=[]) (h8:e.Deps.Data=[]) (h9:e.Deps.Way=[]) (p1:0≤e.Pred) (p2:e.Pred≤15) (s1:0≤e.Succ) (s2:e.Succ≤15):yy e=true:=by
  refine tJ e true false false false false (by rw [hk]; decide) (by rw [hk]; exact Ld) (fun _=>⟨h1,h7,h9⟩) (fun _=>h2) (fun _=>⟨h3,h8⟩) (fun _=>⟨h4,h5⟩) (fun h=>by simp at h) (fun _=>h6) ?_
  unfold qz
  rw [h7,h8,h9,JV,h1]
  have:ri .u64 0 8=0:=rfl
  simp [g1,g2,g3,p1,p2,s1,s2,this]
theorem Lf (e:Event) (g1:0≤e.Hart) (g2:e.Hart<8) (g3:0≤e.At) (hk:(Cu e.Kind||va e.Kind)=true) (h1:ri .u64 e.Addr 8=0) (h2:Cu e.Kind=true∨e.Load=0) (h3:va e.Kind=true∨e.Store=0)
    (p1:e.Pred=0) (p2:e.Succ=0) (hr:ou e=true):yy e=true:=by
  unfold ou at hr
  simp only [Bool.and_eq_true,Bool.or_eq_true,decide_eq_true_eq] at hr
  obtain ⟨m1,m2,d1,d2,d3,d4⟩:=hr
  have ht:∀ p:Bool,(p=true→0≤e.Pair∧e.Pair<e.At)→qz e true p=true:=by
    intro p hp
    unfold qz
    rw [d1,d2,d3,p1,p2]
    cases p with
    | false=>simp [g1,g2,g3,h1]
    | true=>simp [g1,g2,g3,h1,hp rfl]
  unfold mV at m1
  unfold qA at m2
  rcases kinds e.Kind with k | k | k | k | k | k | ⟨k,k1,k2⟩
  · refine tJ e false true false false false (by rw [k]; decide) (by rw [k]; exact b1) (fun h=>by simp at h) (fun h=>by simp at h) (fun _=>⟨?_,?_⟩) (fun _=>?_) (fun _=>⟨p1,p2⟩) (fun _=>?_) (ht _ (fun h=>by simp at h))
    · rw [k] at h3; simpa [va] using h3
    · rw [k] at d4; simpa [va] using d4
    · rw [k] at m1; simpa using m1
    · rw [k] at m2; simpa using m2
  · refine tJ e false false true false false (by rw [k]; decide) (by rw [k]; exact b2) (fun h=>by simp at h) (fun _=>?_) (fun h=>by simp at h) (fun _=>?_) (fun _=>⟨p1,p2⟩) (fun _=>?_) (ht _ (fun h=>by simp at h))
    · rw [k] at h2; simpa [Cu] using h2
    · rw [k] at m1; simpa using m1
    · rw [k] at m2; simpa using m2
  · refine tJ e false true false true false (by rw [k]; decide) (by rw [k]; exact b5) (fun h=>by simp at h) (fun h=>by simp at h) (fun _=>⟨?_,?_⟩) (fun h=>by simp at h) (fun _=>⟨p1,p2⟩) (fun _=>?_) (ht _ (fun h=>by simp at h))
    · rw [k] at h3; simpa [va] using h3
    · rw [k] at d4; simpa [va] using d4
    · rw [k] at m2; simpa using m2
  · refine tJ e false false true true true (by rw [k]; decide) (by rw [k]; exact Lc) (fun h=>by simp at h) (fun _=>?_) (fun h=>by simp at h) (fun h=>by simp at h) (fun _=>⟨p1,p2⟩) (fun h=>by simp at h) (ht _ (fun _=>?_))
    · rw [k] at h2; simpa [Cu] using h2
    · rw [k] at m2; simpa using m2
  · refine tJ e false true true true false (by rw [k]; decide) (by rw [k]; exact b7) (fun h=>by simp at h) (fun h=>by simp at h) (fun h=>by simp at h) (fun h=>by simp at h) (fun _=>⟨p1,p2⟩) (fun _=>?_) (ht _ (fun h=>by simp at h))
    rw [k] at m2; simpa using m2
  · rw [k] at hk; simp [Cu,va] at hk
  · rw [k1,k2] at hk; simp at hk
theorem Pg (e:Event) (h:yy e=true):kF e.Kind≠0:=by
  unfold yy at h
  simp only [Bool.and_eq_true,decide_eq_true_eq] at h
  exact h.1
theorem JW {l:List Int} (h:(l.length:Int)=0):l=[]:=by
  cases l with
  | nil=>rfl
  | cons x l=>simp at h; omega
theorem JX (n:Nat) (e:Event) (he:small e) (hn:100≤n):T (fJ n e) (fun r=>r=0→yy e=true):=by
  have hsm:=he
  unfold small at hsm
  unfold fJ
  simp only [AT,xD,nW,Option.bind_some,IT n e _ he hn,JU]
  refine T.ite (fun c1=>?_) (fun _=>by repeat' (first | exact ov _ _ | exact jX _ | (refine T.ite (fun _=>?_) (fun _=>?_))))
  refine T.ite (fun c2=>?_) (fun _=>by repeat' (first | exact ov _ _ | exact jX _ | (refine T.ite (fun _=>?_) (fun _=>?_))))
  have g1:0≤e.Hart:=by simpa using c1
  have g2:e.Hart<8:=by simpa using c2
  refine T.ite (fun c3=>?_) (fun _=>?_)
  · have k6:e.Kind=6:=by simpa using c3
    refine T.ite (fun d1=>?_) (fun _=>jX _)
    refine T.ite (fun d2=>?_) (fun _=>jX _)
    refine T.ite (fun d3=>?_) (fun _=>jX _)
    refine T.ite (fun d4=>?_) (fun _=>jX _)
    refine T.ite (fun d5=>?_) (fun _=>jX _)
    refine T.ite (fun d6=>?_) (fun _=>jX _)
    refine T.ite (fun d7=>?_) (fun _=>jX _)
    refine T.ite (fun d8=>?_) (fun _=>jX _)
    refine T.ite (fun d9=>?_) (fun _=>jX _)
    refine T.ite (fun d10=>?_) (fun _=>jX _)
    refine T.ite (fun d11=>?_) (fun _=>jX _)
    refine T.ret (fun h=>?_)
    by_cases d12:e.Succ≤15
    case neg=>simp [d12] at h
    rw [addN _ _ (by omega),addN _ _ (by omega)] at d8
    have d8':((e.Deps.Addr.length + e.Deps.Data.length + e.Deps.Way.length:Nat):Int)=0:=by simpa using d8
    exact Ia e k6 g1 g2 (by simpa using d1) (by simpa using d2) (by simpa using d3) (by simpa using d4) (by simpa using d5) (by simpa using d6) (by simpa using d7) (JW (by omega)) (JW (by omega)) (JW (by omega)) (by simpa using d9) (by simpa using d10) (by simpa using d11) d12
  · refine T.ite (fun d1=>?_) (fun _=>ov _ _)
    refine T.ite (fun d2=>?_) (fun _=>ov _ _)
    refine T.ite (fun d3=>?_) (fun _=>ov _ _)
    have fin:(Cu e.Kind=true∨(e.Load==0)=true)→(va e.Kind=true∨(e.Store==0)=true)→(e.Pred==0)=true→T (some (if ((e.Succ==0)&&ou e)=true then (0:Int) else 2)) (fun r=>r=0→yy e=true):=by
      intro f1 f2 f3
      refine T.ret (fun h=>?_)
      by_cases f4:e.Succ=0∧ou e=true
      · exact Lf e g1 g2 (by simpa using d1) d2 (by simpa using d3) (by simpa using f1) (by simpa using f2) (by simpa using f3) f4.1 f4.2
      · rw [if_neg (by simpa using f4)] at h
        simp at h
    refine T.ite (fun r1=>?_) (fun _=>?_)
    · refine T.ite (fun w1=>?_) (fun _=>?_)
      · exact T.ite (fun p1=>fin (.inl r1) (.inl w1) p1) (fun _=>ov _ _)
      · refine T.ite (fun w1=>?_) (fun _=>ov _ _)
        exact T.ite (fun p1=>fin (.inl r1) (.inr w1) p1) (fun _=>ov _ _)
    · refine T.ite (fun r1=>?_) (fun _=>ov _ _)
      refine T.ite (fun w1=>?_) (fun _=>?_)
      · exact T.ite (fun p1=>fin (.inr r1) (.inl w1) p1) (fun _=>ov _ _)
      · refine T.ite (fun w1=>?_) (fun _=>ov _ _)
        exact T.ite (fun p1=>fin (.inr r1) (.inr w1) p1) (fun _=>ov _ _)
theorem Hg (e:Event) (h:yy e=true):0≤e.Hart∧e.Hart<8∧0≤e.At∧0≤e.Pred∧0≤e.Succ∧(e.Kind=4→0≤e.Pair∧e.Pair<e.At)∧kE e.Deps.Addr e.At=true∧kE e.Deps.Data e.At=true∧kE e.Deps.Way e.At=true:=by
  unfold yy qz at h
  simp only [Bool.and_eq_true,decide_eq_true_eq,Bool.or_eq_true] at h
  obtain ⟨_,h1,h2,h3,_,_,h4,_,h5,_,h6,h7,h8,h9⟩:=h
  refine ⟨h1,h2,h3,h4,h5,fun k=>?_,h7,h8,h9⟩
  rcases h6 with h6 | h6
  · rw [k,Lb] at h6
    have:((bV .u64 14 8) != 0)=true:=by decide +kernel
    rw [this] at h6
    simp at h6
  · exact h6
def Hh (l:List Event) (k:Nat) (hk:k<l.length):Prop :=
  ∃ p:Nat,∃ hp:p<k,l[k].Pair=(p:Int)∧l[p].Kind=3∧l[p].Addr=l[k].Addr∧∀ j:Nat,p<j→∀ hj:j<k,l[j].Kind≠3∧l[j].Kind≠4
def Lg (h:Int) (l:List Event) (k:Nat) (hk:k<l.length):Prop:=yy l[k]=true∧l[k].Hart=h∧l[k].At=(k:Int)∧(l[k].Kind=4→Hh l k hk)
def rowP (h:Int) (l:List Event):Prop:=∀ (k:Nat) (hk:k<l.length),Lg h l k hk
def smalls (l:List Event):Prop:=l.length≤100∧∀ e∈l,small e
theorem Ib (n:Nat) (h:Int) (l:List Event) (hl:smalls l) (hn:200≤n):T (nk n h l) (fun r=>r=0→rowP h l):=by
  have hll:=hl.1
  unfold nk
  refine T.bind (P:=fun r=>match r with | .inl _=>rowP h l | .inr _=>True) ?_ (fun r hr=>by
    cases r with
    | inl _=>exact T.ret (fun _=>hr)
    | inr _=>exact T.ret (fun h=>by simp at h))
  refine T.loop l.length (fun i s=>s=(i:Int)∧∀ k (_:k<i) (hk:k<l.length),Lg h l k hk) _ ?_ ⟨rfl,fun k hk=>by omega⟩ (by omega)
  rintro i s hi ⟨rfl,hq⟩
  unfold lw
  refine T.ite (fun c=>?_) (fun c=>?_)
  case _=>
    have hil:i<l.length:=by
      have:(i:Int)<l.length:=by simpa using c
      omega
    refine T.get i rfl hil ?_
    refine T.bind (JX n l[i] (hl.2 _ (List.getElem_mem hil)) (by omega)) (fun r hr=>?_)
    refine T.ite (fun _=>T.ret trivial) (fun c1=>?_)
    have ok:=hr (by simpa using c1)
    refine T.ite (fun _=>T.ret trivial) (fun c2=>?_)
    have hh:l[i].Hart=h:=by simpa using c2
    refine T.ite (fun _=>T.ret trivial) (fun c3=>?_)
    have ha:l[i].At=(i:Int):=by simpa using c3
    have next:∀ (_:l[i].Kind=4→Hh l i hil) (j:Int),j=(i:Int)→T (some (.inl (ae .i64 j 1):Int⊕(Unit⊕Unit))) (Rd (fun s'=>i<l.length∧(s'=((i + 1:Nat):Int)∧∀ k (_:k<i + 1) (hk:k<l.length),Lg h l k hk)) (fun r=>match r with | .inl _=>rowP h l | .inr _=>True)):=by
      rintro hp j rfl
      refine T.ret ⟨hil,bU _ (by omega),fun k hk hkl=>?_⟩
      by_cases e:k=i
      · subst e
        exact ⟨ok,hh,ha,hp⟩
      · exact hq k (by omega) hkl
    refine T.ite (fun c4=>next (fun e=>by rw [e] at c4; simp at c4) _ rfl) (fun c4=>?_)
    have k4:l[i].Kind=4:=by simpa using c4
    obtain ⟨p1,p2⟩:=(Hg _ ok).2.2.2.2.2.1 k4
    obtain ⟨p,hp⟩:∃ p:Nat,l[i].Pair=(p:Int):=⟨l[i].Pair.toNat,by omega⟩
    have hpi:p<i:=by omega
    refine T.get p hp (by omega) ?_
    refine T.ite (fun _=>T.ret trivial) (fun c5=>?_)
    have k3:l[p].Kind=3:=by simpa using c5
    refine T.ite (fun _=>T.ret trivial) (fun c6=>?_)
    have hA:l[p].Addr=l[i].Addr:=by simpa using c6
    refine T.bind (P:=fun (r:(Int×Bool×Int)⊕Unit)=>match r with | .inl w=>w.2.2=(i:Int)∧∀ j:Nat,p<j→∀ hj:j<i,l[j].Kind≠3∧l[j].Kind≠4 | .inr _=>True) ?_ (fun r hr=>by
      cases r with
      | inl w =>
        obtain ⟨g1,g2⟩:w.2.2=(i:Int)∧∀ j:Nat,p<j→∀ hj:j<i,l[j].Kind≠3∧l[j].Kind≠4:=hr
        exact next (fun _=>⟨p,hpi,hp,k3,hA,g2⟩) _ g1
      | inr _=>exact T.ret trivial)
    refine T.loop i (fun m s=>s.2.2.1=(i:Int)∧s.2.2.2=((p + 1 + m:Nat):Int)∧∀ j:Nat,p<j→j<p + 1 + m→∀ hj:j<i,l[j].Kind≠3∧l[j].Kind≠4) _ ?_ ⟨rfl,by rw [hp]; exact bU p (by omega),fun j h1 h2=>by omega⟩ (by omega)
    rintro m ⟨s1,s2,s3,s4⟩ hm ⟨e3,e4,hs⟩
    dsimp only at e3 e4
    subst e3 e4
    unfold lv
    refine T.ite (fun c=>?_) (fun c=>?_)
    · have hm2:p + 1 + m<i:=by
        have:((p + 1 + m:Nat):Int)<(i:Int):=by simpa using c
        omega
      refine T.get (p + 1 + m) rfl (by omega) ?_
      refine T.ite (fun _=>T.ret trivial) (fun k1=>?_)
      refine T.ite (fun _=>T.ret trivial) (fun k2=>?_)
      refine T.ret ⟨by omega,rfl,bU _ (by omega),fun j h1 h2 hj=>?_⟩
      by_cases e:j=p + 1 + m
      · subst e
        exact ⟨by simpa using k1,by simpa using k2⟩
      · exact hs j h1 (by omega) hj
    · have hm2:¬ p + 1 + m<i:=by
        have:¬ ((p + 1 + m:Nat):Int)<(i:Int):=by simpa using c
        omega
      exact T.ret ⟨rfl,fun j h1 hj=>hs j h1 (by omega) hj⟩
  · have:¬ (i:Int)<l.length:=by simpa using c
    exact T.ret (fun k hk=>hq k (by omega) hk)
theorem JY (n:Nat) (h:Int) (l:List Event) (hl:smalls l) (hn:200≤n) (hr:rowP h l):jI n h l=some 0:=by
  have hll:=hl.1
  have:T (jI n h l) (fun r=>r=0):=by
    unfold jI
    refine T.bind (P:=fun r=>match r with | .inl _=>True | .inr _=>False) ?_ (fun r hr=>by
      cases r with
      | inl _=>exact T.ret rfl
      | inr _=>exact hr.elim)
    refine T.loop l.length (fun i s=>s.1=(i:Int)∧∀ p:Nat,p<i→∀ hp:p<l.length,l[p].Kind=3→(∀ j:Nat,p<j→j<i→∀ hj:j<l.length,l[j].Kind≠3∧l[j].Kind≠4)→s.2=(p:Int)) _ ?_ ⟨rfl,fun p hp=>by omega⟩ (by omega)
    rintro i ⟨s1,s2⟩ hi ⟨e1,hq⟩
    dsimp only at e1 hq
    subst e1
    unfold i6
    refine T.ite (fun c=>?_) (fun c=>T.ret trivial)
    have hil:i<l.length:=by
      have:(i:Int)<l.length:=by simpa using c
      omega
    obtain ⟨ok,hh,ha,hp⟩:=hr i hil
    refine T.get i rfl hil ?_
    refine T.eqb (Hf n l[i] (hl.2 _ (List.getElem_mem hil)) (by omega)) ?_
    rw [if_pos ok]
    refine T.ite (fun c1=>by simp at c1) (fun _=>?_)
    refine T.ite (fun c1=>by simp [hh] at c1) (fun _=>?_)
    refine T.ite (fun c1=>by simp [ha] at c1) (fun _=>?_)
    refine T.ite (fun c3=>?_) (fun c3=>?_)
    · have k3:l[i].Kind=3:=by simpa using c3
      refine T.ret ⟨hil,bU _ (by omega),fun p h1 h2 h3 h4=>?_⟩
      by_cases e:p=i
      · rw [e]
      · exact absurd k3 (h4 i (by omega) (by omega) hil).1
    have k3:l[i].Kind≠3:=by simpa using c3
    refine T.ite (fun c4=>?_) (fun c4=>?_)
    · have k4:l[i].Kind=4:=by simpa using c4
      obtain ⟨p,hpi,e1,e2,e3,e4⟩:=hp k4
      have hs2:s2=(p:Int):=hq p hpi (by omega) e2 (fun j h1 h2 _=>e4 j h1 h2)
      refine T.ite (fun c5=>by simp [e1,hs2] at c5) (fun _=>?_)
      refine T.get p hs2 (by omega) ?_
      refine T.ite (fun c5=>by simp [e3] at c5) (fun _=>?_)
      refine T.ret ⟨hil,bU _ (by omega),fun p h1 h2 h3 h4=>?_⟩
      by_cases e:p=i
      · subst e; exact absurd h3 k3
      · exact absurd k4 (h4 i (by omega) (by omega) hil).2
    · have k4:l[i].Kind≠4:=by simpa using c4
      refine T.ret ⟨hil,bU _ (by omega),fun p h1 h2 h3 h4=>?_⟩
      by_cases e:p=i
      · subst e; exact absurd h3 k3
      · exact hq p (by omega) h2 h3 (fun j g1 g2 hj=>h4 j g1 (by omega) hj)
  obtain ⟨r,h1,h2⟩:=this
  rw [h1,h2]
def kO (l:List Cell):Prop:=∀ (k:Nat) (hk:k<l.length),∀ h0:0<k,l[k - 1].Addr<l[k].Addr
theorem zI (n:Nat) (l:List Cell) (hl:l.length≤100) (hn:200≤n):T (lg n l) (fun b=>b=true→kO l):=by
  unfold lg
  refine T.bind (P:=fun (r:Unit⊕Unit)=>match r with | .inl _=>kO l | .inr _=>True) ?_ (fun r hr=>by
    cases r with
    | inl _=>exact T.ret (fun _=>hr)
    | inr _=>exact T.ret (fun h=>by simp at h))
  refine T.loop l.length (fun i s=>s=(i:Int)∧∀ (k:Nat) (_:k<i) (hk:k<l.length),∀ h0:0<k,l[k - 1].Addr<l[k].Addr) _ ?_ ⟨rfl,fun k hk=>by omega⟩ (by omega)
  rintro i s hi ⟨rfl,hq⟩
  unfold kV
  refine T.ite (fun c=>?_) (fun c=>?_)
  · have hil:i<l.length:=by
      have:(i:Int)<l.length:=by simpa using c
      omega
    refine T.get i rfl hil ?_
    refine T.ite (fun _=>T.ret trivial) (fun c1=>?_)
    refine T.ite (fun c2=>?_) (fun c2=>?_)
    · have h0:0<i:=by simpa using c2
      refine T.get (i - 1) (Cs i (by omega) (by omega)) (by omega) ?_
      refine T.ite (fun _=>T.ret trivial) (fun c3=>?_)
      refine T.ret ⟨hil,bU _ (by omega),fun k hk hkl h=>?_⟩
      by_cases e:k=i
      · subst e
        have:=of_decide_eq_false c3
        omega
      · exact hq k (by omega) hkl h
    · have h0:¬ 0<i:=by simpa using c2
      refine T.ret ⟨hil,bU _ (by omega),fun k hk hkl h=>?_⟩
      omega
  · have:¬ (i:Int)<l.length:=by simpa using c
    exact T.ret (fun k hk h=>hq k (by omega) hk h)
theorem xE (n:Nat) (l:List Cell):jH n l=lg n l:=rfl
theorem cells_lt {l:List Cell} (h:kO l):∀ (j k:Nat) (hj:j<l.length) (hk:k<l.length),j<k→l[j].Addr<l[k].Addr:=by
  intro j k
  induction k with
  | zero=>intros; omega
  | succ k ih =>
    intro hj hk hjk
    have h1:=h (k + 1) hk (by omega)
    simp only [Nat.add_sub_cancel] at h1
    by_cases e:j=k
    · subst e; exact h1
    · have:=ih hj (by omega) (by omega)
      omega
def tK (l:List Cell) (a v:Int):Prop:=(∃ k:Nat,∃ hk:k<l.length,l[k].Addr=a∧v=l[k].Value)∨((∀ (k:Nat) (hk:k<l.length),l[k].Addr≠a)∧v=0)
theorem DG {l:List Cell} (h:kO l) {a v w:Int} (h1:tK l a v) (h2:tK l a w):v=w:=by
  rcases h1 with ⟨k,hk,e1,e2⟩ | ⟨e1,e2⟩
  · rcases h2 with ⟨j,hj,f1,f2⟩ | ⟨f1,f2⟩
    · by_cases h3:k<j
      · have:=cells_lt h k j hk hj h3; omega
      by_cases h4:j<k
      · have:=cells_lt h j k hj hk h4; omega
      have:k=j:=by omega
      subst this
      rw [e2,f2]
    · exact absurd e1 (f1 k hk)
  · rcases h2 with ⟨j,hj,f1,f2⟩ | ⟨f1,f2⟩
    · exact absurd f1 (e1 j hj)
    · rw [e2,f2]
theorem Hi (n:Nat) (l:List Cell) (a:Int) (hl:l.length≤100) (hn:200≤n):T (lj n l a) (tK l a):=by
  unfold lj
  refine T.bind (P:=fun (r:Unit⊕Int)=>match r with | .inl _=>tK l a 0 | .inr w=>tK l a w) ?_ (fun r hr=>by
    cases r with
    | inl _=>exact T.ret hr
    | inr _=>exact T.ret hr)
  refine T.loop l.length (fun i s=>s=(i:Int)∧∀ (k:Nat) (_:k<i) (hk:k<l.length),l[k].Addr≠a) _ ?_ ⟨rfl,fun k hk=>by omega⟩ (by omega)
  rintro i s hi ⟨rfl,hq⟩
  unfold kW
  refine T.ite (fun c=>?_) (fun c=>?_)
  · have hil:i<l.length:=by
      have:(i:Int)<l.length:=by simpa using c
      omega
    refine T.get i rfl hil ?_
    refine T.ite (fun c1=>T.ret (.inl ⟨i,hil,by simpa using c1,rfl⟩)) (fun c1=>?_)
    refine T.ret ⟨hil,bU _ (by omega),fun k hk hkl=>?_⟩
    by_cases e:k=i
    · subst e; simpa using c1
    · exact hq k (by omega) hkl
  · have:¬ (i:Int)<l.length:=by simpa using c
    exact T.ret (.inr ⟨fun k hk=>hq k (by omega) hk,rfl⟩)
theorem mid (a b:Nat) (h:a + b≤100000):IntKind.wrap .i64 (bL .u64 (IntKind.wrap .u64 (ae .i64 (a:Int) (b:Int))) 1)=(((a + b) / 2:Nat):Int):=by
  rw [addN _ _ (by omega),FS (by omega) (by omega)]
  have:bL .u64 ((a + b:Nat):Int) 1=(((a + b) / 2:Nat):Int):=by
    unfold bL
    rw [show (2:Int) ^ (min (Int.toNat 1) IntKind.u64.bits)=2 from rfl,Int.fdiv_eq_ediv_of_nonneg _ (by omega)]
    omega
  rw [this,yz (by omega) (by omega)]
def AW (x y:Int):Int:=if x<y then -1 else if x>y then 1 else 0
theorem Ph (n:Nat) (x y:Int):fF n x y=some (AW x y):=by
  unfold fF dJ AW
  have h:∀ z:Int,(z != z)=false:=by simp
  rw [h,h]
  simp only [Option.bind_some,Bool.false_eq_true,if_false,decide_eq_true_eq]
  by_cases c:x<y
  · rw [if_pos c,if_pos c]
  · rw [if_neg c,if_neg c]
    by_cases d:x>y
    · rw [if_pos d,if_pos d]
    · rw [if_neg d,if_neg d]
theorem Ez (n:Nat) (x:Cell) (a:Int):i7 n x a=some (AW x.Addr a):=by
  unfold i7
  rw [Ph]
  rfl
theorem DI (n:Nat) (l:List Cell) (a:Int) (h:kO l) (hl:l.length≤100) (hn:200≤n):T (jJ n l a) (tK l a):=by
  unfold jJ bT
  have key:T (iter (fun s=>aK n l a s) n ((l.length:Int),0)) (fun t=>∃ k:Nat,t=(k:Int)∧k≤l.length∧(∀ j (_:j<k) (hj:j<l.length),l[j].Addr<a)∧(∀ j (_:k≤j) (hj:j<l.length),a≤l[j].Addr)):=by
    refine T.loop l.length (fun i s=>∃ lo hi:Nat,s=((hi:Int),(lo:Int))∧lo≤hi∧hi≤l.length∧hi - lo≤l.length - i∧(∀ j (_:j<lo) (hj:j<l.length),l[j].Addr<a)∧(∀ j (_:hi≤j) (hj:j<l.length),a≤l[j].Addr)) _ ?_ ⟨0,l.length,rfl,by omega,by omega,by omega,fun j h=>by omega,fun j h=>by omega⟩ (by omega)
    rintro i s hi ⟨lo,hi,rfl,h1,h2,h3,h4,h5⟩
    unfold aK
    refine T.ite (fun c=>?_) (fun c=>?_)
    · have hlt:lo<hi:=by
        have:(lo:Int)<(hi:Int):=by simpa using c
        omega
      dsimp only
      rw [mid lo hi (by omega)]
      refine T.get ((lo + hi) / 2) rfl (by omega) ?_
      refine T.eqb (Ez _ _ _) ?_
      refine T.ite (fun c1=>?_) (fun c1=>?_)
      · have hl1:l[(lo + hi) / 2].Addr<a:=by
          unfold AW at c1
          by_cases e:l[(lo + hi) / 2].Addr<a
          · exact e
          · rw [if_neg e] at c1
            split at c1 <;> simp at c1
        refine T.ret ⟨by omega,(lo + hi) / 2 + 1,hi,by rw [bU _ (by omega)],by omega,by omega,by omega,fun j g hj=>?_,h5⟩
        by_cases e:j=(lo + hi) / 2
        · subst e; exact hl1
        · have:=cells_lt h j ((lo + hi) / 2) hj (by omega) (by omega)
          omega
      · have hl1:a≤l[(lo + hi) / 2].Addr:=by
          unfold AW at c1
          by_cases e:l[(lo + hi) / 2].Addr<a
          · rw [if_pos e] at c1
            simp at c1
          · omega
        refine T.ret ⟨by omega,lo,(lo + hi) / 2,rfl,by omega,by omega,by omega,h4,fun j g hj=>?_⟩
        by_cases e:j=(lo + hi) / 2
        · subst e; exact hl1
        · have:=cells_lt h ((lo + hi) / 2) j (by omega) hj (by omega)
          omega
    · have hge:¬ lo<hi:=by
        have:¬ (lo:Int)<(hi:Int):=by simpa using c
        omega
      have e:lo=hi:=by omega
      subst e
      exact T.ret ⟨lo,rfl,h2,h4,h5⟩
  refine T.bind (P:=fun (y:Int×Bool)=>(y.2=true→∃ k:Nat,y.1=(k:Int)∧∃ hk:k<l.length,l[k].Addr=a)∧(y.2=false→∀ (k:Nat) (hk:k<l.length),l[k].Addr≠a)) ?_ ?_
  · refine T.bind key ?_
    rintro t ⟨k,rfl,h1,h2,h3⟩
    refine T.ite (fun c=>?_) (fun c=>?_)
    · have hk:k<l.length:=by
        have:(k:Int)<l.length:=by simpa using c
        omega
      refine T.get k rfl hk ?_
      refine T.eqb (Ez _ _ _) ?_
      refine T.ret ⟨fun e=>⟨k,rfl,hk,?_⟩,fun e j hj=>?_⟩
      · have e':AW l[k].Addr a=0:=by simpa using e
        unfold AW at e'
        split at e'
        · simp at e'
        · split at e'
          · simp at e'
          · omega
      · have e':AW l[k].Addr a≠0:=by simpa using e
        have hne:l[k].Addr≠a:=by
          intro e2
          apply e'
          unfold AW
          rw [if_neg (by omega),if_neg (by omega)]
        by_cases f:j<k
        · have:=h2 j f hj; omega
        · by_cases g:j=k
          · subst g; exact hne
          · have:=cells_lt h k j hk hj (by omega)
            have:=h3 k (by omega) hk
            omega
    · have hk:¬ k<l.length:=by
        have:¬ (k:Int)<l.length:=by simpa using c
        omega
      refine T.ret ⟨fun e=>by simp at e,fun _ j hj=>?_⟩
      have:=h2 j (by omega) hj
      omega
  · rintro ⟨y1,y2⟩ ⟨h1,h2⟩
    dsimp only at h1 h2 ⊢
    cases y2 with
    | false=>exact T.ret (.inr ⟨h2 rfl,rfl⟩)
    | true =>
      obtain ⟨k,rfl,hk,e⟩:=h1 rfl
      refine T.ite (fun c=>by simp at c) (fun _=>?_)
      exact T.get k rfl hk (T.ret (.inl ⟨k,hk,e,rfl⟩))
theorem uO (n:Nat) (l:List Cell) (a:Int) (h:kO l) (hl:l.length≤100) (hn:200≤n):jJ n l a=lj n l a:=by
  obtain ⟨v,e1,p1⟩:=DI n l a h hl hn
  obtain ⟨w,e2,p2⟩:=Hi n l a hl hn
  rw [e1,e2,DG h p1 p2]
theorem zJ (n:Nat) (c:ai) (all:List Event) (k:Int) (h:kO c.First) (hl:c.First.length≤100) (hn:200≤n):fy n c all k=eP n c all k:=by
  unfold fy eP
  simp only [AU,xD,sF,nW,uO n _ _ h hl hn]
def FL (l:List (List Event)) (i:Nat):List Event:=(l.take i).flatten
theorem fT {l:List (List Event)} {i:Nat} (h:i<l.length):FL l (i + 1)=FL l i++l[i]:=by
  unfold FL
  rw [List.take_succ_eq_append_getElem h,List.flatten_append]
  simp
theorem kP (l:List (List Event)) {i:Nat} (h:l.length≤i):FL l i=l.flatten:=by
  unfold FL
  rw [List.take_of_length_le h]
theorem sG (l:List (List Event)):FL l 0=[]:=rfl
theorem Lh (l:List (List Event)) (i:Nat):(FL l i).length≤l.flatten.length:=by
  have:l.flatten=FL l i++(l.drop i).flatten:=by
    unfold FL
    rw [← List.flatten_append,List.take_append_drop]
  rw [this,List.length_append]
  omega
theorem jz {l:List (List Event)} {i:Nat} (h:i<l.length):(FL l i).length + l[i].length≤l.flatten.length:=by
  have:=Lh l (i + 1)
  rw [fT h,List.length_append] at this
  exact this
/-- Not many events, harts, cells. -/
structure gJ (c:ai):Prop where
  harts:c.Harts.length≤9
  all:c.Harts.flatten.length≤60
  first:c.First.length≤60
  from_:c.From.length≤120
  order:c.Order.length≤120
  rows:∀ l∈c.Harts,smalls l
theorem ej {i:Nat} {m:Nat} (c:decide ((i:Int)<(m:Int))=true):i<m:=by
  have:(i:Int)<m:=by simpa using c
  omega
theorem eu {i:Nat} {m:Nat} (c:decide ((i:Int)<(m:Int))=false):m≤i:=by
  have:¬ (i:Int)<m:=by simpa using c
  omega
theorem fB {a b:Nat} (h:a≤b):Nat.ble a b=true:=by simpa using h
theorem copy_ (n:Nat) (d:Deps) (h:d.Addr.length≤60∧d.Data.length≤60∧d.Way.length≤60):rm n d=some d:=by
  unfold rm
  rw [fx (fB (by omega)),fx (fB (by omega)),fx (fB (by omega))]
theorem EA (n:Nat) (c:ai) (hc:gJ c) (hn:200≤n):lx n c=some c.Harts.flatten:=by
  have hh:=hc.harts
  have hf:=hc.all
  have key:T (lx n c) (fun r=>r=c.Harts.flatten):=by
    unfold lx
    refine T.bind (P:=fun r=>r=c.Harts.flatten) ?_ (fun r hr=>T.ret hr)
    refine T.loop c.Harts.length (fun i s=>s=(FL c.Harts i,(i:Int))) _ ?_ rfl (by omega)
    rintro i s hi rfl
    unfold mg
    refine T.ite (fun cd=>?_) (fun cd=>T.ret (kP _ (eu cd)))
    have hil:=ej cd
    have hrow:=hc.rows _ (List.getElem_mem hil)
    have hr:=jz hil
    refine T.bind (P:=fun r=>r=(FL c.Harts (i + 1),(i:Int))) ?_ (fun r hr=>by
      subst hr
      refine T.ret ⟨hil,?_⟩
      dsimp only
      rw [bU _ (by omega)])
    refine T.loop c.Harts[i].length (fun k s=>s=(FL c.Harts i++c.Harts[i].take k,(i:Int),(k:Int))) _ ?_ (by simp) (by omega)
    rintro k s hk rfl
    unfold md
    refine T.get i rfl hil ?_
    refine T.ite (fun cd=>?_) (fun cd=>?_)
    · have hkl:=ej cd
      refine T.get k rfl hkl ?_
      refine T.eqb (copy_ n _ (hrow.2 _ (List.getElem_mem hkl))) ?_
      refine T.grd (fB (by simp only [List.length_append,List.length_take]; omega)) ?_
      refine T.ret ⟨hkl,?_⟩
      dsimp only
      rw [bU _ (by omega),List.take_succ_eq_append_getElem hkl,List.append_assoc]
    · refine T.fin ?_
      dsimp only
      rw [List.take_of_length_le (eu cd),fT hil]
  obtain ⟨r,h1,h2⟩:=key
  rw [h1,h2]
theorem Ic (n:Nat) (c:ai) (hc:gJ c) (hn:200≤n):bQ n c.Harts=some c.Harts.flatten:=by
  have hh:=hc.harts
  have hf:=hc.all
  have key:T (bQ n c.Harts) (fun r=>r=c.Harts.flatten):=by
    unfold bQ
    refine T.bind (P:=fun r=>r=(c.Harts.flatten.length:Int)) ?_ ?_
    · refine T.loop c.Harts.length (fun i s=>s=((i:Int),((FL c.Harts i).length:Int))) _ ?_ rfl (by omega)
      rintro i s hi rfl
      unfold cg
      refine T.ite (fun cd=>?_) (fun cd=>T.fin (by dsimp only; rw [kP _ (eu cd)]))
      have hil:=ej cd
      have hr:=jz hil
      refine T.get i rfl hil ?_
      dsimp only
      rw [addN _ _ (by omega)]
      refine T.ite (fun c1=>?_) (fun _=>?_)
      · have:((((FL c.Harts i).length + c.Harts[i].length:Nat)):Int)<0:=by simpa using c1
        omega
      · refine T.ret ⟨hil,?_⟩
        rw [bU _ (by omega),fT hil,List.length_append]
    rintro _ rfl
    unfold cq
    generalize hz:(Event.mk 0 0 0 0 0 0 false false 0 0 0 (Deps.mk ([]:List Int) ([]:List Int) ([]:List Int)))=z
    have h0:¬ (c.Harts.flatten.length:Int)<0:=by omega
    have hsub:al .i64 (c.Harts.flatten.length:Int) 0=(c.Harts.flatten.length:Int):=by rw [vz (by omega) (by omega)]; omega
    rw [if_neg (by simp),hsub]
    by_cases hp:0<c.Harts.flatten.length
    · rw [if_pos (decide_eq_true (by omega))]
      rw [fx (by simp [Nat.blt,-List.length_flatten]; omega),fx (by simp)]
      refine T.eqb rfl ?_
      refine T.bind (P:=fun t=>t.1=c.Harts.flatten.length∧t.2.2.take c.Harts.flatten.length=c.Harts.flatten) ?_ (fun t ht=>T.ret (by
        dsimp only
        rw [ht.1,List.drop_zero,ht.2]))
      refine T.loop c.Harts.length (fun i s=>s.1=(FL c.Harts i).length∧s.2.1=c.Harts.flatten.length - (FL c.Harts i).length∧s.2.2.1.length=c.Harts.flatten.length∧s.2.2.1.take (FL c.Harts i).length=FL c.Harts i∧s.2.2.2=(i:Int)) _ ?_ ⟨rfl,by simp [sG],by simp,by simp [sG],rfl⟩ (by omega)
      rintro i ⟨s1,s2,s3,s4⟩ hi ⟨e1,e2,e3,e4,e5⟩
      dsimp only at e1 e2 e3 e4 e5
      subst e1 e2 e5
      unfold ch
      refine T.ite (fun cd=>?_) (fun cd=>?_)
      · have hil:=ej cd
        have hr:=jz hil
        refine T.get i rfl hil ?_
        refine T.grd (fB (by dsimp only; omega)) ?_
        refine T.grd (fB (by dsimp only; omega)) ?_
        dsimp only
        refine T.ret ⟨hil,?_⟩
        dsimp only
        rw [fT hil,List.length_append]
        refine ⟨rfl,by omega,?_,?_,bU _ (by omega)⟩
        · simp only [List.length_append,List.length_take,List.length_drop]
          omega
        · rw [Nat.zero_add,e4,← List.append_assoc,List.take_append_of_le_length (by simp),List.take_of_length_le (by simp)]
      · refine T.ret ⟨by dsimp only; rw [kP _ (eu cd)],?_⟩
        dsimp only
        rw [kP _ (eu cd)] at e4
        exact e4
    · rw [if_neg (by rw [decide_eq_false (by omega)]; exact Bool.false_ne_true)]
      refine T.eqb rfl ?_
      have hL:T (iter (fun s=>bD n c.Harts s) n (([]:List Event),0)) (fun r=>r=c.Harts.flatten):=by
        refine T.loop c.Harts.length (fun i s=>s=(FL c.Harts i,(i:Int))) _ ?_ rfl (by omega)
        rintro i s hi rfl
        unfold bD
        refine T.ite (fun cd=>?_) (fun cd=>T.fin (by dsimp only; rw [kP _ (eu cd)]))
        have hil:=ej cd
        have hr:=jz hil
        refine T.get i rfl hil ?_
        refine T.grd (fB (by dsimp only; omega)) ?_
        refine T.ret ⟨hil,?_⟩
        dsimp only
        rw [bU _ (by omega),fT hil]
      exact T.bind hL (fun r hr=>T.ret hr)
  obtain ⟨r,h1,h2⟩:=key
  rw [h1,h2]
theorem xF (n:Nat) (c:ai) (hc:gJ c) (hn:200≤n):iK n c.First c.Harts c.From c.Order=some c.Harts.flatten:=by
  unfold iK
  rw [Ic n c hc hn]
  rfl
theorem Hj (n:Nat) (c:ai) (m:Nat) (hm:m≤60) (hn:200≤n):T (ig n c (m:Int)) (fun b=>b=true→gJ c∧c.Harts.flatten.length≤m):=by
  have hev:∀ l:List Event,T (iv n l (m:Int)) (fun b=>b=true→smalls l∧l.length≤m):=by
    intro l
    unfold iv
    refine T.ite (fun _=>T.ret (fun h=>by simp at h)) (fun c1=>?_)
    have hl:l.length≤m:=by
      have:¬ (l.length:Int)>(m:Int):=of_decide_eq_false c1
      omega
    refine T.bind (P:=fun (r:Unit⊕Unit)=>match r with | .inl _=>∀ e∈l,small e | .inr _=>True) ?_ (fun r hr=>by
      cases r with
      | inl _=>exact T.ret (fun _=>⟨⟨by omega,hr⟩,hl⟩)
      | inr _=>exact T.ret (fun h=>by simp at h))
    refine T.loop l.length (fun i s=>s=(i:Int)∧∀ (k:Nat) (_:k<i) (hk:k<l.length),small l[k]) _ ?_ ⟨rfl,fun k hk=>by omega⟩ (by omega)
    rintro i s hi ⟨rfl,hq⟩
    unfold fI
    refine T.ite (fun cd=>?_) (fun cd=>?_)
    · have hil:=ej cd
      refine T.get i rfl hil ?_
      refine T.bind (P:=fun b=>b=true→small l[i]) ?_ ?_
      · unfold mF
        refine T.ite (fun d1=>?_) (fun _=>T.ret (fun h=>by simp at h))
        refine T.ite (fun d2=>?_) (fun _=>T.ret (fun h=>by simp at h))
        refine T.ret (fun d3=>?_)
        have d1:=of_decide_eq_true d1
        have d2:=of_decide_eq_true d2
        have d3:=of_decide_eq_true d3
        unfold small
        omega
      · intro b hb
        refine T.ite (fun _=>T.ret trivial) (fun c2=>?_)
        refine T.ret ⟨hil,bU _ (by omega),fun k hk hkl=>?_⟩
        by_cases e:k=i
        · subst e
          exact hb (by simpa using c2)
        · exact hq k (by omega) hkl
    · have:=eu cd
      refine T.ret (fun e he=>?_)
      obtain ⟨k,hk,rfl⟩:=List.getElem_of_mem he
      exact hq k (by omega) hk
  unfold ig
  refine T.bind (P:=fun (r:Int⊕Unit)=>match r with | .inl w=>c.Harts.length≤9→(w=(c.Harts.flatten.length:Int)∧∀ l∈c.Harts,smalls l) | .inr _=>True) ?_ ?_
  · refine T.loop 10 (fun i s=>i≤c.Harts.length∧s=(((FL c.Harts i).length:Int),(i:Int))∧(FL c.Harts i).length≤100 * i∧∀ (k:Nat) (_:k<i) (hk:k<c.Harts.length),smalls c.Harts[k]) _ ?_ ⟨by omega,rfl,by simp [sG],fun k hk=>by omega⟩ (by omega)
    rintro i s hi ⟨hi2,rfl,hs,hq⟩
    unfold gN
    have fin:c.Harts.length≤i→∀ l∈c.Harts,smalls l:=fun h l hl=>by
      obtain ⟨k,hk,rfl⟩:=List.getElem_of_mem hl
      exact hq k (by omega) hk
    refine T.ite (fun cd=>?_) (fun cd=>?_)
    · have hil:=ej cd
      refine T.ite (fun cd2=>?_) (fun cd2=>?_)
      · have hi10:i<10:=ej (m:=10) cd2
        refine T.get i rfl hil ?_
        refine T.bind (hev _) (fun b hb=>?_)
        refine T.ite (fun _=>T.ret trivial) (fun c2=>?_)
        have hb':=hb (by simpa using c2)
        dsimp only
        refine T.ret ⟨hi10,hil,?_,?_,fun k hk hkl=>?_⟩
        · rw [bU _ (by omega),addN _ _ (by omega),fT hil,List.length_append]
        · rw [fT hil,List.length_append]
          omega
        · by_cases e:k=i
          · subst e
            exact hb'.1
          · exact hq k (by omega) hkl
      · have:10≤i:=eu (m:=10) cd2
        exact T.ret (fun h=>by omega)
    · have:=eu cd
      exact T.ret (fun h=>⟨by dsimp only; rw [kP _ this],fin this⟩)
  · intro r hr
    cases r with
    | inr _=>exact T.ret (fun h=>by simp at h)
    | inl w =>
      refine T.ite (fun d1=>?_) (fun _=>T.ret (fun h=>by simp at h))
      refine T.ite (fun d2=>?_) (fun _=>T.ret (fun h=>by simp at h))
      refine T.ite (fun d3=>?_) (fun _=>T.ret (fun h=>by simp at h))
      refine T.ite (fun d4=>?_) (fun _=>T.ret (fun h=>by simp at h))
      refine T.ret (fun d5=>?_)
      have hmul:cf .i64 2 (m:Int)=2 * (m:Int):=J9 (by omega) (by omega)
      rw [hmul] at d4 d5
      have d1:=of_decide_eq_true d1
      have d2:=of_decide_eq_true d2
      have d3:=of_decide_eq_true d3
      have d4:=of_decide_eq_true d4
      have d5:=of_decide_eq_true d5
      obtain ⟨e1,e2⟩:=hr (by omega)
      subst e1
      exact ⟨⟨by omega,by omega,by omega,by omega,by omega,e2⟩,by omega⟩
theorem Cw {α:Type} {l:List α} {i:Int} {j k:Nat} {b:α} (hi:i=(j:Int)) (hk:k<(l.set i.toNat b).length) (hk2:k<l.length):(l.set i.toNat b)[k]=if j=k then b else l[k]:=by
  subst hi
  simp only [Int.toNat_natCast]
  rw [List.getElem_set]
def cnt (l:List Event) (i:Nat):Nat:=(l.take i).countP (fun e=>oG e.Kind)
theorem sH {l:List Event} {i:Nat} (h:i<l.length):cnt l (i + 1)=cnt l i + if oG l[i].Kind=true then 1 else 0:=by
  unfold cnt
  rw [List.take_succ_eq_append_getElem h,List.countP_append]
  simp [List.countP_cons]
theorem tO (l:List Event) (i:Nat):cnt l i≤l.length:=by
  unfold cnt
  exact Nat.le_trans List.countP_le_length (by simp; omega)
structure ox (n:Nat) (c:ai):Prop where
  h1:1≤c.Harts.length
  h8:c.Harts.length≤8
  cells:kO c.First
  cellsB:lg n c.First=some true
  rows:∀ (k:Nat) (hk:k<c.Harts.length),rowP (k:Int) c.Harts[k]
  fromLen:c.From.length=c.Harts.flatten.length
  froms:∀ k:Nat,k<c.Harts.flatten.length→eP n c c.Harts.flatten (k:Int)=some true
  ord:∀ (i:Nat) (hi:i<c.Order.length),∃ j:Nat,∃ hj:j<c.Harts.flatten.length,c.Order[i]=(j:Int)∧oG c.Harts.flatten[j].Kind=true
  dist:∀ (i j:Nat) (hi:i<c.Order.length) (hj:j<c.Order.length),i<j→c.Order[i]≠c.Order[j]
  count:c.Order.length=cnt c.Harts.flatten c.Harts.flatten.length
theorem vw (n:Nat) (e:Event):gz n e=some (oG e.Kind):=AT n e
theorem Hk (n:Nat) (c:ai) (all:List Event) (k:Nat) (hf:c.First.length≤100) (hn:200≤n) (h1:k<all.length) (h2:k<c.From.length):T (eP n c all (k:Int)) (fun b=>eP n c all (k:Int)=some b):=by
  have:T (eP n c all (k:Int)) (fun _=>True):=by
    unfold eP
    refine T.get k rfl h1 ?_
    refine T.get k rfl h2 ?_
    refine T.eqb (xD _ _) ?_
    refine T.ite (fun _=>T.ret trivial) (fun _=>?_)
    refine T.ite (fun _=>?_) (fun _=>?_)
    · exact T.bind (Hi n _ _ hf hn) (fun _ _=>T.ret trivial)
    refine T.ite (fun _=>T.ret trivial) (fun d1=>?_)
    refine T.ite (fun _=>T.ret trivial) (fun d2=>?_)
    refine T.ite (fun _=>T.ret trivial) (fun _=>?_)
    have d1:=of_decide_eq_false d1
    have d2:=of_decide_eq_false d2
    refine T.get (c.From[k]).toNat (by omega) (by omega) ?_
    refine T.eqb (nW _ _) ?_
    refine T.ite (fun _=>?_) (fun _=>T.ret trivial)
    exact T.ite (fun _=>T.ret trivial) (fun _=>T.ret trivial)
  obtain ⟨r,h,_⟩:=this
  exact ⟨r,h,h⟩
theorem l6 {b:Bool} (h:(!b)=false):b=true:=by cases b <;> simp_all
theorem qB {a b:Int} (h:(a != b)=false):a=b:=by simpa using h
theorem FM (n:Nat) (c:ai) (hc:gJ c) (hn:200≤n):T (dy n c) (fun r=>r=0→ox n c):=by
  have hh:=hc.harts
  have hf:=hc.all
  have hfi:=hc.first
  have hfr:=hc.from_
  have hor:=hc.order
  unfold dy
  obtain ⟨b,hb1,hb2⟩:=zI n c.First (by omega) hn
  refine T.eqb hb1 ?_
  refine T.ite (fun _=>T.ret (fun h=>by simp at h)) (fun c1=>?_)
  have cb:=l6 c1
  subst cb
  have hcells:=hb2 rfl
  refine T.ite (fun _=>T.ret (fun h=>by simp at h)) (fun c2=>?_)
  refine T.ite (fun _=>T.ret (fun h=>by simp at h)) (fun c3=>?_)
  have c2:=of_decide_eq_false c2
  have c3:=of_decide_eq_false c3
  refine T.bind (P:=fun (r:Int⊕Unit)=>match r with | .inl w=>w=(c.Harts.flatten.length:Int)∧∀ (k:Nat) (hk:k<c.Harts.length),rowP (k:Int) c.Harts[k] | .inr _=>True) ?_ ?_
  · refine T.loop c.Harts.length (fun i s=>s=(((FL c.Harts i).length:Int),(i:Int))∧∀ (k:Nat) (_:k<i) (hk:k<c.Harts.length),rowP (k:Int) c.Harts[k]) _ ?_ ⟨rfl,fun k h=>by omega⟩ (by omega)
    rintro i s hi ⟨rfl,hq⟩
    unfold i_
    refine T.ite (fun cd=>?_) (fun cd=>T.fin ⟨by dsimp only; rw [kP _ (eu cd)],fun k hk=>hq k (by have:=eu cd; omega) hk⟩)
    have hil:=ej cd
    have hr:=jz hil
    refine T.get i rfl hil ?_
    dsimp only
    rw [addN _ _ (by omega)]
    refine T.ite (fun _=>T.ret trivial) (fun _=>?_)
    refine T.bind (Ib n (i:Int) c.Harts[i] (hc.rows _ (List.getElem_mem hil)) hn) (fun r hr=>?_)
    refine T.ite (fun _=>T.ret trivial) (fun c4=>?_)
    have hrow:=hr (qB c4)
    refine T.ret ⟨hil,?_,fun k hk hkl=>?_⟩
    · rw [bU _ (by omega),fT hil,List.length_append]
    · by_cases e:k=i
      · subst e; exact hrow
      · exact hq k (by omega) hkl
  intro r hr
  cases r with
  | inr _=>exact T.ret (fun h=>by simp at h)
  | inl w =>
  obtain ⟨rfl,hrows⟩:=hr
  dsimp only
  refine T.eqb (EA n c hc hn) ?_
  refine T.ite (fun _=>T.ret (fun h=>by simp at h)) (fun c4=>?_)
  have hlen:c.From.length=c.Harts.flatten.length:=by have:=qB c4; omega
  generalize hall:c.Harts.flatten=all at *
  refine T.bind (P:=fun (r:Int⊕Unit)=>match r with | .inl w=>w=(cnt all all.length:Int)∧∀ k:Nat,k<all.length→eP n c all (k:Int)=some true | .inr _=>True) ?_ ?_
  · refine T.loop all.length (fun i s=>s=((cnt all i:Int),(i:Int))∧∀ k:Nat,k<i→eP n c all (k:Int)=some true) _ ?_ ⟨rfl,fun k h=>by omega⟩ (by omega)
    rintro i s hi ⟨rfl,hq⟩
    unfold ja
    refine T.ite (fun cd=>?_) (fun cd=>T.fin ?_)
    · have hil:=ej cd
      refine T.bind (Hk n c all i (by omega) hn hil (by omega)) (fun r hr=>?_)
      refine T.ite (fun _=>T.ret trivial) (fun c5=>?_)
      rw [l6 c5] at hr
      refine T.get i rfl hil ?_
      refine T.eqb (vw n _) ?_
      have hcs:=sH hil
      have hcl:=tO all i
      have hq':∀ k:Nat,k<i + 1→eP n c all (k:Int)=some true:=fun k hk=>by
        by_cases e:k=i
        · subst e; exact hr
        · exact hq k (by omega)
      refine T.ite (fun c6=>?_) (fun c6=>?_)
      · rw [if_pos c6] at hcs
        exact T.ret ⟨hil,by dsimp only; rw [bU _ (by omega),bU _ (by omega),hcs],hq'⟩
      · rw [if_neg (by rw [c6]; exact Bool.false_ne_true)] at hcs
        exact T.ret ⟨hil,by dsimp only; rw [bU _ (by omega),hcs]; rfl,hq'⟩
    · have:=eu cd
      have e:i=all.length:=by omega
      subst e
      exact ⟨rfl,hq⟩
  intro r hr
  cases r with
  | inr _=>exact T.ret (fun h=>by simp at h)
  | inl w =>
  obtain ⟨rfl,hfroms⟩:=hr
  dsimp only
  refine T.grd (by simp [Nat.blt]; omega) ?_
  refine T.bind (P:=fun (r:Unit⊕Unit)=>match r with | .inl w=>(∀ (i:Nat) (hi:i<c.Order.length),∃ j:Nat,∃ hj:j<all.length,c.Order[i]=(j:Int)∧oG all[j].Kind=true)∧(∀ (i j:Nat) (hi:i<c.Order.length) (hj:j<c.Order.length),i<j→c.Order[i]≠c.Order[j]) | .inr _=>True) ?_ ?_
  · refine T.loop c.Order.length (fun i s=>s.2=(i:Int)∧s.1.length=all.length∧(∀ (a:Nat) (_:a<i) (hj:a<c.Order.length) (j:Nat) (hj:j<s.1.length),c.Order[a]=(j:Int)→s.1[j]=true)∧(∀ (a:Nat) (_:a<i) (ha:a<c.Order.length),∃ j:Nat,∃ hj:j<all.length,c.Order[a]=(j:Int)∧oG all[j].Kind=true)∧(∀ (a b:Nat) (ha:a<c.Order.length) (hb:b<c.Order.length),a<b→b<i→c.Order[a]≠c.Order[b])) _ ?_ ⟨rfl,by simp,fun a h=>by omega,fun a h=>by omega,fun a b _ _ _ h=>by omega⟩ (by omega)
    rintro i ⟨s1,s2⟩ hi ⟨e1,e2,q1,q2,q3⟩
    dsimp only at e1 e2 q1
    subst e1
    unfold jb
    refine T.ite (fun cd=>?_) (fun cd=>?_)
    · have hil:=ej cd
      refine T.get i rfl hil ?_
      refine T.ite (fun _=>T.ret trivial) (fun d1=>?_)
      refine T.ite (fun _=>T.ret trivial) (fun d2=>?_)
      have d1:=of_decide_eq_false d1
      have d2:=of_decide_eq_false d2
      obtain ⟨j,hj⟩:∃ j:Nat,c.Order[i]=(j:Int):=⟨(c.Order[i]).toNat,by omega⟩
      have hjl:j<all.length:=by omega
      refine T.get j hj (by dsimp only; omega) ?_
      refine T.ite (fun _=>T.ret trivial) (fun d3=>?_)
      dsimp only at d3
      refine T.get j hj hjl ?_
      refine T.eqb (vw n _) ?_
      refine T.ite (fun _=>T.ret trivial) (fun d4=>?_)
      have d4:=l6 d4
      refine T.ret ⟨hil,bU _ (by omega),?_,?_,?_,?_⟩
      · dsimp only
        rw [List.length_set]
        exact e2
      · dsimp only
        intro a ha hal k hk hk2
        rw [Cw hj hk (by rw [List.length_set] at hk; exact hk)]
        by_cases e:j=k
        · rw [if_pos e]
        · rw [if_neg e]
          have:a≠i:=by rintro rfl; rw [hj] at hk2; omega
          exact q1 a (by omega) hal k (by rw [List.length_set] at hk; exact hk) hk2
      · intro a ha hal
        by_cases e:a=i
        · subst e; exact ⟨j,hjl,hj,d4⟩
        · exact q2 a (by omega) hal
      · intro a b ha hb hab hbi
        by_cases e:b=i
        · subst e
          rw [hj]
          intro h
          have:=q1 a hab ha j (by omega) h
          rw [this] at d3
          simp at d3
        · exact q3 a b ha hb hab (by omega)
    · have:=eu cd
      exact T.fin ⟨fun a ha=>q2 a (by omega) ha,fun a b ha hb h=>q3 a b ha hb h (by omega)⟩
  intro r hr
  cases r with
  | inr _=>exact T.ret (fun h=>by simp at h)
  | inl w =>
  obtain ⟨o1,o2⟩:=hr
  refine T.ite (fun _=>T.ret (fun h=>by simp at h)) (fun c5=>?_)
  have c5:=qB c5
  refine T.ret (fun _=>⟨by omega,by omega,hcells,hb1,hrows,by rw [hall]; exact hlen,by rw [hall]; exact hfroms,by rw [hall]; exact o1,o2,by rw [hall]; omega⟩)
theorem Hl (n:Nat) (c:ai) (hc:gJ c) (hn:200≤n) (h:ox n c):e_ n c c.Harts.flatten=some true:=by
  have hf:=hc.all
  have hor:=hc.order
  obtain ⟨_,_,_,_,_,_,_,o1,o2,o3⟩:=h
  have key:T (e_ n c c.Harts.flatten) (fun b=>b=true):=by
    generalize hall:c.Harts.flatten=all at *
    have hcl:=tO all all.length
    unfold e_
    refine T.grd (by simp [Nat.blt]; omega) ?_
    refine T.bind (P:=fun t=>t.1.length=all.length∧(∀ (j:Nat) (hj:j<t.1.length) (hj2:j<all.length),t.1[j]=oG all[j].Kind)∧t.2=(cnt all all.length:Int)) ?_ ?_
    · refine T.loop all.length (fun i s=>s.2.1=(i:Int)∧s.2.2=(cnt all i:Int)∧s.1.length=all.length∧(∀ (j:Nat) (hj:j<s.1.length) (hj2:j<all.length),s.1[j]=(decide (j<i)&&oG all[j].Kind))) _ ?_ ⟨rfl,rfl,by simp,by simp⟩ (by omega)
      rintro i ⟨s1,s2,s3⟩ hi ⟨e1,e2,e3,hq⟩
      dsimp only at e1 e2 e3 hq
      subst e1 e2
      unfold fU
      refine T.ite (fun cd=>?_) (fun cd=>?_)
      · have hil:=ej cd
        have hcs:=sH hil
        have hcl2:=tO all i
        refine T.get i rfl hil ?_
        refine T.eqb (Cv n _) ?_
        refine T.ite (fun c1=>?_) (fun c1=>?_)
        · rw [if_pos c1] at hcs
          refine T.get i rfl (by dsimp only; omega) ?_
          refine T.ret ⟨hil,bU _ (by omega),by dsimp only; rw [bU _ (by omega),hcs],by dsimp only; rw [List.length_set]; exact e3,?_⟩
          dsimp only
          intro j hj hj2
          rw [Cw rfl hj (by rw [List.length_set] at hj; exact hj)]
          by_cases e:i=j
          · subst e
            rw [if_pos rfl,c1]
            simp
          · rw [if_neg e,hq j (by rw [List.length_set] at hj; exact hj) hj2]
            have:decide (j<i + 1)=decide (j<i):=by simp; omega
            rw [this]
        · rw [if_neg (by rw [c1]; exact Bool.false_ne_true)] at hcs
          refine T.ret ⟨hil,bU _ (by omega),by dsimp only; rw [hcs]; rfl,e3,?_⟩
          dsimp only
          intro j hj hj2
          rw [hq j hj hj2]
          by_cases e:i=j
          · subst e
            rw [c1]
            simp
          · have:decide (j<i + 1)=decide (j<i):=by simp; omega
            rw [this]
      · have:=eu cd
        have e:i=all.length:=by omega
        subst e
        refine T.fin ⟨e3,fun j hj hj2=>?_,rfl⟩
        dsimp only
        rw [hq j hj hj2]
        simp [hj2]
    rintro ⟨t1,t2⟩ ⟨e1,e2,e3⟩
    dsimp only at e1 e2 e3
    subst e3
    refine T.bind (P:=fun (r:Int⊕Unit)=>match r with | .inl w=>w=0 | .inr _=>False) ?_ (fun r hr=>by
      cases r with
      | inl w=>exact T.ret (by rw [show w=0 from hr]; rfl)
      | inr _=>exact hr.elim)
    refine T.loop c.Order.length (fun i s=>s.2.1=(i:Int)∧s.2.2=((cnt all all.length - i:Nat):Int)∧s.1.length=all.length∧(∀ (j:Nat) (hj:j<s.1.length) (hj2:j<all.length),oG all[j].Kind=true→(∀ (a:Nat) (_:a<i) (ha:a<c.Order.length),c.Order[a]≠(j:Int))→s.1[j]=true)) _ ?_ ⟨rfl,rfl,e1,fun j hj hj2 h _=>by dsimp only; rw [e2 j hj hj2]; exact h⟩ (by omega)
    rintro i ⟨s1,s2,s3⟩ hi ⟨g1,g2,g3,hq⟩
    dsimp only at g1 g2 g3 hq
    subst g1 g2
    unfold fV
    refine T.ite (fun cd=>?_) (fun cd=>?_)
    · have hil:=ej cd
      obtain ⟨j,hj,hj2,hj3⟩:=o1 i hil
      refine T.get i rfl hil ?_
      dsimp only
      refine T.ite (fun d=>?_) (fun _=>?_)
      · have:=of_decide_eq_true d; omega
      refine T.ite (fun d=>?_) (fun _=>?_)
      · have:=of_decide_eq_true d; omega
      refine T.get j hj2 (by omega) ?_
      have hs:s1[j]=true:=hq j (by omega) hj hj3 (fun a ha hal he=>o2 a i hal hil ha (by rw [he,hj2]))
      refine T.ite (fun d=>by rw [hs] at d; simp at d) (fun _=>?_)
      refine T.ret ⟨hil,bU _ (by omega),by dsimp only; rw [Cs _ (by omega) (by omega)]; omega,by dsimp only; rw [List.length_set]; exact g3,?_⟩
      dsimp only
      intro k hk hk2 hm hne
      rw [Cw hj2 hk (by rw [List.length_set] at hk; exact hk)]
      have:j≠k:=by
        rintro rfl
        exact hne i (by omega) hil hj2
      rw [if_neg this]
      exact hq k (by rw [List.length_set] at hk; exact hk) hk2 hm (fun a ha hal=>hne a (by omega) hal)
    · have:=eu cd
      refine T.fin ?_
      dsimp only
      omega
  obtain ⟨r,h1,h2⟩:=key
  rw [h1,h2]
theorem iI (n:Nat) (c:ai) (hc:gJ c) (hn:200≤n) (h:ox n c):bW n c=some 0:=by
  have hh:=hc.harts
  have hf:=hc.all
  have hfi:=hc.first
  have key:T (bW n c) (fun b=>b=0):=by
    unfold bW
    rw [xE]
    refine T.eqb h.cellsB ?_
    refine T.ite (fun d=>by simp at d) (fun _=>?_)
    have h1:=h.h1
    have h8:=h.h8
    refine T.ite (fun d=>by have:=of_decide_eq_true d; omega) (fun _=>?_)
    refine T.ite (fun d=>by have:=of_decide_eq_true d; omega) (fun _=>?_)
    refine T.bind (P:=fun (r:Int⊕Unit)=>match r with | .inl w=>w=(c.Harts.flatten.length:Int) | .inr _=>False) ?_ ?_
    · refine T.loop c.Harts.length (fun i s=>s=((i:Int),((FL c.Harts i).length:Int))) _ ?_ rfl (by omega)
      rintro i s hi rfl
      unfold eJ
      refine T.ite (fun cd=>?_) (fun cd=>T.fin (by dsimp only; rw [kP _ (eu cd)]))
      have hil:=ej cd
      have hr:=jz hil
      refine T.get i rfl hil ?_
      dsimp only
      rw [addN _ _ (by omega)]
      refine T.ite (fun d=>by have:=of_decide_eq_true d; omega) (fun _=>?_)
      refine T.eqb (JY n (i:Int) c.Harts[i] (hc.rows _ (List.getElem_mem hil)) hn (h.rows i hil)) ?_
      refine T.ite (fun d=>by simp at d) (fun _=>?_)
      refine T.ret ⟨hil,?_⟩
      rw [bU _ (by omega),fT hil,List.length_append]
    intro r hr
    cases r with
    | inr _=>exact hr.elim
    | inl w =>
    have hw:w=(c.Harts.flatten.length:Int):=hr
    subst hw
    dsimp only
    refine T.eqb (xF n c hc hn) ?_
    have hl:=h.fromLen
    refine T.ite (fun d=>by rw [hl] at d; simp at d) (fun _=>?_)
    refine T.bind (P:=fun (r:Unit⊕Unit)=>match r with | .inl w=>True | .inr _=>False) ?_ ?_
    · refine T.loop c.Harts.flatten.length (fun i s=>s=(i:Int)) _ ?_ rfl (by omega)
      rintro i s hi rfl
      unfold f9
      refine T.ite (fun cd=>?_) (fun cd=>T.ret trivial)
      have hil:=ej cd
      refine T.eqb ((zJ n c _ _ h.cells (by omega) hn).trans (h.froms i hil)) ?_
      refine T.ite (fun d=>by simp at d) (fun _=>?_)
      exact T.ret ⟨hil,bU _ (by omega)⟩
    intro r hr
    cases r with
    | inr _=>exact hr.elim
    | inl w =>
    refine T.eqb (Hl n c hc hn h) ?_
    exact T.ite (fun d=>by simp at d) (fun _=>T.ret rfl)
  obtain ⟨r,h1,h2⟩:=key
  rw [h1,h2]
theorem IV (l:List (List Event)):∀ (r:Nat) (_:r≤l.length) (i:Nat) (hi:i<(FL l r).length),∃ q:Nat,∃ hq:q<l.length,∃ k:Nat,∃ hk:k<l[q].length,i=(FL l q).length + k∧(FL l r)[i]=l[q][k]
  | 0,_,i,hi=>by simp [sG] at hi
  | r + 1,hr,i,hi=>by
    have e:=fT (l:=l) (i:=r) (by omega)
    have hi':i<(FL l r++l[r]).length:=by rw [← e]; exact hi
    have e2:(FL l (r + 1))[i]=(FL l r++l[r])[i]:=by congr 1
    by_cases h:i<(FL l r).length
    · obtain ⟨q,hq,k,hk,e3,e4⟩:=IV l r (by omega) i h
      exact ⟨q,hq,k,hk,e3,by rw [e2,List.getElem_append_left h,e4]⟩
    · have hk:i - (FL l r).length<l[r].length:=by rw [List.length_append] at hi'; omega
      exact ⟨r,by omega,i - (FL l r).length,hk,by omega,by rw [e2,List.getElem_append_right (by omega)]⟩
theorem Ie (l:List (List Event)) (i:Nat) (hi:i<l.flatten.length):∃ q:Nat,∃ hq:q<l.length,∃ k:Nat,∃ hk:k<l[q].length,i=(FL l q).length + k∧l.flatten[i]=l[q][k]:=by
  have e:=kP l (Nat.le_refl l.length)
  obtain ⟨q,hq,k,hk,e1,e2⟩:=IV l l.length (Nat.le_refl _) i (by rw [e]; exact hi)
  exact ⟨q,hq,k,hk,e1,by rw [← e2]; congr 1; exact e.symm⟩
theorem Pi:∀ k:Nat,k<61→j1 0 1 (k:Int)=some (0,(k:Int)):=by decide +kernel
theorem mulN (n:Nat) (k:Nat) (h:k<61):j1 n 1 (k:Int)=some (0,(k:Int)):=Pi k h
theorem Dz:∀ k:Nat,k<4→decide (0≤gw .i64 (k:Int) 2)=true:=by decide +kernel
structure PO (e:Event):Prop where
  hart:0≤e.Hart∧e.Hart<8
  at_:0≤e.At
  addr:ri .u64 e.Addr 8=0
  pred:0≤e.Pred∧e.Pred≤15
  succ:0≤e.Succ∧e.Succ≤15
  pair:e.Kind=4→0≤e.Pair∧e.Pair<e.At
  bels:kE e.Deps.Addr e.At=true∧kE e.Deps.Data e.At=true∧kE e.Deps.Way e.At=true
  want:pI (sE e) e=true
theorem PP (e:Event) (h:yy e=true):PO e:=by
  have hp:=(Hg e h).2.2.2.2.2.1
  unfold yy qz at h
  simp only [Bool.and_eq_true,decide_eq_true_eq] at h
  obtain ⟨_,h1,h2,h3,hw,ha,h4,h4',h5,h5',_,h7,h8,h9⟩:=h
  exact ⟨⟨h1,h2⟩,h3,ha,⟨h4,h4'⟩,⟨h5,h5'⟩,hp,⟨h7,h8,h9⟩,hw⟩
theorem zK (e:Event) (f r w m p:Bool) (hb:bits (kF e.Kind)=[f,r,w,m,p]) (h:pI (sE e) e=true) :
    (f=true→e.Addr=0∧e.Deps.Addr=[]∧e.Deps.Way=[])∧(r=false→e.Load=0)∧(w=false→e.Store=0∧e.Deps.Data=[])∧(m=false→e.Aq=false∧e.Rl=false)∧(f=false→e.Pred=0∧e.Succ=0)∧(p=false→e.Pair=0):=by
  unfold bits at hb
  injection hb with hb1 hb
  injection hb with hb2 hb
  injection hb with hb3 hb
  injection hb with hb4 hb
  injection hb with hb5 _
  unfold pI at h
  simp only [Bool.and_eq_true,decide_eq_true_eq] at h
  obtain ⟨d1,d2,d3,h⟩:=h
  have h:=aL.beq_eq h
  unfold AS at h
  injection h with e1 e2 e3 e4 e5 e6 e7 e8 e9 e10 e11
  unfold sE at d1 d2 d3 e4 e5 e6 e7 e8 e9 e10 e11
  simp only [hb1,hb2,hb3,hb4,hb5] at d1 d2 d3 e4 e5 e6 e7 e8 e9 e10 e11
  refine ⟨fun h=>?_,fun h=>?_,fun h=>?_,fun h=>?_,fun h=>?_,fun h=>?_⟩ <;> subst h
  · exact ⟨e7.symm,d1.symm,d3.symm⟩
  · exact e8.symm
  · exact ⟨e9.symm,d2.symm⟩
  · exact ⟨e10.symm,e11.symm⟩
  · exact ⟨e4.symm,e5.symm⟩
  · exact e6.symm
theorem sI (n:Nat) (e:Event) (he:small e) (hn:100≤n) (o:PO e) (k6:e.Kind≠6) (hm:(Cu e.Kind||va e.Kind)=true) (h1:Cu e.Kind=true∨e.Load=0) (h2:va e.Kind=true∨e.Store=0) (p1:e.Pred=0) (p2:e.Succ=0) (hr:ou e=true):T (fJ n e) (fun r=>r=0):=by
  unfold fJ
  simp only [AT,xD,nW,Option.bind_some,IT n e _ he hn,JU]
  refine T.ite (fun _=>?_) (fun d=>absurd o.hart.1 (of_decide_eq_false d))
  refine T.ite (fun _=>?_) (fun d=>absurd o.hart.2 (of_decide_eq_false d))
  refine T.ite (fun d=>absurd (eq_of_beq d) k6) (fun _=>?_)
  refine T.ite (fun _=>?_) (fun d=>absurd o.at_ (of_decide_eq_false d))
  refine T.ite (fun _=>?_) (fun d=>by rw [hm] at d; simp at d)
  refine T.ite (fun _=>?_) (fun d=>by rw [o.addr] at d; simp at d)
  have fin:T (some (if ((e.Succ==0)&&ou e)=true then (0:Int) else 2)) (fun r=>r=0):=by
    rw [p2,hr]
    exact T.ret rfl
  have fin2:T (if (e.Pred==0)=true then some (if ((e.Succ==0)&&ou e)=true then (0:Int) else 2) else some (if (false&&ou e)=true then (0:Int) else 2)) (fun r=>r=0) :=
    T.ite (fun _=>fin) (fun d=>by rw [p1] at d; simp at d)
  refine T.ite (fun _=>?_) (fun r1=>?_)
  · refine T.ite (fun _=>fin2) (fun w1=>?_)
    refine T.ite (fun _=>fin2) (fun d=>?_)
    rcases h2 with h2 | h2
    · rw [h2] at w1; simp at w1
    · rw [h2] at d; simp at d
  · refine T.ite (fun _=>?_) (fun d=>?_)
    · refine T.ite (fun _=>fin2) (fun w1=>?_)
      refine T.ite (fun _=>fin2) (fun d=>?_)
      rcases h2 with h2 | h2
      · rw [h2] at w1; simp at w1
      · rw [h2] at d; simp at d
    · rcases h1 with h1 | h1
      · rw [h1] at r1; simp at r1
      · rw [h1] at d; simp at d
theorem Hm (n:Nat) (e:Event) (he:small e) (hn:100≤n) (h:yy e=true):fJ n e=some 0:=by
  have o:=PP e h
  have hb:=o.bels
  have hrest:mV e=true→qA e=true→(va e.Kind=true∨e.Deps.Data=[])→ou e=true:=fun g1 g2 g3=>by
    unfold ou
    rw [g1,g2,hb.1,hb.2.1,hb.2.2]
    simpa using g3
  have key:T (fJ n e) (fun r=>r=0):=by
    rcases kinds e.Kind with k | k | k | k | k | k | ⟨k,_,_⟩
    · obtain ⟨_,_,g3,g4,g5,g6⟩:=zK e false true false false false (by rw [k]; exact b1) o.want
      exact sI n e he hn o (by omega) (by rw [k]; rfl) (.inl (by rw [k]; rfl)) (.inr (g3 rfl).1) (g5 rfl).1 (g5 rfl).2 (hrest (by unfold mV; rw [(g4 rfl).1,(g4 rfl).2]; simp) (by unfold qA; rw [g6 rfl,k]; rfl) (.inr (g3 rfl).2))
    · obtain ⟨_,g2,_,g4,g5,g6⟩:=zK e false false true false false (by rw [k]; exact b2) o.want
      exact sI n e he hn o (by omega) (by rw [k]; rfl) (.inr (g2 rfl)) (.inl (by rw [k]; rfl)) (g5 rfl).1 (g5 rfl).2 (hrest (by unfold mV; rw [(g4 rfl).1,(g4 rfl).2]; simp) (by unfold qA; rw [g6 rfl,k]; rfl) (.inl (by rw [k]; rfl)))
    · obtain ⟨_,_,g3,_,g5,g6⟩:=zK e false true false true false (by rw [k]; exact b5) o.want
      exact sI n e he hn o (by omega) (by rw [k]; rfl) (.inl (by rw [k]; rfl)) (.inr (g3 rfl).1) (g5 rfl).1 (g5 rfl).2 (hrest (by unfold mV; rw [k]; rfl) (by unfold qA; rw [g6 rfl,k]; rfl) (.inr (g3 rfl).2))
    · obtain ⟨_,g2,_,_,g5,_⟩:=zK e false false true true true (by rw [k]; exact Lc) o.want
      have hp:=o.pair k
      exact sI n e he hn o (by omega) (by rw [k]; rfl) (.inr (g2 rfl)) (.inl (by rw [k]; rfl)) (g5 rfl).1 (g5 rfl).2 (hrest (by unfold mV; rw [k]; rfl) (by unfold qA; rw [decide_eq_true k,decide_eq_true hp.1,decide_eq_true hp.2]; rfl) (.inl (by rw [k]; rfl)))
    · obtain ⟨_,_,_,_,g5,g6⟩:=zK e false true true true false (by rw [k]; exact b7) o.want
      exact sI n e he hn o (by omega) (by rw [k]; rfl) (.inl (by rw [k]; rfl)) (.inl (by rw [k]; rfl)) (g5 rfl).1 (g5 rfl).2 (hrest (by unfold mV; rw [k]; rfl) (by unfold qA; rw [g6 rfl,k]; rfl) (.inl (by rw [k]; rfl)))
    · obtain ⟨g1,g2,g3,g4,_,g6⟩:=zK e true false false false false (by rw [k]; exact Ld) o.want
      unfold fJ
      simp only [Option.bind_some,JU]
      refine T.ite (fun _=>?_) (fun d=>absurd o.hart.1 (of_decide_eq_false d))
      refine T.ite (fun _=>?_) (fun d=>absurd o.hart.2 (of_decide_eq_false d))
      refine T.ite (fun _=>?_) (fun d=>by rw [k] at d; simp at d)
      refine T.ite (fun _=>?_) (fun d=>absurd o.at_ (of_decide_eq_false d))
      refine T.ite (fun _=>?_) (fun d=>by rw [(g1 rfl).1] at d; simp at d)
      refine T.ite (fun _=>?_) (fun d=>by rw [g2 rfl] at d; simp at d)
      refine T.ite (fun _=>?_) (fun d=>by rw [(g3 rfl).1] at d; simp at d)
      refine T.ite (fun _=>?_) (fun d=>by rw [(g4 rfl).1] at d; simp at d)
      refine T.ite (fun _=>?_) (fun d=>by rw [(g4 rfl).2] at d; simp at d)
      refine T.ite (fun _=>?_) (fun d=>by rw [g6 rfl] at d; simp at d)
      refine T.ite (fun _=>?_) (fun d=>?_)
      · refine T.ite (fun _=>?_) (fun d=>absurd o.pred.1 (of_decide_eq_false d))
        refine T.ite (fun _=>?_) (fun d=>absurd o.pred.2 (of_decide_eq_false d))
        refine T.ite (fun _=>?_) (fun d=>absurd o.succ.1 (of_decide_eq_false d))
        refine T.ret ?_
        rw [decide_eq_true o.succ.2]
        rfl
      · rw [(g1 rfl).2.1,(g1 rfl).2.2,(g3 rfl).2] at d
        exact absurd d (by decide)
    · exact absurd k (Pg e h)
  obtain ⟨r,h1,h2⟩:=key
  rw [h1,h2]
theorem EB (n:Nat) (h:Int) (l:List Event) (hl:smalls l) (hn:200≤n):T (jI n h l) (fun r=>r=0→rowP h l):=by
  have hll:=hl.1
  unfold jI
  refine T.bind (P:=fun (r:Unit⊕Unit)=>match r with | .inl _=>rowP h l | .inr _=>True) ?_ (fun r hr=>by
    cases r with
    | inl _=>exact T.ret (fun _=>hr)
    | inr _=>exact T.ret (fun h=>by simp at h))
  refine T.loop l.length (fun i s=>s.1=(i:Int)∧(∀ (k:Nat) (_:k<i) (hk:k<l.length),Lg h l k hk) ∧
    (s.2=-1∨∃ p:Nat,∃ hp:p<l.length,p<i∧s.2=(p:Int)∧l[p].Kind=3∧∀ j:Nat,p<j→j<i→∀ hj:j<l.length,l[j].Kind≠3∧l[j].Kind≠4)) _ ?_ ⟨rfl,fun k hk=>by omega,.inl rfl⟩ (by omega)
  rintro i ⟨s1,s2⟩ hi ⟨e1,hq,ho⟩
  dsimp only at e1 ho
  subst e1
  unfold i6
  refine T.ite (fun c=>?_) (fun c=>T.fin (fun k hk=>hq k (by have:=eu c; omega) hk))
  have hil:i<l.length:=ej c
  refine T.get i rfl hil ?_
  refine T.eqb (Hf n l[i] (hl.2 _ (List.getElem_mem hil)) (by omega)) ?_
  refine T.ite (fun _=>T.ret trivial) (fun d=>?_)
  have ok:yy l[i]=true:=by
    cases h:yy l[i] with
    | true=>rfl
    | false=>rw [h] at d; simp at d
  refine T.ite (fun _=>T.ret trivial) (fun c2=>?_)
  have hh:l[i].Hart=h:=by simpa using c2
  refine T.ite (fun _=>T.ret trivial) (fun c3=>?_)
  have ha:l[i].At=(i:Int):=by simpa using c3
  have ev:(l[i].Kind=4→Hh l i hil)→∀ (k:Nat) (_:k<i + 1) (hk:k<l.length),Lg h l k hk:=fun hp k hk hkl=>by
    by_cases e:k=i
    · subst e; exact ⟨ok,hh,ha,hp⟩
    · exact hq k (by omega) hkl
  refine T.ite (fun c3=>?_) (fun c3=>?_)
  · have k3:l[i].Kind=3:=by simpa using c3
    exact T.ret ⟨hil,bU _ (by omega),ev (fun h=>by omega),.inr ⟨i,hil,by omega,rfl,k3,fun j h1 h2=>by omega⟩⟩
  have k3:l[i].Kind≠3:=by simpa using c3
  refine T.ite (fun c4=>?_) (fun c4=>?_)
  · have k4:l[i].Kind=4:=by simpa using c4
    have hp:=(PP _ ok).pair k4
    refine T.ite (fun _=>T.ret trivial) (fun c5=>?_)
    have c5:l[i].Pair=s2:=by simpa using c5
    rcases ho with ho | ⟨p,hpl,hpi,ho,o3,o4⟩
    · omega
    subst ho
    refine T.get p rfl hpl ?_
    refine T.ite (fun _=>T.ret trivial) (fun c6=>?_)
    have c6:l[p].Addr=l[i].Addr:=by simpa using c6
    exact T.ret ⟨hil,bU _ (by omega),ev (fun _=>⟨p,hpi,c5,o3,c6,fun j h1 h2=>o4 j h1 h2 (by omega)⟩),.inl rfl⟩
  · have k4:l[i].Kind≠4:=by simpa using c4
    refine T.ret ⟨hil,bU _ (by omega),ev (fun h=>absurd h k4),?_⟩
    rcases ho with ho | ⟨p,hpl,hpi,ho,o3,o4⟩
    · exact .inl ho
    · refine .inr ⟨p,hpl,by omega,ho,o3,fun j h1 h2 hj=>?_⟩
      by_cases e:j=i
      · subst e; exact ⟨k3,k4⟩
      · exact o4 j h1 (by omega) hj
theorem Hn (n:Nat) (h:Int) (l:List Event) (hl:smalls l) (hn:200≤n) (hr:rowP h l):nk n h l=some 0:=by
  have hll:=hl.1
  have:T (nk n h l) (fun r=>r=0):=by
    unfold nk
    refine T.bind (P:=fun (r:Unit⊕Unit)=>match r with | .inl _=>True | .inr _=>False) ?_ (fun r hr=>by
      cases r with
      | inl _=>exact T.ret rfl
      | inr _=>exact hr.elim)
    refine T.loop l.length (fun i s=>s=(i:Int)) _ ?_ rfl (by omega)
    rintro i s hi rfl
    unfold lw
    refine T.ite (fun c=>?_) (fun c=>T.ret trivial)
    have hil:i<l.length:=ej c
    obtain ⟨ok,hh,ha,hp⟩:=hr i hil
    refine T.get i rfl hil ?_
    refine T.eqb (Hm n l[i] (hl.2 _ (List.getElem_mem hil)) (by omega) ok) ?_
    refine T.ite (fun c1=>by simp at c1) (fun _=>?_)
    refine T.ite (fun c1=>by simp [hh] at c1) (fun _=>?_)
    refine T.ite (fun c1=>by simp [ha] at c1) (fun _=>?_)
    refine T.ite (fun _=>T.ret ⟨hil,bU _ (by omega)⟩) (fun c4=>?_)
    have k4:l[i].Kind=4:=by simpa using c4
    obtain ⟨p,hpi,e1,e2,e3,e4⟩:=hp k4
    refine T.get p e1 (by omega) ?_
    refine T.ite (fun c5=>by simp [e2] at c5) (fun _=>?_)
    refine T.ite (fun c5=>by simp [e3] at c5) (fun _=>?_)
    rw [e1,bU _ (by omega)]
    refine T.bind (P:=fun (r:(Int×Bool×Int)⊕Unit)=>match r with | .inl w=>w.2.2=(i:Int) | .inr _=>False) ?_ (fun r hr=>by
      cases r with
      | inl w =>
        have hr:w.2.2=(i:Int):=hr
        exact T.ret ⟨hil,by rw [hr,bU _ (by omega)]⟩
      | inr _=>exact hr.elim)
    refine T.loop i (fun m s=>s.2.2.1=(i:Int)∧s.2.2.2=((p + 1 + m:Nat):Int)) _ ?_ ⟨rfl,rfl⟩ (by omega)
    rintro m ⟨s1,s2,s3,s4⟩ hm ⟨e3,e5⟩
    dsimp only at e3 e5
    subst e3 e5
    unfold lv
    refine T.ite (fun c=>?_) (fun c=>T.fin rfl)
    have hm2:p + 1 + m<i:=ej c
    have hk:=e4 (p + 1 + m) (by omega) hm2
    refine T.get (p + 1 + m) rfl (by omega) ?_
    refine T.ite (fun d=>absurd (eq_of_beq d) hk.1) (fun _=>?_)
    refine T.ite (fun d=>absurd (eq_of_beq d) hk.2) (fun _=>?_)
    exact T.ret ⟨by omega,rfl,bU _ (by omega)⟩
  obtain ⟨r,h1,h2⟩:=this
  rw [h1,h2]
theorem zL (n:Nat) (c:ai) (all:List Event) (hf:all.length≤60) (hor:c.Order.length≤120) (hn:200≤n):T (e_ n c all) (fun b=>b=true →
    (∀ (i:Nat) (hi:i<c.Order.length),∃ j:Nat,∃ hj:j<all.length,c.Order[i]=(j:Int)∧oG all[j].Kind=true)∧(∀ (i j:Nat) (hi:i<c.Order.length) (hj:j<c.Order.length),i<j→c.Order[i]≠c.Order[j])∧c.Order.length=cnt all all.length):=by
  have hcl:=tO all all.length
  unfold e_
  refine T.grd (by simp [Nat.blt]; omega) ?_
  refine T.bind (P:=fun t=>t.1.length=all.length∧(∀ (j:Nat) (hj:j<t.1.length) (hj2:j<all.length),t.1[j]=oG all[j].Kind)∧t.2=(cnt all all.length:Int)) ?_ ?_
  · refine T.loop all.length (fun i s=>s.2.1=(i:Int)∧s.2.2=(cnt all i:Int)∧s.1.length=all.length∧(∀ (j:Nat) (hj:j<s.1.length) (hj2:j<all.length),s.1[j]=(decide (j<i)&&oG all[j].Kind))) _ ?_ ⟨rfl,rfl,by simp,by simp⟩ (by omega)
    rintro i ⟨s1,s2,s3⟩ hi ⟨e1,e2,e3,hq⟩
    dsimp only at e1 e2 e3 hq
    subst e1 e2
    unfold fU
    refine T.ite (fun cd=>?_) (fun cd=>?_)
    · have hil:=ej cd
      have hcs:=sH hil
      have hcl2:=tO all i
      refine T.get i rfl hil ?_
      refine T.eqb (Cv n _) ?_
      refine T.ite (fun c1=>?_) (fun c1=>?_)
      · rw [if_pos c1] at hcs
        refine T.get i rfl (by dsimp only; omega) ?_
        refine T.ret ⟨hil,bU _ (by omega),by dsimp only; rw [bU _ (by omega),hcs],by dsimp only; rw [List.length_set]; exact e3,?_⟩
        dsimp only
        intro j hj hj2
        rw [Cw rfl hj (by rw [List.length_set] at hj; exact hj)]
        by_cases e:i=j
        · subst e
          rw [if_pos rfl,c1]
          simp
        · rw [if_neg e,hq j (by rw [List.length_set] at hj; exact hj) hj2]
          have:decide (j<i + 1)=decide (j<i):=by simp; omega
          rw [this]
      · rw [if_neg (by rw [c1]; exact Bool.false_ne_true)] at hcs
        refine T.ret ⟨hil,bU _ (by omega),by dsimp only; rw [hcs]; rfl,e3,?_⟩
        dsimp only
        intro j hj hj2
        rw [hq j hj hj2]
        by_cases e:i=j
        · subst e
          rw [c1]
          simp
        · have:decide (j<i + 1)=decide (j<i):=by simp; omega
          rw [this]
    · have:=eu cd
      have e:i=all.length:=by omega
      subst e
      refine T.fin ⟨e3,fun j hj hj2=>?_,rfl⟩
      dsimp only
      rw [hq j hj hj2]
      simp [hj2]
  rintro ⟨t1,t2⟩ ⟨e1,e2,e3⟩
  dsimp only at e1 e2 e3
  subst e3
  refine T.bind (P:=fun (r:Int⊕Unit)=>match r with | .inl w=>w=(cnt all all.length:Int) - (c.Order.length:Int)∧(∀ (i:Nat) (hi:i<c.Order.length),∃ j:Nat,∃ hj:j<all.length,c.Order[i]=(j:Int)∧oG all[j].Kind=true)∧(∀ (i j:Nat) (hi:i<c.Order.length) (hj:j<c.Order.length),i<j→c.Order[i]≠c.Order[j]) | .inr _=>True) ?_ (fun r hr=>by
    cases r with
    | inl w =>
      obtain ⟨h1,h2,h3⟩:=hr
      exact T.ret (fun h=>⟨h2,h3,by have:=eq_of_beq h; omega⟩)
    | inr _=>exact T.ret (fun h=>by simp at h))
  refine T.loop c.Order.length (fun i s=>s.2.1=(i:Int)∧s.2.2=(cnt all all.length:Int) - (i:Int)∧s.1.length=all.length∧(∀ (j:Nat) (hj:j<s.1.length) (hj2:j<all.length),s.1[j]=true→oG all[j].Kind=true∧∀ (a:Nat) (_:a<i) (ha:a<c.Order.length),c.Order[a]≠(j:Int)) ∧
    (∀ (a:Nat) (_:a<i) (ha:a<c.Order.length),∃ j:Nat,∃ hj:j<all.length,c.Order[a]=(j:Int)∧oG all[j].Kind=true)∧(∀ (a b:Nat) (ha:a<c.Order.length) (hb:b<c.Order.length),a<b→b<i→c.Order[a]≠c.Order[b])) _ ?_ ⟨rfl,by simp,e1,fun j hj hj2 h=>⟨by rw [← e2 j hj hj2]; exact h,fun a h=>by omega⟩,fun a h=>by omega,fun a b _ _ _ h=>by omega⟩ (by omega)
  rintro i ⟨s1,s2,s3⟩ hi ⟨g1,g2,g3,hq,q2,q3⟩
  dsimp only at g1 g2 g3 hq
  subst g1 g2
  unfold fV
  refine T.ite (fun cd=>?_) (fun cd=>?_)
  · have hil:=ej cd
    refine T.get i rfl hil ?_
    dsimp only
    refine T.ite (fun _=>T.ret trivial) (fun d1=>?_)
    refine T.ite (fun _=>T.ret trivial) (fun d2=>?_)
    have d1:=of_decide_eq_false d1
    have d2:=of_decide_eq_false d2
    obtain ⟨j,hj⟩:∃ j:Nat,c.Order[i]=(j:Int):=⟨(c.Order[i]).toNat,by omega⟩
    have hjl:j<all.length:=by omega
    refine T.get j hj (by omega) ?_
    refine T.ite (fun _=>T.ret trivial) (fun d3=>?_)
    obtain ⟨hm,hne⟩:=hq j (by omega) hjl (l6 d3)
    refine T.ret ⟨hil,bU _ (by omega),by dsimp only; rw [vz (by omega) (by omega)]; omega,by dsimp only; rw [List.length_set]; exact g3,?_,?_,?_⟩
    · dsimp only
      intro k hk hk2 ht
      rw [Cw hj hk (by rw [List.length_set] at hk; exact hk)] at ht
      by_cases e:j=k
      · rw [if_pos e] at ht; simp at ht
      · rw [if_neg e] at ht
        obtain ⟨h1,h2⟩:=hq k (by rw [List.length_set] at hk; exact hk) hk2 ht
        refine ⟨h1,fun a ha hal=>?_⟩
        by_cases e2:a=i
        · subst e2; rw [hj]; omega
        · exact h2 a (by omega) hal
    · intro a ha hal
      by_cases e:a=i
      · subst e; exact ⟨j,hjl,hj,hm⟩
      · exact q2 a (by omega) hal
    · intro a b ha hb hab hbi
      by_cases e:b=i
      · subst e
        rw [hj]
        exact hne a hab ha
      · exact q3 a b ha hb hab (by omega)
  · have:=eu cd
    have e:i=c.Order.length:=by omega
    subst e
    exact T.fin ⟨rfl,fun a ha=>q2 a ha ha,fun a b ha hb h=>q3 a b ha hb h hb⟩
theorem JZ (n:Nat) (c:ai) (hc:gJ c) (hn:200≤n):T (bW n c) (fun r=>r=0→ox n c):=by
  have hh:=hc.harts
  have hf:=hc.all
  have hfi:=hc.first
  have hfr:=hc.from_
  have hor:=hc.order
  unfold bW
  rw [xE]
  obtain ⟨b,hb1,hb2⟩:=zI n c.First (by omega) hn
  refine T.eqb hb1 ?_
  refine T.ite (fun _=>T.ret (fun h=>by simp at h)) (fun c1=>?_)
  have cb:=l6 c1
  subst cb
  have hcells:=hb2 rfl
  refine T.ite (fun _=>T.ret (fun h=>by simp at h)) (fun c2=>?_)
  refine T.ite (fun _=>T.ret (fun h=>by simp at h)) (fun c3=>?_)
  have c2:=of_decide_eq_false c2
  have c3:=of_decide_eq_false c3
  refine T.bind (P:=fun (r:Int⊕Unit)=>match r with | .inl w=>w=(c.Harts.flatten.length:Int)∧∀ (k:Nat) (hk:k<c.Harts.length),rowP (k:Int) c.Harts[k] | .inr _=>True) ?_ ?_
  · refine T.loop c.Harts.length (fun i s=>s=((i:Int),((FL c.Harts i).length:Int))∧∀ (k:Nat) (_:k<i) (hk:k<c.Harts.length),rowP (k:Int) c.Harts[k]) _ ?_ ⟨rfl,fun k h=>by omega⟩ (by omega)
    rintro i s hi ⟨rfl,hq⟩
    unfold eJ
    refine T.ite (fun cd=>?_) (fun cd=>T.fin ⟨by dsimp only; rw [kP _ (eu cd)],fun k hk=>hq k (by have:=eu cd; omega) hk⟩)
    have hil:=ej cd
    have hr:=jz hil
    refine T.get i rfl hil ?_
    dsimp only
    rw [addN _ _ (by omega)]
    refine T.ite (fun _=>T.ret trivial) (fun _=>?_)
    refine T.bind (EB n (i:Int) c.Harts[i] (hc.rows _ (List.getElem_mem hil)) hn) (fun r hr=>?_)
    refine T.ite (fun _=>T.ret trivial) (fun c4=>?_)
    have hrow:=hr (qB c4)
    refine T.ret ⟨hil,?_,fun k hk hkl=>?_⟩
    · rw [bU _ (by omega),fT hil,List.length_append]
    · by_cases e:k=i
      · subst e; exact hrow
      · exact hq k (by omega) hkl
  intro r hr
  cases r with
  | inr _=>exact T.ret (fun h=>by simp at h)
  | inl w =>
  obtain ⟨rfl,hrows⟩:=hr
  dsimp only
  refine T.eqb (xF n c hc hn) ?_
  refine T.ite (fun _=>T.ret (fun h=>by simp at h)) (fun c4=>?_)
  have hlen:c.From.length=c.Harts.flatten.length:=by have:=qB c4; omega
  refine T.bind (P:=fun (r:Unit⊕Unit)=>match r with | .inl _=>∀ k:Nat,k<c.Harts.flatten.length→eP n c c.Harts.flatten (k:Int)=some true | .inr _=>True) ?_ ?_
  · refine T.loop c.Harts.flatten.length (fun i s=>s=(i:Int)∧∀ k:Nat,k<i→eP n c c.Harts.flatten (k:Int)=some true) _ ?_ ⟨rfl,fun k h=>by omega⟩ (by omega)
    rintro i s hi ⟨rfl,hq⟩
    unfold f9
    refine T.ite (fun cd=>?_) (fun cd=>T.fin (fun k hk=>hq k (by have:=eu cd; omega)))
    have hil:=ej cd
    rw [zJ n c _ _ hcells (by omega) hn]
    refine T.bind (Hk n c c.Harts.flatten i (by omega) hn hil (by omega)) (fun r hr=>?_)
    refine T.ite (fun _=>T.ret trivial) (fun c5=>?_)
    rw [l6 c5] at hr
    refine T.ret ⟨hil,bU _ (by omega),fun k hk=>?_⟩
    by_cases e:k=i
    · subst e; exact hr
    · exact hq k (by omega)
  intro r hr
  cases r with
  | inr _=>exact T.ret (fun h=>by simp at h)
  | inl w =>
  have hfroms:∀ k:Nat,k<c.Harts.flatten.length→eP n c c.Harts.flatten (k:Int)=some true:=hr
  refine T.bind (zL n c c.Harts.flatten hf hor hn) (fun b hb=>?_)
  refine T.ite (fun _=>T.ret (fun h=>by simp at h)) (fun c5=>?_)
  obtain ⟨o1,o2,o3⟩:=hb (l6 c5)
  exact T.ret (fun _=>⟨by omega,by omega,hcells,hb1,hrows,hlen,hfroms,o1,o2,o3⟩)
theorem uP (n:Nat) (c:ai) (hc:gJ c) (hn:200≤n) (h:ox n c):dy n c=some 0:=by
  have hh:=hc.harts
  have hf:=hc.all
  have hfi:=hc.first
  have hfr:=hc.from_
  have hor:=hc.order
  have g1:=h.h1
  have g8:=h.h8
  have key:T (dy n c) (fun r=>r=0):=by
    unfold dy
    refine T.eqb h.cellsB ?_
    refine T.ite (fun d=>by simp at d) (fun _=>?_)
    refine T.ite (fun d=>absurd (of_decide_eq_true d) (by omega)) (fun _=>?_)
    refine T.ite (fun d=>absurd (of_decide_eq_true d) (by omega)) (fun _=>?_)
    refine T.bind (P:=fun (r:Int⊕Unit)=>match r with | .inl w=>w=(c.Harts.flatten.length:Int) | .inr _=>False) ?_ ?_
    · refine T.loop c.Harts.length (fun i s=>s=(((FL c.Harts i).length:Int),(i:Int))) _ ?_ rfl (by omega)
      rintro i s hi rfl
      unfold i_
      refine T.ite (fun cd=>?_) (fun cd=>T.fin (by dsimp only; rw [kP _ (eu cd)]))
      have hil:=ej cd
      have hr:=jz hil
      refine T.get i rfl hil ?_
      dsimp only
      rw [addN _ _ (by omega)]
      refine T.ite (fun d=>absurd (of_decide_eq_true d) (by omega)) (fun _=>?_)
      refine T.eqb (Hn n (i:Int) c.Harts[i] (hc.rows _ (List.getElem_mem hil)) hn (h.rows i hil)) ?_
      refine T.ite (fun d=>by simp at d) (fun _=>?_)
      exact T.ret ⟨hil,by rw [bU _ (by omega),fT hil,List.length_append]⟩
    intro r hr
    cases r with
    | inr _=>exact hr.elim
    | inl w =>
    have hr:w=(c.Harts.flatten.length:Int):=hr
    subst hr
    dsimp only
    refine T.eqb (EA n c hc hn) ?_
    have hlen:=h.fromLen
    have hfroms:=h.froms
    have o1:=h.ord
    have o2:=h.dist
    have o3:=h.count
    generalize hall:c.Harts.flatten=all at *
    refine T.ite (fun d=>by simp [hlen] at d) (fun _=>?_)
    refine T.bind (P:=fun (r:Int⊕Unit)=>match r with | .inl w=>w=(cnt all all.length:Int) | .inr _=>False) ?_ ?_
    · refine T.loop all.length (fun i s=>s=((cnt all i:Int),(i:Int))) _ ?_ rfl (by omega)
      rintro i s hi rfl
      unfold ja
      refine T.ite (fun cd=>?_) (fun cd=>T.fin ?_)
      · have hil:=ej cd
        refine T.eqb (hfroms i hil) ?_
        refine T.ite (fun d=>by simp at d) (fun _=>?_)
        refine T.get i rfl hil ?_
        refine T.eqb (vw n _) ?_
        have hcs:=sH hil
        have hcl:=tO all i
        refine T.ite (fun c6=>?_) (fun c6=>?_)
        · rw [if_pos c6] at hcs
          exact T.ret ⟨hil,by dsimp only; rw [bU _ (by omega),bU _ (by omega),hcs]⟩
        · rw [if_neg (by rw [c6]; exact Bool.false_ne_true)] at hcs
          exact T.ret ⟨hil,by dsimp only; rw [bU _ (by omega),hcs]; rfl⟩
      · have:=eu cd
        have e:i=all.length:=by omega
        subst e
        rfl
    intro r hr
    cases r with
    | inr _=>exact hr.elim
    | inl w =>
    have hr:w=(cnt all all.length:Int):=hr
    subst hr
    dsimp only
    refine T.grd (by simp [Nat.blt]; omega) ?_
    refine T.bind (P:=fun (r:Unit⊕Unit)=>match r with | .inl w=>True | .inr _=>False) ?_ ?_
    · refine T.loop c.Order.length (fun i s=>s.2=(i:Int)∧s.1.length=all.length∧(∀ (j:Nat) (hj:j<s.1.length),s.1[j]=true→∃ a:Nat,∃ ha:a<c.Order.length,a<i∧c.Order[a]=(j:Int))) _ ?_ ⟨rfl,by simp,fun j hj h=>by simp at h⟩ (by omega)
      rintro i ⟨s1,s2⟩ hi ⟨e1,e2,q1⟩
      dsimp only at e1 e2 q1
      subst e1
      unfold jb
      refine T.ite (fun cd=>?_) (fun cd=>T.fin trivial)
      have hil:=ej cd
      obtain ⟨j,hjl,hj,hm⟩:=o1 i hil
      refine T.get i rfl hil ?_
      dsimp only
      refine T.ite (fun d=>absurd (of_decide_eq_true d) (by omega)) (fun _=>?_)
      refine T.ite (fun d=>absurd (of_decide_eq_true d) (by omega)) (fun _=>?_)
      refine T.get j hj (by omega) ?_
      refine T.ite (fun d=>?_) (fun _=>?_)
      · obtain ⟨a,ha,hai,h5⟩:=q1 j (by omega) d
        exact absurd (by rw [h5,hj]) (o2 a i ha hil hai)
      refine T.get j hj hjl ?_
      refine T.eqb (vw n _) ?_
      refine T.ite (fun d=>by rw [hm] at d; simp at d) (fun _=>?_)
      refine T.ret ⟨hil,bU _ (by omega),by dsimp only; rw [List.length_set]; exact e2,?_⟩
      dsimp only
      intro k hk ht
      rw [Cw hj hk (by rw [List.length_set] at hk; exact hk)] at ht
      by_cases e:j=k
      · subst e
        exact ⟨i,hil,by omega,hj⟩
      · rw [if_neg e] at ht
        obtain ⟨a,ha,hai,h5⟩:=q1 k (by rw [List.length_set] at hk; exact hk) ht
        exact ⟨a,ha,by omega,h5⟩
    intro r hr
    cases r with
    | inr _=>exact hr.elim
    | inl w =>
    refine T.ite (fun d=>by rw [o3] at d; simp at d) (fun _=>T.ret rfl)
  obtain ⟨r,h1,h2⟩:=key
  rw [h1,h2]
/-- Both take it, or neither. -/
theorem If (n:Nat) (c:ai) (hc:gJ c) (hn:200≤n):ox n c∨((∃ r,dy n c=some r∧r≠0)∧∃ s,bW n c=some s∧s≠0):=by
  obtain ⟨r,h1,h2⟩:=FM n c hc hn
  obtain ⟨s,h3,h4⟩:=JZ n c hc hn
  by_cases hr:r=0
  · exact .inl (h2 hr)
  · by_cases hs:s=0
    · exact .inl (h4 hs)
    · exact .inr ⟨⟨r,h1,hr⟩,s,h3,hs⟩
theorem J0 (n:Nat) (l:List Cell) (hl:l.length≤100) (hn:200≤n):T (jH n l) (fun b=>b=true→kO l):=by
  unfold jH
  refine T.bind (P:=fun (r:Unit⊕Unit)=>match r with | .inl _=>kO l | .inr _=>True) ?_ (fun r hr=>by
    cases r with
    | inl _=>exact T.ret (fun _=>hr)
    | inr _=>exact T.ret (fun h=>by simp at h))
  refine T.loop l.length (fun i s=>s=(i:Int)∧∀ (k:Nat) (hk:k<l.length),k<i→∀ h0:0<k,l[k - 1].Addr<l[k].Addr) _ ?_ ⟨rfl,fun k _ h=>by omega⟩ (by omega)
  rintro i s hi ⟨rfl,hq⟩
  unfold jY
  refine T.ite (fun cd=>?_) (fun cd=>T.fin (fun k hk=>hq k hk (by have:=eu cd; omega)))
  have hil:=ej cd
  refine T.get i rfl hil ?_
  refine T.ite (fun _=>T.ret trivial) (fun _=>?_)
  refine T.ite (fun c2=>?_) (fun c2=>?_)
  · have c2:0<i:=by have:=of_decide_eq_true c2; omega
    rw [Cs _ (by omega) (by omega)]
    refine T.get (i - 1) rfl (by omega) ?_
    refine T.ite (fun _=>T.ret trivial) (fun c3=>?_)
    refine T.ret ⟨hil,bU _ (by omega),fun k hk hki h0=>?_⟩
    by_cases e:k=i
    · subst e
      have c3:=of_decide_eq_false c3
      omega
    · exact hq k hk (by omega) h0
  · have c2:¬ 0<i:=by have:=of_decide_eq_false c2; omega
    exact T.ret ⟨hil,bU _ (by omega),fun k hk hki h0=>by omega⟩
/-- May an event read from a number: there is an answer. -/
theorem from_ (n:Nat) (c:ai) (all:List Event) (k:Nat) (hcells:kO c.First) (hf:c.First.length≤100) (hn:200≤n) (h1:k<all.length) (h2:k<c.From.length):T (fy n c all (k:Int)) (fun _=>True):=by
  unfold fy
  refine T.get k rfl h1 ?_
  refine T.get k rfl h2 ?_
  refine T.eqb (AU n _) ?_
  refine T.ite (fun _=>T.ret trivial) (fun _=>?_)
  refine T.ite (fun _=>?_) (fun _=>?_)
  · exact T.bind (DI n _ _ hcells hf hn) (fun _ _=>T.ret trivial)
  refine T.ite (fun _=>T.ret trivial) (fun d1=>?_)
  refine T.ite (fun _=>T.ret trivial) (fun d2=>?_)
  refine T.ite (fun _=>T.ret trivial) (fun _=>?_)
  have d1:=of_decide_eq_false d1
  have d2:=of_decide_eq_false d2
  refine T.get (c.From[k]).toNat (by omega) (by omega) ?_
  refine T.eqb (sF n _) ?_
  refine T.ite (fun _=>?_) (fun _=>T.ret trivial)
  refine T.ite (fun _=>?_) (fun _=>T.ret trivial)
  exact T.ret trivial
/-- What holds of a candidate that may be. -/
structure OK (n:Nat) (c:ai):Prop where
  h1:1≤c.Harts.length
  h8:c.Harts.length≤8
  cellsB:jH n c.First=some true
  cells:kO c.First
  rows:∃ w,iter (fun s=>eJ n c s) n (0,0)=some (.inl w)∧w=(c.Harts.flatten.length:Int)
  fromLen:c.From.length=c.Harts.flatten.length
  froms:∀ k:Nat,k<c.Harts.flatten.length→fy n c c.Harts.flatten (k:Int)=some true
  ordB:e_ n c c.Harts.flatten=some true
  ord:∀ (i:Nat) (hi:i<c.Order.length),∃ j:Nat,∃ hj:j<c.Harts.flatten.length,c.Order[i]=(j:Int)∧oG c.Harts.flatten[j].Kind=true
  dist:∀ (i j:Nat) (hi:i<c.Order.length) (hj:j<c.Order.length),i<j→c.Order[i]≠c.Order[j]
  count:c.Order.length=cnt c.Harts.flatten c.Harts.flatten.length
theorem Ho (n:Nat) (c:ai) (hc:gJ c) (hn:200≤n):T (iter (fun s=>eJ n c s) n (0,0)) (fun r=>match r with | .inl w=>w=(c.Harts.flatten.length:Int) | .inr _=>True):=by
  have hh:=hc.harts
  have hf:=hc.all
  refine T.loop c.Harts.length (fun i s=>s=((i:Int),((FL c.Harts i).length:Int))) _ ?_ rfl (by omega)
  rintro i s hi rfl
  unfold eJ
  refine T.ite (fun cd=>?_) (fun cd=>T.fin (by dsimp only; rw [kP _ (eu cd)]))
  have hil:=ej cd
  have hr:=jz hil
  refine T.get i rfl hil ?_
  dsimp only
  rw [addN _ _ (by omega)]
  refine T.ite (fun _=>T.ret trivial) (fun _=>?_)
  refine T.bind (EB n (i:Int) c.Harts[i] (hc.rows _ (List.getElem_mem hil)) hn) (fun r _=>?_)
  refine T.ite (fun _=>T.ret trivial) (fun c4=>?_)
  refine T.ret ⟨hil,?_⟩
  rw [bU _ (by omega),fT hil,List.length_append]
/-- The check, whole: it says yes just where all is as it should be. -/
theorem Hp (n:Nat) (c:ai) (hc:gJ c) (hn:200≤n):T (bW n c) (fun r=>(r=0∧OK n c)∨(r=2∧¬ OK n c)):=by
  have hh:=hc.harts
  have hf:=hc.all
  have hfi:=hc.first
  have hfr:=hc.from_
  have hor:=hc.order
  unfold bW
  obtain ⟨b,hb1,hb2⟩:=J0 n c.First (by omega) hn
  refine T.eqb hb1 ?_
  refine T.ite (fun d=>T.ret (.inr ⟨rfl,fun h=>by have:=h.cellsB; rw [hb1] at this; cases this; simp at d⟩)) (fun c1=>?_)
  have cb:=l6 c1
  subst cb
  have hcells:=hb2 rfl
  refine T.ite (fun d=>T.ret (.inr ⟨rfl,fun h=>by have:=h.h1; have:=of_decide_eq_true d; omega⟩)) (fun c2=>?_)
  refine T.ite (fun d=>T.ret (.inr ⟨rfl,fun h=>by have:=h.h8; have:=of_decide_eq_true d; omega⟩)) (fun c3=>?_)
  have c2:=of_decide_eq_false c2
  have c3:=of_decide_eq_false c3
  obtain ⟨r,hr1,hr2⟩:=Ho n c hc hn
  refine T.eqb hr1 ?_
  cases r with
  | inr _=>exact T.ret (.inr ⟨rfl,fun h=>by obtain ⟨w,hw,_⟩:=h.rows; rw [hr1] at hw; cases hw⟩)
  | inl w =>
  have hr2:w=(c.Harts.flatten.length:Int):=hr2
  dsimp only
  refine T.eqb (xF n c hc hn) ?_
  refine T.ite (fun d=>T.ret (.inr ⟨rfl,fun h=>by have:=h.fromLen; rw [hr2,this] at d; simp at d⟩)) (fun c4=>?_)
  have hlen:c.From.length=c.Harts.flatten.length:=by have:=qB c4; omega
  refine T.bind (P:=fun (r:Unit⊕Unit)=>match r with | .inl _=>∀ k:Nat,k<c.Harts.flatten.length→fy n c c.Harts.flatten (k:Int)=some true | .inr _=>∃ k:Nat,k<c.Harts.flatten.length∧fy n c c.Harts.flatten (k:Int)=some false) ?_ ?_
  · refine T.loop c.Harts.flatten.length (fun i s=>s=(i:Int)∧∀ k:Nat,k<i→fy n c c.Harts.flatten (k:Int)=some true) _ ?_ ⟨rfl,fun k h=>by omega⟩ (by omega)
    rintro i s hi ⟨rfl,hq⟩
    unfold f9
    refine T.ite (fun cd=>?_) (fun cd=>T.fin (fun k hk=>hq k (by have:=eu cd; omega)))
    have hil:=ej cd
    obtain ⟨b,hb,_⟩:=from_ n c c.Harts.flatten i hcells (by omega) hn hil (by omega)
    refine T.eqb hb ?_
    refine T.ite (fun d=>T.ret ⟨i,hil,by rw [hb]; cases b <;> simp_all⟩) (fun c5=>?_)
    rw [l6 c5] at hb
    refine T.ret ⟨hil,bU _ (by omega),fun k hk=>?_⟩
    by_cases e:k=i
    · subst e; exact hb
    · exact hq k (by omega)
  intro r hr
  cases r with
  | inr _ =>
    obtain ⟨k,hk,hkf⟩:=hr
    exact T.ret (.inr ⟨rfl,fun h=>by have:=h.froms k hk; rw [hkf] at this; cases this⟩)
  | inl w2 =>
  have hfroms:∀ k:Nat,k<c.Harts.flatten.length→fy n c c.Harts.flatten (k:Int)=some true:=hr
  obtain ⟨b,hb,hb2⟩:=zL n c c.Harts.flatten hf hor hn
  refine T.eqb hb ?_
  refine T.ite (fun d=>T.ret (.inr ⟨rfl,fun h=>by have:=h.ordB; rw [hb] at this; cases this; simp at d⟩)) (fun c5=>?_)
  have:=l6 c5
  subst this
  obtain ⟨o1,o2,o3⟩:=hb2 rfl
  exact T.ret (.inl ⟨rfl,by omega,by omega,hb1,hcells,⟨w,hr1,hr2⟩,hlen,hfroms,hb,o1,o2,o3⟩)
theorem DJ (n:Nat) (l:List Int) (h:l.length≤60):c_ n l=some l:=by
  unfold c_
  rw [fx (fB (by omega))]
theorem Pj (n:Nat) (e:Event) (h:small e):rn n e=some e:=by
  unfold rn
  rw [DJ n _ h.1,DJ n _ h.2.1,DJ n _ h.2.2]
  rfl
theorem Hq {c:ai} (hc:gJ c) (i:Nat) (hi:i<c.Harts.flatten.length):small c.Harts.flatten[i]:=by
  obtain ⟨q,hq,k,hk,_,e⟩:=Ie c.Harts i hi
  rw [e]
  exact (hc.rows _ (List.getElem_mem hq)).2 _ (List.getElem_mem hk)
theorem Pk (n:Nat) (c:ai) (hc:gJ c) (hn:200≤n) (h0:bW n c=some 0):ly n c=some c.Harts.flatten:=by
  have hf:=hc.all
  have key:T (ly n c) (fun l=>l=c.Harts.flatten):=by
    unfold ly
    refine T.eqb h0 ?_
    refine T.ite (fun d=>by simp at d) (fun _=>?_)
    refine T.eqb (xF n c hc hn) ?_
    refine T.bind (P:=fun l=>l=c.Harts.flatten) ?_ (fun l hl=>T.ret hl)
    refine T.loop c.Harts.flatten.length (fun i s=>s=(c.Harts.flatten.take i,(i:Int))) _ ?_ (by simp) (by omega)
    rintro i s hi rfl
    unfold mh
    refine T.ite (fun cd=>?_) (fun cd=>T.fin (by dsimp only; exact List.take_of_length_le (eu cd)))
    have hil:=ej cd
    refine T.get i rfl hil ?_
    refine T.eqb (Pj n _ (Hq hc i hil)) ?_
    refine T.grd (fB (by simp only [List.length_take]; omega)) ?_
    refine T.ret ⟨hil,?_⟩
    rw [bU _ (by omega),List.take_succ_eq_append_getElem hil]
  obtain ⟨r,h1,h2⟩:=key
  rw [h1,h2]
theorem Ig (n:Nat) (z:Int) (N:Nat) (hN:N≤60) (hn:200≤n):de n [z] (N:Int)=some (List.replicate N z):=by
  have key:T (de n [z] (N:Int)) (fun l=>l=List.replicate N z):=by
    unfold de
    refine T.ite (fun d=>by have:=of_decide_eq_true d; omega) (fun _=>?_)
    have e1:IntKind.wrap .u64 (([z]:List Int).length:Int)=1:=rfl
    rw [e1,FS (by omega) (by omega)]
    refine T.eqb (mulN n N (by omega)) ?_
    dsimp only
    refine T.ite (fun d=>by simp at d) (fun _=>?_)
    refine T.ite (fun d=>by have:=of_decide_eq_true d; omega) (fun _=>?_)
    rw [yz (by omega) (by omega)]
    refine T.grd (by simp [Nat.blt]; omega) ?_
    refine T.bind (P:=fun l=>l=List.replicate N z) ?_ (fun l hl=>T.ret hl)
    simp only [Int.toNat_natCast,List.length_replicate]
    refine T.loop N (fun i s=>∃ f:Nat,s=(List.replicate f z++List.replicate (N - f) 0,(f:Int))∧i≤f∧f≤N∧(1≤f∨N=0)) _ ?_ ⟨min 1 N,?_,by omega,by omega,by omega⟩ (by omega)
    · rintro i s hi ⟨f,rfl,h1,h2,h3⟩
      unfold dv
      dsimp only
      have hlen:(List.replicate f z++List.replicate (N - f) (0:Int)).length=N:=by simp; omega
      rw [hlen]
      refine T.ite (fun cd=>?_) (fun cd=>?_)
      · have hf:=ej cd
        simp only [Int.toNat_natCast]
        refine T.grd (by simp; omega) ?_
        refine T.grd (by simp; omega) ?_
        refine T.grd (fB (by omega)) ?_
        have ht:List.take f (List.replicate f z++List.replicate (N - f) (0:Int))=List.replicate f z:=by
          rw [List.take_append_of_le_length (by simp)]
          simp
        rw [List.drop_zero,ht,List.length_replicate]
        refine T.ret ⟨by omega,f + min f (N - f),?_,by omega,by omega,by omega⟩
        rw [addN _ _ (by omega)]
        congr 1
        rw [List.take_replicate,List.drop_append,List.length_replicate,List.drop_eq_nil_of_le (by simp),List.nil_append,List.drop_replicate,← List.append_assoc,List.replicate_append_replicate]
        have e2:f + min (N - f) f=f + min f (N - f):=by omega
        have e3:N - f - (f + min f (N - f) - f)=N - (f + min f (N - f)):=by omega
        rw [e2,e3]
      · have:=eu cd
        have e:f=N:=by omega
        subst e
        exact T.fin (by simp)
    · cases N with
      | zero=>simp
      | succ m =>
        have:min 1 (m + 1)=1:=by omega
        rw [this]
        simp only [List.length_cons,List.length_nil,Nat.zero_add,Nat.add_one_sub_one]
        congr 1
        simp [List.replicate_succ]
  obtain ⟨r,h1,h2⟩:=key
  rw [h1,h2]
/-- Where each number stands in the order. -/
def pJ (c:ai) (l:List Int) (i:Nat):Prop:=∀ (k:Nat) (hk:k<l.length),(l[k]=-1∧∀ (a:Nat) (_:a<i) (ha:a<c.Order.length),c.Order[a]≠(k:Int))∨∃ a:Nat,∃ ha:a<c.Order.length,a<i∧c.Order[a]=(k:Int)∧l[k]=(a:Int)
theorem Ih (n:Nat) (c:ai) (hc:gJ c) (hn:200≤n) (h0:bW n c=some 0) (ok:ox n c):T (iL n c) (fun l=>l.length=c.Harts.flatten.length∧pJ c l c.Order.length):=by
  have hf:=hc.all
  have hor:=hc.order
  unfold iL
  refine T.eqb h0 ?_
  refine T.ite (fun d=>by simp at d) (fun _=>?_)
  rw [ok.fromLen]
  refine T.eqb (Ig n (-1) _ hf hn) ?_
  refine T.bind (P:=fun l=>l.length=c.Harts.flatten.length∧pJ c l c.Order.length) ?_ (fun l hl=>T.ret hl)
  refine T.loop c.Order.length (fun i s=>s.2=(i:Int)∧s.1.length=c.Harts.flatten.length∧pJ c s.1 i) _ ?_ ⟨rfl,by simp,fun k hk=>.inl ⟨by simp,fun a h=>by omega⟩⟩ (by omega)
  rintro i ⟨s1,s2⟩ hi ⟨e1,e2,hq⟩
  dsimp only at e1 e2 hq
  subst e1
  unfold jd
  refine T.ite (fun cd=>?_) (fun cd=>?_)
  · have hil:=ej cd
    obtain ⟨j,hj,hoj,_⟩:=ok.ord i hil
    refine T.get i rfl hil ?_
    refine T.get j hoj (by dsimp only; omega) ?_
    refine T.ret ⟨hil,bU _ (by omega),by dsimp only; rw [List.length_set]; exact e2,fun k hk=>?_⟩
    dsimp only at hk ⊢
    rw [Cw hoj hk (by rw [List.length_set] at hk; exact hk)]
    by_cases e:j=k
    · subst e
      rw [if_pos rfl]
      exact .inr ⟨i,hil,by omega,hoj,rfl⟩
    · rw [if_neg e]
      rcases hq k (by rw [List.length_set] at hk; exact hk) with ⟨h1,h2⟩ | ⟨a,ha,h1,h2,h3⟩
      · refine .inl ⟨h1,fun a hai ha=>?_⟩
        by_cases e3:a=i
        · subst e3; rw [hoj]; omega
        · exact h2 a (by omega) ha
      · exact .inr ⟨a,ha,by omega,h2,h3⟩
  · have:=eu cd
    have e:i=c.Order.length:=by omega
    subst e
    exact T.fin ⟨e2,hq⟩
theorem rg (l:List Int) (h:l.length≤1000):Nat.ble (l.length * 8) 140737488355328=true:=fB (by omega)
theorem Ii (n:Nat) (c:ai) (hc:gJ c) (hn:200≤n) (h0:bW n c=some 0) (h k:Nat) (hh:h<c.Harts.length) (hk:k<c.Harts[h].length):dB n c (h:Int) (k:Int)=some ((((FL c.Harts h).length + k:Nat):Int),0):=by
  have hf:=hc.all
  have hhl:=hc.harts
  have hro:=jz hh
  have hb:∀ i:Nat,i<c.Harts.length→gy n c.First c.Harts c.From c.Order ((FL c.Harts i).length:Int) (i:Int)=some (((FL c.Harts (i + 1)).length:Int),((i + 1:Nat):Int)):=fun i hi=>by
    unfold gy
    rw [if_pos (by simp; omega),Ey rfl hi]
    have hr:=jz hi
    simp only [Option.bind_some]
    rw [addN _ _ (by omega),bU _ (by omega),fT hi,List.length_append]
  have key:T (dB n c (h:Int) (k:Int)) (fun r=>r=((((FL c.Harts h).length + k:Nat):Int),0)):=by
    unfold dB
    refine T.eqb h0 ?_
    refine T.ite (fun d=>by simp at d) (fun _=>?_)
    refine T.ite (fun d=>by have:=of_decide_eq_true d; omega) (fun _=>?_)
    refine T.ite (fun d=>by have:=of_decide_eq_true d; omega) (fun _=>?_)
    refine T.ite (fun d=>by have:=of_decide_eq_true d; omega) (fun _=>?_)
    refine T.get h rfl hh ?_
    refine T.ite (fun d=>by have:=of_decide_eq_true d; omega) (fun _=>?_)
    refine T.eqb (a:=(0,0)) rfl ?_
    refine T.bind (P:=fun t=>t=(((FL c.Harts h).length:Int),(h:Int))) ?_ ?_
    · refine T.loop h (fun i s=>s=(((FL c.Harts i).length:Int),(i:Int),(i:Int))) _ ?_ rfl (by omega)
      rintro i s hi rfl
      unfold i9
      refine T.ite (fun cd=>?_) (fun cd=>?_)
      rotate_left
      · have hge:=eu cd
        have e:i=h:=by omega
        subst e
        exact T.fin rfl
      have hil:i<h:=ej cd
      refine T.eqb (hb i (by omega)) ?_
      refine T.ret ⟨hil,?_⟩
      rw [bU _ (by omega)]
    · rintro t rfl
      refine T.eqb (hb h hh) ?_
      refine T.ret ?_
      rw [addN _ _ (by omega)]
  obtain ⟨r,h1,h2⟩:=key
  rw [h1,h2]

/-! ### The same events -/
theorem DK (n:Nat) (c:ai) (hc:gJ c) (hr:ox n c) (hn:200≤n):T (jL n c) (fun l=>l.length=c.Harts.flatten.length∧pJ c l c.Order.length):=by
  have hf:=hc.all
  have hor:=hc.order
  unfold jL
  refine T.eqb (uP n c hc hn hr) ?_
  refine T.ite (fun d=>by simp at d) (fun _=>?_)
  rw [hr.fromLen]
  refine T.grd (by simp [-List.length_flatten]; omega) ?_
  rw [Int.toNat_natCast]
  refine T.bind (P:=fun l=>l=List.replicate c.Harts.flatten.length (-1)) ?_ (fun l hl=>?_)
  · refine T.loop c.Harts.flatten.length (fun i s=>s=(List.replicate i (-1)++List.replicate (c.Harts.flatten.length - i) 0,(i:Int))) _ ?_ (by simp) (by omega)
    rintro i s hi rfl
    unfold j3
    dsimp only
    have hlen:(List.replicate i (-1:Int)++List.replicate (c.Harts.flatten.length - i) 0).length=c.Harts.flatten.length:=by
      simp only [List.length_append,List.length_replicate]
      omega
    rw [hlen]
    refine T.ite (fun cd=>?_) (fun cd=>?_)
    · have hil:=ej cd
      refine T.get i rfl (by rw [hlen]; exact hil) ?_
      refine T.ret ⟨hil,?_⟩
      rw [bU _ (by omega),Int.toNat_natCast]
      congr 1
      apply List.ext_getElem
      · simp only [List.length_set,List.length_append,List.length_replicate]
        omega
      · intro k h1 h2
        rw [List.getElem_set]
        split
        · rename_i e
          subst e
          rw [List.getElem_append_left (by simp)]
          simp
        · rename_i e
          by_cases hk:k<i
          · rw [List.getElem_append_left (by simpa using hk),List.getElem_append_left (by simp; omega)]
            simp
          · rw [List.getElem_append_right (by simp; omega),List.getElem_append_right (by simp; omega)]
            simp
    · have:=eu cd
      have e:i=c.Harts.flatten.length:=by omega
      subst e
      exact T.fin (by simp)
  · subst hl
    refine T.bind (P:=fun l=>l.length=c.Harts.flatten.length∧pJ c l c.Order.length) ?_ (fun l hl=>T.ret hl)
    refine T.loop c.Order.length (fun i s=>s.2=(i:Int)∧s.1.length=c.Harts.flatten.length∧pJ c s.1 i) _ ?_ ⟨rfl,by simp,fun k hk=>.inl ⟨by simp,fun a h=>by omega⟩⟩ (by omega)
    rintro i ⟨s1,s2⟩ hi ⟨e1,e2,hq⟩
    dsimp only at e1 e2 hq
    subst e1
    unfold j4
    refine T.ite (fun cd=>?_) (fun cd=>?_)
    · have hil:=ej cd
      obtain ⟨j,hj,hoj,_⟩:=hr.ord i hil
      refine T.get i rfl hil ?_
      refine T.get j hoj (by dsimp only; omega) ?_
      refine T.ret ⟨hil,bU _ (by omega),by dsimp only; rw [List.length_set]; exact e2,fun k hk=>?_⟩
      dsimp only at hk ⊢
      rw [Cw hoj hk (by rw [List.length_set] at hk; exact hk)]
      by_cases e:j=k
      · subst e
        rw [if_pos rfl]
        exact .inr ⟨i,hil,by omega,hoj,rfl⟩
      · rw [if_neg e]
        rcases hq k (by rw [List.length_set] at hk; exact hk) with ⟨h1,h2⟩ | ⟨a,ha,h1,h2,h3⟩
        · refine .inl ⟨h1,fun a hai ha=>?_⟩
          by_cases e3:a=i
          · subst e3; rw [hoj]; omega
          · exact h2 a (by omega) ha
        · exact .inr ⟨a,ha,by omega,h2,h3⟩
    · have:=eu cd
      have e:i=c.Order.length:=by omega
      subst e
      exact T.fin ⟨e2,hq⟩
end Go.Proofs.YtcckeabholabcaaGreat
