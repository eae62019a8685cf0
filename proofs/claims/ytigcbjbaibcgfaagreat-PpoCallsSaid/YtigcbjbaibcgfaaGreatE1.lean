/- An event may be: the program's answer and the document's are one. Plain lists, no program in sight. -/
import Derived.Test.YtigcbjbaibcgfaaGreatM1
namespace Go.Proofs.YtigcbjbaibcgfaaGreat
open Go A

theorem addN (a b:Nat) (h:a + b≤1000000):addW .i64 (a:Int) (b:Int)=((a + b:Nat):Int):=by
 rw [addI (by omega) (by omega)]; omega
theorem addN1 (a:Nat) (h:a<1000000):addW .i64 (a:Int) 1=((a + 1:Nat):Int):=by
 have:=addN a 1 (by omega)
 exact this
theorem subN (a b:Nat) (h:b≤a) (h2:a≤1000000):subW .i64 (a:Int) (b:Int)=((a - b:Nat):Int):=by
 rw [subI (by omega) (by omega)]; omega
theorem subN1 (a:Nat) (h:1≤a) (h2:a≤1000000):subW .i64 (a:Int) 1=((a - 1:Nat):Int):=by
 have:=subN a 1 h h2
 exact this

/-! ### Lists that rise -/
def risB:Int→List Int→Bool
 | _,[]=>true
 | a,x::l=>decide (a<x)&&risB x l
theorem tRising (n0:Nat) (l:List Int) (hl:l.length≤1000):∀ (xs pre:List Int) (a:Int) (n:Nat),l=pre++xs→xs.length<n →
  iter (fun s=>taint_Rising_L1 n0 l s) n (a,(pre.length:Int))=some (if risB a xs=true then .inl () else .inr ())
 | _,_,_,0,_,h=>by omega
 | [],pre,a,n + 1,h1,h2=>by
  rw [iter_succ]
  have:taint_Rising_L1 n0 l (a,(pre.length:Int))=some (.inr (.inl ())):=by
   unfold taint_Rising_L1
   rw [if_neg (by simp [h1])]
  rw [this]
  rfl
 | x::xs,pre,a,n + 1,h1,h2=>by
  rw [iter_succ]
  have hx:getI l (pre.length:Int)=some x:=by rw [getI_nat,h1]; simp
  have hlen:pre.length<l.length:=by rw [h1]; simp
  have hs:taint_Rising_L1 n0 l (a,(pre.length:Int))=if a<x then some (.inl (x,((pre++[x]).length:Int))) else some (.inr (.inr ())):=by
   unfold taint_Rising_L1
   rw [if_pos (by simp; omega)]
   dsimp only
   rw [hx]
   simp only [Option.bind_some]
   rw [addN1 _ (by omega)]
   by_cases c:a<x
   ·rw [if_pos c,if_neg (by simp; omega)]; simp
   ·rw [if_neg c,if_pos (by simp; omega)]
  rw [hs]
  by_cases c:a<x
  ·rw [if_pos c]
   simp only
   rw [tRising n0 l hl xs (pre++[x]) x n (by rw [h1]; simp) (by simp at h2; omega)]
   simp [risB,c]
  ·rw [if_neg c]
   simp [risB,c]
theorem tRising_ (n:Nat) (l:List Int) (hl:l.length≤1000) (hn:l.length<n):taint_Rising n l=some (risB (-1) l):=by
 unfold taint_Rising
 have:=tRising n l hl l [] (-1) n rfl hn
 rw [show (([]:List Int).length:Int)=0 from rfl] at this
 rw [this]
 cases risB (-1) l <;> rfl
theorem rRising (n0:Nat) (l:List Int) (hl:l.length≤1000):∀ (xs pre:List Int) (a:Int) (n:Nat),l=pre++xs→((pre=[]∧a=-1)∨(pre.getLast?=some a∧0≤a))→xs.length<n →
  iter (fun s=>ref_Rising_L1 n0 l s) n (pre.length:Int)=some (if risB a xs=true then .inl () else .inr ())
 | _,_,_,0,_,_,h=>by omega
 | [],pre,a,n + 1,h1,_,h2=>by
  rw [iter_succ]
  have:ref_Rising_L1 n0 l (pre.length:Int)=some (.inr (.inl ())):=by
   unfold ref_Rising_L1
   rw [if_neg (by simp [h1])]
  rw [this]
  rfl
 | x::xs,pre,a,n + 1,h1,ha,h2=>by
  rw [iter_succ]
  have hx:getI l (pre.length:Int)=some x:=by rw [getI_nat,h1]; simp
  have hlen:pre.length<l.length:=by rw [h1]; simp
  have hs:ref_Rising_L1 n0 l (pre.length:Int)=if a<x then some (.inl ((pre++[x]).length:Int)) else some (.inr (.inr ())):=by
   unfold ref_Rising_L1
   rw [if_pos (by simp; omega),hx]
   simp only [Option.bind_some]
   rw [addN1 _ (by omega)]
   rcases ha with ⟨rfl,rfl⟩ | ⟨hp,h0⟩
   ·by_cases c:x<0
    ·rw [if_pos (by simpa using c),if_neg (by omega)]
    ·rw [if_neg (by simpa using c),if_neg (by simp),if_pos (by omega)]
     simp
   ·have hne:pre≠[]:=by rintro rfl; simp at hp
    have hpl:0<pre.length:=List.length_pos_iff.2 hne
    have hg:getI l (subW .i64 (pre.length:Int) 1)=some a:=by
     rw [subN1 _ (by omega) (by omega),getI_nat,h1,List.getElem?_append_left (by omega)]
     rw [List.getLast?_eq_getElem?] at hp
     exact hp
    by_cases c:x<0
    ·rw [if_pos (by simpa using c),if_neg (by omega)]
    ·rw [if_neg (by simpa using c),if_pos (by simp; omega),hg]
     simp only [Option.bind_some]
     by_cases c2:a<x
     ·rw [if_neg (by simp; omega),if_pos c2]; simp
     ·rw [if_pos (by simp; omega),if_neg c2]
  rw [hs]
  by_cases c:a<x
  ·rw [if_pos c]
   simp only
   rw [rRising n0 l hl xs (pre++[x]) x n (by rw [h1]; simp) (.inr ⟨by simp,by rcases ha with ⟨_,rfl⟩ | ⟨_,h0⟩ <;> omega⟩) (by simp at h2; omega)]
   simp [risB,c]
  ·rw [if_neg c]
   simp [risB,c]
theorem rRising_ (n:Nat) (l:List Int) (hl:l.length≤1000) (hn:l.length<n):ref_Rising n l=some (risB (-1) l):=by
 unfold ref_Rising
 have:=rRising n l hl l [] (-1) n rfl (.inl ⟨rfl,rfl⟩) hn
 rw [show (([]:List Int).length:Int)=0 from rfl] at this
 rw [this]
 cases risB (-1) l <;> rfl

def belB (l:List Int) (at_:Int):Bool:=risB (-1) l&&(match l.getLast? with | none=>true | some x=>decide (x<at_))
theorem getLastI (l:List Int) (h:l≠[]) (hl:l.length≤1000):getI l (subW .i64 (l.length:Int) 1)=l.getLast?:=by
 have:=List.length_pos_iff.2 h
 rw [subN1 _ (by omega) (by omega),getI_nat,List.getLast?_eq_getElem?]
theorem below_core (l:List Int) (at_:Int) (hl:l.length≤1000):(if risB (-1) l=true then if ((l.length:Int)==0)=true then some true else (getI l (subW .i64 (l.length:Int) 1)).bind fun x4=>some (decide (x4<at_)) else some false)=some (belB l at_):=by
 unfold belB
 cases hr:risB (-1) l with
 | false=>simp
 | true =>
  cases l with
  | nil=>rfl
  | cons x l =>
   rw [if_pos rfl,if_neg (by simp; omega),getLastI _ (by simp) hl]
   have hs:(x::l).getLast?=some ((x::l).getLast (by simp)):=List.getLast?_eq_some_getLast (by simp)
   rw [hs]
   simp
theorem tBelow (n:Nat) (l:List Int) (at_:Int) (hl:l.length≤1000) (hn:l.length<n):event_below n l at_=some (belB l at_):=by
 unfold event_below
 rw [tRising_ n l hl hn]
 exact below_core l at_ hl
theorem rBelow (n:Nat) (l:List Int) (at_:Int) (hl:l.length≤1000) (hn:l.length<n):ref_below n l at_=some (belB l at_):=by
 unfold ref_below
 rw [rRising_ n l hl hn]
 exact below_core l at_ hl

/-! ### Events that are the same -/
theorem eqLoop (n0:Nat) (l m:List Int) (hl:l.length≤1000) (hlm:l.length=m.length):∀ (xs pre ys:List Int) (n:Nat),l=pre++xs→m=pre++ys→xs.length<n →
  iter (fun s=>slices_Equal_int_int_L1 n0 l m s) n (pre.length:Int)=some (if xs=ys then .inl () else .inr ())
 | _,_,_,0,_,_,h=>by omega
 | [],pre,ys,n + 1,h1,h2,h3=>by
  rw [iter_succ]
  have:slices_Equal_int_int_L1 n0 l m (pre.length:Int)=some (.inr (.inl ())):=by
   unfold slices_Equal_int_int_L1
   rw [if_neg (by simp [h1])]
  rw [this]
  have:ys=[]:=by rw [h1,h2] at hlm; simp at hlm; exact hlm
  rw [this]
  rfl
 | x::xs,pre,[],n + 1,h1,h2,h3=>by rw [h1,h2] at hlm; simp at hlm
 | x::xs,pre,y::ys,n + 1,h1,h2,h3=>by
  rw [iter_succ]
  have hx:getI l (pre.length:Int)=some x:=by rw [getI_nat,h1]; simp
  have hy:getI m (pre.length:Int)=some y:=by rw [getI_nat,h2]; simp
  have hlen:pre.length<l.length:=by rw [h1]; simp
  have hs:slices_Equal_int_int_L1 n0 l m (pre.length:Int)=if x=y then some (.inl ((pre++[x]).length:Int)) else some (.inr (.inr ())):=by
   unfold slices_Equal_int_int_L1
   rw [if_pos (by simp; omega),hx]
   simp only [Option.bind_some]
   rw [hy]
   simp only [Option.bind_some]
   rw [addN1 _ (by omega)]
   by_cases c:x=y
   ·rw [if_pos c,if_neg (by simp [c])]; simp
   ·rw [if_neg c,if_pos (by simp [c])]
  rw [hs]
  by_cases c:x=y
  ·rw [if_pos c]
   subst c
   simp only
   rw [eqLoop n0 l m hl hlm xs (pre++[x]) ys n (by rw [h1]; simp) (by rw [h2]; simp) (by simp at h3; omega)]
   simp
  ·rw [if_neg c]
   simp [c]
theorem eq_ (n:Nat) (l m:List Int) (hl:l.length≤1000) (hn:l.length<n):slices_Equal_int_int n l m=some (decide (l=m)):=by
 unfold slices_Equal_int_int
 by_cases h:l.length=m.length
 ·rw [if_neg (by simp; omega)]
  have:=eqLoop n l m hl h l [] m n rfl rfl hn
  rw [show (([]:List Int).length:Int)=0 from rfl] at this
  rw [this]
  by_cases c:l=m
  ·rw [if_pos c]; simp [c]
  ·rw [if_neg c]; simp [c]
 ·rw [if_pos (by simp; omega)]
  have:l≠m:=fun e=>h (by rw [e])
  simp [this]
def small (e:Event):Prop:=e.Deps.Addr.length≤60∧e.Deps.Data.length≤60∧e.Deps.Way.length≤60
def restOf (e:Event):event_rest:=event_rest.mk e.Hart e.At e.Kind e.Pred e.Succ e.Pair e.Addr e.Load e.Store e.Aq e.Rl
def sameB (a b:Event):Bool:=decide (a.Deps.Addr=b.Deps.Addr)&&(decide (a.Deps.Data=b.Deps.Data)&&(decide (a.Deps.Way=b.Deps.Way)&&event_rest.beq (restOf a) (restOf b)))
theorem same_ (n:Nat) (a b:Event) (ha:small a) (hn:100≤n):event_Same n a b=some (sameB a b):=by
 unfold small at ha
 unfold event_Same event_Same_1
 rw [eq_ n _ _ (by omega) (by omega),eq_ n _ _ (by omega) (by omega),eq_ n _ _ (by omega) (by omega)]
 unfold sameB restOf
 simp only [Option.bind_some]
 generalize decide (a.Deps.Addr=b.Deps.Addr)=b1
 generalize decide (a.Deps.Data=b.Deps.Data)=b2
 generalize decide (a.Deps.Way=b.Deps.Way)=b3
 generalize event_rest.beq _ _=b4
 cases b1 <;> cases b2 <;> cases b3 <;> cases b4 <;> rfl
end Go.Proofs.YtigcbjbaibcgfaaGreat
