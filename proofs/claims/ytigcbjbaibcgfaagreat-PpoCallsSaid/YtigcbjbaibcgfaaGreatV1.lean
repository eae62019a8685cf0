/- The rules, of every two. Plain lists, no program in sight. -/
import Derived.Test.YtigcbjbaibcgfaaGreatE9
namespace Go.Proofs.YtigcbjbaibcgfaaGreat
open Go A

def aheadB (all:List Event) (a b:Nat):Bool :=
 match all[a]?,all[b]? with
 | some x,some y=>decide (a<b)&&(decide (x.Hart=y.Hart)&&(memB x.Kind&&memB y.Kind))
 | _,_=>false
theorem aheadB_eq {all:List Event} {a b:Nat} (ha:a<all.length) (hb:b<all.length):aheadB all a b=(decide (a<b)&&(decide (all[a].Hart=all[b].Hart)&&(memB all[a].Kind&&memB all[b].Kind))):=by
 unfold aheadB
 rw [List.getElem?_eq_getElem ha,List.getElem?_eq_getElem hb]
theorem aheadB_lt {all:List Event} {a b:Nat} (h:aheadB all a b=true):a<b∧b<all.length:=by
 unfold aheadB at h
 split at h
 ·rename_i x y h1 h2
  simp only [Bool.and_eq_true,decide_eq_true_eq] at h
  obtain ⟨h3,_⟩:=List.getElem?_eq_some_iff.1 h2
  exact ⟨h.1,h3⟩
 ·simp at h
theorem aheads_ (n:Nat) (c:Cand) (v:ppo_view) (hv:View c v) (a b:Nat) (ha:a<c.Harts.flatten.length) (hb:b<c.Harts.flatten.length) :
  ppo_view_ahead2 n v (a:Int) (b:Int)=some (aheadB c.Harts.flatten a b):=by
 by_cases h:a<b
 ·rw [ahead_ n c v hv a b h hb,aheadB_eq ha hb,decide_eq_true h,Bool.true_and]
 ·rw [aheadB_eq ha hb,decide_eq_false h,Bool.false_and]
  unfold ppo_view_ahead2
  rw [decide_eq_false (show ¬ (a:Int)<0 by omega),decide_eq_false (show ¬ (b:Int)≥(v.all.length:Int) by rw [hv.alls]; omega),decide_eq_true (show (a:Int)≥(b:Int) by omega)]
  rfl

/-- The rule of two. -/
def rv (n:Nat) (v:ppo_view) (a b:Nat):Int:=(ppo_view_rule2 n v (a:Int) (b:Int)).getD 0
def HH (n:Nat) (c:Cand) (v:ppo_view) (a b:Nat):Nat→Bool :=
 match c.Harts.flatten[a]?,c.Harts.flatten[b]? with
 | some x,some y=>H n v a b x y
 | _,_=>fun _=>false
theorem rv_ (n:Nat) (c:Cand) (v:ppo_view) (hv:View c v) (hc:Light c) (hr:RefOK n c) (hn:200≤n) (a b:Nat) (ha:a<c.Harts.flatten.length) (hb:b<c.Harts.flatten.length) :
  ppo_view_rule2 n v (a:Int) (b:Int)=some (rv n v a b)∧(aheadB c.Harts.flatten a b=false→rv n v a b=0)∧(aheadB c.Harts.flatten a b=true→firstH (HH n c v a b) (rv n v a b)):=by
 have key:T (ppo_view_rule2 n v (a:Int) (b:Int)) (fun r=>(aheadB c.Harts.flatten a b=false→r=0)∧(aheadB c.Harts.flatten a b=true→firstH (HH n c v a b) r)):=by
  cases h:aheadB c.Harts.flatten a b with
  | false =>
   unfold ppo_view_rule2
   refine T.eqb (aheads_ n c v hv a b ha hb) ?_
   rw [h]
   exact T.ret ⟨fun _=>rfl,fun h=>by simp at h⟩
  | true =>
   have h2:=h
   rw [aheadB_eq ha hb] at h2
   simp only [Bool.and_eq_true,decide_eq_true_eq] at h2
   refine (rule_ n c v hv hc hr a b h2.1 hb hn h2.2.1 h2.2.2.1 h2.2.2.2).imp (fun r hr=>⟨fun h=>by simp at h,fun _=>?_⟩)
   unfold HH
   rw [List.getElem?_eq_getElem ha,List.getElem?_eq_getElem hb]
   exact hr
 obtain ⟨r,h1,h2⟩:=key
 have e:rv n v a b=r:=by unfold rv; rw [h1]; rfl
 rw [e]
 exact ⟨h1,h2⟩
/-- Everything that is known of the rules. -/
structure Rules (n:Nat) (c:Cand) (v:ppo_view):Prop where
 val:∀ a b:Nat,a<c.Harts.flatten.length→b<c.Harts.flatten.length→ppo_view_rule2 n v (a:Int) (b:Int)=some (rv n v a b)
 no:∀ a b:Nat,a<c.Harts.flatten.length→b<c.Harts.flatten.length→aheadB c.Harts.flatten a b=false→rv n v a b=0
 first:∀ a b:Nat,a<c.Harts.flatten.length→b<c.Harts.flatten.length→aheadB c.Harts.flatten a b=true→firstH (HH n c v a b) (rv n v a b)
theorem rules_ (n:Nat) (c:Cand) (v:ppo_view) (hv:View c v) (hc:Light c) (hr:RefOK n c) (hn:200≤n):Rules n c v :=
 ⟨fun a b ha hb=>(rv_ n c v hv hc hr hn a b ha hb).1,fun a b ha hb=>(rv_ n c v hv hc hr hn a b ha hb).2.1,fun a b ha hb=>(rv_ n c v hv hc hr hn a b ha hb).2.2⟩
theorem rv_pos {n:Nat} {c:Cand} {v:ppo_view} (R:Rules n c v) {a b:Nat} (ha:a<c.Harts.flatten.length) (hb:b<c.Harts.flatten.length) (h:0<rv n v a b):aheadB c.Harts.flatten a b=true:=by
 cases e:aheadB c.Harts.flatten a b with
 | true=>rfl
 | false=>have:=R.no a b ha hb e; omega
end Go.Proofs.YtigcbjbaibcgfaaGreat
