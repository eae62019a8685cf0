/- An event may be: the program's answer and the document's are one, kind by kind. Plain lists, no program in sight. -/
import Derived.Test.YtigcbjbaibcgfaaGreatE1
namespace Go.Proofs.YtigcbjbaibcgfaaGreat
open Go A

def hasV (k:Int):Int:=if k=1 then 1 else if k=2 then 2 else if k=3 then 5 else if k=4 then 14 else if k=5 then 7 else if k=6 then 16 else 0
theorem has_ (n:Nat) (k:Int):event_has n k=some (hasV k):=by
 unfold event_has hasV
 simp only [decide_eq_true_eq,beq_iff_eq]
 by_cases h1:k<1
 ·rw [if_pos h1,if_neg (by omega),if_neg (by omega),if_neg (by omega),if_neg (by omega),if_neg (by omega),if_neg (by omega)]
 rw [if_neg h1]
 by_cases h6:k>6
 ·rw [if_pos h6,if_neg (by omega),if_neg (by omega),if_neg (by omega),if_neg (by omega),if_neg (by omega),if_neg (by omega)]
 rw [if_neg h6,if_neg (by omega)]
 have:k=1∨k=2∨k=3∨k=4∨k=5∨k=6:=by omega
 rcases this with rfl | rfl | rfl | rfl | rfl | rfl <;> rfl

def tailB (e:Event) (s p:Bool):Bool :=
 decide (0≤e.Hart)&&(decide (e.Hart<8)&&(decide (0≤e.At)&&(s&&(decide (remW .u64 e.Addr 8=0)&&(decide (0≤e.Pred)&&(decide (e.Pred≤15)&&(decide (0≤e.Succ)&&(decide (e.Succ≤15) &&
  ((!p||(decide (0≤e.Pair)&&decide (e.Pair<e.At)))&&(belB e.Deps.Addr e.At&&(belB e.Deps.Data e.At&&belB e.Deps.Way e.At)))))))))))

theorem c5_ (n:Nat) (e:Event) (hv:Int) (h0:hv≠0) (he:small e) (hn:100≤n) (sf:Int×(List Int)×(List Int)×(List Int)×Int×Int×Int×Bool×Bool×Int×Int) (hs:sf.2.1.length≤60∧sf.2.2.1.length≤60∧sf.2.2.2.1.length≤60) :
  event_Check_C5 n e hv sf=some (if tailB e (sameB (Event.mk e.Hart e.At e.Kind sf.2.2.2.2.1 sf.2.2.2.2.2.1 sf.2.2.2.2.2.2.1 sf.2.2.2.2.2.2.2.1 sf.2.2.2.2.2.2.2.2.1 sf.2.2.2.2.2.2.2.2.2.1 sf.2.2.2.2.2.2.2.2.2.2 sf.1 (Deps.mk sf.2.1 sf.2.2.1 sf.2.2.2.1)) e) ((andW .u64 hv 8) != 0)=true then 0 else 2):=by
 have hsm:=he
 unfold small at hsm
 unfold event_Check_C5
 have hsame:=same_ n (Event.mk e.Hart e.At e.Kind sf.2.2.2.2.1 sf.2.2.2.2.2.1 sf.2.2.2.2.2.2.1 sf.2.2.2.2.2.2.2.1 sf.2.2.2.2.2.2.2.2.1 sf.2.2.2.2.2.2.2.2.2.1 sf.2.2.2.2.2.2.2.2.2.2 sf.1 (Deps.mk sf.2.1 sf.2.2.1 sf.2.2.2.1)) e hs hn
 rw [if_neg (by simpa using h0),hsame,tBelow n _ _ (by omega) (by omega),tBelow n _ _ (by omega) (by omega),tBelow n _ _ (by omega) (by omega)]
 unfold tailB
 generalize sameB _ e=s
 generalize belB e.Deps.Addr e.At=b1
 generalize belB e.Deps.Data e.At=b2
 generalize belB e.Deps.Way e.At=b3
 generalize ((andW .u64 hv 8) != 0)=p
 simp only [Option.bind_some,decide_eq_true_eq,bne_iff_ne]
 by_cases c1:e.Hart<0
 ·rw [if_pos c1]; simp; omega
 rw [if_neg c1]
 by_cases c2:e.Hart≥8
 ·rw [if_pos c2]; simp; omega
 rw [if_neg c2]
 by_cases c3:e.At<0
 ·rw [if_pos c3]; simp; omega
 rw [if_neg c3]
 cases s with
 | false=>simp
 | true =>
 simp only [Bool.not_true,Bool.false_eq_true,if_false]
 by_cases c4:remW .u64 e.Addr 8=0
 case neg=>rw [if_pos (by simpa using c4)]; simp [c4]
 rw [if_neg (by simpa using c4)]
 by_cases c5:e.Pred<0
 ·rw [if_pos c5]; simp; omega
 rw [if_neg c5]
 by_cases c6:e.Pred>15
 ·rw [if_pos c6]; simp; omega
 rw [if_neg c6]
 by_cases c7:e.Succ<0
 ·rw [if_pos c7]; simp; omega
 rw [if_neg c7]
 by_cases c8:e.Succ>15
 ·rw [if_pos c8]; simp; omega
 rw [if_neg c8]
 have d1:decide (0≤e.Hart)=true:=by simp; omega
 have d2:decide (e.Hart<8)=true:=by simp; omega
 have d3:decide (0≤e.At)=true:=by simp; omega
 have d4:decide (remW .u64 e.Addr 8=0)=true:=by simpa using c4
 have d5:decide (0≤e.Pred)=true:=by simp; omega
 have d6:decide (e.Pred≤15)=true:=by simp; omega
 have d7:decide (0≤e.Succ)=true:=by simp; omega
 have d8:decide (e.Succ≤15)=true:=by simp; omega
 rw [d1,d2,d3,d4,d5,d6,d7,d8]
 simp only [Bool.true_and]
 cases p with
 | false =>
  simp only [Bool.false_eq_true,if_false,Bool.not_false,Bool.true_or,Bool.true_and]
  cases b1 <;> cases b2 <;> cases b3 <;> rfl
 | true =>
  simp only [if_true,Bool.not_true,Bool.false_or]
  by_cases c9:e.Pair<0
  ·rw [if_pos c9]
   have:decide (0≤e.Pair)=false:=by simp; omega
   rw [this]; rfl
  rw [if_neg c9]
  have d9:decide (0≤e.Pair)=true:=by simp; omega
  rw [d9]
  by_cases c10:e.Pair≥e.At
  ·rw [if_pos c10]
   have:decide (e.Pair<e.At)=false:=by simp; omega
   rw [this]; rfl
  rw [if_neg c10]
  have d10:decide (e.Pair<e.At)=true:=by simp; omega
  rw [d10]
  cases b1 <;> cases b2 <;> cases b3 <;> rfl

/-- What an event of its kind has. -/
def wantE (e:Event):Event :=
 let h:=hasV e.Kind
 let f:=(andW .u64 h 16) != 0
 let r:=(andW .u64 h 1) != 0
 let w:=(andW .u64 h 2) != 0
 let m:=(andW .u64 h 4) != 0
 let p:=(andW .u64 h 8) != 0
 Event.mk e.Hart e.At e.Kind (if f=true then 0 else e.Addr) (if r=true then e.Load else 0) (if w=true then e.Store else 0) (if m=true then e.Aq else false) (if m=true then e.Rl else false) (if f=true then e.Pred else 0) (if f=true then e.Succ else 0) (if p=true then e.Pair else 0)
  (Deps.mk (if f=true then [] else e.Deps.Addr) (if w=true then e.Deps.Data else []) (if f=true then [] else e.Deps.Way))
def okE (e:Event):Bool:=decide (hasV e.Kind≠0)&&tailB e (sameB (wantE e) e) ((andW .u64 (hasV e.Kind) 8) != 0)

theorem bindS {α:Type} (x:Option α):(x.bind fun t=>some t)=x:=by cases x <;> rfl
theorem c4_ (n:Nat) (e:Event) (h:Int) (s:(List Int)×(List Int)×(List Int)×Int×Int×Int×Bool×Bool×Int×Int):event_Check_C4 n e h s=event_Check_C5 n e h (if ((andW .u64 h 8) != 0)=true then e.Pair else 0,s.1,s.2.1,s.2.2.1,s.2.2.2.1,s.2.2.2.2.1,s.2.2.2.2.2.1,s.2.2.2.2.2.2.1,s.2.2.2.2.2.2.2.1,s.2.2.2.2.2.2.2.2.1,s.2.2.2.2.2.2.2.2.2):=by
 unfold event_Check_C4
 simp only [bindS]
 split <;> rfl
theorem c3_ (n:Nat) (e:Event) (h:Int) (s:(List Int)×(List Int)×(List Int)×Int×Int×Int×Int×Int):event_Check_C3 n e h s=event_Check_C4 n e h (s.1,s.2.1,s.2.2.1,s.2.2.2.1,s.2.2.2.2.1,s.2.2.2.2.2.1,(if ((andW .u64 h 4) != 0)=true then e.Aq else false),(if ((andW .u64 h 4) != 0)=true then e.Rl else false),s.2.2.2.2.2.2.1,s.2.2.2.2.2.2.2):=by
 unfold event_Check_C3
 simp only [bindS]
 split <;> rfl
theorem c2_ (n:Nat) (e:Event) (h:Int) (s:(List Int)×(List Int)×Int×Int×Int×Int):event_Check_C2 n e h s=event_Check_C3 n e h (s.1,(if ((andW .u64 h 2) != 0)=true then e.Deps.Data else []),s.2.1,s.2.2.1,s.2.2.2.1,(if ((andW .u64 h 2) != 0)=true then e.Store else 0),s.2.2.2.2.1,s.2.2.2.2.2):=by
 unfold event_Check_C2
 simp only [bindS]
 split <;> rfl
theorem c1_ (n:Nat) (e:Event) (h:Int) (s:(List Int)×(List Int)×Int×Int×Int):event_Check_C1 n e h s=event_Check_C2 n e h (s.1,s.2.1,s.2.2.1,(if ((andW .u64 h 1) != 0)=true then e.Load else 0),s.2.2.2.1,s.2.2.2.2):=by
 unfold event_Check_C1
 simp only [bindS]
 split <;> rfl
theorem c0_ (n:Nat) (e:Event):event_Check n e=event_Check_C1 n e (hasV e.Kind) ((if ((andW .u64 (hasV e.Kind) 16) != 0)=true then [] else e.Deps.Addr),(if ((andW .u64 (hasV e.Kind) 16) != 0)=true then [] else e.Deps.Way),(if ((andW .u64 (hasV e.Kind) 16) != 0)=true then 0 else e.Addr),(if ((andW .u64 (hasV e.Kind) 16) != 0)=true then e.Pred else 0),(if ((andW .u64 (hasV e.Kind) 16) != 0)=true then e.Succ else 0)):=by
 unfold event_Check
 rw [has_]
 simp only [Option.bind_some,bindS]
 split <;> rfl

theorem check_ (n:Nat) (e:Event) (he:small e) (hn:100≤n):event_Check n e=some (if okE e=true then 0 else 2):=by
 rw [c0_,c1_,c2_,c3_,c4_]
 by_cases h0:hasV e.Kind=0
 ·have hd:okE e=false:=by unfold okE; simp [h0]
  rw [hd]
  unfold event_Check_C5
  rw [if_pos (by simpa using h0)]
  rfl
 ·have hsm:=he
  unfold small at hsm
  have hi:∀ (c:Bool) (l:List Int),l.length≤60→(if c=true then l else []).length≤60:=fun c l h=>by cases c <;> simp [h]
  have hj:∀ (c:Bool) (l:List Int),l.length≤60→(if c=true then [] else l).length≤60:=fun c l h=>by cases c <;> simp [h]
  refine (c5_ n e _ h0 he hn _ ?_).trans ?_
  ·refine ⟨?_,?_,?_⟩
   ·exact hj _ _ hsm.1
   ·exact hi _ _ hsm.2.1
   ·exact hj _ _ hsm.2.2
  have ho:okE e=tailB e (sameB (wantE e) e) ((andW .u64 (hasV e.Kind) 8) != 0):=by
   unfold okE
   rw [decide_eq_true h0]
   exact Bool.true_and _
  rw [ho]
  unfold wantE
  dsimp only

/-! ### The document's -/
theorem rc1_ (n:Nat) (b:Bool):ref_Check2_C1 n b=some (if b=true then 0 else 2):=by
 cases b <;> rfl
def rdB (k:Int):Bool:=k==1||(k==3||k==5)
def wrB (k:Int):Bool:=k==2||(k==4||k==5)
theorem reads_ (n:Nat) (e:Event):ref_Reads n e=some (rdB e.Kind):=by
 unfold ref_Reads rdB
 by_cases h1:(e.Kind==1)=true
 ·rw [if_pos h1,h1]; rfl
 ·rw [if_neg h1,Bool.eq_false_iff.2 h1]
  by_cases h3:(e.Kind==3)=true
  ·rw [if_pos h3,h3]; rfl
  ·rw [if_neg h3,Bool.eq_false_iff.2 h3]; rfl
theorem writes_ (n:Nat) (e:Event):ref_Writes n e=some (wrB e.Kind):=by
 unfold ref_Writes wrB
 by_cases h1:(e.Kind==2)=true
 ·rw [if_pos h1,h1]; rfl
 ·rw [if_neg h1,Bool.eq_false_iff.2 h1]
  by_cases h3:(e.Kind==4)=true
  ·rw [if_pos h3,h3]; rfl
  ·rw [if_neg h3,Bool.eq_false_iff.2 h3]; rfl
theorem memory_ (n:Nat) (e:Event):ref_Memory n e=some (rdB e.Kind||wrB e.Kind):=by
 unfold ref_Memory
 rw [reads_,writes_]
 cases rdB e.Kind <;> rfl
theorem rc4_ (n:Nat) (e:Event) (b:Bool) (he:small e) (hn:100≤n):ref_Check2_C4 n e b=some (b&&(belB e.Deps.Addr e.At&&(belB e.Deps.Data e.At&&(belB e.Deps.Way e.At&&(wrB e.Kind||decide (e.Deps.Data=[])))))):=by
 unfold small at he
 unfold ref_Check2_C4
 rw [rBelow n _ _ (by omega) (by omega),rBelow n _ _ (by omega) (by omega),rBelow n _ _ (by omega) (by omega),writes_]
 have hd:((e.Deps.Data.length:Int)==0)=decide (e.Deps.Data=[]):=by
  cases e.Deps.Data with
  | nil=>rfl
  | cons x l=>simp; omega
 rw [hd]
 cases b <;> cases belB e.Deps.Addr e.At <;> cases belB e.Deps.Data e.At <;> cases belB e.Deps.Way e.At <;> cases wrB e.Kind <;> rfl
def pairB (e:Event):Bool:=(decide (e.Kind=4)&&(decide (0≤e.Pair)&&decide (e.Pair<e.At)))||(decide (e.Kind≠4)&&decide (e.Pair=0))
theorem rc3_ (n:Nat) (e:Event) (b:Bool):ref_Check2_C3 n e b=ref_Check2_C4 n e (b&&pairB e):=by
 unfold ref_Check2_C3 pairB
 have hb:∀ x:Option Bool,(x.bind fun t=>some t)=x:=fun x=>by cases x <;> rfl
 simp only [hb]
 cases b with
 | false=>rfl
 | true =>
  simp only [if_true,Bool.true_and]
  by_cases h4:e.Kind=4
  ·rw [if_pos (by simpa using h4)]
   by_cases h0:e.Pair≥0
   ·rw [if_pos (by simpa using h0)]
    by_cases h5:e.Pair<e.At
    ·rw [if_pos (by simpa using h5)]
     have:(decide (e.Kind=4)&&(decide (0≤e.Pair)&&decide (e.Pair<e.At))||decide (e.Kind≠4)&&decide (e.Pair=0))=true:=by simp [h4,h5]; omega
     rw [this]
    ·rw [if_neg (by simpa using h5),if_neg (by simp [h4])]
     have:(decide (e.Kind=4)&&(decide (0≤e.Pair)&&decide (e.Pair<e.At))||decide (e.Kind≠4)&&decide (e.Pair=0))=false:=by simp [h4,h5]
     rw [this]
   ·rw [if_neg (by simpa using h0),if_neg (by simp [h4])]
    have:(decide (e.Kind=4)&&(decide (0≤e.Pair)&&decide (e.Pair<e.At))||decide (e.Kind≠4)&&decide (e.Pair=0))=false:=by simp [h4]; omega
    rw [this]
  ·rw [if_neg (by simpa using h4),if_pos (by simpa using h4)]
   have:(decide (e.Kind=4)&&(decide (0≤e.Pair)&&decide (e.Pair<e.At))||decide (e.Kind≠4)&&decide (e.Pair=0))=(e.Pair==0):=by simp [h4]; rfl
   rw [this]
def marksB (e:Event):Bool:=(decide (e.Kind≠1)&&decide (e.Kind≠2))||(!e.Aq&&!e.Rl)
theorem rc2_ (n:Nat) (e:Event) (b:Bool):ref_Check2_C2 n e b=ref_Check2_C3 n e (b&&marksB e):=by
 unfold ref_Check2_C2 marksB
 have hb:∀ x:Option Bool,(x.bind fun t=>some t)=x:=fun x=>by cases x <;> rfl
 simp only [hb]
 cases b with
 | false=>rfl
 | true =>
  simp only [if_true,Bool.true_and]
  by_cases h1:e.Kind=1
  ·rw [if_neg (by simp [h1])]
   simp only [h1,ne_eq,not_true_eq_false,decide_false,Bool.false_and,Bool.false_or]
   cases e.Aq <;> rfl
  ·rw [if_pos (by simpa using h1)]
   by_cases h2:e.Kind=2
   ·rw [if_neg (by simp [h2])]
    simp only [h2,ne_eq,not_true_eq_false,decide_false,Bool.and_false,Bool.false_or]
    cases e.Aq <;> rfl
   ·rw [if_pos (by simpa using h2)]
    simp [h1,h2]
end Go.Proofs.YtigcbjbaibcgfaaGreat
