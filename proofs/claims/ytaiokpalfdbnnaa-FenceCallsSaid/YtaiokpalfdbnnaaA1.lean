/- Steps: what they read, write, and go to -/
import Derived.Test.YtaiokpalfdbnnaaX1
namespace Go.Proofs.Ytaiokpalfdbnnaa
open Go A

def fI (op:Int):Int:=if op=1 then 17 else if op=2 then 3 else if op=3 then 39 else if op=4 then 147 else if op=5 then 150 else if op=6 then 159 else if op=8 then 64 else if op=9 then 66 else if op=10 then 2 else 0
theorem ai (k:Int):k=1∨k=2∨k=3∨k=4∨k=5∨k=6∨k=7∨k=8∨k=9∨k=10∨(k<1∨10<k):=by omega
theorem tQ (n:Nat) (op:Int):dx n op=some (fI op):=by
  rcases ai op with h | h | h | h | h | h | h | h | h | h | h
  case inr.inr.inr.inr.inr.inr.inr.inr.inr.inr =>
    have e:fI op=0:=by unfold fI; repeat (rw [if_neg (by omega)])
    rw [e]
    unfold dx
    rcases h with h | h
    · rw [if_pos (by simpa using h)]
    · rw [if_neg (by simp; omega),if_pos (by simpa using h)]
  all_goals subst h; rfl
def B9 (op:Int):Bool:=op==1||op==2||op==3||op==4||op==6
def Hk (s:ab):Int×Bool:=if B9 s.Op=true then (s.A_,true) else (0,false)
theorem HQ (n:Nat) (s:ab):m3 n s=some (Hk s):=by
  unfold m3 Hk
  rw [tQ,Option.bind_some]
  rcases ai s.Op with h | h | h | h | h | h | h | h | h | h | h
  case inr.inr.inr.inr.inr.inr.inr.inr.inr.inr =>
    have e:fI s.Op=0:=by unfold fI; repeat (rw [if_neg (by omega)])
    have e2:B9 s.Op=false:=by unfold B9; simp; omega
    rw [e,e2]
    rfl
  all_goals rw [h]; rfl
theorem Jn (n:Nat) (x y:Int):cmp_Less_int n x y=some (decide (x<y)):=by
  unfold cmp_Less_int cmp_isNaN_int
  simp
theorem Dd (n:Nat) (a b:Int):T (bv n a b) (fun y=>y=(a,b)∨y=(b,a)):=by
  unfold bv dL cL l7 j6
  rw [Jn]
  simp only [Option.bind_some]
  split
  · exact T.ret (.inr rfl)
  · exact T.ret (.inl rfl)
theorem Jo (n:Nat) (a b c:Int):T (bD n a b c) (fun y=>∀ r,r=y.1∨r=y.2.1∨r=y.2.2→r=a∨r=b∨r=c):=by
  unfold bD cD bP iC ge
  simp only [Option.bind_some,Jn]
  repeat' split
  all_goals exact T.ret (fun r h=>by simp only at h; omega)
/-- At most three, and of these. -/
def Of (L:List Int) (l:List Int):Prop:=l.length≤3∧∀ r∈l,r∈L
theorem Kf (n:Nat) (a b:Int) {L:List Int} (ha:a∈L) (hb:b∈L):T ((bv n a b).bind fun y3=>(aE n y3.1 y3.2).bind fun y4=>match y4 with
      | .inl wa5=>(bX n y3.1 wa5).bind fun _=>some ([y3.1]:List Int)
      | .inr _=>(bO n y3.1 y3.2).bind fun _=>some ([y3.1,y3.2]:List Int)) (Of L):=by
  refine (Dd n a b).bind (fun y h=>?_)
  have h1:y.1∈L:=by rcases h with rfl | rfl <;> assumption
  have h2:y.2∈L:=by rcases h with rfl | rfl <;> assumption
  unfold aE
  split
  · exact T.ret ⟨by simp,fun r hr=>by simp at hr; subst hr; exact h1⟩
  · exact T.ret ⟨by simp,fun r hr=>by simp at hr; rcases hr with rfl | rfl <;> assumption⟩
theorem Mr {a:Int} {L:List Int} (ha:a∈L):T (some ([a]:List Int)) (Of L):=T.ret ⟨by simp,fun r hr=>by simp at hr; subst hr; exact ha⟩
theorem none_ {L:List Int}:T (some ([]:List Int)) (Of L):=T.ret ⟨by simp,fun r hr=>by simp at hr⟩
theorem Jp (n:Nat) (a b c:Int) {L:List Int} (ha:a∈L) (hb:b∈L) (hc:c∈L):T ((bD n a b c).bind fun y3=>(bA n y3.1 y3.2.1 y3.2.2).bind fun y4=>match y4 with
           | .inl wa5=>(dO n y3.1 wa5.1 wa5.2).bind fun _=>some ([y3.1,wa5.1]:List Int)
           | .inr (.inl wb5)=>(dQ n y3.1 wb5.1 wb5.2).bind fun _=>some ([y3.1]:List Int)
           | .inr (.inr _)=>(dS n y3.1 y3.2.1 y3.2.2).bind fun _=>some ([y3.1,y3.2.1,y3.2.2]:List Int)) (Of L):=by
  refine (Jo n a b c).bind (fun y h=>?_)
  have hm:∀ r,r=y.1∨r=y.2.1∨r=y.2.2→r∈L:=fun r hr=>by
    rcases h r hr with rfl | rfl | rfl <;> assumption
  have h1:=hm y.1 (.inl rfl)
  have h2:=hm y.2.1 (.inr (.inl rfl))
  have h3:=hm y.2.2 (.inr (.inr rfl))
  unfold bA
  repeat' split
  all_goals first
    | exact T.ret ⟨by simp,fun r hr=>by simp at hr; rcases hr with rfl | rfl | rfl <;> assumption⟩
    | exact T.ret ⟨by simp,fun r hr=>by simp at hr; rcases hr with rfl | rfl <;> assumption⟩
    | exact T.ret ⟨by simp,fun r hr=>by simp at hr; subst hr; assumption⟩
def i9 (s:ab):List Int:=if s.Op=2∨s.Op=4∨s.Op=9∨s.Op=10 then [s.B] else if s.Op=3∨s.Op=5 then [s.B,s.C_] else if s.Op=6 then [s.B,s.C_,s.D] else []
theorem HR (n:Nat) (s:ab):T (jc n s) (Of (i9 s)):=by
  unfold jc
  rw [tQ,Option.bind_some]
  rcases ai s.Op with h | h | h | h | h | h | h | h | h | h | h
  case inr.inr.inr.inr.inr.inr.inr.inr.inr.inr =>
    have e:fI s.Op=0:=by unfold fI; repeat (rw [if_neg (by omega)])
    rw [e]
    exact none_
  case inr.inr.inl=>rw [h]; exact Kf n s.B s.C_ (by simp [i9,h]) (by simp [i9,h])
  case inr.inr.inr.inr.inl=>rw [h]; exact Kf n s.B s.C_ (by simp [i9,h]) (by simp [i9,h])
  case inr.inr.inr.inr.inr.inl=>rw [h]; exact Jp n s.B s.C_ s.D (by simp [i9,h]) (by simp [i9,h]) (by simp [i9,h])
  all_goals rw [h]; first | exact none_ | exact Mr (by simp [i9,h])
/-! ### What is read, exactly -/
theorem IC (n:Nat) (a b:Int):T ((bv n a b).bind fun y3=>(aE n y3.1 y3.2).bind fun y4=>match y4 with
      | .inl wa5=>(bX n y3.1 wa5).bind fun _=>some ([y3.1]:List Int)
      | .inr _=>(bO n y3.1 y3.2).bind fun _=>some ([y3.1,y3.2]:List Int)) (fun l=>∀ x,x∈l↔x=a∨x=b):=by
  refine (Dd n a b).bind (fun y h=>?_)
  unfold aE
  split
  · rename_i e
    have e:y.2=y.1:=by simpa using e
    refine T.ret (fun x=>?_)
    rw [List.mem_singleton]
    rcases h with rfl | rfl <;> simp only at e ⊢ <;> omega
  · refine T.ret (fun x=>?_)
    rw [List.mem_cons,List.mem_singleton]
    rcases h with rfl | rfl
    · exact Iff.rfl
    · exact Or.comm
theorem HS (n:Nat) (a b c:Int):T (bD n a b c) (fun y=>∀ r,(r=y.1∨r=y.2.1∨r=y.2.2)↔(r=a∨r=b∨r=c)):=by
  unfold bD cD bP iC ge
  simp only [Option.bind_some,Jn]
  repeat' split
  all_goals exact T.ret (fun r=>by first | (simp only; done) | (simp only; omega))
theorem HT (n:Nat) (a b c:Int):T ((bD n a b c).bind fun y3=>(bA n y3.1 y3.2.1 y3.2.2).bind fun y4=>match y4 with
           | .inl wa5=>(dO n y3.1 wa5.1 wa5.2).bind fun _=>some ([y3.1,wa5.1]:List Int)
           | .inr (.inl wb5)=>(dQ n y3.1 wb5.1 wb5.2).bind fun _=>some ([y3.1]:List Int)
           | .inr (.inr _)=>(dS n y3.1 y3.2.1 y3.2.2).bind fun _=>some ([y3.1,y3.2.1,y3.2.2]:List Int)) (fun l=>∀ x,x∈l↔x=a∨x=b∨x=c):=by
  refine (HS n a b c).bind (fun y h=>?_)
  obtain ⟨y1,y2,y3⟩:=y
  simp only at h ⊢
  unfold bA
  by_cases e1:y2=y1
  · by_cases e2:y3=y2
    · rw [if_pos (by simpa using e1),if_neg (by simpa using e2)]
      exact T.ret (fun x=>by rw [← h x,List.mem_singleton]; omega)
    · rw [if_pos (by simpa using e1),if_pos (by simpa using e2)]
      exact T.ret (fun x=>by rw [← h x,List.mem_cons,List.mem_singleton]; simp only; omega)
  · by_cases e2:y3=y2
    · rw [if_neg (by simpa using e1),if_pos (by simpa using e2)]
      exact T.ret (fun x=>by rw [← h x,List.mem_cons,List.mem_singleton]; simp only; omega)
    · rw [if_neg (by simpa using e1),if_neg (by simpa using e2)]
      exact T.ret (fun x=>by rw [← h x,List.mem_cons,List.mem_cons,List.mem_singleton])
theorem HU (n:Nat) (s:ab):T (jc n s) (fun l=>∀ x,x∈l↔x∈i9 s):=by
  unfold jc
  rw [tQ,Option.bind_some]
  rcases ai s.Op with h | h | h | h | h | h | h | h | h | h | h
  case inr.inr.inr.inr.inr.inr.inr.inr.inr.inr =>
    have e:fI s.Op=0:=by unfold fI; repeat (rw [if_neg (by omega)])
    rw [e]
    refine T.ret (fun x=>?_)
    unfold i9
    rw [if_neg (by omega),if_neg (by omega),if_neg (by omega)]
  case inr.inr.inl=>rw [h]; exact (IC n s.B s.C_).imp (fun l hl x=>by rw [hl]; simp [i9,h])
  case inr.inr.inr.inr.inl=>rw [h]; exact (IC n s.B s.C_).imp (fun l hl x=>by rw [hl]; simp [i9,h])
  case inr.inr.inr.inr.inr.inl=>rw [h]; exact (HT n s.B s.C_ s.D).imp (fun l hl x=>by rw [hl]; simp [i9,h])
  all_goals rw [h]; exact T.ret (fun x=>by simp [i9,h])

end Go.Proofs.Ytaiokpalfdbnnaa
