/- Steps: what they read, write, and go to -/
import Derived.Test.YteafbimadlcljaaDoorX1
namespace Go.Proofs.YteafbimadlcljaaDoor
open Go A

def b7 (op:Int):Int:=if op=1 then 17 else if op=2 then 3 else if op=3 then 39 else if op=4 then 147 else if op=5 then 150 else if op=6 then 159 else if op=8 then 64 else if op=9 then 66 else if op=10 then 2 else 0
theorem aj (k:Int):k=1∨k=2∨k=3∨k=4∨k=5∨k=6∨k=7∨k=8∨k=9∨k=10∨(k<1∨10<k):=by omega
theorem oZ (n:Nat) (op:Int):cX n op=some (b7 op):=by
  rcases aj op with h | h | h | h | h | h | h | h | h | h | h
  case inr.inr.inr.inr.inr.inr.inr.inr.inr.inr =>
    have e:b7 op=0:=by unfold b7; repeat (rw [if_neg (by omega)])
    rw [e]
    unfold cX
    rcases h with h | h
    · rw [if_pos (by simpa using h)]
    · rw [if_neg (by simp; omega),if_pos (by simpa using h)]
  all_goals subst h; rfl
def nC (op:Int):Bool:=op==1||op==2||op==3||op==4||op==6
def rv (s:ab):Int×Bool:=if nC s.Op=true then (s.A_,true) else (0,false)
theorem r4 (n:Nat) (s:ab):gS n s=some (rv s):=by
  unfold gS rv
  rw [oZ,Option.bind_some]
  rcases aj s.Op with h | h | h | h | h | h | h | h | h | h | h
  case inr.inr.inr.inr.inr.inr.inr.inr.inr.inr =>
    have e:b7 s.Op=0:=by unfold b7; repeat (rw [if_neg (by omega)])
    have e2:nC s.Op=false:=by unfold nC; simp; omega
    rw [e,e2]
    rfl
  all_goals rw [h]; rfl
theorem Fi (n:Nat) (x y:Int):cmp_Less_int n x y=some (decide (x<y)):=by
  unfold cmp_Less_int cmp_isNaN_int
  simp
theorem zR (n:Nat) (a b:Int):T (bi n a b) (fun y=>y=(a,b)∨y=(b,a)):=by
  unfold bi dl ct jU iB
  rw [Fi]
  simp only [Option.bind_some]
  split
  · exact T.ret (.inr rfl)
  · exact T.ret (.inl rfl)
theorem Fj (n:Nat) (a b c:Int):T (bp n a b c) (fun y=>∀ r,r=y.1∨r=y.2.1∨r=y.2.2→r=a∨r=b∨r=c):=by
  unfold bp cf bD gi fa
  simp only [Option.bind_some,Fi]
  repeat' split
  all_goals exact T.ret (fun r h=>by simp only at h; omega)
/-- At most three, and of these. -/
def Of (L:List Int) (l:List Int):Prop:=l.length≤3∧∀ r∈l,r∈L
theorem F5 (n:Nat) (a b:Int) {L:List Int} (ha:a∈L) (hb:b∈L):T ((bi n a b).bind fun y3=>(aC n y3.1 y3.2).bind fun y4=>match y4 with
      | .inl wa5=>(bJ n y3.1 wa5).bind fun _=>some ([y3.1]:List Int)
      | .inr _=>(bC n y3.1 y3.2).bind fun _=>some ([y3.1,y3.2]:List Int)) (Of L):=by
  refine (zR n a b).bind (fun y h=>?_)
  have h1:y.1∈L:=by rcases h with rfl | rfl <;> assumption
  have h2:y.2∈L:=by rcases h with rfl | rfl <;> assumption
  unfold aC
  split
  · exact T.ret ⟨by simp,fun r hr=>by simp at hr; subst hr; exact h1⟩
  · exact T.ret ⟨by simp,fun r hr=>by simp at hr; rcases hr with rfl | rfl <;> assumption⟩
theorem GC {a:Int} {L:List Int} (ha:a∈L):T (some ([a]:List Int)) (Of L):=T.ret ⟨by simp,fun r hr=>by simp at hr; subst hr; exact ha⟩
theorem none_ {L:List Int}:T (some ([]:List Int)) (Of L):=T.ret ⟨by simp,fun r hr=>by simp at hr⟩
theorem Fl (n:Nat) (a b c:Int) {L:List Int} (ha:a∈L) (hb:b∈L) (hc:c∈L):T ((bp n a b c).bind fun y3=>(bn n y3.1 y3.2.1 y3.2.2).bind fun y4=>match y4 with
           | .inl wa5=>(dq n y3.1 wa5.1 wa5.2).bind fun _=>some ([y3.1,wa5.1]:List Int)
           | .inr (.inl wb5)=>(dr n y3.1 wb5.1 wb5.2).bind fun _=>some ([y3.1]:List Int)
           | .inr (.inr _)=>(du n y3.1 y3.2.1 y3.2.2).bind fun _=>some ([y3.1,y3.2.1,y3.2.2]:List Int)) (Of L):=by
  refine (Fj n a b c).bind (fun y h=>?_)
  have hm:∀ r,r=y.1∨r=y.2.1∨r=y.2.2→r∈L:=fun r hr=>by
    rcases h r hr with rfl | rfl | rfl <;> assumption
  have h1:=hm y.1 (.inl rfl)
  have h2:=hm y.2.1 (.inr (.inl rfl))
  have h3:=hm y.2.2 (.inr (.inr rfl))
  unfold bn
  repeat' split
  all_goals first
    | exact T.ret ⟨by simp,fun r hr=>by simp at hr; rcases hr with rfl | rfl | rfl <;> assumption⟩
    | exact T.ret ⟨by simp,fun r hr=>by simp at hr; rcases hr with rfl | rfl <;> assumption⟩
    | exact T.ret ⟨by simp,fun r hr=>by simp at hr; subst hr; assumption⟩
def gg (s:ab):List Int:=if s.Op=2∨s.Op=4∨s.Op=9∨s.Op=10 then [s.B] else if s.Op=3∨s.Op=5 then [s.B,s.C_] else if s.Op=6 then [s.B,s.C_,s.D] else []
theorem Az (n:Nat) (s:ab):T (dy n s) (Of (gg s)):=by
  unfold dy
  rw [oZ,Option.bind_some]
  rcases aj s.Op with h | h | h | h | h | h | h | h | h | h | h
  case inr.inr.inr.inr.inr.inr.inr.inr.inr.inr =>
    have e:b7 s.Op=0:=by unfold b7; repeat (rw [if_neg (by omega)])
    rw [e]
    exact none_
  case inr.inr.inl=>rw [h]; exact F5 n s.B s.C_ (by simp [gg,h]) (by simp [gg,h])
  case inr.inr.inr.inr.inl=>rw [h]; exact F5 n s.B s.C_ (by simp [gg,h]) (by simp [gg,h])
  case inr.inr.inr.inr.inr.inl=>rw [h]; exact Fl n s.B s.C_ s.D (by simp [gg,h]) (by simp [gg,h]) (by simp [gg,h])
  all_goals rw [h]; first | exact none_ | exact GC (by simp [gg,h])
def yN (s:ab):List Int:=(dy 0 s).getD []
theorem o5 (n:Nat) (s:ab):dy n s=some (yN s):=by
  have:dy n s=dy 0 s:=rfl
  rw [this]
  obtain ⟨r,e,_⟩:=Az 0 s
  unfold yN
  rw [e]
  rfl
theorem AA (s:ab):Of (gg s) (yN s):=by
  obtain ⟨r,e,h⟩:=Az 0 s
  rw [o5] at e
  cases e
  exact h
/-- A step whose registers are there. -/
def r5 (s:ab) (regs:Int):Prop:=(∀ r∈yN s,0≤r∧r<regs)∧((rv s).2=true→0≤(rv s).1∧(rv s).1<regs)

end Go.Proofs.YteafbimadlcljaaDoor
