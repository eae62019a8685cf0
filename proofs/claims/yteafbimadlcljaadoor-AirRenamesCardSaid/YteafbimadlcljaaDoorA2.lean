/- The steps that come next; whether a step may be -/
import Derived.Test.YteafbimadlcljaaDoorA1
namespace Go.Proofs.YteafbimadlcljaaDoor
open Go A

/-- At most two, all of them there. -/
def AB (N:Nat) (l:List Int):Prop:=l.length≤2∧∀ r∈l,0≤r∧r<(N:Int)
theorem yI {N:Nat}:T (some ([]:List Int)) (AB N):=T.ret ⟨by simp,fun r hr=>by simp at hr⟩
theorem F6 {a:Int} {N:Nat} (h:0≤a) (h2:a<(N:Int)):T (some ([a]:List Int)) (AB N):=T.ret ⟨by simp,fun r hr=>by simp at hr; subst hr; exact ⟨h,h2⟩⟩
theorem GD (n:Nat) (a b:Int) {N:Nat} (ha:0≤a∧a<(N:Int)) (hb:0≤b∧b<(N:Int)):T ((bi n a b).bind fun y3=>(aC n y3.1 y3.2).bind fun y4=>match y4 with
      | .inl wa5=>(bJ n y3.1 wa5).bind fun _=>some ([y3.1]:List Int)
      | .inr _=>(bC n y3.1 y3.2).bind fun _=>some ([y3.1,y3.2]:List Int)) (AB N):=by
  refine (zR n a b).bind (fun y h=>?_)
  have h1:0≤y.1∧y.1<(N:Int):=by rcases h with rfl | rfl <;> assumption
  have h2:0≤y.2∧y.2<(N:Int):=by rcases h with rfl | rfl <;> assumption
  unfold aC
  split
  · exact T.ret ⟨by simp,fun r hr=>by simp at hr; subst hr; exact h1⟩
  · exact T.ret ⟨by simp,fun r hr=>by simp at hr; rcases hr with rfl | rfl <;> assumption⟩
theorem CV (n:Nat) (c:bh) (k:Nat) (hk:k<c.Steps.length) (hl:c.Steps.length≤5000):T (ev n c (k:Int)) (AB c.Steps.length):=by
  unfold ev
  refine T.ite (fun _=>yI) (fun _=>T.ite (fun _=>yI) (fun _=>?_))
  refine T.get k rfl hk ?_
  rw [ga k (by omega)]
  have h0:(0:Int)≤((k + 1:Nat):Int):=by omega
  have go:∀ (v:Int) (x y:Option (List Int)),T x (AB c.Steps.length)→T y (AB c.Steps.length)→T (if ((dY .i64 v 64) != 0)=true then x else y) (AB c.Steps.length):=fun _ _ _ hx hy=>T.ite (fun _=>hx) (fun _=>hy)
  have parts:∀ (f:Int→Option (List Int)),T (f (b7 c.Steps[k].Op)) (AB c.Steps.length)→T ((cX n c.Steps[k].Op).bind f) (AB c.Steps.length):=fun f h=>T.eqb (oZ n _) h
  refine T.ite (fun _=>T.ite (fun _=>T.ite (fun h1=>?_) (fun _=>?_)) (fun _=>?_)) (fun _=>?_)
  · rw [decide_eq_true_eq] at h1
    refine parts _ (go _ _ _ (T.ite (fun h2=>T.ite (fun h3=>?_) (fun _=>?_)) (fun _=>?_)) ?_)
    · rw [decide_eq_true_eq] at h2 h3
      exact GD n _ _ ⟨h0,h1⟩ ⟨h2,h3⟩
    all_goals exact F6 h0 h1
  all_goals
    refine parts _ (go _ _ _ (T.ite (fun h2=>T.ite (fun h3=>?_) (fun _=>yI)) (fun _=>yI)) yI)
    rw [decide_eq_true_eq] at h2 h3
    exact F6 h2 h3
def xd (c:bh) (k:Nat):List Int:=(ev 0 c (k:Int)).getD []
theorem uh (n:Nat) (c:bh) (k:Nat) (hk:k<c.Steps.length) (hl:c.Steps.length≤5000):ev n c (k:Int)=some (xd c k):=by
  have:ev n c (k:Int)=ev 0 c (k:Int):=rfl
  rw [this]
  obtain ⟨r,e,_⟩:=CV 0 c k hk hl
  unfold xd
  rw [e]
  rfl
theorem AC (c:bh) (k:Nat) (hk:k<c.Steps.length) (hl:c.Steps.length≤5000):AB c.Steps.length (xd c k):=by
  obtain ⟨r,e,h⟩:=CV 0 c k hk hl
  rw [uh 0 c k hk hl] at e
  cases e
  exact h

theorem Fo (n:Nat) (op:Int):T (bV n op) (fun _=>True):=by
  unfold bV
  exact T.ite (fun _=>T.ret trivial) (fun _=>T.ret trivial)
theorem Fp {s:ab} {regs:Int} (hr:∀ r∈gg s,0≤r∧r<regs) (hw:nC s.Op=true→0≤s.A_∧s.A_<regs):r5 s regs:=by
  refine ⟨fun r h=>hr r ((AA s).2 r h),fun h=>?_⟩
  unfold rv at h ⊢
  split
  · rename_i h1
    exact hw h1
  · rename_i h1
    rw [if_neg h1] at h
    cases h
theorem GE (k:Int):(b7 k=17∧k=1)∨(b7 k=3∧k=2)∨(b7 k=39∧k=3)∨(b7 k=147∧k=4)∨(b7 k=150∧k=5)∨(b7 k=159∧k=6)∨(b7 k=64∧k=8)∨(b7 k=66∧k=9)∨(b7 k=2∧k=10)∨(b7 k=0∧(k<1∨10<k∨k=7)):=by
  rcases aj k with h | h | h | h | h | h | h | h | h | h | h
  case inr.inr.inr.inr.inr.inr.inr.inr.inr.inr =>
    have e:b7 k=0:=by unfold b7; repeat (rw [if_neg (by omega)])
    rw [e]
    omega
  all_goals subst h; decide
theorem kM {Q:Prop} (hq:Q) (n:Nat) (op:Int) (b:Bool):T ((bV n op).bind fun y=>if y=true then if b=true then some true else some false else some false) (fun r=>r=true→Q) :=
  (Fo n op).bind (fun _ _=>T.ite (fun _=>T.ite (fun _=>T.ret (fun _=>hq)) (fun _=>T.ret (fun _=>hq))) (fun _=>T.ret (fun _=>hq)))
theorem nD {Q:Prop}:T (some false) (fun r=>r=true→Q):=T.ret (fun h=>by cases h)
theorem F7 (n:Nat) (s:ab) (regs steps:Int):T (ef n s regs steps) (fun b=>b=true→r5 s regs):=by
  unfold ef
  rw [oZ,Option.bind_some]
  have hp:=GE s.Op
  generalize b7 s.Op=p at hp
  have ok:∀ (_:∀ r∈gg s,0≤r∧r<regs) (_:nC s.Op=true→0≤s.A_∧s.A_<regs),r5 s regs:=fun h1 h2=>Fp h1 h2
  rcases hp with ⟨rfl,h⟩ | ⟨rfl,h⟩ | ⟨rfl,h⟩ | ⟨rfl,h⟩ | ⟨rfl,h⟩ | ⟨rfl,h⟩ | ⟨rfl,h⟩ | ⟨rfl,h⟩ | ⟨rfl,h⟩ | ⟨rfl,h⟩
  · show T (if decide (s.A_<0)=true then _ else _) _
    refine T.ite (fun _=>nD) (fun h1=>T.ite (fun _=>nD) (fun h2=>kM (ok ?_ ?_) _ _ _))
    all_goals simp [gg,nC,h] at *
    all_goals omega
  · show T (if decide (s.A_<0)=true then _ else _) _
    refine T.ite (fun _=>nD) (fun h1=>T.ite (fun _=>nD) (fun h2=>T.ite (fun _=>nD) (fun h3=>T.ite (fun _=>nD) (fun h4=>kM (ok ?_ ?_) _ _ _))))
    all_goals simp [gg,nC,h] at *
    all_goals omega
  · show T (if decide (s.A_<0)=true then _ else _) _
    refine T.ite (fun _=>nD) (fun h1=>T.ite (fun _=>nD) (fun h2=>T.ite (fun _=>nD) (fun h3=>T.ite (fun _=>nD) (fun h4=>T.ite (fun _=>nD) (fun h5=>T.ite (fun _=>nD) (fun h6=>kM (ok ?_ ?_) _ _ _))))))
    all_goals simp [gg,nC,h] at *
    all_goals omega
  · show T (if decide (s.A_<0)=true then _ else _) _
    refine T.ite (fun _=>nD) (fun h1=>T.ite (fun _=>nD) (fun h2=>T.ite (fun _=>nD) (fun h3=>T.ite (fun _=>nD) (fun h4=>?_))))
    have hh:r5 s regs:=by
      refine ok ?_ ?_
      all_goals simp [gg,nC,h] at *
      all_goals omega
    exact T.ite (fun _=>kM hh _ _ _) (fun _=>kM hh _ _ _)
  · show T (if decide (s.B<0)=true then _ else _) _
    refine T.ite (fun _=>nD) (fun h1=>T.ite (fun _=>nD) (fun h2=>T.ite (fun _=>nD) (fun h3=>T.ite (fun _=>nD) (fun h4=>?_))))
    have hh:r5 s regs:=by
      refine ok ?_ ?_
      all_goals simp [gg,nC,h] at *
      all_goals omega
    exact T.ite (fun _=>kM hh _ _ _) (fun _=>kM hh _ _ _)
  · show T (if decide (s.A_<0)=true then _ else _) _
    refine T.ite (fun _=>nD) (fun h1=>T.ite (fun _=>nD) (fun h2=>T.ite (fun _=>nD) (fun h3=>T.ite (fun _=>nD) (fun h4=>T.ite (fun _=>nD) (fun h5=>T.ite (fun _=>nD) (fun h6=>T.ite (fun _=>nD) (fun h7=>T.ite (fun _=>nD) (fun h8=>?_))))))))
    have hh:r5 s regs:=by
      refine ok ?_ ?_
      all_goals simp [gg,nC,h] at *
      all_goals omega
    exact T.ite (fun _=>kM hh _ _ _) (fun _=>kM hh _ _ _)
  · exact kM (ok (by simp [gg,h]) (by simp [nC,h])) _ _ _
  · show T (if decide (s.B<0)=true then _ else _) _
    refine T.ite (fun _=>nD) (fun h1=>T.ite (fun _=>nD) (fun h2=>kM (ok ?_ ?_) _ _ _))
    all_goals simp [gg,nC,h] at *
    all_goals omega
  · show T (if decide (s.B<0)=true then _ else _) _
    refine T.ite (fun _=>nD) (fun h1=>T.ite (fun _=>nD) (fun h2=>kM (ok ?_ ?_) _ _ _))
    all_goals simp [gg,nC,h] at *
    all_goals omega
  · refine kM (ok (fun r hr=>?_) (fun hw=>?_)) _ _ _
    · unfold gg at hr
      rw [if_neg (by omega),if_neg (by omega),if_neg (by omega)] at hr
      cases hr
    · unfold nC at hw
      simp at hw
      omega

end Go.Proofs.YteafbimadlcljaaDoor
