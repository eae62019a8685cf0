/- The steps that come next; whether a step may be -/
import Derived.Test.YteafbimadlcljaaDoorA1
namespace Go.Proofs.YteafbimadlcljaaDoor
open Go A

/-- At most two, all of them there. -/
def yw (N:Nat) (l:List Int):Prop:=l.length≤2∧∀ r∈l,0≤r∧r<(N:Int)
theorem wH {N:Nat}:T (some ([]:List Int)) (yw N):=T.ret ⟨by simp,fun r hr=>by simp at hr⟩
theorem Dc {a:Int} {N:Nat} (h:0≤a) (h2:a<(N:Int)):T (some ([a]:List Int)) (yw N):=T.ret ⟨by simp,fun r hr=>by simp at hr; subst hr; exact ⟨h,h2⟩⟩
theorem DO (n:Nat) (a b:Int) {N:Nat} (ha:0≤a∧a<(N:Int)) (hb:0≤b∧b<(N:Int)):T ((bh n a b).bind fun y3=>(aL n y3.1 y3.2).bind fun y4=>match y4 with
      | .inl wa5=>(bM n y3.1 wa5).bind fun _=>some ([y3.1]:List Int)
      | .inr _=>(bC n y3.1 y3.2).bind fun _=>some ([y3.1,y3.2]:List Int)) (yw N):=by
  refine (AI n a b).bind (fun y h=>?_)
  have h1:0≤y.1∧y.1<(N:Int):=by rcases h with rfl | rfl <;> assumption
  have h2:0≤y.2∧y.2<(N:Int):=by rcases h with rfl | rfl <;> assumption
  unfold aL
  split
  · exact T.ret ⟨by simp,fun r hr=>by simp at hr; subst hr; exact h1⟩
  · exact T.ret ⟨by simp,fun r hr=>by simp at hr; rcases hr with rfl | rfl <;> assumption⟩
theorem AK (n:Nat) (c:bG) (k:Nat) (hk:k<c.Steps.length) (hl:c.Steps.length≤5000):T (c7 n c (k:Int)) (yw c.Steps.length):=by
  unfold c7
  refine T.ite (fun _=>wH) (fun _=>T.ite (fun _=>wH) (fun _=>?_))
  refine T.get k rfl hk ?_
  rw [iD k (by omega)]
  have h0:(0:Int)≤((k + 1:Nat):Int):=by omega
  have go:∀ (v:Int) (x y:Option (List Int)),T x (yw c.Steps.length)→T y (yw c.Steps.length)→T (if ((fc .i64 v 64) != 0)=true then x else y) (yw c.Steps.length):=fun _ _ _ hx hy=>T.ite (fun _=>hx) (fun _=>hy)
  have parts:∀ (f:Int→Option (List Int)),T (f (dh c.Steps[k].Op)) (yw c.Steps.length)→T ((cM n c.Steps[k].Op).bind f) (yw c.Steps.length):=fun f h=>T.eqb (u6 n _) h
  refine T.ite (fun _=>T.ite (fun _=>T.ite (fun h1=>?_) (fun _=>?_)) (fun _=>?_)) (fun _=>?_)
  · rw [decide_eq_true_eq] at h1
    refine parts _ (go _ _ _ (T.ite (fun h2=>T.ite (fun h3=>?_) (fun _=>?_)) (fun _=>?_)) ?_)
    · rw [decide_eq_true_eq] at h2 h3
      exact DO n _ _ ⟨h0,h1⟩ ⟨h2,h3⟩
    all_goals exact Dc h0 h1
  all_goals
    refine parts _ (go _ _ _ (T.ite (fun h2=>T.ite (fun h3=>?_) (fun _=>wH)) (fun _=>wH)) wH)
    rw [decide_eq_true_eq] at h2 h3
    exact Dc h2 h3
def vf (c:bG) (k:Nat):List Int:=(c7 0 c (k:Int)).getD []
theorem pK (n:Nat) (c:bG) (k:Nat) (hk:k<c.Steps.length) (hl:c.Steps.length≤5000):c7 n c (k:Int)=some (vf c k):=by
  have:c7 n c (k:Int)=c7 0 c (k:Int):=rfl
  rw [this]
  obtain ⟨r,e,_⟩:=AK 0 c k hk hl
  unfold vf
  rw [e]
  rfl
theorem wJ (c:bG) (k:Nat) (hk:k<c.Steps.length) (hl:c.Steps.length≤5000):yw c.Steps.length (vf c k):=by
  obtain ⟨r,e,h⟩:=AK 0 c k hk hl
  rw [pK 0 c k hk hl] at e
  cases e
  exact h

theorem Cv (n:Nat) (op:Int):T (bX n op) (fun _=>True):=by
  unfold bX
  exact T.ite (fun _=>T.ret trivial) (fun _=>T.ret trivial)
theorem Cw {s:ab} {regs:Int} (hr:∀ r∈iF s,0≤r∧r<regs) (hw:xP s.Op=true→0≤s.A_∧s.A_<regs):u7 s regs:=by
  refine ⟨fun r h=>hr r ((wG s).2 r h),fun h=>?_⟩
  unfold nR at h ⊢
  split
  · rename_i h1
    exact hw h1
  · rename_i h1
    rw [if_neg h1] at h
    cases h
theorem DR (k:Int):(dh k=17∧k=1)∨(dh k=3∧k=2)∨(dh k=39∧k=3)∨(dh k=147∧k=4)∨(dh k=150∧k=5)∨(dh k=159∧k=6)∨(dh k=64∧k=8)∨(dh k=66∧k=9)∨(dh k=2∧k=10)∨(dh k=0∧(k<1∨10<k∨k=7)):=by
  rcases ai k with h | h | h | h | h | h | h | h | h | h | h
  case inr.inr.inr.inr.inr.inr.inr.inr.inr.inr =>
    have e:dh k=0:=by unfold dh; repeat (rw [if_neg (by omega)])
    rw [e]
    omega
  all_goals subst h; decide
theorem jz {Q:Prop} (hq:Q) (n:Nat) (op:Int) (b:Bool):T ((bX n op).bind fun y=>if y=true then if b=true then some true else some false else some false) (fun r=>r=true→Q) :=
  (Cv n op).bind (fun _ _=>T.ite (fun _=>T.ite (fun _=>T.ret (fun _=>hq)) (fun _=>T.ret (fun _=>hq))) (fun _=>T.ret (fun _=>hq)))
theorem l5 {Q:Prop}:T (some false) (fun r=>r=true→Q):=T.ret (fun h=>by cases h)
theorem DT (n:Nat) (s:ab) (regs steps:Int):T (pZ n s regs steps) (fun b=>b=true→u7 s regs):=by
  unfold pZ
  rw [u6,Option.bind_some]
  have hp:=DR s.Op
  generalize dh s.Op=p at hp
  have ok:∀ (_:∀ r∈iF s,0≤r∧r<regs) (_:xP s.Op=true→0≤s.A_∧s.A_<regs),u7 s regs:=fun h1 h2=>Cw h1 h2
  rcases hp with ⟨rfl,h⟩ | ⟨rfl,h⟩ | ⟨rfl,h⟩ | ⟨rfl,h⟩ | ⟨rfl,h⟩ | ⟨rfl,h⟩ | ⟨rfl,h⟩ | ⟨rfl,h⟩ | ⟨rfl,h⟩ | ⟨rfl,h⟩
  · show T (if decide (s.A_<0)=true then _ else _) _
    refine T.ite (fun _=>l5) (fun h1=>T.ite (fun _=>l5) (fun h2=>jz (ok ?_ ?_) _ _ _))
    all_goals simp [iF,xP,h] at *
    all_goals omega
  · show T (if decide (s.A_<0)=true then _ else _) _
    refine T.ite (fun _=>l5) (fun h1=>T.ite (fun _=>l5) (fun h2=>T.ite (fun _=>l5) (fun h3=>T.ite (fun _=>l5) (fun h4=>jz (ok ?_ ?_) _ _ _))))
    all_goals simp [iF,xP,h] at *
    all_goals omega
  · show T (if decide (s.A_<0)=true then _ else _) _
    refine T.ite (fun _=>l5) (fun h1=>T.ite (fun _=>l5) (fun h2=>T.ite (fun _=>l5) (fun h3=>T.ite (fun _=>l5) (fun h4=>T.ite (fun _=>l5) (fun h5=>T.ite (fun _=>l5) (fun h6=>jz (ok ?_ ?_) _ _ _))))))
    all_goals simp [iF,xP,h] at *
    all_goals omega
  · show T (if decide (s.A_<0)=true then _ else _) _
    refine T.ite (fun _=>l5) (fun h1=>T.ite (fun _=>l5) (fun h2=>T.ite (fun _=>l5) (fun h3=>T.ite (fun _=>l5) (fun h4=>?_))))
    have hh:u7 s regs:=by
      refine ok ?_ ?_
      all_goals simp [iF,xP,h] at *
      all_goals omega
    exact T.ite (fun _=>jz hh _ _ _) (fun _=>jz hh _ _ _)
  · show T (if decide (s.B<0)=true then _ else _) _
    refine T.ite (fun _=>l5) (fun h1=>T.ite (fun _=>l5) (fun h2=>T.ite (fun _=>l5) (fun h3=>T.ite (fun _=>l5) (fun h4=>?_))))
    have hh:u7 s regs:=by
      refine ok ?_ ?_
      all_goals simp [iF,xP,h] at *
      all_goals omega
    exact T.ite (fun _=>jz hh _ _ _) (fun _=>jz hh _ _ _)
  · show T (if decide (s.A_<0)=true then _ else _) _
    refine T.ite (fun _=>l5) (fun h1=>T.ite (fun _=>l5) (fun h2=>T.ite (fun _=>l5) (fun h3=>T.ite (fun _=>l5) (fun h4=>T.ite (fun _=>l5) (fun h5=>T.ite (fun _=>l5) (fun h6=>T.ite (fun _=>l5) (fun h7=>T.ite (fun _=>l5) (fun h8=>?_))))))))
    have hh:u7 s regs:=by
      refine ok ?_ ?_
      all_goals simp [iF,xP,h] at *
      all_goals omega
    exact T.ite (fun _=>jz hh _ _ _) (fun _=>jz hh _ _ _)
  · exact jz (ok (by simp [iF,h]) (by simp [xP,h])) _ _ _
  · show T (if decide (s.B<0)=true then _ else _) _
    refine T.ite (fun _=>l5) (fun h1=>T.ite (fun _=>l5) (fun h2=>jz (ok ?_ ?_) _ _ _))
    all_goals simp [iF,xP,h] at *
    all_goals omega
  · show T (if decide (s.B<0)=true then _ else _) _
    refine T.ite (fun _=>l5) (fun h1=>T.ite (fun _=>l5) (fun h2=>jz (ok ?_ ?_) _ _ _))
    all_goals simp [iF,xP,h] at *
    all_goals omega
  · refine jz (ok (fun r hr=>?_) (fun hw=>?_)) _ _ _
    · unfold iF at hr
      rw [if_neg (by omega),if_neg (by omega),if_neg (by omega)] at hr
      cases hr
    · unfold xP at hw
      simp at hw
      omega

end Go.Proofs.YteafbimadlcljaaDoor
