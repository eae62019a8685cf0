/- An event's text, its length -/
import Derived.Test.YtnmmknnnggcijaaDoorG2
namespace Go.Proofs.YtnmmknnnggcijaaDoor
open Go A

theorem o7 (n:Nat) (e:Event):cG n e=some (ul e.Kind):=by
  unfold cG
  rw [EF,Option.bind_some]
  rcases kinds e.Kind with h | h | h | h | h | h | ⟨h,h1,h2⟩
  case inr.inr.inr.inr.inr.inr=>rw [h,h1]; decide +kernel
  all_goals rw [h]; decide +kernel
theorem kp (n:Nat) (e:Event):bq n e=some (nM e.Kind):=by
  unfold bq
  rw [EF,Option.bind_some]
  rcases kinds e.Kind with h | h | h | h | h | h | ⟨h,h1,h2⟩
  case inr.inr.inr.inr.inr.inr=>rw [h,h2]; decide +kernel
  all_goals rw [h]; decide +kernel
theorem xl (n:Nat) (e:Event):dH n e=some (z8 e.Kind):=by
  unfold dH z8
  rw [o7,Option.bind_some,kp]
  cases ul e.Kind <;> rfl
theorem FX (n:Nat) {k:Nat} (hk:k≤1000) (l:List Int) (hl:l.length≤1000):T (eN n (k:Int) l) (Mo l 16):=by
  have e:IntKind.wrap .u64 (k:Int)=(k:Int):=Du (by omega) (by omega)
  have h:T (bO n (k:Int) l) (Mo l 16):=by
    unfold bO
    rw [if_neg (by simp),e]
    exact (FW n hk l hl).bind (fun r hr=>T.ret hr)
  exact h.bind (fun r hr=>T.ret hr)
theorem FY (n:Nat) {k:Nat} (hk:k<8):T (fH n (k:Int)) (fun r=>1≤r.length∧r.length≤2):=by
  have e:IntKind.wrap .u64 (k:Int)=(k:Int):=Du (by omega) (by omega)
  have h:T (bT n (k:Int)) (fun r=>1≤r.length∧r.length≤2):=by
    unfold bT
    rw [if_neg (by simp),e]
    refine T.bind (P:=fun r=>1≤r.length∧r.length≤2) ?_ (fun r hr=>T.ret hr)
    unfold ct
    have e2:IntKind.wrap .i64 (k:Int)=(k:Int):=Dv (by omega) (by omega)
    rw [if_pos (by simp; omega),e2]
    refine (CR n (by omega)).bind (fun s hs=>?_)
    have:=o9 s
    exact T.grd (Nat.ble_eq_true_of_le (by omega)) (T.ret (by omega))
  exact h.bind (fun r hr=>T.ret hr)
theorem Fh (n:Nat) (hn:200≤n) (e:Event) (he:small e) (hc:xj e=true) {ha at_:Nat} (h1:e.Hart=(ha:Int)) (h2:ha<8) (h3:e.At=(at_:Int)) (h4:at_≤1000) (u1:U e.Addr) (u2:U e.Load) (u3:U e.Store):T (k9 n e) (fun s=>9≤s.size):=by
  have last:∀ l:List Int,9≤l.length→T (some (aV l)) (fun s=>9≤s.size):=fun l hl=>T.ret (by rw [u9]; exact hl)
  unfold k9
  rw [z7 n e he (by omega),hc,Option.bind_some,if_neg (by decide),h1,h3]
  refine (FY n h2).bind (fun y3 q3=>T.grd (Nat.ble_eq_true_of_le (by omega)) ?_)
  have l3:(y3++([58]:List Int)).length=y3.length + 1:=by simp
  refine (FX n h4 _ (by omega)).bind (fun y5 q5=>?_)
  unfold Mo at q5
  rw [l3] at q5
  refine T.grd (Nat.ble_eq_true_of_le (by omega)) ?_
  have nm:∃ s,nO n e.Kind=some s∧2≤s.size∧s.size≤5∧(z8 e.Kind=false→s.size=5):=by
    rcases kinds e.Kind with h | h | h | h | h | h | ⟨h,_,_⟩
    case inr.inr.inr.inr.inr.inr=>exact (FS e hc h).elim
    all_goals rw [h]; exact ⟨_,rfl,by decide,by decide,by decide⟩
  obtain ⟨s7,e7,g1,g2,g3⟩:=nm
  have l7:=o9 s7
  have l5:((y5++([32]:List Int))++aR s7).length=y5.length + 1 + s7.size:=by rw [List.length_append,List.length_append,l7]; simp
  have l5':(y5++([32]:List Int)).length=y5.length + 1:=by simp
  refine T.eqb e7 (T.grd (Nat.ble_eq_true_of_le (by omega)) (T.eqb (xl n e) (T.ite (fun hm=>?_) (fun hm=>?_))))
  · refine (FU n u1).bind (fun y11 q11=>T.grd (Nat.ble_eq_true_of_le (by omega)) ?_)
    have lA:(((y5++([32]:List Int))++aR s7)++([32]:List Int)).length=y5.length + 2 + s7.size:=by rw [List.length_append,l5]; simp; omega
    have e16:aE .i64 16 (y11.size:Int)=((16 - y11.size:Nat):Int):=by rw [BJ (by omega) (by omega)]; omega
    have loop:T (iter (fun s=>fO n e y11 s) n ((((y5++([32]:List Int))++aR s7)++([32]:List Int)),0)) (fun r=>r.length=y5.length + 2 + s7.size + (16 - y11.size)):=by
      refine T.loop (16 - y11.size) (fun i s=>s.2=(i:Int)∧s.1.length=y5.length + 2 + s7.size + i) _ (fun i s hi hs=>?_) ⟨rfl,lA⟩ (by omega)
      obtain ⟨s1,s2⟩:=s
      obtain ⟨q1,q2⟩:=hs
      dsimp only at q1 q2
      subst q1
      unfold fO
      dsimp only
      rw [e16]
      refine T.ite (fun h=>?_) (fun h=>T.fin ?_)
      · rw [decide_eq_true_eq] at h
        refine T.grd (Nat.ble_eq_true_of_le (by omega)) (T.next ⟨by omega,yS i (by omega),?_⟩)
        show (s1++([48]:List Int)).length=_
        rw [List.length_append,q2]
        simp
        omega
      · rw [decide_eq_false_iff_not] at h
        show s1.length=_
        omega
    refine loop.bind (fun t q=>?_)
    have l11:=o9 y11
    refine T.grd (Nat.ble_eq_true_of_le (by omega)) (T.eqb (o7 n e) ?_)
    have lt:(t++aR y11).length=t.length + y11.size:=by rw [List.length_append,l11]
    have lt2:∀ a b:Int,((t++aR y11)++([a,b]:List Int)).length=t.length + y11.size + 2:=fun a b=>by rw [List.length_append,lt]; simp
    refine T.ite (fun _=>T.grd (Nat.ble_eq_true_of_le (by omega)) ?_) (fun _=>T.eqb (kp n e) (T.ite (fun _=>T.grd (Nat.ble_eq_true_of_le (by omega)) ?_) (fun _=>last _ (by omega))))
    · refine (EL n u2 _ (by rw [lt2]; omega)).bind (fun y18 q18=>T.eqb (kp n e) ?_)
      unfold Mo at q18
      rw [lt2] at q18
      refine T.ite (fun _=>T.grd (Nat.ble_eq_true_of_le (by omega)) ?_) (fun _=>last _ (by omega))
      have ly:(y18++([32,119]:List Int)).length=y18.length + 2:=by simp
      refine (Fg n u3 _ (by omega)).bind (fun y24 q24=>last _ ?_)
      unfold Mo at q24
      omega
    · refine (EL n u3 _ (by rw [lt2]; omega)).bind (fun y20 q20=>last _ ?_)
      unfold Mo at q20
      rw [lt2] at q20
      omega
  · have hm':ul e.Kind=false∧nM e.Kind=false:=by
      unfold z8 at hm
      simpa using hm
    refine T.eqb (o7 n e) (T.ite (fun h=>?_) (fun _=>T.eqb (kp n e) (T.ite (fun h=>?_) (fun _=>last _ ?_))))
    · rw [hm'.1] at h
      cases h
    · rw [hm'.2] at h
      cases h
    · have:=g3 hm
      rw [l5]
      omega

end Go.Proofs.YtnmmknnnggcijaaDoor
