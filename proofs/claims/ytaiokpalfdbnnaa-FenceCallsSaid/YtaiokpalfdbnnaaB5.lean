/- Check, by the reference: exactly what is right -/
import Derived.Test.YtaiokpalfdbnnaaB4
namespace Go.Proofs.Ytaiokpalfdbnnaa
open Go A

theorem Kl (n:Nat) (c:aj) (hl:c.Steps.length≤4096) (hn:5000≤n) :
    T (iter (fun s=>iF n c s) n 0) (Rd (fun _=>∀ (k:Nat) (s:ab),c.Steps[k]?=some s→Ok s c.Regs c.Steps.length) (fun _=>¬ ∀ (k:Nat) (s:ab),c.Steps[k]?=some s→Ok s c.Regs c.Steps.length)):=by
  refine T.loop c.Steps.length (fun i s=>s=(i:Int)∧∀ (k:Nat) (s:ab),k<i→c.Steps[k]?=some s→Ok s c.Regs c.Steps.length) _ (fun i s hi hs=>?_) ⟨rfl,fun k s h=>by omega⟩ (by omega)
  obtain ⟨rfl,hs⟩:=hs
  unfold iF
  refine T.ite (fun h=>?_) (fun h=>?_)
  · have h:=of_decide_eq_true h
    have hi':i<c.Steps.length:=by omega
    have hsi:c.Steps[i]?=some c.Steps[i]:=List.getElem?_eq_getElem hi'
    refine T.get i rfl hi' ((Ki n _ _ _).bind (fun b hb=>T.ite (fun h2=>T.fin (fun hx=>?_)) (fun h2=>T.next ⟨hi',bM i (by omega),fun k s hk hks=>?_⟩)))
    · have:=hb.2 (hx i _ hsi)
      rw [this] at h2
      cases h2
    · by_cases e:k=i
      · subst e
        rw [hsi] at hks
        cases hks
        exact hb.1 (by simpa using h2)
      · exact hs k s (by omega) hks
  · have h:=of_decide_eq_false h
    exact T.fin (fun k s hks=>hs k s (by have:=(List.getElem?_eq_some_iff.1 hks).1; omega) hks)
theorem vu (n:Nat) (hn:1000000<n) (c:aj) (hb:c.Regs≤150) (hl:c.Steps.length≤400):T (ig n c) (fun y=>y=0↔aK c):=by
  unfold ig
  have no:∀ (_:¬ aK c),T (some (2:Int)) (fun y=>y=0↔aK c):=fun h=>T.ret ⟨fun h=>(by cases h),fun h2=>(h h2).elim⟩
  refine T.ite (fun h=>no (fun hr=>?_)) (fun h1=>T.ite (fun h=>no (fun hr=>?_)) (fun h2=>T.ite (fun h=>no (fun hr=>?_)) (fun h3=>T.ite (fun h=>no (fun hr=>?_)) (fun h4=>?_))))
  · have:=of_decide_eq_true h; have:=hr.regs; omega
  · have:=of_decide_eq_true h; have:=hr.regs; omega
  · have:=of_decide_eq_true h; have:=hr.len; omega
  · have:=of_decide_eq_true h; have:=hr.len; omega
  have h1:=of_decide_eq_false h1
  have h3:=of_decide_eq_false h3
  have h3':1≤c.Steps.length:=by omega
  refine (Kl n c (by omega) (by omega)).bind (fun t ht=>?_)
  cases t with
  | inr w=>exact no (fun hr=>ht hr.ok)
  | inl w =>
    have hok:∀ (k:Nat) (s:ab),c.Steps[k]?=some s→Ok s c.Regs c.Steps.length:=ht
    have hz:c.Steps[c.Steps.length - 1]?=some (c.Steps[c.Steps.length - 1]'(by omega)):=List.getElem?_eq_getElem (by omega)
    refine T.get (c.Steps.length - 1) (GE _ h3' (by omega)) (by omega) ?_
    generalize c.Steps[c.Steps.length - 1]'(by omega)=z at hz
    have hRe:c.Regs=((c.Regs.toNat:Nat):Int):=by omega
    have hmul:(c.Regs.toNat + 1) * c.Steps.length≤151 * 400:=Nat.mul_le_mul (by omega) hl
    have body:(z.Op=8∨z.Op=10)→T ((ic n c).bind fun y=>if (!y)=true then some (2:Int) else some 0) (fun y=>y=0↔aK c):=fun hop=>by
      refine (Fo (R:=c.Regs.toNat) n hn c hRe (by omega) h3' (by omega) (by omega) (by rw [← hRe]; exact hok)).bind (fun y hy=>T.ite (fun h=>no (fun hr=>?_)) (fun h=>T.ret ⟨fun _=>?_,fun _=>rfl⟩))
      · have:=hy.2 hr.nb
        rw [this] at h
        cases h
      · exact ⟨⟨by omega,by omega⟩,⟨h3',by omega⟩,hok,⟨z,hz,hop⟩,hy.1 (by simpa using h)⟩
    have bad:¬ (z.Op=8∨z.Op=10)→¬ aK c:=fun hx hr=>by
      obtain ⟨s,h5,h6⟩:=hr.last
      rw [hz] at h5
      cases h5
      exact hx h6
    refine T.ite (fun h8=>T.ite (fun h10=>no (bad ?_)) (fun h10=>body (.inr ?_))) (fun h8=>body (.inl ?_))
    · simp only [bne_iff_ne,ne_eq] at h8 h10
      omega
    · simpa using h10
    · simpa using h8

end Go.Proofs.Ytaiokpalfdbnnaa
