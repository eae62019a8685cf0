/- Codes alike -/
import Derived.Test.YtaiokpalfdbnnaaC5
namespace Go.Proofs.Ytaiokpalfdbnnaa
open Go A

theorem Kw (n:Nat) (l:List ab) (hn:l.length<n) (hl:l.length≤10000):T (gi n l l) (fun b=>b=true):=by
  unfold gi
  refine T.ite (fun h=>by simp at h) (fun _=>?_)
  refine T.bind (P:=Rd (fun _=>True) (fun _=>False)) (T.loop l.length (fun i s=>s=(i:Int)) _ (fun i s hi hs=>?_) rfl hn) (fun t ht=>?_)
  · subst hs
    unfold eD
    refine T.ite (fun h=>?_) (fun h=>T.fin trivial)
    have h:=of_decide_eq_true h
    have hi':i<l.length:=by omega
    refine T.get i rfl hi' (T.get i rfl hi' (T.ite (fun h=>?_) (fun _=>T.next ⟨hi',bM i (by omega)⟩)))
    rw [ab.beq_refl] at h
    cases h
  · cases t with
    | inl w=>exact T.ret rfl
    | inr w=>exact ht.elim
theorem Ar (n:Nat) (c:aj) (hn:c.Steps.length<n) (hl:c.Steps.length≤10000):T (pE n c c) (fun b=>b=true):=by
  unfold pE
  refine T.ite (fun _=>(Kw n _ hn hl).bind (fun b hb=>T.ret hb)) (fun h=>by simp at h)

end Go.Proofs.Ytaiokpalfdbnnaa
