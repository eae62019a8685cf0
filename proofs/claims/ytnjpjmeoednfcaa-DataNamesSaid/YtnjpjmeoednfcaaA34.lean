/- Code, functions and the closed evaluator are determinate. -/
import Derived.Test.YtnjpjmeoednfcaaA33
namespace Go.Proofs.Ytnjpjmeoednfcaa
namespace A
open Go

theorem postK_out : ∀ {xs : List (Nat × TypeId)} {S : St} {X : Prop}, postK xs S X → X ∧ ∀ X', X' → postK xs S X'
  | [], _, _, h => ⟨h, fun _ h => h⟩
  | (d, e) :: xs, S, X, h => by
    obtain ⟨a, h1, h2⟩ := nthK_iff.1 h
    split at h2
    · rename_i d' i j
      obtain ⟨hb, h2⟩ := Chk_elim h2
      obtain ⟨h3, h4⟩ := postK_out h2
      refine ⟨h3, fun X' h => nthK_iff.2 ⟨_, h1, ?_⟩⟩
      exact Chk_intro hb (h4 X' h)
    · exact False.elim h2

theorem acode_det {C : Ctx} (hC : CDet C) {pl : Pol} : ∀ (c : Code) {S : St}, Det2 (acode C pl c S) := by
  intro c
  induction c with
  | skip => exact Det2.ret Ex.nrm _
  | region id ops draw =>
    intro S
    cases draw with
    | false =>
      show Det2 (fun (K : Ex → St → Prop) => aops C pl false ops ops.toList S fun S' => K .nrm S')
      exact Det.bind2 (aops_det hC _ _) (fun S' => Det2.ret Ex.nrm S')
    | true =>
      show Det2 (fun (K : Ex → St → Prop) => Chk (drawB pl ops) (preK C.P (allocs ops.toList) S fun S1 => aops C pl true ops ops.toList S1 fun S' => postK (allocs ops.toList) S' (K .nrm S')))
      refine Det2.chk (Det.bind2 preK_det (fun S1 => Det.bind2 (aops_det hC _ _) (fun S' => ?_)))
      intro K h
      obtain ⟨h1, h2⟩ := postK_out h
      exact ⟨_, _, h1, fun K' hk => h2 _ hk⟩
  | seq x y ihx ihy =>
    intro S
    show Det2 (fun (K : Ex → St → Prop) => acode C pl x S fun e S' => match e with
      | .nrm => acode C pl y S' K
      | .ex i => K (.ex i) S'
      | .ret => K .ret S')
    refine Det2.bind2 ihx (fun e S' => ?_)
    cases e with
    | nrm => exact ihy
    | ex i => exact Det2.ret _ _
    | ret => exact Det2.ret _ _
  | cond c x y ihx ihy =>
    intro S
    show Det2 (fun (K : Ex → St → Prop) => boolOf c S fun b S' => match b with
      | true => acode C pl x S' K
      | false => acode C pl y S' K)
    refine Det2.bind2 boolOf_det (fun b S' => ?_)
    cases b with
    | true => exact ihx
    | false => exact ihy
  | block id c ih =>
    intro S
    show Det2 (fun (K : Ex → St → Prop) => acode C pl c S fun e S' => match e with
      | .ex i => match Nat.beq i id with | true => K .nrm S' | false => K (.ex i) S'
      | .nrm => K .nrm S'
      | .ret => K .ret S')
    refine Det2.bind2 ih (fun e S' => ?_)
    cases e with
    | nrm => exact Det2.ret _ _
    | ret => exact Det2.ret _ _
    | ex i =>
      show Det2 (fun (K : Ex → St → Prop) => match Nat.beq i id with | true => K .nrm S' | false => K (.ex i) S')
      split
      · exact Det2.ret _ _
      · exact Det2.ret _ _
  | loop c ih => exact hC.loop _ _ _
  | exit id => exact Det2.ret (Ex.ex id) _
  | ret => exact Det2.ret Ex.ret _
  | _ => exact fun K h => False.elim h

theorem resK_det {P : Program} {S : St} : ∀ {rs : List ResultVar}, Det (resK P S rs)
  | [] => Det.ret _
  | .tmp t :: rs => by
    show Det (fun K => nthK S.t t fun a => resK P S rs fun as => K (a :: as))
    exact Det.bind nthK_det (fun a => Det.bind resK_det (fun as => Det.ret (a :: as)))
  | .cell c t :: rs => by
    show Det (fun K => nthK S.t c fun p => atK S p fun row j => partK P t row j fun x => resK P S rs fun as => K (x :: as))
    exact Det.bind nthK_det (fun a => Det2.bind atK_det (fun row j => Det.bind partK_det (fun x => Det.bind resK_det (fun as => Det.ret (x :: as)))))

theorem tupK_det {as : List AV} : Det (tupK as) := by
  unfold tupK
  split <;> exact Det.ret _

theorem abody_det {C : Ctx} (hC : CDet C) {f : Nat} {args : List AV} {o : List Ob} : Det2 (abody C f args o) := by
  unfold abody
  split
  · rename_i fn _
    have resDet : ∀ {S : St}, Det2 (fun K : AV → St → Prop => resK C.P S fn.results.toList fun rs => tupK rs fun r => K r S) := fun {S} => Det.bind2 resK_det (fun rs => Det.bind2 tupK_det (fun r => Det2.ret r S))
    split
    · refine Det2.bind2 (acode_det hC _) (fun e S => ?_)
      cases e with
      | ex i => exact Det2.failN
      | nrm => exact resDet
      | ret => exact resDet
    · exact Det2.failN
  · exact Det2.failN

theorem apure_det {C : Ctx} (hC : CDet C) {f : Nat} {args : List AV} : Det (apure C f args) := Det2.bind (abody_det hC) (fun _ _ => dfzK_det)
theorem astore_det {C : Ctx} (hC : CDet C) {f : Nat} {args : List AV} {o : List Ob} : Det2 (astore C f args o) := by
  show Det2 (fun (K : AV → List Ob → Prop) => abody C f args o fun r S => Chk (noL 4 r && Nat.beq S.b o.length) (K r S.o))
  exact Det2.bind2 (abody_det hC) (fun _ _ => Det2.chk (Det2.ret _ _))

theorem ctxN_det (cfg : Cfg) : ∀ n, CDet (ctxN cfg n)
  | 0 => ⟨fun _ _ => Det.failN (n := 123), fun _ _ _ => Det2.failN (n := 124), fun _ _ _ => Det2.failN (n := 125)⟩
  | n + 1 => ⟨fun _ _ => apure_det (ctxN_det cfg n), fun _ _ _ => astore_det (ctxN_det cfg n), fun pl c S => by
      show Det2 (fun (K : Ex → St → Prop) => acode (ctxN cfg n) pl c S fun e S' => match e with
        | .nrm => (ctxN cfg n).loop pl c S' K
        | .ex i => K (.ex i) S'
        | .ret => K .ret S')
      refine Det2.bind2 (acode_det (ctxN_det cfg n) c) (fun e S' => ?_)
      cases e with
      | nrm => exact (ctxN_det cfg n).loop _ _ _
      | ex i => exact Det2.ret _ _
      | ret => exact Det2.ret _ _⟩

theorem ctxN_apure (cfg : Cfg) (n : Nat) : ApureDet (ctxN cfg n) := fun f args K h => by
  obtain ⟨r, h1, h2⟩ := apure_det (ctxN_det cfg n) K h
  exact ⟨r, h1, h2 _ rfl⟩

end A
end Go.Proofs.Ytnjpjmeoednfcaa
