/- The evaluator is determinate: it hands its continuation one answer. -/
import Derived.Test.YtnjpjmeoednfcaaA32
namespace Go.Proofs.Ytnjpjmeoednfcaa
namespace A
open Go

def Det {α : Type} (X : (α → Prop) → Prop) : Prop := ∀ K, X K → ∃ r, K r ∧ ∀ K', K' r → X K'
def Det2 {α β : Type} (X : (α → β → Prop) → Prop) : Prop := ∀ K, X K → ∃ a b, K a b ∧ ∀ K', K' a b → X K'
def Det3 {α β γ : Type} (X : (α → β → γ → Prop) → Prop) : Prop := ∀ K, X K → ∃ a b c, K a b c ∧ ∀ K', K' a b c → X K'

theorem Det.fail {α : Type} : Det (fun _ : α → Prop => False) := fun _ h => h.elim
theorem Det.failN {α : Type} {n : Nat} : Det (fun _ : α → Prop => Fail n) := fun _ h => False.elim h
theorem Det2.failN {α β : Type} {n : Nat} : Det2 (fun _ : α → β → Prop => Fail n) := fun _ h => False.elim h
theorem Det3.failN {α β γ : Type} {n : Nat} : Det3 (fun _ : α → β → γ → Prop => Fail n) := fun _ h => False.elim h
theorem Det.ret {α : Type} (a : α) : Det (fun K => K a) := fun _ h => ⟨a, h, fun _ h => h⟩
theorem Det2.ret {α β : Type} (a : α) (b : β) : Det2 (fun K => K a b) := fun _ h => ⟨a, b, h, fun _ h => h⟩
theorem Det3.ret {α β γ : Type} (a : α) (b : β) (c : γ) : Det3 (fun K => K a b c) := fun _ h => ⟨a, b, c, h, fun _ h => h⟩
theorem Det.chk {α : Type} {b : Bool} {X : (α → Prop) → Prop} (h : Det X) : Det (fun K => Chk b (X K)) := fun K hk => by
  obtain ⟨hb, hx⟩ := Chk_elim hk
  obtain ⟨r, h1, h2⟩ := h K hx
  exact ⟨r, h1, fun K' hk' => Chk_intro hb (h2 K' hk')⟩
theorem Det2.chk {α β : Type} {b : Bool} {X : (α → β → Prop) → Prop} (h : Det2 X) : Det2 (fun K => Chk b (X K)) := fun K hk => by
  obtain ⟨hb, hx⟩ := Chk_elim hk
  obtain ⟨r, s, h1, h2⟩ := h K hx
  exact ⟨r, s, h1, fun K' hk' => Chk_intro hb (h2 K' hk')⟩
theorem Det3.chk {α β γ : Type} {b : Bool} {X : (α → β → γ → Prop) → Prop} (h : Det3 X) : Det3 (fun K => Chk b (X K)) := fun K hk => by
  obtain ⟨hb, hx⟩ := Chk_elim hk
  obtain ⟨r, s, t, h1, h2⟩ := h K hx
  exact ⟨r, s, t, h1, fun K' hk' => Chk_intro hb (h2 K' hk')⟩
theorem Det.fork {α : Type} {b : Bool} {X Y : (α → Prop) → Prop} (h : Det X) (k : Det Y) : Det (fun K => Fork b (X K) (Y K)) := by
  cases b
  · exact k
  · exact h
theorem Det2.fork {α β : Type} {b : Bool} {X Y : (α → β → Prop) → Prop} (h : Det2 X) (k : Det2 Y) : Det2 (fun K => Fork b (X K) (Y K)) := by
  cases b
  · exact k
  · exact h
theorem Det.bind {α β : Type} {X : (α → Prop) → Prop} {Y : α → (β → Prop) → Prop} (h : Det X) (k : ∀ a, Det (Y a)) : Det (fun K => X fun a => Y a K) := fun K hk => by
  obtain ⟨r, h1, h2⟩ := h _ hk
  obtain ⟨s, h3, h4⟩ := k r K h1
  exact ⟨s, h3, fun K' hk' => h2 _ (h4 K' hk')⟩
theorem Det.bind2 {α β γ : Type} {X : (α → Prop) → Prop} {Y : α → (β → γ → Prop) → Prop} (h : Det X) (k : ∀ a, Det2 (Y a)) : Det2 (fun K => X fun a => Y a K) := fun K hk => by
  obtain ⟨r, h1, h2⟩ := h _ hk
  obtain ⟨s, t, h3, h4⟩ := k r K h1
  exact ⟨s, t, h3, fun K' hk' => h2 _ (h4 K' hk')⟩
theorem Det2.bind {α β γ : Type} {X : (α → β → Prop) → Prop} {Y : α → β → (γ → Prop) → Prop} (h : Det2 X) (k : ∀ a b, Det (Y a b)) : Det (fun K => X fun a b => Y a b K) := fun K hk => by
  obtain ⟨r, s, h1, h2⟩ := h _ hk
  obtain ⟨t, h3, h4⟩ := k r s K h1
  exact ⟨t, h3, fun K' hk' => h2 _ (h4 K' hk')⟩
theorem Det2.bind2 {α β γ δ : Type} {X : (α → β → Prop) → Prop} {Y : α → β → (γ → δ → Prop) → Prop} (h : Det2 X) (k : ∀ a b, Det2 (Y a b)) : Det2 (fun K => X fun a b => Y a b K) := fun K hk => by
  obtain ⟨r, s, h1, h2⟩ := h _ hk
  obtain ⟨t, u, h3, h4⟩ := k r s K h1
  exact ⟨t, u, h3, fun K' hk' => h2 _ (h4 K' hk')⟩
theorem Det3.bind {α β γ δ : Type} {X : (α → β → γ → Prop) → Prop} {Y : α → β → γ → (δ → Prop) → Prop} (h : Det3 X) (k : ∀ a b c, Det (Y a b c)) : Det (fun K => X fun a b c => Y a b c K) := fun K hk => by
  obtain ⟨r, s, q, h1, h2⟩ := h _ hk
  obtain ⟨t, h3, h4⟩ := k r s q K h1
  exact ⟨t, h3, fun K' hk' => h2 _ (h4 K' hk')⟩

theorem Det.of_iff {α : Type} {X : (α → Prop) → Prop} {a : α} (h : ∀ K : α → Prop, X K ↔ K a) : Det X := fun K hk => ⟨a, (h K).1 hk, fun K' hk' => (h K').2 hk'⟩
theorem forceA_det {a : AV} : Det (forceA a) := .of_iff fun _ => forceA_iff
theorem forceL_det {xs : List AV} : Det (forceL xs) := .of_iff fun _ => forceL_iff
theorem forceAL_det {xs : List AV} : Det (forceAL xs) := .of_iff fun _ => forceAL_iff
theorem forceLoc_det {xs : List (Nat × List AV)} : Det (forceLoc xs) := .of_iff fun _ => forceLoc_iff
theorem forceO_det {xs : List Ob} : Det (forceO xs) := .of_iff fun _ => forceO_iff
theorem nthK_det {xs : List AV} {n : Nat} : Det (nthK xs n) := fun K h => by
  obtain ⟨a, h1, h2⟩ := nthK_iff.1 h
  exact ⟨a, h2, fun K' h3 => nthK_iff.2 ⟨a, h1, h3⟩⟩
theorem setK_det {xs : List AV} {n : Nat} {v : AV} : Det (setK xs n v) := .of_iff fun _ => setK_iff
theorem putK_det {dst : Option Tmp} {a : AV} {S : St} : Det (putK dst a S) := .of_iff fun _ => putK_iff
theorem killL_det {k : Key} {xs : List AV} : Det (killL k xs) := .of_iff fun _ => killL_iff
theorem killLoc_det {k : Key} {xs : List (Nat × List AV)} : Det (killLoc k xs) := .of_iff fun _ => killLoc_iff
theorem killObs_det {k : Key} {xs : List Ob} : Det (killObs k xs) := .of_iff fun _ => killObs_iff
theorem getK_det {S : St} {x : Operand} : Det (getK S x) := by
  unfold getK
  repeat' first
    | exact Det.failN
    | exact nthK_det
    | exact forceA_det
    | exact Det.ret _
    | refine Det.bind forceA_det (fun _ => ?_)
    | split
theorem getsK_det {S : St} : ∀ {xs : List Operand}, Det (getsK S xs)
  | [] => Det.ret _
  | x :: xs => by
    show Det (fun K => getK S x fun a => getsK S xs fun as => K (a :: as))
    exact Det.bind getK_det (fun a => Det.bind getsK_det (fun as => Det.ret (a :: as)))
theorem boolAt_det {d : Nat} {S : St} : Det2 (boolAt d S) := by
  unfold boolAt
  refine Det.bind2 nthK_det (fun a => ?_)
  split
  · exact Det2.fork (Det.bind2 setK_det (fun _ => Det2.ret _ _)) (Det.bind2 setK_det (fun _ => Det2.ret _ _))
  · exact Det2.failN
theorem boolOf_det {c : Operand} {S : St} : Det2 (boolOf c S) := by
  unfold boolOf
  split
  · exact boolAt_det
  · exact Det2.fork (Det2.ret _ _) (Det2.ret _ _)
  · exact Det2.failN
structure CDet (C : Ctx) : Prop where
  pcall : ∀ f args, Det (C.pcall f args)
  scall : ∀ f args o, Det2 (C.scall f args o)
  loop : ∀ pl c S, Det2 (C.loop pl c S)

theorem cellsK_det {a : AV} : Det (cellsK a) := by
  unfold cellsK
  repeat' first
    | exact Det.failN
    | exact Det2.failN
    | exact Det3.failN
    | exact Det.ret _
    | exact Det2.ret _ _
    | exact Det3.ret _ _ _
    | refine Det.chk ?_
    | refine Det2.chk ?_
    | refine Det3.chk ?_
    | split
theorem rowK_det {S : St} {key : Key} {i : Nat} : Det (rowK S key i) := by
  unfold rowK
  repeat' first
    | exact Det.failN
    | exact Det2.failN
    | exact Det3.failN
    | exact Det.ret _
    | exact Det2.ret _ _
    | exact Det3.ret _ _ _
    | refine Det.chk ?_
    | refine Det2.chk ?_
    | refine Det3.chk ?_
    | split
theorem atK_det {S : St} {a : AV} : Det2 (atK S a) := by
  unfold atK
  repeat' first
    | exact Det.failN
    | exact Det2.failN
    | exact Det3.failN
    | exact Det.ret _
    | exact Det2.ret _ _
    | exact Det3.ret _ _ _
    | refine Det.chk ?_
    | refine Det2.chk ?_
    | refine Det3.chk ?_
    | exact rowK_det
    | refine Det.bind (rowK_det) (fun _ => ?_)
    | refine Det.bind2 (rowK_det) (fun _ => ?_)
    | split
theorem partK_det {P : Program} {t : TypeId} {row : List AV} {j : Nat} : Det (partK P t row j) := by
  unfold partK
  repeat' first
    | exact Det.failN
    | exact Det2.failN
    | exact Det3.failN
    | exact Det.ret _
    | exact Det2.ret _ _
    | exact Det3.ret _ _ _
    | refine Det.chk ?_
    | refine Det2.chk ?_
    | refine Det3.chk ?_
    | exact forceL_det
    | refine Det.bind (forceL_det) (fun _ => ?_)
    | refine Det.bind2 (forceL_det) (fun _ => ?_)
    | split
theorem storeK_det {S : St} {a : AV} {cs : List AV} : Det (storeK S a cs) := by
  unfold storeK
  repeat' first
    | exact Det.failN
    | exact Det2.failN
    | exact Det3.failN
    | exact Det.ret _
    | exact Det2.ret _ _
    | exact Det3.ret _ _ _
    | refine Det.chk ?_
    | refine Det2.chk ?_
    | refine Det3.chk ?_
    | exact forceL_det
    | refine Det.bind (forceL_det) (fun _ => ?_)
    | refine Det.bind2 (forceL_det) (fun _ => ?_)
    | exact forceLoc_det
    | refine Det.bind (forceLoc_det) (fun _ => ?_)
    | refine Det.bind2 (forceLoc_det) (fun _ => ?_)
    | exact forceO_det
    | refine Det.bind (forceO_det) (fun _ => ?_)
    | refine Det.bind2 (forceO_det) (fun _ => ?_)
    | split
theorem aBinC_det {op : BinOp} {x y : Value} : Det (aBinC op x y) := by
  unfold aBinC
  repeat' first
    | exact Det.failN
    | exact Det2.failN
    | exact Det3.failN
    | exact Det.ret _
    | exact Det2.ret _ _
    | exact Det3.ret _ _ _
    | refine Det.chk ?_
    | refine Det2.chk ?_
    | refine Det3.chk ?_
    | split
theorem boolK_det {P : Program} {op : BinOp} {t : TypeId} {a b : Bool} : Det (boolK P op t a b) := by
  unfold boolK
  repeat' first
    | exact Det.failN
    | exact Det2.failN
    | exact Det3.failN
    | exact Det.ret _
    | exact Det2.ret _ _
    | exact Det3.ret _ _ _
    | refine Det.chk ?_
    | refine Det2.chk ?_
    | refine Det3.chk ?_
    | split
theorem scalK_det {P : Program} {op : BinOp} {t : TypeId} {a b : Value} : Det (scalK P op t a b) := by
  unfold scalK
  repeat' first
    | exact Det.failN
    | exact Det2.failN
    | exact Det3.failN
    | exact Det.ret _
    | exact Det2.ret _ _
    | exact Det3.ret _ _ _
    | refine Det.chk ?_
    | refine Det2.chk ?_
    | refine Det3.chk ?_
    | exact boolK_det
    | refine Det.bind (boolK_det) (fun _ => ?_)
    | refine Det.bind2 (boolK_det) (fun _ => ?_)
    | exact aBinC_det
    | refine Det.bind (aBinC_det) (fun _ => ?_)
    | refine Det.bind2 (aBinC_det) (fun _ => ?_)
    | split
theorem nilK_det {op : BinOp} {x y : AV} : Det (nilK op x y) := by
  unfold nilK
  repeat' first
    | exact Det.failN
    | exact Det2.failN
    | exact Det3.failN
    | exact Det.ret _
    | exact Det2.ret _ _
    | exact Det3.ret _ _ _
    | refine Det.chk ?_
    | refine Det2.chk ?_
    | refine Det3.chk ?_
    | split
theorem binK_det {P : Program} {op : BinOp} {t : TypeId} {x y : AV} : Det (binK P op t x y) := by
  unfold binK
  repeat' first
    | exact Det.failN
    | exact Det2.failN
    | exact Det3.failN
    | exact Det.ret _
    | exact Det2.ret _ _
    | exact Det3.ret _ _ _
    | refine Det.chk ?_
    | refine Det2.chk ?_
    | refine Det3.chk ?_
    | exact scalK_det
    | refine Det.bind (scalK_det) (fun _ => ?_)
    | refine Det.bind2 (scalK_det) (fun _ => ?_)
    | exact nilK_det
    | refine Det.bind (nilK_det) (fun _ => ?_)
    | refine Det.bind2 (nilK_det) (fun _ => ?_)
    | split
theorem unK_det {op : UnOp} {x : AV} : Det (unK op x) := by
  unfold unK
  repeat' first
    | exact Det.failN
    | exact Det2.failN
    | exact Det3.failN
    | exact Det.ret _
    | exact Det2.ret _ _
    | exact Det3.ret _ _ _
    | refine Det.chk ?_
    | refine Det2.chk ?_
    | refine Det3.chk ?_
    | split
theorem zeroRow_det {P : Program} {e : TypeId} : Det (zeroRow P e) := by
  unfold zeroRow
  repeat' first
    | exact Det.failN
    | exact Det2.failN
    | exact Det3.failN
    | exact Det.ret _
    | exact Det2.ret _ _
    | exact Det3.ret _ _ _
    | refine Det.chk ?_
    | refine Det2.chk ?_
    | refine Det3.chk ?_
    | exact forceAL_det
    | refine Det.bind (forceAL_det) (fun _ => ?_)
    | refine Det.bind2 (forceAL_det) (fun _ => ?_)
    | split
theorem dropK_det {d : Nat} {S : St} : Det (dropK d S) := by
  unfold dropK
  repeat' first
    | exact Det.failN
    | exact Det2.failN
    | exact Det3.failN
    | exact Det.ret _
    | exact Det2.ret _ _
    | exact Det3.ret _ _ _
    | refine Det.chk ?_
    | refine Det2.chk ?_
    | refine Det3.chk ?_
    | exact killL_det
    | refine Det.bind (killL_det) (fun _ => ?_)
    | refine Det.bind2 (killL_det) (fun _ => ?_)
    | exact killLoc_det
    | refine Det.bind (killLoc_det) (fun _ => ?_)
    | refine Det.bind2 (killLoc_det) (fun _ => ?_)
    | split
theorem dropsK_det : ∀ (ds : List Nat) (S : St), Det (dropsK ds S)
  | [], S => by
    show Det (fun K => dropsK [] S K)
    unfold dropsK
    repeat' first
      | exact Det.failN
      | exact Det2.failN
      | exact Det3.failN
      | exact Det.ret _
      | exact Det2.ret _ _
      | exact Det3.ret _ _ _
      | refine Det.chk ?_
      | refine Det2.chk ?_
      | refine Det3.chk ?_
      | exact dropsK_det _ _
      | refine Det.bind (dropsK_det _ _) (fun _ => ?_)
      | refine Det.bind2 (dropsK_det _ _) (fun _ => ?_)
      | exact dropK_det
      | refine Det.bind (dropK_det) (fun _ => ?_)
      | refine Det.bind2 (dropK_det) (fun _ => ?_)
      | split
  | d :: ds, S => by
    show Det (fun K => dropsK (d :: ds) S K)
    unfold dropsK
    repeat' first
      | exact Det.failN
      | exact Det2.failN
      | exact Det3.failN
      | exact Det.ret _
      | exact Det2.ret _ _
      | exact Det3.ret _ _ _
      | refine Det.chk ?_
      | refine Det2.chk ?_
      | refine Det3.chk ?_
      | exact dropsK_det _ _
      | refine Det.bind (dropsK_det _ _) (fun _ => ?_)
      | refine Det.bind2 (dropsK_det _ _) (fun _ => ?_)
      | exact dropK_det
      | refine Det.bind (dropK_det) (fun _ => ?_)
      | refine Det.bind2 (dropK_det) (fun _ => ?_)
      | split
theorem boxK_det {pl : Pol} {dst : Option Tmp} {cs : List AV} {S : St} : Det (boxK pl dst cs S) := by
  unfold boxK
  repeat' first
    | exact Det.failN
    | exact Det2.failN
    | exact Det3.failN
    | exact Det.ret _
    | exact Det2.ret _ _
    | exact Det3.ret _ _ _
    | refine Det.chk ?_
    | refine Det2.chk ?_
    | refine Det3.chk ?_
    | exact forceO_det
    | refine Det.bind (forceO_det) (fun _ => ?_)
    | refine Det.bind2 (forceO_det) (fun _ => ?_)
    | exact setK_det
    | refine Det.bind (setK_det) (fun _ => ?_)
    | refine Det.bind2 (setK_det) (fun _ => ?_)
    | exact dropK_det
    | refine Det.bind (dropK_det) (fun _ => ?_)
    | refine Det.bind2 (dropK_det) (fun _ => ?_)
    | exact killL_det
    | refine Det.bind (killL_det) (fun _ => ?_)
    | refine Det.bind2 (killL_det) (fun _ => ?_)
    | split
theorem fillK_det : ∀ (ps : List (Nat × AV)) (place : Nat → Option (Nat × Nat)) (cells : List AV), Det (fillK place cells ps)
  | [], p, c => by
    show Det (fun K => fillK p c [] K)
    unfold fillK
    repeat' first
      | exact Det.failN
      | exact Det2.failN
      | exact Det3.failN
      | exact Det.ret _
      | exact Det2.ret _ _
      | exact Det3.ret _ _ _
      | refine Det.chk ?_
      | refine Det2.chk ?_
      | refine Det3.chk ?_
      | exact fillK_det _ _ _
      | refine Det.bind (fillK_det _ _ _) (fun _ => ?_)
      | refine Det.bind2 (fillK_det _ _ _) (fun _ => ?_)
      | exact forceL_det
      | refine Det.bind (forceL_det) (fun _ => ?_)
      | refine Det.bind2 (forceL_det) (fun _ => ?_)
      | exact cellsK_det
      | refine Det.bind (cellsK_det) (fun _ => ?_)
      | refine Det.bind2 (cellsK_det) (fun _ => ?_)
      | split
  | (i, x) :: rest, p, c => by
    show Det (fun K => fillK p c ((i, x) :: rest) K)
    unfold fillK
    repeat' first
      | exact Det.failN
      | exact Det2.failN
      | exact Det3.failN
      | exact Det.ret _
      | exact Det2.ret _ _
      | exact Det3.ret _ _ _
      | refine Det.chk ?_
      | refine Det2.chk ?_
      | refine Det3.chk ?_
      | exact fillK_det _ _ _
      | refine Det.bind (fillK_det _ _ _) (fun _ => ?_)
      | refine Det.bind2 (fillK_det _ _ _) (fun _ => ?_)
      | exact forceL_det
      | refine Det.bind (forceL_det) (fun _ => ?_)
      | refine Det.bind2 (forceL_det) (fun _ => ?_)
      | exact cellsK_det
      | refine Det.bind (cellsK_det) (fun _ => ?_)
      | refine Det.bind2 (cellsK_det) (fun _ => ?_)
      | split
theorem buildK_det {P : Program} {t : TypeId} {parts : List (Nat × AV)} : Det (buildK P t parts) := by
  unfold buildK
  repeat' first
    | exact Det.failN
    | exact Det2.failN
    | exact Det3.failN
    | exact Det.ret _
    | exact Det2.ret _ _
    | exact Det3.ret _ _ _
    | refine Det.chk ?_
    | refine Det2.chk ?_
    | refine Det3.chk ?_
    | exact zeroRow_det
    | refine Det.bind (zeroRow_det) (fun _ => ?_)
    | refine Det.bind2 (zeroRow_det) (fun _ => ?_)
    | exact fillK_det _ _ _
    | refine Det.bind (fillK_det _ _ _) (fun _ => ?_)
    | refine Det.bind2 (fillK_det _ _ _) (fun _ => ?_)
    | split
theorem forceRows_det : ∀ (xs : List (List AV)), Det (forceRows xs)
  | [] => by
    show Det (fun K => forceRows [] K)
    unfold forceRows
    repeat' first
      | exact Det.failN
      | exact Det2.failN
      | exact Det3.failN
      | exact Det.ret _
      | exact Det2.ret _ _
      | exact Det3.ret _ _ _
      | refine Det.chk ?_
      | refine Det2.chk ?_
      | refine Det3.chk ?_
      | exact forceRows_det _
      | refine Det.bind (forceRows_det _) (fun _ => ?_)
      | refine Det.bind2 (forceRows_det _) (fun _ => ?_)
      | exact forceL_det
      | refine Det.bind (forceL_det) (fun _ => ?_)
      | refine Det.bind2 (forceL_det) (fun _ => ?_)
      | split
  | x :: xs => by
    show Det (fun K => forceRows (x :: xs) K)
    unfold forceRows
    repeat' first
      | exact Det.failN
      | exact Det2.failN
      | exact Det3.failN
      | exact Det.ret _
      | exact Det2.ret _ _
      | exact Det3.ret _ _ _
      | refine Det.chk ?_
      | refine Det2.chk ?_
      | refine Det3.chk ?_
      | exact forceRows_det _
      | refine Det.bind (forceRows_det _) (fun _ => ?_)
      | refine Det.bind2 (forceRows_det _) (fun _ => ?_)
      | exact forceL_det
      | refine Det.bind (forceL_det) (fun _ => ?_)
      | refine Det.bind2 (forceL_det) (fun _ => ?_)
      | split
theorem buildSliceK_det {P : Program} {pl : Pol} {dst : Option Tmp} {t : TypeId} {len : Nat} {parts : List (Nat × AV)} {S : St} : Det (buildSliceK P pl dst t len parts S) := by
  unfold buildSliceK
  repeat' first
    | exact Det.failN
    | exact Det2.failN
    | exact Det3.failN
    | exact Det.ret _
    | exact Det2.ret _ _
    | exact Det3.ret _ _ _
    | refine Det.chk ?_
    | refine Det2.chk ?_
    | refine Det3.chk ?_
    | exact putK_det
    | refine Det.bind (putK_det) (fun _ => ?_)
    | refine Det.bind2 (putK_det) (fun _ => ?_)
    | exact zeroRow_det
    | refine Det.bind (zeroRow_det) (fun _ => ?_)
    | refine Det.bind2 (zeroRow_det) (fun _ => ?_)
    | exact fillK_det _ _ _
    | refine Det.bind (fillK_det _ _ _) (fun _ => ?_)
    | refine Det.bind2 (fillK_det _ _ _) (fun _ => ?_)
    | exact forceRows_det _
    | refine Det.bind (forceRows_det _) (fun _ => ?_)
    | refine Det.bind2 (forceRows_det _) (fun _ => ?_)
    | exact forceO_det
    | refine Det.bind (forceO_det) (fun _ => ?_)
    | refine Det.bind2 (forceO_det) (fun _ => ?_)
    | split
theorem buildFzK_det {P : Program} {pl : Pol} {dst : Option Tmp} {t : TypeId} {len : Nat} {parts : List (Nat × AV)} : Det (buildFzK P pl dst t len parts) := by
  unfold buildFzK
  repeat' first
    | exact Det.failN
    | exact Det2.failN
    | exact Det3.failN
    | exact Det.ret _
    | exact Det2.ret _ _
    | exact Det3.ret _ _ _
    | refine Det.chk ?_
    | refine Det2.chk ?_
    | refine Det3.chk ?_
    | exact zeroRow_det
    | refine Det.bind (zeroRow_det) (fun _ => ?_)
    | refine Det.bind2 (zeroRow_det) (fun _ => ?_)
    | exact fillK_det _ _ _
    | refine Det.bind (fillK_det _ _ _) (fun _ => ?_)
    | refine Det.bind2 (fillK_det _ _ _) (fun _ => ?_)
    | exact forceRows_det _
    | refine Det.bind (forceRows_det _) (fun _ => ?_)
    | refine Det.bind2 (forceRows_det _) (fun _ => ?_)
    | split
theorem lenK_det {P : Program} {t : TypeId} {S : St} {x : AV} : Det (lenK P t S x) := by
  unfold lenK
  repeat' first
    | exact Det.failN
    | exact Det2.failN
    | exact Det3.failN
    | exact Det.ret _
    | exact Det2.ret _ _
    | exact Det3.ret _ _ _
    | refine Det.chk ?_
    | refine Det2.chk ?_
    | refine Det3.chk ?_
    | split
theorem rowsK_det {size : Nat} {S : St} {x : AV} : Det2 (rowsK size S x) := by
  unfold rowsK
  repeat' first
    | exact Det.failN
    | exact Det2.failN
    | exact Det3.failN
    | exact Det.ret _
    | exact Det2.ret _ _
    | exact Det3.ret _ _ _
    | refine Det.chk ?_
    | refine Det2.chk ?_
    | refine Det3.chk ?_
    | split
theorem growK_det {S : St} {id : Nat} {ob : Ob} : Det2 (growK S id ob) := by
  unfold growK
  repeat' first
    | exact Det.failN
    | exact Det2.failN
    | exact Det3.failN
    | exact Det.ret _
    | exact Det2.ret _ _
    | exact Det3.ret _ _ _
    | refine Det.chk ?_
    | refine Det2.chk ?_
    | refine Det3.chk ?_
    | exact killL_det
    | refine Det.bind (killL_det) (fun _ => ?_)
    | refine Det.bind2 (killL_det) (fun _ => ?_)
    | exact killLoc_det
    | refine Det.bind (killLoc_det) (fun _ => ?_)
    | refine Det.bind2 (killLoc_det) (fun _ => ?_)
    | exact killObs_det
    | refine Det.bind (killObs_det) (fun _ => ?_)
    | refine Det.bind2 (killObs_det) (fun _ => ?_)
    | exact forceO_det
    | refine Det.bind (forceO_det) (fun _ => ?_)
    | refine Det.bind2 (forceO_det) (fun _ => ?_)
    | split
theorem appendK_det {P : Program} {ts : List TypeId} {base x : AV} {S : St} : Det2 (appendK P ts base x S) := by
  unfold appendK
  repeat' first
    | exact Det.failN
    | exact Det2.failN
    | exact Det3.failN
    | exact Det.ret _
    | exact Det2.ret _ _
    | exact Det3.ret _ _ _
    | refine Det.chk ?_
    | refine Det2.chk ?_
    | refine Det3.chk ?_
    | exact rowsK_det
    | refine Det2.bind (rowsK_det) (fun _ _ => ?_)
    | refine Det2.bind2 (rowsK_det) (fun _ _ => ?_)
    | exact forceO_det
    | refine Det.bind (forceO_det) (fun _ => ?_)
    | refine Det.bind2 (forceO_det) (fun _ => ?_)
    | exact growK_det
    | refine Det2.bind (growK_det) (fun _ _ => ?_)
    | refine Det2.bind2 (growK_det) (fun _ _ => ?_)
    | split
theorem intOf_det {a : AV} : Det (intOf a) := by
  unfold intOf
  repeat' first
    | exact Det.failN
    | exact Det2.failN
    | exact Det3.failN
    | exact Det.ret _
    | exact Det2.ret _ _
    | exact Det3.ret _ _ _
    | refine Det.chk ?_
    | refine Det2.chk ?_
    | refine Det3.chk ?_
    | split
theorem makeSliceK_det {P : Program} {t : TypeId} {l c : AV} {S : St} : Det2 (makeSliceK P t l c S) := by
  unfold makeSliceK
  repeat' first
    | exact Det.failN
    | exact Det2.failN
    | exact Det3.failN
    | exact Det.ret _
    | exact Det2.ret _ _
    | exact Det3.ret _ _ _
    | refine Det.chk ?_
    | refine Det2.chk ?_
    | refine Det3.chk ?_
    | exact intOf_det
    | refine Det.bind (intOf_det) (fun _ => ?_)
    | refine Det.bind2 (intOf_det) (fun _ => ?_)
    | exact zeroRow_det
    | refine Det.bind (zeroRow_det) (fun _ => ?_)
    | refine Det.bind2 (zeroRow_det) (fun _ => ?_)
    | exact forceO_det
    | refine Det.bind (forceO_det) (fun _ => ?_)
    | refine Det.bind2 (forceO_det) (fun _ => ?_)
    | split
theorem cutK_det {len cap : Nat} {lo hi mx : Option Int} : Det3 (cutK len cap lo hi mx) := by
  unfold cutK
  repeat' first
    | exact Det.failN
    | exact Det2.failN
    | exact Det3.failN
    | exact Det.ret _
    | exact Det2.ret _ _
    | exact Det3.ret _ _ _
    | refine Det.chk ?_
    | refine Det2.chk ?_
    | refine Det3.chk ?_
    | split
theorem sliceK_det {P : Program} {t : TypeId} {x : AV} {lo hi mx : Option Int} {S : St} : Det (sliceK P t x lo hi mx S) := by
  unfold sliceK
  repeat' first
    | exact Det.failN
    | exact Det2.failN
    | exact Det3.failN
    | exact Det.ret _
    | exact Det2.ret _ _
    | exact Det3.ret _ _ _
    | refine Det.chk ?_
    | refine Det2.chk ?_
    | refine Det3.chk ?_
    | exact cutK_det
    | refine Det3.bind (cutK_det) (fun _ _ _ => ?_)
    | split
theorem indexAddrK_det {P : Program} {t : TypeId} {x ix : AV} {S : St} : Det (indexAddrK P t x ix S) := by
  unfold indexAddrK
  repeat' first
    | exact Det.failN
    | exact Det2.failN
    | exact Det3.failN
    | exact Det.ret _
    | exact Det2.ret _ _
    | exact Det3.ret _ _ _
    | refine Det.chk ?_
    | refine Det2.chk ?_
    | refine Det3.chk ?_
    | exact intOf_det
    | refine Det.bind (intOf_det) (fun _ => ?_)
    | refine Det.bind2 (intOf_det) (fun _ => ?_)
    | split
theorem indexK_det {P : Program} {t : TypeId} {x ix : AV} : Det (indexK P t x ix) := by
  unfold indexK
  repeat' first
    | exact Det.failN
    | exact Det2.failN
    | exact Det3.failN
    | exact Det.ret _
    | exact Det2.ret _ _
    | exact Det3.ret _ _ _
    | refine Det.chk ?_
    | refine Det2.chk ?_
    | refine Det3.chk ?_
    | exact intOf_det
    | refine Det.bind (intOf_det) (fun _ => ?_)
    | refine Det.bind2 (intOf_det) (fun _ => ?_)
    | exact partK_det
    | refine Det.bind (partK_det) (fun _ => ?_)
    | refine Det.bind2 (partK_det) (fun _ => ?_)
    | split
theorem fieldAddrK_det {P : Program} {t : TypeId} {x : AV} {f : Nat} : Det (fieldAddrK P t x f) := by
  unfold fieldAddrK
  repeat' first
    | exact Det.failN
    | exact Det2.failN
    | exact Det3.failN
    | exact Det.ret _
    | exact Det2.ret _ _
    | exact Det3.ret _ _ _
    | refine Det.chk ?_
    | refine Det2.chk ?_
    | refine Det3.chk ?_
    | split
theorem fieldK_det {P : Program} {t : TypeId} {x : AV} {f : Nat} : Det (fieldK P t x f) := by
  unfold fieldK
  repeat' first
    | exact Det.failN
    | exact Det2.failN
    | exact Det3.failN
    | exact Det.ret _
    | exact Det2.ret _ _
    | exact Det3.ret _ _ _
    | refine Det.chk ?_
    | refine Det2.chk ?_
    | refine Det3.chk ?_
    | exact partK_det
    | refine Det.bind (partK_det) (fun _ => ?_)
    | refine Det.bind2 (partK_det) (fun _ => ?_)
    | split
theorem convertK_det {P : Program} {src dst : TypeId} {x : AV} : Det (convertK P src dst x) := by
  unfold convertK
  repeat' first
    | exact Det.failN
    | exact Det2.failN
    | exact Det3.failN
    | exact Det.ret _
    | exact Det2.ret _ _
    | exact Det3.ret _ _ _
    | refine Det.chk ?_
    | refine Det2.chk ?_
    | refine Det3.chk ?_
    | split
theorem dfzK_det {o : List Ob} {a : AV} : Det (dfzK o a) := by
  unfold dfzK
  repeat' first
    | exact Det.failN
    | exact Det2.failN
    | exact Det3.failN
    | exact Det.ret _
    | exact Det2.ret _ _
    | exact Det3.ret _ _ _
    | refine Det.chk ?_
    | refine Det2.chk ?_
    | refine Det3.chk ?_
    | exact forceA_det
    | refine Det.bind (forceA_det) (fun _ => ?_)
    | refine Det.bind2 (forceA_det) (fun _ => ?_)
    | split
theorem dfzsK_det : ∀ (xs : List AV) (o : List Ob), Det (dfzsK o xs)
  | [], o => by
    show Det (fun K => dfzsK o [] K)
    unfold dfzsK
    repeat' first
      | exact Det.failN
      | exact Det2.failN
      | exact Det3.failN
      | exact Det.ret _
      | exact Det2.ret _ _
      | exact Det3.ret _ _ _
      | refine Det.chk ?_
      | refine Det2.chk ?_
      | refine Det3.chk ?_
      | exact dfzsK_det _ _
      | refine Det.bind (dfzsK_det _ _) (fun _ => ?_)
      | refine Det.bind2 (dfzsK_det _ _) (fun _ => ?_)
      | exact dfzK_det
      | refine Det.bind (dfzK_det) (fun _ => ?_)
      | refine Det.bind2 (dfzK_det) (fun _ => ?_)
      | split
  | x :: xs, o => by
    show Det (fun K => dfzsK o (x :: xs) K)
    unfold dfzsK
    repeat' first
      | exact Det.failN
      | exact Det2.failN
      | exact Det3.failN
      | exact Det.ret _
      | exact Det2.ret _ _
      | exact Det3.ret _ _ _
      | refine Det.chk ?_
      | refine Det2.chk ?_
      | refine Det3.chk ?_
      | exact dfzsK_det _ _
      | refine Det.bind (dfzsK_det _ _) (fun _ => ?_)
      | refine Det.bind2 (dfzsK_det _ _) (fun _ => ?_)
      | exact dfzK_det
      | refine Det.bind (dfzK_det) (fun _ => ?_)
      | refine Det.bind2 (dfzK_det) (fun _ => ?_)
      | split
theorem killIds_det : ∀ (xs : List Nat) (S : St), Det (killIds xs S)
  | [], S => by
    show Det (fun K => killIds [] S K)
    unfold killIds
    repeat' first
      | exact Det.failN
      | exact Det2.failN
      | exact Det3.failN
      | exact Det.ret _
      | exact Det2.ret _ _
      | exact Det3.ret _ _ _
      | refine Det.chk ?_
      | refine Det2.chk ?_
      | refine Det3.chk ?_
      | exact killIds_det _ _
      | refine Det.bind (killIds_det _ _) (fun _ => ?_)
      | refine Det.bind2 (killIds_det _ _) (fun _ => ?_)
      | exact killL_det
      | refine Det.bind (killL_det) (fun _ => ?_)
      | refine Det.bind2 (killL_det) (fun _ => ?_)
      | exact killLoc_det
      | refine Det.bind (killLoc_det) (fun _ => ?_)
      | refine Det.bind2 (killLoc_det) (fun _ => ?_)
      | exact killObs_det
      | refine Det.bind (killObs_det) (fun _ => ?_)
      | refine Det.bind2 (killObs_det) (fun _ => ?_)
      | exact forceO_det
      | refine Det.bind (forceO_det) (fun _ => ?_)
      | refine Det.bind2 (forceO_det) (fun _ => ?_)
      | split
  | x :: xs, S => by
    show Det (fun K => killIds (x :: xs) S K)
    unfold killIds
    repeat' first
      | exact Det.failN
      | exact Det2.failN
      | exact Det3.failN
      | exact Det.ret _
      | exact Det2.ret _ _
      | exact Det3.ret _ _ _
      | refine Det.chk ?_
      | refine Det2.chk ?_
      | refine Det3.chk ?_
      | exact killIds_det _ _
      | refine Det.bind (killIds_det _ _) (fun _ => ?_)
      | refine Det.bind2 (killIds_det _ _) (fun _ => ?_)
      | exact killL_det
      | refine Det.bind (killL_det) (fun _ => ?_)
      | refine Det.bind2 (killL_det) (fun _ => ?_)
      | exact killLoc_det
      | refine Det.bind (killLoc_det) (fun _ => ?_)
      | refine Det.bind2 (killLoc_det) (fun _ => ?_)
      | exact killObs_det
      | refine Det.bind (killObs_det) (fun _ => ?_)
      | refine Det.bind2 (killObs_det) (fun _ => ?_)
      | exact forceO_det
      | refine Det.bind (forceO_det) (fun _ => ?_)
      | refine Det.bind2 (forceO_det) (fun _ => ?_)
      | split
theorem killTL_det : ∀ (xs : List Nat) (t : List AV) (l : List (Nat × List AV)), Det2 (killTL xs t l)
  | [], t, l => by
    show Det2 (fun K => killTL [] t l K)
    unfold killTL
    repeat' first
      | exact Det.failN
      | exact Det2.failN
      | exact Det3.failN
      | exact Det.ret _
      | exact Det2.ret _ _
      | exact Det3.ret _ _ _
      | refine Det.chk ?_
      | refine Det2.chk ?_
      | refine Det3.chk ?_
      | exact killTL_det _ _ _
      | refine Det2.bind (killTL_det _ _ _) (fun _ _ => ?_)
      | refine Det2.bind2 (killTL_det _ _ _) (fun _ _ => ?_)
      | exact killL_det
      | refine Det.bind (killL_det) (fun _ => ?_)
      | refine Det.bind2 (killL_det) (fun _ => ?_)
      | exact killLoc_det
      | refine Det.bind (killLoc_det) (fun _ => ?_)
      | refine Det.bind2 (killLoc_det) (fun _ => ?_)
      | split
  | x :: xs, t, l => by
    show Det2 (fun K => killTL (x :: xs) t l K)
    unfold killTL
    repeat' first
      | exact Det.failN
      | exact Det2.failN
      | exact Det3.failN
      | exact Det.ret _
      | exact Det2.ret _ _
      | exact Det3.ret _ _ _
      | refine Det.chk ?_
      | refine Det2.chk ?_
      | refine Det3.chk ?_
      | exact killTL_det _ _ _
      | refine Det2.bind (killTL_det _ _ _) (fun _ _ => ?_)
      | refine Det2.bind2 (killTL_det _ _ _) (fun _ _ => ?_)
      | exact killL_det
      | refine Det.bind (killL_det) (fun _ => ?_)
      | refine Det.bind2 (killL_det) (fun _ => ?_)
      | exact killLoc_det
      | refine Det.bind (killLoc_det) (fun _ => ?_)
      | refine Det.bind2 (killLoc_det) (fun _ => ?_)
      | split
theorem callK_det {C : Ctx} {f : AV} {args : List AV} {S : St} (hC : CDet C) : Det2 (callK C f args S) := by
  unfold callK
  repeat' first
    | exact Det.failN
    | exact Det2.failN
    | exact Det3.failN
    | exact Det.ret _
    | exact Det2.ret _ _
    | exact Det3.ret _ _ _
    | refine Det.chk ?_
    | refine Det2.chk ?_
    | refine Det3.chk ?_
    | exact dfzsK_det _ _
    | refine Det.bind (dfzsK_det _ _) (fun _ => ?_)
    | refine Det.bind2 (dfzsK_det _ _) (fun _ => ?_)
    | exact killIds_det _ _
    | refine Det.bind (killIds_det _ _) (fun _ => ?_)
    | refine Det.bind2 (killIds_det _ _) (fun _ => ?_)
    | exact killTL_det _ _ _
    | refine Det2.bind (killTL_det _ _ _) (fun _ _ => ?_)
    | refine Det2.bind2 (killTL_det _ _ _) (fun _ _ => ?_)
    | exact hC.pcall _ _
    | refine Det.bind (hC.pcall _ _) (fun _ => ?_)
    | refine Det.bind2 (hC.pcall _ _) (fun _ => ?_)
    | refine Det2.bind2 (hC.scall _ _ _) (fun _ _ => ?_)
    | refine Det2.bind (hC.scall _ _ _) (fun _ _ => ?_)
    | split
theorem findK_det {P : Program} {kt : TypeId} {key : AV} {es : List (AV × AV)} : Det2 (findK P kt key es) := by
  unfold findK
  repeat' first
    | exact Det.failN
    | exact Det2.failN
    | exact Det3.failN
    | exact Det.ret _
    | exact Det2.ret _ _
    | exact Det3.ret _ _ _
    | refine Det.chk ?_
    | refine Det2.chk ?_
    | refine Det3.chk ?_
    | split
theorem retOk_det {ok : Bool} {x : AV} {b : Bool} : Det (retOk ok x b) := by
  unfold retOk
  repeat' first
    | exact Det.failN
    | exact Det2.failN
    | exact Det3.failN
    | exact Det.ret _
    | exact Det2.ret _ _
    | exact Det3.ret _ _ _
    | refine Det.chk ?_
    | refine Det2.chk ?_
    | refine Det3.chk ?_
    | split
theorem zeroOk_det {P : Program} {e : TypeId} {ok : Bool} : Det (zeroOk P e ok) := by
  unfold zeroOk
  repeat' first
    | exact Det.failN
    | exact Det2.failN
    | exact Det3.failN
    | exact Det.ret _
    | exact Det2.ret _ _
    | exact Det3.ret _ _ _
    | refine Det.chk ?_
    | refine Det2.chk ?_
    | refine Det3.chk ?_
    | exact forceA_det
    | refine Det.bind (forceA_det) (fun _ => ?_)
    | refine Det.bind2 (forceA_det) (fun _ => ?_)
    | exact retOk_det
    | refine Det.bind (retOk_det) (fun _ => ?_)
    | refine Det.bind2 (retOk_det) (fun _ => ?_)
    | split
theorem foundOk_det {P : Program} {e : TypeId} {ok : Bool} {es : List (AV × AV)} {r : Option Nat} : Det (foundOk P e ok es r) := by
  unfold foundOk
  repeat' first
    | exact Det.failN
    | exact Det2.failN
    | exact Det3.failN
    | exact Det.ret _
    | exact Det2.ret _ _
    | exact Det3.ret _ _ _
    | refine Det.chk ?_
    | refine Det2.chk ?_
    | refine Det3.chk ?_
    | exact retOk_det
    | refine Det.bind (retOk_det) (fun _ => ?_)
    | refine Det.bind2 (retOk_det) (fun _ => ?_)
    | exact zeroOk_det
    | refine Det.bind (zeroOk_det) (fun _ => ?_)
    | refine Det.bind2 (zeroOk_det) (fun _ => ?_)
    | split
theorem lookupK_det {P : Program} {t : TypeId} {m key : AV} {ok : Bool} {S : St} : Det (lookupK P t m key ok S) := by
  unfold lookupK
  repeat' first
    | exact Det.failN
    | exact Det2.failN
    | exact Det3.failN
    | exact Det.ret _
    | exact Det2.ret _ _
    | exact Det3.ret _ _ _
    | refine Det.chk ?_
    | refine Det2.chk ?_
    | refine Det3.chk ?_
    | exact findK_det
    | refine Det2.bind (findK_det) (fun _ _ => ?_)
    | refine Det2.bind2 (findK_det) (fun _ _ => ?_)
    | exact zeroOk_det
    | refine Det.bind (zeroOk_det) (fun _ => ?_)
    | refine Det.bind2 (zeroOk_det) (fun _ => ?_)
    | exact foundOk_det
    | refine Det.bind (foundOk_det) (fun _ => ?_)
    | refine Det.bind2 (foundOk_det) (fun _ => ?_)
    | split
theorem mapUpdateK_det {P : Program} {t : TypeId} {m key x : AV} {S : St} : Det (mapUpdateK P t m key x S) := by
  unfold mapUpdateK
  repeat' first
    | exact Det.failN
    | exact Det2.failN
    | exact Det3.failN
    | exact Det.ret _
    | exact Det2.ret _ _
    | exact Det3.ret _ _ _
    | refine Det.chk ?_
    | refine Det2.chk ?_
    | refine Det3.chk ?_
    | exact findK_det
    | refine Det2.bind (findK_det) (fun _ _ => ?_)
    | refine Det2.bind2 (findK_det) (fun _ _ => ?_)
    | exact forceO_det
    | refine Det.bind (forceO_det) (fun _ => ?_)
    | refine Det.bind2 (forceO_det) (fun _ => ?_)
    | split
theorem pop_det {C : Ctx} {pl : Pol} {o : Oper} {vs : List AV} : Det (pop C pl o vs) := by
  unfold pop
  repeat' first
    | exact Det.failN
    | exact Det2.failN
    | exact Det3.failN
    | exact Det.ret _
    | exact Det2.ret _ _
    | exact Det3.ret _ _ _
    | refine Det.chk ?_
    | refine Det2.chk ?_
    | refine Det3.chk ?_
    | refine Det.fork ?_ ?_
    | refine Det2.fork ?_ ?_
    | exact buildK_det
    | refine Det.bind (buildK_det) (fun _ => ?_)
    | refine Det.bind2 (buildK_det) (fun _ => ?_)
    | exact buildFzK_det
    | refine Det.bind (buildFzK_det) (fun _ => ?_)
    | refine Det.bind2 (buildFzK_det) (fun _ => ?_)
    | exact binK_det
    | refine Det.bind (binK_det) (fun _ => ?_)
    | refine Det.bind2 (binK_det) (fun _ => ?_)
    | exact unK_det
    | refine Det.bind (unK_det) (fun _ => ?_)
    | refine Det.bind2 (unK_det) (fun _ => ?_)
    | exact forceL_det
    | refine Det.bind (forceL_det) (fun _ => ?_)
    | refine Det.bind2 (forceL_det) (fun _ => ?_)
    | exact fieldAddrK_det
    | refine Det.bind (fieldAddrK_det) (fun _ => ?_)
    | refine Det.bind2 (fieldAddrK_det) (fun _ => ?_)
    | exact fieldK_det
    | refine Det.bind (fieldK_det) (fun _ => ?_)
    | refine Det.bind2 (fieldK_det) (fun _ => ?_)
    | exact indexK_det
    | refine Det.bind (indexK_det) (fun _ => ?_)
    | refine Det.bind2 (indexK_det) (fun _ => ?_)
    | exact nthK_det
    | refine Det.bind (nthK_det) (fun _ => ?_)
    | refine Det.bind2 (nthK_det) (fun _ => ?_)
    | split
theorem rop_det {C : Ctx} {o : Oper} {vs : List AV} {M : St} (hC : CDet C) : Det (rop C o vs M) := by
  unfold rop
  repeat' first
    | exact Det.failN
    | exact Det2.failN
    | exact Det3.failN
    | exact Det.ret _
    | exact Det2.ret _ _
    | exact Det3.ret _ _ _
    | refine Det.chk ?_
    | refine Det2.chk ?_
    | refine Det3.chk ?_
    | exact atK_det
    | refine Det2.bind (atK_det) (fun _ _ => ?_)
    | refine Det2.bind2 (atK_det) (fun _ _ => ?_)
    | exact partK_det
    | refine Det.bind (partK_det) (fun _ => ?_)
    | refine Det.bind2 (partK_det) (fun _ => ?_)
    | exact convertK_det
    | refine Det.bind (convertK_det) (fun _ => ?_)
    | refine Det.bind2 (convertK_det) (fun _ => ?_)
    | exact sliceK_det
    | refine Det.bind (sliceK_det) (fun _ => ?_)
    | refine Det.bind2 (sliceK_det) (fun _ => ?_)
    | exact intOf_det
    | refine Det.bind (intOf_det) (fun _ => ?_)
    | refine Det.bind2 (intOf_det) (fun _ => ?_)
    | exact indexAddrK_det
    | refine Det.bind (indexAddrK_det) (fun _ => ?_)
    | refine Det.bind2 (indexAddrK_det) (fun _ => ?_)
    | exact lookupK_det
    | refine Det.bind (lookupK_det) (fun _ => ?_)
    | refine Det.bind2 (lookupK_det) (fun _ => ?_)
    | exact lenK_det
    | refine Det.bind (lenK_det) (fun _ => ?_)
    | refine Det.bind2 (lenK_det) (fun _ => ?_)
    | exact dfzsK_det _ _
    | refine Det.bind (dfzsK_det _ _) (fun _ => ?_)
    | refine Det.bind2 (dfzsK_det _ _) (fun _ => ?_)
    | exact hC.pcall _ _
    | refine Det.bind (hC.pcall _ _) (fun _ => ?_)
    | refine Det.bind2 (hC.pcall _ _) (fun _ => ?_)
    | split
theorem wop_det {C : Ctx} {o : Oper} {vs : List AV} {M : St} : Det2 (wop C o vs M) := by
  unfold wop
  repeat' first
    | exact Det.failN
    | exact Det2.failN
    | exact Det3.failN
    | exact Det.ret _
    | exact Det2.ret _ _
    | exact Det3.ret _ _ _
    | refine Det.chk ?_
    | refine Det2.chk ?_
    | refine Det3.chk ?_
    | exact cellsK_det
    | refine Det.bind (cellsK_det) (fun _ => ?_)
    | refine Det.bind2 (cellsK_det) (fun _ => ?_)
    | exact storeK_det
    | refine Det.bind (storeK_det) (fun _ => ?_)
    | refine Det.bind2 (storeK_det) (fun _ => ?_)
    | split
theorem pop1_det {C : Ctx} {pl : Pol} {o : Oper} {S : St} : Det (pop1 C pl o S) := by
  unfold pop1
  repeat' first
    | exact Det.failN
    | exact Det2.failN
    | exact Det3.failN
    | exact Det.ret _
    | exact Det2.ret _ _
    | exact Det3.ret _ _ _
    | refine Det.chk ?_
    | refine Det2.chk ?_
    | refine Det3.chk ?_
    | exact getsK_det
    | refine Det.bind (getsK_det) (fun _ => ?_)
    | refine Det.bind2 (getsK_det) (fun _ => ?_)
    | exact pop_det
    | refine Det.bind (pop_det) (fun _ => ?_)
    | refine Det.bind2 (pop_det) (fun _ => ?_)
    | exact putK_det
    | refine Det.bind (putK_det) (fun _ => ?_)
    | refine Det.bind2 (putK_det) (fun _ => ?_)
    | split
theorem rop1_det {C : Ctx} {o : Oper} {S : St} (hC : CDet C) : Det (rop1 C o S) := by
  unfold rop1
  repeat' first
    | exact Det.failN
    | exact Det2.failN
    | exact Det3.failN
    | exact Det.ret _
    | exact Det2.ret _ _
    | exact Det3.ret _ _ _
    | refine Det.chk ?_
    | refine Det2.chk ?_
    | refine Det3.chk ?_
    | exact getsK_det
    | refine Det.bind (getsK_det) (fun _ => ?_)
    | refine Det.bind2 (getsK_det) (fun _ => ?_)
    | exact rop_det hC
    | refine Det.bind (rop_det hC) (fun _ => ?_)
    | refine Det.bind2 (rop_det hC) (fun _ => ?_)
    | exact putK_det
    | refine Det.bind (putK_det) (fun _ => ?_)
    | refine Det.bind2 (putK_det) (fun _ => ?_)
    | split
theorem wop1_det {C : Ctx} {o : Oper} {S : St} : Det (wop1 C o S) := by
  unfold wop1
  repeat' first
    | exact Det.failN
    | exact Det2.failN
    | exact Det3.failN
    | exact Det.ret _
    | exact Det2.ret _ _
    | exact Det3.ret _ _ _
    | refine Det.chk ?_
    | refine Det2.chk ?_
    | refine Det3.chk ?_
    | exact getsK_det
    | refine Det.bind (getsK_det) (fun _ => ?_)
    | refine Det.bind2 (getsK_det) (fun _ => ?_)
    | exact wop_det
    | refine Det2.bind (wop_det) (fun _ _ => ?_)
    | refine Det2.bind2 (wop_det) (fun _ _ => ?_)
    | exact putK_det
    | refine Det.bind (putK_det) (fun _ => ?_)
    | refine Det.bind2 (putK_det) (fun _ => ?_)
    | split
theorem dop_det {C : Ctx} {pl : Pol} {o : Oper} {S : St} (hC : CDet C) : Det (dop C pl o S) := by
  unfold dop
  repeat' first
    | exact Det.failN
    | exact Det2.failN
    | exact Det3.failN
    | exact Det.ret _
    | exact Det2.ret _ _
    | exact Det3.ret _ _ _
    | refine Det.chk ?_
    | refine Det2.chk ?_
    | refine Det3.chk ?_
    | exact pop1_det
    | refine Det.bind (pop1_det) (fun _ => ?_)
    | refine Det.bind2 (pop1_det) (fun _ => ?_)
    | exact rop1_det hC
    | refine Det.bind (rop1_det hC) (fun _ => ?_)
    | refine Det.bind2 (rop1_det hC) (fun _ => ?_)
    | exact wop1_det
    | refine Det.bind (wop1_det) (fun _ => ?_)
    | refine Det.bind2 (wop1_det) (fun _ => ?_)
    | exact putK_det
    | refine Det.bind (putK_det) (fun _ => ?_)
    | refine Det.bind2 (putK_det) (fun _ => ?_)
    | split
theorem xop_det {C : Ctx} {pl : Pol} {o : Oper} {S : St} (hC : CDet C) : Det (xop C pl o S) := by
  unfold xop
  repeat' first
    | exact Det.failN
    | exact Det2.failN
    | exact Det3.failN
    | exact Det.ret _
    | exact Det2.ret _ _
    | exact Det3.ret _ _ _
    | refine Det.chk ?_
    | refine Det2.chk ?_
    | refine Det3.chk ?_
    | exact zeroRow_det
    | refine Det.bind (zeroRow_det) (fun _ => ?_)
    | refine Det.bind2 (zeroRow_det) (fun _ => ?_)
    | exact boxK_det
    | refine Det.bind (boxK_det) (fun _ => ?_)
    | refine Det.bind2 (boxK_det) (fun _ => ?_)
    | exact getK_det
    | refine Det.bind (getK_det) (fun _ => ?_)
    | refine Det.bind2 (getK_det) (fun _ => ?_)
    | exact cellsK_det
    | refine Det.bind (cellsK_det) (fun _ => ?_)
    | refine Det.bind2 (cellsK_det) (fun _ => ?_)
    | exact getsK_det
    | refine Det.bind (getsK_det) (fun _ => ?_)
    | refine Det.bind2 (getsK_det) (fun _ => ?_)
    | exact buildSliceK_det
    | refine Det.bind (buildSliceK_det) (fun _ => ?_)
    | refine Det.bind2 (buildSliceK_det) (fun _ => ?_)
    | exact forceO_det
    | refine Det.bind (forceO_det) (fun _ => ?_)
    | refine Det.bind2 (forceO_det) (fun _ => ?_)
    | exact putK_det
    | refine Det.bind (putK_det) (fun _ => ?_)
    | refine Det.bind2 (putK_det) (fun _ => ?_)
    | exact makeSliceK_det
    | refine Det2.bind (makeSliceK_det) (fun _ _ => ?_)
    | refine Det2.bind2 (makeSliceK_det) (fun _ _ => ?_)
    | exact mapUpdateK_det
    | refine Det.bind (mapUpdateK_det) (fun _ => ?_)
    | refine Det.bind2 (mapUpdateK_det) (fun _ => ?_)
    | exact appendK_det
    | refine Det2.bind (appendK_det) (fun _ _ => ?_)
    | refine Det2.bind2 (appendK_det) (fun _ _ => ?_)
    | exact callK_det hC
    | refine Det2.bind (callK_det hC) (fun _ _ => ?_)
    | refine Det2.bind2 (callK_det hC) (fun _ _ => ?_)
    | split
theorem aop_det {C : Ctx} {pl : Pol} {o : Oper} {S : St} (hC : CDet C) : Det (aop C pl o S) := by
  unfold aop
  repeat' first
    | exact Det.failN
    | exact Det2.failN
    | exact Det3.failN
    | exact Det.ret _
    | exact Det2.ret _ _
    | exact Det3.ret _ _ _
    | refine Det.chk ?_
    | refine Det2.chk ?_
    | refine Det3.chk ?_
    | exact pop1_det
    | refine Det.bind (pop1_det) (fun _ => ?_)
    | refine Det.bind2 (pop1_det) (fun _ => ?_)
    | exact rop1_det hC
    | refine Det.bind (rop1_det hC) (fun _ => ?_)
    | refine Det.bind2 (rop1_det hC) (fun _ => ?_)
    | exact wop1_det
    | refine Det.bind (wop1_det) (fun _ => ?_)
    | refine Det.bind2 (wop1_det) (fun _ => ?_)
    | exact xop_det hC
    | refine Det.bind (xop_det hC) (fun _ => ?_)
    | refine Det.bind2 (xop_det hC) (fun _ => ?_)
    | split
theorem aop1_det {C : Ctx} {pl : Pol} {dr : Bool} {o : Oper} {S : St} (hC : CDet C) : Det (aop1 C pl dr o S) := by
  unfold aop1
  repeat' first
    | exact Det.failN
    | exact Det2.failN
    | exact Det3.failN
    | exact Det.ret _
    | exact Det2.ret _ _
    | exact Det3.ret _ _ _
    | refine Det.chk ?_
    | refine Det2.chk ?_
    | refine Det3.chk ?_
    | exact dop_det hC
    | refine Det.bind (dop_det hC) (fun _ => ?_)
    | refine Det.bind2 (dop_det hC) (fun _ => ?_)
    | exact aop_det hC
    | refine Det.bind (aop_det hC) (fun _ => ?_)
    | refine Det.bind2 (aop_det hC) (fun _ => ?_)
    | split
theorem aops_det {C : Ctx} {pl : Pol} {dr : Bool} {all : Array Oper} (hC : CDet C) : ∀ (os : List Oper) (S : St), Det (aops C pl dr all os S)
  | [], S => by
    show Det (fun K => aops C pl dr all [] S K)
    unfold aops
    repeat' first
      | exact Det.failN
      | exact Det2.failN
      | exact Det3.failN
      | exact Det.ret _
      | exact Det2.ret _ _
      | exact Det3.ret _ _ _
      | refine Det.chk ?_
      | refine Det2.chk ?_
      | refine Det3.chk ?_
      | exact aops_det hC _ _
      | refine Det.bind (aops_det hC _ _) (fun _ => ?_)
      | refine Det.bind2 (aops_det hC _ _) (fun _ => ?_)
      | exact aop1_det hC
      | refine Det.bind (aop1_det hC) (fun _ => ?_)
      | refine Det.bind2 (aop1_det hC) (fun _ => ?_)
      | exact boolAt_det
      | refine Det2.bind (boolAt_det) (fun _ _ => ?_)
      | refine Det2.bind2 (boolAt_det) (fun _ _ => ?_)
      | exact putK_det
      | refine Det.bind (putK_det) (fun _ => ?_)
      | refine Det.bind2 (putK_det) (fun _ => ?_)
      | split
  | x :: xs, S => by
    show Det (fun K => aops C pl dr all (x :: xs) S K)
    unfold aops
    repeat' first
      | exact Det.failN
      | exact Det2.failN
      | exact Det3.failN
      | exact Det.ret _
      | exact Det2.ret _ _
      | exact Det3.ret _ _ _
      | refine Det.chk ?_
      | refine Det2.chk ?_
      | refine Det3.chk ?_
      | exact aops_det hC _ _
      | refine Det.bind (aops_det hC _ _) (fun _ => ?_)
      | refine Det.bind2 (aops_det hC _ _) (fun _ => ?_)
      | exact aop1_det hC
      | refine Det.bind (aop1_det hC) (fun _ => ?_)
      | refine Det.bind2 (aop1_det hC) (fun _ => ?_)
      | exact boolAt_det
      | refine Det2.bind (boolAt_det) (fun _ _ => ?_)
      | refine Det2.bind2 (boolAt_det) (fun _ _ => ?_)
      | exact putK_det
      | refine Det.bind (putK_det) (fun _ => ?_)
      | refine Det.bind2 (putK_det) (fun _ => ?_)
      | split
theorem addK_det : ∀ (xs : List (Nat × TypeId)) (P : Program) (S : St), Det (addK P xs S)
  | [], P, S => by
    show Det (fun K => addK P [] S K)
    unfold addK
    repeat' first
      | exact Det.failN
      | exact Det2.failN
      | exact Det3.failN
      | exact Det.ret _
      | exact Det2.ret _ _
      | exact Det3.ret _ _ _
      | refine Det.chk ?_
      | refine Det2.chk ?_
      | refine Det3.chk ?_
      | exact addK_det _ _ _
      | refine Det.bind (addK_det _ _ _) (fun _ => ?_)
      | refine Det.bind2 (addK_det _ _ _) (fun _ => ?_)
      | exact zeroRow_det
      | refine Det.bind (zeroRow_det) (fun _ => ?_)
      | refine Det.bind2 (zeroRow_det) (fun _ => ?_)
      | split
  | (d, e) :: xs, P, S => by
    show Det (fun K => addK P ((d, e) :: xs) S K)
    unfold addK
    repeat' first
      | exact Det.failN
      | exact Det2.failN
      | exact Det3.failN
      | exact Det.ret _
      | exact Det2.ret _ _
      | exact Det3.ret _ _ _
      | refine Det.chk ?_
      | refine Det2.chk ?_
      | refine Det3.chk ?_
      | exact addK_det _ _ _
      | refine Det.bind (addK_det _ _ _) (fun _ => ?_)
      | refine Det.bind2 (addK_det _ _ _) (fun _ => ?_)
      | exact zeroRow_det
      | refine Det.bind (zeroRow_det) (fun _ => ?_)
      | refine Det.bind2 (zeroRow_det) (fun _ => ?_)
      | split
theorem preK_det {P : Program} {xs : List (Nat × TypeId)} {S : St} : Det (preK P xs S) := by
  unfold preK
  repeat' first
    | exact Det.failN
    | exact Det2.failN
    | exact Det3.failN
    | exact Det.ret _
    | exact Det2.ret _ _
    | exact Det3.ret _ _ _
    | refine Det.chk ?_
    | refine Det2.chk ?_
    | refine Det3.chk ?_
    | exact dropsK_det _ _
    | refine Det.bind (dropsK_det _ _) (fun _ => ?_)
    | refine Det.bind2 (dropsK_det _ _) (fun _ => ?_)
    | exact addK_det _ _ _
    | refine Det.bind (addK_det _ _ _) (fun _ => ?_)
    | refine Det.bind2 (addK_det _ _ _) (fun _ => ?_)
    | split

end A
end Go.Proofs.Ytnjpjmeoednfcaa
