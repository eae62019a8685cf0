/- Code, from its regions. -/
import Derived.Test.YtnjpjmeoednfcaaA28
namespace Go.Proofs.Ytnjpjmeoednfcaa
namespace A
open Go
open Go.RowKit (Below)

def exOf : Ex → Exit
  | .nrm => .normal
  | .ex i => .exit i
  | .ret => .ret

/-- The states that K speaks of are states that Q allows. -/
def QOK (G : Gh) (K : Ex → St → Prop) (Q : Exit → Act → World → Prop) : Prop := ∀ e S' E' a' w', K e S' → SimM G pn E' S' w' → TR E' S'.t a' → Q (exOf e) a' w'

def LoopOK (C : Ctx) : Prop := ∀ pl c S K, C.loop pl c S K → ∀ (G : Gh) (E : Env) (a : Act) (w : World) (Q : Exit → Act → World → Prop), SimM G pn E S w → TR E S.t a → QOK G K Q → (Code.loop c).wp C.P Q a w
def DrawOK (C : Ctx) : Prop := ∀ pl id ops S K, acode C pl (.region id ops true) S K → ∀ (G : Gh) (E : Env) (a : Act) (w : World) (Q : Exit → Act → World → Prop), SimM G pn E S w → TR E S.t a → QOK G K Q → (Code.region id ops true).wp C.P Q a w

theorem boolOf_elim {G : Gh} {E : Env} {S : St} {w : World} {a : Act} {c : Operand} {k : Bool → St → Prop} (hM : SimM G pn E S w) (ht : TR E S.t a) (h : boolOf c S k) : ∃ b S1, k b S1 ∧ a.eval c = .bool b ∧ SimM G pn E S1 w ∧ TR E S1.t a := by
  unfold boolOf at h
  split at h
  · rename_i d
    obtain ⟨b, S1, h1, h2, h3, h4⟩ := boolAt_elim hM ht h
    refine ⟨b, S1, h1, ?_, h3, h4⟩
    show a.tmps.getD d undef = _
    rw [Array.getD_eq_getD_getElem?, h2]
    rfl
  · rename_i b
    rcases Fork_elim h with ⟨hb, h2⟩ | ⟨hb, h2⟩
    · subst hb; exact ⟨true, S, h2, rfl, hM, ht⟩
    · subst hb; exact ⟨false, S, h2, rfl, hM, ht⟩
  · exact False.elim h

theorem acode_sound {C : Ctx} (hC : CallOK C) (hL : LoopOK C) (hD : DrawOK C) {pl : Pol} : ∀ (c : Code) {S : St} {K : Ex → St → Prop}, acode C pl c S K → ∀ (G : Gh) (E : Env) (a : Act) (w : World) (Q : Exit → Act → World → Prop), SimM G pn E S w → TR E S.t a → QOK G K Q → c.wp C.P Q a w := by
  intro c
  induction c with
  | skip => exact fun h G E a w Q hM ht hQ => wp_skip (hQ .nrm _ E _ _ h hM ht)
  | region id ops draw =>
    intro S K h G E a w Q hM ht hQ
    cases draw with
    | true => exact hD pl id ops S K h G E a w Q hM ht hQ
    | false => exact wp_region_list (aops_sound hC hM ht h (fun S' E' a' w' hk hS htr => hQ .nrm _ _ _ _ hk hS htr))
  | seq x y ihx ihy =>
    intro S K h G E a w Q hM ht hQ
    refine wp_seq (ihx h G E a w _ hM ht (fun e S' E' a' w' hk hS htr => ?_))
    cases e with
    | nrm => exact ihy hk G E' a' w' Q hS htr hQ
    | ex i => exact hQ (.ex i) _ _ _ _ hk hS htr
    | ret => exact hQ .ret _ _ _ _ hk hS htr
  | cond c x y ihx ihy =>
    intro S K h G E a w Q hM ht hQ
    obtain ⟨b, S1, h1, h2, h3, h4⟩ := boolOf_elim hM ht h
    cases b with
    | true => exact wp_cond_true h2 (ihx h1 G E a w Q h3 h4 hQ)
    | false => exact wp_cond_false h2 (ihy h1 G E a w Q h3 h4 hQ)
  | block id c ih =>
    intro S K h G E a w Q hM ht hQ
    refine wp_block (ih h G E a w _ hM ht (fun e S' E' a' w' hk hS htr => ?_))
    cases e with
    | nrm => exact hQ .nrm _ _ _ _ hk hS htr
    | ret => exact hQ .ret _ _ _ _ hk hS htr
    | ex i =>
      show Exit.inBlock id Q (.exit i) a' w'
      unfold Exit.inBlock
      dsimp only at hk
      split at hk
      · rename_i hb
        have := Nat.eq_of_beq_eq_true hb
        subst this
        simp only [if_pos]
        exact hQ .nrm _ _ _ _ hk hS htr
      · rename_i hb
        have hne : ¬ i = id := fun e => by subst e; simp at hb
        simp only [if_neg hne]
        exact hQ (.ex i) _ _ _ _ hk hS htr
  | loop c ih => exact fun h G E a w Q hM ht hQ => hL pl c _ _ h G E a w Q hM ht hQ
  | exit id => exact fun h G E a w Q hM ht hQ => wp_exit (hQ (.ex id) _ E _ _ h hM ht)
  | ret => exact fun h G E a w Q hM ht hQ => wp_ret (hQ .ret _ E _ _ h hM ht)
  | _ => exact fun h => False.elim h

end A
end Go.Proofs.Ytnjpjmeoednfcaa
