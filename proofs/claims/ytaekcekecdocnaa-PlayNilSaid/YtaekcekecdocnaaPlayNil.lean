/- An invalid play returns ErrNil, or nothing; picks by turns are what the document says. The call of the statement's function, whatever its arguments, returns true and turns nothing. No conditions. -/
import Derived.Test.YtaekcekecdocnaaRows
import Derived.Test.YtaekcekecdocnaaK6
import Derived.Test.YtaekcekecdocnaaPlayNilL
import Derived.KernelRfl
namespace Go.Proofs.Ytaekcekecdocnaa
namespace playNil
open Go
open Go.RowKit (Below)
open Go.ChangeShapes Go.WideShapes Go.ChangeAt Go.RowKit

theorem own : ownKnob Try.prog.godebug = none := by kernel_rfl
theorem zN : (Try.f4.params.toList.all (A.ui Try.prog 8)) = true := by kernel_rfl
theorem laid : laidOutB Try.prog = true := by kernel_rfl
theorem readable : (Try.f4.params.toList.all fun t => Try.prog.readableRec t && decide (t < Try.prog.types.size)) = true := by kernel_rfl
theorem zO : Try.f4.params.toList.length = 4 := by kernel_rfl

set_option maxRecDepth 100000 in
theorem lifted (os : Os) (started : os.Started) (H : Type) (enc : TypeId × Value → H) :
    ReturnsInHanded {} Try.checked os 4 .any (Rows.playNilSpec.pre6 enc Try.prog Try.f4 Rows.playNilRow.domain false) (Rows.playNilSpec.post enc Try.prog Try.f4 false true false false) := by
  refine returnsInHanded_of_change (C := Try.checked) own started (by kernel_rfl) Try.func4
    (ChangeSpec.witness6 (enc := enc) (C := Try.checked) false ⟨#[], #[.int .i64 0, .int .i64 0, .int .i64 0, .int .i64 0], []⟩ 8 (by kernel_rfl) (by kernel_rfl) (by kernel_rfl) (by kernel_rfl)) ?_
  intro W base args ds gs before hval0 hW hcnd _
  have hval : ∀ (j : Nat) (t : TypeId) (v : Value), Try.f4.params.toList[j]? = some t → args.toList[j]? = some v → Value.okWide Try.prog W .any base t v := fun j t v h1 h2 => hval0 j t v (by rw [← Array.getElem?_toList]; exact h1) (by rw [← Array.getElem?_toList]; exact h2)
  have hW' := hW
  obtain ⟨p, q, hA0, hV, rfl, hfz, hnd⟩ := hW
  have hA : DataW.TrodAll enc Try.prog W 0 (fun _ => true) true Try.f4.params.toList args.toList ds p := hA0
  obtain ⟨rfl, rfl⟩ := trodVars_none hV
  obtain ⟨h1, h2, h3⟩ := A.uj zN hval hA
  have hlen : ds.length = 4 := h1.trans zO
  simp only [List.append_nil] at hW'
  have hlt : ∀ x ∈ p, x.block < W.heap.size := fun x hx => hW'.lt x hx
  have hspec : Rows.playNilSpec.fn H (ds ++ []) = { results := [.lit (.bool true)], args := ds } := by
    rw [List.append_nil]
    match ds, hlen with
    | [d0, d1, d2, d3], _ => rfl
  refine (A.tK (playNil.law ds h1 h2) (fun b => b < W.heap.size) W args (fun _ h => h) (fun _ _ h => nomatch (show (none : Option (List A.AV)) = some _ from h)) h3).mono fun e W' ⟨he, hg⟩ => ?_
  subst he
  exact ⟨_, rfl, A.oL (pa := p) (pv := []) hW' (fun _ _ _ => by rw [hspec]; exact (trodAll_cons_mk (shut_bool Try.underlying4 _) trodAll_mk0))
    (fun sp hsp => by rw [hspec]; exact A.pW laid readable hA hg hlt (fun x hx => hsp x hx)) (fun _ _ => by rw [hspec]; rfl) (by simp)
    hg (ok_one (by kernel_rfl) rfl (okWide_bool_mk Try.underlying4 _))⟩

theorem over : Rows.playNilRow.holds Try.pinned (OpenSpec.ofChange Rows.playNilSpec) :=
  OpenClaim.holds_of_wide 4 Try.f4 rfl rfl rfl rfl rfl rfl rfl ⟨rfl, rfl, rfl, rfl, rfl⟩ rfl rfl rfl rfl rfl (by kernel_rfl) Try.func4 (by kernel_rfl)
    (of_decide_eq_true (by kernel_rfl)) (by unfold Func.isWrapper; first | (rw [if_pos (by decide +kernel)]; kernel_rfl) | (rw [if_neg (by decide +kernel)]; exact ⟨rfl, rfl⟩))
    (fun os started H enc _ => lifted os started H enc)

theorem proved : Rows.PlayNilSaid := over
end playNil
end Go.Proofs.Ytaekcekecdocnaa
