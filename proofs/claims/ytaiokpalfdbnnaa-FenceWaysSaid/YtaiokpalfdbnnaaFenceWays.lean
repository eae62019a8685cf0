/- On no path of the result of Put do two shared steps follow each other without a fence; none of its fences can be removed; the same for Strip. The call of the statement's function, whatever its arguments, returns true and turns nothing. No conditions. -/
import Derived.Test.YtaiokpalfdbnnaaRows
import Derived.Test.YtaiokpalfdbnnaaK6
import Derived.Test.YtaiokpalfdbnnaaFenceWaysL
import Derived.KernelRfl
namespace Go.Proofs.Ytaiokpalfdbnnaa
namespace fenceWays
open Go
open Go.RowKit (Below)
open Go.ChangeShapes Go.WideShapes Go.ChangeAt Go.RowKit

theorem own : ownKnob Try.prog.godebug = none := by kernel_rfl
theorem J7 : (Try.f5.params.toList.all (A.Cw Try.prog 8)) = true := by kernel_rfl
theorem laid : laidOutB Try.prog = true := by kernel_rfl
theorem readable : (Try.f5.params.toList.all fun t => Try.prog.readableRec t && decide (t < Try.prog.types.size)) = true := by kernel_rfl
theorem J8 : Try.f5.params.toList.length = 1 := by kernel_rfl

set_option maxRecDepth 100000 in
theorem lifted (os : Os) (started : os.Started) (H : Type) (enc : TypeId × Value → H) :
    ReturnsInHanded {} Try.checked os 5 .any (Rows.fenceWaysSpec.pre6 enc Try.prog Try.f5 Rows.fenceWaysRow.domain false) (Rows.fenceWaysSpec.post enc Try.prog Try.f5 false true false false) := by
  refine returnsInHanded_of_change (C := Try.checked) own started (by kernel_rfl) Try.func5
    (ChangeSpec.witness6 (enc := enc) (C := Try.checked) false ⟨#[], #[.agg #[.int .i64 0, .slice none 0 0]], []⟩ 8 (by kernel_rfl) (by kernel_rfl) (by kernel_rfl) (by kernel_rfl)) ?_
  intro W base args ds gs before hval0 hW hcnd _
  have hval : ∀ (j : Nat) (t : TypeId) (v : Value), Try.f5.params.toList[j]? = some t → args.toList[j]? = some v → Value.okWide Try.prog W .any base t v := fun j t v h1 h2 => hval0 j t v (by rw [← Array.getElem?_toList]; exact h1) (by rw [← Array.getElem?_toList]; exact h2)
  have hW' := hW
  obtain ⟨p, q, hA0, hV, rfl, hfz, hnd⟩ := hW
  have hA : DataW.TrodAll enc Try.prog W 0 (fun _ => true) true Try.f5.params.toList args.toList ds p := hA0
  obtain ⟨rfl, rfl⟩ := trodVars_none hV
  obtain ⟨h1, h2, h3⟩ := A.Cx J7 hval hA
  have hlen : ds.length = 1 := h1.trans J8
  simp only [List.append_nil] at hW'
  have hlt : ∀ x ∈ p, x.block < W.heap.size := fun x hx => hW'.lt x hx
  have hspec : Rows.fenceWaysSpec.fn H (ds ++ []) = { results := [.lit (.bool true)], args := ds } := by
    rw [List.append_nil]
    match ds, hlen with
    | [d0], _ => rfl
  refine (A.BW (fenceWays.law ds h1 h2) (fun b => b < W.heap.size) W args (fun _ h => h) (fun _ _ h => nomatch (show (none : Option (List A.AV)) = some _ from h)) h3).mono fun e W' ⟨he, hg⟩ => ?_
  subst he
  exact ⟨_, rfl, A.wS (pa := p) (pv := []) hW' (fun _ _ _ => by rw [hspec]; exact (trodAll_cons_mk (shut_bool Try.underlying4 _) trodAll_mk0))
    (fun sp hsp => by rw [hspec]; exact A.x9 laid readable hA hg hlt (fun x hx => hsp x hx)) (fun _ _ => by rw [hspec]; rfl) (by simp)
    hg (ok_one (by kernel_rfl) rfl (okWide_bool_mk Try.underlying4 _))⟩

theorem over : Rows.fenceWaysRow.holds Try.pinned (OpenSpec.ofChange Rows.fenceWaysSpec) :=
  OpenClaim.holds_of_wide 5 Try.f5 rfl rfl rfl rfl rfl rfl rfl ⟨rfl, rfl, rfl, rfl, rfl⟩ rfl rfl rfl rfl rfl (by kernel_rfl) Try.func5 (by kernel_rfl)
    (of_decide_eq_true (by kernel_rfl)) (by unfold Func.isWrapper; first | (rw [if_pos (by decide +kernel)]; kernel_rfl) | (rw [if_neg (by decide +kernel)]; exact ⟨rfl, rfl⟩))
    (fun os started H enc _ => lifted os started H enc)

theorem proved : Rows.FenceWaysSaid := over
end fenceWays
end Go.Proofs.Ytaiokpalfdbnnaa
