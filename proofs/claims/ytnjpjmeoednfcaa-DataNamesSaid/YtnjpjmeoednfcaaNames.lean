/- The chapter's examples have the results that it gives: the call of the statement's function, which takes no arguments, returns true and turns nothing. Proved by running a sound evaluator of the model in the kernel. No conditions. -/
import Derived.Test.YtnjpjmeoednfcaaRows
import Derived.Test.YtnjpjmeoednfcaaA37
import Derived.KernelRfl
namespace Go.Proofs.Ytnjpjmeoednfcaa
namespace dataNames
open Go
open Go.RowKit (Below)
open Go.ChangeShapes Go.WideShapes Go.ChangeAt Go.RowKit

noncomputable def cfg : A.Cfg := { P := Try.prog, pure := fun f => !(A.hasN [13, 15, 27, 28, 35, 37, 38, 39, 40] f), pol := fun f => { esc := if f = 17 then [4, 5] else [], ms := if f = 15 then [0, 1, 2, 3, 4, 5, 6, 7, 8, 9, 10] else [] } }

theorem run : A.Gives cfg 3000 4 [] (.v (.bool true)) = (A.AV.v (.bool true) = A.AV.v (.bool true)) := by kernel_rfl
theorem mixed : cfg.P.follows .mixedOrders = true := by kernel_rfl
theorem names : (cfg.P.funcs.all fun fn => !(fn.name == "runtime.NumGoroutine")) = true := by kernel_rfl
theorem own : ownKnob Try.prog.godebug = none := by kernel_rfl
theorem cfgP : cfg.P = Try.prog := rfl

theorem ran : A.Gives cfg 3000 4 [] (.v (.bool true)) := by rw [run]

set_option maxRecDepth 100000 in
theorem walk (w : World) : Calls Try.prog 4 #[] w fun e w' => e = .returned (.bool true) ∧ Below w.heap.size w w' := by
  have h := A.walk_true (A.noNum_of names) mixed ran (fun _ => False) w #[] (fun _ h => h.elim) (A.VRs.nil _)
  rw [cfgP] at h
  exact h

set_option maxRecDepth 100000 in
theorem lifted (os : Os) (started : os.Started) (H : Type) (enc : TypeId × Value → H) :
    ReturnsInHanded {} Try.checked os 4 .any (Rows.dataNamesSpec.pre6 enc Try.prog Try.f4 Rows.dataNamesRow.domain false) (Rows.dataNamesSpec.post enc Try.prog Try.f4 false true false false) := by
  refine returnsInHanded_of_change (C := Try.checked) own started (by kernel_rfl) Try.func4
    (ChangeSpec.witness6 (enc := enc) (C := Try.checked) false ⟨#[], #[], []⟩ 8 (by kernel_rfl) (by kernel_rfl) (by kernel_rfl) (by kernel_rfl)) ?_
  intro W base args ds gs before hval0 hW hcnd _
  have hW' := hW
  obtain ⟨p, q, hA0, hV, rfl, hfz, hnd⟩ := hW
  have hA : DataW.TrodAll enc Try.prog W 0 (fun _ => true) true Try.f4.params.toList args.toList ds p := hA0
  rw [Try.params4] at hA
  obtain ⟨rfl, rfl, rfl⟩ := trodAll_none hA
  obtain ⟨rfl, rfl⟩ := trodVars_none hV
  clear hA0 hval0
  simp only [List.append_nil] at hW'
  refine (walk W).mono fun e W' ⟨he, hg⟩ => ?_
  subst he
  exact ⟨_, rfl, A.post_of_below (pa := []) (pv := []) hW' (fun _ _ _ => (trodAll_cons_mk (shut_bool Try.underlying4 _) trodAll_mk0)) (fun sp _ => rfl) (fun _ _ => rfl) rfl
    hg (ok_one (by kernel_rfl) rfl (okWide_bool_mk Try.underlying4 _))⟩

theorem over : Rows.dataNamesRow.holds Try.pinned (OpenSpec.ofChange Rows.dataNamesSpec) :=
  OpenClaim.holds_of_wide 4 Try.f4 rfl rfl rfl rfl rfl rfl rfl ⟨rfl, rfl, rfl, rfl, rfl⟩ rfl rfl rfl rfl rfl (by kernel_rfl) Try.func4 (by kernel_rfl)
    (of_decide_eq_true (by kernel_rfl)) (by unfold Func.isWrapper; first | (rw [if_pos (by decide +kernel)]; kernel_rfl) | (rw [if_neg (by decide +kernel)]; exact ⟨rfl, rfl⟩))
    (fun os started H enc _ => lifted os started H enc)

theorem proved : Rows.DataNamesSaid := over
end dataNames
end Go.Proofs.Ytnjpjmeoednfcaa
