/- Data that are read as values of the types of the code. Printed by a program; nothing is claimed here of the code. -/
import Derived.Test.YtcckeabholabcaaGreatP0
import Derived.KernelRfl
namespace Go.Proofs.YtcckeabholabcaaGreat
open Go A
set_option linter.unusedVariables false
section
variable {H : Type}
theorem tH : lu H Tryz.prog 27 (ac .u64) (vB .u64) := lu.int Tryz.underlying27
theorem JB : lu H Tryz.prog 43 Cell.enc Cell.wf := lu.conv (lu.struct Tryz.underlying43 (iE.cons tH (iE.cons tH iE.nil))) (fun x => Cell.mk x.1 x.2.1) (fun _ => rfl) (fun x h => ⟨h.1, h.2.1⟩)
theorem JC : lu H Tryz.prog 22 (gf Cell.enc) (fun l => l.length ≤ maxLen ∧ ∀ z ∈ l, Cell.wf z) := lu.slice Tryz.underlying22 JB
theorem sn : lu H Tryz.prog 3 (ac .i64) (vB .i64) := lu.int Tryz.underlying3
theorem IQ : lu H Tryz.prog 4 ff (fun _ => True) := lu.bool Tryz.underlying4
theorem xt : lu H Tryz.prog 24 (gf (ac .i64)) (fun l => l.length ≤ maxLen ∧ ∀ z ∈ l, vB .i64 z) := lu.slice Tryz.underlying24 sn
theorem JD : lu H Tryz.prog 60 Deps.enc Deps.wf := lu.conv (lu.struct Tryz.underlying60 (iE.cons xt (iE.cons xt (iE.cons xt iE.nil)))) (fun x => Deps.mk x.1 x.2.1 x.2.2.1) (fun _ => rfl) (fun x h => ⟨h.1, h.2.1, h.2.2.1⟩)
theorem JE : lu H Tryz.prog 62 Event.enc Event.wf := lu.conv (lu.struct Tryz.underlying62 (iE.cons sn (iE.cons sn (iE.cons sn (iE.cons tH (iE.cons tH (iE.cons tH (iE.cons IQ (iE.cons IQ (iE.cons sn (iE.cons sn (iE.cons sn (iE.cons JD iE.nil))))))))))))) (fun x => Event.mk x.1 x.2.1 x.2.2.1 x.2.2.2.1 x.2.2.2.2.1 x.2.2.2.2.2.1 x.2.2.2.2.2.2.1 x.2.2.2.2.2.2.2.1 x.2.2.2.2.2.2.2.2.1 x.2.2.2.2.2.2.2.2.2.1 x.2.2.2.2.2.2.2.2.2.2.1 x.2.2.2.2.2.2.2.2.2.2.2.1) (fun _ => rfl) (fun x h => ⟨h.1, h.2.1, h.2.2.1, h.2.2.2.1, h.2.2.2.2.1, h.2.2.2.2.2.1, h.2.2.2.2.2.2.1, h.2.2.2.2.2.2.2.1, h.2.2.2.2.2.2.2.2.1, h.2.2.2.2.2.2.2.2.2.1, h.2.2.2.2.2.2.2.2.2.2.1, h.2.2.2.2.2.2.2.2.2.2.2.1⟩)
theorem JF : lu H Tryz.prog 35 (gf Event.enc) (fun l => l.length ≤ maxLen ∧ ∀ z ∈ l, Event.wf z) := lu.slice Tryz.underlying35 JE
theorem JG : lu H Tryz.prog 23 (gf (gf Event.enc)) (fun l => l.length ≤ maxLen ∧ ∀ z ∈ l, z.length ≤ maxLen ∧ ∀ zz ∈ z, Event.wf zz) := lu.slice Tryz.underlying23 JF
theorem G0 : lu H Tryz.prog 26 ai.enc ai.wf := lu.conv (lu.struct Tryz.underlying26 (iE.cons JC (iE.cons JG (iE.cons xt (iE.cons xt iE.nil))))) (fun x => ai.mk x.1 x.2.1 x.2.2.1 x.2.2.2.1) (fun _ => rfl) (fun x h => ⟨h.1, h.2.1, h.2.2.1, h.2.2.2.1⟩)
end
end Go.Proofs.YtcckeabholabcaaGreat
