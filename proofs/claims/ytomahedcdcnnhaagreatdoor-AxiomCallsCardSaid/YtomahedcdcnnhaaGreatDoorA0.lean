/- Candidates are judged, and judgements told, as the document says: the law, on lists and numbers. -/
import Derived.Test.YtomahedcdcnnhaaGreatDoorA6
import Derived.Test.YtomahedcdcnnhaaGreatDoorA4
import Derived.KernelRfl
namespace Go.Proofs.YtomahedcdcnnhaaGreatDoor
open Go A

theorem Lt:qz 4000=some true:=by kernel_rfl
theorem sc (c:af) (k:Int) (j:aC) (_wc:c.wf) (_wk:v8 .i64 k) (wj:j.wf):iX 4000 c k j=some true:=by
  obtain ⟨r,h,e⟩:=GM 4000 c k j Lt (Nat.le_refl _) (M4 4000 j (by decide) wj.2.2.1 wj.2.2.2)
  rw [h,e]

end Go.Proofs.YtomahedcdcnnhaaGreatDoor
