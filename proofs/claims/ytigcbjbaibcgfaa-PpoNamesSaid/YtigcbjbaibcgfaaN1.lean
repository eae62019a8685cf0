/- The chapter's examples, reckoned. Plain lists, no program in sight. -/
import Derived.Test.YtigcbjbaibcgfaaM1
import Derived.KernelRfl
namespace Go.Proofs.Ytigcbjbaibcgfaa
open Go A
theorem names_true : law_PpoNames 200 = some true := by kernel_rfl
end Go.Proofs.Ytigcbjbaibcgfaa
