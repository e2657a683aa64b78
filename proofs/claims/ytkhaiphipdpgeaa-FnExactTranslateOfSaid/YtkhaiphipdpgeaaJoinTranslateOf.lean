/- The closed facts of the law FnExactTranslateOf, in a text of their own: one check by the kernel. No condition. -/
import Derived.Test.YtkhaiphipdpgeaaRows
import Derived.WalkKit
import Derived.ProofKit
import Derived.OpenShut
import Derived.ChangeOld
import Derived.Below
namespace Go.Proofs.Ytkhaiphipdpgeaa
theorem joinTranslateOf : joinedFacts Try.pinned.checked.prog 4 Try.f4 Rows.fnExactTranslateOfSpec Rows.fnExactTranslateOfRow = true := by kernel_rfl
end Go.Proofs.Ytkhaiphipdpgeaa
