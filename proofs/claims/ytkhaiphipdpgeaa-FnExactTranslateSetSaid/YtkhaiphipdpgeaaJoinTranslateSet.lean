/- The closed facts of the law FnExactTranslateSet, in a text of their own: one check by the kernel. No condition. -/
import Derived.Test.YtkhaiphipdpgeaaRows
import Derived.WalkKit
import Derived.ProofKit
import Derived.OpenShut
import Derived.ChangeOld
import Derived.Below
namespace Go.Proofs.Ytkhaiphipdpgeaa
theorem joinTranslateSet : joinedFacts Try.pinned.checked.prog 3 Try.f3 Rows.fnExactTranslateSetSpec Rows.fnExactTranslateSetRow = true := by kernel_rfl
end Go.Proofs.Ytkhaiphipdpgeaa
