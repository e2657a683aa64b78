/- The closed facts of the law FnExactLineOfShift, in a text of their own: one check by the kernel. No condition. -/
import Derived.Test.YtkhaiphipdpgeaaRows
import Derived.WalkKit
import Derived.ProofKit
import Derived.OpenShut
import Derived.ChangeOld
import Derived.Below
namespace Go.Proofs.Ytkhaiphipdpgeaa
theorem joinLineOfShift : joinedFacts Try.pinned.checked.prog 6 Try.f6 Rows.fnExactLineOfShiftSpec Rows.fnExactLineOfShiftRow = true := by kernel_rfl
end Go.Proofs.Ytkhaiphipdpgeaa
