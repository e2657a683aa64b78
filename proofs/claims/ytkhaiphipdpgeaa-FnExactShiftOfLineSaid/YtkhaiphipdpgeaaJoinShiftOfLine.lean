/- The closed facts of the law FnExactShiftOfLine, in a text of their own: one check by the kernel. No condition. -/
import Derived.Test.YtkhaiphipdpgeaaRows
import Derived.WalkKit
import Derived.ProofKit
import Derived.OpenShut
import Derived.ChangeOld
import Derived.Below
namespace Go.Proofs.Ytkhaiphipdpgeaa
theorem joinShiftOfLine : joinedFacts Try.pinned.checked.prog 7 Try.f7 Rows.fnExactShiftOfLineSpec Rows.fnExactShiftOfLineRow = true := by kernel_rfl
end Go.Proofs.Ytkhaiphipdpgeaa
