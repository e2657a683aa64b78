/- The closed facts of the law FnExactDiagonalPoints, in a text of their own: one check by the kernel. No condition. -/
import Derived.Test.YtcfilpcjgdbbmaaRows
import Derived.WalkKit
import Derived.ProofKit
import Derived.OpenShut
import Derived.ChangeOld
import Derived.Below
namespace Go.Proofs.Ytcfilpcjgdbbmaa
theorem joinDiagonalPoints : joinedFacts Try.pinned.checked.prog 4 Try.f4 Rows.fnExactDiagonalPointsSpec Rows.fnExactDiagonalPointsRow = true := by kernel_rfl
end Go.Proofs.Ytcfilpcjgdbbmaa
