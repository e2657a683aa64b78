/- The closed facts of the law FnExactIncidenceRank, in a text of their own: one check by the kernel. No condition. -/
import Derived.Test.YtcfilpcjgdbbmaaRows
import Derived.WalkKit
import Derived.ProofKit
import Derived.OpenShut
import Derived.ChangeOld
import Derived.Below
namespace Go.Proofs.Ytcfilpcjgdbbmaa
theorem joinIncidenceRank : joinedFacts Try.pinned.checked.prog 3 Try.f3 Rows.fnExactIncidenceRankSpec Rows.fnExactIncidenceRankRow = true := by kernel_rfl
end Go.Proofs.Ytcfilpcjgdbbmaa
