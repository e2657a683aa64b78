/- The closed facts of the law FnExactIsDifferenceSet, in a text of their own: one check by the kernel. No condition. -/
import Derived.Test.YthkbhaaodegocaaRows
import Derived.WalkKit
import Derived.ProofKit
import Derived.OpenShut
import Derived.ChangeOld
import Derived.Below
namespace Go.Proofs.Ythkbhaaodegocaa
theorem joinIsDifferenceSet : joinedFacts Try.pinned.checked.prog 4 Try.f4 Rows.fnExactIsDifferenceSetSpec Rows.fnExactIsDifferenceSetRow = true := by kernel_rfl
end Go.Proofs.Ythkbhaaodegocaa
