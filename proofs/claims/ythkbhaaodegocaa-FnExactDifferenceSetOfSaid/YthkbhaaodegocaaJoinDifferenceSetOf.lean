/- The closed facts of the law FnExactDifferenceSetOf, in a text of their own: one check by the kernel. No condition. -/
import Derived.Test.YthkbhaaodegocaaRows
import Derived.WalkKit
import Derived.ProofKit
import Derived.OpenShut
import Derived.ChangeOld
import Derived.Below
namespace Go.Proofs.Ythkbhaaodegocaa
theorem joinDifferenceSetOf : joinedFacts Try.pinned.checked.prog 9 Try.f9 Rows.fnExactDifferenceSetOfSpec Rows.fnExactDifferenceSetOfRow = true := by kernel_rfl
end Go.Proofs.Ythkbhaaodegocaa
