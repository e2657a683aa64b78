/- The closed facts of the law FnExactMultipliersOf, in a text of their own: one check by the kernel. No condition. -/
import Derived.Test.YtkhaiphipdpgeaaRows
import Derived.WalkKit
import Derived.ProofKit
import Derived.OpenShut
import Derived.ChangeOld
import Derived.Below
namespace Go.Proofs.Ytkhaiphipdpgeaa
theorem joinMultipliersOf : joinedFacts Try.pinned.checked.prog 5 Try.f5 Rows.fnExactMultipliersOfSpec Rows.fnExactMultipliersOfRow = true := by kernel_rfl
end Go.Proofs.Ytkhaiphipdpgeaa
