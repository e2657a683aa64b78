/- The closed facts of the law FnExactPappusLine, in a text of their own: one check by the kernel. No condition. -/
import Derived.Test.YthkbhaaodegocaaRows
import Derived.WalkKit
import Derived.ProofKit
import Derived.OpenShut
import Derived.ChangeOld
import Derived.Below
namespace Go.Proofs.Ythkbhaaodegocaa
theorem joinPappusLine : joinedFacts Try.pinned.checked.prog 13 Try.f13 Rows.fnExactPappusLineSpec Rows.fnExactPappusLineRow = true := by kernel_rfl
end Go.Proofs.Ythkbhaaodegocaa
