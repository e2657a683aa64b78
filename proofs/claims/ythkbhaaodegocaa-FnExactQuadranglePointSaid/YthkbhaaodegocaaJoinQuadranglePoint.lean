/- The closed facts of the law FnExactQuadranglePoint, in a text of their own: one check by the kernel. No condition. -/
import Derived.Test.YthkbhaaodegocaaRows
import Derived.WalkKit
import Derived.ProofKit
import Derived.OpenShut
import Derived.ChangeOld
import Derived.Below
namespace Go.Proofs.Ythkbhaaodegocaa
theorem joinQuadranglePoint : joinedFacts Try.pinned.checked.prog 10 Try.f10 Rows.fnExactQuadranglePointSpec Rows.fnExactQuadranglePointRow = true := by kernel_rfl
end Go.Proofs.Ythkbhaaodegocaa
