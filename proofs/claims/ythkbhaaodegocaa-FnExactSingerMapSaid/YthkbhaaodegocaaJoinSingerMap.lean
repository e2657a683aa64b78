/- The closed facts of the law FnExactSingerMap, in a text of their own: one check by the kernel. No condition. -/
import Derived.Test.YthkbhaaodegocaaRows
import Derived.WalkKit
import Derived.ProofKit
import Derived.OpenShut
import Derived.ChangeOld
import Derived.Below
namespace Go.Proofs.Ythkbhaaodegocaa
theorem joinSingerMap : joinedFacts Try.pinned.checked.prog 7 Try.f7 Rows.fnExactSingerMapSpec Rows.fnExactSingerMapRow = true := by kernel_rfl
end Go.Proofs.Ythkbhaaodegocaa
