/- The closed facts of the law FnExactSingerOrder, in a text of their own: one check by the kernel. No condition. -/
import Derived.Test.YthkbhaaodegocaaRows
import Derived.WalkKit
import Derived.ProofKit
import Derived.OpenShut
import Derived.ChangeOld
import Derived.Below
namespace Go.Proofs.Ythkbhaaodegocaa
theorem joinSingerOrder : joinedFacts Try.pinned.checked.prog 8 Try.f8 Rows.fnExactSingerOrderSpec Rows.fnExactSingerOrderRow = true := by kernel_rfl
end Go.Proofs.Ythkbhaaodegocaa
