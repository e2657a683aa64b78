/- The closed facts of the law FnExactOrbitsOf, in a text of their own: one check by the kernel. No condition. -/
import Derived.Test.YtoagfpdicpcjnaaRows
import Derived.WalkKit
import Derived.ProofKit
import Derived.OpenShut
import Derived.ChangeOld
import Derived.Below
namespace Go.Proofs.Ytoagfpdicpcjnaa
theorem joinOrbitsOf : joinedFacts Try.pinned.checked.prog 5 Try.f5 Rows.fnExactOrbitsOfSpec Rows.fnExactOrbitsOfRow = true := by kernel_rfl
end Go.Proofs.Ytoagfpdicpcjnaa
