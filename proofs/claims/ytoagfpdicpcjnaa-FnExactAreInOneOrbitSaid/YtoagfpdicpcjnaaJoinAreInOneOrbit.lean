/- The closed facts of the law FnExactAreInOneOrbit, in a text of their own: one check by the kernel. No condition. -/
import Derived.Test.YtoagfpdicpcjnaaRows
import Derived.WalkKit
import Derived.ProofKit
import Derived.OpenShut
import Derived.ChangeOld
import Derived.Below
namespace Go.Proofs.Ytoagfpdicpcjnaa
theorem joinAreInOneOrbit : joinedFacts Try.pinned.checked.prog 4 Try.f4 Rows.fnExactAreInOneOrbitSpec Rows.fnExactAreInOneOrbitRow = true := by kernel_rfl
end Go.Proofs.Ytoagfpdicpcjnaa
