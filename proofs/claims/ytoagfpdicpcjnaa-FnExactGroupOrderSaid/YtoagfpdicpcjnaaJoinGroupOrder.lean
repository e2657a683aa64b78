/- The closed facts of the law FnExactGroupOrder, in a text of their own: one check by the kernel. No condition. -/
import Derived.Test.YtoagfpdicpcjnaaRows
import Derived.WalkKit
import Derived.ProofKit
import Derived.OpenShut
import Derived.ChangeOld
import Derived.Below
namespace Go.Proofs.Ytoagfpdicpcjnaa
theorem joinGroupOrder : joinedFacts Try.pinned.checked.prog 3 Try.f3 Rows.fnExactGroupOrderSpec Rows.fnExactGroupOrderRow = true := by kernel_rfl
end Go.Proofs.Ytoagfpdicpcjnaa
