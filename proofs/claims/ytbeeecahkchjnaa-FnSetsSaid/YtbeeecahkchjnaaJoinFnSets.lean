/- The closed facts of the law FnSets, in a text of their own: one check by the kernel. No condition. -/
import Derived.Test.YtbeeecahkchjnaaRows
import Derived.WalkKit
import Derived.ProofKit
import Derived.OpenShut
import Derived.ChangeOld
import Derived.Below
namespace Go.Proofs.Ytbeeecahkchjnaa
theorem joinFnSets : joinedFacts Try.pinned.checked.prog 3 Try.f3 Rows.fnSetsSpec Rows.fnSetsRow = true := by kernel_rfl
end Go.Proofs.Ytbeeecahkchjnaa
