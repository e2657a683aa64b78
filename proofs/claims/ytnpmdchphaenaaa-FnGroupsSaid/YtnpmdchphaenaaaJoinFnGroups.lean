/- The closed facts of the law FnGroups, in a text of their own: one check by the kernel. No condition. -/
import Derived.Test.YtnpmdchphaenaaaRows
import Derived.WalkKit
import Derived.ProofKit
import Derived.OpenShut
import Derived.ChangeOld
import Derived.Below
namespace Go.Proofs.Ytnpmdchphaenaaa
theorem joinFnGroups : joinedFacts Try.pinned.checked.prog 3 Try.f3 Rows.fnGroupsSpec Rows.fnGroupsRow = true := by kernel_rfl
end Go.Proofs.Ytnpmdchphaenaaa
