/- The closed facts of the law FnExactNewDesk, in a text of their own: one check by the kernel. No condition. -/
import Derived.Test.YthkbhaaodegocaaRows
import Derived.WalkKit
import Derived.ProofKit
import Derived.OpenShut
import Derived.ChangeOld
import Derived.Below
namespace Go.Proofs.Ythkbhaaodegocaa
theorem joinNewDesk : joinedFacts Try.pinned.checked.prog 3 Try.f3 Rows.fnExactNewDeskSpec Rows.fnExactNewDeskRow = true := by kernel_rfl
end Go.Proofs.Ythkbhaaodegocaa
