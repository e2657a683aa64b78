/- The closed facts of the law FnExactIsDesk, in a text of their own: one check by the kernel. No condition. -/
import Derived.Test.YthkbhaaodegocaaRows
import Derived.WalkKit
import Derived.ProofKit
import Derived.OpenShut
import Derived.ChangeOld
import Derived.Below
namespace Go.Proofs.Ythkbhaaodegocaa
theorem joinIsDesk : joinedFacts Try.pinned.checked.prog 6 Try.f6 Rows.fnExactIsDeskSpec Rows.fnExactIsDeskRow = true := by kernel_rfl
end Go.Proofs.Ythkbhaaodegocaa
