/- The closed facts of the law FnExactDesarguesLine, in a text of their own: one check by the kernel. No condition. -/
import Derived.Test.YtdiihhohaijcoaaRows
import Derived.WalkKit
import Derived.ProofKit
import Derived.OpenShut
import Derived.ChangeOld
import Derived.Below
namespace Go.Proofs.Ytdiihhohaijcoaa
theorem joinDesarguesLine : joinedFacts Try.pinned.checked.prog 3 Try.f3 Rows.fnExactDesarguesLineSpec Rows.fnExactDesarguesLineRow = true := by kernel_rfl
end Go.Proofs.Ytdiihhohaijcoaa
