/- The closed facts of the law FnExactIsFigure, in a text of their own: one check by the kernel. No condition. -/
import Derived.Test.YthkbhaaodegocaaRows
import Derived.WalkKit
import Derived.ProofKit
import Derived.OpenShut
import Derived.ChangeOld
import Derived.Below
namespace Go.Proofs.Ythkbhaaodegocaa
theorem joinIsFigure : joinedFacts Try.pinned.checked.prog 12 Try.f12 Rows.fnExactIsFigureSpec Rows.fnExactIsFigureRow = true := by kernel_rfl
end Go.Proofs.Ythkbhaaodegocaa
