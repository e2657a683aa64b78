/- The closed facts of the law FnExactDualFigure, in a text of their own: one check by the kernel. No condition. -/
import Derived.Test.YtidbikjdigemnaaRows
import Derived.WalkKit
import Derived.ProofKit
import Derived.OpenShut
import Derived.ChangeOld
import Derived.Below
namespace Go.Proofs.Ytidbikjdigemnaa
theorem joinDualFigure : joinedFacts Try.pinned.checked.prog 3 Try.f3 Rows.fnExactDualFigureSpec Rows.fnExactDualFigureRow = true := by kernel_rfl
end Go.Proofs.Ytidbikjdigemnaa
