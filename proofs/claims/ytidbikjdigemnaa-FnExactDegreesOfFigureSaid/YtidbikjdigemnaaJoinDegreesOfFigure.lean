/- The closed facts of the law FnExactDegreesOfFigure, in a text of their own: one check by the kernel. No condition. -/
import Derived.Test.YtidbikjdigemnaaRows
import Derived.WalkKit
import Derived.ProofKit
import Derived.OpenShut
import Derived.ChangeOld
import Derived.Below
namespace Go.Proofs.Ytidbikjdigemnaa
theorem joinDegreesOfFigure : joinedFacts Try.pinned.checked.prog 4 Try.f4 Rows.fnExactDegreesOfFigureSpec Rows.fnExactDegreesOfFigureRow = true := by kernel_rfl
end Go.Proofs.Ytidbikjdigemnaa
