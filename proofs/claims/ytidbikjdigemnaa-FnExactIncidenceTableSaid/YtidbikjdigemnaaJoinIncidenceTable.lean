/- The closed facts of the law FnExactIncidenceTable, in a text of their own: one check by the kernel. No condition. -/
import Derived.Test.YtidbikjdigemnaaRows
import Derived.WalkKit
import Derived.ProofKit
import Derived.OpenShut
import Derived.ChangeOld
import Derived.Below
namespace Go.Proofs.Ytidbikjdigemnaa
theorem joinIncidenceTable : joinedFacts Try.pinned.checked.prog 5 Try.f5 Rows.fnExactIncidenceTableSpec Rows.fnExactIncidenceTableRow = true := by kernel_rfl
end Go.Proofs.Ytidbikjdigemnaa
