/- The closed facts of the law FnSinger, in a text of their own: one check by the kernel. No condition. -/
import Derived.Test.YtaocnklolgdkfaaGreatRows
import Derived.WalkKit
import Derived.ProofKit
import Derived.OpenShut
import Derived.ChangeOld
import Derived.Below
namespace Go.Proofs.YtaocnklolgdkfaaGreat
theorem joinFnSinger : joinedFacts Tryz.pinned.checked.prog 3 Tryz.f3 Rows.fnSingerSpec Rows.fnSingerRow = true := by kernel_rfl
end Go.Proofs.YtaocnklolgdkfaaGreat
