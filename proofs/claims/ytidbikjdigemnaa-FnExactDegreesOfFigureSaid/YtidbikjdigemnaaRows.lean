/-
  No cell of these rows narrows 'for every input' (looked for: loops, veiled, ifaces, maps, wideKeys, modest, calm, conditions, laid).
  DERIVED. THE GIVEN ROWS OF THIS SEAT. 3 by the template 'for every input the law returns true; each argument reads behind the call as it read before'; 0 by the template 'total and deterministic' (their statements: YtidbikjdigemnaaTotals.lean).
  GIVEN WITH THE SEED: the statements are not yours to turn. If you find one false, say at which input.
  Laid BY PROGRAM, IN A SANDBOX (cutbox-rows.mjs): the forced cells as the released guide's own fill.sh prints them over the translation 841cc8bfc38e71f0… (all of the seat's roots in one cut). By AI agents, Wed Nov 11 2026. No macro, syntax, notation, axiom, sorry.
-/
import Derived.Test.YtidbikjdigemnaaChecked
import GoSem.Claim
import GoSem.ClaimJoined
import GoSem.ClaimMapViews
import Derived.JoinedTies
import Derived.KernelRfl
namespace Go.Proofs.Ytidbikjdigemnaa
/- THE CELL 'sum', in the pinned program and in every row, IS THE sha256 OF THE DUMP (.gsa) THAT YtidbikjdigemnaaProg.lean LOADS. Nothing in Lean hashes anything: it is a label: what it is worth is what the hold of that sum in a sandbox is worth. -/
noncomputable def Try.pinned : Pinned := { name := "ytidbikjdigemnaa", sum := "841cc8bfc38e71f022d041ec29c7fc49d4224d240ca2fe0c9696967685d00e97", checked := Try.checked }
namespace Rows
def none {H : Type} : Left H := { results := [], args := [] }

/-- 'laws.FnExactDualFigure': WHATEVER THE INPUT: true; the input reads as it did. -/
def fnExactDualFigureSpec : ChangeSpec := { name := "fnExactDualFigure", fn := fun _ => fun
  | [d1, d2] => { results := [.lit (.bool true)], args := [d1, d2] }
  | _ => none }
def fnExactDualFigureRow : OpenClaim := { program := "ytidbikjdigemnaa", sum := "841cc8bfc38e71f022d041ec29c7fc49d4224d240ca2fe0c9696967685d00e97", func := "loop.example/g01310/laws.FnExactDualFigure", spec := "fnExactDualFigure", unfollowed := true, recurses := true, apart := false }
def FnExactDualFigureSaid : Prop := fnExactDualFigureRow.holds Try.pinned (OpenSpec.ofChange fnExactDualFigureSpec)

/-- ITS FALSE NEIGHBOUR: 'it returns false'. Refute it at one input. -/
def fnExactDualFigureWrong : ChangeSpec := { name := "fnExactDualFigure", fn := fun _ => fun
  | [d1, d2] => { results := [.lit (.bool false)], args := [d1, d2] }
  | _ => none }
def FnExactDualFigureWrongFalsely : Prop := fnExactDualFigureRow.holds Try.pinned (OpenSpec.ofChange fnExactDualFigureWrong)

/-- 'laws.FnExactDegreesOfFigure': WHATEVER THE INPUT: true; the input reads as it did. -/
def fnExactDegreesOfFigureSpec : ChangeSpec := { name := "fnExactDegreesOfFigure", fn := fun _ => fun
  | [d1, d2] => { results := [.lit (.bool true)], args := [d1, d2] }
  | _ => none }
def fnExactDegreesOfFigureRow : OpenClaim := { program := "ytidbikjdigemnaa", sum := "841cc8bfc38e71f022d041ec29c7fc49d4224d240ca2fe0c9696967685d00e97", func := "loop.example/g01310/laws.FnExactDegreesOfFigure", spec := "fnExactDegreesOfFigure", unfollowed := true, recurses := true, apart := false }
def FnExactDegreesOfFigureSaid : Prop := fnExactDegreesOfFigureRow.holds Try.pinned (OpenSpec.ofChange fnExactDegreesOfFigureSpec)

/-- ITS FALSE NEIGHBOUR: 'it returns false'. Refute it at one input. -/
def fnExactDegreesOfFigureWrong : ChangeSpec := { name := "fnExactDegreesOfFigure", fn := fun _ => fun
  | [d1, d2] => { results := [.lit (.bool false)], args := [d1, d2] }
  | _ => none }
def FnExactDegreesOfFigureWrongFalsely : Prop := fnExactDegreesOfFigureRow.holds Try.pinned (OpenSpec.ofChange fnExactDegreesOfFigureWrong)

/-- 'laws.FnExactIncidenceTable': WHATEVER THE INPUT: true; the input reads as it did. -/
def fnExactIncidenceTableSpec : ChangeSpec := { name := "fnExactIncidenceTable", fn := fun _ => fun
  | [d1, d2] => { results := [.lit (.bool true)], args := [d1, d2] }
  | _ => none }
def fnExactIncidenceTableRow : OpenClaim := { program := "ytidbikjdigemnaa", sum := "841cc8bfc38e71f022d041ec29c7fc49d4224d240ca2fe0c9696967685d00e97", func := "loop.example/g01310/laws.FnExactIncidenceTable", spec := "fnExactIncidenceTable", unfollowed := true, recurses := true, apart := false }
def FnExactIncidenceTableSaid : Prop := fnExactIncidenceTableRow.holds Try.pinned (OpenSpec.ofChange fnExactIncidenceTableSpec)

/-- ITS FALSE NEIGHBOUR: 'it returns false'. Refute it at one input. -/
def fnExactIncidenceTableWrong : ChangeSpec := { name := "fnExactIncidenceTable", fn := fun _ => fun
  | [d1, d2] => { results := [.lit (.bool false)], args := [d1, d2] }
  | _ => none }
def FnExactIncidenceTableWrongFalsely : Prop := fnExactIncidenceTableRow.holds Try.pinned (OpenSpec.ofChange fnExactIncidenceTableWrong)

/- THE SECOND FORM. 'bulk': how many values and letters a reading holds, each counted each time it is reached (what is shared counts as often as it is met; a slice's spare places count too). A statement '..UptoSaid' is the law's where the arguments, and the package variables that the reading takes, are together of bulk at most 1048576: NARROWER than '..Said'. Prove '..Said' where nothing that the law and all that it calls make is longer than what came in: it says more and counts as full. Else prove '..UptoSaid'. A law counts once. -/
mutual
def uptoBulk {H : Type} : DataW H → Nat
  | .lit (.string bytes) => bytes.length + 1
  | .lit _ => 1
  | .nil => 1
  | .ptr d => uptoBulk d + 1
  | .slice elems spare => uptoBulkAll elems + uptoBulkAll spare + 1
  | .agg parts => uptoBulkAll parts + 1
  | .iface _ d => uptoBulk d + 1
  | .map entries => uptoBulkEntries entries + 1
  | .held _ => 1
def uptoBulkAll {H : Type} : List (DataW H) → Nat
  | [] => 0
  | d :: r => uptoBulk d + uptoBulkAll r
def uptoBulkEntries {H : Type} : List (Lit × DataW H) → Nat
  | [] => 0
  | x :: r => uptoBulkEntry x + uptoBulkEntries r
def uptoBulkEntry {H : Type} : Lit × DataW H → Nat
  | (.string bytes, d) => bytes.length + uptoBulk d + 1
  | (_, d) => uptoBulk d + 1
 end
def uptoSmall : (H : Type) → List (DataW H) → Bool := fun _ ds => decide (uptoBulkAll ds ≤ 1048576)
def OpenSpec.upto (s : _root_.Go.ChangeSpec) : _root_.Go.OpenSpec := { _root_.Go.OpenSpec.ofChange s with cond := some uptoSmall }

/-- 'laws.FnExactDualFigure', WHERE WHAT IT READS IS OF BULK AT MOST 1048576: true; the input reads as it did. -/
def fnExactDualFigureUptoRow : OpenClaim := { program := "ytidbikjdigemnaa", sum := "841cc8bfc38e71f022d041ec29c7fc49d4224d240ca2fe0c9696967685d00e97", func := "loop.example/g01310/laws.FnExactDualFigure", spec := "fnExactDualFigure", unfollowed := true, recurses := true, apart := false, narrowed := true }
def FnExactDualFigureUptoSaid : Prop := fnExactDualFigureUptoRow.holds Try.pinned (OpenSpec.upto fnExactDualFigureSpec)

/-- 'laws.FnExactDegreesOfFigure', WHERE WHAT IT READS IS OF BULK AT MOST 1048576: true; the input reads as it did. -/
def fnExactDegreesOfFigureUptoRow : OpenClaim := { program := "ytidbikjdigemnaa", sum := "841cc8bfc38e71f022d041ec29c7fc49d4224d240ca2fe0c9696967685d00e97", func := "loop.example/g01310/laws.FnExactDegreesOfFigure", spec := "fnExactDegreesOfFigure", unfollowed := true, recurses := true, apart := false, narrowed := true }
def FnExactDegreesOfFigureUptoSaid : Prop := fnExactDegreesOfFigureUptoRow.holds Try.pinned (OpenSpec.upto fnExactDegreesOfFigureSpec)

/-- 'laws.FnExactIncidenceTable', WHERE WHAT IT READS IS OF BULK AT MOST 1048576: true; the input reads as it did. -/
def fnExactIncidenceTableUptoRow : OpenClaim := { program := "ytidbikjdigemnaa", sum := "841cc8bfc38e71f022d041ec29c7fc49d4224d240ca2fe0c9696967685d00e97", func := "loop.example/g01310/laws.FnExactIncidenceTable", spec := "fnExactIncidenceTable", unfollowed := true, recurses := true, apart := false, narrowed := true }
def FnExactIncidenceTableUptoSaid : Prop := fnExactIncidenceTableUptoRow.holds Try.pinned (OpenSpec.upto fnExactIncidenceTableSpec)

end Rows
end Go.Proofs.Ytidbikjdigemnaa
