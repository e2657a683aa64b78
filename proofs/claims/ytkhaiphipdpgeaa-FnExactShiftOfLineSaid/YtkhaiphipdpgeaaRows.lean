/-
  No cell of these rows narrows 'for every input' (looked for: loops, veiled, ifaces, maps, wideKeys, modest, calm, conditions, laid).
  DERIVED. THE GIVEN ROWS OF THIS SEAT. 5 by the template 'for every input the law returns true; each argument reads behind the call as it read before'; 0 by the template 'total and deterministic' (their statements: YtkhaiphipdpgeaaTotals.lean).
  GIVEN WITH THE SEED: the statements are not yours to turn. If you find one false, say at which input.
  Laid BY PROGRAM, IN A SANDBOX (cutbox-rows.mjs): the forced cells as the released guide's own fill.sh prints them over the translation d9e9f1ed4f713660… (all of the seat's roots in one cut). By AI agents, Wed Nov 11 2026. No macro, syntax, notation, axiom, sorry.
-/
import Derived.Test.YtkhaiphipdpgeaaChecked
import GoSem.Claim
import GoSem.ClaimJoined
import GoSem.ClaimMapViews
import Derived.JoinedTies
import Derived.KernelRfl
namespace Go.Proofs.Ytkhaiphipdpgeaa
/- THE CELL 'sum', in the pinned program and in every row, IS THE sha256 OF THE DUMP (.gsa) THAT YtkhaiphipdpgeaaProg.lean LOADS. Nothing in Lean hashes anything: it is a label: what it is worth is what the hold of that sum in a sandbox is worth. -/
noncomputable def Try.pinned : Pinned := { name := "ytkhaiphipdpgeaa", sum := "d9e9f1ed4f713660553c91f7d51449aaa132b42c61b06f2b2b247517ada613ad", checked := Try.checked }
namespace Rows
def none {H : Type} : Left H := { results := [], args := [] }

/-- 'laws.FnExactTranslateSet': WHATEVER THE INPUT: true; the input reads as it did. -/
def fnExactTranslateSetSpec : ChangeSpec := { name := "fnExactTranslateSet", fn := fun _ => fun
  | [d1, d2, d3] => { results := [.lit (.bool true)], args := [d1, d2, d3] }
  | _ => none }
def fnExactTranslateSetRow : OpenClaim := { program := "ytkhaiphipdpgeaa", sum := "d9e9f1ed4f713660553c91f7d51449aaa132b42c61b06f2b2b247517ada613ad", func := "loop.example/g01310/laws.FnExactTranslateSet", spec := "fnExactTranslateSet", recurses := true, apart := false }
def FnExactTranslateSetSaid : Prop := fnExactTranslateSetRow.holds Try.pinned (OpenSpec.ofChange fnExactTranslateSetSpec)

/-- ITS FALSE NEIGHBOUR: 'it returns false'. Refute it at one input. -/
def fnExactTranslateSetWrong : ChangeSpec := { name := "fnExactTranslateSet", fn := fun _ => fun
  | [d1, d2, d3] => { results := [.lit (.bool false)], args := [d1, d2, d3] }
  | _ => none }
def FnExactTranslateSetWrongFalsely : Prop := fnExactTranslateSetRow.holds Try.pinned (OpenSpec.ofChange fnExactTranslateSetWrong)

/-- 'laws.FnExactTranslateOf': WHATEVER THE INPUT: true; the input reads as it did. -/
def fnExactTranslateOfSpec : ChangeSpec := { name := "fnExactTranslateOf", fn := fun _ => fun
  | [d1, d2, d3] => { results := [.lit (.bool true)], args := [d1, d2, d3] }
  | _ => none }
def fnExactTranslateOfRow : OpenClaim := { program := "ytkhaiphipdpgeaa", sum := "d9e9f1ed4f713660553c91f7d51449aaa132b42c61b06f2b2b247517ada613ad", func := "loop.example/g01310/laws.FnExactTranslateOf", spec := "fnExactTranslateOf", recurses := true, apart := false }
def FnExactTranslateOfSaid : Prop := fnExactTranslateOfRow.holds Try.pinned (OpenSpec.ofChange fnExactTranslateOfSpec)

/-- ITS FALSE NEIGHBOUR: 'it returns false'. Refute it at one input. -/
def fnExactTranslateOfWrong : ChangeSpec := { name := "fnExactTranslateOf", fn := fun _ => fun
  | [d1, d2, d3] => { results := [.lit (.bool false)], args := [d1, d2, d3] }
  | _ => none }
def FnExactTranslateOfWrongFalsely : Prop := fnExactTranslateOfRow.holds Try.pinned (OpenSpec.ofChange fnExactTranslateOfWrong)

/-- 'laws.FnExactMultipliersOf': WHATEVER THE INPUT: true; the input reads as it did. -/
def fnExactMultipliersOfSpec : ChangeSpec := { name := "fnExactMultipliersOf", fn := fun _ => fun
  | [d1, d2] => { results := [.lit (.bool true)], args := [d1, d2] }
  | _ => none }
def fnExactMultipliersOfRow : OpenClaim := { program := "ytkhaiphipdpgeaa", sum := "d9e9f1ed4f713660553c91f7d51449aaa132b42c61b06f2b2b247517ada613ad", func := "loop.example/g01310/laws.FnExactMultipliersOf", spec := "fnExactMultipliersOf", recurses := true, apart := false }
def FnExactMultipliersOfSaid : Prop := fnExactMultipliersOfRow.holds Try.pinned (OpenSpec.ofChange fnExactMultipliersOfSpec)

/-- ITS FALSE NEIGHBOUR: 'it returns false'. Refute it at one input. -/
def fnExactMultipliersOfWrong : ChangeSpec := { name := "fnExactMultipliersOf", fn := fun _ => fun
  | [d1, d2] => { results := [.lit (.bool false)], args := [d1, d2] }
  | _ => none }
def FnExactMultipliersOfWrongFalsely : Prop := fnExactMultipliersOfRow.holds Try.pinned (OpenSpec.ofChange fnExactMultipliersOfWrong)

/-- 'laws.FnExactLineOfShift': WHATEVER THE INPUT: true; the input reads as it did. -/
def fnExactLineOfShiftSpec : ChangeSpec := { name := "fnExactLineOfShift", fn := fun _ => fun
  | [d1, d2] => { results := [.lit (.bool true)], args := [d1, d2] }
  | _ => none }
def fnExactLineOfShiftRow : OpenClaim := { program := "ytkhaiphipdpgeaa", sum := "d9e9f1ed4f713660553c91f7d51449aaa132b42c61b06f2b2b247517ada613ad", func := "loop.example/g01310/laws.FnExactLineOfShift", spec := "fnExactLineOfShift", recurses := true, apart := false }
def FnExactLineOfShiftSaid : Prop := fnExactLineOfShiftRow.holds Try.pinned (OpenSpec.ofChange fnExactLineOfShiftSpec)

/-- ITS FALSE NEIGHBOUR: 'it returns false'. Refute it at one input. -/
def fnExactLineOfShiftWrong : ChangeSpec := { name := "fnExactLineOfShift", fn := fun _ => fun
  | [d1, d2] => { results := [.lit (.bool false)], args := [d1, d2] }
  | _ => none }
def FnExactLineOfShiftWrongFalsely : Prop := fnExactLineOfShiftRow.holds Try.pinned (OpenSpec.ofChange fnExactLineOfShiftWrong)

/-- 'laws.FnExactShiftOfLine': WHATEVER THE INPUT: true; the input reads as it did. -/
def fnExactShiftOfLineSpec : ChangeSpec := { name := "fnExactShiftOfLine", fn := fun _ => fun
  | [d1, d2] => { results := [.lit (.bool true)], args := [d1, d2] }
  | _ => none }
def fnExactShiftOfLineRow : OpenClaim := { program := "ytkhaiphipdpgeaa", sum := "d9e9f1ed4f713660553c91f7d51449aaa132b42c61b06f2b2b247517ada613ad", func := "loop.example/g01310/laws.FnExactShiftOfLine", spec := "fnExactShiftOfLine", unfollowed := true, recurses := true, apart := false }
def FnExactShiftOfLineSaid : Prop := fnExactShiftOfLineRow.holds Try.pinned (OpenSpec.ofChange fnExactShiftOfLineSpec)

/-- ITS FALSE NEIGHBOUR: 'it returns false'. Refute it at one input. -/
def fnExactShiftOfLineWrong : ChangeSpec := { name := "fnExactShiftOfLine", fn := fun _ => fun
  | [d1, d2] => { results := [.lit (.bool false)], args := [d1, d2] }
  | _ => none }
def FnExactShiftOfLineWrongFalsely : Prop := fnExactShiftOfLineRow.holds Try.pinned (OpenSpec.ofChange fnExactShiftOfLineWrong)

/- THE SECOND FORM. 'bulk': how many values and letters a reading holds, each counted each time it is reached (what is shared counts as often as it is met; a slice's spare places count too). A statement '..UptoSaid' is the law's where the arguments, and the package variables that the reading takes, are together of bulk at most 1048576: NARROWER than '..Said'. Prove '..Said' where nothing that the law and all that it calls make is longer than what came in: it says more and counts as full. Else prove '..UptoSaid'. A law counts once. -/
mutual
def uptoBulk {H : Type} : DataW H → Nat
  | .lit (.string bytes) => bytes.length + 1
  | .lit _ => 1
  | .nil => 1
  | .ptr d => uptoBulk d + 1
  | .slice elems spare => uptoBulkAll elems + uptoBulkAll spare + 1
  | .agg parts => uptoBulkAll parts + 1
  | .iface _ d => uptoBulk d + 1
  | .map entries => uptoBulkEntries entries + 1
  | .held _ => 1
def uptoBulkAll {H : Type} : List (DataW H) → Nat
  | [] => 0
  | d :: r => uptoBulk d + uptoBulkAll r
def uptoBulkEntries {H : Type} : List (Lit × DataW H) → Nat
  | [] => 0
  | x :: r => uptoBulkEntry x + uptoBulkEntries r
def uptoBulkEntry {H : Type} : Lit × DataW H → Nat
  | (.string bytes, d) => bytes.length + uptoBulk d + 1
  | (_, d) => uptoBulk d + 1
 end
def uptoSmall : (H : Type) → List (DataW H) → Bool := fun _ ds => decide (uptoBulkAll ds ≤ 1048576)
def OpenSpec.upto (s : _root_.Go.ChangeSpec) : _root_.Go.OpenSpec := { _root_.Go.OpenSpec.ofChange s with cond := some uptoSmall }

/-- 'laws.FnExactTranslateSet', WHERE WHAT IT READS IS OF BULK AT MOST 1048576: true; the input reads as it did. -/
def fnExactTranslateSetUptoRow : OpenClaim := { program := "ytkhaiphipdpgeaa", sum := "d9e9f1ed4f713660553c91f7d51449aaa132b42c61b06f2b2b247517ada613ad", func := "loop.example/g01310/laws.FnExactTranslateSet", spec := "fnExactTranslateSet", recurses := true, apart := false, narrowed := true }
def FnExactTranslateSetUptoSaid : Prop := fnExactTranslateSetUptoRow.holds Try.pinned (OpenSpec.upto fnExactTranslateSetSpec)

/-- 'laws.FnExactTranslateOf', WHERE WHAT IT READS IS OF BULK AT MOST 1048576: true; the input reads as it did. -/
def fnExactTranslateOfUptoRow : OpenClaim := { program := "ytkhaiphipdpgeaa", sum := "d9e9f1ed4f713660553c91f7d51449aaa132b42c61b06f2b2b247517ada613ad", func := "loop.example/g01310/laws.FnExactTranslateOf", spec := "fnExactTranslateOf", recurses := true, apart := false, narrowed := true }
def FnExactTranslateOfUptoSaid : Prop := fnExactTranslateOfUptoRow.holds Try.pinned (OpenSpec.upto fnExactTranslateOfSpec)

/-- 'laws.FnExactMultipliersOf', WHERE WHAT IT READS IS OF BULK AT MOST 1048576: true; the input reads as it did. -/
def fnExactMultipliersOfUptoRow : OpenClaim := { program := "ytkhaiphipdpgeaa", sum := "d9e9f1ed4f713660553c91f7d51449aaa132b42c61b06f2b2b247517ada613ad", func := "loop.example/g01310/laws.FnExactMultipliersOf", spec := "fnExactMultipliersOf", recurses := true, apart := false, narrowed := true }
def FnExactMultipliersOfUptoSaid : Prop := fnExactMultipliersOfUptoRow.holds Try.pinned (OpenSpec.upto fnExactMultipliersOfSpec)

/-- 'laws.FnExactLineOfShift', WHERE WHAT IT READS IS OF BULK AT MOST 1048576: true; the input reads as it did. -/
def fnExactLineOfShiftUptoRow : OpenClaim := { program := "ytkhaiphipdpgeaa", sum := "d9e9f1ed4f713660553c91f7d51449aaa132b42c61b06f2b2b247517ada613ad", func := "loop.example/g01310/laws.FnExactLineOfShift", spec := "fnExactLineOfShift", recurses := true, apart := false, narrowed := true }
def FnExactLineOfShiftUptoSaid : Prop := fnExactLineOfShiftUptoRow.holds Try.pinned (OpenSpec.upto fnExactLineOfShiftSpec)

/-- 'laws.FnExactShiftOfLine', WHERE WHAT IT READS IS OF BULK AT MOST 1048576: true; the input reads as it did. -/
def fnExactShiftOfLineUptoRow : OpenClaim := { program := "ytkhaiphipdpgeaa", sum := "d9e9f1ed4f713660553c91f7d51449aaa132b42c61b06f2b2b247517ada613ad", func := "loop.example/g01310/laws.FnExactShiftOfLine", spec := "fnExactShiftOfLine", unfollowed := true, recurses := true, apart := false, narrowed := true }
def FnExactShiftOfLineUptoSaid : Prop := fnExactShiftOfLineUptoRow.holds Try.pinned (OpenSpec.upto fnExactShiftOfLineSpec)

end Rows
end Go.Proofs.Ytkhaiphipdpgeaa
