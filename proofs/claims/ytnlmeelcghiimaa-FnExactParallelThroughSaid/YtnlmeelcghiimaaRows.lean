/-
  No cell of these rows narrows 'for every input' (looked for: loops, veiled, ifaces, maps, wideKeys, modest, calm, conditions, laid).
  DERIVED. THE GIVEN ROWS OF THIS SEAT. 9 by the template 'for every input the law returns true; each argument reads behind the call as it read before'; 0 by the template 'total and deterministic' (their statements: YtnlmeelcghiimaaTotals.lean).
  GIVEN WITH THE SEED: the statements are not yours to turn. If you find one false, say at which input.
  Laid BY PROGRAM, IN A SANDBOX (cutbox-rows.mjs): the forced cells as the released guide's own fill.sh prints them over the translation 33a25d248a3f7bfe… (all of the seat's roots in one cut). By AI agents, Wed Nov 11 2026. No macro, syntax, notation, axiom, sorry.
-/
import Derived.Test.YtnlmeelcghiimaaChecked
import GoSem.Claim
import GoSem.ClaimJoined
import GoSem.ClaimMapViews
import Derived.JoinedTies
import Derived.KernelRfl
namespace Go.Proofs.Ytnlmeelcghiimaa
/- THE CELL 'sum', in the pinned program and in every row, IS THE sha256 OF THE DUMP (.gsa) THAT YtnlmeelcghiimaaProg.lean LOADS. Nothing in Lean hashes anything: it is a label: what it is worth is what the hold of that sum in a sandbox is worth. -/
noncomputable def Try.pinned : Pinned := { name := "ytnlmeelcghiimaa", sum := "33a25d248a3f7bfe124fb78dc6caff4dafecc04f47124c7cc4c5d96b96eedd88", checked := Try.checked }
namespace Rows
def none {H : Type} : Left H := { results := [], args := [] }

/-- 'laws.FnExactParallelThrough': WHATEVER THE INPUT: true; the input reads as it did. -/
def fnExactParallelThroughSpec : ChangeSpec := { name := "fnExactParallelThrough", fn := fun _ => fun
  | [d1, d2, d3] => { results := [.lit (.bool true)], args := [d1, d2, d3] }
  | _ => none }
def fnExactParallelThroughRow : OpenClaim := { program := "ytnlmeelcghiimaa", sum := "33a25d248a3f7bfe124fb78dc6caff4dafecc04f47124c7cc4c5d96b96eedd88", func := "loop.example/g01310/laws.FnExactParallelThrough", spec := "fnExactParallelThrough", unfollowed := true, recurses := true, apart := false }
def FnExactParallelThroughSaid : Prop := fnExactParallelThroughRow.holds Try.pinned (OpenSpec.ofChange fnExactParallelThroughSpec)

/-- ITS FALSE NEIGHBOUR: 'it returns false'. Refute it at one input. -/
def fnExactParallelThroughWrong : ChangeSpec := { name := "fnExactParallelThrough", fn := fun _ => fun
  | [d1, d2, d3] => { results := [.lit (.bool false)], args := [d1, d2, d3] }
  | _ => none }
def FnExactParallelThroughWrongFalsely : Prop := fnExactParallelThroughRow.holds Try.pinned (OpenSpec.ofChange fnExactParallelThroughWrong)

/-- 'laws.FnExactSingerMap': WHATEVER THE INPUT: true; the input reads as it did. -/
def fnExactSingerMapSpec : ChangeSpec := { name := "fnExactSingerMap", fn := fun _ => fun
  | [d] => { results := [.lit (.bool true)], args := [d] }
  | _ => none }
def fnExactSingerMapRow : OpenClaim := { program := "ytnlmeelcghiimaa", sum := "33a25d248a3f7bfe124fb78dc6caff4dafecc04f47124c7cc4c5d96b96eedd88", func := "loop.example/g01310/laws.FnExactSingerMap", spec := "fnExactSingerMap", apart := false }
def FnExactSingerMapSaid : Prop := fnExactSingerMapRow.holds Try.pinned (OpenSpec.ofChange fnExactSingerMapSpec)

/-- ITS FALSE NEIGHBOUR: 'it returns false'. Refute it at one input. -/
def fnExactSingerMapWrong : ChangeSpec := { name := "fnExactSingerMap", fn := fun _ => fun
  | [d] => { results := [.lit (.bool false)], args := [d] }
  | _ => none }
def FnExactSingerMapWrongFalsely : Prop := fnExactSingerMapRow.holds Try.pinned (OpenSpec.ofChange fnExactSingerMapWrong)

/-- 'laws.FnExactSingerOrder': WHATEVER THE INPUT: true; the input reads as it did. -/
def fnExactSingerOrderSpec : ChangeSpec := { name := "fnExactSingerOrder", fn := fun _ => fun
  | [d] => { results := [.lit (.bool true)], args := [d] }
  | _ => none }
def fnExactSingerOrderRow : OpenClaim := { program := "ytnlmeelcghiimaa", sum := "33a25d248a3f7bfe124fb78dc6caff4dafecc04f47124c7cc4c5d96b96eedd88", func := "loop.example/g01310/laws.FnExactSingerOrder", spec := "fnExactSingerOrder", apart := false }
def FnExactSingerOrderSaid : Prop := fnExactSingerOrderRow.holds Try.pinned (OpenSpec.ofChange fnExactSingerOrderSpec)

/-- ITS FALSE NEIGHBOUR: 'it returns false'. Refute it at one input. -/
def fnExactSingerOrderWrong : ChangeSpec := { name := "fnExactSingerOrder", fn := fun _ => fun
  | [d] => { results := [.lit (.bool false)], args := [d] }
  | _ => none }
def FnExactSingerOrderWrongFalsely : Prop := fnExactSingerOrderRow.holds Try.pinned (OpenSpec.ofChange fnExactSingerOrderWrong)

/-- 'laws.FnExactDifferenceSetOf': WHATEVER THE INPUT: true; the input reads as it did. -/
def fnExactDifferenceSetOfSpec : ChangeSpec := { name := "fnExactDifferenceSetOf", fn := fun _ => fun
  | [d] => { results := [.lit (.bool true)], args := [d] }
  | _ => none }
def fnExactDifferenceSetOfRow : OpenClaim := { program := "ytnlmeelcghiimaa", sum := "33a25d248a3f7bfe124fb78dc6caff4dafecc04f47124c7cc4c5d96b96eedd88", func := "loop.example/g01310/laws.FnExactDifferenceSetOf", spec := "fnExactDifferenceSetOf", apart := false }
def FnExactDifferenceSetOfSaid : Prop := fnExactDifferenceSetOfRow.holds Try.pinned (OpenSpec.ofChange fnExactDifferenceSetOfSpec)

/-- ITS FALSE NEIGHBOUR: 'it returns false'. Refute it at one input. -/
def fnExactDifferenceSetOfWrong : ChangeSpec := { name := "fnExactDifferenceSetOf", fn := fun _ => fun
  | [d] => { results := [.lit (.bool false)], args := [d] }
  | _ => none }
def FnExactDifferenceSetOfWrongFalsely : Prop := fnExactDifferenceSetOfRow.holds Try.pinned (OpenSpec.ofChange fnExactDifferenceSetOfWrong)

/-- 'laws.FnExactQuadranglePoint': WHATEVER THE INPUT: true; the input reads as it did. -/
def fnExactQuadranglePointSpec : ChangeSpec := { name := "fnExactQuadranglePoint", fn := fun _ => fun
  | [d1, d2, d3, d4] => { results := [.lit (.bool true)], args := [d1, d2, d3, d4] }
  | _ => none }
def fnExactQuadranglePointRow : OpenClaim := { program := "ytnlmeelcghiimaa", sum := "33a25d248a3f7bfe124fb78dc6caff4dafecc04f47124c7cc4c5d96b96eedd88", func := "loop.example/g01310/laws.FnExactQuadranglePoint", spec := "fnExactQuadranglePoint", unfollowed := true, recurses := true, apart := false }
def FnExactQuadranglePointSaid : Prop := fnExactQuadranglePointRow.holds Try.pinned (OpenSpec.ofChange fnExactQuadranglePointSpec)

/-- ITS FALSE NEIGHBOUR: 'it returns false'. Refute it at one input. -/
def fnExactQuadranglePointWrong : ChangeSpec := { name := "fnExactQuadranglePoint", fn := fun _ => fun
  | [d1, d2, d3, d4] => { results := [.lit (.bool false)], args := [d1, d2, d3, d4] }
  | _ => none }
def FnExactQuadranglePointWrongFalsely : Prop := fnExactQuadranglePointRow.holds Try.pinned (OpenSpec.ofChange fnExactQuadranglePointWrong)

/-- 'laws.FnExactDiagonalPoints': WHATEVER THE INPUT: true; the input reads as it did. -/
def fnExactDiagonalPointsSpec : ChangeSpec := { name := "fnExactDiagonalPoints", fn := fun _ => fun
  | [d1, d2] => { results := [.lit (.bool true)], args := [d1, d2] }
  | _ => none }
def fnExactDiagonalPointsRow : OpenClaim := { program := "ytnlmeelcghiimaa", sum := "33a25d248a3f7bfe124fb78dc6caff4dafecc04f47124c7cc4c5d96b96eedd88", func := "loop.example/g01310/laws.FnExactDiagonalPoints", spec := "fnExactDiagonalPoints", unfollowed := true, recurses := true, apart := false }
def FnExactDiagonalPointsSaid : Prop := fnExactDiagonalPointsRow.holds Try.pinned (OpenSpec.ofChange fnExactDiagonalPointsSpec)

/-- ITS FALSE NEIGHBOUR: 'it returns false'. Refute it at one input. -/
def fnExactDiagonalPointsWrong : ChangeSpec := { name := "fnExactDiagonalPoints", fn := fun _ => fun
  | [d1, d2] => { results := [.lit (.bool false)], args := [d1, d2] }
  | _ => none }
def FnExactDiagonalPointsWrongFalsely : Prop := fnExactDiagonalPointsRow.holds Try.pinned (OpenSpec.ofChange fnExactDiagonalPointsWrong)

/-- 'laws.FnExactIsFigure': WHATEVER THE INPUT: true; the input reads as it did. -/
def fnExactIsFigureSpec : ChangeSpec := { name := "fnExactIsFigure", fn := fun _ => fun
  | [d1, d2] => { results := [.lit (.bool true)], args := [d1, d2] }
  | _ => none }
def fnExactIsFigureRow : OpenClaim := { program := "ytnlmeelcghiimaa", sum := "33a25d248a3f7bfe124fb78dc6caff4dafecc04f47124c7cc4c5d96b96eedd88", func := "loop.example/g01310/laws.FnExactIsFigure", spec := "fnExactIsFigure", unfollowed := true, recurses := true, apart := false }
def FnExactIsFigureSaid : Prop := fnExactIsFigureRow.holds Try.pinned (OpenSpec.ofChange fnExactIsFigureSpec)

/-- ITS FALSE NEIGHBOUR: 'it returns false'. Refute it at one input. -/
def fnExactIsFigureWrong : ChangeSpec := { name := "fnExactIsFigure", fn := fun _ => fun
  | [d1, d2] => { results := [.lit (.bool false)], args := [d1, d2] }
  | _ => none }
def FnExactIsFigureWrongFalsely : Prop := fnExactIsFigureRow.holds Try.pinned (OpenSpec.ofChange fnExactIsFigureWrong)

/-- 'laws.FnExactPappusLine': WHATEVER THE INPUT: true; the input reads as it did. -/
def fnExactPappusLineSpec : ChangeSpec := { name := "fnExactPappusLine", fn := fun _ => fun
  | [d1, d2, d3] => { results := [.lit (.bool true)], args := [d1, d2, d3] }
  | _ => none }
def fnExactPappusLineRow : OpenClaim := { program := "ytnlmeelcghiimaa", sum := "33a25d248a3f7bfe124fb78dc6caff4dafecc04f47124c7cc4c5d96b96eedd88", func := "loop.example/g01310/laws.FnExactPappusLine", spec := "fnExactPappusLine", unfollowed := true, recurses := true, apart := false }
def FnExactPappusLineSaid : Prop := fnExactPappusLineRow.holds Try.pinned (OpenSpec.ofChange fnExactPappusLineSpec)

/-- ITS FALSE NEIGHBOUR: 'it returns false'. Refute it at one input. -/
def fnExactPappusLineWrong : ChangeSpec := { name := "fnExactPappusLine", fn := fun _ => fun
  | [d1, d2, d3] => { results := [.lit (.bool false)], args := [d1, d2, d3] }
  | _ => none }
def FnExactPappusLineWrongFalsely : Prop := fnExactPappusLineRow.holds Try.pinned (OpenSpec.ofChange fnExactPappusLineWrong)

/-- 'laws.FnExactDesarguesLine': WHATEVER THE INPUT: true; the input reads as it did. -/
def fnExactDesarguesLineSpec : ChangeSpec := { name := "fnExactDesarguesLine", fn := fun _ => fun
  | [d1, d2, d3] => { results := [.lit (.bool true)], args := [d1, d2, d3] }
  | _ => none }
def fnExactDesarguesLineRow : OpenClaim := { program := "ytnlmeelcghiimaa", sum := "33a25d248a3f7bfe124fb78dc6caff4dafecc04f47124c7cc4c5d96b96eedd88", func := "loop.example/g01310/laws.FnExactDesarguesLine", spec := "fnExactDesarguesLine", unfollowed := true, recurses := true, apart := false }
def FnExactDesarguesLineSaid : Prop := fnExactDesarguesLineRow.holds Try.pinned (OpenSpec.ofChange fnExactDesarguesLineSpec)

/-- ITS FALSE NEIGHBOUR: 'it returns false'. Refute it at one input. -/
def fnExactDesarguesLineWrong : ChangeSpec := { name := "fnExactDesarguesLine", fn := fun _ => fun
  | [d1, d2, d3] => { results := [.lit (.bool false)], args := [d1, d2, d3] }
  | _ => none }
def FnExactDesarguesLineWrongFalsely : Prop := fnExactDesarguesLineRow.holds Try.pinned (OpenSpec.ofChange fnExactDesarguesLineWrong)

/- THE SECOND FORM. 'bulk': how many values and letters a reading holds, each counted each time it is reached (what is shared counts as often as it is met; a slice's spare places count too). A statement '..UptoSaid' is the law's where the arguments, and the package variables that the reading takes, are together of bulk at most 1048576: NARROWER than '..Said'. Prove '..Said' where nothing that the law and all that it calls make is longer than what came in: it says more and counts as full. Else prove '..UptoSaid'. A law counts once. -/
mutual
def uptoBulk {H : Type} : DataW H → Nat
  | .lit (.string bytes) => bytes.length + 1
  | .lit _ => 1
  | .nil => 1
  | .ptr d => uptoBulk d + 1
  | .slice elems spare => uptoBulkAll elems + uptoBulkAll spare + 1
  | .agg parts => uptoBulkAll parts + 1
  | .iface _ d => uptoBulk d + 1
  | .map entries => uptoBulkEntries entries + 1
  | .held _ => 1
def uptoBulkAll {H : Type} : List (DataW H) → Nat
  | [] => 0
  | d :: r => uptoBulk d + uptoBulkAll r
def uptoBulkEntries {H : Type} : List (Lit × DataW H) → Nat
  | [] => 0
  | x :: r => uptoBulkEntry x + uptoBulkEntries r
def uptoBulkEntry {H : Type} : Lit × DataW H → Nat
  | (.string bytes, d) => bytes.length + uptoBulk d + 1
  | (_, d) => uptoBulk d + 1
 end
def uptoSmall : (H : Type) → List (DataW H) → Bool := fun _ ds => decide (uptoBulkAll ds ≤ 1048576)
def OpenSpec.upto (s : _root_.Go.ChangeSpec) : _root_.Go.OpenSpec := { _root_.Go.OpenSpec.ofChange s with cond := some uptoSmall }

/-- 'laws.FnExactParallelThrough', WHERE WHAT IT READS IS OF BULK AT MOST 1048576: true; the input reads as it did. -/
def fnExactParallelThroughUptoRow : OpenClaim := { program := "ytnlmeelcghiimaa", sum := "33a25d248a3f7bfe124fb78dc6caff4dafecc04f47124c7cc4c5d96b96eedd88", func := "loop.example/g01310/laws.FnExactParallelThrough", spec := "fnExactParallelThrough", unfollowed := true, recurses := true, apart := false, narrowed := true }
def FnExactParallelThroughUptoSaid : Prop := fnExactParallelThroughUptoRow.holds Try.pinned (OpenSpec.upto fnExactParallelThroughSpec)

/-- 'laws.FnExactSingerMap', WHERE WHAT IT READS IS OF BULK AT MOST 1048576: true; the input reads as it did. -/
def fnExactSingerMapUptoRow : OpenClaim := { program := "ytnlmeelcghiimaa", sum := "33a25d248a3f7bfe124fb78dc6caff4dafecc04f47124c7cc4c5d96b96eedd88", func := "loop.example/g01310/laws.FnExactSingerMap", spec := "fnExactSingerMap", apart := false, narrowed := true }
def FnExactSingerMapUptoSaid : Prop := fnExactSingerMapUptoRow.holds Try.pinned (OpenSpec.upto fnExactSingerMapSpec)

/-- 'laws.FnExactSingerOrder', WHERE WHAT IT READS IS OF BULK AT MOST 1048576: true; the input reads as it did. -/
def fnExactSingerOrderUptoRow : OpenClaim := { program := "ytnlmeelcghiimaa", sum := "33a25d248a3f7bfe124fb78dc6caff4dafecc04f47124c7cc4c5d96b96eedd88", func := "loop.example/g01310/laws.FnExactSingerOrder", spec := "fnExactSingerOrder", apart := false, narrowed := true }
def FnExactSingerOrderUptoSaid : Prop := fnExactSingerOrderUptoRow.holds Try.pinned (OpenSpec.upto fnExactSingerOrderSpec)

/-- 'laws.FnExactDifferenceSetOf', WHERE WHAT IT READS IS OF BULK AT MOST 1048576: true; the input reads as it did. -/
def fnExactDifferenceSetOfUptoRow : OpenClaim := { program := "ytnlmeelcghiimaa", sum := "33a25d248a3f7bfe124fb78dc6caff4dafecc04f47124c7cc4c5d96b96eedd88", func := "loop.example/g01310/laws.FnExactDifferenceSetOf", spec := "fnExactDifferenceSetOf", apart := false, narrowed := true }
def FnExactDifferenceSetOfUptoSaid : Prop := fnExactDifferenceSetOfUptoRow.holds Try.pinned (OpenSpec.upto fnExactDifferenceSetOfSpec)

/-- 'laws.FnExactQuadranglePoint', WHERE WHAT IT READS IS OF BULK AT MOST 1048576: true; the input reads as it did. -/
def fnExactQuadranglePointUptoRow : OpenClaim := { program := "ytnlmeelcghiimaa", sum := "33a25d248a3f7bfe124fb78dc6caff4dafecc04f47124c7cc4c5d96b96eedd88", func := "loop.example/g01310/laws.FnExactQuadranglePoint", spec := "fnExactQuadranglePoint", unfollowed := true, recurses := true, apart := false, narrowed := true }
def FnExactQuadranglePointUptoSaid : Prop := fnExactQuadranglePointUptoRow.holds Try.pinned (OpenSpec.upto fnExactQuadranglePointSpec)

/-- 'laws.FnExactDiagonalPoints', WHERE WHAT IT READS IS OF BULK AT MOST 1048576: true; the input reads as it did. -/
def fnExactDiagonalPointsUptoRow : OpenClaim := { program := "ytnlmeelcghiimaa", sum := "33a25d248a3f7bfe124fb78dc6caff4dafecc04f47124c7cc4c5d96b96eedd88", func := "loop.example/g01310/laws.FnExactDiagonalPoints", spec := "fnExactDiagonalPoints", unfollowed := true, recurses := true, apart := false, narrowed := true }
def FnExactDiagonalPointsUptoSaid : Prop := fnExactDiagonalPointsUptoRow.holds Try.pinned (OpenSpec.upto fnExactDiagonalPointsSpec)

/-- 'laws.FnExactIsFigure', WHERE WHAT IT READS IS OF BULK AT MOST 1048576: true; the input reads as it did. -/
def fnExactIsFigureUptoRow : OpenClaim := { program := "ytnlmeelcghiimaa", sum := "33a25d248a3f7bfe124fb78dc6caff4dafecc04f47124c7cc4c5d96b96eedd88", func := "loop.example/g01310/laws.FnExactIsFigure", spec := "fnExactIsFigure", unfollowed := true, recurses := true, apart := false, narrowed := true }
def FnExactIsFigureUptoSaid : Prop := fnExactIsFigureUptoRow.holds Try.pinned (OpenSpec.upto fnExactIsFigureSpec)

/-- 'laws.FnExactPappusLine', WHERE WHAT IT READS IS OF BULK AT MOST 1048576: true; the input reads as it did. -/
def fnExactPappusLineUptoRow : OpenClaim := { program := "ytnlmeelcghiimaa", sum := "33a25d248a3f7bfe124fb78dc6caff4dafecc04f47124c7cc4c5d96b96eedd88", func := "loop.example/g01310/laws.FnExactPappusLine", spec := "fnExactPappusLine", unfollowed := true, recurses := true, apart := false, narrowed := true }
def FnExactPappusLineUptoSaid : Prop := fnExactPappusLineUptoRow.holds Try.pinned (OpenSpec.upto fnExactPappusLineSpec)

/-- 'laws.FnExactDesarguesLine', WHERE WHAT IT READS IS OF BULK AT MOST 1048576: true; the input reads as it did. -/
def fnExactDesarguesLineUptoRow : OpenClaim := { program := "ytnlmeelcghiimaa", sum := "33a25d248a3f7bfe124fb78dc6caff4dafecc04f47124c7cc4c5d96b96eedd88", func := "loop.example/g01310/laws.FnExactDesarguesLine", spec := "fnExactDesarguesLine", unfollowed := true, recurses := true, apart := false, narrowed := true }
def FnExactDesarguesLineUptoSaid : Prop := fnExactDesarguesLineUptoRow.holds Try.pinned (OpenSpec.upto fnExactDesarguesLineSpec)

end Rows
end Go.Proofs.Ytnlmeelcghiimaa
