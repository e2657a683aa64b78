/-
  No cell of these rows narrows 'for every input' (looked for: loops, veiled, ifaces, maps, wideKeys, modest, calm, conditions, laid).
  DERIVED. THE GIVEN ROWS OF THIS SEAT. 12 by the template 'for every input the law returns true; each argument reads behind the call as it read before'; 0 by the template 'total and deterministic' (their statements: YthkbhaaodegocaaTotals.lean).
  GIVEN WITH THE SEED: the statements are not yours to turn. If you find one false, say at which input.
  Laid BY PROGRAM, IN A SANDBOX (cutbox-rows.mjs): the forced cells as the released guide's own fill.sh prints them over the translation e87cfc1c26af2e07… (all of the seat's roots in one cut). By AI agents, Wed Nov 11 2026. No macro, syntax, notation, axiom, sorry.
-/
import Derived.Test.YthkbhaaodegocaaChecked
import GoSem.Claim
import GoSem.ClaimJoined
import GoSem.ClaimMapViews
import Derived.JoinedTies
import Derived.KernelRfl
namespace Go.Proofs.Ythkbhaaodegocaa
/- THE CELL 'sum', in the pinned program and in every row, IS THE sha256 OF THE DUMP (.gsa) THAT YthkbhaaodegocaaProg.lean LOADS. Nothing in Lean hashes anything: it is a label: what it is worth is what the hold of that sum in a sandbox is worth. -/
noncomputable def Try.pinned : Pinned := { name := "ythkbhaaodegocaa", sum := "e87cfc1c26af2e075d645583edf3a77f852c26e040459d68efdd433f89044faa", checked := Try.checked }
namespace Rows
def none {H : Type} : Left H := { results := [], args := [] }

/-- 'laws.FnExactNewDesk': WHATEVER THE INPUT: true; the input reads as it did. -/
def fnExactNewDeskSpec : ChangeSpec := { name := "fnExactNewDesk", fn := fun _ => fun
  | [] => { results := [.lit (.bool true)], args := [] }
  | _ => none }
def fnExactNewDeskRow : OpenClaim := { program := "ythkbhaaodegocaa", sum := "e87cfc1c26af2e075d645583edf3a77f852c26e040459d68efdd433f89044faa", func := "loop.example/g01310/laws.FnExactNewDesk", spec := "fnExactNewDesk", apart := false }
def FnExactNewDeskSaid : Prop := fnExactNewDeskRow.holds Try.pinned (OpenSpec.ofChange fnExactNewDeskSpec)

/-- ITS FALSE NEIGHBOUR: 'it returns false'. Refute it at one input. -/
def fnExactNewDeskWrong : ChangeSpec := { name := "fnExactNewDesk", fn := fun _ => fun
  | [] => { results := [.lit (.bool false)], args := [] }
  | _ => none }
def FnExactNewDeskWrongFalsely : Prop := fnExactNewDeskRow.holds Try.pinned (OpenSpec.ofChange fnExactNewDeskWrong)

/-- 'laws.FnExactIsDifferenceSet': WHATEVER THE INPUT: true; the input reads as it did. -/
def fnExactIsDifferenceSetSpec : ChangeSpec := { name := "fnExactIsDifferenceSet", fn := fun _ => fun
  | [d1, d2] => { results := [.lit (.bool true)], args := [d1, d2] }
  | _ => none }
def fnExactIsDifferenceSetRow : OpenClaim := { program := "ythkbhaaodegocaa", sum := "e87cfc1c26af2e075d645583edf3a77f852c26e040459d68efdd433f89044faa", func := "loop.example/g01310/laws.FnExactIsDifferenceSet", spec := "fnExactIsDifferenceSet", unfollowed := true, recurses := true, apart := false }
def FnExactIsDifferenceSetSaid : Prop := fnExactIsDifferenceSetRow.holds Try.pinned (OpenSpec.ofChange fnExactIsDifferenceSetSpec)

/-- ITS FALSE NEIGHBOUR: 'it returns false'. Refute it at one input. -/
def fnExactIsDifferenceSetWrong : ChangeSpec := { name := "fnExactIsDifferenceSet", fn := fun _ => fun
  | [d1, d2] => { results := [.lit (.bool false)], args := [d1, d2] }
  | _ => none }
def FnExactIsDifferenceSetWrongFalsely : Prop := fnExactIsDifferenceSetRow.holds Try.pinned (OpenSpec.ofChange fnExactIsDifferenceSetWrong)

/-- 'laws.FnExactIncidenceRank': WHATEVER THE INPUT: true; the input reads as it did. -/
def fnExactIncidenceRankSpec : ChangeSpec := { name := "fnExactIncidenceRank", fn := fun _ => fun
  | [d1, d2] => { results := [.lit (.bool true)], args := [d1, d2] }
  | _ => none }
def fnExactIncidenceRankRow : OpenClaim := { program := "ythkbhaaodegocaa", sum := "e87cfc1c26af2e075d645583edf3a77f852c26e040459d68efdd433f89044faa", func := "loop.example/g01310/laws.FnExactIncidenceRank", spec := "fnExactIncidenceRank", apart := false }
def FnExactIncidenceRankSaid : Prop := fnExactIncidenceRankRow.holds Try.pinned (OpenSpec.ofChange fnExactIncidenceRankSpec)

/-- ITS FALSE NEIGHBOUR: 'it returns false'. Refute it at one input. -/
def fnExactIncidenceRankWrong : ChangeSpec := { name := "fnExactIncidenceRank", fn := fun _ => fun
  | [d1, d2] => { results := [.lit (.bool false)], args := [d1, d2] }
  | _ => none }
def FnExactIncidenceRankWrongFalsely : Prop := fnExactIncidenceRankRow.holds Try.pinned (OpenSpec.ofChange fnExactIncidenceRankWrong)

/-- 'laws.FnExactIsDesk': WHATEVER THE INPUT: true; the input reads as it did. -/
def fnExactIsDeskSpec : ChangeSpec := { name := "fnExactIsDesk", fn := fun _ => fun
  | [d] => { results := [.lit (.bool true)], args := [d] }
  | _ => none }
def fnExactIsDeskRow : OpenClaim := { program := "ythkbhaaodegocaa", sum := "e87cfc1c26af2e075d645583edf3a77f852c26e040459d68efdd433f89044faa", func := "loop.example/g01310/laws.FnExactIsDesk", spec := "fnExactIsDesk", apart := false }
def FnExactIsDeskSaid : Prop := fnExactIsDeskRow.holds Try.pinned (OpenSpec.ofChange fnExactIsDeskSpec)

/-- ITS FALSE NEIGHBOUR: 'it returns false'. Refute it at one input. -/
def fnExactIsDeskWrong : ChangeSpec := { name := "fnExactIsDesk", fn := fun _ => fun
  | [d] => { results := [.lit (.bool false)], args := [d] }
  | _ => none }
def FnExactIsDeskWrongFalsely : Prop := fnExactIsDeskRow.holds Try.pinned (OpenSpec.ofChange fnExactIsDeskWrong)

/-- 'laws.FnExactSingerMap': WHATEVER THE INPUT: true; the input reads as it did. -/
def fnExactSingerMapSpec : ChangeSpec := { name := "fnExactSingerMap", fn := fun _ => fun
  | [d] => { results := [.lit (.bool true)], args := [d] }
  | _ => none }
def fnExactSingerMapRow : OpenClaim := { program := "ythkbhaaodegocaa", sum := "e87cfc1c26af2e075d645583edf3a77f852c26e040459d68efdd433f89044faa", func := "loop.example/g01310/laws.FnExactSingerMap", spec := "fnExactSingerMap", apart := false }
def FnExactSingerMapSaid : Prop := fnExactSingerMapRow.holds Try.pinned (OpenSpec.ofChange fnExactSingerMapSpec)

/-- ITS FALSE NEIGHBOUR: 'it returns false'. Refute it at one input. -/
def fnExactSingerMapWrong : ChangeSpec := { name := "fnExactSingerMap", fn := fun _ => fun
  | [d] => { results := [.lit (.bool false)], args := [d] }
  | _ => none }
def FnExactSingerMapWrongFalsely : Prop := fnExactSingerMapRow.holds Try.pinned (OpenSpec.ofChange fnExactSingerMapWrong)

/-- 'laws.FnExactSingerOrder': WHATEVER THE INPUT: true; the input reads as it did. -/
def fnExactSingerOrderSpec : ChangeSpec := { name := "fnExactSingerOrder", fn := fun _ => fun
  | [d] => { results := [.lit (.bool true)], args := [d] }
  | _ => none }
def fnExactSingerOrderRow : OpenClaim := { program := "ythkbhaaodegocaa", sum := "e87cfc1c26af2e075d645583edf3a77f852c26e040459d68efdd433f89044faa", func := "loop.example/g01310/laws.FnExactSingerOrder", spec := "fnExactSingerOrder", apart := false }
def FnExactSingerOrderSaid : Prop := fnExactSingerOrderRow.holds Try.pinned (OpenSpec.ofChange fnExactSingerOrderSpec)

/-- ITS FALSE NEIGHBOUR: 'it returns false'. Refute it at one input. -/
def fnExactSingerOrderWrong : ChangeSpec := { name := "fnExactSingerOrder", fn := fun _ => fun
  | [d] => { results := [.lit (.bool false)], args := [d] }
  | _ => none }
def FnExactSingerOrderWrongFalsely : Prop := fnExactSingerOrderRow.holds Try.pinned (OpenSpec.ofChange fnExactSingerOrderWrong)

/-- 'laws.FnExactDifferenceSetOf': WHATEVER THE INPUT: true; the input reads as it did. -/
def fnExactDifferenceSetOfSpec : ChangeSpec := { name := "fnExactDifferenceSetOf", fn := fun _ => fun
  | [d] => { results := [.lit (.bool true)], args := [d] }
  | _ => none }
def fnExactDifferenceSetOfRow : OpenClaim := { program := "ythkbhaaodegocaa", sum := "e87cfc1c26af2e075d645583edf3a77f852c26e040459d68efdd433f89044faa", func := "loop.example/g01310/laws.FnExactDifferenceSetOf", spec := "fnExactDifferenceSetOf", apart := false }
def FnExactDifferenceSetOfSaid : Prop := fnExactDifferenceSetOfRow.holds Try.pinned (OpenSpec.ofChange fnExactDifferenceSetOfSpec)

/-- ITS FALSE NEIGHBOUR: 'it returns false'. Refute it at one input. -/
def fnExactDifferenceSetOfWrong : ChangeSpec := { name := "fnExactDifferenceSetOf", fn := fun _ => fun
  | [d] => { results := [.lit (.bool false)], args := [d] }
  | _ => none }
def FnExactDifferenceSetOfWrongFalsely : Prop := fnExactDifferenceSetOfRow.holds Try.pinned (OpenSpec.ofChange fnExactDifferenceSetOfWrong)

/-- 'laws.FnExactQuadranglePoint': WHATEVER THE INPUT: true; the input reads as it did. -/
def fnExactQuadranglePointSpec : ChangeSpec := { name := "fnExactQuadranglePoint", fn := fun _ => fun
  | [d1, d2, d3, d4] => { results := [.lit (.bool true)], args := [d1, d2, d3, d4] }
  | _ => none }
def fnExactQuadranglePointRow : OpenClaim := { program := "ythkbhaaodegocaa", sum := "e87cfc1c26af2e075d645583edf3a77f852c26e040459d68efdd433f89044faa", func := "loop.example/g01310/laws.FnExactQuadranglePoint", spec := "fnExactQuadranglePoint", unfollowed := true, recurses := true, apart := false }
def FnExactQuadranglePointSaid : Prop := fnExactQuadranglePointRow.holds Try.pinned (OpenSpec.ofChange fnExactQuadranglePointSpec)

/-- ITS FALSE NEIGHBOUR: 'it returns false'. Refute it at one input. -/
def fnExactQuadranglePointWrong : ChangeSpec := { name := "fnExactQuadranglePoint", fn := fun _ => fun
  | [d1, d2, d3, d4] => { results := [.lit (.bool false)], args := [d1, d2, d3, d4] }
  | _ => none }
def FnExactQuadranglePointWrongFalsely : Prop := fnExactQuadranglePointRow.holds Try.pinned (OpenSpec.ofChange fnExactQuadranglePointWrong)

/-- 'laws.FnExactDiagonalPoints': WHATEVER THE INPUT: true; the input reads as it did. -/
def fnExactDiagonalPointsSpec : ChangeSpec := { name := "fnExactDiagonalPoints", fn := fun _ => fun
  | [d1, d2] => { results := [.lit (.bool true)], args := [d1, d2] }
  | _ => none }
def fnExactDiagonalPointsRow : OpenClaim := { program := "ythkbhaaodegocaa", sum := "e87cfc1c26af2e075d645583edf3a77f852c26e040459d68efdd433f89044faa", func := "loop.example/g01310/laws.FnExactDiagonalPoints", spec := "fnExactDiagonalPoints", unfollowed := true, recurses := true, apart := false }
def FnExactDiagonalPointsSaid : Prop := fnExactDiagonalPointsRow.holds Try.pinned (OpenSpec.ofChange fnExactDiagonalPointsSpec)

/-- ITS FALSE NEIGHBOUR: 'it returns false'. Refute it at one input. -/
def fnExactDiagonalPointsWrong : ChangeSpec := { name := "fnExactDiagonalPoints", fn := fun _ => fun
  | [d1, d2] => { results := [.lit (.bool false)], args := [d1, d2] }
  | _ => none }
def FnExactDiagonalPointsWrongFalsely : Prop := fnExactDiagonalPointsRow.holds Try.pinned (OpenSpec.ofChange fnExactDiagonalPointsWrong)

/-- 'laws.FnExactIsFigure': WHATEVER THE INPUT: true; the input reads as it did. -/
def fnExactIsFigureSpec : ChangeSpec := { name := "fnExactIsFigure", fn := fun _ => fun
  | [d1, d2] => { results := [.lit (.bool true)], args := [d1, d2] }
  | _ => none }
def fnExactIsFigureRow : OpenClaim := { program := "ythkbhaaodegocaa", sum := "e87cfc1c26af2e075d645583edf3a77f852c26e040459d68efdd433f89044faa", func := "loop.example/g01310/laws.FnExactIsFigure", spec := "fnExactIsFigure", unfollowed := true, recurses := true, apart := false }
def FnExactIsFigureSaid : Prop := fnExactIsFigureRow.holds Try.pinned (OpenSpec.ofChange fnExactIsFigureSpec)

/-- ITS FALSE NEIGHBOUR: 'it returns false'. Refute it at one input. -/
def fnExactIsFigureWrong : ChangeSpec := { name := "fnExactIsFigure", fn := fun _ => fun
  | [d1, d2] => { results := [.lit (.bool false)], args := [d1, d2] }
  | _ => none }
def FnExactIsFigureWrongFalsely : Prop := fnExactIsFigureRow.holds Try.pinned (OpenSpec.ofChange fnExactIsFigureWrong)

/-- 'laws.FnExactPappusLine': WHATEVER THE INPUT: true; the input reads as it did. -/
def fnExactPappusLineSpec : ChangeSpec := { name := "fnExactPappusLine", fn := fun _ => fun
  | [d1, d2, d3] => { results := [.lit (.bool true)], args := [d1, d2, d3] }
  | _ => none }
def fnExactPappusLineRow : OpenClaim := { program := "ythkbhaaodegocaa", sum := "e87cfc1c26af2e075d645583edf3a77f852c26e040459d68efdd433f89044faa", func := "loop.example/g01310/laws.FnExactPappusLine", spec := "fnExactPappusLine", unfollowed := true, recurses := true, apart := false }
def FnExactPappusLineSaid : Prop := fnExactPappusLineRow.holds Try.pinned (OpenSpec.ofChange fnExactPappusLineSpec)

/-- ITS FALSE NEIGHBOUR: 'it returns false'. Refute it at one input. -/
def fnExactPappusLineWrong : ChangeSpec := { name := "fnExactPappusLine", fn := fun _ => fun
  | [d1, d2, d3] => { results := [.lit (.bool false)], args := [d1, d2, d3] }
  | _ => none }
def FnExactPappusLineWrongFalsely : Prop := fnExactPappusLineRow.holds Try.pinned (OpenSpec.ofChange fnExactPappusLineWrong)

/-- 'laws.FnExactDesarguesLine': WHATEVER THE INPUT: true; the input reads as it did. -/
def fnExactDesarguesLineSpec : ChangeSpec := { name := "fnExactDesarguesLine", fn := fun _ => fun
  | [d1, d2, d3] => { results := [.lit (.bool true)], args := [d1, d2, d3] }
  | _ => none }
def fnExactDesarguesLineRow : OpenClaim := { program := "ythkbhaaodegocaa", sum := "e87cfc1c26af2e075d645583edf3a77f852c26e040459d68efdd433f89044faa", func := "loop.example/g01310/laws.FnExactDesarguesLine", spec := "fnExactDesarguesLine", unfollowed := true, recurses := true, apart := false }
def FnExactDesarguesLineSaid : Prop := fnExactDesarguesLineRow.holds Try.pinned (OpenSpec.ofChange fnExactDesarguesLineSpec)

/-- ITS FALSE NEIGHBOUR: 'it returns false'. Refute it at one input. -/
def fnExactDesarguesLineWrong : ChangeSpec := { name := "fnExactDesarguesLine", fn := fun _ => fun
  | [d1, d2, d3] => { results := [.lit (.bool false)], args := [d1, d2, d3] }
  | _ => none }
def FnExactDesarguesLineWrongFalsely : Prop := fnExactDesarguesLineRow.holds Try.pinned (OpenSpec.ofChange fnExactDesarguesLineWrong)

/- THE SECOND FORM. 'bulk': how many values and letters a reading holds, each counted each time it is reached (what is shared counts as often as it is met; a slice's spare places count too). A statement '..UptoSaid' is the law's where the arguments, and the package variables that the reading takes, are together of bulk at most 1048576: NARROWER than '..Said'. Prove '..Said' where nothing that the law and all that it calls make is longer than what came in: it says more and counts as full. Else prove '..UptoSaid'. A law counts once. -/
mutual
def uptoBulk {H : Type} : DataW H → Nat
  | .lit (.string bytes) => bytes.length + 1
  | .lit _ => 1
  | .nil => 1
  | .ptr d => uptoBulk d + 1
  | .slice elems spare => uptoBulkAll elems + uptoBulkAll spare + 1
  | .agg parts => uptoBulkAll parts + 1
  | .iface _ d => uptoBulk d + 1
  | .map entries => uptoBulkEntries entries + 1
  | .held _ => 1
def uptoBulkAll {H : Type} : List (DataW H) → Nat
  | [] => 0
  | d :: r => uptoBulk d + uptoBulkAll r
def uptoBulkEntries {H : Type} : List (Lit × DataW H) → Nat
  | [] => 0
  | x :: r => uptoBulkEntry x + uptoBulkEntries r
def uptoBulkEntry {H : Type} : Lit × DataW H → Nat
  | (.string bytes, d) => bytes.length + uptoBulk d + 1
  | (_, d) => uptoBulk d + 1
 end
def uptoSmall : (H : Type) → List (DataW H) → Bool := fun _ ds => decide (uptoBulkAll ds ≤ 1048576)
def OpenSpec.upto (s : _root_.Go.ChangeSpec) : _root_.Go.OpenSpec := { _root_.Go.OpenSpec.ofChange s with cond := some uptoSmall }

/-- 'laws.FnExactNewDesk', WHERE WHAT IT READS IS OF BULK AT MOST 1048576: true; the input reads as it did. -/
def fnExactNewDeskUptoRow : OpenClaim := { program := "ythkbhaaodegocaa", sum := "e87cfc1c26af2e075d645583edf3a77f852c26e040459d68efdd433f89044faa", func := "loop.example/g01310/laws.FnExactNewDesk", spec := "fnExactNewDesk", apart := false, narrowed := true }
def FnExactNewDeskUptoSaid : Prop := fnExactNewDeskUptoRow.holds Try.pinned (OpenSpec.upto fnExactNewDeskSpec)

/-- 'laws.FnExactIsDifferenceSet', WHERE WHAT IT READS IS OF BULK AT MOST 1048576: true; the input reads as it did. -/
def fnExactIsDifferenceSetUptoRow : OpenClaim := { program := "ythkbhaaodegocaa", sum := "e87cfc1c26af2e075d645583edf3a77f852c26e040459d68efdd433f89044faa", func := "loop.example/g01310/laws.FnExactIsDifferenceSet", spec := "fnExactIsDifferenceSet", unfollowed := true, recurses := true, apart := false, narrowed := true }
def FnExactIsDifferenceSetUptoSaid : Prop := fnExactIsDifferenceSetUptoRow.holds Try.pinned (OpenSpec.upto fnExactIsDifferenceSetSpec)

/-- 'laws.FnExactIncidenceRank', WHERE WHAT IT READS IS OF BULK AT MOST 1048576: true; the input reads as it did. -/
def fnExactIncidenceRankUptoRow : OpenClaim := { program := "ythkbhaaodegocaa", sum := "e87cfc1c26af2e075d645583edf3a77f852c26e040459d68efdd433f89044faa", func := "loop.example/g01310/laws.FnExactIncidenceRank", spec := "fnExactIncidenceRank", apart := false, narrowed := true }
def FnExactIncidenceRankUptoSaid : Prop := fnExactIncidenceRankUptoRow.holds Try.pinned (OpenSpec.upto fnExactIncidenceRankSpec)

/-- 'laws.FnExactIsDesk', WHERE WHAT IT READS IS OF BULK AT MOST 1048576: true; the input reads as it did. -/
def fnExactIsDeskUptoRow : OpenClaim := { program := "ythkbhaaodegocaa", sum := "e87cfc1c26af2e075d645583edf3a77f852c26e040459d68efdd433f89044faa", func := "loop.example/g01310/laws.FnExactIsDesk", spec := "fnExactIsDesk", apart := false, narrowed := true }
def FnExactIsDeskUptoSaid : Prop := fnExactIsDeskUptoRow.holds Try.pinned (OpenSpec.upto fnExactIsDeskSpec)

/-- 'laws.FnExactSingerMap', WHERE WHAT IT READS IS OF BULK AT MOST 1048576: true; the input reads as it did. -/
def fnExactSingerMapUptoRow : OpenClaim := { program := "ythkbhaaodegocaa", sum := "e87cfc1c26af2e075d645583edf3a77f852c26e040459d68efdd433f89044faa", func := "loop.example/g01310/laws.FnExactSingerMap", spec := "fnExactSingerMap", apart := false, narrowed := true }
def FnExactSingerMapUptoSaid : Prop := fnExactSingerMapUptoRow.holds Try.pinned (OpenSpec.upto fnExactSingerMapSpec)

/-- 'laws.FnExactSingerOrder', WHERE WHAT IT READS IS OF BULK AT MOST 1048576: true; the input reads as it did. -/
def fnExactSingerOrderUptoRow : OpenClaim := { program := "ythkbhaaodegocaa", sum := "e87cfc1c26af2e075d645583edf3a77f852c26e040459d68efdd433f89044faa", func := "loop.example/g01310/laws.FnExactSingerOrder", spec := "fnExactSingerOrder", apart := false, narrowed := true }
def FnExactSingerOrderUptoSaid : Prop := fnExactSingerOrderUptoRow.holds Try.pinned (OpenSpec.upto fnExactSingerOrderSpec)

/-- 'laws.FnExactDifferenceSetOf', WHERE WHAT IT READS IS OF BULK AT MOST 1048576: true; the input reads as it did. -/
def fnExactDifferenceSetOfUptoRow : OpenClaim := { program := "ythkbhaaodegocaa", sum := "e87cfc1c26af2e075d645583edf3a77f852c26e040459d68efdd433f89044faa", func := "loop.example/g01310/laws.FnExactDifferenceSetOf", spec := "fnExactDifferenceSetOf", apart := false, narrowed := true }
def FnExactDifferenceSetOfUptoSaid : Prop := fnExactDifferenceSetOfUptoRow.holds Try.pinned (OpenSpec.upto fnExactDifferenceSetOfSpec)

/-- 'laws.FnExactQuadranglePoint', WHERE WHAT IT READS IS OF BULK AT MOST 1048576: true; the input reads as it did. -/
def fnExactQuadranglePointUptoRow : OpenClaim := { program := "ythkbhaaodegocaa", sum := "e87cfc1c26af2e075d645583edf3a77f852c26e040459d68efdd433f89044faa", func := "loop.example/g01310/laws.FnExactQuadranglePoint", spec := "fnExactQuadranglePoint", unfollowed := true, recurses := true, apart := false, narrowed := true }
def FnExactQuadranglePointUptoSaid : Prop := fnExactQuadranglePointUptoRow.holds Try.pinned (OpenSpec.upto fnExactQuadranglePointSpec)

/-- 'laws.FnExactDiagonalPoints', WHERE WHAT IT READS IS OF BULK AT MOST 1048576: true; the input reads as it did. -/
def fnExactDiagonalPointsUptoRow : OpenClaim := { program := "ythkbhaaodegocaa", sum := "e87cfc1c26af2e075d645583edf3a77f852c26e040459d68efdd433f89044faa", func := "loop.example/g01310/laws.FnExactDiagonalPoints", spec := "fnExactDiagonalPoints", unfollowed := true, recurses := true, apart := false, narrowed := true }
def FnExactDiagonalPointsUptoSaid : Prop := fnExactDiagonalPointsUptoRow.holds Try.pinned (OpenSpec.upto fnExactDiagonalPointsSpec)

/-- 'laws.FnExactIsFigure', WHERE WHAT IT READS IS OF BULK AT MOST 1048576: true; the input reads as it did. -/
def fnExactIsFigureUptoRow : OpenClaim := { program := "ythkbhaaodegocaa", sum := "e87cfc1c26af2e075d645583edf3a77f852c26e040459d68efdd433f89044faa", func := "loop.example/g01310/laws.FnExactIsFigure", spec := "fnExactIsFigure", unfollowed := true, recurses := true, apart := false, narrowed := true }
def FnExactIsFigureUptoSaid : Prop := fnExactIsFigureUptoRow.holds Try.pinned (OpenSpec.upto fnExactIsFigureSpec)

/-- 'laws.FnExactPappusLine', WHERE WHAT IT READS IS OF BULK AT MOST 1048576: true; the input reads as it did. -/
def fnExactPappusLineUptoRow : OpenClaim := { program := "ythkbhaaodegocaa", sum := "e87cfc1c26af2e075d645583edf3a77f852c26e040459d68efdd433f89044faa", func := "loop.example/g01310/laws.FnExactPappusLine", spec := "fnExactPappusLine", unfollowed := true, recurses := true, apart := false, narrowed := true }
def FnExactPappusLineUptoSaid : Prop := fnExactPappusLineUptoRow.holds Try.pinned (OpenSpec.upto fnExactPappusLineSpec)

/-- 'laws.FnExactDesarguesLine', WHERE WHAT IT READS IS OF BULK AT MOST 1048576: true; the input reads as it did. -/
def fnExactDesarguesLineUptoRow : OpenClaim := { program := "ythkbhaaodegocaa", sum := "e87cfc1c26af2e075d645583edf3a77f852c26e040459d68efdd433f89044faa", func := "loop.example/g01310/laws.FnExactDesarguesLine", spec := "fnExactDesarguesLine", unfollowed := true, recurses := true, apart := false, narrowed := true }
def FnExactDesarguesLineUptoSaid : Prop := fnExactDesarguesLineUptoRow.holds Try.pinned (OpenSpec.upto fnExactDesarguesLineSpec)

end Rows
end Go.Proofs.Ythkbhaaodegocaa
