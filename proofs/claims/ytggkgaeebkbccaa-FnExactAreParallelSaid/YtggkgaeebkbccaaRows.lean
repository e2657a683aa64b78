/-
  No cell of these rows narrows 'for every input' (looked for: loops, veiled, ifaces, maps, wideKeys, modest, calm, conditions, laid).
  DERIVED. THE GIVEN ROWS OF THIS SEAT. 7 by the template 'for every input the law returns true; each argument reads behind the call as it read before'; 0 by the template 'total and deterministic' (their statements: YtggkgaeebkbccaaTotals.lean).
  GIVEN WITH THE SEED: the statements are not yours to turn. If you find one false, say at which input.
  Laid BY PROGRAM, IN A SANDBOX (cutbox-rows.mjs): the forced cells as the released guide's own fill.sh prints them over the translation 2563017258c67eac… (all of the seat's roots in one cut). By AI agents, Wed Nov 11 2026. No macro, syntax, notation, axiom, sorry.
-/
import Derived.Test.YtggkgaeebkbccaaChecked
import GoSem.Claim
import GoSem.ClaimJoined
import GoSem.ClaimMapViews
import Derived.JoinedTies
import Derived.KernelRfl
namespace Go.Proofs.Ytggkgaeebkbccaa
/- THE CELL 'sum', in the pinned program and in every row, IS THE sha256 OF THE DUMP (.gsa) THAT YtggkgaeebkbccaaProg.lean LOADS. Nothing in Lean hashes anything: it is a label: what it is worth is what the hold of that sum in a sandbox is worth. -/
noncomputable def Try.pinned : Pinned := { name := "ytggkgaeebkbccaa", sum := "2563017258c67eac3115e9e4dea5f93e7511f13d37822653dad4fb2dbc18a881", checked := Try.checked }
namespace Rows
def none {H : Type} : Left H := { results := [], args := [] }

/-- 'laws.FnExactNewDesk': WHATEVER THE INPUT: true; the input reads as it did. -/
def fnExactNewDeskSpec : ChangeSpec := { name := "fnExactNewDesk", fn := fun _ => fun
  | [] => { results := [.lit (.bool true)], args := [] }
  | _ => none }
def fnExactNewDeskRow : OpenClaim := { program := "ytggkgaeebkbccaa", sum := "2563017258c67eac3115e9e4dea5f93e7511f13d37822653dad4fb2dbc18a881", func := "loop.example/g01310/laws.FnExactNewDesk", spec := "fnExactNewDesk", apart := false }
def FnExactNewDeskSaid : Prop := fnExactNewDeskRow.holds Try.pinned (OpenSpec.ofChange fnExactNewDeskSpec)

/-- ITS FALSE NEIGHBOUR: 'it returns false'. Refute it at one input. -/
def fnExactNewDeskWrong : ChangeSpec := { name := "fnExactNewDesk", fn := fun _ => fun
  | [] => { results := [.lit (.bool false)], args := [] }
  | _ => none }
def FnExactNewDeskWrongFalsely : Prop := fnExactNewDeskRow.holds Try.pinned (OpenSpec.ofChange fnExactNewDeskWrong)

/-- 'laws.FnExactIsDifferenceSet': WHATEVER THE INPUT: true; the input reads as it did. -/
def fnExactIsDifferenceSetSpec : ChangeSpec := { name := "fnExactIsDifferenceSet", fn := fun _ => fun
  | [d1, d2] => { results := [.lit (.bool true)], args := [d1, d2] }
  | _ => none }
def fnExactIsDifferenceSetRow : OpenClaim := { program := "ytggkgaeebkbccaa", sum := "2563017258c67eac3115e9e4dea5f93e7511f13d37822653dad4fb2dbc18a881", func := "loop.example/g01310/laws.FnExactIsDifferenceSet", spec := "fnExactIsDifferenceSet", unfollowed := true, recurses := true, apart := false }
def FnExactIsDifferenceSetSaid : Prop := fnExactIsDifferenceSetRow.holds Try.pinned (OpenSpec.ofChange fnExactIsDifferenceSetSpec)

/-- ITS FALSE NEIGHBOUR: 'it returns false'. Refute it at one input. -/
def fnExactIsDifferenceSetWrong : ChangeSpec := { name := "fnExactIsDifferenceSet", fn := fun _ => fun
  | [d1, d2] => { results := [.lit (.bool false)], args := [d1, d2] }
  | _ => none }
def FnExactIsDifferenceSetWrongFalsely : Prop := fnExactIsDifferenceSetRow.holds Try.pinned (OpenSpec.ofChange fnExactIsDifferenceSetWrong)

/-- 'laws.FnExactIncidenceRank': WHATEVER THE INPUT: true; the input reads as it did. -/
def fnExactIncidenceRankSpec : ChangeSpec := { name := "fnExactIncidenceRank", fn := fun _ => fun
  | [d1, d2] => { results := [.lit (.bool true)], args := [d1, d2] }
  | _ => none }
def fnExactIncidenceRankRow : OpenClaim := { program := "ytggkgaeebkbccaa", sum := "2563017258c67eac3115e9e4dea5f93e7511f13d37822653dad4fb2dbc18a881", func := "loop.example/g01310/laws.FnExactIncidenceRank", spec := "fnExactIncidenceRank", apart := false }
def FnExactIncidenceRankSaid : Prop := fnExactIncidenceRankRow.holds Try.pinned (OpenSpec.ofChange fnExactIncidenceRankSpec)

/-- ITS FALSE NEIGHBOUR: 'it returns false'. Refute it at one input. -/
def fnExactIncidenceRankWrong : ChangeSpec := { name := "fnExactIncidenceRank", fn := fun _ => fun
  | [d1, d2] => { results := [.lit (.bool false)], args := [d1, d2] }
  | _ => none }
def FnExactIncidenceRankWrongFalsely : Prop := fnExactIncidenceRankRow.holds Try.pinned (OpenSpec.ofChange fnExactIncidenceRankWrong)

/-- 'laws.FnExactCentreOf': WHATEVER THE INPUT: true; the input reads as it did. -/
def fnExactCentreOfSpec : ChangeSpec := { name := "fnExactCentreOf", fn := fun _ => fun
  | [d1, d2, d3, d4] => { results := [.lit (.bool true)], args := [d1, d2, d3, d4] }
  | _ => none }
def fnExactCentreOfRow : OpenClaim := { program := "ytggkgaeebkbccaa", sum := "2563017258c67eac3115e9e4dea5f93e7511f13d37822653dad4fb2dbc18a881", func := "loop.example/g01310/laws.FnExactCentreOf", spec := "fnExactCentreOf", unfollowed := true, recurses := true, apart := false }
def FnExactCentreOfSaid : Prop := fnExactCentreOfRow.holds Try.pinned (OpenSpec.ofChange fnExactCentreOfSpec)

/-- ITS FALSE NEIGHBOUR: 'it returns false'. Refute it at one input. -/
def fnExactCentreOfWrong : ChangeSpec := { name := "fnExactCentreOf", fn := fun _ => fun
  | [d1, d2, d3, d4] => { results := [.lit (.bool false)], args := [d1, d2, d3, d4] }
  | _ => none }
def FnExactCentreOfWrongFalsely : Prop := fnExactCentreOfRow.holds Try.pinned (OpenSpec.ofChange fnExactCentreOfWrong)

/-- 'laws.FnExactMidpointOf': WHATEVER THE INPUT: true; the input reads as it did. -/
def fnExactMidpointOfSpec : ChangeSpec := { name := "fnExactMidpointOf", fn := fun _ => fun
  | [d1, d2, d3] => { results := [.lit (.bool true)], args := [d1, d2, d3] }
  | _ => none }
def fnExactMidpointOfRow : OpenClaim := { program := "ytggkgaeebkbccaa", sum := "2563017258c67eac3115e9e4dea5f93e7511f13d37822653dad4fb2dbc18a881", func := "loop.example/g01310/laws.FnExactMidpointOf", spec := "fnExactMidpointOf", unfollowed := true, recurses := true, apart := false }
def FnExactMidpointOfSaid : Prop := fnExactMidpointOfRow.holds Try.pinned (OpenSpec.ofChange fnExactMidpointOfSpec)

/-- ITS FALSE NEIGHBOUR: 'it returns false'. Refute it at one input. -/
def fnExactMidpointOfWrong : ChangeSpec := { name := "fnExactMidpointOf", fn := fun _ => fun
  | [d1, d2, d3] => { results := [.lit (.bool false)], args := [d1, d2, d3] }
  | _ => none }
def FnExactMidpointOfWrongFalsely : Prop := fnExactMidpointOfRow.holds Try.pinned (OpenSpec.ofChange fnExactMidpointOfWrong)

/-- 'laws.FnExactAreParallel': WHATEVER THE INPUT: true; the input reads as it did. -/
def fnExactAreParallelSpec : ChangeSpec := { name := "fnExactAreParallel", fn := fun _ => fun
  | [d1, d2, d3] => { results := [.lit (.bool true)], args := [d1, d2, d3] }
  | _ => none }
def fnExactAreParallelRow : OpenClaim := { program := "ytggkgaeebkbccaa", sum := "2563017258c67eac3115e9e4dea5f93e7511f13d37822653dad4fb2dbc18a881", func := "loop.example/g01310/laws.FnExactAreParallel", spec := "fnExactAreParallel", unfollowed := true, recurses := true, apart := false }
def FnExactAreParallelSaid : Prop := fnExactAreParallelRow.holds Try.pinned (OpenSpec.ofChange fnExactAreParallelSpec)

/-- ITS FALSE NEIGHBOUR: 'it returns false'. Refute it at one input. -/
def fnExactAreParallelWrong : ChangeSpec := { name := "fnExactAreParallel", fn := fun _ => fun
  | [d1, d2, d3] => { results := [.lit (.bool false)], args := [d1, d2, d3] }
  | _ => none }
def FnExactAreParallelWrongFalsely : Prop := fnExactAreParallelRow.holds Try.pinned (OpenSpec.ofChange fnExactAreParallelWrong)

/-- 'laws.FnExactIsDesk': WHATEVER THE INPUT: true; the input reads as it did. -/
def fnExactIsDeskSpec : ChangeSpec := { name := "fnExactIsDesk", fn := fun _ => fun
  | [d] => { results := [.lit (.bool true)], args := [d] }
  | _ => none }
def fnExactIsDeskRow : OpenClaim := { program := "ytggkgaeebkbccaa", sum := "2563017258c67eac3115e9e4dea5f93e7511f13d37822653dad4fb2dbc18a881", func := "loop.example/g01310/laws.FnExactIsDesk", spec := "fnExactIsDesk", apart := false }
def FnExactIsDeskSaid : Prop := fnExactIsDeskRow.holds Try.pinned (OpenSpec.ofChange fnExactIsDeskSpec)

/-- ITS FALSE NEIGHBOUR: 'it returns false'. Refute it at one input. -/
def fnExactIsDeskWrong : ChangeSpec := { name := "fnExactIsDesk", fn := fun _ => fun
  | [d] => { results := [.lit (.bool false)], args := [d] }
  | _ => none }
def FnExactIsDeskWrongFalsely : Prop := fnExactIsDeskRow.holds Try.pinned (OpenSpec.ofChange fnExactIsDeskWrong)

/- THE SECOND FORM. 'bulk': how many values and letters a reading holds, each counted each time it is reached (what is shared counts as often as it is met; a slice's spare places count too). A statement '..UptoSaid' is the law's where the arguments, and the package variables that the reading takes, are together of bulk at most 1048576: NARROWER than '..Said'. Prove '..Said' where nothing that the law and all that it calls make is longer than what came in: it says more and counts as full. Else prove '..UptoSaid'. A law counts once. -/
mutual
def uptoBulk {H : Type} : DataW H → Nat
  | .lit (.string bytes) => bytes.length + 1
  | .lit _ => 1
  | .nil => 1
  | .ptr d => uptoBulk d + 1
  | .slice elems spare => uptoBulkAll elems + uptoBulkAll spare + 1
  | .agg parts => uptoBulkAll parts + 1
  | .iface _ d => uptoBulk d + 1
  | .map entries => uptoBulkEntries entries + 1
  | .held _ => 1
def uptoBulkAll {H : Type} : List (DataW H) → Nat
  | [] => 0
  | d :: r => uptoBulk d + uptoBulkAll r
def uptoBulkEntries {H : Type} : List (Lit × DataW H) → Nat
  | [] => 0
  | x :: r => uptoBulkEntry x + uptoBulkEntries r
def uptoBulkEntry {H : Type} : Lit × DataW H → Nat
  | (.string bytes, d) => bytes.length + uptoBulk d + 1
  | (_, d) => uptoBulk d + 1
 end
def uptoSmall : (H : Type) → List (DataW H) → Bool := fun _ ds => decide (uptoBulkAll ds ≤ 1048576)
def OpenSpec.upto (s : _root_.Go.ChangeSpec) : _root_.Go.OpenSpec := { _root_.Go.OpenSpec.ofChange s with cond := some uptoSmall }

/-- 'laws.FnExactNewDesk', WHERE WHAT IT READS IS OF BULK AT MOST 1048576: true; the input reads as it did. -/
def fnExactNewDeskUptoRow : OpenClaim := { program := "ytggkgaeebkbccaa", sum := "2563017258c67eac3115e9e4dea5f93e7511f13d37822653dad4fb2dbc18a881", func := "loop.example/g01310/laws.FnExactNewDesk", spec := "fnExactNewDesk", apart := false, narrowed := true }
def FnExactNewDeskUptoSaid : Prop := fnExactNewDeskUptoRow.holds Try.pinned (OpenSpec.upto fnExactNewDeskSpec)

/-- 'laws.FnExactIsDifferenceSet', WHERE WHAT IT READS IS OF BULK AT MOST 1048576: true; the input reads as it did. -/
def fnExactIsDifferenceSetUptoRow : OpenClaim := { program := "ytggkgaeebkbccaa", sum := "2563017258c67eac3115e9e4dea5f93e7511f13d37822653dad4fb2dbc18a881", func := "loop.example/g01310/laws.FnExactIsDifferenceSet", spec := "fnExactIsDifferenceSet", unfollowed := true, recurses := true, apart := false, narrowed := true }
def FnExactIsDifferenceSetUptoSaid : Prop := fnExactIsDifferenceSetUptoRow.holds Try.pinned (OpenSpec.upto fnExactIsDifferenceSetSpec)

/-- 'laws.FnExactIncidenceRank', WHERE WHAT IT READS IS OF BULK AT MOST 1048576: true; the input reads as it did. -/
def fnExactIncidenceRankUptoRow : OpenClaim := { program := "ytggkgaeebkbccaa", sum := "2563017258c67eac3115e9e4dea5f93e7511f13d37822653dad4fb2dbc18a881", func := "loop.example/g01310/laws.FnExactIncidenceRank", spec := "fnExactIncidenceRank", apart := false, narrowed := true }
def FnExactIncidenceRankUptoSaid : Prop := fnExactIncidenceRankUptoRow.holds Try.pinned (OpenSpec.upto fnExactIncidenceRankSpec)

/-- 'laws.FnExactCentreOf', WHERE WHAT IT READS IS OF BULK AT MOST 1048576: true; the input reads as it did. -/
def fnExactCentreOfUptoRow : OpenClaim := { program := "ytggkgaeebkbccaa", sum := "2563017258c67eac3115e9e4dea5f93e7511f13d37822653dad4fb2dbc18a881", func := "loop.example/g01310/laws.FnExactCentreOf", spec := "fnExactCentreOf", unfollowed := true, recurses := true, apart := false, narrowed := true }
def FnExactCentreOfUptoSaid : Prop := fnExactCentreOfUptoRow.holds Try.pinned (OpenSpec.upto fnExactCentreOfSpec)

/-- 'laws.FnExactMidpointOf', WHERE WHAT IT READS IS OF BULK AT MOST 1048576: true; the input reads as it did. -/
def fnExactMidpointOfUptoRow : OpenClaim := { program := "ytggkgaeebkbccaa", sum := "2563017258c67eac3115e9e4dea5f93e7511f13d37822653dad4fb2dbc18a881", func := "loop.example/g01310/laws.FnExactMidpointOf", spec := "fnExactMidpointOf", unfollowed := true, recurses := true, apart := false, narrowed := true }
def FnExactMidpointOfUptoSaid : Prop := fnExactMidpointOfUptoRow.holds Try.pinned (OpenSpec.upto fnExactMidpointOfSpec)

/-- 'laws.FnExactAreParallel', WHERE WHAT IT READS IS OF BULK AT MOST 1048576: true; the input reads as it did. -/
def fnExactAreParallelUptoRow : OpenClaim := { program := "ytggkgaeebkbccaa", sum := "2563017258c67eac3115e9e4dea5f93e7511f13d37822653dad4fb2dbc18a881", func := "loop.example/g01310/laws.FnExactAreParallel", spec := "fnExactAreParallel", unfollowed := true, recurses := true, apart := false, narrowed := true }
def FnExactAreParallelUptoSaid : Prop := fnExactAreParallelUptoRow.holds Try.pinned (OpenSpec.upto fnExactAreParallelSpec)

/-- 'laws.FnExactIsDesk', WHERE WHAT IT READS IS OF BULK AT MOST 1048576: true; the input reads as it did. -/
def fnExactIsDeskUptoRow : OpenClaim := { program := "ytggkgaeebkbccaa", sum := "2563017258c67eac3115e9e4dea5f93e7511f13d37822653dad4fb2dbc18a881", func := "loop.example/g01310/laws.FnExactIsDesk", spec := "fnExactIsDesk", apart := false, narrowed := true }
def FnExactIsDeskUptoSaid : Prop := fnExactIsDeskUptoRow.holds Try.pinned (OpenSpec.upto fnExactIsDeskSpec)

end Rows
end Go.Proofs.Ytggkgaeebkbccaa
