/-
  No cell of these rows narrows 'for every input' (looked for: loops, veiled, ifaces, maps, wideKeys, modest, calm, conditions, laid).
  DERIVED. THE GIVEN ROWS OF THIS SEAT. 3 by the template 'for every input the law returns true; each argument reads behind the call as it read before'; 0 by the template 'total and deterministic' (their statements: YtoagfpdicpcjnaaTotals.lean).
  GIVEN WITH THE SEED: the statements are not yours to turn. If you find one false, say at which input.
  Laid BY PROGRAM, IN A SANDBOX (cutbox-rows.mjs): the forced cells as the released guide's own fill.sh prints them over the translation 3512b1254e889d39… (all of the seat's roots in one cut). By AI agents, Wed Nov 11 2026. No macro, syntax, notation, axiom, sorry.
-/
import Derived.Test.YtoagfpdicpcjnaaChecked
import GoSem.Claim
import GoSem.ClaimJoined
import GoSem.ClaimMapViews
import Derived.JoinedTies
import Derived.KernelRfl
namespace Go.Proofs.Ytoagfpdicpcjnaa
/- THE CELL 'sum', in the pinned program and in every row, IS THE sha256 OF THE DUMP (.gsa) THAT YtoagfpdicpcjnaaProg.lean LOADS. Nothing in Lean hashes anything: it is a label: what it is worth is what the hold of that sum in a sandbox is worth. -/
noncomputable def Try.pinned : Pinned := { name := "ytoagfpdicpcjnaa", sum := "3512b1254e889d3913a79f75324fb63fa2c1fc2a2a973839a33e776ba4526919", checked := Try.checked }
namespace Rows
def none {H : Type} : Left H := { results := [], args := [] }

/-- 'laws.FnExactGroupOrder': WHATEVER THE INPUT: true; the input reads as it did. -/
def fnExactGroupOrderSpec : ChangeSpec := { name := "fnExactGroupOrder", fn := fun _ => fun
  | [d1, d2] => { results := [.lit (.bool true)], args := [d1, d2] }
  | _ => none }
def fnExactGroupOrderRow : OpenClaim := { program := "ytoagfpdicpcjnaa", sum := "3512b1254e889d3913a79f75324fb63fa2c1fc2a2a973839a33e776ba4526919", func := "loop.example/g01310/laws.FnExactGroupOrder", spec := "fnExactGroupOrder", unfollowed := true, recurses := true, plainKeys := false, apart := false }
def FnExactGroupOrderSaid : Prop := fnExactGroupOrderRow.holds Try.pinned (OpenSpec.ofChange fnExactGroupOrderSpec)

/-- ITS FALSE NEIGHBOUR: 'it returns false'. Refute it at one input. -/
def fnExactGroupOrderWrong : ChangeSpec := { name := "fnExactGroupOrder", fn := fun _ => fun
  | [d1, d2] => { results := [.lit (.bool false)], args := [d1, d2] }
  | _ => none }
def FnExactGroupOrderWrongFalsely : Prop := fnExactGroupOrderRow.holds Try.pinned (OpenSpec.ofChange fnExactGroupOrderWrong)

/-- 'laws.FnExactAreInOneOrbit': WHATEVER THE INPUT: true; the input reads as it did. -/
def fnExactAreInOneOrbitSpec : ChangeSpec := { name := "fnExactAreInOneOrbit", fn := fun _ => fun
  | [d1, d2, d3, d4] => { results := [.lit (.bool true)], args := [d1, d2, d3, d4] }
  | _ => none }
def fnExactAreInOneOrbitRow : OpenClaim := { program := "ytoagfpdicpcjnaa", sum := "3512b1254e889d3913a79f75324fb63fa2c1fc2a2a973839a33e776ba4526919", func := "loop.example/g01310/laws.FnExactAreInOneOrbit", spec := "fnExactAreInOneOrbit", unfollowed := true, recurses := true, plainKeys := false, apart := false }
def FnExactAreInOneOrbitSaid : Prop := fnExactAreInOneOrbitRow.holds Try.pinned (OpenSpec.ofChange fnExactAreInOneOrbitSpec)

/-- ITS FALSE NEIGHBOUR: 'it returns false'. Refute it at one input. -/
def fnExactAreInOneOrbitWrong : ChangeSpec := { name := "fnExactAreInOneOrbit", fn := fun _ => fun
  | [d1, d2, d3, d4] => { results := [.lit (.bool false)], args := [d1, d2, d3, d4] }
  | _ => none }
def FnExactAreInOneOrbitWrongFalsely : Prop := fnExactAreInOneOrbitRow.holds Try.pinned (OpenSpec.ofChange fnExactAreInOneOrbitWrong)

/-- 'laws.FnExactOrbitsOf': WHATEVER THE INPUT: true; the input reads as it did. -/
def fnExactOrbitsOfSpec : ChangeSpec := { name := "fnExactOrbitsOf", fn := fun _ => fun
  | [d1, d2] => { results := [.lit (.bool true)], args := [d1, d2] }
  | _ => none }
def fnExactOrbitsOfRow : OpenClaim := { program := "ytoagfpdicpcjnaa", sum := "3512b1254e889d3913a79f75324fb63fa2c1fc2a2a973839a33e776ba4526919", func := "loop.example/g01310/laws.FnExactOrbitsOf", spec := "fnExactOrbitsOf", unfollowed := true, recurses := true, plainKeys := false, apart := false }
def FnExactOrbitsOfSaid : Prop := fnExactOrbitsOfRow.holds Try.pinned (OpenSpec.ofChange fnExactOrbitsOfSpec)

/-- ITS FALSE NEIGHBOUR: 'it returns false'. Refute it at one input. -/
def fnExactOrbitsOfWrong : ChangeSpec := { name := "fnExactOrbitsOf", fn := fun _ => fun
  | [d1, d2] => { results := [.lit (.bool false)], args := [d1, d2] }
  | _ => none }
def FnExactOrbitsOfWrongFalsely : Prop := fnExactOrbitsOfRow.holds Try.pinned (OpenSpec.ofChange fnExactOrbitsOfWrong)

/- THE SECOND FORM. 'bulk': how many values and letters a reading holds, each counted each time it is reached (what is shared counts as often as it is met; a slice's spare places count too). A statement '..UptoSaid' is the law's where the arguments, and the package variables that the reading takes, are together of bulk at most 1048576: NARROWER than '..Said'. Prove '..Said' where nothing that the law and all that it calls make is longer than what came in: it says more and counts as full. Else prove '..UptoSaid'. A law counts once. -/
mutual
def uptoBulk {H : Type} : DataW H → Nat
  | .lit (.string bytes) => bytes.length + 1
  | .lit _ => 1
  | .nil => 1
  | .ptr d => uptoBulk d + 1
  | .slice elems spare => uptoBulkAll elems + uptoBulkAll spare + 1
  | .agg parts => uptoBulkAll parts + 1
  | .iface _ d => uptoBulk d + 1
  | .map entries => uptoBulkEntries entries + 1
  | .held _ => 1
def uptoBulkAll {H : Type} : List (DataW H) → Nat
  | [] => 0
  | d :: r => uptoBulk d + uptoBulkAll r
def uptoBulkEntries {H : Type} : List (Lit × DataW H) → Nat
  | [] => 0
  | x :: r => uptoBulkEntry x + uptoBulkEntries r
def uptoBulkEntry {H : Type} : Lit × DataW H → Nat
  | (.string bytes, d) => bytes.length + uptoBulk d + 1
  | (_, d) => uptoBulk d + 1
 end
def uptoSmall : (H : Type) → List (DataW H) → Bool := fun _ ds => decide (uptoBulkAll ds ≤ 1048576)
def OpenSpec.upto (s : _root_.Go.ChangeSpec) : _root_.Go.OpenSpec := { _root_.Go.OpenSpec.ofChange s with cond := some uptoSmall }

/-- 'laws.FnExactGroupOrder', WHERE WHAT IT READS IS OF BULK AT MOST 1048576: true; the input reads as it did. -/
def fnExactGroupOrderUptoRow : OpenClaim := { program := "ytoagfpdicpcjnaa", sum := "3512b1254e889d3913a79f75324fb63fa2c1fc2a2a973839a33e776ba4526919", func := "loop.example/g01310/laws.FnExactGroupOrder", spec := "fnExactGroupOrder", unfollowed := true, recurses := true, plainKeys := false, apart := false, narrowed := true }
def FnExactGroupOrderUptoSaid : Prop := fnExactGroupOrderUptoRow.holds Try.pinned (OpenSpec.upto fnExactGroupOrderSpec)

/-- 'laws.FnExactAreInOneOrbit', WHERE WHAT IT READS IS OF BULK AT MOST 1048576: true; the input reads as it did. -/
def fnExactAreInOneOrbitUptoRow : OpenClaim := { program := "ytoagfpdicpcjnaa", sum := "3512b1254e889d3913a79f75324fb63fa2c1fc2a2a973839a33e776ba4526919", func := "loop.example/g01310/laws.FnExactAreInOneOrbit", spec := "fnExactAreInOneOrbit", unfollowed := true, recurses := true, plainKeys := false, apart := false, narrowed := true }
def FnExactAreInOneOrbitUptoSaid : Prop := fnExactAreInOneOrbitUptoRow.holds Try.pinned (OpenSpec.upto fnExactAreInOneOrbitSpec)

/-- 'laws.FnExactOrbitsOf', WHERE WHAT IT READS IS OF BULK AT MOST 1048576: true; the input reads as it did. -/
def fnExactOrbitsOfUptoRow : OpenClaim := { program := "ytoagfpdicpcjnaa", sum := "3512b1254e889d3913a79f75324fb63fa2c1fc2a2a973839a33e776ba4526919", func := "loop.example/g01310/laws.FnExactOrbitsOf", spec := "fnExactOrbitsOf", unfollowed := true, recurses := true, plainKeys := false, apart := false, narrowed := true }
def FnExactOrbitsOfUptoSaid : Prop := fnExactOrbitsOfUptoRow.holds Try.pinned (OpenSpec.upto fnExactOrbitsOfSpec)

end Rows
end Go.Proofs.Ytoagfpdicpcjnaa
