/- The law FnExactAreInOneOrbit: for every input it returns true, and the input reads as it did. No condition. -/
import Derived.Test.YtoagfpdicpcjnaaRows
import Derived.Test.YtoagfpdicpcjnaaJoinAreInOneOrbit
import Derived.WalkKit
import Derived.ProofKit
import Derived.OpenShut
import Derived.ChangeOld
import Derived.Below
import Derived.Test.YtoagfpdicpcjnaaZAreInOneOrbit5
namespace Go.Proofs.Ytoagfpdicpcjnaa.fnExactAreInOneOrbit
open Go.ChangeShapes Go.WideShapes Go.ChangeAt Go.RowKit
set_option linter.unusedVariables false
theorem own : ownKnob Try.prog.godebug = none := by kernel_rfl
theorem cells9 : Try.prog.cellsOf 43 = 9 := by kernel_rfl
theorem cells3 : Try.prog.cellsOf 30 = 3 := by kernel_rfl
theorem cells1 : Try.prog.cellsOf 2 = 1 := by kernel_rfl
set_option maxRecDepth 100000 in
theorem lifted (os : Os) (started : os.Started) (H : Type) (enc : TypeId × Value → H) :
    ReturnsInHanded {} Try.checked os 4 .any (Rows.fnExactAreInOneOrbitSpec.pre6 enc Try.prog Try.f4 Rows.fnExactAreInOneOrbitRow.domain false) (Rows.fnExactAreInOneOrbitSpec.post enc Try.prog Try.f4 false true false false) := by
  refine returnsInHanded_of_change (C := Try.checked) own started (by kernel_rfl) Try.func4
    (ChangeSpec.witness6 (enc := enc) (C := Try.checked) false ⟨#[], #[.int .i64 0, .slice none 0 0, .agg #[.int .i64 0, .int .i64 0, .int .i64 0], .agg #[.int .i64 0, .int .i64 0, .int .i64 0]], []⟩ 8 (by kernel_rfl) (by kernel_rfl) (by kernel_rfl) (by kernel_rfl)) ?_
  intro W base args ds gs before hval0 hW hcnd _
  have hval : ∀ (j : Nat) t v, Try.f4.params[j]? = some t → args[j]? = some v → Value.okWide Try.prog W .any base t v := hval0
  have hW' := hW
  obtain ⟨p, q, hA0, hV, rfl, hfz, hnd⟩ := hW
  have hA : DataW.TrodAll enc Try.prog W 0 (fun _ => true) true Try.f4.params.toList args.toList ds p := hA0
  rw [Try.params4] at hA hval
  obtain ⟨v0, vs0, d0, ds0, p0, q0, hargs, rfl, rfl, h0, r0⟩ := trodAll_cons hA
  obtain ⟨v1, vs1, d1, ds1, p1, q1, rfl, rfl, rfl, h1, r1⟩ := trodAll_cons r0
  obtain ⟨v2, vs2, d2, ds2, p2, q2, rfl, rfl, rfl, h2, r2⟩ := trodAll_cons r1
  obtain ⟨v3, vs3, d3, ds3, p3, q3, rfl, rfl, rfl, h3, r3⟩ := trodAll_cons r2
  obtain ⟨rfl, rfl, rfl⟩ := trodAll_nil r3
  obtain rfl : args = #[v0, v1, v2, v3] := by cases args; simp_all
  obtain ⟨rfl, rfl⟩ := trodVars_none hV
  obtain ⟨a0, rfl, rfl, rfl, w0⟩ := open_int Try.underlying2 (hval 0 _ v0 rfl rfl) h0
  obtain ⟨b1, k1, c1, l1, rfl, hn1, hl1⟩ := open_sl_m Try.underlying22 Try.underlying43 Try.underlying30 Try.underlying2 cells1 cells3 cells9 (hval 1 _ v1 rfl rfl) h1
  obtain ⟨x2, y2, z2, rfl, rfl, rfl, wx2, wy2, wz2⟩ := open_arr3 Try.underlying30 Try.underlying2 cells1 cells3 (hval 2 _ v2 rfl rfl) h2
  obtain ⟨x3, y3, z3, rfl, rfl, rfl, wx3, wy3, wz3⟩ := open_arr3 Try.underlying30 Try.underlying2 cells1 cells3 (hval 3 _ v3 rfl rfl) h3
  clear hA0 hval0
  refine (FnExactAreInOneOrbit_walk a0 b1 k1 c1 l1 x2 y2 z2 x3 y3 z3 W hn1 hl1).mono fun e W' ⟨he, bel⟩ => ?_
  subst he
  exact ⟨_, rfl, _, _, _, [], _, [], hW', trodAll_mk1 (shut_bool Try.underlying4 _), (trodAll_cons_mk (shut_int Try.underlying2 w0) (trodAll_cons_mk (Below.trod laidOut (by kernel_rfl) (of_decide_eq_true (by kernel_rfl)) h1 bel (fun x hx => by have := hW'.lt x (by simp [hx]); simpa using this)) (trodAll_cons_mk (shut_arr3 Try.underlying30 Try.underlying2 cells1 cells3 wx2 wy2 wz2) (trodAll_cons_mk (shut_arr3 Try.underlying30 Try.underlying2 cells1 cells3 wx3 wy3 wz3) trodAll_mk0)))), rfl, bel.frame _, fun h => by cases h⟩
theorem over : Rows.fnExactAreInOneOrbitRow.holds Try.pinned (OpenSpec.ofChange Rows.fnExactAreInOneOrbitSpec) :=
  OpenClaim.holds_of_wide 4 Try.f4 rfl rfl rfl rfl rfl rfl rfl ⟨rfl, rfl, rfl, rfl, rfl⟩ rfl rfl rfl rfl rfl (by kernel_rfl) Try.func4 joinAreInOneOrbit
    (of_decide_eq_true (by kernel_rfl)) (by unfold Func.isWrapper; first | (rw [if_pos (by decide +kernel)]; kernel_rfl) | (rw [if_neg (by decide +kernel)]; exact ⟨rfl, rfl⟩))
    (fun os started H enc _ => lifted os started H enc)
theorem proved : Rows.FnExactAreInOneOrbitSaid := over
end Go.Proofs.Ytoagfpdicpcjnaa.fnExactAreInOneOrbit
namespace Go.Proofs.Ytoagfpdicpcjnaa
/-- The row, under a short name, for the claim. -/
theorem fnExactAreInOneOrbit_holds : Rows.FnExactAreInOneOrbitSaid := fnExactAreInOneOrbit.proved
#print axioms fnExactAreInOneOrbit_holds
end Go.Proofs.Ytoagfpdicpcjnaa
