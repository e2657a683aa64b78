/- The law FnExactQuadranglePoint: for every input it returns true, and the input reads as it did. No condition. -/
import Derived.Test.YthkbhaaodegocaaRows
import Derived.Test.YthkbhaaodegocaaJoinQuadranglePoint
import Derived.Test.YthkbhaaodegocaaF9
import Derived.Test.YthkbhaaodegocaaOpen
import Derived.WalkKit
import Derived.ProofKit
import Derived.OpenShut
import Derived.ChangeOld
import Derived.Below
namespace Go.Proofs.Ythkbhaaodegocaa.fnExactQuadranglePoint
open Go.ChangeShapes Go.WideShapes Go.ChangeAt Go.RowKit
set_option linter.unusedVariables false
theorem own : ownKnob Try.prog.godebug = none := by kernel_rfl
theorem cells3 : Try.prog.cellsOf 22 = 3 := by kernel_rfl
theorem cells1 : Try.prog.cellsOf 2 = 1 := by kernel_rfl
set_option maxRecDepth 100000 in
theorem lifted (os : Os) (started : os.Started) (H : Type) (enc : TypeId × Value → H) :
    ReturnsInHanded {} Try.checked os 10 .any (Rows.fnExactQuadranglePointSpec.pre6 enc Try.prog Try.f10 Rows.fnExactQuadranglePointRow.domain false) (Rows.fnExactQuadranglePointSpec.post enc Try.prog Try.f10 false true false false) := by
  refine returnsInHanded_of_change (C := Try.checked) own started (by kernel_rfl) Try.func10
    (ChangeSpec.witness6 (enc := enc) (C := Try.checked) false ⟨#[], #[.int .i64 0, .agg #[.int .i64 0, .int .i64 0, .int .i64 0], .agg #[.int .i64 0, .int .i64 0, .int .i64 0], .agg #[.int .i64 0, .int .i64 0, .int .i64 0]], []⟩ 8 (by kernel_rfl) (by kernel_rfl) (by kernel_rfl) (by kernel_rfl)) ?_
  intro W base args ds gs before hval0 hW hcnd _
  have hval : ∀ (j : Nat) t v, Try.f10.params[j]? = some t → args[j]? = some v → Value.okWide Try.prog W .any base t v := hval0
  have hW' := hW
  obtain ⟨p, q, hA0, hV, rfl, hfz, hnd⟩ := hW
  have hA : DataW.TrodAll enc Try.prog W 0 (fun _ => true) true Try.f10.params.toList args.toList ds p := hA0
  rw [Try.params10] at hA hval
  obtain ⟨v0, vs0, d0, ds0, p0, q0, hargs, rfl, rfl, h0, r0⟩ := trodAll_cons hA
  obtain ⟨v1, vs1, d1, ds1, p1, q1, rfl, rfl, rfl, h1, r1⟩ := trodAll_cons r0
  obtain ⟨v2, vs2, d2, ds2, p2, q2, rfl, rfl, rfl, h2, r2⟩ := trodAll_cons r1
  obtain ⟨v3, vs3, d3, ds3, p3, q3, rfl, rfl, rfl, h3, r3⟩ := trodAll_cons r2
  obtain ⟨rfl, rfl, rfl⟩ := trodAll_nil r3
  obtain rfl : args = #[v0, v1, v2, v3] := by cases args; simp_all
  obtain ⟨rfl, rfl⟩ := trodVars_none hV
  obtain ⟨a0, rfl, rfl, rfl, w0⟩ := open_int Try.underlying2 (hval 0 _ v0 rfl rfl) h0
  obtain ⟨x1, y1, z1, rfl, rfl, rfl, wx1, wy1, wz1⟩ := open_arr3 Try.underlying22 Try.underlying2 cells1 cells3 (hval 1 _ v1 rfl rfl) h1
  obtain ⟨x2, y2, z2, rfl, rfl, rfl, wx2, wy2, wz2⟩ := open_arr3 Try.underlying22 Try.underlying2 cells1 cells3 (hval 2 _ v2 rfl rfl) h2
  obtain ⟨x3, y3, z3, rfl, rfl, rfl, wx3, wy3, wz3⟩ := open_arr3 Try.underlying22 Try.underlying2 cells1 cells3 (hval 3 _ v3 rfl rfl) h3
  clear hA0 hval0
  refine (FnExactQuadranglePoint_walk a0 x1 y1 z1 x2 y2 z2 x3 y3 z3 W).mono fun e W' ⟨he, bel⟩ => ?_
  subst he
  exact ⟨_, rfl, _, _, _, [], _, [], hW', trodAll_mk1 (shut_bool Try.underlying4 _), (trodAll_cons_mk (shut_int Try.underlying2 w0) (trodAll_cons_mk (shut_arr3 Try.underlying22 Try.underlying2 cells1 cells3 wx1 wy1 wz1) (trodAll_cons_mk (shut_arr3 Try.underlying22 Try.underlying2 cells1 cells3 wx2 wy2 wz2) (trodAll_cons_mk (shut_arr3 Try.underlying22 Try.underlying2 cells1 cells3 wx3 wy3 wz3) trodAll_mk0)))), rfl, bel.frame _, fun h => by cases h⟩
theorem over : Rows.fnExactQuadranglePointRow.holds Try.pinned (OpenSpec.ofChange Rows.fnExactQuadranglePointSpec) :=
  OpenClaim.holds_of_wide 10 Try.f10 rfl rfl rfl rfl rfl rfl rfl ⟨rfl, rfl, rfl, rfl, rfl⟩ rfl rfl rfl rfl rfl (by kernel_rfl) Try.func10 joinQuadranglePoint
    (of_decide_eq_true (by kernel_rfl)) (by unfold Func.isWrapper; first | (rw [if_pos (by decide +kernel)]; kernel_rfl) | (rw [if_neg (by decide +kernel)]; exact ⟨rfl, rfl⟩))
    (fun os started H enc _ => lifted os started H enc)
theorem proved : Rows.FnExactQuadranglePointSaid := over
end Go.Proofs.Ythkbhaaodegocaa.fnExactQuadranglePoint
namespace Go.Proofs.Ythkbhaaodegocaa
/-- The row, under a short name, for the claim. -/
theorem fnExactQuadranglePoint_holds : Rows.FnExactQuadranglePointSaid := fnExactQuadranglePoint.proved
#print axioms fnExactQuadranglePoint_holds
end Go.Proofs.Ythkbhaaodegocaa
