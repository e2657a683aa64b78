/- The law FnExactOrbitsOf: for every input it returns true, and the input reads as it did. No condition. -/
import Derived.Test.YtoagfpdicpcjnaaRows
import Derived.Test.YtoagfpdicpcjnaaJoinOrbitsOf
import Derived.WalkKit
import Derived.ProofKit
import Derived.OpenShut
import Derived.ChangeOld
import Derived.Below
import Derived.Test.YtoagfpdicpcjnaaZOrbitsOf5
namespace Go.Proofs.Ytoagfpdicpcjnaa.fnExactOrbitsOf
open Go.ChangeShapes Go.WideShapes Go.ChangeAt Go.RowKit
set_option linter.unusedVariables false
theorem own : ownKnob Try.prog.godebug = none := by kernel_rfl
theorem cells9 : Try.prog.cellsOf 43 = 9 := by kernel_rfl
theorem cells3 : Try.prog.cellsOf 30 = 3 := by kernel_rfl
theorem cells1 : Try.prog.cellsOf 2 = 1 := by kernel_rfl
set_option maxRecDepth 100000 in
theorem lifted (os : Os) (started : os.Started) (H : Type) (enc : TypeId × Value → H) :
    ReturnsInHanded {} Try.checked os 5 .any (Rows.fnExactOrbitsOfSpec.pre6 enc Try.prog Try.f5 Rows.fnExactOrbitsOfRow.domain false) (Rows.fnExactOrbitsOfSpec.post enc Try.prog Try.f5 false true false false) := by
  refine returnsInHanded_of_change (C := Try.checked) own started (by kernel_rfl) Try.func5
    (ChangeSpec.witness6 (enc := enc) (C := Try.checked) false ⟨#[], #[.int .i64 0, .slice none 0 0], []⟩ 8 (by kernel_rfl) (by kernel_rfl) (by kernel_rfl) (by kernel_rfl)) ?_
  intro W base args ds gs before hval0 hW hcnd _
  have hval : ∀ (j : Nat) t v, Try.f5.params[j]? = some t → args[j]? = some v → Value.okWide Try.prog W .any base t v := hval0
  have hW' := hW
  obtain ⟨p, q, hA0, hV, rfl, hfz, hnd⟩ := hW
  have hA : DataW.TrodAll enc Try.prog W 0 (fun _ => true) true Try.f5.params.toList args.toList ds p := hA0
  rw [Try.params5] at hA hval
  obtain ⟨v0, vs0, d0, ds0, p0, q0, hargs, rfl, rfl, h0, r0⟩ := trodAll_cons hA
  obtain ⟨v1, vs1, d1, ds1, p1, q1, rfl, rfl, rfl, h1, r1⟩ := trodAll_cons r0
  obtain ⟨rfl, rfl, rfl⟩ := trodAll_nil r1
  obtain rfl : args = #[v0, v1] := by cases args; simp_all
  obtain ⟨rfl, rfl⟩ := trodVars_none hV
  obtain ⟨a0, rfl, rfl, rfl, w0⟩ := open_int Try.underlying2 (hval 0 _ v0 rfl rfl) h0
  obtain ⟨b1, k1, c1, l1, rfl, hn1, hl1⟩ := open_sl_m Try.underlying22 Try.underlying43 Try.underlying30 Try.underlying2 cells1 cells3 cells9 (hval 1 _ v1 rfl rfl) h1
  clear hA0 hval0
  refine (FnExactOrbitsOf_walk a0 b1 k1 c1 l1 W hn1 hl1).mono fun e W' ⟨he, bel⟩ => ?_
  subst he
  exact ⟨_, rfl, _, _, _, [], _, [], hW', trodAll_mk1 (shut_bool Try.underlying4 _), (trodAll_cons_mk (shut_int Try.underlying2 w0) (trodAll_cons_mk (Below.trod laidOut (by kernel_rfl) (of_decide_eq_true (by kernel_rfl)) h1 bel (fun x hx => by have := hW'.lt x (by simp [hx]); simpa using this)) trodAll_mk0)), rfl, bel.frame _, fun h => by cases h⟩
theorem over : Rows.fnExactOrbitsOfRow.holds Try.pinned (OpenSpec.ofChange Rows.fnExactOrbitsOfSpec) :=
  OpenClaim.holds_of_wide 5 Try.f5 rfl rfl rfl rfl rfl rfl rfl ⟨rfl, rfl, rfl, rfl, rfl⟩ rfl rfl rfl rfl rfl (by kernel_rfl) Try.func5 joinOrbitsOf
    (of_decide_eq_true (by kernel_rfl)) (by unfold Func.isWrapper; first | (rw [if_pos (by decide +kernel)]; kernel_rfl) | (rw [if_neg (by decide +kernel)]; exact ⟨rfl, rfl⟩))
    (fun os started H enc _ => lifted os started H enc)
theorem proved : Rows.FnExactOrbitsOfSaid := over
end Go.Proofs.Ytoagfpdicpcjnaa.fnExactOrbitsOf
namespace Go.Proofs.Ytoagfpdicpcjnaa
/-- The row, under a short name, for the claim. -/
theorem fnExactOrbitsOf_holds : Rows.FnExactOrbitsOfSaid := fnExactOrbitsOf.proved
#print axioms fnExactOrbitsOf_holds
end Go.Proofs.Ytoagfpdicpcjnaa
