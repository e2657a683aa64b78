/- '==' on arrays of three int64. -/
import Derived.Test.YthkbhaaodegocaaW2
import Derived.ChangeKeysEq
namespace Go.Proofs.Ythkbhaaodegocaa
open Go.RowKit
set_option linter.unusedVariables false
set_option linter.unusedSimpArgs false
theorem eq_arr3 {P : Program} (w : World) (d : Nat) {t e : TypeId} {i : TypeInfo} (hu : P.underlying t = some (.array 3 e)) (hi : P.info? e = some i) (he : P.plainKey e = true) (hk : P.underlying e = some (.int .i64)) (hc : P.cellsOf e = 1) (a0 a1 a2 b0 b1 b2 : Int) :
    (Op.equalIn (d + 1 + 1) t (ptV a0 a1 a2) (ptV b0 b1 b2)).run P w = .ok (a0 == b0 && (a1 == b1 && a2 == b2)) w := by
  have p : ∀ (x y z : Int), (part e #[.int .i64 x, .int .i64 y, .int .i64 z] 0).run P w = .ok (.int .i64 x) w ∧ (part e #[.int .i64 x, .int .i64 y, .int .i64 z] 1).run P w = .ok (.int .i64 y) w ∧ (part e #[.int .i64 x, .int .i64 y, .int .i64 z] 2).run P w = .ok (.int .i64 z) w :=
    fun x y z => ⟨run_part_plain w he rfl, run_part_plain w he rfl, run_part_plain w he rfl⟩
  rw [run_equalIn_array w (d + 1) _ _ hu hi, hc]
  simp only [List.range_succ_eq_map, List.range_zero, List.map_cons, List.map_nil, Op.eqItems, Nat.mul_one, Nat.succ_eq_add_one, Nat.zero_add, Nat.reduceAdd, Sem.run_bind, (p a0 a1 a2).1, (p b0 b1 b2).1, (p a0 a1 a2).2.1, (p b0 b1 b2).2.1, (p a0 a1 a2).2.2, (p b0 b1 b2).2.2, Result.andThen_ok, run_equalIn_int w d e .i64 .i64 _ _ hk]
  cases (a0 == b0) <;> cases h1 : (a1 == b1) <;> cases h2 : (a2 == b2) <;> simp [p, run_equalIn_int w d e .i64 .i64 _ _ hk, h1, h2]
theorem eqA24 (w : World) (a0 a1 a2 b0 b1 b2 : Int) : (Op.equalIn 10000 24 (ptV a0 a1 a2) (ptV b0 b1 b2)).run Try.prog w = .ok (a0 == b0 && (a1 == b1 && a2 == b2)) w :=
  eq_arr3 (i := Try.t2) w 9998 Try.underlying24 (by kernel_rfl) (by kernel_rfl) Try.underlying2 (by kernel_rfl) _ _ _ _ _ _
/-- Whether two points are the same, number by number. -/
def eqP (a b : Pt) : Bool := a.1 == b.1 && (a.2.1 == b.2.1 && a.2.2 == b.2.2)
theorem eqP_iff {a b : Pt} : eqP a b = true ↔ a = b := by
  obtain ⟨a0, a1, a2⟩ := a
  obtain ⟨b0, b1, b2⟩ := b
  simp [eqP]
@[go_sem high] theorem eqLn (w : World) (a0 a1 a2 b0 b1 b2 : Int) : (binOp .eql 24 (ptV a0 a1 a2) (ptV b0 b1 b2)).run Try.prog w = .ok (.bool (eqP (a0, a1, a2) (b0, b1, b2))) w := by
  rw [run_eql_struct, eqA24]; rfl
theorem eqAPt (w : World) (a0 a1 a2 b0 b1 b2 : Int) : (Op.equalIn 10000 23 (ptV a0 a1 a2) (ptV b0 b1 b2)).run Try.prog w = .ok (a0 == b0 && (a1 == b1 && a2 == b2)) w :=
  eq_arr3 (i := Try.t2) w 9998 Try.underlying23 (by kernel_rfl) (by kernel_rfl) Try.underlying2 (by kernel_rfl) _ _ _ _ _ _
@[go_sem high] theorem eqPo (w : World) (a0 a1 a2 b0 b1 b2 : Int) : (binOp .eql 23 (ptV a0 a1 a2) (ptV b0 b1 b2)).run Try.prog w = .ok (.bool (eqP (a0, a1, a2) (b0, b1, b2))) w := by
  rw [run_eql_struct, eqAPt]; rfl
@[go_sem high] theorem nePo (w : World) (a0 a1 a2 b0 b1 b2 : Int) : (binOp .neq 23 (ptV a0 a1 a2) (ptV b0 b1 b2)).run Try.prog w = .ok (.bool (!eqP (a0, a1, a2) (b0, b1, b2))) w := by
  rw [run_neq_struct, eqAPt]; rfl
end Go.Proofs.Ythkbhaaodegocaa
