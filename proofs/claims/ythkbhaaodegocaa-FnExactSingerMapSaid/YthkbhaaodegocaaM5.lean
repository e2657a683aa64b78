/- '==' on maps. -/
import Derived.Test.YthkbhaaodegocaaM4
namespace Go.Proofs.Ythkbhaaodegocaa
open Go.RowKit
set_option linter.unusedVariables false
set_option linter.unusedSimpArgs false
theorem partMap (w : World) (x0 x1 x2 x3 x4 x5 x6 x7 x8 : Int) :
    (part 22 #[.int .i64 x0, .int .i64 x1, .int .i64 x2, .int .i64 x3, .int .i64 x4, .int .i64 x5, .int .i64 x6, .int .i64 x7, .int .i64 x8] 0).run Try.prog w = .ok (ptV x0 x1 x2) w ∧ (part 22 #[.int .i64 x0, .int .i64 x1, .int .i64 x2, .int .i64 x3, .int .i64 x4, .int .i64 x5, .int .i64 x6, .int .i64 x7, .int .i64 x8] 3).run Try.prog w = .ok (ptV x3 x4 x5) w ∧ (part 22 #[.int .i64 x0, .int .i64 x1, .int .i64 x2, .int .i64 x3, .int .i64 x4, .int .i64 x5, .int .i64 x6, .int .i64 x7, .int .i64 x8] 6).run Try.prog w = .ok (ptV x6 x7 x8) w := by
  refine ⟨?_, ?_, ?_⟩
  · unfold part; rw [Sem.run_bind, Try.isAgg22]; simp only [Result.andThen_ok, if_true]; rw [Sem.run_bind, Try.sizeOf22]; rfl
  · unfold part; rw [Sem.run_bind, Try.isAgg22]; simp only [Result.andThen_ok, if_true]; rw [Sem.run_bind, Try.sizeOf22]; rfl
  · unfold part; rw [Sem.run_bind, Try.isAgg22]; simp only [Result.andThen_ok, if_true]; rw [Sem.run_bind, Try.sizeOf22]; rfl
theorem eqRow (w : World) (d : Nat) (a0 a1 a2 b0 b1 b2 : Int) : (Op.equalIn (d + 1 + 1) 22 (ptV a0 a1 a2) (ptV b0 b1 b2)).run Try.prog w = .ok (eqP (a0, a1, a2) (b0, b1, b2)) w :=
  eq_arr3 (i := Try.t2) w d Try.underlying22 (by kernel_rfl) (by kernel_rfl) Try.underlying2 (by kernel_rfl) _ _ _ _ _ _
theorem cellsRow : Try.prog.cellsOf 22 = 3 := by kernel_rfl
def eqM (a b c a' b' c' : Pt) : Bool := eqP a a' && (eqP b b' && eqP c c')
theorem eqM_iff {a b c a' b' c' : Pt} : eqM a b c a' b' c' = true ↔ a = a' ∧ b = b' ∧ c = c' := by
  unfold eqM; simp only [Bool.and_eq_true, eqP_iff]
theorem eqAMap (w : World) (x0 x1 x2 x3 x4 x5 x6 x7 x8 y0 y1 y2 y3 y4 y5 y6 y7 y8 : Int) : (Op.equalIn 10000 26 (.agg #[.int .i64 x0, .int .i64 x1, .int .i64 x2, .int .i64 x3, .int .i64 x4, .int .i64 x5, .int .i64 x6, .int .i64 x7, .int .i64 x8]) (.agg #[.int .i64 y0, .int .i64 y1, .int .i64 y2, .int .i64 y3, .int .i64 y4, .int .i64 y5, .int .i64 y6, .int .i64 y7, .int .i64 y8])).run Try.prog w = .ok (eqM (x0, x1, x2) (x3, x4, x5) (x6, x7, x8) (y0, y1, y2) (y3, y4, y5) (y6, y7, y8)) w := by
  obtain ⟨p0, p1, p2⟩ := partMap w x0 x1 x2 x3 x4 x5 x6 x7 x8
  obtain ⟨q0, q1, q2⟩ := partMap w y0 y1 y2 y3 y4 y5 y6 y7 y8
  have e := eqRow w 9997
  rw [run_equalIn_array (i := Try.t22) w 9999 _ _ Try.underlying26 (by kernel_rfl), cellsRow]
  simp only [List.range_succ_eq_map, List.range_zero, List.map_cons, List.map_nil, Op.eqItems, Nat.succ_eq_add_one, Nat.zero_add, Nat.reduceAdd, Nat.reduceMul, Nat.zero_mul, Sem.run_bind, p0, q0, Result.andThen_ok, e]
  unfold eqM
  cases h0 : eqP (x0, x1, x2) (y0, y1, y2) <;> cases h1 : eqP (x3, x4, x5) (y3, y4, y5) <;> cases h2 : eqP (x6, x7, x8) (y6, y7, y8) <;> simp [p1, q1, p2, q2, e, h0, h1, h2]
@[go_sem high] theorem eqMp (w : World) (x0 x1 x2 x3 x4 x5 x6 x7 x8 y0 y1 y2 y3 y4 y5 y6 y7 y8 : Int) : (binOp .eql 26 (.agg #[.int .i64 x0, .int .i64 x1, .int .i64 x2, .int .i64 x3, .int .i64 x4, .int .i64 x5, .int .i64 x6, .int .i64 x7, .int .i64 x8]) (.agg #[.int .i64 y0, .int .i64 y1, .int .i64 y2, .int .i64 y3, .int .i64 y4, .int .i64 y5, .int .i64 y6, .int .i64 y7, .int .i64 y8])).run Try.prog w = .ok (.bool (eqM (x0, x1, x2) (x3, x4, x5) (x6, x7, x8) (y0, y1, y2) (y3, y4, y5) (y6, y7, y8))) w := by
  rw [run_eql_struct, eqAMap]; rfl
theorem eqgMp : Try.prog.eqGuardType Try.prog.depth 26 = false := by kernel_rfl
theorem calm_eqMp {o : Oper} {ρ : Operand → Value} {W : World} {k : TypeId} (x y : Operand) {x0 x1 x2 x3 x4 x5 x6 x7 x8 y0 y1 y2 y3 y4 y5 y6 y7 y8 : Int} {v : Bool} (ho : o.op = .binOp .eql 26 x y k) (hx : ρ x = .agg #[.int .i64 x0, .int .i64 x1, .int .i64 x2, .int .i64 x3, .int .i64 x4, .int .i64 x5, .int .i64 x6, .int .i64 x7, .int .i64 x8]) (hy : ρ y = .agg #[.int .i64 y0, .int .i64 y1, .int .i64 y2, .int .i64 y3, .int .i64 y4, .int .i64 y5, .int .i64 y6, .int .i64 y7, .int .i64 y8]) (hv : eqM (x0, x1, x2) (x3, x4, x5) (x6, x7, x8) (y0, y1, y2) (y3, y4, y5) (y6, y7, y8) = v) : calmAt Try.prog o ρ W (.bool v) := by
  refine calm_run ?_
  unfold execOp
  subst hv
  simp only [ho, hx, hy, Sem.run_bind, run_eqGuard_agg W .eql 26 x y _ _ eqgMp, Result.andThen_ok, eqMp, Sem.run_pure]
end Go.Proofs.Ythkbhaaodegocaa
