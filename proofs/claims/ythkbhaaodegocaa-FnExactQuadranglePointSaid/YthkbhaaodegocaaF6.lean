/- Contracts: the fourth harmonic point: the reference. -/
import Derived.Test.YthkbhaaodegocaaF5
namespace Go.Proofs.Ythkbhaaodegocaa
open Go.RowKit
set_option linter.unusedVariables false
set_option linter.unusedSimpArgs false
theorem hn_past' (w : World) (o : Obj) (n : Nat) (h : n < w.heap.size) : (w.alloc o).heap[n]? = w.heap[n]? := by
  rw [heap_alloc_old]; exact h
theorem eqgPo : Try.prog.eqGuardType Try.prog.depth 23 = false := by kernel_rfl
theorem calm_eqPo {o : Oper} {ρ : Operand → Value} {W : World} {k : TypeId} (x y : Operand) {a0 a1 a2 b0 b1 b2 : Int} {v : Bool} (ho : o.op = .binOp .eql 23 x y k) (hx : ρ x = ptV a0 a1 a2) (hy : ρ y = ptV b0 b1 b2) (hv : eqP (a0, a1, a2) (b0, b1, b2) = v) : calmAt Try.prog o ρ W (.bool v) := by
  refine calm_run ?_
  unfold execOp
  subst hv
  simp only [ho, hx, hy, Sem.run_bind, run_eqGuard_agg W .eql 23 x y _ _ eqgPo, Result.andThen_ok, eqPo, Sem.run_pure]
theorem calm_pick' {P : Program} {o : Oper} {ρ : Operand → Value} {W : World} (x y z : Operand) {c : Bool} {v : Value} (ho : o.op = .pick x y z) (hx : ρ x = .bool c) (hv : (if c = true then ρ y else ρ z) = v) : calmAt P o ρ W v := by
  refine calm_run ?_
  unfold execOp
  subst hv
  simp only [ho, hx, asBool, Sem.run_bind, Sem.run_pure, Result.andThen_ok]
theorem head_two {n : Nat} {A R S s : Pt} (h : headP ((allP n).filter (fun x => onB (n : Int) x S && (!eqP x A && !eqP x R))) = s) :
    headP (((allP n).filter (fun x => onB (n : Int) x S)).filter (fun x => !eqP x A && !eqP x R)) = s := by
  rw [List.filter_filter, ← h]
  congr 2
  funext x
  exact Bool.and_comm _ _
theorem rows3 {W : World} {g : Nat} {x y z : Int} {T : TypeId} (h : W.heap[g]? = some (.cells #[.int .i64 x, .int .i64 y, .int .i64 z] T (0, 0))) :
    W.cell? ⟨g, 0, none⟩ = some (.int .i64 x) ∧ W.cell? ⟨g, 1, none⟩ = some (.int .i64 y) ∧ W.cell? ⟨g, 2, none⟩ = some (.int .i64 z) ∧ g < W.heap.size ∧ W.frozen? ⟨g, 0, none⟩ = false ∧ W.frozen? ⟨g, 1, none⟩ = false ∧ W.frozen? ⟨g, 2, none⟩ = false :=
  ⟨by rw [cell_of_row W g 0 _ _ _ h]; rfl, by rw [cell_of_row W g 1 _ _ _ h]; rfl, by rw [cell_of_row W g 2 _ _ _ h]; rfl, (Array.getElem?_eq_some_iff.1 h).1, frozen_of_row W g 0 _ _ h, frozen_of_row W g 1 _ _ h, frozen_of_row W g 2 _ _ h⟩
theorem three_ne {p : Int} {a b c : Pt} (h : threeB p a b c = true) : eqP a b = false := by
  unfold threeB at h
  rw [Bool.and_eq_true] at h
  cases e : eqP a b with
  | false => rfl
  | true => rw [e] at h; cases h.1
theorem quadR_no {p : Int} {a b c : Pt} (h : codeOf p (ptsB p [a, b, c]) ≠ 0) : quadR p a b c = ((0, 0, 0), codeOf p (ptsB p [a, b, c])) := by
  unfold quadR; rw [if_pos h]
theorem quadR_three {p : Int} {a b c : Pt} (h : codeOf p (ptsB p [a, b, c]) = 0) (h3 : threeB p a b c = false) : quadR p a b c = ((0, 0, 0), 5) := by
  unfold quadR; rw [if_neg (by simpa using h), if_pos h3]
/-- What the walks lean on, the points named. -/
structure QuadAt (n : Nat) (A B C L R S s V1 V2 t V3 V4 u V5 o : Pt) : Prop where
  eq : quadR n A B C = (o, 0)
  hp : prB (n : Int) = true
  n3 : 3 ≤ n ∧ n ≤ 13
  iA : In13 A
  iB : In13 B
  iC : In13 C
  iR : In13 R
  is : In13 s
  iL : In13 L
  iS : In13 S
  i1 : In13 V1
  i2 : In13 V2
  it : In13 t
  i3 : In13 V3
  i4 : In13 V4
  iu : In13 u
  i5 : In13 V5
  eL : crsN n A B = L
  offL : ∃ x ∈ allP n, onB (n : Int) x L = false
  eR : headP ((allP n).filter (fun x => !onB (n : Int) x L)) = R
  eS : crsN n A R = S
  onS : ∃ x ∈ allP n, (onB (n : Int) x S = true ∧ x ≠ A ∧ x ≠ R)
  es : headP ((allP n).filter (fun x => onB (n : Int) x S && (!eqP x A && !eqP x R))) = s
  e1 : crsN n B s = V1
  e2 : crsN n C R = V2
  et : crsN n V1 V2 = t
  e3 : crsN n B R = V3
  e4 : crsN n A t = V4
  eu : crsN n V3 V4 = u
  e5 : crsN n s u = V5
  eo : crsN n L V5 = o
theorem headP_mem {f : Pt → Bool} {l : List Pt} (h : ∃ x ∈ l, f x = true) : headP (l.filter f) ∈ l := by
  obtain ⟨x, hx, hf⟩ := h
  have : x ∈ l.filter f := List.mem_filter.2 ⟨hx, hf⟩
  cases e : l.filter f with
  | nil => rw [e] at this; cases this
  | cons y r => exact (List.mem_filter.1 (show y ∈ l.filter f by rw [e]; simp)).1
theorem quad_at {p : Int} {A B C : Pt} (h : codeOf p (ptsB p [A, B, C]) = 0) (h3 : threeB p A B C = true) :
    ∃ n : Nat, p = n ∧ ∃ L R S s V1 V2 t V3 V4 u V5 o, QuadAt n A B C L R S s V1 V2 t V3 V4 u V5 o := by
  obtain ⟨hp, hpts⟩ := code_zero h
  have hb := prB_bd hp
  obtain ⟨n, rfl⟩ : ∃ n : Nat, p = n := ⟨p.toNat, by omega⟩
  simp only [ptsB, List.all_cons, List.all_nil, Bool.and_true, Bool.and_eq_true] at hpts
  obtain ⟨qa, qb, qc⟩ := hpts
  obtain ⟨f1, f2⟩ := quad_facts qa qb (three_ne h3)
  have n13 : n ≤ 13 := by omega
  have mR : quadR1 n A B ∈ allP n := headP_mem (by obtain ⟨x, hx, h2⟩ := f1; exact ⟨x, hx, by rw [h2]; rfl⟩)
  have ms : quadS n A (quadR1 n A B) ∈ allP n := headP_mem (by
    obtain ⟨x, hx, h1, h2, h3⟩ := f2
    refine ⟨x, hx, ?_⟩
    have e2 : eqP x A = false := by cases e : eqP x A with | false => rfl | true => exact (h2 (eqP_iff.1 e)).elim
    have e3 : eqP x (quadR1 n A B) = false := by cases e : eqP x (quadR1 n A B) with | false => rfl | true => exact (h3 (eqP_iff.1 e)).elim
    rw [h1, e2, e3]; rfl)
  have ci : ∀ a b, In13 (crsN n a b) := fun a b => crsN_in' (a := a) (b := b) hp
  refine ⟨n, rfl, _, _, _, _, _, _, _, _, _, _, _, _, ⟨?_, hp, by omega, in13' qa, in13' qb, in13' qc, allP_in n13 _ mR, allP_in n13 _ ms, ci _ _, ci _ _, ci _ _, ci _ _, ci _ _, ci _ _, ci _ _, ci _ _, ci _ _, rfl, f1, rfl, rfl, f2, rfl, rfl, rfl, rfl, rfl, rfl, rfl, rfl, rfl⟩⟩
  unfold quadR
  rw [if_neg (by simpa using h), if_neg (by rw [h3]; decide), Int.toNat_natCast]
end Go.Proofs.Ythkbhaaodegocaa
