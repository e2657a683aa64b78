/- Texts of the claim, in build order: S4, S5, S6, S9, T1, T2, T3, Own, Aut, MA1, MA2, OpM. No condition. -/
import Derived.Maps.AppendAt
import Derived.Great.BuildSlice
import Derived.Deep.MidRow
import Derived.Laws.MakeOwn
import Derived.OpenShut
import Derived.Test.YtoagfpdicpcjnaaZGroupOrder8
/- The Singer maps, in plain words: which code is the first. -/
namespace Go.Proofs.Ytoagfpdicpcjnaa
open Go.RowKit
set_option linter.unusedVariables false
set_option linter.unusedSimpArgs false
def unitM : M9 := ((1, 0, 0), (0, 1, 0), (0, 0, 1))
/-- The powers of a map: number k is the power k + 1. -/
def powM (p : Int) (m : M9) : Nat → M9
  | 0 => m
  | k + 1 => timesM p (powM p m k) m
def compM (p c : Int) : M9 := ((0, 1, 0), (0, 0, 1), (c % p, c / p % p, c / (p * p)))
/-- From now on: how many steps until the unit. -/
def ordF (p : Int) (m : M9) : Nat → M9 → Nat → Nat
  | 0, _, _ => 0
  | f + 1, now, k => if now = unitM then k else ordF p m f (timesM p now m) (k + 1)
def ordM (p : Int) (m : M9) : Nat := ordF p m 200 m 1
theorem ordF_spec {p : Int} {m : M9} : ∀ (f : Nat) (k : Nat), ordF p m f (powM p m k) (k + 1) ≠ 0 → ∃ j, k ≤ j ∧ j < k + f ∧ ordF p m f (powM p m k) (k + 1) = j + 1 ∧ powM p m j = unitM ∧ ∀ i, k ≤ i → i < j → powM p m i ≠ unitM
  | 0, _, h => (h rfl).elim
  | f + 1, k, h => by
    unfold ordF at h ⊢
    by_cases e : powM p m k = unitM
    · rw [if_pos e]
      exact ⟨k, Nat.le_refl _, by omega, rfl, e, fun i h1 h2 => absurd h2 (by omega)⟩
    · rw [if_neg e] at h ⊢
      obtain ⟨j, h1, h2, h3, h4, h5⟩ := ordF_spec f (k + 1) h
      refine ⟨j, by omega, by omega, h3, h4, fun i hi hj => ?_⟩
      by_cases ei : i = k
      · rw [ei]; exact e
      · exact h5 i (by omega) hj
/-- The order of a map, where it is at most 200. -/
theorem ordM_spec {p : Int} {m : M9} {K : Nat} (h : ordM p m = K) (hK : K ≠ 0) : 1 ≤ K ∧ K ≤ 200 ∧ powM p m (K - 1) = unitM ∧ ∀ i, i < K - 1 → powM p m i ≠ unitM := by
  have h0 : ordF p m 200 (powM p m 0) (0 + 1) ≠ 0 := by rw [show ordF p m 200 (powM p m 0) (0 + 1) = K from h]; exact hK
  obtain ⟨j, _, h2, h3, h4, h5⟩ := ordF_spec 200 0 h0
  have e : K = j + 1 := by rw [← h]; exact h3
  subst e
  exact ⟨by omega, by omega, h4, fun i hi => h5 i (by omega) (by simpa using hi)⟩
/-- The first code of a Singer map. -/
def firstC (p : Nat) : Nat := if p = 3 then 4 else if p = 5 then 7 else if p = 7 then 9 else if p = 11 then 14 else 17
def goodB (p c : Nat) : Bool := c % p != 0 && ordM p (compM p c) == p * p + p + 1
def checkC (p : Nat) : Bool := (List.range (firstC p)).all (fun c => c % p == 0 || (ordM p (compM p c) != 0 && ordM p (compM p c) != p * p + p + 1)) && (firstC p % p != 0 && ordM p (compM p (firstC p)) == p * p + p + 1)
theorem checks : ∀ p ∈ [3, 5, 7, 11, 13], checkC p = true := by decide +kernel
theorem inM_comp {p c : Nat} (hp : prB (p : Int) = true) (hc : c < p * p * p) : InM (compM p c) := by
  have hb := prB_bd hp
  have h1 : In12 ((c : Int) % p) := in12_mod hp
  have h2 : In12 ((c : Int) / p % p) := in12_mod hp
  have h3 : In12 ((c : Int) / ((p : Int) * p)) := by
    have e : (c : Int) / ((p : Int) * p) = ((c / (p * p) : Nat) : Int) := by simp
    rw [e]
    have : c / (p * p) < p := Nat.div_lt_of_lt_mul (by omega)
    generalize c / (p * p) = q at *
    exact ⟨Int.natCast_nonneg _, by omega⟩
  intro z hz
  simp only [compM, listM, List.mem_cons, List.not_mem_nil, or_false] at hz
  rcases hz with rfl | rfl | rfl | rfl | rfl | rfl | rfl | rfl | rfl <;> first | exact h1 | exact h2 | exact h3 | exact ⟨by decide, by decide⟩
theorem inM_pow {p : Int} {m : M9} (hp : prB p = true) (hm : InM m) (k : Nat) : InM (powM p m k) := by
  cases k with
  | zero => exact hm
  | succ k => exact inM_times hp
theorem eqM_dec (x y : M9) : eqM x.1 x.2.1 x.2.2 y.1 y.2.1 y.2.2 = decide (x = y) := by
  cases h : eqM x.1 x.2.1 x.2.2 y.1 y.2.1 y.2.2 with
  | true => obtain ⟨a, b, c⟩ := eqM_iff.1 h; exact (decide_eq_true (Prod.ext a (Prod.ext b c))).symm
  | false => exact (decide_eq_false (fun e => by rw [e, eqM_iff.2 ⟨rfl, rfl, rfl⟩] at h; cases h)).symm
end Go.Proofs.Ytoagfpdicpcjnaa
/- Contracts: the orders of maps. (Printed by gens5.py, a program of this session.) -/
namespace Go.Proofs.Ytoagfpdicpcjnaa
open Go.RowKit
set_option linter.unusedVariables false
set_option linter.unusedSimpArgs false
@[reducible] def cellsM9 (m : M9) : Array Value := #[.int .i64 m.1.1, .int .i64 m.1.2.1, .int .i64 m.1.2.2, .int .i64 m.2.1.1, .int .i64 m.2.1.2.1, .int .i64 m.2.1.2.2, .int .i64 m.2.2.1, .int .i64 m.2.2.2.1, .int .i64 m.2.2.2.2]
theorem numW {a b : Int} (h : a = b) : Value.int .i64 a = Value.int .i64 b := by rw [h]
@[go_sem high] theorem neMp (w : World) (x0 x1 x2 x3 x4 x5 x6 x7 x8 y0 y1 y2 y3 y4 y5 y6 y7 y8 : Int) : (binOp .neq 44 (.agg #[.int .i64 x0, .int .i64 x1, .int .i64 x2, .int .i64 x3, .int .i64 x4, .int .i64 x5, .int .i64 x6, .int .i64 x7, .int .i64 x8]) (.agg #[.int .i64 y0, .int .i64 y1, .int .i64 y2, .int .i64 y3, .int .i64 y4, .int .i64 y5, .int .i64 y6, .int .i64 y7, .int .i64 y8])).run Try.prog w = .ok (.bool (!eqM (x0, x1, x2) (x3, x4, x5) (x6, x7, x8) (y0, y1, y2) (y3, y4, y5) (y6, y7, y8))) w := by
  rw [run_neq_struct, eqAMap]; rfl
theorem calm_neMp {o : Oper} {ρ : Operand → Value} {W : World} {k : TypeId} (x y : Operand) {a b : M9} {v : Bool} (ho : o.op = .binOp .neq 44 x y k) (hx : ρ x = .agg (cellsM9 a)) (hy : ρ y = .agg (cellsM9 b)) (hv : (!decide (a = b)) = v) : calmAt Try.prog o ρ W (.bool v) := by
  refine calm_run ?_
  unfold execOp
  subst hv
  simp only [ho, hx, hy, Sem.run_bind, run_eqGuard_agg W .neq 44 x y _ _ eqgMp, Result.andThen_ok, neMp, Sem.run_pure]
  rw [eqM_dec a b]
theorem calm_eqMp9 {o : Oper} {ρ : Operand → Value} {W : World} {k : TypeId} (x y : Operand) {a b : M9} {v : Bool} (ho : o.op = .binOp .eql 44 x y k) (hx : ρ x = .agg (cellsM9 a)) (hy : ρ y = .agg (cellsM9 b)) (hv : decide (a = b) = v) : calmAt Try.prog o ρ W (.bool v) := by
  refine calm_run ?_
  unfold execOp
  subst hv
  simp only [ho, hx, hy, Sem.run_bind, run_eqGuard_agg W .eql 44 x y _ _ eqgMp, Result.andThen_ok, eqMp, Sem.run_pure]
  rw [eqM_dec a b]
def ordT (K n : Nat) : Int := if K ≤ n then (K : Int) else 0
end Go.Proofs.Ytoagfpdicpcjnaa
/- Contracts: the Singer map, as the program and as the reference find it. (Printed by gens6.py, a program of this session.) -/
namespace Go.Proofs.Ytoagfpdicpcjnaa
open Go.RowKit
set_option linter.unusedVariables false
set_option linter.unusedSimpArgs false
theorem det_comp (n c : Nat) (hn : 3 ≤ n) : detZ (0, 1, 0) (0, 0, 1) ((c : Int) % (n : Int), (c : Int) / (n : Int) % (n : Int), (c : Int) / ((n : Int) * (n : Int))) % (n : Int) = ((c % n : Nat) : Int) := by
  unfold detZ
  simp
theorem comp_cells (n c : Nat) : cellsM9 (compM n c) = #[.int .i64 0, .int .i64 1, .int .i64 0, .int .i64 0, .int .i64 0, .int .i64 1, .int .i64 ((c : Int) % (n : Int)), .int .i64 ((c : Int) / (n : Int) % (n : Int)), .int .i64 ((c : Int) / ((n : Int) * (n : Int)))] := rfl
structure Codes (n : Nat) : Prop where
  pr : prB (n : Int) = true
  lt : firstC n < n * n * n
  no : ∀ c, c < firstC n → c % n = 0 ∨ (c % n ≠ 0 ∧ ordM n (compM n c) ≠ 0 ∧ ordM n (compM n c) ≠ n * n + n + 1)
  yes : firstC n % n ≠ 0 ∧ ordM n (compM n (firstC n)) = n * n + n + 1
theorem codes_of {n : Nat} (hp : prB (n : Int) = true) : Codes n := by
  have hm : n ∈ [3, 5, 7, 11, 13] := by
    have := prB_cases hp
    simp only [List.mem_cons, List.not_mem_nil, or_false]
    omega
  have hk := checks n hm
  unfold checkC at hk
  simp only [Bool.and_eq_true, bne_iff_ne, ne_eq, beq_iff_eq] at hk
  refine ⟨hp, ?_, fun c hc => ?_, hk.2⟩
  · simp only [List.mem_cons, List.not_mem_nil, or_false] at hm
    rcases hm with rfl | rfl | rfl | rfl | rfl <;> decide
  · have := List.all_eq_true.1 hk.1 c (List.mem_range.2 hc)
    simp only [Bool.or_eq_true, beq_iff_eq, Bool.and_eq_true, bne_iff_ne, ne_eq] at this
    rcases this with h | h
    · exact .inl h
    · by_cases h0 : c % n = 0
      · exact .inl h0
      · exact .inr ⟨h0, h.1, h.2⟩
end Go.Proofs.Ytoagfpdicpcjnaa
/- Orbits of a point under a map, in plain words; that the Singer orbits close. -/
namespace Go.Proofs.Ytoagfpdicpcjnaa
open Go.RowKit
set_option linter.unusedVariables false
set_option linter.unusedSimpArgs false
def dotP (a b : Pt) : Int := a.1 * b.1 + a.2.1 * b.2.1 + a.2.2 * b.2.2
def imgP (p : Int) (m : M9) (a : Pt) : Pt := nrm3 p (dotP m.1 a % p) (dotP m.2.1 a % p) (dotP m.2.2 a % p)
theorem nrm3_in {p : Int} (hp : prB p = true) (x y z : Int) : In13 (nrm3 p x y z) := by
  obtain ⟨h3, h13⟩ := prB_bd hp
  unfold nrm3
  exact ⟨in12_mod hp, in12_mod hp, in12_mod hp⟩
theorem imgP_in {p : Int} (hp : prB p = true) (m : M9) (a : Pt) : In13 (imgP p m a) := nrm3_in hp _ _ _
def orbA (p : Int) (m : M9) (a : Pt) : Nat → Pt
  | 0 => a
  | k + 1 => imgP p m (orbA p m a k)
theorem orbA_in {p : Int} (hp : prB p = true) {m : M9} {a : Pt} (ha : In13 a) (k : Nat) : In13 (orbA p m a k) := by
  cases k with
  | zero => exact ha
  | succ k => exact imgP_in hp _ _
def orbL (p : Int) (m : M9) (a : Pt) (k : Nat) : List Pt := (List.range k).map (orbA p m a)
theorem orbL_succ (p : Int) (m : M9) (a : Pt) (k : Nat) : orbL p m a (k + 1) = orbL p m a k ++ [orbA p m a k] := by
  unfold orbL; rw [List.range_succ, List.map_append]; rfl
theorem orbL_length (p : Int) (m : M9) (a : Pt) (k : Nat) : (orbL p m a k).length = k := by unfold orbL; simp
theorem orbL_at (p : Int) (m : M9) (a : Pt) (k i : Nat) (h : i < k) : (orbL p m a k).getD i (0, 0, 0) = orbA p m a i := by
  unfold orbL; simp [List.getD, h]
/-- The orbit is back at its first point after k steps, and not before. -/
structure Orb (p : Int) (m : M9) (a : Pt) (k : Nat) : Prop where
  pr : prB p = true
  inm : InM m
  inp : In13 a
  pos : 0 < k ∧ k ≤ 1000
  back : orbA p m a k = a
  no : ∀ i, 0 < i → i < k → orbA p m a i ≠ a
def orbF (p : Int) (m : M9) (a : Pt) : Nat → Pt → Bool
  | 0, now => now == a
  | f + 1, now => now != a && orbF p m a f (imgP p m now)
theorem orbF_spec {p : Int} {m : M9} {a : Pt} : ∀ (f k : Nat), orbF p m a f (orbA p m a k) = true → (∀ i, k ≤ i → i < k + f → orbA p m a i ≠ a) ∧ orbA p m a (k + f) = a
  | 0, k, h => ⟨fun i h1 h2 => by omega, by simpa [orbF] using h⟩
  | f + 1, k, h => by
    unfold orbF at h
    simp only [Bool.and_eq_true, bne_iff_ne, ne_eq] at h
    obtain ⟨h1, h2⟩ := orbF_spec f (k + 1) h.2
    refine ⟨fun i hi hj => ?_, by rw [show k + (f + 1) = k + 1 + f by omega]; exact h2⟩
    by_cases e : i = k
    · rw [e]; exact h.1
    · exact h1 i (by omega) (by omega)
def checkO (p : Nat) : Bool := orbF p (compM p (firstC p)) (0, 0, 1) (p * p + p) (imgP p (compM p (firstC p)) (0, 0, 1))
theorem checksO : ∀ p ∈ [3, 5, 7, 11, 13], checkO p = true := by decide +kernel
/-- The Singer orbit: its map, its length. -/
theorem orb_of {n : Nat} (hp : prB (n : Int) = true) : Orb (n : Int) (compM n (firstC n)) (0, 0, 1) (n * n + n + 1) := by
  have hm : n ∈ [3, 5, 7, 11, 13] := by
    have := prB_cases hp
    simp only [List.mem_cons, List.not_mem_nil, or_false]
    omega
  have hk := checksO n hm
  obtain ⟨h1, h2⟩ := orbF_spec (p := (n : Int)) (m := compM n (firstC n)) (a := (0, 0, 1)) (n * n + n) 1 hk
  obtain ⟨h3, h13⟩ := prB_bd hp
  have h2le : n * n ≤ 13 * 13 := Nat.mul_le_mul (by omega) (by omega)
  exact ⟨hp, inM_comp hp (codes_of hp).lt, ⟨by decide, by decide, by decide⟩, by omega, by rw [show n * n + n + 1 = 1 + (n * n + n) by omega]; exact h2, fun i hi hj => h1 i (by omega) (by omega)⟩
/-- The Singer order of a prime. -/
def singL (n : Nat) : List Pt := orbL (n : Int) (compM n (firstC n)) (0, 0, 1) (n * n + n + 1)
theorem singL_length (n : Nat) : (singL n).length = n * n + n + 1 := orbL_length _ _ _ _
theorem singL_in {n : Nat} (hp : prB (n : Int) = true) : ∀ a ∈ singL n, In13 a := by
  intro a ha
  obtain ⟨i, _, rfl⟩ := List.mem_map.1 ha
  exact orbA_in hp ⟨by decide, by decide, by decide⟩ i
end Go.Proofs.Ytoagfpdicpcjnaa
/- Contracts: the image of a point under a map, the program's and the reference's. (Printed by gent1.py, a program of this session.) -/
namespace Go.Proofs.Ytoagfpdicpcjnaa
open Go.RowKit
set_option linter.unusedVariables false
set_option linter.unusedSimpArgs false
set_option maxRecDepth 20000 in
set_option maxHeartbeats 4000000 in
theorem image_any (p : Int) (m : M9) (a : Pt) (w : World) (hp : prB p = true) (hm : InM m) (ha : In13 a) :
    Calls Try.prog 50 #[.int .i64 p, .agg (cellsM9 m), ptV a.1 a.2.1 a.2.2] w (Ret w (ptV (imgP p m a).1 (imgP p m a).2.1 (imgP p m a).2.2)) := by
  obtain ⟨i0, i1, i2, _, _, _⟩ := inM_at hm
  have hb : ∀ r : Pt, -4611686018427387904 ≤ dotP r a % p ∧ dotP r a % p ≤ 4611686018427387904 := fun r => by
    have := prB_bd hp
    have h1 := Int.emod_nonneg (dotP r a) (show p ≠ 0 by omega)
    have h2 := Int.emod_lt_of_pos (dotP r a) (show 0 < p by omega)
    omega
  have H0 : Hid (∀ W, Calls Try.prog 66 #[.int .i64 p, ptV m.1.1 m.1.2.1 m.1.2.2, ptV a.1 a.2.1 a.2.2] W (Ret W (.int .i64 (dotP m.1 a % p)))) := Lib.hid (fun W => dot_any p _ _ _ _ _ _ W hp i0 ha)
  have H1 : Hid (∀ W, Calls Try.prog 66 #[.int .i64 p, ptV m.2.1.1 m.2.1.2.1 m.2.1.2.2, ptV a.1 a.2.1 a.2.2] W (Ret W (.int .i64 (dotP m.2.1 a % p)))) := Lib.hid (fun W => dot_any p _ _ _ _ _ _ W hp i1 ha)
  have H2 : Hid (∀ W, Calls Try.prog 66 #[.int .i64 p, ptV m.2.2.1 m.2.2.2.1 m.2.2.2.2, ptV a.1 a.2.1 a.2.2] W (Ret W (.int .i64 (dotP m.2.2 a % p)))) := Lib.hid (fun W => dot_any p _ _ _ _ _ _ W hp i2 ha)
  have HO : Hid (∀ W, Calls Try.prog 68 #[.int .i64 p, .int .i64 (dotP m.1 a % p), .int .i64 (dotP m.2.1 a % p), .int .i64 (dotP m.2.2 a % p)] W (Ret W (ptV (imgP p m a).1 (imgP p m a).2.1 (imgP p m a).2.2))) := Lib.hid (fun W => pointOf_any p _ _ _ W hp (hb _) (hb _) (hb _))
  clear hb i0 i1 i2 hm ha
  generalize imgP p m a = r at *
  generalize dotP m.1 a % p = d0 at *
  generalize dotP m.2.1 a % p = d1 at *
  generalize dotP m.2.2 a % p = d2 at *
  obtain ⟨⟨x0, x1, x2⟩, ⟨x3, x4, x5⟩, ⟨x6, x7, x8⟩⟩ := m
  obtain ⟨a0, a1, a2⟩ := a
  obtain ⟨r0, r1, r2⟩ := r
  dsimp only [cellsM9] at *
  go_enter Try.func50, Try.ntmps50
  go_wp2
  have kx : (((w.alloc (.cells #[.int .i64 x0, .int .i64 x1, .int .i64 x2, .int .i64 x3, .int .i64 x4, .int .i64 x5, .int .i64 x6, .int .i64 x7, .int .i64 x8] 44)).alloc (.cells #[.int .i64 a0, .int .i64 a1, .int .i64 a2] 33)).alloc (.cells #[.int .i64 0, .int .i64 0, .int .i64 0] 33)).heap[w.heap.size]? = some (.cells #[.int .i64 x0, .int .i64 x1, .int .i64 x2, .int .i64 x3, .int .i64 x4, .int .i64 x5, .int .i64 x6, .int .i64 x7, .int .i64 x8] 44 (0, 0)) := by rw [hn_pastN _ _ _ (by first | omega | (simp; done) | (simp; omega)), hn_pastN _ _ _ (by first | omega | (simp; done) | (simp; omega)), hn_atN _ _ _ (by simp)]
  have ka : (((w.alloc (.cells #[.int .i64 x0, .int .i64 x1, .int .i64 x2, .int .i64 x3, .int .i64 x4, .int .i64 x5, .int .i64 x6, .int .i64 x7, .int .i64 x8] 44)).alloc (.cells #[.int .i64 a0, .int .i64 a1, .int .i64 a2] 33)).alloc (.cells #[.int .i64 0, .int .i64 0, .int .i64 0] 33)).heap[w.heap.size + 1]? = some (.cells #[.int .i64 a0, .int .i64 a1, .int .i64 a2] 33 (0, 0)) := by rw [hn_pastN _ _ _ (by first | omega | (simp; done) | (simp; omega)), hn_atN _ _ _ (by simp)]
  have kr : (((w.alloc (.cells #[.int .i64 x0, .int .i64 x1, .int .i64 x2, .int .i64 x3, .int .i64 x4, .int .i64 x5, .int .i64 x6, .int .i64 x7, .int .i64 x8] 44)).alloc (.cells #[.int .i64 a0, .int .i64 a1, .int .i64 a2] 33)).alloc (.cells #[.int .i64 0, .int .i64 0, .int .i64 0] 33)).heap[w.heap.size + 1 + 1]? = some (.cells #[.int .i64 0, .int .i64 0, .int .i64 0] 33 (0, 0)) := by rw [hn_atN _ _ _ (by simp)]
  have lx := (Array.getElem?_eq_some_iff.1 kx).1
  have la := (Array.getElem?_eq_some_iff.1 ka).1
  have lr := (Array.getElem?_eq_some_iff.1 kr).1
  have HB : Below w.heap.size w (((w.alloc (.cells #[.int .i64 x0, .int .i64 x1, .int .i64 x2, .int .i64 x3, .int .i64 x4, .int .i64 x5, .int .i64 x6, .int .i64 x7, .int .i64 x8] 44)).alloc (.cells #[.int .i64 a0, .int .i64 a1, .int .i64 a2] 33)).alloc (.cells #[.int .i64 0, .int .i64 0, .int .i64 0] 33)) := (by repeat (first | exact Below.refl _ _ | refine bset ?_ _ _ (by omega) _ | refine bal ?_ _ | refine bdrN ?_ _ | refine bdr ?_))
  generalize (((w.alloc (.cells #[.int .i64 x0, .int .i64 x1, .int .i64 x2, .int .i64 x3, .int .i64 x4, .int .i64 x5, .int .i64 x6, .int .i64 x7, .int .i64 x8] 44)).alloc (.cells #[.int .i64 a0, .int .i64 a1, .int .i64 a2] 33)).alloc (.cells #[.int .i64 0, .int .i64 0, .int .i64 0] 33)) = V at *
  refine region_via 17 [(7, .int .i64 p), (8, .int .i64 p), (9, .pointer (some ⟨w.heap.size, 0, none⟩)), (10, ptV x0 x1 x2), (11, ptV a0 a1 a2), (12, .int .i64 d0), (13, .int .i64 p), (14, .pointer (some ⟨w.heap.size, 3, none⟩)), (15, ptV x3 x4 x5), (16, ptV a0 a1 a2), (17, .int .i64 d1), (18, .int .i64 p), (19, .pointer (some ⟨w.heap.size, 6, none⟩)), (20, ptV x6 x7 x8), (21, ptV a0 a1 a2), (22, .int .i64 d2), (23, ptV r0 r1 r2)] (by kernel_rfl) (by decide) (by kernel_rfl) (by kernel_rfl) (by kernel_rfl) (fun aE hpe => ?_)
  simp only [puts, Act.put, List.setIfInBounds_toArray, List.set_cons_zero, List.set_cons_succ] at hpe
  subst hpe
  refine ⟨⟨.inr (.inr ?_), .inr (.inr ?_), .inr (.inr ?_), .inr (.inr ?_), .inr (.inr ?_), .inr (.inr ?_), .inr (.inr ?_), .inr (.inr ?_), .inr (.inr ?_), .inr (.inr ?_), .inr (.inr ?_), .inr (.inr ?_), .inr (.inr ?_), .inr (.inr ?_), .inr (.inr ?_), .inr (.inr ?_), .inr (.inr ?_), trivial⟩, ?_⟩
  · exact CalmG.mk 7 (.int .i64 p) rfl rfl rfl (fun W hW => calm_move (.tmp 0) rfl rfl)
  · exact CalmG.mk 8 (.int .i64 p) rfl rfl rfl (fun W hW => calm_move (.tmp 0) rfl rfl)
  · exact CalmG.mk 9 (.pointer (some ⟨w.heap.size, 0, none⟩)) rfl rfl rfl (fun W hW => calm_run (by simp [execOp, Act.eval, go_sem]))
  · exact CalmG.mk 10 (ptV x0 x1 x2) rfl rfl rfl (fun W hW => calm_loadPt' 30 (.tmp 9) rfl rfl (row_int ((hW.block _ lx).trans kx) rfl) (row_int ((hW.block _ lx).trans kx) rfl) (row_int ((hW.block _ lx).trans kx) rfl) Try.sizeOf30 Try.isAgg30)
  · exact CalmG.mk 11 (ptV a0 a1 a2) rfl rfl rfl (fun W hW => calm_loadPt' 33 (.tmp 5) rfl rfl (row_int ((hW.block _ la).trans ka) rfl) (row_int ((hW.block _ la).trans ka) rfl) (row_int ((hW.block _ la).trans ka) rfl) Try.sizeOf33 Try.isAgg33)
  · exact CalmG.mk 12 (.int .i64 d0) rfl rfl rfl (fun W hW => calm_call 66 _ #[.int .i64 p, ptV x0 x1 x2, ptV a0 a1 a2] rfl rfl rfl (by simp [Act.eval]) (Try.call66 _ _) (H0.out W))
  · exact CalmG.mk 13 (.int .i64 p) rfl rfl rfl (fun W hW => calm_move (.tmp 0) rfl rfl)
  · exact CalmG.mk 14 (.pointer (some ⟨w.heap.size, 3, none⟩)) rfl rfl rfl (fun W hW => calm_run (by simp [execOp, Act.eval, go_sem]))
  · exact CalmG.mk 15 (ptV x3 x4 x5) rfl rfl rfl (fun W hW => calm_loadPt' 30 (.tmp 14) rfl rfl (row_int ((hW.block _ lx).trans kx) rfl) (row_int ((hW.block _ lx).trans kx) rfl) (row_int ((hW.block _ lx).trans kx) rfl) Try.sizeOf30 Try.isAgg30)
  · exact CalmG.mk 16 (ptV a0 a1 a2) rfl rfl rfl (fun W hW => calm_loadPt' 33 (.tmp 5) rfl rfl (row_int ((hW.block _ la).trans ka) rfl) (row_int ((hW.block _ la).trans ka) rfl) (row_int ((hW.block _ la).trans ka) rfl) Try.sizeOf33 Try.isAgg33)
  · exact CalmG.mk 17 (.int .i64 d1) rfl rfl rfl (fun W hW => calm_call 66 _ #[.int .i64 p, ptV x3 x4 x5, ptV a0 a1 a2] rfl rfl rfl (by simp [Act.eval]) (Try.call66 _ _) (H1.out W))
  · exact CalmG.mk 18 (.int .i64 p) rfl rfl rfl (fun W hW => calm_move (.tmp 0) rfl rfl)
  · exact CalmG.mk 19 (.pointer (some ⟨w.heap.size, 6, none⟩)) rfl rfl rfl (fun W hW => calm_run (by simp [execOp, Act.eval, go_sem]))
  · exact CalmG.mk 20 (ptV x6 x7 x8) rfl rfl rfl (fun W hW => calm_loadPt' 30 (.tmp 19) rfl rfl (row_int ((hW.block _ lx).trans kx) rfl) (row_int ((hW.block _ lx).trans kx) rfl) (row_int ((hW.block _ lx).trans kx) rfl) Try.sizeOf30 Try.isAgg30)
  · exact CalmG.mk 21 (ptV a0 a1 a2) rfl rfl rfl (fun W hW => calm_loadPt' 33 (.tmp 5) rfl rfl (row_int ((hW.block _ la).trans ka) rfl) (row_int ((hW.block _ la).trans ka) rfl) (row_int ((hW.block _ la).trans ka) rfl) Try.sizeOf33 Try.isAgg33)
  · exact CalmG.mk 22 (.int .i64 d2) rfl rfl rfl (fun W hW => calm_call 66 _ #[.int .i64 p, ptV x6 x7 x8, ptV a0 a1 a2] rfl rfl rfl (by simp [Act.eval]) (Try.call66 _ _) (H2.out W))
  · exact CalmG.mk 23 (ptV r0 r1 r2) rfl rfl rfl (fun W hW => calm_call 68 _ #[.int .i64 p, .int .i64 d0, .int .i64 d1, .int .i64 d2] rfl rfl rfl (by simp [Act.eval]) (Try.call68 _ _) (HO.out W))
  intro W hW
  simp only [List.drop_succ_cons, List.drop_zero]
  refine wpList_store_row _ rfl 33 _ _ rfl rfl (g := w.heap.size + 1 + 1) (T := 33) (cs := #[.int .i64 0, .int .i64 0, .int .i64 0]) (U := #[.int .i64 r0, .int .i64 r1, .int .i64 r2]) rfl rfl ((hW.block _ lr).trans kr) rfl Try.sizeOf33 (by simp [Value.oneCell']) ?_
  refine wpList_nil ?_
  go_wp2
  exact bodyPost_ret (v := ptV r0 r1 r2) (results_row Try.results50 rfl (setRow_heap _ _ #[.int .i64 0, .int .i64 0, .int .i64 0] _ _ _ ((hW.block _ lr).trans kr)) 3 rfl Try.sizeOf33 Try.isAgg33) rfl ⟨rfl, below_setRowN (low_tr' HB hW (by omega)) (by omega) _⟩
end Go.Proofs.Ytoagfpdicpcjnaa
/- Contracts: the image of a point under a map, as the reference makes it. (Printed by gent2.py, a program of this session.) -/
namespace Go.Proofs.Ytoagfpdicpcjnaa
open Go.RowKit
set_option linter.unusedVariables false
set_option linter.unusedSimpArgs false
theorem src1 {W : World} {g o : Nat} {x : Int} (d0 : W.cell? ⟨g, o, none⟩ = some (.int .i64 x)) :
    ∀ (j : Nat) (u : Value), [Value.int .i64 x][j]? = some u → W.cell? ((⟨g, o, none⟩ : Addr).add j) = some u := by
  intro j u hj
  have hadd : (⟨g, o, none⟩ : Addr).add j = ⟨g, o + j, none⟩ := by unfold Addr.add; split <;> simp_all
  rw [hadd]
  match j, hj with
  | 0, hj => simpa using d0.trans (by simpa using hj)
  | j + 1, hj => simp at hj
theorem oneA (x : Int) : ∀ u ∈ [Value.int .i64 x], u.oneCell' = true := by
  intro u hu
  rw [List.mem_singleton.1 hu]; rfl
set_option maxRecDepth 20000 in
set_option maxHeartbeats 8000000 in
theorem l02Image_any (p : Int) (m : M9) (a : Pt) (w : World) (hp : prB p = true) (hm : InM m) (ha : In13 a) :
    Calls Try.prog 48 #[.int .i64 p, .agg (cellsM9 m), ptV a.1 a.2.1 a.2.2] w (Ret w (ptV (imgP p m a).1 (imgP p m a).2.1 (imgP p m a).2.2)) := by
  obtain ⟨i0, hi, hz0, hz1, hz2⟩ := info_parts info64
  have HI0 := Lib.hid hi; have HZ0 := Lib.hid hz0; have HZ1 := Lib.hid hz1; have HZ2 := Lib.hid hz2
  have hpb := prB_bd hp
  have hb : ∀ r : Pt, -4611686018427387904 ≤ dotP r a % p ∧ dotP r a % p ≤ 4611686018427387904 := fun r => by
    have h1 := Int.emod_nonneg (dotP r a) (show p ≠ 0 by omega)
    have h2 := Int.emod_lt_of_pos (dotP r a) (show 0 < p by omega)
    omega
  have HNo : Hid (∀ (W : World) (g cap : Nat), (∀ i, i < 3 → W.cell? ⟨g, 0 + i, none⟩ = some (.int .i64 ([dotP m.1 a % p, dotP m.2.1 a % p, dotP m.2.2 a % p].getD i 0))) → Calls Try.prog 56 #[.int .i64 p, .slice (some ⟨g, 0, none⟩) 3 cap] W (NormPost W p [dotP m.1 a % p, dotP m.2.1 a % p, dotP m.2.2 a % p] 3)) :=
    Lib.hid (fun W g cap hc => l01Norm_any p g 0 3 cap [dotP m.1 a % p, dotP m.2.1 a % p, dotP m.2.2 a % p] W hp rfl (by omega) hc (fun i hi => by
      rcases (show i = 0 ∨ i = 1 ∨ i = 2 by omega) with rfl | rfl | rfl
      · exact hb _
      · exact hb _
      · exact hb _))
  have HNl : Hid (normL p [dotP m.1 a % p, dotP m.2.1 a % p, dotP m.2.2 a % p] = [(imgP p m a).1, (imgP p m a).2.1, (imgP p m a).2.2]) := Lib.hid rfl
  generalize imgP p m a = r at *
  obtain ⟨⟨x0, x1, x2⟩, ⟨x3, x4, x5⟩, ⟨x6, x7, x8⟩⟩ := m
  obtain ⟨a0, a1, a2⟩ := a
  obtain ⟨r0, r1, r2⟩ := r
  dsimp only [cellsM9, dotP] at *
  have bx0 : In12 x0 := hm _ (by simp [listM])
  have bx1 : In12 x1 := hm _ (by simp [listM])
  have bx2 : In12 x2 := hm _ (by simp [listM])
  have bx3 : In12 x3 := hm _ (by simp [listM])
  have bx4 : In12 x4 := hm _ (by simp [listM])
  have bx5 : In12 x5 := hm _ (by simp [listM])
  have bx6 : In12 x6 := hm _ (by simp [listM])
  have bx7 : In12 x7 := hm _ (by simp [listM])
  have bx8 : In12 x8 := hm _ (by simp [listM])
  obtain ⟨ba0, ba1, ba2⟩ := ha
  replace ba0 : In12 a0 := ba0
  replace ba1 : In12 a1 := ba1
  replace ba2 : In12 a2 := ba2
  have w0_0 := wmul bx0 ba0
  have w0_1 := wmul bx1 ba1
  have w0_2 := wmul bx2 ba2
  have w0_3 := wadd2 bx0 ba0 bx1 ba1
  have w0_4 := wadd3 bx0 ba0 bx1 ba1 bx2 ba2
  have e0 : Int.tmod (x0 * a0 + x1 * a1 + x2 * a2) p = (x0 * a0 + x1 * a1 + x2 * a2) % p := Int.tmod_eq_emod_of_nonneg (dot12 bx0 ba0 bx1 ba1 bx2 ba2)
  have v0 : IntKind.wrap .i64 ((x0 * a0 + x1 * a1 + x2 * a2) % p) = (x0 * a0 + x1 * a1 + x2 * a2) % p := wrap_small (modb hpb)
  have w_0 := Lib.hid (And.intro w0_0 (And.intro w0_1 (And.intro w0_2 (And.intro w0_3 (And.intro w0_4 (And.intro e0 v0))))))
  clear w0_0 w0_1 w0_2 w0_3 w0_4 e0 v0
  have w1_0 := wmul bx3 ba0
  have w1_1 := wmul bx4 ba1
  have w1_2 := wmul bx5 ba2
  have w1_3 := wadd2 bx3 ba0 bx4 ba1
  have w1_4 := wadd3 bx3 ba0 bx4 ba1 bx5 ba2
  have e1 : Int.tmod (x3 * a0 + x4 * a1 + x5 * a2) p = (x3 * a0 + x4 * a1 + x5 * a2) % p := Int.tmod_eq_emod_of_nonneg (dot12 bx3 ba0 bx4 ba1 bx5 ba2)
  have v1 : IntKind.wrap .i64 ((x3 * a0 + x4 * a1 + x5 * a2) % p) = (x3 * a0 + x4 * a1 + x5 * a2) % p := wrap_small (modb hpb)
  have w_1 := Lib.hid (And.intro w1_0 (And.intro w1_1 (And.intro w1_2 (And.intro w1_3 (And.intro w1_4 (And.intro e1 v1))))))
  clear w1_0 w1_1 w1_2 w1_3 w1_4 e1 v1
  have w2_0 := wmul bx6 ba0
  have w2_1 := wmul bx7 ba1
  have w2_2 := wmul bx8 ba2
  have w2_3 := wadd2 bx6 ba0 bx7 ba1
  have w2_4 := wadd3 bx6 ba0 bx7 ba1 bx8 ba2
  have e2 : Int.tmod (x6 * a0 + x7 * a1 + x8 * a2) p = (x6 * a0 + x7 * a1 + x8 * a2) % p := Int.tmod_eq_emod_of_nonneg (dot12 bx6 ba0 bx7 ba1 bx8 ba2)
  have v2 : IntKind.wrap .i64 ((x6 * a0 + x7 * a1 + x8 * a2) % p) = (x6 * a0 + x7 * a1 + x8 * a2) % p := wrap_small (modb hpb)
  have w_2 := Lib.hid (And.intro w2_0 (And.intro w2_1 (And.intro w2_2 (And.intro w2_3 (And.intro w2_4 (And.intro e2 v2))))))
  clear w2_0 w2_1 w2_2 w2_3 w2_4 e2 v2
  have hpn : ¬ p = 0 := by omega
  clear hi hz0 hz1 hz2 hp hm hb hpb bx0 bx1 bx2 bx3 bx4 bx5 bx6 bx7 bx8 ba0 ba1 ba2
  go_enter Try.func48, Try.ntmps48
  go_wp2
  go_loopw [7, 8] (fun v i wr => ∃ k : Nat, k ≤ 3 ∧ i = .int .i64 k ∧ Hid (wr.ownsRow (w.heap.size + 1 + 1 + 1) 2 1 v k (ints ([(x0 * a0 + x1 * a1 + x2 * a2) % p, (x3 * a0 + x4 * a1 + x5 * a2) % p, (x6 * a0 + x7 * a1 + x8 * a2) % p].take k))) ∧ wr.heap[w.heap.size]? = some (.cells #[.int .i64 x0, .int .i64 x1, .int .i64 x2, .int .i64 x3, .int .i64 x4, .int .i64 x5, .int .i64 x6, .int .i64 x7, .int .i64 x8] 44 (0, 0)) ∧ wr.heap[w.heap.size + 1]? = some (.cells #[.int .i64 a0, .int .i64 a1, .int .i64 a2] 33 (0, 0)) ∧ wr.heap[w.heap.size + 1 + 1]? = some (.cells #[.int .i64 0, .int .i64 0, .int .i64 0] 33 (0, 0)) ∧ Hid (Below w.heap.size w wr)) (fun _ i wr => 3 - (intOf i).toNat)
  case atStart =>
    refine ⟨0, by omega, rfl, Lib.hid ?_, ?_, ?_, ?_, Lib.hid (by repeat (first | exact Below.refl _ _ | refine bset ?_ _ _ (by omega) _ | refine bal ?_ _ | refine bdrN ?_ _ | refine bdr ?_))⟩
    · exact ⟨rfl, .inr ⟨(w.heap.size + 1 + 1 + 1), 0, #[], rfl, Nat.le_refl _, by rw [hn_atN _ _ _ (by simp)], Nat.le_refl _, by unfold maxLen; omega, rfl, rfl⟩⟩
    · rw [hn_pastN _ _ _ (by first | omega | (simp; done) | (simp; omega)), hn_pastN _ _ _ (by first | omega | (simp; done) | (simp; omega)), hn_pastN _ _ _ (by first | omega | (simp; done) | (simp; omega)), hn_atN _ _ _ (by simp)]
    · rw [hn_pastN _ _ _ (by first | omega | (simp; done) | (simp; omega)), hn_pastN _ _ _ (by first | omega | (simp; done) | (simp; omega)), hn_atN _ _ _ (by simp)]
    · rw [hn_pastN _ _ _ (by first | omega | (simp; done) | (simp; omega)), hn_atN _ _ _ (by simp)]
  case round =>
    obtain ⟨k, hk, rfl, HO, kx, ka, kr, HB⟩ := hrel
    rcases (show k = 0 ∨ k = 1 ∨ k = 2 ∨ k = 3 by omega) with rfl | rfl | rfl | rfl
    · clear hk
      have lx := (Array.getElem?_eq_some_iff.1 kx).1
      have la := (Array.getElem?_eq_some_iff.1 ka).1
      have lr := (Array.getElem?_eq_some_iff.1 kr).1
      obtain ⟨m0, m1, m2, m3, m4, m5, m6⟩ := w_0.out
      go_wp2
      refine region_boxvia 27 26 42 (fun g => .slice (some ⟨g, 0, none⟩) 1 1) #[.int .i64 ((x0 * a0 + x1 * a1 + x2 * a2) % p)] 2 [(16, u7), (17, .int .i64 0), (18, .pointer (some ⟨w.heap.size, 0, none⟩)), (19, .pointer (some ⟨w.heap.size, 0, none⟩)), (20, .int .i64 x0), (21, .pointer (some ⟨w.heap.size + 1, 0, none⟩)), (22, .int .i64 a0), (23, .int .i64 (x0 * a0)), (24, .int .i64 0), (25, .pointer (some ⟨w.heap.size, 0, none⟩)), (26, .pointer (some ⟨w.heap.size, 1, none⟩)), (27, .int .i64 x1), (28, .pointer (some ⟨w.heap.size + 1, 1, none⟩)), (29, .int .i64 a1), (30, .int .i64 (x1 * a1)), (31, .int .i64 (x0 * a0 + x1 * a1)), (32, .int .i64 0), (33, .pointer (some ⟨w.heap.size, 0, none⟩)), (34, .pointer (some ⟨w.heap.size, 2, none⟩)), (35, .int .i64 x2), (36, .pointer (some ⟨w.heap.size + 1, 2, none⟩)), (37, .int .i64 a2), (38, .int .i64 (x2 * a2)), (39, .int .i64 (x0 * a0 + x1 * a1 + x2 * a2)), (40, .int .i64 p), (41, .int .i64 ((x0 * a0 + x1 * a1 + x2 * a2) % p))] (by kernel_rfl) (by decide) rfl (by kernel_rfl) (by kernel_rfl) (by kernel_rfl) (by decide) (by simp) (by kernel_rfl) (fun aE hpe => ?_)
      simp only [puts, Act.put, List.setIfInBounds_toArray, List.set_cons_zero, List.set_cons_succ] at hpe
      subst hpe
      refine ⟨?_, ⟨.inr (.inr ?_), .inr (.inr ?_), .inr (.inr ?_), .inr (.inr ?_), .inr (.inr ?_), .inr (.inr ?_), .inr (.inr ?_), .inr (.inr ?_), .inr (.inr ?_), .inr (.inr ?_), .inr (.inr ?_), .inr (.inr ?_), .inr (.inr ?_), .inr (.inr ?_), .inr (.inr ?_), .inr (.inr ?_), .inr (.inr ?_), .inr (.inr ?_), .inr (.inr ?_), .inr (.inr ?_), .inr (.inr ?_), .inr (.inr ?_), .inr (.inr ?_), .inr (.inr ?_), .inr (.inr ?_), .inr (.inr ?_), .inl rfl, trivial⟩, ?_⟩
      · intro ρ W hr
        have r0 : ρ (.tmp 41) = .int .i64 ((x0 * a0 + x1 * a1 + x2 * a2) % p) := hr 41 (by simp [readsOf, Op.operands])
        simp [execOp, go_sem, r0]
      · exact CalmG.mk 16 (u7) rfl rfl rfl (fun W hW => calm_move (.tmp 7) rfl rfl)
      · exact CalmG.mk 17 (.int .i64 0) rfl rfl rfl (fun W hW => calm_move (.tmp 8) rfl rfl)
      · exact CalmG.mk 18 (.pointer (some ⟨w.heap.size, 0, none⟩)) rfl rfl rfl (fun W hW => calm_run (by simp [execOp, Act.eval, go_sem]))
      · exact CalmG.mk 19 (.pointer (some ⟨w.heap.size, 0, none⟩)) rfl rfl rfl (fun W hW => calm_run (by simp [execOp, Act.eval, go_sem]))
      · exact CalmG.mk 20 (.int .i64 x0) rfl rfl rfl (fun W hW => calm_run (by have hc := row_int (off := 0) (z := x0) ((hW.block _ lx).trans kx) rfl; simp [execOp, Act.eval, go_sem, hc]))
      · exact CalmG.mk 21 (.pointer (some ⟨w.heap.size + 1, 0, none⟩)) rfl rfl rfl (fun W hW => calm_run (by simp [execOp, Act.eval, go_sem]))
      · exact CalmG.mk 22 (.int .i64 a0) rfl rfl rfl (fun W hW => calm_run (by have hc := row_int (off := 0) (z := a0) ((hW.block _ la).trans ka) rfl; simp [execOp, Act.eval, go_sem, hc]))
      · exact CalmG.mk 23 (.int .i64 (x0 * a0)) rfl rfl rfl (fun W hW => calm_run (by simp [execOp, Act.eval, go_sem, m0]))
      · exact CalmG.mk 24 (.int .i64 0) rfl rfl rfl (fun W hW => calm_move (.tmp 8) rfl rfl)
      · exact CalmG.mk 25 (.pointer (some ⟨w.heap.size, 0, none⟩)) rfl rfl rfl (fun W hW => calm_run (by simp [execOp, Act.eval, go_sem]))
      · exact CalmG.mk 26 (.pointer (some ⟨w.heap.size, 1, none⟩)) rfl rfl rfl (fun W hW => calm_run (by simp [execOp, Act.eval, go_sem]))
      · exact CalmG.mk 27 (.int .i64 x1) rfl rfl rfl (fun W hW => calm_run (by have hc := row_int (off := 1) (z := x1) ((hW.block _ lx).trans kx) rfl; simp [execOp, Act.eval, go_sem, hc]))
      · exact CalmG.mk 28 (.pointer (some ⟨w.heap.size + 1, 1, none⟩)) rfl rfl rfl (fun W hW => calm_run (by simp [execOp, Act.eval, go_sem]))
      · exact CalmG.mk 29 (.int .i64 a1) rfl rfl rfl (fun W hW => calm_run (by have hc := row_int (off := 1) (z := a1) ((hW.block _ la).trans ka) rfl; simp [execOp, Act.eval, go_sem, hc]))
      · exact CalmG.mk 30 (.int .i64 (x1 * a1)) rfl rfl rfl (fun W hW => calm_run (by simp [execOp, Act.eval, go_sem, m1]))
      · exact CalmG.mk 31 (.int .i64 (x0 * a0 + x1 * a1)) rfl rfl rfl (fun W hW => calm_run (by simp [execOp, Act.eval, go_sem, m3]))
      · exact CalmG.mk 32 (.int .i64 0) rfl rfl rfl (fun W hW => calm_move (.tmp 8) rfl rfl)
      · exact CalmG.mk 33 (.pointer (some ⟨w.heap.size, 0, none⟩)) rfl rfl rfl (fun W hW => calm_run (by simp [execOp, Act.eval, go_sem]))
      · exact CalmG.mk 34 (.pointer (some ⟨w.heap.size, 2, none⟩)) rfl rfl rfl (fun W hW => calm_run (by simp [execOp, Act.eval, go_sem]))
      · exact CalmG.mk 35 (.int .i64 x2) rfl rfl rfl (fun W hW => calm_run (by have hc := row_int (off := 2) (z := x2) ((hW.block _ lx).trans kx) rfl; simp [execOp, Act.eval, go_sem, hc]))
      · exact CalmG.mk 36 (.pointer (some ⟨w.heap.size + 1, 2, none⟩)) rfl rfl rfl (fun W hW => calm_run (by simp [execOp, Act.eval, go_sem]))
      · exact CalmG.mk 37 (.int .i64 a2) rfl rfl rfl (fun W hW => calm_run (by have hc := row_int (off := 2) (z := a2) ((hW.block _ la).trans ka) rfl; simp [execOp, Act.eval, go_sem, hc]))
      · exact CalmG.mk 38 (.int .i64 (x2 * a2)) rfl rfl rfl (fun W hW => calm_run (by simp [execOp, Act.eval, go_sem, m2]))
      · exact CalmG.mk 39 (.int .i64 (x0 * a0 + x1 * a1 + x2 * a2)) rfl rfl rfl (fun W hW => calm_run (by simp [execOp, Act.eval, go_sem, m4]))
      · exact CalmG.mk 40 (.int .i64 p) rfl rfl rfl (fun W hW => calm_move (.tmp 0) rfl rfl)
      · exact CalmG.mk 41 (.int .i64 ((x0 * a0 + x1 * a1 + x2 * a2) % p)) rfl rfl rfl (fun W hW => calm_run (by simp [execOp, Act.eval, go_sem, hpn, m5, m6]))
      intro g W hW hg hgc
      simp only [List.drop_succ_cons, List.drop_zero, Act.put, List.setIfInBounds_toArray, List.set_cons_zero, List.set_cons_succ]
      have Jx := Lib.hid ((hW.block _ lx).trans kx)
      have Ja := Lib.hid ((hW.block _ la).trans ka)
      have Jr := Lib.hid ((hW.block _ lr).trans kr)
      have HO2 := Lib.hid (own_below HO.out hW)
      have HB2 := Lib.hid (low_tr' HB.out hW HB.out.size)
      have HS := Lib.hid (show [(x0 * a0 + x1 * a1 + x2 * a2) % p, (x3 * a0 + x4 * a1 + x5 * a2) % p, (x6 * a0 + x7 * a1 + x8 * a2) % p].take 0 ++ [(x0 * a0 + x1 * a1 + x2 * a2) % p] = [(x0 * a0 + x1 * a1 + x2 * a2) % p, (x3 * a0 + x4 * a1 + x5 * a2) % p, (x6 * a0 + x7 * a1 + x8 * a2) % p].take (0 + 1) from rfl)
      have d0 : W.cell? ⟨g, 0, none⟩ = some (.int .i64 ((x0 * a0 + x1 * a1 + x2 * a2) % p)) := by rw [cell_of_row W _ 0 _ _ _ hgc]; rfl
      have HD := Lib.hid (src1 d0)
      have hsz : w.heap.size + 1 + 1 + 1 ≤ W.heap.size := by have := (Array.getElem?_eq_some_iff.1 Jr.out).1; omega
      clear kx ka kr HO HB hW hgc d0 lx la lr m0 m1 m2 m3 m4 m5 m6
      go_wp2_with (at_builtin; refine wpList_append_own _ rfl _ _ 73 rfl (w.heap.size + 1 + 1 + 1) 2 i0 (.int .i64 0) 1 8 Try.underlying73 HI0.out HZ0.out HZ1.out HZ2.out rfl (by decide) _ _ _ rfl HO2.out ⟨g, 0, none⟩ 1 1 [.int .i64 ((x0 * a0 + x1 * a1 + x2 * a2) % p)] rfl rfl HD.out (oneA _) (by unfold maxLen; omega) (by omega) hsz ?_; intro v2 w2 hown hgrow _; have HO3 := Lib.hid hown; have HG := Lib.hid hgrow; clear hown hgrow)
      have hb := own_base' HO2.out
      have ne : ∀ a, a < w.heap.size + 1 + 1 + 1 → some a ≠ u7.ownBlock := fun a ha e => by have := hb a e.symm; omega
      go_roundw
      case rel => exact ⟨1, by omega, rfl, Lib.hid (by rw [← HS.out, ints_app]; exact HO3.out), by rw [HG.out.block _ (Array.getElem?_eq_some_iff.1 Jx.out).1 (ne _ (by omega))]; exact Jx.out, by rw [HG.out.block _ (Array.getElem?_eq_some_iff.1 Ja.out).1 (ne _ (by omega))]; exact Ja.out, by rw [HG.out.block _ (Array.getElem?_eq_some_iff.1 Jr.out).1 (ne _ (by omega))]; exact Jr.out, Lib.hid (HB2.out.grown HG.out HB2.out.size (fun k' hk' => by have := hb k' hk'; omega))⟩
      case measure => simp [intOf]
    · clear hk
      have lx := (Array.getElem?_eq_some_iff.1 kx).1
      have la := (Array.getElem?_eq_some_iff.1 ka).1
      have lr := (Array.getElem?_eq_some_iff.1 kr).1
      obtain ⟨m0, m1, m2, m3, m4, m5, m6⟩ := w_1.out
      go_wp2
      refine region_boxvia 27 26 42 (fun g => .slice (some ⟨g, 0, none⟩) 1 1) #[.int .i64 ((x3 * a0 + x4 * a1 + x5 * a2) % p)] 2 [(16, u7), (17, .int .i64 1), (18, .pointer (some ⟨w.heap.size, 3, none⟩)), (19, .pointer (some ⟨w.heap.size, 3, none⟩)), (20, .int .i64 x3), (21, .pointer (some ⟨w.heap.size + 1, 0, none⟩)), (22, .int .i64 a0), (23, .int .i64 (x3 * a0)), (24, .int .i64 1), (25, .pointer (some ⟨w.heap.size, 3, none⟩)), (26, .pointer (some ⟨w.heap.size, 4, none⟩)), (27, .int .i64 x4), (28, .pointer (some ⟨w.heap.size + 1, 1, none⟩)), (29, .int .i64 a1), (30, .int .i64 (x4 * a1)), (31, .int .i64 (x3 * a0 + x4 * a1)), (32, .int .i64 1), (33, .pointer (some ⟨w.heap.size, 3, none⟩)), (34, .pointer (some ⟨w.heap.size, 5, none⟩)), (35, .int .i64 x5), (36, .pointer (some ⟨w.heap.size + 1, 2, none⟩)), (37, .int .i64 a2), (38, .int .i64 (x5 * a2)), (39, .int .i64 (x3 * a0 + x4 * a1 + x5 * a2)), (40, .int .i64 p), (41, .int .i64 ((x3 * a0 + x4 * a1 + x5 * a2) % p))] (by kernel_rfl) (by decide) rfl (by kernel_rfl) (by kernel_rfl) (by kernel_rfl) (by decide) (by simp) (by kernel_rfl) (fun aE hpe => ?_)
      simp only [puts, Act.put, List.setIfInBounds_toArray, List.set_cons_zero, List.set_cons_succ] at hpe
      subst hpe
      refine ⟨?_, ⟨.inr (.inr ?_), .inr (.inr ?_), .inr (.inr ?_), .inr (.inr ?_), .inr (.inr ?_), .inr (.inr ?_), .inr (.inr ?_), .inr (.inr ?_), .inr (.inr ?_), .inr (.inr ?_), .inr (.inr ?_), .inr (.inr ?_), .inr (.inr ?_), .inr (.inr ?_), .inr (.inr ?_), .inr (.inr ?_), .inr (.inr ?_), .inr (.inr ?_), .inr (.inr ?_), .inr (.inr ?_), .inr (.inr ?_), .inr (.inr ?_), .inr (.inr ?_), .inr (.inr ?_), .inr (.inr ?_), .inr (.inr ?_), .inl rfl, trivial⟩, ?_⟩
      · intro ρ W hr
        have r0 : ρ (.tmp 41) = .int .i64 ((x3 * a0 + x4 * a1 + x5 * a2) % p) := hr 41 (by simp [readsOf, Op.operands])
        simp [execOp, go_sem, r0]
      · exact CalmG.mk 16 (u7) rfl rfl rfl (fun W hW => calm_move (.tmp 7) rfl rfl)
      · exact CalmG.mk 17 (.int .i64 1) rfl rfl rfl (fun W hW => calm_move (.tmp 8) rfl rfl)
      · exact CalmG.mk 18 (.pointer (some ⟨w.heap.size, 3, none⟩)) rfl rfl rfl (fun W hW => calm_run (by simp [execOp, Act.eval, go_sem]))
      · exact CalmG.mk 19 (.pointer (some ⟨w.heap.size, 3, none⟩)) rfl rfl rfl (fun W hW => calm_run (by simp [execOp, Act.eval, go_sem]))
      · exact CalmG.mk 20 (.int .i64 x3) rfl rfl rfl (fun W hW => calm_run (by have hc := row_int (off := 3) (z := x3) ((hW.block _ lx).trans kx) rfl; simp [execOp, Act.eval, go_sem, hc]))
      · exact CalmG.mk 21 (.pointer (some ⟨w.heap.size + 1, 0, none⟩)) rfl rfl rfl (fun W hW => calm_run (by simp [execOp, Act.eval, go_sem]))
      · exact CalmG.mk 22 (.int .i64 a0) rfl rfl rfl (fun W hW => calm_run (by have hc := row_int (off := 0) (z := a0) ((hW.block _ la).trans ka) rfl; simp [execOp, Act.eval, go_sem, hc]))
      · exact CalmG.mk 23 (.int .i64 (x3 * a0)) rfl rfl rfl (fun W hW => calm_run (by simp [execOp, Act.eval, go_sem, m0]))
      · exact CalmG.mk 24 (.int .i64 1) rfl rfl rfl (fun W hW => calm_move (.tmp 8) rfl rfl)
      · exact CalmG.mk 25 (.pointer (some ⟨w.heap.size, 3, none⟩)) rfl rfl rfl (fun W hW => calm_run (by simp [execOp, Act.eval, go_sem]))
      · exact CalmG.mk 26 (.pointer (some ⟨w.heap.size, 4, none⟩)) rfl rfl rfl (fun W hW => calm_run (by simp [execOp, Act.eval, go_sem]))
      · exact CalmG.mk 27 (.int .i64 x4) rfl rfl rfl (fun W hW => calm_run (by have hc := row_int (off := 4) (z := x4) ((hW.block _ lx).trans kx) rfl; simp [execOp, Act.eval, go_sem, hc]))
      · exact CalmG.mk 28 (.pointer (some ⟨w.heap.size + 1, 1, none⟩)) rfl rfl rfl (fun W hW => calm_run (by simp [execOp, Act.eval, go_sem]))
      · exact CalmG.mk 29 (.int .i64 a1) rfl rfl rfl (fun W hW => calm_run (by have hc := row_int (off := 1) (z := a1) ((hW.block _ la).trans ka) rfl; simp [execOp, Act.eval, go_sem, hc]))
      · exact CalmG.mk 30 (.int .i64 (x4 * a1)) rfl rfl rfl (fun W hW => calm_run (by simp [execOp, Act.eval, go_sem, m1]))
      · exact CalmG.mk 31 (.int .i64 (x3 * a0 + x4 * a1)) rfl rfl rfl (fun W hW => calm_run (by simp [execOp, Act.eval, go_sem, m3]))
      · exact CalmG.mk 32 (.int .i64 1) rfl rfl rfl (fun W hW => calm_move (.tmp 8) rfl rfl)
      · exact CalmG.mk 33 (.pointer (some ⟨w.heap.size, 3, none⟩)) rfl rfl rfl (fun W hW => calm_run (by simp [execOp, Act.eval, go_sem]))
      · exact CalmG.mk 34 (.pointer (some ⟨w.heap.size, 5, none⟩)) rfl rfl rfl (fun W hW => calm_run (by simp [execOp, Act.eval, go_sem]))
      · exact CalmG.mk 35 (.int .i64 x5) rfl rfl rfl (fun W hW => calm_run (by have hc := row_int (off := 5) (z := x5) ((hW.block _ lx).trans kx) rfl; simp [execOp, Act.eval, go_sem, hc]))
      · exact CalmG.mk 36 (.pointer (some ⟨w.heap.size + 1, 2, none⟩)) rfl rfl rfl (fun W hW => calm_run (by simp [execOp, Act.eval, go_sem]))
      · exact CalmG.mk 37 (.int .i64 a2) rfl rfl rfl (fun W hW => calm_run (by have hc := row_int (off := 2) (z := a2) ((hW.block _ la).trans ka) rfl; simp [execOp, Act.eval, go_sem, hc]))
      · exact CalmG.mk 38 (.int .i64 (x5 * a2)) rfl rfl rfl (fun W hW => calm_run (by simp [execOp, Act.eval, go_sem, m2]))
      · exact CalmG.mk 39 (.int .i64 (x3 * a0 + x4 * a1 + x5 * a2)) rfl rfl rfl (fun W hW => calm_run (by simp [execOp, Act.eval, go_sem, m4]))
      · exact CalmG.mk 40 (.int .i64 p) rfl rfl rfl (fun W hW => calm_move (.tmp 0) rfl rfl)
      · exact CalmG.mk 41 (.int .i64 ((x3 * a0 + x4 * a1 + x5 * a2) % p)) rfl rfl rfl (fun W hW => calm_run (by simp [execOp, Act.eval, go_sem, hpn, m5, m6]))
      intro g W hW hg hgc
      simp only [List.drop_succ_cons, List.drop_zero, Act.put, List.setIfInBounds_toArray, List.set_cons_zero, List.set_cons_succ]
      have Jx := Lib.hid ((hW.block _ lx).trans kx)
      have Ja := Lib.hid ((hW.block _ la).trans ka)
      have Jr := Lib.hid ((hW.block _ lr).trans kr)
      have HO2 := Lib.hid (own_below HO.out hW)
      have HB2 := Lib.hid (low_tr' HB.out hW HB.out.size)
      have HS := Lib.hid (show [(x0 * a0 + x1 * a1 + x2 * a2) % p, (x3 * a0 + x4 * a1 + x5 * a2) % p, (x6 * a0 + x7 * a1 + x8 * a2) % p].take 1 ++ [(x3 * a0 + x4 * a1 + x5 * a2) % p] = [(x0 * a0 + x1 * a1 + x2 * a2) % p, (x3 * a0 + x4 * a1 + x5 * a2) % p, (x6 * a0 + x7 * a1 + x8 * a2) % p].take (1 + 1) from rfl)
      have d0 : W.cell? ⟨g, 0, none⟩ = some (.int .i64 ((x3 * a0 + x4 * a1 + x5 * a2) % p)) := by rw [cell_of_row W _ 0 _ _ _ hgc]; rfl
      have HD := Lib.hid (src1 d0)
      have hsz : w.heap.size + 1 + 1 + 1 ≤ W.heap.size := by have := (Array.getElem?_eq_some_iff.1 Jr.out).1; omega
      clear kx ka kr HO HB hW hgc d0 lx la lr m0 m1 m2 m3 m4 m5 m6
      go_wp2_with (at_builtin; refine wpList_append_own _ rfl _ _ 73 rfl (w.heap.size + 1 + 1 + 1) 2 i0 (.int .i64 0) 1 8 Try.underlying73 HI0.out HZ0.out HZ1.out HZ2.out rfl (by decide) _ _ _ rfl HO2.out ⟨g, 0, none⟩ 1 1 [.int .i64 ((x3 * a0 + x4 * a1 + x5 * a2) % p)] rfl rfl HD.out (oneA _) (by unfold maxLen; omega) (by omega) hsz ?_; intro v2 w2 hown hgrow _; have HO3 := Lib.hid hown; have HG := Lib.hid hgrow; clear hown hgrow)
      have hb := own_base' HO2.out
      have ne : ∀ a, a < w.heap.size + 1 + 1 + 1 → some a ≠ u7.ownBlock := fun a ha e => by have := hb a e.symm; omega
      go_roundw
      case rel => exact ⟨2, by omega, rfl, Lib.hid (by rw [← HS.out, ints_app]; exact HO3.out), by rw [HG.out.block _ (Array.getElem?_eq_some_iff.1 Jx.out).1 (ne _ (by omega))]; exact Jx.out, by rw [HG.out.block _ (Array.getElem?_eq_some_iff.1 Ja.out).1 (ne _ (by omega))]; exact Ja.out, by rw [HG.out.block _ (Array.getElem?_eq_some_iff.1 Jr.out).1 (ne _ (by omega))]; exact Jr.out, Lib.hid (HB2.out.grown HG.out HB2.out.size (fun k' hk' => by have := hb k' hk'; omega))⟩
      case measure => simp [intOf]
    · clear hk
      have lx := (Array.getElem?_eq_some_iff.1 kx).1
      have la := (Array.getElem?_eq_some_iff.1 ka).1
      have lr := (Array.getElem?_eq_some_iff.1 kr).1
      obtain ⟨m0, m1, m2, m3, m4, m5, m6⟩ := w_2.out
      go_wp2
      refine region_boxvia 27 26 42 (fun g => .slice (some ⟨g, 0, none⟩) 1 1) #[.int .i64 ((x6 * a0 + x7 * a1 + x8 * a2) % p)] 2 [(16, u7), (17, .int .i64 2), (18, .pointer (some ⟨w.heap.size, 6, none⟩)), (19, .pointer (some ⟨w.heap.size, 6, none⟩)), (20, .int .i64 x6), (21, .pointer (some ⟨w.heap.size + 1, 0, none⟩)), (22, .int .i64 a0), (23, .int .i64 (x6 * a0)), (24, .int .i64 2), (25, .pointer (some ⟨w.heap.size, 6, none⟩)), (26, .pointer (some ⟨w.heap.size, 7, none⟩)), (27, .int .i64 x7), (28, .pointer (some ⟨w.heap.size + 1, 1, none⟩)), (29, .int .i64 a1), (30, .int .i64 (x7 * a1)), (31, .int .i64 (x6 * a0 + x7 * a1)), (32, .int .i64 2), (33, .pointer (some ⟨w.heap.size, 6, none⟩)), (34, .pointer (some ⟨w.heap.size, 8, none⟩)), (35, .int .i64 x8), (36, .pointer (some ⟨w.heap.size + 1, 2, none⟩)), (37, .int .i64 a2), (38, .int .i64 (x8 * a2)), (39, .int .i64 (x6 * a0 + x7 * a1 + x8 * a2)), (40, .int .i64 p), (41, .int .i64 ((x6 * a0 + x7 * a1 + x8 * a2) % p))] (by kernel_rfl) (by decide) rfl (by kernel_rfl) (by kernel_rfl) (by kernel_rfl) (by decide) (by simp) (by kernel_rfl) (fun aE hpe => ?_)
      simp only [puts, Act.put, List.setIfInBounds_toArray, List.set_cons_zero, List.set_cons_succ] at hpe
      subst hpe
      refine ⟨?_, ⟨.inr (.inr ?_), .inr (.inr ?_), .inr (.inr ?_), .inr (.inr ?_), .inr (.inr ?_), .inr (.inr ?_), .inr (.inr ?_), .inr (.inr ?_), .inr (.inr ?_), .inr (.inr ?_), .inr (.inr ?_), .inr (.inr ?_), .inr (.inr ?_), .inr (.inr ?_), .inr (.inr ?_), .inr (.inr ?_), .inr (.inr ?_), .inr (.inr ?_), .inr (.inr ?_), .inr (.inr ?_), .inr (.inr ?_), .inr (.inr ?_), .inr (.inr ?_), .inr (.inr ?_), .inr (.inr ?_), .inr (.inr ?_), .inl rfl, trivial⟩, ?_⟩
      · intro ρ W hr
        have r0 : ρ (.tmp 41) = .int .i64 ((x6 * a0 + x7 * a1 + x8 * a2) % p) := hr 41 (by simp [readsOf, Op.operands])
        simp [execOp, go_sem, r0]
      · exact CalmG.mk 16 (u7) rfl rfl rfl (fun W hW => calm_move (.tmp 7) rfl rfl)
      · exact CalmG.mk 17 (.int .i64 2) rfl rfl rfl (fun W hW => calm_move (.tmp 8) rfl rfl)
      · exact CalmG.mk 18 (.pointer (some ⟨w.heap.size, 6, none⟩)) rfl rfl rfl (fun W hW => calm_run (by simp [execOp, Act.eval, go_sem]))
      · exact CalmG.mk 19 (.pointer (some ⟨w.heap.size, 6, none⟩)) rfl rfl rfl (fun W hW => calm_run (by simp [execOp, Act.eval, go_sem]))
      · exact CalmG.mk 20 (.int .i64 x6) rfl rfl rfl (fun W hW => calm_run (by have hc := row_int (off := 6) (z := x6) ((hW.block _ lx).trans kx) rfl; simp [execOp, Act.eval, go_sem, hc]))
      · exact CalmG.mk 21 (.pointer (some ⟨w.heap.size + 1, 0, none⟩)) rfl rfl rfl (fun W hW => calm_run (by simp [execOp, Act.eval, go_sem]))
      · exact CalmG.mk 22 (.int .i64 a0) rfl rfl rfl (fun W hW => calm_run (by have hc := row_int (off := 0) (z := a0) ((hW.block _ la).trans ka) rfl; simp [execOp, Act.eval, go_sem, hc]))
      · exact CalmG.mk 23 (.int .i64 (x6 * a0)) rfl rfl rfl (fun W hW => calm_run (by simp [execOp, Act.eval, go_sem, m0]))
      · exact CalmG.mk 24 (.int .i64 2) rfl rfl rfl (fun W hW => calm_move (.tmp 8) rfl rfl)
      · exact CalmG.mk 25 (.pointer (some ⟨w.heap.size, 6, none⟩)) rfl rfl rfl (fun W hW => calm_run (by simp [execOp, Act.eval, go_sem]))
      · exact CalmG.mk 26 (.pointer (some ⟨w.heap.size, 7, none⟩)) rfl rfl rfl (fun W hW => calm_run (by simp [execOp, Act.eval, go_sem]))
      · exact CalmG.mk 27 (.int .i64 x7) rfl rfl rfl (fun W hW => calm_run (by have hc := row_int (off := 7) (z := x7) ((hW.block _ lx).trans kx) rfl; simp [execOp, Act.eval, go_sem, hc]))
      · exact CalmG.mk 28 (.pointer (some ⟨w.heap.size + 1, 1, none⟩)) rfl rfl rfl (fun W hW => calm_run (by simp [execOp, Act.eval, go_sem]))
      · exact CalmG.mk 29 (.int .i64 a1) rfl rfl rfl (fun W hW => calm_run (by have hc := row_int (off := 1) (z := a1) ((hW.block _ la).trans ka) rfl; simp [execOp, Act.eval, go_sem, hc]))
      · exact CalmG.mk 30 (.int .i64 (x7 * a1)) rfl rfl rfl (fun W hW => calm_run (by simp [execOp, Act.eval, go_sem, m1]))
      · exact CalmG.mk 31 (.int .i64 (x6 * a0 + x7 * a1)) rfl rfl rfl (fun W hW => calm_run (by simp [execOp, Act.eval, go_sem, m3]))
      · exact CalmG.mk 32 (.int .i64 2) rfl rfl rfl (fun W hW => calm_move (.tmp 8) rfl rfl)
      · exact CalmG.mk 33 (.pointer (some ⟨w.heap.size, 6, none⟩)) rfl rfl rfl (fun W hW => calm_run (by simp [execOp, Act.eval, go_sem]))
      · exact CalmG.mk 34 (.pointer (some ⟨w.heap.size, 8, none⟩)) rfl rfl rfl (fun W hW => calm_run (by simp [execOp, Act.eval, go_sem]))
      · exact CalmG.mk 35 (.int .i64 x8) rfl rfl rfl (fun W hW => calm_run (by have hc := row_int (off := 8) (z := x8) ((hW.block _ lx).trans kx) rfl; simp [execOp, Act.eval, go_sem, hc]))
      · exact CalmG.mk 36 (.pointer (some ⟨w.heap.size + 1, 2, none⟩)) rfl rfl rfl (fun W hW => calm_run (by simp [execOp, Act.eval, go_sem]))
      · exact CalmG.mk 37 (.int .i64 a2) rfl rfl rfl (fun W hW => calm_run (by have hc := row_int (off := 2) (z := a2) ((hW.block _ la).trans ka) rfl; simp [execOp, Act.eval, go_sem, hc]))
      · exact CalmG.mk 38 (.int .i64 (x8 * a2)) rfl rfl rfl (fun W hW => calm_run (by simp [execOp, Act.eval, go_sem, m2]))
      · exact CalmG.mk 39 (.int .i64 (x6 * a0 + x7 * a1 + x8 * a2)) rfl rfl rfl (fun W hW => calm_run (by simp [execOp, Act.eval, go_sem, m4]))
      · exact CalmG.mk 40 (.int .i64 p) rfl rfl rfl (fun W hW => calm_move (.tmp 0) rfl rfl)
      · exact CalmG.mk 41 (.int .i64 ((x6 * a0 + x7 * a1 + x8 * a2) % p)) rfl rfl rfl (fun W hW => calm_run (by simp [execOp, Act.eval, go_sem, hpn, m5, m6]))
      intro g W hW hg hgc
      simp only [List.drop_succ_cons, List.drop_zero, Act.put, List.setIfInBounds_toArray, List.set_cons_zero, List.set_cons_succ]
      have Jx := Lib.hid ((hW.block _ lx).trans kx)
      have Ja := Lib.hid ((hW.block _ la).trans ka)
      have Jr := Lib.hid ((hW.block _ lr).trans kr)
      have HO2 := Lib.hid (own_below HO.out hW)
      have HB2 := Lib.hid (low_tr' HB.out hW HB.out.size)
      have HS := Lib.hid (show [(x0 * a0 + x1 * a1 + x2 * a2) % p, (x3 * a0 + x4 * a1 + x5 * a2) % p, (x6 * a0 + x7 * a1 + x8 * a2) % p].take 2 ++ [(x6 * a0 + x7 * a1 + x8 * a2) % p] = [(x0 * a0 + x1 * a1 + x2 * a2) % p, (x3 * a0 + x4 * a1 + x5 * a2) % p, (x6 * a0 + x7 * a1 + x8 * a2) % p].take (2 + 1) from rfl)
      have d0 : W.cell? ⟨g, 0, none⟩ = some (.int .i64 ((x6 * a0 + x7 * a1 + x8 * a2) % p)) := by rw [cell_of_row W _ 0 _ _ _ hgc]; rfl
      have HD := Lib.hid (src1 d0)
      have hsz : w.heap.size + 1 + 1 + 1 ≤ W.heap.size := by have := (Array.getElem?_eq_some_iff.1 Jr.out).1; omega
      clear kx ka kr HO HB hW hgc d0 lx la lr m0 m1 m2 m3 m4 m5 m6
      go_wp2_with (at_builtin; refine wpList_append_own _ rfl _ _ 73 rfl (w.heap.size + 1 + 1 + 1) 2 i0 (.int .i64 0) 1 8 Try.underlying73 HI0.out HZ0.out HZ1.out HZ2.out rfl (by decide) _ _ _ rfl HO2.out ⟨g, 0, none⟩ 1 1 [.int .i64 ((x6 * a0 + x7 * a1 + x8 * a2) % p)] rfl rfl HD.out (oneA _) (by unfold maxLen; omega) (by omega) hsz ?_; intro v2 w2 hown hgrow _; have HO3 := Lib.hid hown; have HG := Lib.hid hgrow; clear hown hgrow)
      have hb := own_base' HO2.out
      have ne : ∀ a, a < w.heap.size + 1 + 1 + 1 → some a ≠ u7.ownBlock := fun a ha e => by have := hb a e.symm; omega
      go_roundw
      case rel => exact ⟨3, by omega, rfl, Lib.hid (by rw [← HS.out, ints_app]; exact HO3.out), by rw [HG.out.block _ (Array.getElem?_eq_some_iff.1 Jx.out).1 (ne _ (by omega))]; exact Jx.out, by rw [HG.out.block _ (Array.getElem?_eq_some_iff.1 Ja.out).1 (ne _ (by omega))]; exact Ja.out, by rw [HG.out.block _ (Array.getElem?_eq_some_iff.1 Jr.out).1 (ne _ (by omega))]; exact Jr.out, Lib.hid (HB2.out.grown HG.out HB2.out.size (fun k' hk' => by have := hb k' hk'; omega))⟩
      case measure => simp [intOf]
    · have ho3 : wr.ownsRow (w.heap.size + 1 + 1 + 1) 2 1 u7 3 (ints [(x0 * a0 + x1 * a1 + x2 * a2) % p, (x3 * a0 + x4 * a1 + x5 * a2) % p, (x6 * a0 + x7 * a1 + x8 * a2) % p]) := HO.out
      obtain ⟨g5, cap5, rfl, hb5, hpt5⟩ := ownInts' ho3 rfl (by omega)
      have HP5 := Lib.hid hpt5
      have lr := (Array.getElem?_eq_some_iff.1 kr).1
      have HR := Lib.hid kr
      clear HO ho3 hpt5 hk kx ka kr w_0 w_1 w_2
      go_wp2_with (go_at_call 56; refine (HNo.out _ _ _ HP5.out).mono ?_; rintro e w1 ⟨v1, rfl, ho, hb⟩; rw [HNl.out] at ho; obtain ⟨gN, capN, rfl, hbN, hptN⟩ := ownInts' (n := 3) ho rfl (by omega); have HPN := Lib.hid hptN; have HB1 := Lib.hid hb; clear ho hptN hb)
      have jr := Lib.hid ((HB1.out.block _ lr).trans HR.out)
      have HBq := Lib.hid (low_tr' HB.out HB1.out HB.out.size)
      have ljr := (Array.getElem?_eq_some_iff.1 jr.out).1
      clear HB HB1 HR lr HP5 HNo HNl
      refine region_via 10 [(50, .slice (some ⟨gN, 0, none⟩) 3 capN), (51, .pointer (some ⟨gN, 0, none⟩)), (52, .int .i64 r0), (53, .slice (some ⟨gN, 0, none⟩) 3 capN), (54, .pointer (some ⟨gN, 1, none⟩)), (55, .int .i64 r1), (56, .slice (some ⟨gN, 0, none⟩) 3 capN), (57, .pointer (some ⟨gN, 2, none⟩)), (58, .int .i64 r2), (59, .agg #[.int .i64 r0, .int .i64 r1, .int .i64 r2])] (by kernel_rfl) (by decide) (by kernel_rfl) (by kernel_rfl) (by kernel_rfl) (fun aE hpe => ?_)
      simp only [puts, Act.put, List.setIfInBounds_toArray, List.set_cons_zero, List.set_cons_succ] at hpe
      subst hpe
      refine ⟨⟨.inr (.inr ?_), .inr (.inr ?_), .inr (.inr ?_), .inr (.inr ?_), .inr (.inr ?_), .inr (.inr ?_), .inr (.inr ?_), .inr (.inr ?_), .inr (.inr ?_), .inr (.inr ?_), trivial⟩, ?_⟩
      · exact CalmG.mk 50 (.slice (some ⟨gN, 0, none⟩) 3 capN) rfl rfl rfl (fun W hW => calm_move (.tmp 9) rfl rfl)
      · exact CalmG.mk 51 (.pointer (some ⟨gN, 0, none⟩)) rfl rfl rfl (fun W hW => calm_run (by simp [execOp, Act.eval, go_sem]))
      · exact CalmG.mk 52 (.int .i64 r0) rfl rfl rfl (fun W hW => calm_run (by have hc : W.cell? ⟨gN, 0, none⟩ = some (.int .i64 r0) := cell_below hW (HPN.out 0 (by omega)); simp [execOp, Act.eval, go_sem, hc]))
      · exact CalmG.mk 53 (.slice (some ⟨gN, 0, none⟩) 3 capN) rfl rfl rfl (fun W hW => calm_move (.tmp 9) rfl rfl)
      · exact CalmG.mk 54 (.pointer (some ⟨gN, 1, none⟩)) rfl rfl rfl (fun W hW => calm_run (by simp [execOp, Act.eval, go_sem]))
      · exact CalmG.mk 55 (.int .i64 r1) rfl rfl rfl (fun W hW => calm_run (by have hc : W.cell? ⟨gN, 1, none⟩ = some (.int .i64 r1) := cell_below hW (HPN.out 1 (by omega)); simp [execOp, Act.eval, go_sem, hc]))
      · exact CalmG.mk 56 (.slice (some ⟨gN, 0, none⟩) 3 capN) rfl rfl rfl (fun W hW => calm_move (.tmp 9) rfl rfl)
      · exact CalmG.mk 57 (.pointer (some ⟨gN, 2, none⟩)) rfl rfl rfl (fun W hW => calm_run (by simp [execOp, Act.eval, go_sem]))
      · exact CalmG.mk 58 (.int .i64 r2) rfl rfl rfl (fun W hW => calm_run (by have hc : W.cell? ⟨gN, 2, none⟩ = some (.int .i64 r2) := cell_below hW (HPN.out 2 (by omega)); simp [execOp, Act.eval, go_sem, hc]))
      · exact CalmG.mk 59 (.agg #[.int .i64 r0, .int .i64 r1, .int .i64 r2]) rfl rfl rfl (fun W hW => calm_build 33 _ #[.int .i64 r0, .int .i64 r1, .int .i64 r2] rfl (by kernel_rfl))
      intro W hW
      simp only [List.drop_succ_cons, List.drop_zero]
      refine wpList_store_row _ rfl 33 _ _ rfl rfl (g := w.heap.size + 1 + 1) (T := 33) (cs := #[.int .i64 0, .int .i64 0, .int .i64 0]) (U := #[.int .i64 r0, .int .i64 r1, .int .i64 r2]) rfl rfl ((hW.block _ ljr).trans jr.out) rfl Try.sizeOf33 (by simp [Value.oneCell']) ?_
      refine wpList_nil ?_
      go_wp2
      exact bodyPost_ret (v := .agg #[.int .i64 r0, .int .i64 r1, .int .i64 r2]) (results_row Try.results48 rfl (setRow_heap _ _ #[.int .i64 0, .int .i64 0, .int .i64 0] _ _ _ ((hW.block _ ljr).trans jr.out)) 3 rfl Try.sizeOf33 Try.isAgg33) rfl ⟨rfl, below_setRowN (low_tr' HBq.out hW HBq.out.size) (by omega) _⟩
end Go.Proofs.Ytoagfpdicpcjnaa
/- Contracts: orbits of a point, the program's and the reference's. (Printed by gent3.py, a program of this session.) -/
namespace Go.Proofs.Ytoagfpdicpcjnaa
open Go.RowKit
set_option linter.unusedVariables false
set_option linter.unusedSimpArgs false
theorem own_lt {w : World} {base : Nat} {e : TypeId} {size n : Nat} {v : Value} {xs : List Value} (h : w.ownsRow base e size v n xs) (k : Nat) (hk : v.ownBlock = some k) : k < w.heap.size := by
  rcases h.2 with ⟨rfl, _⟩ | ⟨g, cap, cur, rfl, hb, hg, _⟩
  · simp [Value.ownBlock] at hk
  · have : g = k := by simpa [Value.ownBlock] using hk
    rw [← this]
    exact (Array.getElem?_eq_some_iff.1 hg).1
theorem own_same {W W' : World} {base : Nat} {e : TypeId} {size n : Nat} {v : Value} {xs : List Value} (h : W.ownsRow base e size v n xs) (hb : ∀ b, v.ownBlock = some b → W'.heap[b]? = W.heap[b]?) : W'.ownsRow base e size v n xs := by
  refine ⟨h.1, ?_⟩
  rcases h.2 with h0 | ⟨g, cap, cur, rfl, hb0, hg, hr⟩
  · exact .inl h0
  · exact .inr ⟨g, cap, cur, rfl, hb0, (hb g (by simp [Value.ownBlock])).trans hg, hr⟩
def lenV : Value → Nat
  | .slice _ n _ => n
  | _ => 0
theorem own_len {w : World} {base : Nat} {e : TypeId} {size n : Nat} {v : Value} {xs : List Value} (h : w.ownsRow base e size v n xs) : lenV v = n := by
  rcases h.2 with ⟨rfl, h0⟩ | ⟨g, cap, cur, rfl, _⟩
  · simp [lenV]; omega
  · rfl
end Go.Proofs.Ytoagfpdicpcjnaa
/- Own lists, found again by search; slice literals of one element and appends to own lists. -/
namespace Go.Proofs.Ytoagfpdicpcjnaa
open Go.RowKit
set_option linter.unusedVariables false
set_option linter.unusedSimpArgs false
/-- An own list. -/
structure OwnK (W : World) (B : Nat) (T : TypeId) (sz : Nat) (v : Value) (n : Nat) (xs : List Value) : Prop where
  out : W.ownsRow B T sz v n xs
/-- The list's block is not this one. -/
structure Off (v : Value) (g : Nat) : Prop where
  out : v.ownBlock ≠ some g
/-- The list that this value is has been appended to. -/
structure Grew (w : World) (v : Value) (W : World) : Prop where
  out : w.grownBy W v.ownBlock
theorem OwnK.below {w W : World} {B : Nat} {T : TypeId} {sz : Nat} {v : Value} {n : Nat} {xs : List Value} (h : OwnK w B T sz v n xs) (l : Below w.heap.size w W) : OwnK W B T sz v n xs := ⟨own_below h.out l⟩
theorem OwnK.link {w W : World} {B : Nat} {T : TypeId} {sz : Nat} {v : Value} {n : Nat} {xs : List Value} (l : Link w W) (h : OwnK w B T sz v n xs) : OwnK W B T sz v n xs := h.below l.out
theorem OwnK.alloc {w : World} {B : Nat} {T : TypeId} {sz : Nat} {v : Value} {n : Nat} {xs : List Value} (h : OwnK w B T sz v n xs) (o : Obj) : OwnK (w.alloc o) B T sz v n xs := h.below (bal (Below.refl _ _) o)
theorem OwnK.drew {w : World} {B : Nat} {T : TypeId} {sz : Nat} {v : Value} {n : Nat} {xs : List Value} (h : OwnK w B T sz v n xs) : OwnK w.drew B T sz v n xs := ⟨h.out⟩
theorem OwnK.drewN {w : World} {B : Nat} {T : TypeId} {sz : Nat} {v : Value} {n : Nat} {xs : List Value} (h : OwnK w B T sz v n xs) (k : Nat) : OwnK (w.drewN k) B T sz v n xs := ⟨h.out⟩
theorem OwnK.set {w : World} {B : Nat} {T : TypeId} {sz : Nat} {v : Value} {n g : Nat} {xs : List Value} {U : Array Value} (h : OwnK w B T sz v n xs) (hg : Off v g) : OwnK (w.setRow g U) B T sz v n xs :=
  ⟨own_same h.out fun b hb => setRow_other _ _ _ _ (fun e => hg.out (by rw [hb, e]))⟩
theorem OwnK.grew {w W : World} {B : Nat} {T : TypeId} {sz : Nat} {v u : Value} {n : Nat} {xs : List Value} (hg : Grew w u W) (h : OwnK w B T sz v n xs) (ho : ∀ b, v.ownBlock = some b → u.ownBlock ≠ some b) : OwnK W B T sz v n xs :=
  ⟨own_same h.out fun b hb => hg.out.block b (own_lt h.out b hb) (fun e => ho b hb e.symm)⟩
theorem OwnK.lt {w : World} {B : Nat} {T : TypeId} {sz : Nat} {v : Value} {n : Nat} {xs : List Value} (h : OwnK w B T sz v n xs) (b : Nat) (hb : v.ownBlock = some b) : b < w.heap.size := own_lt h.out b hb
theorem OwnK.base {w : World} {B : Nat} {T : TypeId} {sz : Nat} {v : Value} {n : Nat} {xs : List Value} (h : OwnK w B T sz v n xs) (b : Nat) (hb : v.ownBlock = some b) : B ≤ b := own_base' h.out b hb
theorem Off.above {w : World} {B : Nat} {T : TypeId} {sz : Nat} {v : Value} {n g : Nat} {xs : List Value} (h : OwnK w B T sz v n xs) (hg : w.heap.size ≤ g) : Off v g := ⟨fun e => by have := h.lt g e; omega⟩
theorem Off.under {w : World} {B : Nat} {T : TypeId} {sz : Nat} {v : Value} {n g : Nat} {xs : List Value} (h : OwnK w B T sz v n xs) (hg : g < B) : Off v g := ⟨fun e => by have := h.base g e; omega⟩
theorem Grew.size {w W : World} {v : Value} (h : Grew w v W) : w.heap.size ≤ W.heap.size := h.out.size
theorem RowK.grew {w W : World} {u : Value} {g : Nat} {cs : Array Value} {T : TypeId} (hg : Grew w u W) (ho : Off u g) (h : RowK w g cs T) : RowK W g cs T := ⟨(hg.out.block g h.lt (fun e => ho.out e.symm)).trans h.out⟩
theorem cell_grew {w W : World} {u : Value} {b o : Nat} {x : Value} (hg : Grew w u W) (ho : Off u b) (h : w.cell? ⟨b, o, none⟩ = some x) : W.cell? ⟨b, o, none⟩ = some x := hg.out.cell h (fun e => ho.out e.symm)
theorem PtsK.grew {w W : World} {u : Value} {b o n : Nat} {L : List Pt} (hg : Grew w u W) (ho : Off u b) (h : PtsK w b o n L) : PtsK W b o n L :=
  ⟨fun i hi => ⟨cell_grew hg ho (h.out i hi).1, cell_grew hg ho (h.out i hi).2.1, cell_grew hg ho (h.out i hi).2.2⟩⟩
theorem IntsK.grew {w W : World} {u : Value} {b o n : Nat} {L : List Int} (hg : Grew w u W) (ho : Off u b) (h : IntsK w b o n L) : IntsK W b o n L := ⟨fun i hi => cell_grew hg ho (h.out i hi)⟩
theorem LowK.grew {w w1 W : World} {u : Value} (hg : Grew w1 u W) (ho : ∀ b, u.ownBlock = some b → w.heap.size ≤ b) (h : LowK w w1) : LowK w W := ⟨h.out.grown hg.out h.out.size ho⟩
theorem LowK.grewB {w w1 w2 W : World} {B : Nat} {T : TypeId} {sz n : Nat} {u : Value} {xs : List Value} (hg : Grew w1 u W) (hO : OwnK w2 B T sz u n xs) (hB : w.heap.size ≤ B) (h : LowK w w1) : LowK w W := h.grew hg (fun b hb => Nat.le_trans hB (hO.base b hb))
/-- Two lists of different blocks. -/
structure Apart (v u : Value) : Prop where
  out : ∀ b, v.ownBlock = some b → u.ownBlock ≠ some b
theorem Apart.symm {v u : Value} (h : Apart v u) : Apart u v := ⟨fun b h1 h2 => h.out b h2 h1⟩
theorem Apart.next {v u u' : Value} {w : World} {B : Nat} {T : TypeId} {sz n : Nat} {xs : List Value} (h : Apart v u) (hO : OwnK w B T sz v n xs) (hb : u'.ownBlock = u.ownBlock ∨ u'.ownBlock = some w.heap.size) : Apart v u' :=
  ⟨fun b h1 h2 => by
    rcases hb with e | e
    · exact h.out b h1 (by rw [← e, h2])
    · have := hO.lt b h1; rw [e] at h2; have := Option.some.inj h2; omega⟩
theorem Apart.of {g1 g2 n1 c1 n2 c2 : Nat} (h : g1 ≠ g2) : Apart (.slice (some ⟨g1, 0, none⟩) n1 c1) (.slice (some ⟨g2, 0, none⟩) n2 c2) := ⟨fun b h1 h2 => by simp [Value.ownBlock] at h1 h2; omega⟩
/-- Facts about the world at hand; then on, from any world of which they are known. -/
theorem at_world {P : Program} {C : Code} {Q : Exit → Act → World → Prop} {a : Act} (W : World) (F : World → Prop) (h : F W) (k : ∀ V, F V → C.wp P Q a V) : C.wp P Q a W := k W h
theorem at_rounds {P : Program} {C : Code} {Q : Exit → Act → World → Prop} {n : Nat} {a : Act} (W : World) (F : World → Prop) (h : F W) (k : ∀ V, F V → Code.rounds P C Q n a V) : Code.rounds P C Q n a W := k W h
/-- What an append needs to know of the types. -/
structure EltK (P : Program) (ty e : TypeId) (sz : Nat) : Prop where
  out : P.underlying ty = some (.slice e) ∧ ∃ i z, P.info? e = some i ∧ i.zero = some z ∧ i.size = sz ∧ z.cells.size = sz ∧ 0 < sz ∧ sz ≤ 100 ∧ i.bytes ≤ 1000
section
variable {P : Program} {ops : Array Oper} {rest : List Oper} {o : Oper} {a : Act} {Q : Exit → Act → World → Prop}
theorem wpList_append_K (w : World) (hgd : o.guard = none) (s x : Operand) (t e : TypeId) (sz : Nat) (ho : o.op = .call { callee := .builtin .append, args := #[s, x], argTypes := #[t, t] }) (he : EltK P t e sz)
    {v : Value} {g m c : Nat} (hs : a.eval s = v) (hx : a.eval x = .slice (some ⟨g, 0, none⟩) m c) {B n : Nat} {xs : List Value} (hown : OwnK w B e sz v n xs) {news : Array Value} {T : TypeId} (hnew : RowK w g news T) (hl : news.size = m * sz) (h1 : ∀ u ∈ news.toList, u.oneCell' = true)
    (h63 : n + m ≤ 1000000) (hbase : B ≤ w.heap.size)
    (h : ∀ v' w', OwnK w' B e sz v' (n + m) (xs ++ news.toList) → Grew w v w' → (v'.ownBlock = v.ownBlock ∨ v'.ownBlock = some w.heap.size) → wpList P ops Q rest (a.put o.dst v') w') : wpList P ops Q (o :: rest) a w := by
  obtain ⟨hu, i, z, hi, hz, hsz, hzs, hpos, hle, hby⟩ := he.out
  refine wpList_append_own_at w hgd s x t ho B e i z sz i.bytes hu hi hz hsz rfl hzs hpos v n xs hs hown.out ⟨g, 0, none⟩ m c news.toList hx (by simpa using hl) (fun j u hj => ?_) h1 (by unfold maxLen; omega) ?_ hbase (fun v' w' h2 h3 h4 h5 => h v' w' ⟨h2⟩ ⟨h3⟩ h5)
  · have hadd : (⟨g, 0, none⟩ : Addr).add j = ⟨g, j, none⟩ := by unfold Addr.add; split <;> simp_all
    rw [hadd, cell_of_row w g j _ _ _ hnew.out]
    simpa using hj
  · exact Nat.le_trans (Nat.mul_le_mul h63 hby) (by decide)
/-- A slice literal of one aggregate of three. -/
theorem wpList_slice_pt (w : World) (hgd : o.guard = none) (t e : TypeId) (x : Operand) (ho : o.op = .buildSlice t 1 #[(0, x)]) (he : EltK P t e 3) {p : Pt} (hx : a.eval x = pV p)
    (h : wpList P ops Q rest (a.put o.dst (.slice (some ⟨w.heap.size, 0, none⟩) 1 1)) (w.alloc (.cells (pC p) e))) : wpList P ops Q (o :: rest) a w := by
  obtain ⟨hu, i, z, hi, hz, hsz, hzs, hpos, hle, hby⟩ := he.out
  refine wpList_buildSlice hgd t e 1 _ ho (pC p) i z hu hi hz (by rw [hsz]; decide) (by rw [hsz]; decide) ?_ h
  simp only [List.map_toArray, List.map_cons, List.map_nil, hx, hsz]
  generalize z.cells = zc at hzs
  have e1 : (Array.range (1 * 3)).map (fun k => zc[k % zc.size]!) = #[zc[0]!, zc[1]!, zc[2]!] := by
    rw [hzs]
    apply Array.ext
    · simp
    · intro i h1 h2
      simp at h1
      match i, h1 with
      | 0, _ => simp
      | 1, _ => simp
      | 2, _ => simp
  rw [e1]
  rfl
end
theorem eltPo : EltK Try.prog 51 33 3 := by
  obtain ⟨i0, hi, hz0, hz1, hz2⟩ := info_parts (show (Try.prog.info? 33).map (fun i => (i.zero, i.size, i.bytes)) = some (some (.agg #[.int .i64 0, .int .i64 0, .int .i64 0]), 3, 24) by kernel_rfl)
  exact ⟨Try.underlying51, i0, _, hi, hz0, hz1, rfl, by decide, by decide, by rw [hz2]; decide⟩
theorem eltI64 : EltK Try.prog 73 2 1 := by
  obtain ⟨i0, hi, hz0, hz1, hz2⟩ := info_parts (show (Try.prog.info? 2).map (fun i => (i.zero, i.size, i.bytes)) = some (some (.int .i64 0), 1, 8) by kernel_rfl)
  exact ⟨Try.underlying73, i0, _, hi, hz0, hz1, rfl, by decide, by decide, by rw [hz2]; decide⟩
theorem eltInt : EltK Try.prog 67 3 1 := by
  obtain ⟨i0, hi, hz0, hz1, hz2⟩ := info_parts (show (Try.prog.info? 3).map (fun i => (i.zero, i.size, i.bytes)) = some (some (.int .i64 0), 1, 8) by kernel_rfl)
  exact ⟨Try.underlying67, i0, _, hi, hz0, hz1, rfl, by decide, by decide, by rw [hz2]; decide⟩
theorem OwnK.empty {w : World} {B g : Nat} {T : TypeId} {sz : Nat} (h : RowK w g #[] T) (hB : B ≤ g) : OwnK w B T sz (.slice (some ⟨g, 0, none⟩) 0 0) 0 [] :=
  ⟨by simp, .inr ⟨g, 0, #[], rfl, hB, h.out, Nat.le_refl _, by unfold maxLen; omega, by simp, by simp⟩⟩
/-- An own list of points, read. -/
theorem OwnK.pts {W : World} {B : Nat} {T : TypeId} {v : Value} {n : Nat} {l : List Pt} (h : OwnK W B T 3 v n (ptCs l)) (hl : l.length = n) (hn : 0 < n) :
    ∃ g cap, v = .slice (some ⟨g, 0, none⟩) n cap ∧ B ≤ g ∧ g < W.heap.size ∧ PtsK W g 0 n l := by
  obtain ⟨g, cap, h1, h2, h3, h4⟩ := ownPts h.out hl hn
  exact ⟨g, cap, h1, h2, h3, ⟨h4⟩⟩
theorem ptCs_end (l : List Pt) (p : Pt) : ptCs l ++ (pC p).toList = ptCs (l ++ [p]) := by simp [ptCs, pC, ptC]
end Go.Proofs.Ytoagfpdicpcjnaa
/- The searches of a walk, as defaults of arguments: a fact is found again by its name alone. -- own lists -- numbers -/
namespace Go.Proofs.Ytoagfpdicpcjnaa
open Go.RowKit
set_option linter.unusedVariables false
set_option linter.unusedSimpArgs false
theorem ints_end (l : List Int) (k : Int) : ints l ++ (#[Value.int .i64 k] : Array Value).toList = ints (l ++ [k]) := by simp [ints]
theorem IntsK.lt {w : World} {b o n : Nat} {L : List Int} (h : IntsK w b o n L) (hn : 0 < n) : b < w.heap.size := World.block_lt_of_cell? w _ (h.out 0 hn)
theorem OwnK.ints {W : World} {B : Nat} {T : TypeId} {v : Value} {n : Nat} {l : List Int} (h : OwnK W B T 1 v n (ints l)) (hl : l.length = n) (hn : 0 < n) :
    ∃ g cap, v = .slice (some ⟨g, 0, none⟩) n cap ∧ B ≤ g ∧ g < W.heap.size ∧ IntsK W g 0 n l := by
  rcases h.out.2 with ⟨_, h0⟩ | ⟨g, cap, cur, rfl, hb, hg, hle, _, hsz, htk⟩
  · exfalso; omega
  · refine ⟨g, cap, rfl, hb, (Array.getElem?_eq_some_iff.1 hg).1, ⟨fun i hi => ?_⟩⟩
    rw [Nat.zero_add, cell_of_row W g i _ _ _ hg]
    have h1 : (cur.toList.take (n * 1))[i]? = (Go.Proofs.Ytoagfpdicpcjnaa.ints l)[i]? := by rw [htk]
    rw [Nat.mul_one, List.getElem?_take_of_lt hi] at h1
    rw [← Array.getElem?_toList, h1]
    unfold Go.Proofs.Ytoagfpdicpcjnaa.ints
    have hil : i < l.length := by omega
    simp [List.getD, hil]
theorem run_load_intT {P : Program} {o : Oper} {W : World} {ρ : Operand → Value} {ty : TypeId} {x : Operand} {b e n : Nat} {L : List Int} (hop : o.op = .load ty x) (hx : ρ x = .pointer (some ⟨b, e, none⟩)) (hL : IntsK W b 0 n L) (he : e < n)
    (ha : ∀ W, (isAgg ty).run P W = .ok false W) (t : Int) (ht : L.getD e 0 = t) : (execOp ρ o).run P W = .ok (.value (.int .i64 t)) W := by
  have h := hL.out e he
  rw [Nat.zero_add, ht] at h
  unfold execOp
  simp only [hop, hx, Instr.loadAt, Instr.sureAddr, Sem.run_bind, Sem.run_pure, Result.andThen_ok, loadVar, ha, Bool.false_eq_true, if_false]
  rw [run_load]
  simp [h]
theorem findRow {W : World} {g : Nat} {cs : Array Value} {T : TypeId} (h : RowK W g cs T := by repeat (first | with_reducible assumption | ((with_reducible apply RowK.new); (first | rfl | (focus (simp; done)) | omega | (focus (simp; omega)))) | with_reducible apply RowK.here | (apply RowK.link; (· with_reducible assumption)) | with_reducible apply RowK.alloc | with_reducible apply RowK.drewN | with_reducible apply RowK.drew | ((with_reducible apply RowK.set); (· first | assumption | omega | (simp; omega))) | (apply RowK.grew; (· with_reducible assumption); (· (first | with_reducible assumption | (apply Off.under; (· with_reducible assumption); (· omega)) | (apply Off.above; (· with_reducible assumption); (· omega))))))) : RowK W g cs T := h
theorem findPts {W : World} {b o n : Nat} {L : List Pt} (h : PtsK W b o n L := by repeat (first | with_reducible assumption | (apply PtsK.link; (· with_reducible assumption)) | with_reducible apply PtsK.alloc | with_reducible apply PtsK.drewN | with_reducible apply PtsK.drew | ((with_reducible apply PtsK.set); (· first | assumption | omega | (simp; omega))) | (apply PtsK.grew; (· with_reducible assumption); (· (first | with_reducible assumption | (apply Off.under; (· with_reducible assumption); (· omega)) | (apply Off.above; (· with_reducible assumption); (· omega))))))) : PtsK W b o n L := h
theorem findInts {W : World} {b o n : Nat} {L : List Int} (h : IntsK W b o n L := by repeat (first | with_reducible assumption | (apply IntsK.link; (· with_reducible assumption)) | with_reducible apply IntsK.alloc | with_reducible apply IntsK.drewN | with_reducible apply IntsK.drew | ((with_reducible apply IntsK.set); (· first | assumption | omega | (simp; omega))) | (apply IntsK.grew; (· with_reducible assumption); (· (first | with_reducible assumption | (apply Off.under; (· with_reducible assumption); (· omega)) | (apply Off.above; (· with_reducible assumption); (· omega))))))) : IntsK W b o n L := h
theorem findLow {w W : World} (h : LowK w W := by repeat (first | with_reducible assumption | with_reducible exact LowK.refl _ | (apply LowK.link; (· with_reducible assumption)) | with_reducible apply LowK.alloc | with_reducible apply LowK.drewN | with_reducible apply LowK.drew | ((with_reducible apply LowK.set); (· first | assumption | omega | (simp; omega))) | (apply LowK.grewB; (· with_reducible assumption); (· with_reducible assumption); (· omega)))) : LowK w W := h
theorem findOwn {W : World} {B : Nat} {T : TypeId} {sz : Nat} {v : Value} {n : Nat} {xs : List Value} (h : OwnK W B T sz v n xs := by repeat (first | with_reducible assumption | (apply OwnK.link; (· with_reducible assumption)) | with_reducible apply OwnK.alloc | with_reducible apply OwnK.drewN | with_reducible apply OwnK.drew | with_reducible apply OwnK.set | with_reducible assumption | (apply Off.under; (· with_reducible assumption); (· omega)) | (apply Off.above; (· with_reducible assumption); (· omega)) | (apply OwnK.grew; (· with_reducible assumption)) | exact Apart.out (by first | assumption | exact Apart.symm (by assumption)))) : OwnK W B T sz v n xs := h
theorem findOff {v : Value} {g : Nat} (h : Off v g := by (first | with_reducible assumption | (apply Off.under; (· with_reducible assumption); (· omega)) | (apply Off.above; (· with_reducible assumption); (· omega)))) : Off v g := h
section
variable {ρ : Operand → Value} {o : Oper} {W : World} {ty : TypeId} {x : Operand}
theorem ld_row {g : Nat} {T : TypeId} {cs : Array Value} {n : Nat} (hop : o.op = .load ty x := by exact rfl) (hx : ρ x = .pointer (some ⟨g, 0, none⟩) := by exact rfl) (hg : RowK W g cs T := by repeat (first | with_reducible assumption | ((with_reducible apply RowK.new); (first | rfl | (focus (simp; done)) | omega | (focus (simp; omega)))) | with_reducible apply RowK.here | (apply RowK.link; (· with_reducible assumption)) | with_reducible apply RowK.alloc | with_reducible apply RowK.drewN | with_reducible apply RowK.drew | ((with_reducible apply RowK.set); (· first | assumption | omega | (simp; omega))) | (apply RowK.grew; (· with_reducible assumption); (· (first | with_reducible assumption | (apply Off.under; (· with_reducible assumption); (· omega)) | (apply Off.above; (· with_reducible assumption); (· omega))))))) (hn : cs.size = n := by exact rfl)
    (hs : ∀ W, (sizeOf ty).run Try.prog W = .ok n W := by (first | exact Try.sizeOf33 | exact Try.sizeOf44)) (ha : ∀ W, (isAgg ty).run Try.prog W = .ok true W := by (first | exact Try.isAgg33 | exact Try.isAgg44)) : (execOp ρ o).run Try.prog W = .ok (.value (.agg cs)) W := run_load_rowK hop hx hg n hn hs ha
theorem ld_pt {b e n : Nat} {L : List Pt} {t : Pt} (k : Nat) (hop : o.op = .load ty x := by exact rfl) (hx : ρ x = .pointer (some ⟨b, e, none⟩) := by exact rfl) (hL : PtsK W b 0 n L := by repeat (first | with_reducible assumption | (apply PtsK.link; (· with_reducible assumption)) | with_reducible apply PtsK.alloc | with_reducible apply PtsK.drewN | with_reducible apply PtsK.drew | ((with_reducible apply PtsK.set); (· first | assumption | omega | (simp; omega))) | (apply PtsK.grew; (· with_reducible assumption); (· (first | with_reducible assumption | (apply Off.under; (· with_reducible assumption); (· omega)) | (apply Off.above; (· with_reducible assumption); (· omega))))))) (he : e = k * 3 := by exact rfl) (hk : k < n := by (first | assumption | omega | decide))
    (hs : ∀ W, (sizeOf ty).run Try.prog W = .ok 3 W := by (first | exact Try.sizeOf33 | exact Try.sizeOf44)) (ha : ∀ W, (isAgg ty).run Try.prog W = .ok true W := by (first | exact Try.isAgg33 | exact Try.isAgg44)) (ht : L.getD k (0, 0, 0) = t := by (first | with_reducible assumption | (simp only [List.getD_cons_zero, List.getD_cons_succ]; exact rfl) | exact rfl)) : (execOp ρ o).run Try.prog W = .ok (.value (pV t)) W := run_load_ptT k hop hx hL he hk hs ha t ht
theorem ld_int {b e n : Nat} {L : List Int} {t : Int} (hop : o.op = .load ty x := by exact rfl) (hx : ρ x = .pointer (some ⟨b, e, none⟩) := by exact rfl) (hL : IntsK W b 0 n L := by repeat (first | with_reducible assumption | (apply IntsK.link; (· with_reducible assumption)) | with_reducible apply IntsK.alloc | with_reducible apply IntsK.drewN | with_reducible apply IntsK.drew | ((with_reducible apply IntsK.set); (· first | assumption | omega | (simp; omega))) | (apply IntsK.grew; (· with_reducible assumption); (· (first | with_reducible assumption | (apply Off.under; (· with_reducible assumption); (· omega)) | (apply Off.above; (· with_reducible assumption); (· omega))))))) (he : e < n := by (first | assumption | omega | decide))
    (ha : ∀ W, (isAgg ty).run Try.prog W = .ok false W := by (first | exact Try.isAgg2 | exact Try.isAgg3 | exact Try.isAgg4)) (ht : L.getD e 0 = t := by (first | with_reducible assumption | (simp only [List.getD_cons_zero, List.getD_cons_succ]; exact rfl) | exact rfl)) : (execOp ρ o).run Try.prog W = .ok (.value (.int .i64 t)) W := run_load_intT hop hx hL he ha t ht
end
section
variable {ops : Array Oper} {rest : List Oper} {o : Oper} {a : Act} {w : World} {Q : Exit → Act → World → Prop}
theorem wl_load {ty : TypeId} {x : Operand} {v : Value} (hK : wpList Try.prog ops Q rest (a.put o.dst v) w) (hgd : o.guard = none := by exact rfl) (hop : o.op = .load ty x := by exact rfl)
    (hr : (execOp a.eval o).run Try.prog w = .ok (.value v) w := by first | exact ld_row | exact ld_pt _ | exact ld_pt 0 | exact ld_pt 1 | exact ld_pt 2 | exact ld_pt 3 | exact ld_int) : wpList Try.prog ops Q (o :: rest) a w := wpList_load_any w hgd ty x hop hr hK
theorem wl_store {ty : TypeId} {x y : Operand} {g n : Nat} {T : TypeId} {cs U : Array Value} (hK : wpList Try.prog ops Q rest a (w.setRow g U)) (hgd : o.guard = none := by exact rfl) (hop : o.op = .store ty x y := by exact rfl) (hd : o.dst = none := by exact rfl)
    (hx : a.eval x = .pointer (some ⟨g, 0, none⟩) := by exact rfl) (hy : a.eval y = .agg U := by exact rfl) (hg : RowK w g cs T := by repeat (first | with_reducible assumption | ((with_reducible apply RowK.new); (first | rfl | (focus (simp; done)) | omega | (focus (simp; omega)))) | with_reducible apply RowK.here | (apply RowK.link; (· with_reducible assumption)) | with_reducible apply RowK.alloc | with_reducible apply RowK.drewN | with_reducible apply RowK.drew | ((with_reducible apply RowK.set); (· first | assumption | omega | (simp; omega))) | (apply RowK.grew; (· with_reducible assumption); (· (first | with_reducible assumption | (apply Off.under; (· with_reducible assumption); (· omega)) | (apply Off.above; (· with_reducible assumption); (· omega))))))) (hn : cs.size = n := by exact rfl) (hU : U.size = n := by exact rfl)
    (hs : ∀ W, (sizeOf ty).run Try.prog W = .ok n W := by (first | exact Try.sizeOf33 | exact Try.sizeOf44)) (h1 : ∀ v ∈ U.toList, v.oneCell' = true := by (first | exact pC_one _ | (focus (simp [Value.oneCell']; done)))) : wpList Try.prog ops Q (o :: rest) a w := wpList_store_rowK w hgd ty x y hop hd hx hy hg n hn hU hs h1 hK
theorem wl_build {t : TypeId} {parts : Array (Nat × Operand)} (hK : wpList Try.prog ops Q rest (a.put o.dst (.agg (pC (0, 0, 0)))) w) (hgd : o.guard = none := by exact rfl) (hop : o.op = .build t parts := by exact rfl)
    (hb : Program.built Try.prog t (parts.map fun (i, x) => (i, a.eval x)).toList = some (pC (0, 0, 0)) := by kernel_rfl) : wpList Try.prog ops Q (o :: rest) a w := wpList_build w hgd t parts hop _ hb hK
theorem wl_slice {t e : TypeId} {x : Operand} {p : Pt} (h : wpList Try.prog ops Q rest (a.put o.dst (.slice (some ⟨w.heap.size, 0, none⟩) 1 1)) (w.alloc (.cells (pC p) e))) (hgd : o.guard = none := by exact rfl) (ho : o.op = .buildSlice t 1 #[(0, x)] := by exact rfl)
    (he : EltK Try.prog t e 3 := by (first | exact eltPo | exact eltI64 | exact eltInt)) (hx : a.eval x = pV p := by exact rfl) : wpList Try.prog ops Q (o :: rest) a w := wpList_slice_pt w hgd t e x ho he hx h
theorem wl_append {s x : Operand} {t e : TypeId} {sz g m c B n : Nat} {v : Value} {xs : List Value} {news : Array Value} {T : TypeId}
    (h : ∀ v' w', OwnK w' B e sz v' (n + m) (xs ++ news.toList) → Grew w v w' → (v'.ownBlock = v.ownBlock ∨ v'.ownBlock = some w.heap.size) → wpList Try.prog ops Q rest (a.put o.dst v') w')
    (hgd : o.guard = none := by exact rfl) (ho : o.op = .call { callee := .builtin .append, args := #[s, x], argTypes := #[t, t] } := by exact rfl) (he : EltK Try.prog t e sz := by (first | exact eltPo | exact eltI64 | exact eltInt))
    (hs : a.eval s = v := by conv => lhs; whnf) (hx : a.eval x = .slice (some ⟨g, 0, none⟩) m c := by exact rfl) (hown : OwnK w B e sz v n xs := by repeat (first | with_reducible assumption | (apply OwnK.link; (· with_reducible assumption)) | with_reducible apply OwnK.alloc | with_reducible apply OwnK.drewN | with_reducible apply OwnK.drew | with_reducible apply OwnK.set | with_reducible assumption | (apply Off.under; (· with_reducible assumption); (· omega)) | (apply Off.above; (· with_reducible assumption); (· omega)) | (apply OwnK.grew; (· with_reducible assumption)) | exact Apart.out (by first | assumption | exact Apart.symm (by assumption)))) (hnew : RowK w g news T := by repeat (first | with_reducible assumption | ((with_reducible apply RowK.new); (first | rfl | (focus (simp; done)) | omega | (focus (simp; omega)))) | with_reducible apply RowK.here | (apply RowK.link; (· with_reducible assumption)) | with_reducible apply RowK.alloc | with_reducible apply RowK.drewN | with_reducible apply RowK.drew | ((with_reducible apply RowK.set); (· first | assumption | omega | (simp; omega))) | (apply RowK.grew; (· with_reducible assumption); (· (first | with_reducible assumption | (apply Off.under; (· with_reducible assumption); (· omega)) | (apply Off.above; (· with_reducible assumption); (· omega))))))) (hl : news.size = m * sz := by exact rfl) (h1 : ∀ u ∈ news.toList, u.oneCell' = true := by (first | exact pC_one _ | (focus (simp [Value.oneCell']; done))))
    (h63 : n + m ≤ 1000000 := by first | omega | (simp; omega)) (hbase : B ≤ w.heap.size := by first | omega | (simp; omega)) : wpList Try.prog ops Q (o :: rest) a w := wpList_append_K w hgd s x t e sz ho he hs hx hown hnew hl h1 h63 hbase h
theorem q_load {w : World} {G : Grow0 w} {K : Act → Prop} {ty : TypeId} {x : Operand} {v : Value} (hK : K (a.put o.dst v)) (hop : o.op = .load ty x := by exact rfl)
    (h : ∀ W, Link w W → (execOp a.eval o).run Try.prog W = .ok (.value v) W := by (intro W hl; first | exact ld_row | exact ld_pt _ | exact ld_pt 0 | exact ld_pt 1 | exact ld_pt 2 | exact ld_pt 3 | exact ld_int)) : o.quiet Try.prog a (fun w' => ∃ g : Grow w G, w' = g.W) K := q_load_any ty x hop h hK
end
section
variable {P : Program} {Q : Exit → Act → World → Prop} {l : List Oper} {a0 : Act} {w : World}
theorem region_QA {id : Nat} (m : Nat) (H : ∃ aE, (∀ G : Grow0 w, wpQuiet P l.toArray (fun w' => ∃ g : Grow w G, w' = g.W) (fun a' => a' = aE) (l.take m) a0) ∧ ∀ W, Link w W → wpList P l.toArray Q (l.drop m) aE W)
    (hm : P.follows .mixedOrders = true := by kernel_rfl) (hml : m ≤ l.length := by decide) (chk : viaChk l m a0.tmps.size = true := by kernel_rfl) (hgd : guardsIn l m = true := by kernel_rfl) (hon : onceB l m = true := by kernel_rfl) :
    (Code.region id l.toArray true).wp P Q a0 w := region_Q m hm hml chk hgd hon H
theorem region_QNA {id : Nat} (m : Nat) (ns : List CellS) {ms : List Bool} {rl : List Oper} (hpk : Pick l ms rl)
    (hal : AllNs (fun s : CellS => ∀ o, l[s.i]? = some o → ∀ (ρ : Operand → Value) (W : World), (execOp ρ o).run P W = .ok (.value (.pointer (some ⟨W.heap.size, 0, none⟩))) (W.alloc (.cells s.Z s.T))) ns)
    (H : ∃ aE, (∀ G : Grow0 w, wpQuiet P l.toArray (fun w' => ∃ g : Grow w G, w' = g.W) (fun a' => a' = aE) rl a0) ∧
      ∀ (g : Nat → Nat) (W : World), Link w W → AllNs (fun s : CellS => w.heap.size ≤ g s.t ∧ RowK W (g s.t) s.Z s.T) ns → AllNs (fun s : CellS => AllNs (fun s' : CellS => s.t ≠ s'.t → g s.t ≠ g s'.t) ns) ns → wpList P l.toArray Q (l.drop m) (puts aE (ns.map fun s => (s.t, .pointer (some ⟨g s.t, 0, none⟩)))) W)
    (hm : P.follows .mixedOrders = true := by kernel_rfl) (hml : m ≤ l.length := by decide) (hrl : (l.take m).filter (fun o => !isNew (ns.map (·.n)) o) = rl := by kernel_rfl)
    (chk : viaChk l m a0.tmps.size = true := by kernel_rfl) (hnew : newB l m (ns.map (·.n)) = true := by kernel_rfl) (hcell : cellB l m ns = true := by kernel_rfl) : (Code.region id l.toArray true).wp P Q a0 w := region_QN m ns hpk hm hml hrl chk hnew hcell hal H
theorem region_CHA {id : Nat} (m : Nat) (ch : List Nat) (KP : World → Prop) {ms mc : List Bool} {rl cl : List Oper} (hpk : Pick l ms rl) (hpc : Pick l mc cl)
    (hk : ∀ W W', KP W → Link W W' → KP W') (h0 : KP w)
    (H : ∃ aE, (∀ W0, KP W0 → ∀ G : Grow0 W0, wpQuiet P l.toArray (fun w' => ∃ g : Grow W0 G, w' = g.W) (fun a' => a' = aE) rl a0) ∧ wpCh P l.toArray KP (fun a' W' => wpList P l.toArray Q (l.drop m) a' W') cl aE w)
    (hm : P.follows .mixedOrders = true := by kernel_rfl) (hml : m ≤ l.length := by decide)
    (hrl : (((List.range m).filter fun i => !ch.contains i).filterMap fun i => l[i]?) = rl := by kernel_rfl) (hcl : (ch.filterMap fun i => l[i]?) = cl := by kernel_rfl)
    (chk : viaChkC l m a0.tmps.size ch = true := by kernel_rfl) (hgd : guardsIn l m = true := by kernel_rfl) (hon : onceC l m = true := by kernel_rfl) (hch : chChk l m ch = true := by kernel_rfl) (hcb : chanB l m ch = true := by kernel_rfl) :
    (Code.region id l.toArray true).wp P Q a0 w := region_CH m ch KP hpk hpc hm hml hrl hcl chk hgd hon hch hcb hk h0 H
end
end Go.Proofs.Ytoagfpdicpcjnaa
/- Lists of maps in memory: loads and stores of nine cells in the middle of a block, and the searches for them. -/
namespace Go.Proofs.Ytoagfpdicpcjnaa
open Go.RowKit
set_option linter.unusedVariables false
set_option linter.unusedSimpArgs false
def mC (t : M9) : Array Value := #[.int .i64 t.1.1, .int .i64 t.1.2.1, .int .i64 t.1.2.2, .int .i64 t.2.1.1, .int .i64 t.2.1.2.1, .int .i64 t.2.1.2.2, .int .i64 t.2.2.1, .int .i64 t.2.2.2.1, .int .i64 t.2.2.2.2]
@[reducible] def mV (t : M9) : Value := .agg (mC t)
def m0 : M9 := ((0, 0, 0), (0, 0, 0), (0, 0, 0))
theorem mC_one (t : M9) : ∀ u ∈ (mC t).toList, u.oneCell' = true := by
  intro u hu
  simp only [mC, List.mem_cons, List.not_mem_nil, or_false] at hu
  rcases hu with h | h | h | h | h | h | h | h | h <;> (subst h; rfl)
/-- Cells in the middle of a block. -/
structure RangeK (W : World) (b o : Nat) (U : Array Value) : Prop where
  out : W.rangeAt b o U.toList
/-- Cells that may be written. -/
structure ThereK (W : World) (b o n : Nat) : Prop where
  out : W.there b o n ∧ b < W.heap.size
theorem RangeK.link {W W' : World} {b o : Nat} {U : Array Value} (l : Link W W') (h : RangeK W b o U) : RangeK W' b o U := ⟨fun j v hv => cell_below l.out (h.out j v hv)⟩
theorem RangeK.alloc {W : World} {b o : Nat} {U : Array Value} (h : RangeK W b o U) (ob : Obj) : RangeK (W.alloc ob) b o U := ⟨World.rangeAt_alloc h.out ob⟩
theorem RangeK.viaLow {W W' : World} {b o : Nat} {U : Array Value} (h : RangeK W b o U) (l : LowK W W') : RangeK W' b o U := h.link (LowK.lnk l)
theorem RangeK.apart {W : World} {b o b' o' : Nat} {U : Array Value} {vs : List Value} (h : RangeK W b o U) (hap : b ≠ b' ∨ o + U.size ≤ o' ∨ o' + vs.length ≤ o) : RangeK (W.setCells b' o' vs) b o U := ⟨World.rangeAt_setCells_apart h.out b' o' vs (by simpa using hap)⟩
theorem RangeK.row {W : World} {b : Nat} {C U : Array Value} {T : TypeId} (h : RowK W b C T) (o : Nat) (hU : (C.extract o (o + U.size)) = U) : RangeK W b o U := ⟨by rw [← hU]; exact World.rangeAt_of_block h.out o U.size⟩
theorem ThereK.link {W W' : World} {b o n : Nat} (l : Link W W') (h : ThereK W b o n) : ThereK W' b o n := by
  obtain ⟨h1, h3⟩ := h.out
  have e := l.out.block b h3
  refine ⟨fun j hj => ?_, Nat.lt_of_lt_of_le h3 l.out.size⟩
  obtain ⟨k1, k2⟩ := h1 j hj
  refine ⟨?_, ?_⟩
  · unfold World.cell? at k1 ⊢; rw [e]; exact k1
  · unfold World.frozen? at k2 ⊢; rw [e]; exact k2
theorem ThereK.viaLow {W W' : World} {b o n : Nat} (h : ThereK W b o n) (l : LowK W W') : ThereK W' b o n := h.link (LowK.lnk l)
theorem ThereK.sets {W : World} {b o n b' o' : Nat} {vs : List Value} (h : ThereK W b o n) : ThereK (W.setCells b' o' vs) b o n := ⟨World.there_setCells h.out.1 b' o' vs, by rw [setCells_size]; exact h.out.2⟩
theorem ThereK.part {W : World} {b n : Nat} (h : ThereK W b 0 n) (o m : Nat) (hm : o + m ≤ n) : ThereK W b o m := ⟨fun j hj => by have := h.out.1 (o + j) (by omega); rwa [Nat.zero_add] at this, h.out.2⟩
theorem LowK.sets {w W : World} {g : Nat} (hg : w.heap.size ≤ g) (o : Nat) (vs : List Value) (h : LowK w W) : LowK w (W.setCells g o vs) := ⟨below_setCells g hg _ _ _ h.out⟩
/-- A list of maps. -/
structure MapsK (W : World) (b o n : Nat) (L : List M9) : Prop where
  out : ∀ i, i < n → W.rangeAt b (o + i * 9) (mC (L.getD i m0)).toList
theorem MapsK.link {W W' : World} {b o n : Nat} {L : List M9} (l : Link W W') (h : MapsK W b o n L) : MapsK W' b o n L := ⟨fun i hi => ((RangeK.mk (h.out i hi)).link l).out⟩
theorem MapsK.at_ {W : World} {b o n i : Nat} {L : List M9} (h : MapsK W b o n L) (hi : i < n) : RangeK W b (o + i * 9) (mC (L.getD i m0)) := ⟨h.out i hi⟩
theorem MapsK.lt {W : World} {b o n : Nat} {L : List M9} (h : MapsK W b o n L) (hn : 0 < n) : b < W.heap.size := World.block_lt_of_cell? W _ (h.out 0 hn 0 _ rfl)
structure RowTy (ty : TypeId) (n : Nat) : Prop where
  out : ∃ d, Try.prog.underlying ty = some d ∧ d.isRow = true ∧ (Try.prog.info? ty).map (·.size) = some n
theorem rowMap : RowTy 44 9 := ⟨_, Try.underlying44, rfl, by kernel_rfl⟩
theorem rowA33 : RowTy 43 9 := ⟨_, Try.underlying43, rfl, by kernel_rfl⟩
theorem rowA3 : RowTy 30 3 := ⟨_, Try.underlying30, rfl, by kernel_rfl⟩
section
variable {ρ : Operand → Value} {ops : Array Oper} {rest : List Oper} {o : Oper} {a : Act} {w W : World} {Q : Exit → Act → World → Prop} {ty : TypeId} {x y : Operand}
theorem findRange {W : World} {b o : Nat} {U : Array Value} (h : RangeK W b o U := by first | with_reducible assumption | (with_reducible apply RangeK.viaLow; (· with_reducible assumption); (· exact findLow)) | (repeat (first | with_reducible assumption | (apply RangeK.link; (· with_reducible assumption)) | with_reducible apply RangeK.alloc))) : RangeK W b o U := h
theorem ld_mid {b off n : Nat} {U : Array Value} (hop : o.op = .load ty x := by exact rfl) (hx : ρ x = .pointer (some ⟨b, off, none⟩) := by exact rfl) (hc : RangeK W b off U := by exact findRange)
    (hn : U.size = n := by exact rfl) (hty : RowTy ty n := by first | exact rowMap | exact rowA33 | exact rowA3) : (execOp ρ o).run Try.prog W = .ok (.value (.agg U)) W := by
  obtain ⟨d, h1, h2, h3⟩ := hty.out
  unfold execOp
  have hs : (Try.prog.info? ty).map (·.size) = some U.toList.length := by rw [h3]; simp [hn]
  simp only [hop, hx, Sem.run_bind, run_loadAt_mid W b off ty U.toList d hc.out h1 h2 hs, Result.andThen_ok]
  rfl
theorem wl_loadM {U : Array Value} (hK : wpList Try.prog ops Q rest (a.put o.dst (.agg U)) w) (hgd : o.guard = none := by exact rfl) (hop : o.op = .load ty x := by exact rfl)
    (hr : (execOp a.eval o).run Try.prog w = .ok (.value (.agg U)) w := by exact ld_mid) : wpList Try.prog ops Q (o :: rest) a w := wpList_load_any w hgd ty x hop hr hK
theorem q_loadM {G : Grow0 w} {K : Act → Prop} {U : Array Value} (hK : K (a.put o.dst (.agg U))) (hop : o.op = .load ty x := by exact rfl)
    (h : ∀ W, Link w W → (execOp a.eval o).run Try.prog W = .ok (.value (.agg U)) W := by (intro W hl; exact ld_mid)) : o.quiet Try.prog a (fun w' => ∃ g : Grow w G, w' = g.W) K := q_load_any ty x hop h hK
theorem wl_fill1 (hK : wpList Try.prog ops Q rest (a.put o.dst (.agg (pC (-7000000000000000101, 0, 0)))) w) (hgd : o.guard = none := by exact rfl) (hop : o.op = .build 30 #[(0, .const (.int .i64 (-7000000000000000101)))] := by exact rfl) : wpList Try.prog ops Q (o :: rest) a w :=
  wpList_build w hgd _ _ hop _ ((show Program.built Try.prog 30 (#[(0, .const (.int .i64 (-7000000000000000101)))].map fun ((i, x) : Nat × Operand) => (i, a.eval x)).toList = Program.built Try.prog 30 [(0, .int .i64 (-7000000000000000101))] from by simp; rfl).trans (show Program.built Try.prog 30 [(0, .int .i64 (-7000000000000000101))] = some (pC (-7000000000000000101, 0, 0)) by kernel_rfl)) hK
theorem wl_fill2 (hK : wpList Try.prog ops Q rest (a.put o.dst (.agg (mC ((-7000000000000000101, 0, 0), (0, 0, 0), (0, 0, 0))))) w) (hgd : o.guard = none := by exact rfl) (hop : o.op = .build 44 #[(0, x)] := by exact rfl) (hx : a.eval x = .agg (pC (-7000000000000000101, 0, 0)) := by exact rfl) : wpList Try.prog ops Q (o :: rest) a w :=
  wpList_build w hgd _ _ hop _ ((show Program.built Try.prog 44 (#[(0, x)].map fun ((i, x) : Nat × Operand) => (i, a.eval x)).toList = Program.built Try.prog 44 [(0, .agg (pC (-7000000000000000101, 0, 0)))] from by simp [hx]).trans (show Program.built Try.prog 44 [(0, .agg (pC (-7000000000000000101, 0, 0)))] = some (mC ((-7000000000000000101, 0, 0), (0, 0, 0), (0, 0, 0))) by kernel_rfl)) hK
theorem wl_storeM {b off n : Nat} {U : Array Value} (hK : wpList Try.prog ops Q rest a (w.setCells b off U.toList)) (hgd : o.guard = none := by exact rfl) (hop : o.op = .store ty x y := by exact rfl) (hd : o.dst = none := by exact rfl)
    (hx : a.eval x = .pointer (some ⟨b, off, none⟩) := by exact rfl) (hy : a.eval y = .agg U := by exact rfl)
    (hS : ThereK w b off n := by first | with_reducible assumption | (with_reducible apply ThereK.viaLow; (· with_reducible assumption); (· exact findLow)) | (with_reducible apply ThereK.link; (· with_reducible assumption); (· with_reducible assumption)))
    (hn : U.size = n := by exact rfl) (hty : RowTy ty n := by first | exact rowMap | exact rowA33 | exact rowA3) (h1 : ∀ v ∈ U.toList, v.oneCell' = true := by first | exact mC_one _ | (intro v hv; simp at hv; rcases hv with rfl | rfl | rfl <;> rfl)) : wpList Try.prog ops Q (o :: rest) a w := by
  obtain ⟨d, k1, k2, k3⟩ := hty.out
  subst hn
  have hr : (execOp a.eval o).run Try.prog w = .ok .skip (w.setCells b off U.toList) := by
    unfold execOp
    have := run_storeAt_mid (P := Try.prog) w b off ty U hS.out.1 k3 (by have h2 := all_oneCell_toArray (cs := U.toList) h1; simpa using h2)
    simp only [hop, hx, hy, Sem.run_bind, this, Result.andThen_ok]
    rfl
  refine wpList_plain hgd fun K hK' => ?_
  unfold Oper.wp
  rw [hr]
  simp only [Oper.upon, hd]
  exact hK' _ _ hK
end
end Go.Proofs.Ytoagfpdicpcjnaa
/- The laws' own lists of maps: made with room behind, compared. -- maps -/
namespace Go.Proofs.Ytoagfpdicpcjnaa
open Go.RowKit
set_option linter.unusedVariables false
set_option linter.unusedSimpArgs false
theorem toMap_M (t : M9) (w : World) : Calls Try.prog 24 #[mV t] w (Ret w (mV t)) := toMap_any _ _ _ _ _ _ _ _ _ w
theorem eqMap_M (t : M9) (w : World) : Calls Try.prog 47 #[mV t, mV t] w (Ret w (.bool true)) := eqMap_same _ _ _ _ _ _ _ _ _ w
def fillM : M9 := ((-7000000000000000101, 0, 0), (0, 0, 0), (0, 0, 0))
def withRoomM (l : List M9) : List M9 := l ++ List.replicate (roomN l.length) fillM
theorem withRoomM_at (l : List M9) (k : Nat) (h : k < l.length) : (withRoomM l).getD k m0 = l.getD k m0 := by simp [withRoomM, List.getD, List.getElem?_append_left h]
theorem withRoomM_fill (l : List M9) (k : Nat) (h : l.length ≤ k) (h2 : k < l.length + roomN l.length) : (withRoomM l).getD k m0 = fillM := by
  have hj : k - l.length < roomN l.length := by omega
  simp [withRoomM, List.getD, List.getElem?_append_right h, hj]
theorem made9 {m j : Nat} (h : j < m * 9) : ((madeCells #[.int .i64 0, .int .i64 0, .int .i64 0, .int .i64 0, .int .i64 0, .int .i64 0, .int .i64 0, .int .i64 0, .int .i64 0] (m * 9))[j]?).isSome = true := by simp [madeCells, h]
section
variable {ops : Array Oper} {rest : List Oper} {o : Oper} {a : Act} {w : World} {Q : Exit → Act → World → Prop}
theorem wl_makeM {l c : Operand} {N : Nat} (hK : ∀ g W', w.heap.size = g → Link w W' → ThereK W' g 0 (N * 9) → wpList Try.prog ops Q rest (a.put o.dst (.slice (some ⟨g, 0, none⟩) N N)) W') (hgd : o.guard = none := by exact rfl)
    (hop : o.op = .makeSlice 26 l c := by exact rfl) (hl : a.eval l = .int .i64 (N : Int) := by exact rfl) (hc : a.eval c = .int .i64 (N : Int) := by exact rfl) (hN : N ≤ 10000000 := by omega) : wpList Try.prog ops Q (o :: rest) a w := by
  obtain ⟨i0, hi, hz0, hz1, hz2⟩ := info_parts (show (Try.prog.info? 44).map (fun i => (i.zero, i.size, i.bytes)) = some (some (.agg #[.int .i64 0, .int .i64 0, .int .i64 0, .int .i64 0, .int .i64 0, .int .i64 0, .int .i64 0, .int .i64 0, .int .i64 0]), 9, 72) by kernel_rfl)
  refine wpList_plain hgd fun K hK' => ?_
  have hb' : (i0.bytes : Int) * (N : Int) ≤ 281474976710656 := by rw [hz2]; omega
  have hr := run_make (P := Try.prog) w 26 44 i0 _ Try.underlying26 hi hz0 .i64 .i64 N N (by omega) (Int.le_refl _) hb' (by omega)
  have hcl : (Value.agg #[.int .i64 0, .int .i64 0, .int .i64 0, .int .i64 0, .int .i64 0, .int .i64 0, .int .i64 0, .int .i64 0, .int .i64 0]).cells = #[.int .i64 0, .int .i64 0, .int .i64 0, .int .i64 0, .int .i64 0, .int .i64 0, .int .i64 0, .int .i64 0, .int .i64 0] := by rfl
  rw [hcl, hz1, Int.toNat_natCast] at hr
  unfold Oper.wp
  simp [execOp, hop, hl, hc, hr, Result.andThen]
  refine hK' _ _ (hK _ _ rfl ⟨(Below.refl _ _).alloc (Nat.le_refl _) _⟩ ⟨fun j hj => ⟨?_, ?_⟩, by simp⟩)
  · rw [World.cell?_alloc_at _ _ _ _ rfl, Nat.zero_add]; exact made9 hj
  · exact frozen_of_row _ _ _ _ _ (heap_alloc_new _ _)
end
/-- A list of maps as an argument. -/
structure ListM (W : World) (b : Option Addr) (n : Nat) (L : List M9) : Prop where
  out : L.length = n ∧ (0 < n → ∃ g off, b = some ⟨g, off, none⟩ ∧ MapsK W g off n L)
theorem ListM.link {W W' : World} {b : Option Addr} {n : Nat} {L : List M9} (l : Link W W') (h : ListM W b n L) : ListM W' b n L := ⟨h.out.1, fun hn => by obtain ⟨g, off, e, hp⟩ := h.out.2 hn; exact ⟨g, off, e, hp.link l⟩⟩
/-- A copy of an argument. -/
structure CopyM (w : World) (k : Nat) (l : List M9) (e : Ending) (w' : World) : Prop where
  out : ∃ g, e = .returned (.slice (some ⟨g, 0, none⟩) k (k + roomN k)) ∧ w.heap.size ≤ g ∧ g < w'.heap.size ∧ MapsK w' g 0 (k + roomN k) (withRoomM l) ∧ MapsK w' g 0 k l ∧ Link w w'
set_option maxRecDepth 20000 in
set_option maxHeartbeats 8000000 in
theorem copyM_K (b : Option Addr) (n cap : Nat) (bare : Bool) (l : List M9) (w : World) (hn : n ≤ 1000000) (hb : bare = false ∨ 0 < n) (hc : ListM w b n l) :
    Calls Try.prog 8 #[.slice b n cap, .bool bare] w (CopyM w n l) := by
  obtain ⟨hl, hc⟩ := hc.out
  have hr0 := roomN_le n
  have HW := Lib.hid (withRoomM_at l)
  have HF := Lib.hid (withRoomM_fill l)
  rw [hl] at HW HF
  have HC := Lib.hid hc
  have HL := Lib.hid hl
  obtain ⟨m, hm⟩ : ∃ m, n + roomN n = m := ⟨_, rfl⟩
  have hmi : (n : Int) + ((roomN n : Nat) : Int) = (m : Int) := by omega
  have HR : Hid (∀ W : World, Calls Try.prog 23 #[.int .i64 (n : Int)] W fun e w' => e = .returned (.int .i64 ((roomN n : Nat) : Int)) ∧ W = w') := Lib.hid (fun W => roomBehind_any n W hn)
  rw [hm] at HF
  have HM := Lib.hid hm
  clear hm hc hl
  generalize hrr : roomN n = r at *
  have hnm : n ≤ m := by omega
  have hm2 : m ≤ 2 * n + 1 := by omega
  have hcond : (n : Int) = 0 → bare = false := by
    intro h
    rcases hb with h2 | h2
    · exact h2
    · omega
  clear hb
  have hbare : bare = false ∨ (bare = true ∧ ¬ (n : Int) = 0) := by
    rcases bare with _ | _
    · exact .inl rfl
    · exact .inr ⟨rfl, fun h => by simp at hcond; omega⟩
  clear hcond
  rcases hbare with rfl | ⟨rfl, hn0⟩
  · go_enter Try.func8, Try.ntmps8
    go_wp2_with (first | (refine wl_loadM ?_) | (refine wl_load ?_) | (refine wl_fill1 ?_) | (refine wl_fill2 ?_) | (refine wl_storeM ?_) | (refine wl_makeM ?_; intro gm W' hgm hl hT; have hs := hl.out.size; (try simp at hs)) | (refine wl_store ?_) | (refine wl_build ?_) | (refine wl_slice ?_) | (refine wl_append ?_; intro v' w' ho hg hb; have hs := hg.size; (try simp at hs); (try rw [ptCs_end] at ho); (try rw [ints_end] at ho); (try simp only [Nat.zero_add, Nat.reduceAdd, List.nil_append, List.cons_append] at ho)) | (go_at_call 23; (with_reducible refine (HR.out _).mono ?_); rintro e w' ⟨rfl, rfl⟩))
    go_loopw [6] (fun i wr => ∃ k : Nat, k ≤ n ∧ i = .int .i64 (k : Int) ∧ LowK w wr ∧ ThereK wr gm 0 (m * 9) ∧ ∀ j, j < k → RangeK wr gm (j * 9) (mC (l.getD j m0))) (fun i wr => n - (intOf i).toNat)
    case atStart => exact ⟨0, Nat.zero_le _, rfl, findLow, hT, fun j hj => absurd hj (Nat.not_lt_zero _)⟩
    case round =>
      clear hT hl hs
      obtain ⟨k, hk, rfl, hV, hT, hD⟩ := hrel
      have hgl : w.heap.size ≤ gm := Nat.le_of_eq hgm
      by_cases hlt : k < n
      · obtain ⟨g, off, rfl, hS⟩ := HC.out (by omega)
        have r1 : RangeK wr g (off + k * 9) (mC (l.getD k m0)) := (hS.at_ hlt).viaLow hV
        have t1 : ThereK wr gm (k * 9) 9 := hT.part _ _ (by omega)
        obtain ⟨x, hx⟩ : ∃ x, l.getD k m0 = x := ⟨_, rfl⟩
        rw [hx] at r1
        go_wp2_with (first | (refine wl_loadM ?_) | (refine wl_load ?_) | (refine wl_fill1 ?_) | (refine wl_fill2 ?_) | (refine wl_storeM ?_) | (refine wl_makeM ?_; intro gm W' hgm hl hT; have hs := hl.out.size; (try simp at hs)) | (refine wl_store ?_) | (refine wl_build ?_) | (refine wl_slice ?_) | (refine wl_append ?_; intro v' w' ho hg hb; have hs := hg.size; (try simp at hs); (try rw [ptCs_end] at ho); (try rw [ints_end] at ho); (try simp only [Nat.zero_add, Nat.reduceAdd, List.nil_append, List.cons_append] at ho)) | (go_at_call 24; (with_reducible refine (toMap_M x _).mono ?_); rintro e w' ⟨rfl, hb⟩; have hl := Link.mk hb; have hs := hb.size; (try simp at hs); clear hb))
        have hVc : LowK wr w' := findLow
        go_roundw
        case rel =>
          refine ⟨k + 1, by omega, by go_num, LowK.sets hgl _ _ findLow, (hT.viaLow hVc).sets, fun j hj => ?_⟩
          by_cases e : j = k
          · subst e
            rw [hx]
            exact ⟨World.rangeAt_setCells_same _ _ _ _ ((t1.viaLow hVc).out.1)⟩
          · exact ((hD j (by omega)).viaLow hVc).apart (.inr (.inl (by show j * 9 + 9 ≤ k * 9; omega)))
        case measure => (simp [intOf]; try omega)
      · have hkn : n ≤ k := by omega
        go_wp2_with (first | (refine wl_loadM ?_) | (refine wl_load ?_) | (refine wl_fill1 ?_) | (refine wl_fill2 ?_) | (refine wl_storeM ?_) | (refine wl_makeM ?_; intro gm W' hgm hl hT; have hs := hl.out.size; (try simp at hs)) | (refine wl_store ?_) | (refine wl_build ?_) | (refine wl_slice ?_) | (refine wl_append ?_; intro v' w' ho hg hb; have hs := hg.size; (try simp at hs); (try rw [ptCs_end] at ho); (try rw [ints_end] at ho); (try simp only [Nat.zero_add, Nat.reduceAdd, List.nil_append, List.cons_append] at ho)))
        go_loopw [7] (fun i wi => ∃ k : Nat, n ≤ k ∧ k ≤ m ∧ i = .int .i64 (k : Int) ∧ LowK w wi ∧ ThereK wi gm 0 (m * 9) ∧ ∀ j, j < k → RangeK wi gm (j * 9) (mC ((withRoomM l).getD j m0))) (fun i wr => m - (intOf i).toNat)
        case atStart => exact ⟨n, Nat.le_refl _, hnm, rfl, hV, hT, fun j hj => by rw [HW.out j hj]; exact hD j (by omega)⟩
        case round =>
          clear hT hD hV
          obtain ⟨i, hin, him, rfl, hV, hT, hD⟩ := hrel
          by_cases hlm : i < m
          · have t1 : ThereK wr gm (i * 9) 9 := hT.part _ _ (by omega)
            go_wp2_with (first | (refine wl_loadM ?_) | (refine wl_load ?_) | (refine wl_fill1 ?_) | (refine wl_fill2 ?_) | (refine wl_storeM ?_) | (refine wl_makeM ?_; intro gm W' hgm hl hT; have hs := hl.out.size; (try simp at hs)) | (refine wl_store ?_) | (refine wl_build ?_) | (refine wl_slice ?_) | (refine wl_append ?_; intro v' w' ho hg hb; have hs := hg.size; (try simp at hs); (try rw [ptCs_end] at ho); (try rw [ints_end] at ho); (try simp only [Nat.zero_add, Nat.reduceAdd, List.nil_append, List.cons_append] at ho)))
            go_roundw
            case rel =>
              refine ⟨i + 1, by omega, by omega, by go_num, LowK.sets hgl _ _ findLow, hT.sets, fun j hj => ?_⟩
              by_cases e : j = i
              · subst e
                rw [HF.out j hin hlm]
                exact ⟨World.rangeAt_setCells_same _ _ _ _ t1.out.1⟩
              · exact (hD j (by omega)).apart (.inr (.inl (by show j * 9 + 9 ≤ i * 9; omega)))
            case measure => (simp [intOf]; try omega)
          · have hmi2 : m ≤ i := by omega
            have hLm : n ≤ m := hnm
            go_wp2_with (first | (refine wl_loadM ?_) | (refine wl_load ?_) | (refine wl_fill1 ?_) | (refine wl_fill2 ?_) | (refine wl_storeM ?_) | (refine wl_makeM ?_; intro gm W' hgm hl hT; have hs := hl.out.size; (try simp at hs)) | (refine wl_store ?_) | (refine wl_build ?_) | (refine wl_slice ?_) | (refine wl_append ?_; intro v' w' ho hg hb; have hs := hg.size; (try simp at hs); (try rw [ptCs_end] at ho); (try rw [ints_end] at ho); (try simp only [Nat.zero_add, Nat.reduceAdd, List.nil_append, List.cons_append] at ho)))
            (apply ret_one Try.results8; (conv => lhs; whnf); exact rfl)
            have hgw : gm < wr.heap.size := hT.out.2
            refine ⟨gm, by rw [hrr, HM.out], hgl, hgw, ⟨fun j hj => ?_⟩, ⟨fun j hj => ?_⟩, LowK.lnk hV⟩
            · rw [Nat.zero_add]; exact (hD j (by rw [hrr] at hj; have := HM.out; omega)).out
            · rw [Nat.zero_add, ← HW.out j hj]; exact (hD j (by omega)).out
  · go_enter Try.func8, Try.ntmps8
    go_wp2_with (first | (refine wl_loadM ?_) | (refine wl_load ?_) | (refine wl_fill1 ?_) | (refine wl_fill2 ?_) | (refine wl_storeM ?_) | (refine wl_makeM ?_; intro gm W' hgm hl hT; have hs := hl.out.size; (try simp at hs)) | (refine wl_store ?_) | (refine wl_build ?_) | (refine wl_slice ?_) | (refine wl_append ?_; intro v' w' ho hg hb; have hs := hg.size; (try simp at hs); (try rw [ptCs_end] at ho); (try rw [ints_end] at ho); (try simp only [Nat.zero_add, Nat.reduceAdd, List.nil_append, List.cons_append] at ho)) | (go_at_call 23; (with_reducible refine (HR.out _).mono ?_); rintro e w' ⟨rfl, rfl⟩))
    go_loopw [6] (fun i wr => ∃ k : Nat, k ≤ n ∧ i = .int .i64 (k : Int) ∧ LowK w wr ∧ ThereK wr gm 0 (m * 9) ∧ ∀ j, j < k → RangeK wr gm (j * 9) (mC (l.getD j m0))) (fun i wr => n - (intOf i).toNat)
    case atStart => exact ⟨0, Nat.zero_le _, rfl, findLow, hT, fun j hj => absurd hj (Nat.not_lt_zero _)⟩
    case round =>
      clear hT hl hs
      obtain ⟨k, hk, rfl, hV, hT, hD⟩ := hrel
      have hgl : w.heap.size ≤ gm := Nat.le_of_eq hgm
      by_cases hlt : k < n
      · obtain ⟨g, off, rfl, hS⟩ := HC.out (by omega)
        have r1 : RangeK wr g (off + k * 9) (mC (l.getD k m0)) := (hS.at_ hlt).viaLow hV
        have t1 : ThereK wr gm (k * 9) 9 := hT.part _ _ (by omega)
        obtain ⟨x, hx⟩ : ∃ x, l.getD k m0 = x := ⟨_, rfl⟩
        rw [hx] at r1
        go_wp2_with (first | (refine wl_loadM ?_) | (refine wl_load ?_) | (refine wl_fill1 ?_) | (refine wl_fill2 ?_) | (refine wl_storeM ?_) | (refine wl_makeM ?_; intro gm W' hgm hl hT; have hs := hl.out.size; (try simp at hs)) | (refine wl_store ?_) | (refine wl_build ?_) | (refine wl_slice ?_) | (refine wl_append ?_; intro v' w' ho hg hb; have hs := hg.size; (try simp at hs); (try rw [ptCs_end] at ho); (try rw [ints_end] at ho); (try simp only [Nat.zero_add, Nat.reduceAdd, List.nil_append, List.cons_append] at ho)) | (go_at_call 24; (with_reducible refine (toMap_M x _).mono ?_); rintro e w' ⟨rfl, hb⟩; have hl := Link.mk hb; have hs := hb.size; (try simp at hs); clear hb))
        have hVc : LowK wr w' := findLow
        go_roundw
        case rel =>
          refine ⟨k + 1, by omega, by go_num, LowK.sets hgl _ _ findLow, (hT.viaLow hVc).sets, fun j hj => ?_⟩
          by_cases e : j = k
          · subst e
            rw [hx]
            exact ⟨World.rangeAt_setCells_same _ _ _ _ ((t1.viaLow hVc).out.1)⟩
          · exact ((hD j (by omega)).viaLow hVc).apart (.inr (.inl (by show j * 9 + 9 ≤ k * 9; omega)))
        case measure => (simp [intOf]; try omega)
      · have hkn : n ≤ k := by omega
        go_wp2_with (first | (refine wl_loadM ?_) | (refine wl_load ?_) | (refine wl_fill1 ?_) | (refine wl_fill2 ?_) | (refine wl_storeM ?_) | (refine wl_makeM ?_; intro gm W' hgm hl hT; have hs := hl.out.size; (try simp at hs)) | (refine wl_store ?_) | (refine wl_build ?_) | (refine wl_slice ?_) | (refine wl_append ?_; intro v' w' ho hg hb; have hs := hg.size; (try simp at hs); (try rw [ptCs_end] at ho); (try rw [ints_end] at ho); (try simp only [Nat.zero_add, Nat.reduceAdd, List.nil_append, List.cons_append] at ho)))
        go_loopw [7] (fun i wi => ∃ k : Nat, n ≤ k ∧ k ≤ m ∧ i = .int .i64 (k : Int) ∧ LowK w wi ∧ ThereK wi gm 0 (m * 9) ∧ ∀ j, j < k → RangeK wi gm (j * 9) (mC ((withRoomM l).getD j m0))) (fun i wr => m - (intOf i).toNat)
        case atStart => exact ⟨n, Nat.le_refl _, hnm, rfl, hV, hT, fun j hj => by rw [HW.out j hj]; exact hD j (by omega)⟩
        case round =>
          clear hT hD hV
          obtain ⟨i, hin, him, rfl, hV, hT, hD⟩ := hrel
          by_cases hlm : i < m
          · have t1 : ThereK wr gm (i * 9) 9 := hT.part _ _ (by omega)
            go_wp2_with (first | (refine wl_loadM ?_) | (refine wl_load ?_) | (refine wl_fill1 ?_) | (refine wl_fill2 ?_) | (refine wl_storeM ?_) | (refine wl_makeM ?_; intro gm W' hgm hl hT; have hs := hl.out.size; (try simp at hs)) | (refine wl_store ?_) | (refine wl_build ?_) | (refine wl_slice ?_) | (refine wl_append ?_; intro v' w' ho hg hb; have hs := hg.size; (try simp at hs); (try rw [ptCs_end] at ho); (try rw [ints_end] at ho); (try simp only [Nat.zero_add, Nat.reduceAdd, List.nil_append, List.cons_append] at ho)))
            go_roundw
            case rel =>
              refine ⟨i + 1, by omega, by omega, by go_num, LowK.sets hgl _ _ findLow, hT.sets, fun j hj => ?_⟩
              by_cases e : j = i
              · subst e
                rw [HF.out j hin hlm]
                exact ⟨World.rangeAt_setCells_same _ _ _ _ t1.out.1⟩
              · exact (hD j (by omega)).apart (.inr (.inl (by show j * 9 + 9 ≤ i * 9; omega)))
            case measure => (simp [intOf]; try omega)
          · have hmi2 : m ≤ i := by omega
            have hLm : n ≤ m := hnm
            go_wp2_with (first | (refine wl_loadM ?_) | (refine wl_load ?_) | (refine wl_fill1 ?_) | (refine wl_fill2 ?_) | (refine wl_storeM ?_) | (refine wl_makeM ?_; intro gm W' hgm hl hT; have hs := hl.out.size; (try simp at hs)) | (refine wl_store ?_) | (refine wl_build ?_) | (refine wl_slice ?_) | (refine wl_append ?_; intro v' w' ho hg hb; have hs := hg.size; (try simp at hs); (try rw [ptCs_end] at ho); (try rw [ints_end] at ho); (try simp only [Nat.zero_add, Nat.reduceAdd, List.nil_append, List.cons_append] at ho)))
            (apply ret_one Try.results8; (conv => lhs; whnf); exact rfl)
            have hgw : gm < wr.heap.size := hT.out.2
            refine ⟨gm, by rw [hrr, HM.out], hgl, hgw, ⟨fun j hj => ?_⟩, ⟨fun j hj => ?_⟩, LowK.lnk hV⟩
            · rw [Nat.zero_add]; exact (hD j (by rw [hrr] at hj; have := HM.out; omega)).out
            · rw [Nat.zero_add, ← HW.out j hj]; exact (hD j (by omega)).out
end Go.Proofs.Ytoagfpdicpcjnaa
/- A row's opening of a slice of maps: its list, and that it is no longer than memory. -/
namespace Go.Proofs.Ytoagfpdicpcjnaa
open Go.RowKit
open Go.ChangeShapes Go.WideShapes Go.ChangeAt Go.Deep
set_option linter.unusedVariables false
section
variable {H : Type} {enc : TypeId × Value → H} {P : Program} {W : World} {b0 : Nat} {held : Bool} {fuel : Nat}
/-- The three cells of a row of a map. -/
theorem row3 {m : Nat} {e e1 : TypeId} {c0 c1 c2 : Value} {x : DataW H × List MemPlace} (ha : P.underlying e = some (.array 3 e1)) (he : P.underlying e1 = some (.int .i64)) (hc1 : P.cellsOf e1 = 1)
    (h : DataW.trod enc P W 0 (fun _ => true) held m e [c0, c1, c2] = some x) : ∃ q : Pt, c0 = .int .i64 q.1 ∧ c1 = .int .i64 q.2.1 ∧ c2 = .int .i64 q.2.2 := by
  obtain ⟨y0, y1, y2, m', _, hy0, hy1, hy2⟩ := trod_array3 ha hc1 h
  obtain ⟨x0, e0, _, _⟩ := DataW.trod_int he hy0
  obtain ⟨x1, e1', _, _⟩ := DataW.trod_int he hy1
  obtain ⟨x2, e2, _, _⟩ := DataW.trod_int he hy2
  simp at e0 e1' e2
  exact ⟨(x0, x1, x2), e0, e1', e2⟩
theorem open_cell_m {t e r e1 : TypeId} {cs : List Value} {x : DataW H × List MemPlace} (ht : P.underlying t = some (.slice e)) (hr : P.underlying e = some (.array 3 r)) (ha : P.underlying r = some (.array 3 e1)) (he : P.underlying e1 = some (.int .i64)) (hc1 : P.cellsOf e1 = 1) (hc3 : P.cellsOf r = 3) (hc : P.cellsOf e = 9)
    (hf : DataW.trod enc P W 0 (fun _ => true) held fuel t cs = some x) :
    ∃ (b : Option Addr) (k cap : Nat) (l : List M9), cs = [.slice b k cap] ∧ k ≤ 9223372036854775807 ∧ ListM W b k l := by
  rcases open_slice ht hf with ⟨hcs, hx⟩ | ⟨a, len, cap, m, n, D, Pl, hcs, _, hl, hm, hz, hx, hcell⟩
  · exact ⟨none, 0, 0, [], hcs, Nat.zero_le _, ⟨rfl, fun h => absurd h (Nat.lt_irrefl _)⟩⟩
  · simp only [if_true] at hz
    have each : ∀ i, i < m → ∃ q : M9, ∀ j v, (mC q).toList[j]? = some v → W.cell? (a.add (i * 9 + j)) = some v := by
      intro i hi
      obtain ⟨cs', h1, h2⟩ := hcell i hi
      rw [hc] at h1
      obtain ⟨_, hlen, hcc⟩ := World.cells?_some h1
      match cs', hlen with
      | [c0, c1, c2, c3, c4, c5, c6, c7, c8], _ =>
        obtain ⟨xs, m', _, _, _, hxs, hfs⟩ := DataW.trod_array hr (show DataW.trod enc P W 0 (fun _ => true) held n e [c0, c1, c2, c3, c4, c5, c6, c7, c8] = some (D i, Pl i) from h2)
        rw [hc3] at hfs
        have g : ∀ k (hk : k < 3), ∃ y, xs[k]? = some y := fun k hk => ⟨xs[k]'(by rw [hxs]; exact hk), List.getElem?_eq_getElem _⟩
        obtain ⟨y0, hy0⟩ := g 0 (by omega)
        obtain ⟨y1, hy1⟩ := g 1 (by omega)
        obtain ⟨y2, hy2⟩ := g 2 (by omega)
        have f0 := hfs 0 (by omega)
        have f1 := hfs 1 (by omega)
        have f2 := hfs 2 (by omega)
        rw [hy0] at f0
        rw [hy1] at f1
        rw [hy2] at f2
        simp at f0 f1 f2
        obtain ⟨q0, rfl, rfl, rfl⟩ := row3 ha he hc1 f0
        obtain ⟨q1, rfl, rfl, rfl⟩ := row3 ha he hc1 f1
        obtain ⟨q2, rfl, rfl, rfl⟩ := row3 ha he hc1 f2
        refine ⟨(q0, q1, q2), fun j v hv => ?_⟩
        have hj : j < 9 := by
          have := (List.getElem?_eq_some_iff.1 hv).1
          simpa [mC] using this
        have := hcc j (by simpa using hj)
        rw [add_add] at this
        rw [this]
        exact hv
    obtain ⟨q, hq⟩ := choose_lt each
    refine ⟨some a, len, cap, (List.range len).map q, hcs, by unfold maxLen at hm; omega, ⟨by simp, fun hk => ?_⟩⟩
    obtain ⟨b, off, spot⟩ := a
    have hspot : spot = none := by simpa [Addr.add] using World.cell?_spot (hq 0 (by omega) 0 _ rfl)
    subst hspot
    refine ⟨b, off, rfl, ⟨fun i hi j v hv => ?_⟩⟩
    have hd : ((List.range len).map q).getD i m0 = q i := by simp [List.getD, hi]
    rw [hd] at hv
    have h0 := hq i (by omega) j v hv
    rw [add_plain] at h0
    rw [Nat.add_assoc]; exact h0
theorem open_sl_m {r : Reach} {t e s e1 : TypeId} {v : Value} {d : DataW H} {p : List MemPlace} (ht : P.underlying t = some (.slice e)) (hr : P.underlying e = some (.array 3 s)) (ha : P.underlying s = some (.array 3 e1)) (he : P.underlying e1 = some (.int .i64)) (hc1 : P.cellsOf e1 = 1) (hc3 : P.cellsOf s = 3) (hc : P.cellsOf e = 9)
    (hv : Value.okWide P W r b0 t v) (h : DataW.Trod enc P W 0 (fun _ => true) held t v d p) :
    ∃ (b : Option Addr) (k cap : Nat) (l : List M9), v = .slice b k cap ∧ k ≤ 9223372036854775807 ∧ ListM W b k l := by
  obtain ⟨a0, len, cap, rfl⟩ := okWide_slice ht hv
  obtain ⟨fuel, hf⟩ := h
  obtain ⟨b, k, c, l, e, h1, h2⟩ := open_cell_m ht hr ha he hc1 hc3 hc hf
  refine ⟨b, k, c, l, ?_, h1, h2⟩
  simpa [Value.cells] using e
end
end Go.Proofs.Ytoagfpdicpcjnaa
