/- The Singer maps, in plain words: which code is the first. -/
import Derived.Test.YthkbhaaodegocaaS3
import Derived.Test.YthkbhaaodegocaaM5
namespace Go.Proofs.Ythkbhaaodegocaa
open Go.RowKit
set_option linter.unusedVariables false
set_option linter.unusedSimpArgs false
def unitM : M9 := ((1, 0, 0), (0, 1, 0), (0, 0, 1))
/-- The powers of a map: number k is the power k + 1. -/
def powM (p : Int) (m : M9) : Nat → M9
  | 0 => m
  | k + 1 => timesM p (powM p m k) m
def compM (p c : Int) : M9 := ((0, 1, 0), (0, 0, 1), (c % p, c / p % p, c / (p * p)))
/-- From now on: how many steps until the unit. -/
def ordF (p : Int) (m : M9) : Nat → M9 → Nat → Nat
  | 0, _, _ => 0
  | f + 1, now, k => if now = unitM then k else ordF p m f (timesM p now m) (k + 1)
def ordM (p : Int) (m : M9) : Nat := ordF p m 200 m 1
theorem ordF_spec {p : Int} {m : M9} : ∀ (f : Nat) (k : Nat), ordF p m f (powM p m k) (k + 1) ≠ 0 → ∃ j, k ≤ j ∧ j < k + f ∧ ordF p m f (powM p m k) (k + 1) = j + 1 ∧ powM p m j = unitM ∧ ∀ i, k ≤ i → i < j → powM p m i ≠ unitM
  | 0, _, h => (h rfl).elim
  | f + 1, k, h => by
    unfold ordF at h ⊢
    by_cases e : powM p m k = unitM
    · rw [if_pos e]
      exact ⟨k, Nat.le_refl _, by omega, rfl, e, fun i h1 h2 => absurd h2 (by omega)⟩
    · rw [if_neg e] at h ⊢
      obtain ⟨j, h1, h2, h3, h4, h5⟩ := ordF_spec f (k + 1) h
      refine ⟨j, by omega, by omega, h3, h4, fun i hi hj => ?_⟩
      by_cases ei : i = k
      · rw [ei]; exact e
      · exact h5 i (by omega) hj
/-- The order of a map, where it is at most 200. -/
theorem ordM_spec {p : Int} {m : M9} {K : Nat} (h : ordM p m = K) (hK : K ≠ 0) : 1 ≤ K ∧ K ≤ 200 ∧ powM p m (K - 1) = unitM ∧ ∀ i, i < K - 1 → powM p m i ≠ unitM := by
  have h0 : ordF p m 200 (powM p m 0) (0 + 1) ≠ 0 := by rw [show ordF p m 200 (powM p m 0) (0 + 1) = K from h]; exact hK
  obtain ⟨j, _, h2, h3, h4, h5⟩ := ordF_spec 200 0 h0
  have e : K = j + 1 := by rw [← h]; exact h3
  subst e
  exact ⟨by omega, by omega, h4, fun i hi => h5 i (by omega) (by simpa using hi)⟩
/-- The first code of a Singer map. -/
def firstC (p : Nat) : Nat := if p = 3 then 4 else if p = 5 then 7 else if p = 7 then 9 else if p = 11 then 14 else 17
def goodB (p c : Nat) : Bool := c % p != 0 && ordM p (compM p c) == p * p + p + 1
def checkC (p : Nat) : Bool := (List.range (firstC p)).all (fun c => c % p == 0 || (ordM p (compM p c) != 0 && ordM p (compM p c) != p * p + p + 1)) && (firstC p % p != 0 && ordM p (compM p (firstC p)) == p * p + p + 1)
theorem checks : ∀ p ∈ [3, 5, 7, 11, 13], checkC p = true := by decide +kernel
theorem inM_comp {p c : Nat} (hp : prB (p : Int) = true) (hc : c < p * p * p) : InM (compM p c) := by
  have hb := prB_bd hp
  have h1 : In12 ((c : Int) % p) := in12_mod hp
  have h2 : In12 ((c : Int) / p % p) := in12_mod hp
  have h3 : In12 ((c : Int) / ((p : Int) * p)) := by
    have e : (c : Int) / ((p : Int) * p) = ((c / (p * p) : Nat) : Int) := by simp
    rw [e]
    have : c / (p * p) < p := Nat.div_lt_of_lt_mul (by omega)
    generalize c / (p * p) = q at *
    exact ⟨Int.natCast_nonneg _, by omega⟩
  intro z hz
  simp only [compM, listM, List.mem_cons, List.not_mem_nil, or_false] at hz
  rcases hz with rfl | rfl | rfl | rfl | rfl | rfl | rfl | rfl | rfl <;> first | exact h1 | exact h2 | exact h3 | exact ⟨by decide, by decide⟩
theorem inM_pow {p : Int} {m : M9} (hp : prB p = true) (hm : InM m) (k : Nat) : InM (powM p m k) := by
  cases k with
  | zero => exact hm
  | succ k => exact inM_times hp
theorem eqM_dec (x y : M9) : eqM x.1 x.2.1 x.2.2 y.1 y.2.1 y.2.2 = decide (x = y) := by
  cases h : eqM x.1 x.2.1 x.2.2 y.1 y.2.1 y.2.2 with
  | true => obtain ⟨a, b, c⟩ := eqM_iff.1 h; exact (decide_eq_true (Prod.ext a (Prod.ext b c))).symm
  | false => exact (decide_eq_false (fun e => by rw [e, eqM_iff.2 ⟨rfl, rfl, rfl⟩] at h; cases h)).symm
end Go.Proofs.Ythkbhaaodegocaa
