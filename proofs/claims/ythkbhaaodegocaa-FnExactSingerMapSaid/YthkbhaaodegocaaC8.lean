/- Plain words: points on and off a line. -/
import Derived.Test.YthkbhaaodegocaaC7
namespace Go.Proofs.Ythkbhaaodegocaa
set_option linter.unusedVariables false
set_option linter.unusedSimpArgs false
def planeChk (n : Nat) : Bool := (allP n).all (fun m => decide (4 ≤ ((allP n).filter (fun a => onB (n : Int) a m)).length) && (allP n).any (fun a => !onB (n : Int) a m))
theorem planeChk3 : planeChk 3 = true := by decide +kernel
theorem planeChk5 : planeChk 5 = true := by decide +kernel
theorem planeChk7 : planeChk 7 = true := by decide +kernel
theorem planeChk11 : planeChk 11 = true := by decide +kernel
theorem planeChk13 : planeChk 13 = true := by decide +kernel
theorem planeChk_of {n : Nat} (hp : prB (n : Int) = true) : planeChk n = true := by
  have h := prB_cases hp
  have : n = 3 ∨ n = 5 ∨ n = 7 ∨ n = 11 ∨ n = 13 := by omega
  rcases this with rfl | rfl | rfl | rfl | rfl
  · exact planeChk3
  · exact planeChk5
  · exact planeChk7
  · exact planeChk11
  · exact planeChk13
/-- A normal point is in the list of all. -/
theorem mem_allP {n : Nat} {x y z : Int} (h : ptB (n : Int) x y z = true) : (x, y, z) ∈ allP n := by
  obtain ⟨hp, h1, h2, h3, h4⟩ := pt_facts h
  simp only [allP, pB, pA, pR, List.mem_append, List.mem_cons, List.mem_map, List.mem_range, List.mem_flatMap]
  rcases h4 with rfl | ⟨rfl, rfl⟩ | ⟨rfl, rfl, rfl⟩
  · exact .inr ⟨y.toNat, by omega, z.toNat, by omega, by rw [Int.toNat_of_nonneg h2.1, Int.toNat_of_nonneg h3.1]⟩
  · exact .inl (.inr ⟨z.toNat, by omega, by rw [Int.toNat_of_nonneg h3.1]⟩)
  · exact .inl (.inl rfl)
/-- Each normal line has at least four points, and a point is off it. -/
theorem line_facts {n : Nat} {x y z : Int} (h : ptB (n : Int) x y z = true) :
    4 ≤ ((allP n).filter (fun a => onB (n : Int) a (x, y, z))).length ∧ ∃ a ∈ allP n, onB (n : Int) a (x, y, z) = false := by
  have hk := List.all_eq_true.1 (planeChk_of (pt_facts h).1) _ (mem_allP h)
  simp only [Bool.and_eq_true, decide_eq_true_eq, List.any_eq_true, Bool.not_eq_true'] at hk
  exact hk
end Go.Proofs.Ythkbhaaodegocaa
