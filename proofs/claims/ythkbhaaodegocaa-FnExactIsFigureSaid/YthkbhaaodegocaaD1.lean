/- Plain words: two different points have a line. -/
import Derived.Test.YthkbhaaodegocaaC9
namespace Go.Proofs.Ythkbhaaodegocaa
set_option linter.unusedVariables false
set_option linter.unusedSimpArgs false
def crsNz (p : Int) (a b : Pt) : Bool := (crs a b).1 % p != 0 || ((crs a b).2.1 % p != 0 || (crs a b).2.2 % p != 0)
def crsChk (n : Nat) : Bool := (allP n).all (fun a => (allP n).all (fun b => eqP a b || crsNz (n : Int) a b))
theorem crsChk3 : crsChk 3 = true := by decide +kernel
theorem crsChk5 : crsChk 5 = true := by decide +kernel
theorem crsChk7 : crsChk 7 = true := by decide +kernel
theorem crsChk11 : crsChk 11 = true := by decide +kernel
theorem crsChk13 : crsChk 13 = true := by decide +kernel
theorem crsChk_of {n : Nat} (hp : prB (n : Int) = true) : crsChk n = true := by
  have h := prB_cases hp
  have : n = 3 ∨ n = 5 ∨ n = 7 ∨ n = 11 ∨ n = 13 := by omega
  rcases this with rfl | rfl | rfl | rfl | rfl
  · exact crsChk3
  · exact crsChk5
  · exact crsChk7
  · exact crsChk11
  · exact crsChk13
/-- Two different normal points have one normal line. -/
theorem crsN_pt {n : Nat} {a b : Pt} (ha : ptB (n : Int) a.1 a.2.1 a.2.2 = true) (hb : ptB (n : Int) b.1 b.2.1 b.2.2 = true) (h : eqP a b = false) :
    ptB (n : Int) (crsN n a b).1 (crsN n a b).2.1 (crsN n a b).2.2 = true := by
  have hp := (pt_facts ha).1
  have h1 := List.all_eq_true.1 (List.all_eq_true.1 (crsChk_of hp) _ (mem_allP ha)) _ (mem_allP hb)
  have h2 : crsNz (n : Int) a b = true := by
    rw [Bool.or_eq_true] at h1
    rcases h1 with h1 | h1
    · exact absurd (h1.symm.trans h) (by decide)
    · exact h1
  refine nrm3_pt hp ?_
  unfold nzB zerosB
  unfold crsNz at h2
  simp at h2 ⊢
  omega
end Go.Proofs.Ythkbhaaodegocaa
