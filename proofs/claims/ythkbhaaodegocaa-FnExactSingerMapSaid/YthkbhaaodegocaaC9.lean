/- Plain words: what is made normal is normal; lines of two points. -/
import Derived.Test.YthkbhaaodegocaaC8
namespace Go.Proofs.Ythkbhaaodegocaa
set_option linter.unusedVariables false
set_option linter.unusedSimpArgs false
theorem firstNZ_cons (a : Int) (l : List Int) : firstNZ (a :: l) = if a = 0 then firstNZ l else a := by
  unfold firstNZ
  rw [List.find?_cons]
  by_cases h : a = 0
  · have : (a != 0) = false := by simp [h]
    rw [this, if_pos h]
  · have : (a != 0) = true := by simp [h]
    rw [this, if_neg h]; rfl
/-- Three numbers, not all 0 modulo p, made normal: a point. -/
theorem nrm3_pt {p x y z : Int} (hp : prB p = true) (h : nzB p [x, y, z] = true) : ptB p (nrm3 p x y z).1 (nrm3 p x y z).2.1 (nrm3 p x y z).2.2 = true := by
  have hb := prB_bd hp
  have hx0 := Int.emod_nonneg x (show p ≠ 0 by omega)
  have hx1 := Int.emod_lt_of_pos x (show 0 < p by omega)
  have hy0 := Int.emod_nonneg y (show p ≠ 0 by omega)
  have hy1 := Int.emod_lt_of_pos y (show 0 < p by omega)
  have hz0 := Int.emod_nonneg z (show p ≠ 0 by omega)
  have hz1 := Int.emod_lt_of_pos z (show 0 < p by omega)
  have hn : ¬ (x % p = 0 ∧ y % p = 0 ∧ z % p = 0) := by
    intro ⟨a, b, c⟩
    simp [nzB, zerosB] at h
    omega
  have hf : facL p [x, y, z] = invP p (firstNZ [x % p, y % p, z % p]) := rfl
  unfold nrm3
  rw [hf]
  clear h hf
  have bd : ∀ t : Int, 0 ≤ t % p ∧ t % p ≤ p - 1 := fun t => ⟨Int.emod_nonneg _ (by omega), by have := Int.emod_lt_of_pos t (show 0 < p by omega); omega⟩
  have mk : ∀ a b c : Int, (0 ≤ a ∧ a ≤ p - 1) → (0 ≤ b ∧ b ≤ p - 1) → (0 ≤ c ∧ c ≤ p - 1) → (a = 1 ∨ (a = 0 ∧ b = 1) ∨ (a = 0 ∧ b = 0 ∧ c = 1)) → ptB p a b c = true := by
    intro a b c ha hb hc hd
    unfold ptB normB numsB
    simp only [hp, Bool.true_and, Bool.and_eq_true, List.all_cons, List.all_nil, Bool.and_true, numB_iff]
    refine ⟨?_, ha, hb, hc⟩
    rcases hd with rfl | ⟨rfl, rfl⟩ | ⟨rfl, rfl, rfl⟩ <;> rfl
  generalize x % p = a at *
  generalize y % p = b at *
  generalize z % p = c at *
  refine mk _ _ _ (bd _) (bd _) (bd _) ?_
  by_cases ha : a = 0
  · by_cases hb' : b = 0
    · have hc : c ≠ 0 := fun e => hn ⟨ha, hb', e⟩
      have e : firstNZ [a, b, c] = c := by rw [firstNZ_cons, if_pos ha, firstNZ_cons, if_pos hb', firstNZ_cons, if_neg hc]
      have hs := (invP_spec (p := p) (n := c) hp (by omega) (by omega)).2.2.1
      rw [e]; subst ha; subst hb'
      exact .inr (.inr ⟨by simp, by simp, hs⟩)
    · have e : firstNZ [a, b, c] = b := by rw [firstNZ_cons, if_pos ha, firstNZ_cons, if_neg hb']
      have hs := (invP_spec (p := p) (n := b) hp (by omega) (by omega)).2.2.1
      rw [e]; subst ha
      exact .inr (.inl ⟨by simp, hs⟩)
  · have e : firstNZ [a, b, c] = a := by rw [firstNZ_cons, if_neg ha]
    have hs := (invP_spec (p := p) (n := a) hp (by omega) (by omega)).2.2.1
    rw [e]
    exact .inl hs
end Go.Proofs.Ythkbhaaodegocaa
