/- Plain words: primes, numbers, normal lists; no program in sight. -/
import Derived.WalkKit
import Derived.IntWalk
namespace Go.Proofs.Ythkbhaaodegocaa
set_option linter.unusedVariables false
set_option linter.unusedSimpArgs false

def prB (p : Int) : Bool := p == 3 || p == 5 || p == 7 || p == 11 || p == 13
theorem prB_cases {p : Int} (h : prB p = true) : p = 3 ∨ p = 5 ∨ p = 7 ∨ p = 11 ∨ p = 13 := by
  simpa [prB, or_assoc] using h
theorem prB_bd {p : Int} (h : prB p = true) : 3 ≤ p ∧ p ≤ 13 := by
  have := prB_cases h; omega
/-- x is a number modulo p. -/
def numB (p x : Int) : Bool := decide (0 ≤ x) && decide (x ≤ p - 1)
theorem numB_iff {p x : Int} : numB p x = true ↔ 0 ≤ x ∧ x ≤ p - 1 := by simp [numB]
def numsB (p : Int) (l : List Int) : Bool := l.all (numB p)
def firstNZ (l : List Int) : Int := (l.find? (fun x => x != 0)).getD 0
def normB (p : Int) (l : List Int) : Bool := firstNZ l == 1 && numsB p l
def ptB (p x y z : Int) : Bool := prB p && normB p [x, y, z]

theorem numsB_snoc (p : Int) (l : List Int) (x : Int) : numsB p (l ++ [x]) = (numsB p l && numB p x) := by simp [numsB]
theorem take_snoc' {α : Type} (l : List α) (d : α) (k : Nat) (h : k < l.length) : l.take (k + 1) = l.take k ++ [l.getD k d] := by
  rw [List.take_succ_eq_append_getElem h]; simp [List.getD, h]
theorem numsB_false {p : Int} {l : List Int} {k : Nat} (hk : k < l.length) (h : numB p (l.getD k 0) = false) : numsB p l = false := by
  have : l.getD k 0 ∈ l := by simp [List.getD, hk]
  cases hh : numsB p l with
  | false => rfl
  | true =>
    have := List.all_eq_true.1 hh _ this
    rw [this] at h; cases h
theorem ret_bool {a b : Bool} (h : a = b) : Ending.returned (.bool a) = .returned (.bool b) := by rw [h]
theorem ret_int {a b : Int} (h : a = b) : Ending.returned (.int .i64 a) = .returned (.int .i64 b) := by rw [h]
theorem tmod_lo (n p : Int) (hp : 0 < p) : 0 < n.tmod p + p ∧ n.tmod p < p := by
  rcases Int.le_total 0 n with h | h
  · have h1 := Int.tmod_nonneg p h
    have h2 := Int.tmod_lt_of_pos n hp
    omega
  · have h1 : (-n).tmod p = -(n.tmod p) := Int.neg_tmod ..
    have h2 := Int.tmod_nonneg p (a := -n) (by omega)
    have h3 := Int.tmod_lt_of_pos (-n) hp
    omega
theorem mod_is (n p : Int) (hp : 0 < p) : (n.tmod p + p).tmod p = n % p := by
  have h := (tmod_lo n p hp).1
  rw [Int.tmod_eq_emod_of_nonneg (by omega), Int.add_emod_right]
  have e : n.tmod p = n - p * n.tdiv p := Int.tmod_def ..
  rw [e, Int.sub_mul_emod_self_left]
theorem mod_is' (n p : Int) (hp : 0 < p) : (n.tmod p + p) % p = n % p := by
  have e : n.tmod p = n - p * n.tdiv p := Int.tmod_def ..
  rw [Int.add_emod_right, e, Int.sub_mul_emod_self_left]
def zerosB (l : List Int) : Bool := l.all (fun x => x == 0)
theorem zerosB_snoc (l : List Int) (x : Int) : zerosB (l ++ [x]) = (zerosB l && (x == 0)) := by simp [zerosB]
theorem firstNZ_snoc (l : List Int) (x : Int) : firstNZ (l ++ [x]) = if firstNZ l = 0 then x else firstNZ l := by
  unfold firstNZ
  rw [List.find?_append]
  cases h : l.find? (fun x => x != 0) with
  | none =>
    by_cases hx : x = 0
    · simp [hx]
    · simp [hx]
  | some y =>
    have := List.find?_some h
    have hy : y ≠ 0 := by simpa using this
    simp [hy]
theorem firstNZ_zeros {l : List Int} (h : zerosB l = true) : firstNZ l = 0 := by
  unfold firstNZ
  have : l.find? (fun x => x != 0) = none := by
    rw [List.find?_eq_none]; intro x hx; have := List.all_eq_true.1 h x hx; simpa using this
  rw [this]; rfl
theorem firstNZ_append (l m : List Int) (h : firstNZ l ≠ 0) : firstNZ (l ++ m) = firstNZ l := by
  unfold firstNZ at *
  rw [List.find?_append]
  cases e : l.find? (fun x => x != 0) with
  | none => rw [e] at h; exact (h rfl).elim
  | some y => rfl
theorem firstNZ_at {l : List Int} {k : Nat} (h : zerosB (l.take k) = true) (hk : k < l.length) (hx : l.getD k 0 ≠ 0) : firstNZ l = l.getD k 0 := by
  have e : l = l.take (k + 1) ++ l.drop (k + 1) := (List.take_append_drop _ _).symm
  have e2 := take_snoc' l 0 k hk
  have e3 : firstNZ (l.take (k + 1)) = l.getD k 0 := by rw [e2, firstNZ_snoc, firstNZ_zeros h]; simp
  have e4 : firstNZ l = firstNZ (l.take (k + 1)) := by
    conv => lhs; rw [e]
    exact firstNZ_append _ _ (by rw [e3]; exact hx)
  rw [e4, e3]
/-- points: three numbers each. -/
abbrev Pt := Int × Int × Int
def ptsB (p : Int) (l : List Pt) : Bool := l.all (fun a => ptB p a.1 a.2.1 a.2.2)
def codeOf (p : Int) (ok : Bool) : Int := if prB p then (if ok then 0 else 1) else 2
theorem ptsB_snoc (p : Int) (l : List Pt) (x : Pt) : ptsB p (l ++ [x]) = (ptsB p l && ptB p x.1 x.2.1 x.2.2) := by simp [ptsB]
theorem ptsB_false {p : Int} {l : List Pt} {k : Nat} (hk : k < l.length) (h : ptB p (l.getD k (0,0,0)).1 (l.getD k (0,0,0)).2.1 (l.getD k (0,0,0)).2.2 = false) : ptsB p l = false := by
  have : l.getD k (0,0,0) ∈ l := by simp [List.getD, hk]
  cases hh : ptsB p l with
  | false => rfl
  | true =>
    have h2 := List.all_eq_true.1 hh _ this
    exact absurd (h2.symm.trans h) (by decide)
theorem mul_bd {a b A B : Int} (h0 : 0 ≤ a) (h1 : a ≤ A) (g0 : 0 ≤ b) (g1 : b ≤ B) : 0 ≤ a * b ∧ a * b ≤ A * B :=
  ⟨Int.mul_nonneg h0 g0, Int.mul_le_mul h1 g1 g0 (Int.le_trans h0 h1)⟩
/-- The inverse modulo p: the least number from 1 on; 0 if there is none. -/
def invP (p n : Int) : Int := (([1,2,3,4,5,6,7,8,9,10,11,12] : List Int).find? (fun k => decide (k < p) && (n * k % p == 1))).getD 0
theorem invP_spec {p n : Int} (hp : prB p = true) (h0 : 0 < n) (h1 : n < p) :
    1 ≤ invP p n ∧ invP p n < p ∧ n * invP p n % p = 1 ∧ ∀ k : Int, 1 ≤ k → k < invP p n → n * k % p ≠ 1 := by
  have key : ∀ k ∈ ([1,2,3,4,5,6,7,8,9,10,11,12] : List Int), True := by intros; trivial
  suffices h : 1 ≤ invP p n ∧ invP p n < p ∧ n * invP p n % p = 1 ∧ ∀ k ∈ ([1,2,3,4,5,6,7,8,9,10,11,12] : List Int), k < invP p n → n * k % p ≠ 1 by
    obtain ⟨a, b, c, d⟩ := h
    refine ⟨a, b, c, fun k hk1 hk2 => d k ?_ hk2⟩
    have := prB_bd hp
    have hk : k = 1 ∨ k = 2 ∨ k = 3 ∨ k = 4 ∨ k = 5 ∨ k = 6 ∨ k = 7 ∨ k = 8 ∨ k = 9 ∨ k = 10 ∨ k = 11 ∨ k = 12 := by omega
    simpa using hk
  have hn : n = 1 ∨ n = 2 ∨ n = 3 ∨ n = 4 ∨ n = 5 ∨ n = 6 ∨ n = 7 ∨ n = 8 ∨ n = 9 ∨ n = 10 ∨ n = 11 ∨ n = 12 := by have := prB_bd hp; omega
  rcases prB_cases hp with rfl | rfl | rfl | rfl | rfl <;> rcases hn with rfl | rfl | rfl | rfl | rfl | rfl | rfl | rfl | rfl | rfl | rfl | rfl <;>
    first | omega | decide +kernel
theorem invP_zero (p : Int) (h : 0 < p) : invP p 0 = 0 := by
  unfold invP
  have : (([1,2,3,4,5,6,7,8,9,10,11,12] : List Int).find? (fun k => decide (k < p) && (0 * k % p == 1))) = none := by
    rw [List.find?_eq_none]; intro x _; simp
  rw [this]; rfl
theorem invP_bd {p n : Int} (hp : prB p = true) (h0 : 0 ≤ n) (h1 : n < p) : 0 ≤ invP p n ∧ invP p n ≤ 12 := by
  have := prB_bd hp
  by_cases h : n = 0
  · subst h; rw [invP_zero p (by omega)]; omega
  · have := invP_spec hp (by omega) h1; omega
/-- What a list's numbers are multiplied with, to make it normal. -/
def facL (p : Int) (l : List Int) : Int := invP p (firstNZ (l.map (· % p)))
def normL (p : Int) (l : List Int) : List Int := l.map (fun x => (x % p) * facL p l % p)
def nzB (p : Int) (l : List Int) : Bool := !zerosB (l.map (· % p))
theorem firstNZ_mem (l : List Int) : firstNZ l = 0 ∨ firstNZ l ∈ l := by
  unfold firstNZ
  cases e : l.find? (fun x => x != 0) with
  | none => exact .inl rfl
  | some y => exact .inr (List.mem_of_find?_eq_some e)
theorem firstNZ_mod_bd (p : Int) (l : List Int) (hp : 0 < p) : 0 ≤ firstNZ (l.map (· % p)) ∧ firstNZ (l.map (· % p)) < p := by
  rcases firstNZ_mem (l.map (· % p)) with h | h
  · rw [h]; omega
  · obtain ⟨x, _, hx⟩ := List.mem_map.1 h
    rw [← hx]
    exact ⟨Int.emod_nonneg _ (by omega), Int.emod_lt_of_pos _ hp⟩
theorem firstNZ_eq_zero {l : List Int} : firstNZ l = 0 ↔ zerosB l = true := by
  constructor
  · intro h
    unfold firstNZ at h
    cases e : l.find? (fun x => x != 0) with
    | none => rw [List.find?_eq_none] at e; exact List.all_eq_true.2 (fun x hx => by simpa using e x hx)
    | some y => rw [e] at h; have := List.find?_some e; simp at h; rw [h] at this; exact absurd this (by decide)
  · exact firstNZ_zeros
theorem facL_bd {p : Int} (hp : prB p = true) (l : List Int) : 0 ≤ facL p l ∧ facL p l ≤ 12 := by
  have h := prB_bd hp
  have h2 := firstNZ_mod_bd p l (by omega)
  exact invP_bd hp h2.1 h2.2
theorem facL_zero {p : Int} (hp : prB p = true) (l : List Int) : (facL p l = 0) ↔ firstNZ (l.map (· % p)) = 0 := by
  have h := prB_bd hp
  have h2 := firstNZ_mod_bd p l (by omega)
  unfold facL
  constructor
  · intro e
    by_cases hz : firstNZ (l.map (· % p)) = 0
    · exact hz
    · have := invP_spec hp (by omega) h2.2; omega
  · intro e; rw [e]; exact invP_zero p (by omega)
theorem facL_snoc {p : Int} (hp : prB p = true) (l : List Int) (x : Int) : facL p (l ++ [x]) = if facL p l = 0 then invP p (x % p) else facL p l := by
  by_cases h : facL p l = 0
  · rw [if_pos h]; unfold facL; rw [List.map_append]; simp only [List.map_cons, List.map_nil]; rw [firstNZ_snoc, if_pos ((facL_zero hp l).1 h)]
  · rw [if_neg h]; unfold facL; rw [List.map_append]; simp only [List.map_cons, List.map_nil]; rw [firstNZ_snoc, if_neg (fun e => h ((facL_zero hp l).2 e))]
theorem facL_append {p : Int} (hp : prB p = true) (l m : List Int) (h : facL p l ≠ 0) : facL p (l ++ m) = facL p l := by
  unfold facL; rw [List.map_append, firstNZ_append _ _ (fun e => h ((facL_zero hp l).2 e))]
theorem normL_at {p : Int} (hp : prB p = true) (l : List Int) (k : Nat) (hk : k < l.length) :
    (normL p l).getD k 0 = (l.getD k 0 % p) * facL p (l.take (k + 1)) % p := by
  have e1 : (normL p l).getD k 0 = (l.getD k 0 % p) * facL p l % p := by simp [normL, List.getD, hk]
  rw [e1]
  by_cases h : facL p (l.take (k + 1)) = 0
  · have hz := (facL_zero hp _).1 h
    have hz2 := firstNZ_eq_zero.1 hz
    have : l.getD k 0 % p = 0 := by
      have hm : l.getD k 0 % p ∈ (l.take (k + 1)).map (· % p) := by
        rw [take_snoc' l 0 k hk]; simp
      have := List.all_eq_true.1 hz2 _ hm
      simpa using this
    rw [this]; simp
  · have e : l = l.take (k + 1) ++ l.drop (k + 1) := (List.take_append_drop _ _).symm
    have : facL p l = facL p (l.take (k + 1)) := by conv => lhs; rw [e]
                                                    exact facL_append hp _ _ h
    rw [this]
theorem normL_length (p : Int) (l : List Int) : (normL p l).length = l.length := by simp [normL]
theorem code_zero {p : Int} {b : Bool} (h : codeOf p b = 0) : prB p = true ∧ b = true := by
  unfold codeOf at h
  cases hp : prB p with
  | false => rw [hp] at h; simp at h
  | true => rw [hp] at h; cases b <;> simp_all
theorem pt_facts {p x y z : Int} (h : ptB p x y z = true) : prB p = true ∧ (0 ≤ x ∧ x ≤ p - 1) ∧ (0 ≤ y ∧ y ≤ p - 1) ∧ (0 ≤ z ∧ z ≤ p - 1) ∧ ((x = 1) ∨ (x = 0 ∧ y = 1) ∨ (x = 0 ∧ y = 0 ∧ z = 1)) := by
  unfold ptB normB numsB at h
  simp only [Bool.and_eq_true, List.all_cons, List.all_nil, numB_iff, and_true] at h
  obtain ⟨hp, h1, hx, hy, hz⟩ := h
  refine ⟨hp, hx, hy, hz, ?_⟩
  have h2 : firstNZ [x, y, z] = 1 := by simpa using h1
  unfold firstNZ at h2
  by_cases ex : x = 0
  · by_cases ey : y = 0
    · by_cases ez : z = 0
      · simp [List.find?, ex, ey, ez] at h2
      · have : (z != 0) = true := by simpa using ez
        simp [List.find?, ex, ey, this] at h2; omega
    · have : (y != 0) = true := by simpa using ey
      simp [List.find?, ex, this] at h2; omega
  · have : (x != 0) = true := by simpa using ex
    simp [List.find?, this] at h2; omega
theorem beqf {a b : Int} (h : a ≠ b) : (a == b) = false := by simpa using h
theorem beqt {a b : Int} (h : a = b) : (a == b) = true := by simpa using h
theorem bnet {a b : Int} (h : a ≠ b) : (a != b) = true := by simpa using h
theorem bnef {a b : Int} (h : a = b) : (a != b) = false := by simpa using h
end Go.Proofs.Ythkbhaaodegocaa
