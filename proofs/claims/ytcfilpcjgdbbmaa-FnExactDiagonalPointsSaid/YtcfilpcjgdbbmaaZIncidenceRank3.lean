/- Texts of the claim, in build order: Plain, W1, W2, W3, W8, N1, N2, N3, W9, Pts, Arr, A1. No condition. -/
import Derived.WalkKit
import Derived.IntWalk
import Derived.Laws.IdiomCopy
import Derived.BigRegion
import Derived.RegionTactic
import Derived.ChangeKeysEq
import Derived.Test.YtcfilpcjgdbbmaaZIncidenceRank2
/- Plain words: primes, numbers, normal lists; no program in sight. -/
namespace Go.Proofs.Ytcfilpcjgdbbmaa
set_option linter.unusedVariables false
set_option linter.unusedSimpArgs false

def prB (p : Int) : Bool := p == 3 || p == 5 || p == 7 || p == 11 || p == 13
theorem prB_cases {p : Int} (h : prB p = true) : p = 3 ∨ p = 5 ∨ p = 7 ∨ p = 11 ∨ p = 13 := by
  simpa [prB, or_assoc] using h
theorem prB_bd {p : Int} (h : prB p = true) : 3 ≤ p ∧ p ≤ 13 := by
  have := prB_cases h; omega
/-- x is a number modulo p. -/
def numB (p x : Int) : Bool := decide (0 ≤ x) && decide (x ≤ p - 1)
theorem numB_iff {p x : Int} : numB p x = true ↔ 0 ≤ x ∧ x ≤ p - 1 := by simp [numB]
def numsB (p : Int) (l : List Int) : Bool := l.all (numB p)
def firstNZ (l : List Int) : Int := (l.find? (fun x => x != 0)).getD 0
def normB (p : Int) (l : List Int) : Bool := firstNZ l == 1 && numsB p l
def ptB (p x y z : Int) : Bool := prB p && normB p [x, y, z]

theorem numsB_snoc (p : Int) (l : List Int) (x : Int) : numsB p (l ++ [x]) = (numsB p l && numB p x) := by simp [numsB]
theorem take_snoc' {α : Type} (l : List α) (d : α) (k : Nat) (h : k < l.length) : l.take (k + 1) = l.take k ++ [l.getD k d] := by
  rw [List.take_succ_eq_append_getElem h]; simp [List.getD, h]
theorem numsB_false {p : Int} {l : List Int} {k : Nat} (hk : k < l.length) (h : numB p (l.getD k 0) = false) : numsB p l = false := by
  have : l.getD k 0 ∈ l := by simp [List.getD, hk]
  cases hh : numsB p l with
  | false => rfl
  | true =>
    have := List.all_eq_true.1 hh _ this
    rw [this] at h; cases h
theorem ret_bool {a b : Bool} (h : a = b) : Ending.returned (.bool a) = .returned (.bool b) := by rw [h]
theorem ret_int {a b : Int} (h : a = b) : Ending.returned (.int .i64 a) = .returned (.int .i64 b) := by rw [h]
theorem tmod_lo (n p : Int) (hp : 0 < p) : 0 < n.tmod p + p ∧ n.tmod p < p := by
  rcases Int.le_total 0 n with h | h
  · have h1 := Int.tmod_nonneg p h
    have h2 := Int.tmod_lt_of_pos n hp
    omega
  · have h1 : (-n).tmod p = -(n.tmod p) := Int.neg_tmod ..
    have h2 := Int.tmod_nonneg p (a := -n) (by omega)
    have h3 := Int.tmod_lt_of_pos (-n) hp
    omega
theorem mod_is (n p : Int) (hp : 0 < p) : (n.tmod p + p).tmod p = n % p := by
  have h := (tmod_lo n p hp).1
  rw [Int.tmod_eq_emod_of_nonneg (by omega), Int.add_emod_right]
  have e : n.tmod p = n - p * n.tdiv p := Int.tmod_def ..
  rw [e, Int.sub_mul_emod_self_left]
theorem mod_is' (n p : Int) (hp : 0 < p) : (n.tmod p + p) % p = n % p := by
  have e : n.tmod p = n - p * n.tdiv p := Int.tmod_def ..
  rw [Int.add_emod_right, e, Int.sub_mul_emod_self_left]
def zerosB (l : List Int) : Bool := l.all (fun x => x == 0)
theorem zerosB_snoc (l : List Int) (x : Int) : zerosB (l ++ [x]) = (zerosB l && (x == 0)) := by simp [zerosB]
theorem firstNZ_snoc (l : List Int) (x : Int) : firstNZ (l ++ [x]) = if firstNZ l = 0 then x else firstNZ l := by
  unfold firstNZ
  rw [List.find?_append]
  cases h : l.find? (fun x => x != 0) with
  | none =>
    by_cases hx : x = 0
    · simp [hx]
    · simp [hx]
  | some y =>
    have := List.find?_some h
    have hy : y ≠ 0 := by simpa using this
    simp [hy]
theorem firstNZ_zeros {l : List Int} (h : zerosB l = true) : firstNZ l = 0 := by
  unfold firstNZ
  have : l.find? (fun x => x != 0) = none := by
    rw [List.find?_eq_none]; intro x hx; have := List.all_eq_true.1 h x hx; simpa using this
  rw [this]; rfl
theorem firstNZ_append (l m : List Int) (h : firstNZ l ≠ 0) : firstNZ (l ++ m) = firstNZ l := by
  unfold firstNZ at *
  rw [List.find?_append]
  cases e : l.find? (fun x => x != 0) with
  | none => rw [e] at h; exact (h rfl).elim
  | some y => rfl
theorem firstNZ_at {l : List Int} {k : Nat} (h : zerosB (l.take k) = true) (hk : k < l.length) (hx : l.getD k 0 ≠ 0) : firstNZ l = l.getD k 0 := by
  have e : l = l.take (k + 1) ++ l.drop (k + 1) := (List.take_append_drop _ _).symm
  have e2 := take_snoc' l 0 k hk
  have e3 : firstNZ (l.take (k + 1)) = l.getD k 0 := by rw [e2, firstNZ_snoc, firstNZ_zeros h]; simp
  have e4 : firstNZ l = firstNZ (l.take (k + 1)) := by
    conv => lhs; rw [e]
    exact firstNZ_append _ _ (by rw [e3]; exact hx)
  rw [e4, e3]
/-- points: three numbers each. -/
abbrev Pt := Int × Int × Int
def ptsB (p : Int) (l : List Pt) : Bool := l.all (fun a => ptB p a.1 a.2.1 a.2.2)
def codeOf (p : Int) (ok : Bool) : Int := if prB p then (if ok then 0 else 1) else 2
theorem ptsB_snoc (p : Int) (l : List Pt) (x : Pt) : ptsB p (l ++ [x]) = (ptsB p l && ptB p x.1 x.2.1 x.2.2) := by simp [ptsB]
theorem ptsB_false {p : Int} {l : List Pt} {k : Nat} (hk : k < l.length) (h : ptB p (l.getD k (0,0,0)).1 (l.getD k (0,0,0)).2.1 (l.getD k (0,0,0)).2.2 = false) : ptsB p l = false := by
  have : l.getD k (0,0,0) ∈ l := by simp [List.getD, hk]
  cases hh : ptsB p l with
  | false => rfl
  | true =>
    have h2 := List.all_eq_true.1 hh _ this
    exact absurd (h2.symm.trans h) (by decide)
theorem mul_bd {a b A B : Int} (h0 : 0 ≤ a) (h1 : a ≤ A) (g0 : 0 ≤ b) (g1 : b ≤ B) : 0 ≤ a * b ∧ a * b ≤ A * B :=
  ⟨Int.mul_nonneg h0 g0, Int.mul_le_mul h1 g1 g0 (Int.le_trans h0 h1)⟩
/-- The inverse modulo p: the least number from 1 on; 0 if there is none. -/
def invP (p n : Int) : Int := (([1,2,3,4,5,6,7,8,9,10,11,12] : List Int).find? (fun k => decide (k < p) && (n * k % p == 1))).getD 0
theorem invP_spec {p n : Int} (hp : prB p = true) (h0 : 0 < n) (h1 : n < p) :
    1 ≤ invP p n ∧ invP p n < p ∧ n * invP p n % p = 1 ∧ ∀ k : Int, 1 ≤ k → k < invP p n → n * k % p ≠ 1 := by
  have key : ∀ k ∈ ([1,2,3,4,5,6,7,8,9,10,11,12] : List Int), True := by intros; trivial
  suffices h : 1 ≤ invP p n ∧ invP p n < p ∧ n * invP p n % p = 1 ∧ ∀ k ∈ ([1,2,3,4,5,6,7,8,9,10,11,12] : List Int), k < invP p n → n * k % p ≠ 1 by
    obtain ⟨a, b, c, d⟩ := h
    refine ⟨a, b, c, fun k hk1 hk2 => d k ?_ hk2⟩
    have := prB_bd hp
    have hk : k = 1 ∨ k = 2 ∨ k = 3 ∨ k = 4 ∨ k = 5 ∨ k = 6 ∨ k = 7 ∨ k = 8 ∨ k = 9 ∨ k = 10 ∨ k = 11 ∨ k = 12 := by omega
    simpa using hk
  have hn : n = 1 ∨ n = 2 ∨ n = 3 ∨ n = 4 ∨ n = 5 ∨ n = 6 ∨ n = 7 ∨ n = 8 ∨ n = 9 ∨ n = 10 ∨ n = 11 ∨ n = 12 := by have := prB_bd hp; omega
  rcases prB_cases hp with rfl | rfl | rfl | rfl | rfl <;> rcases hn with rfl | rfl | rfl | rfl | rfl | rfl | rfl | rfl | rfl | rfl | rfl | rfl <;>
    first | omega | decide +kernel
theorem invP_zero (p : Int) (h : 0 < p) : invP p 0 = 0 := by
  unfold invP
  have : (([1,2,3,4,5,6,7,8,9,10,11,12] : List Int).find? (fun k => decide (k < p) && (0 * k % p == 1))) = none := by
    rw [List.find?_eq_none]; intro x _; simp
  rw [this]; rfl
theorem invP_bd {p n : Int} (hp : prB p = true) (h0 : 0 ≤ n) (h1 : n < p) : 0 ≤ invP p n ∧ invP p n ≤ 12 := by
  have := prB_bd hp
  by_cases h : n = 0
  · subst h; rw [invP_zero p (by omega)]; omega
  · have := invP_spec hp (by omega) h1; omega
/-- What a list's numbers are multiplied with, to make it normal. -/
def facL (p : Int) (l : List Int) : Int := invP p (firstNZ (l.map (· % p)))
def normL (p : Int) (l : List Int) : List Int := l.map (fun x => (x % p) * facL p l % p)
def nzB (p : Int) (l : List Int) : Bool := !zerosB (l.map (· % p))
theorem firstNZ_mem (l : List Int) : firstNZ l = 0 ∨ firstNZ l ∈ l := by
  unfold firstNZ
  cases e : l.find? (fun x => x != 0) with
  | none => exact .inl rfl
  | some y => exact .inr (List.mem_of_find?_eq_some e)
theorem firstNZ_mod_bd (p : Int) (l : List Int) (hp : 0 < p) : 0 ≤ firstNZ (l.map (· % p)) ∧ firstNZ (l.map (· % p)) < p := by
  rcases firstNZ_mem (l.map (· % p)) with h | h
  · rw [h]; omega
  · obtain ⟨x, _, hx⟩ := List.mem_map.1 h
    rw [← hx]
    exact ⟨Int.emod_nonneg _ (by omega), Int.emod_lt_of_pos _ hp⟩
theorem firstNZ_eq_zero {l : List Int} : firstNZ l = 0 ↔ zerosB l = true := by
  constructor
  · intro h
    unfold firstNZ at h
    cases e : l.find? (fun x => x != 0) with
    | none => rw [List.find?_eq_none] at e; exact List.all_eq_true.2 (fun x hx => by simpa using e x hx)
    | some y => rw [e] at h; have := List.find?_some e; simp at h; rw [h] at this; exact absurd this (by decide)
  · exact firstNZ_zeros
theorem facL_bd {p : Int} (hp : prB p = true) (l : List Int) : 0 ≤ facL p l ∧ facL p l ≤ 12 := by
  have h := prB_bd hp
  have h2 := firstNZ_mod_bd p l (by omega)
  exact invP_bd hp h2.1 h2.2
theorem facL_zero {p : Int} (hp : prB p = true) (l : List Int) : (facL p l = 0) ↔ firstNZ (l.map (· % p)) = 0 := by
  have h := prB_bd hp
  have h2 := firstNZ_mod_bd p l (by omega)
  unfold facL
  constructor
  · intro e
    by_cases hz : firstNZ (l.map (· % p)) = 0
    · exact hz
    · have := invP_spec hp (by omega) h2.2; omega
  · intro e; rw [e]; exact invP_zero p (by omega)
theorem facL_snoc {p : Int} (hp : prB p = true) (l : List Int) (x : Int) : facL p (l ++ [x]) = if facL p l = 0 then invP p (x % p) else facL p l := by
  by_cases h : facL p l = 0
  · rw [if_pos h]; unfold facL; rw [List.map_append]; simp only [List.map_cons, List.map_nil]; rw [firstNZ_snoc, if_pos ((facL_zero hp l).1 h)]
  · rw [if_neg h]; unfold facL; rw [List.map_append]; simp only [List.map_cons, List.map_nil]; rw [firstNZ_snoc, if_neg (fun e => h ((facL_zero hp l).2 e))]
theorem facL_append {p : Int} (hp : prB p = true) (l m : List Int) (h : facL p l ≠ 0) : facL p (l ++ m) = facL p l := by
  unfold facL; rw [List.map_append, firstNZ_append _ _ (fun e => h ((facL_zero hp l).2 e))]
theorem normL_at {p : Int} (hp : prB p = true) (l : List Int) (k : Nat) (hk : k < l.length) :
    (normL p l).getD k 0 = (l.getD k 0 % p) * facL p (l.take (k + 1)) % p := by
  have e1 : (normL p l).getD k 0 = (l.getD k 0 % p) * facL p l % p := by simp [normL, List.getD, hk]
  rw [e1]
  by_cases h : facL p (l.take (k + 1)) = 0
  · have hz := (facL_zero hp _).1 h
    have hz2 := firstNZ_eq_zero.1 hz
    have : l.getD k 0 % p = 0 := by
      have hm : l.getD k 0 % p ∈ (l.take (k + 1)).map (· % p) := by
        rw [take_snoc' l 0 k hk]; simp
      have := List.all_eq_true.1 hz2 _ hm
      simpa using this
    rw [this]; simp
  · have e : l = l.take (k + 1) ++ l.drop (k + 1) := (List.take_append_drop _ _).symm
    have : facL p l = facL p (l.take (k + 1)) := by conv => lhs; rw [e]
                                                    exact facL_append hp _ _ h
    rw [this]
theorem normL_length (p : Int) (l : List Int) : (normL p l).length = l.length := by simp [normL]
theorem code_zero {p : Int} {b : Bool} (h : codeOf p b = 0) : prB p = true ∧ b = true := by
  unfold codeOf at h
  cases hp : prB p with
  | false => rw [hp] at h; simp at h
  | true => rw [hp] at h; cases b <;> simp_all
theorem pt_facts {p x y z : Int} (h : ptB p x y z = true) : prB p = true ∧ (0 ≤ x ∧ x ≤ p - 1) ∧ (0 ≤ y ∧ y ≤ p - 1) ∧ (0 ≤ z ∧ z ≤ p - 1) ∧ ((x = 1) ∨ (x = 0 ∧ y = 1) ∨ (x = 0 ∧ y = 0 ∧ z = 1)) := by
  unfold ptB normB numsB at h
  simp only [Bool.and_eq_true, List.all_cons, List.all_nil, numB_iff, and_true] at h
  obtain ⟨hp, h1, hx, hy, hz⟩ := h
  refine ⟨hp, hx, hy, hz, ?_⟩
  have h2 : firstNZ [x, y, z] = 1 := by simpa using h1
  unfold firstNZ at h2
  by_cases ex : x = 0
  · by_cases ey : y = 0
    · by_cases ez : z = 0
      · simp [List.find?, ex, ey, ez] at h2
      · have : (z != 0) = true := by simpa using ez
        simp [List.find?, ex, ey, this] at h2; omega
    · have : (y != 0) = true := by simpa using ey
      simp [List.find?, ex, this] at h2; omega
  · have : (x != 0) = true := by simpa using ex
    simp [List.find?, this] at h2; omega
theorem beqf {a b : Int} (h : a ≠ b) : (a == b) = false := by simpa using h
theorem beqt {a b : Int} (h : a = b) : (a == b) = true := by simpa using h
theorem bnet {a b : Int} (h : a ≠ b) : (a != b) = true := by simpa using h
theorem bnef {a b : Int} (h : a = b) : (a != b) = false := by simpa using h
end Go.Proofs.Ytcfilpcjgdbbmaa
/- Contracts: primes, numbers, normal lists, points. -/
namespace Go.Proofs.Ytcfilpcjgdbbmaa
open Go.RowKit
set_option linter.unusedVariables false
set_option linter.unusedSimpArgs false

theorem isPrime_yes (p : Int) (w : World) (h : prB p = true) : Calls Try.prog 24 #[.int .i64 p] w fun e w' => e = .returned (.bool true) ∧ w = w' := by
  rcases prB_cases h with rfl | rfl | rfl | rfl | rfl
  all_goals
    go_enter Try.func24, Try.ntmps24
    go_wp2
    go_ret
    exact ⟨rfl, rfl⟩
theorem isPrime_no (p : Int) (w : World) (h : prB p = false) : Calls Try.prog 24 #[.int .i64 p] w fun e w' => e = .returned (.bool false) ∧ w = w' := by
  have h3 : (p == 3) = false := by revert h; unfold prB; cases (p == 3) <;> simp
  have h5 : (p == 5) = false := by revert h; unfold prB; cases (p == 5) <;> simp
  have h7 : (p == 7) = false := by revert h; unfold prB; cases (p == 7) <;> simp
  have h11 : (p == 11) = false := by revert h; unfold prB; cases (p == 11) <;> simp
  have h13 : (p == 13) = false := by revert h; unfold prB; cases (p == 13) <;> simp
  clear h
  go_enter Try.func24, Try.ntmps24
  go_wp2
  go_ret
  exact ⟨rfl, rfl⟩
theorem l01Prime_yes (p : Int) (w : World) (h : prB p = true) : Calls Try.prog 19 #[.int .i64 p] w fun e w' => e = .returned (.bool true) ∧ w = w' := by
  rcases prB_cases h with rfl | rfl | rfl | rfl | rfl
  all_goals
    go_enter Try.func19, Try.ntmps19
    go_wp2
    go_ret
    exact ⟨rfl, rfl⟩
theorem l01Prime_no (p : Int) (w : World) (h : prB p = false) : Calls Try.prog 19 #[.int .i64 p] w fun e w' => e = .returned (.bool false) ∧ w = w' := by
  have h3 : (p == 3) = false := by revert h; unfold prB; cases (p == 3) <;> simp
  have h5 : (p == 5) = false := by revert h; unfold prB; cases (p == 5) <;> simp
  have h7 : (p == 7) = false := by revert h; unfold prB; cases (p == 7) <;> simp
  have h11 : (p == 11) = false := by revert h; unfold prB; cases (p == 11) <;> simp
  have h13 : (p == 13) = false := by revert h; unfold prB; cases (p == 13) <;> simp
  clear h
  go_enter Try.func19, Try.ntmps19
  go_wp2
  go_ret
  exact ⟨rfl, rfl⟩
/-- (n % p + p) % p. -/
theorem mod_any (n p : Int) (w : World) (hp : 0 < p) (hp' : p ≤ 1000) (hn : -4611686018427387904 ≤ n) (hn' : n ≤ 4611686018427387904) :
    Calls Try.prog 48 #[.int .i64 n, .int .i64 p] w fun e w' => e = .returned (.int .i64 (n % p)) ∧ w = w' := by
  have hb := tmod_lo n p hp
  have e : IntKind.i64.wrap (n.tmod p + p) = n.tmod p + p := IntWalk.i64_in _ (by omega)
  go_enter Try.func48, Try.ntmps48
  go_wp2
  go_ret
  exact ⟨ret_int (mod_is' n p hp), rfl⟩
theorem within_yes (n a b : Int) (w : World) (h : a ≤ n) (h' : n ≤ b) : Calls Try.prog 70 #[.int .i64 n, .int .i64 a, .int .i64 b] w fun e w' => e = .returned (.bool true) ∧ w = w' := by
  go_enter Try.func70, Try.ntmps70
  go_wp2
  go_ret
  exact ⟨rfl, rfl⟩
theorem within_no (n a b : Int) (w : World) (h : n < a ∨ b < n) : Calls Try.prog 70 #[.int .i64 n, .int .i64 a, .int .i64 b] w fun e w' => e = .returned (.bool false) ∧ w = w' := by
  by_cases h1 : n < a
  · clear h
    go_enter Try.func70, Try.ntmps70
    go_wp2
    go_ret
    exact ⟨rfl, rfl⟩
  · have h2 : b < n := by omega
    have h3 : a ≤ n := by omega
    clear h h1
    go_enter Try.func70, Try.ntmps70
    go_wp2
    go_ret
    exact ⟨ret_bool (by simp; omega), rfl⟩
theorem areNumbers_any (p : Int) (b o n cap : Nat) (l : List Int) (w : World) (hp : 3 ≤ p) (hp' : p ≤ 13) (hl : l.length = n) (hn : n ≤ 4611686018427387904)
    (hc : ∀ i, i < n → w.cell? ⟨b, o + i, none⟩ = some (.int .i64 (l.getD i 0))) :
    Calls Try.prog 69 #[.int .i64 p, .slice (some ⟨b, o, none⟩) n cap] w fun e w' => e = .returned (.bool (numsB p l)) ∧ w = w' := by
  have HL := Lib.hid hl; clear hl
  have HC := Lib.hid hc; clear hc
  go_enter Try.func69, Try.ntmps69
  go_wp2
  go_loop [9] (fun i => ∃ k : Nat, k ≤ n ∧ i = .int .i64 k ∧ numsB p (l.take k) = true) (fun i => n - (intOf i).toNat)
  case atStart => exact ⟨0, Nat.zero_le _, rfl, rfl⟩
  case round =>
    obtain ⟨k, hk, rfl, hd⟩ := hrel
    have HD := Lib.hid hd; clear hd
    by_cases hlt : k < n
    · have hcell := HC.out k hlt
      have HS := Lib.hid (take_snoc' l 0 k (by have := HL.out; omega))
      generalize hx : l.getD k 0 = x at *
      have HX := Lib.hid hx; clear hx
      by_cases hr : 0 ≤ x ∧ x ≤ p - 1
      · obtain ⟨h0, h1⟩ := hr
        go_wp2_with (go_at_call 70; refine (within_yes _ _ _ _ h0 h1).mono ?_; rintro e w' ⟨rfl, rfl⟩)
        go_round
        case rel => exact ⟨k + 1, by omega, by go_num, by rw [HS.out, numsB_snoc, HD.out]; simp [numB, h0, h1]⟩
        case measure => simp [intOf]; omega
      · have hr' : x < 0 ∨ p - 1 < x := by omega
        go_wp2_with (go_at_call 70; refine (within_no _ _ _ _ hr').mono ?_; rintro e w' ⟨rfl, rfl⟩)
        go_ret
        exact ⟨ret_bool (numsB_false (k := k) (by have := HL.out; omega) (by rw [HX.out]; unfold numB; simp; omega)).symm, rfl⟩
    · go_wp2
      go_ret
      refine ⟨ret_bool ?_, rfl⟩
      have := HD.out
      rw [List.take_of_length_le (by have := HL.out; omega)] at this
      exact this.symm

theorem isNormal_any (p : Int) (b o n cap : Nat) (l : List Int) (w : World) (hp : 3 ≤ p) (hp' : p ≤ 13) (hl : l.length = n) (hn : n ≤ 4611686018427387904)
    (hc : ∀ i, i < n → w.cell? ⟨b, o + i, none⟩ = some (.int .i64 (l.getD i 0))) :
    Calls Try.prog 67 #[.int .i64 p, .slice (some ⟨b, o, none⟩) n cap] w fun e w' => e = .returned (.bool (normB p l)) ∧ w = w' := by
  have HL := Lib.hid hl; clear hl
  have HC := Lib.hid hc; clear hc
  go_enter Try.func67, Try.ntmps67
  go_wp2
  go_loop [9] (fun i => ∃ k : Nat, k ≤ n ∧ i = .int .i64 k ∧ zerosB (l.take k) = true) (fun i => n - (intOf i).toNat)
  case atStart => exact ⟨0, Nat.zero_le _, rfl, rfl⟩
  case round =>
    obtain ⟨k, hk, rfl, hd⟩ := hrel
    have HD := Lib.hid hd; clear hd
    by_cases hlt : k < n
    · have hcell := HC.out k hlt
      have HS := Lib.hid (take_snoc' l 0 k (by have := HL.out; omega))
      have HF := Lib.hid (fun h => firstNZ_at HD.out (by have := HL.out; omega) (h : l.getD k 0 ≠ 0))
      generalize l.getD k 0 = x at *
      by_cases hr : x = 0
      · have hx : (x != 0) = false := by simp [hr]
        go_wp2
        go_round
        case rel => exact ⟨k + 1, by omega, by go_num, by rw [HS.out, zerosB_snoc, HD.out]; simp [hr]⟩
        case measure => simp [intOf]; omega
      · have hx : (x != 0) = true := by simp [hr]
        by_cases h1 : x = 1
        · have hx1 : (x == 1) = true := by simp [h1]
          have HF1 := Lib.hid (show firstNZ l = 1 by rw [HF.out hr, h1])
          clear HF h1 hr
          go_wp2_with (go_at_call 69; refine (areNumbers_any p b o n cap l _ hp hp' HL.out hn HC.out).mono ?_; rintro e w' ⟨rfl, rfl⟩)
          go_ret
          exact ⟨ret_bool (by unfold normB; rw [HF1.out]; rfl), rfl⟩
        · have hx1 : (x == 1) = false := by simp [h1]
          have HF1 := Lib.hid (show (firstNZ l == 1) = false by rw [HF.out hr]; exact hx1)
          clear HF h1 hr
          go_wp2
          go_ret
          exact ⟨ret_bool (by unfold normB; rw [HF1.out]; rfl), rfl⟩
    · go_wp2
      go_ret
      refine ⟨ret_bool ?_, rfl⟩
      have h := HD.out
      rw [List.take_of_length_le (by have := HL.out; omega)] at h
      unfold normB; rw [firstNZ_zeros h]; rfl

theorem l01In_yes (n a b : Int) (w : World) (h : a ≤ n) (h' : n ≤ b) : Calls Try.prog 65 #[.int .i64 n, .int .i64 a, .int .i64 b] w fun e w' => e = .returned (.bool true) ∧ w = w' := by
  go_enter Try.func65, Try.ntmps65
  go_wp2
  go_ret
  exact ⟨rfl, rfl⟩
theorem l01In_no (n a b : Int) (w : World) (h : n < a ∨ b < n) : Calls Try.prog 65 #[.int .i64 n, .int .i64 a, .int .i64 b] w fun e w' => e = .returned (.bool false) ∧ w = w' := by
  by_cases h1 : n < a
  · clear h
    go_enter Try.func65, Try.ntmps65
    go_wp2
    go_ret
    exact ⟨rfl, rfl⟩
  · have h2 : b < n := by omega
    have h3 : a ≤ n := by omega
    clear h h1
    go_enter Try.func65, Try.ntmps65
    go_wp2
    go_ret
    exact ⟨ret_bool (by simp; omega), rfl⟩
theorem l01Normal_any (p : Int) (b o n cap : Nat) (l : List Int) (w : World) (hp : 3 ≤ p) (hp' : p ≤ 13) (hl : l.length = n) (hn : n ≤ 4611686018427387904)
    (hc : ∀ i, i < n → w.cell? ⟨b, o + i, none⟩ = some (.int .i64 (l.getD i 0))) :
    Calls Try.prog 59 #[.int .i64 p, .slice (some ⟨b, o, none⟩) n cap] w fun e w' => e = .returned (.bool (normB p l)) ∧ w = w' := by
  have HL := Lib.hid hl; clear hl
  have HC := Lib.hid hc; clear hc
  go_enter Try.func59, Try.ntmps59
  go_wp2
  go_loop [5, 6] (fun f i => ∃ k : Nat, k ≤ n ∧ i = .int .i64 k ∧ f = .int .i64 (firstNZ (l.take k)) ∧ numsB p (l.take k) = true) (fun _ i => n - (intOf i).toNat)
  case atStart => exact ⟨0, Nat.zero_le _, rfl, rfl, rfl⟩
  case round =>
    obtain ⟨k, hk, rfl, rfl, hd⟩ := hrel
    have HD := Lib.hid hd; clear hd
    by_cases hlt : k < n
    · have hcell := HC.out k hlt
      have HS := Lib.hid (take_snoc' l 0 k (by have := HL.out; omega))
      have HF := Lib.hid (fun h => numsB_false (p := p) (k := k) (by have := HL.out; omega) (h : numB p (l.getD k 0) = false))
      have HN := Lib.hid (firstNZ_snoc (l.take k) (l.getD k 0))
      generalize l.getD k 0 = x at *
      have HFn : Hid (firstNZ (l.take (k + 1)) = if firstNZ (l.take k) = 0 then x else firstNZ (l.take k)) := Lib.hid (by rw [HS.out]; exact HN.out)
      clear HN
      have HT : Hid (numsB p (l.take (k + 1)) = (numsB p (l.take k) && numB p x)) := Lib.hid (by rw [HS.out]; exact numsB_snoc _ _ _)
      clear HS
      generalize firstNZ (l.take k) = f at *
      by_cases hr : 0 ≤ x ∧ x ≤ p - 1
      · obtain ⟨h0, h1⟩ := hr
        by_cases hf : f = 0
        · have hf' : (f == 0) = true := by simp [hf]
          go_wp2_with (go_at_call 65; refine (l01In_yes _ _ _ _ h0 h1).mono ?_; rintro e w' ⟨rfl, rfl⟩)
          go_round
          case rel => exact ⟨k + 1, by omega, by go_num, by rw [HFn.out, if_pos hf], by rw [HT.out, HD.out]; simp [numB, h0, h1]⟩
          case measure => simp [intOf]; omega
        · have hf' : (f == 0) = false := by simp [hf]
          go_wp2_with (go_at_call 65; refine (l01In_yes _ _ _ _ h0 h1).mono ?_; rintro e w' ⟨rfl, rfl⟩)
          go_round
          case rel => exact ⟨k + 1, by omega, by go_num, by rw [HFn.out, if_neg hf], by rw [HT.out, HD.out]; simp [numB, h0, h1]⟩
          case measure => simp [intOf]; omega
      · have hr' : x < 0 ∨ p - 1 < x := by omega
        go_wp2_with (go_at_call 65; refine (l01In_no _ _ _ _ hr').mono ?_; rintro e w' ⟨rfl, rfl⟩)
        go_ret
        exact ⟨ret_bool (by unfold normB; rw [HF.out (by unfold numB; simp; omega)]; simp), rfl⟩
    · have HE : Hid (l.take k = l) := Lib.hid (List.take_of_length_le (by have := HL.out; omega))
      go_wp2
      go_ret
      refine ⟨ret_bool ?_, rfl⟩
      have h := HD.out
      rw [HE.out] at h
      unfold normB; rw [h, HE.out]; simp
end Go.Proofs.Ytcfilpcjgdbbmaa
/- Contracts: points and lists of points, the codes of their validity. -/
namespace Go.Proofs.Ytcfilpcjgdbbmaa
open Go.RowKit
set_option linter.unusedVariables false
set_option linter.unusedSimpArgs false

abbrev ptV (x y z : Int) : Value := .agg #[.int .i64 x, .int .i64 y, .int .i64 z]

theorem new3 (w : World) (g : Nat) (x y z : Int) (T : TypeId) (hg : g = w.heap.size) : ∀ i, i < 3 → (w.alloc (.cells #[.int .i64 x, .int .i64 y, .int .i64 z] T)).cell? ⟨g, 0 + i, none⟩ = some (.int .i64 ([x, y, z].getD i 0)) := by
  intro i hi
  rw [World.cell?_alloc_at _ _ _ _ hg]
  match i, hi with
  | 0, _ => rfl
  | 1, _ => rfl
  | 2, _ => rfl

theorem IsPoint_yes (p x y z : Int) (w : World) (hp : prB p = true) :
    Calls Try.prog 62 #[.int .i64 p, ptV x y z] w (Ret w (.bool (normB p [x, y, z]))) := by
  have hb := prB_bd hp
  obtain ⟨h1, h2⟩ := hb
  have HP := Lib.hid hp; clear hp
  go_enter Try.func62, Try.ntmps62
  go_wp2_with (first
    | (go_at_call 24; refine (isPrime_yes _ _ HP.out).mono ?_; rintro e w' ⟨rfl, rfl⟩)
    | (go_at_call 67; refine (isNormal_any p _ 0 3 3 [x, y, z] _ h1 h2 rfl (by omega) (new3 _ _ _ _ _ _ (by simp))).mono ?_; rintro e w' ⟨rfl, rfl⟩))
  go_ret
  exact ⟨rfl, (Below.refl _ _).alloc (Nat.le_refl _) _⟩
theorem IsPoint_no (p x y z : Int) (w : World) (hp : prB p = false) :
    Calls Try.prog 62 #[.int .i64 p, ptV x y z] w (Ret w (.bool false)) := by
  have HP := Lib.hid hp; clear hp
  go_enter Try.func62, Try.ntmps62
  go_wp2_with (go_at_call 24; refine (isPrime_no _ _ HP.out).mono ?_; rintro e w' ⟨rfl, rfl⟩)
  go_ret
  exact ⟨rfl, (Below.refl _ _).alloc (Nat.le_refl _) _⟩
theorem IsPoint_any (p x y z : Int) (w : World) :
    Calls Try.prog 62 #[.int .i64 p, ptV x y z] w (Ret w (.bool (ptB p x y z))) := by
  cases hp : prB p with
  | true => refine (IsPoint_yes p x y z w hp).mono ?_; rintro e w' ⟨rfl, h⟩; exact ⟨ret_bool (by unfold ptB; rw [hp]; rfl), h⟩
  | false => refine (IsPoint_no p x y z w hp).mono ?_; rintro e w' ⟨rfl, h⟩; exact ⟨ret_bool (by unfold ptB; rw [hp]; rfl), h⟩
/-- The points of a slice. -/
def PtsAt (w : World) (b o n : Nat) (l : List Pt) : Prop := ∀ i, i < n →
  w.cell? ⟨b, o + i * 3, none⟩ = some (.int .i64 (l.getD i (0,0,0)).1) ∧ w.cell? ⟨b, o + i * 3 + 1, none⟩ = some (.int .i64 (l.getD i (0,0,0)).2.1) ∧ w.cell? ⟨b, o + i * 3 + 2, none⟩ = some (.int .i64 (l.getD i (0,0,0)).2.2)
theorem cell_below {w w1 : World} (h : Below w.heap.size w w1) {a : Addr} {v : Value} (hc : w.cell? a = some v) : w1.cell? a = some v := (h.cell (World.block_lt_of_cell? w a hc)).trans hc
theorem PtsAt.below {w w1 : World} {b o n : Nat} {l : List Pt} (h : PtsAt w b o n l) (hb : Below w.heap.size w w1) : PtsAt w1 b o n l :=
  fun i hi => ⟨cell_below hb (h i hi).1, cell_below hb (h i hi).2.1, cell_below hb (h i hi).2.2⟩
theorem arePoints_any (p : Int) (b o n cap : Nat) (l : List Pt) (w : World) (hl : l.length = n) (hn : n ≤ 4611686018427387904) (hc : PtsAt w b o n l) :
    Calls Try.prog 53 #[.int .i64 p, .slice (some ⟨b, o, none⟩) n cap] w (Ret w (.bool (ptsB p l))) := by
  have HL := Lib.hid hl; clear hl
  have HC := Lib.hid hc; clear hc
  go_enter Try.func53, Try.ntmps53
  go_wp2
  go_loopw [9] (fun i wr => ∃ k : Nat, k ≤ n ∧ i = .int .i64 k ∧ ptsB p (l.take k) = true ∧ Below w.heap.size w wr) (fun i wr => n - (intOf i).toNat)
  case atStart => exact ⟨0, Nat.zero_le _, rfl, rfl, Below.refl _ _⟩
  case round =>
    obtain ⟨k, hk, rfl, hd, hbl⟩ := hrel
    have HD := Lib.hid hd; clear hd
    by_cases hlt : k < n
    · obtain ⟨c0, c1, c2⟩ := HC.out.below hbl k hlt
      have HS := Lib.hid (take_snoc' l (0,0,0) k (by have := HL.out; omega))
      have HF := Lib.hid (fun h => ptsB_false (p := p) (l := l) (k := k) (by have := HL.out; omega) h)
      have HB := Lib.hid hbl; clear hbl
      generalize l.getD k (0,0,0) = a at *
      obtain ⟨x, y, z⟩ := a
      simp only at c0 c1 c2
      cases hv : ptB p x y z with
      | true =>
        have HV := Lib.hid hv; clear hv
        go_wp2_with (go_at_call 62; refine (IsPoint_any _ _ _ _ _).mono ?_; rintro e w' ⟨rfl, hb2⟩; rw [HV.out]; have HB2 := Lib.hid hb2; clear hb2)
        go_roundw
        case rel => exact ⟨k + 1, by omega, by go_num, by rw [HS.out, ptsB_snoc, HD.out]; exact HV.out, below_al_tr HB.out HB2.out⟩
        case measure => simp [intOf]; omega
      | false =>
        have HV := Lib.hid hv; clear hv
        go_wp2_with (go_at_call 62; refine (IsPoint_any _ _ _ _ _).mono ?_; rintro e w' ⟨rfl, hb2⟩; rw [HV.out]; have HB2 := Lib.hid hb2; clear hb2)
        go_ret
        exact ⟨ret_bool (HF.out HV.out).symm, below_al_tr HB.out HB2.out⟩
    · have HB := Lib.hid hbl; clear hbl
      go_wp2
      go_ret
      refine ⟨ret_bool ?_, HB.out⟩
      have h := HD.out
      rw [List.take_of_length_le (by have := HL.out; omega)] at h
      exact h.symm
theorem codeOf_no {p : Int} (b : Bool) (h : prB p = false) : codeOf p b = 2 := by unfold codeOf; rw [h]; rfl
theorem codeOf_t {p : Int} (h : prB p = true) : codeOf p true = 0 := by unfold codeOf; rw [h]; rfl
theorem codeOf_f {p : Int} (h : prB p = true) : codeOf p false = 1 := by unfold codeOf; rw [h]; rfl
theorem codeOf_yes {p : Int} (b : Bool) (h : prB p = true) : codeOf p b = if b then 0 else 1 := by unfold codeOf; rw [h]; rfl
theorem planeCode_no (p : Int) (f : Value) (w : World) (hp : prB p = false) :
    Calls Try.prog 51 #[.int .i64 p, f] w fun e w' => e = .returned (.int .i64 2) ∧ w = w' := by
  have HP := Lib.hid hp; clear hp
  go_enter Try.func51, Try.ntmps51
  go_wp2_with (go_at_call 24; refine (isPrime_no _ _ HP.out).mono ?_; rintro e w' ⟨rfl, rfl⟩)
  go_ret
  exact ⟨rfl, rfl⟩
theorem PtsAt.alloc {w : World} {b o n : Nat} {l : List Pt} (h : PtsAt w b o n l) (ob : Obj) : PtsAt (w.alloc ob) b o n l := h.below ((Below.refl _ _).alloc (Nat.le_refl _) _)
theorem pointsCode_any (p : Int) (b o n cap : Nat) (l : List Pt) (w : World) (hl : l.length = n) (hn : n ≤ 4611686018427387904) (hc : PtsAt w b o n l) :
    Calls Try.prog 34 #[.int .i64 p, .slice (some ⟨b, o, none⟩) n cap] w (Ret w (.int .i64 (codeOf p (ptsB p l)))) := by
  have HL := Lib.hid hl; clear hl
  have HC := Lib.hid hc; clear hc
  cases hp : prB p with
  | false =>
    have HP := Lib.hid hp; clear hp
    go_enter Try.func34, Try.ntmps34
    go_wp2_with (go_at_call 51; refine (planeCode_no _ _ _ HP.out).mono ?_; rintro e w' ⟨rfl, rfl⟩)
    go_ret
    exact ⟨ret_int (codeOf_no _ HP.out).symm, by repeat (first | exact Below.refl _ _ | refine bal ?_ _)⟩
  | true =>
    have HP := Lib.hid hp; clear hp
    cases hv : ptsB p l with
    | true =>
      have HV := Lib.hid hv; clear hv
      go_enter Try.func34, Try.ntmps34
      go_wp2_with (first
        | (go_at_call 24; refine (isPrime_yes _ _ HP.out).mono ?_; rintro e w' ⟨rfl, rfl⟩)
        | (go_at_call 51; go_in)
        | (go_at_call 52; go_in)
        | (go_at_call 53; refine (arePoints_any _ _ _ _ _ l _ HL.out hn ((HC.out.alloc _).alloc _)).mono ?_ ; rintro e w' ⟨rfl, hb2⟩; rw [HV.out]; have HB2 := Lib.hid hb2; clear hb2))
      go_ret
      exact ⟨ret_int (codeOf_t HP.out).symm, below_tr' (by repeat (first | exact Below.refl _ _ | refine bal ?_ _)) HB2.out⟩
    | false =>
      have HV := Lib.hid hv; clear hv
      go_enter Try.func34, Try.ntmps34
      go_wp2_with (first
        | (go_at_call 24; refine (isPrime_yes _ _ HP.out).mono ?_; rintro e w' ⟨rfl, rfl⟩)
        | (go_at_call 51; go_in)
        | (go_at_call 52; go_in)
        | (go_at_call 53; refine (arePoints_any _ _ _ _ _ l _ HL.out hn ((HC.out.alloc _).alloc _)).mono ?_ ; rintro e w' ⟨rfl, hb2⟩; rw [HV.out]; have HB2 := Lib.hid hb2; clear hb2))
      go_ret
      exact ⟨ret_int (codeOf_f HP.out).symm, below_tr' (by repeat (first | exact Below.refl _ _ | refine bal ?_ _)) HB2.out⟩
/-! ### the reference -/
theorem l01List_any (x y z : Int) (w : World) :
    Calls Try.prog 60 #[ptV x y z] w fun e w' => e = .returned (.slice (some ⟨w.heap.size + 1, 0, none⟩) 3 3) ∧ (w.alloc (.cells #[.int .i64 x, .int .i64 y, .int .i64 z] 45)).alloc (.cells #[.int .i64 x, .int .i64 y, .int .i64 z] 2) = w' := by
  go_enter Try.func60, Try.ntmps60
  go_wp2
  go_ret
  exact ⟨rfl, rfl⟩
theorem l01Point_any (p x y z : Int) (w : World) :
    Calls Try.prog 49 #[.int .i64 p, ptV x y z] w (Ret w (.bool (ptB p x y z))) := by
  cases hp : prB p with
  | true =>
    obtain ⟨h1, h2⟩ := prB_bd hp
    have HP := Lib.hid hp; clear hp
    go_enter Try.func49, Try.ntmps49
    go_wp2_with (first
      | (go_at_call 19; refine (l01Prime_yes _ _ HP.out).mono ?_; rintro e w' ⟨rfl, rfl⟩)
      | (go_at_call 60; refine (l01List_any _ _ _ _).mono ?_; rintro e w' ⟨rfl, rfl⟩)
      | (go_at_call 59; refine (l01Normal_any p _ 0 3 3 [x, y, z] _ h1 h2 rfl (by omega) (new3 _ _ _ _ _ _ (by simp))).mono ?_; rintro e w' ⟨rfl, rfl⟩))
    go_ret
    exact ⟨ret_bool (by unfold ptB; rw [HP.out]; rfl), by repeat (first | exact Below.refl _ _ | refine bal ?_ _)⟩
  | false =>
    have HP := Lib.hid hp; clear hp
    go_enter Try.func49, Try.ntmps49
    go_wp2_with (go_at_call 19; refine (l01Prime_no _ _ HP.out).mono ?_; rintro e w' ⟨rfl, rfl⟩)
    go_ret
    exact ⟨ret_bool (by unfold ptB; rw [HP.out]; rfl), by repeat (first | exact Below.refl _ _ | refine bal ?_ _)⟩
theorem l01Code_any (p : Int) (b o n cap : Nat) (l : List Pt) (w : World) (hl : l.length = n) (hn : n ≤ 4611686018427387904) (hc : PtsAt w b o n l) :
    Calls Try.prog 28 #[.int .i64 p, .slice (some ⟨b, o, none⟩) n cap] w (Ret w (.int .i64 (codeOf p (ptsB p l)))) := by
  have HL := Lib.hid hl; clear hl
  have HC := Lib.hid hc; clear hc
  cases hp : prB p with
  | false =>
    have HP := Lib.hid hp; clear hp
    go_enter Try.func28, Try.ntmps28
    go_wp2_with (go_at_call 19; refine (l01Prime_no _ _ HP.out).mono ?_; rintro e w' ⟨rfl, rfl⟩)
    go_ret
    exact ⟨ret_int (codeOf_no _ HP.out).symm, Below.refl _ _⟩
  | true =>
    have HP := Lib.hid hp; clear hp
    go_enter Try.func28, Try.ntmps28
    go_wp2_with (go_at_call 19; refine (l01Prime_yes _ _ HP.out).mono ?_; rintro e w' ⟨rfl, rfl⟩)
    go_loopw [5] (fun i wr => ∃ k : Nat, k ≤ n ∧ i = .int .i64 k ∧ ptsB p (l.take k) = true ∧ Below w.heap.size w wr) (fun i wr => n - (intOf i).toNat)
    case atStart => exact ⟨0, Nat.zero_le _, rfl, rfl, Below.refl _ _⟩
    case round =>
      obtain ⟨k, hk, rfl, hd, hbl⟩ := hrel
      have HD := Lib.hid hd; clear hd
      by_cases hlt : k < n
      · obtain ⟨c0, c1, c2⟩ := HC.out.below hbl k hlt
        have HS := Lib.hid (take_snoc' l (0,0,0) k (by have := HL.out; omega))
        have HF := Lib.hid (fun h => ptsB_false (p := p) (l := l) (k := k) (by have := HL.out; omega) h)
        have HB := Lib.hid hbl; clear hbl
        generalize l.getD k (0,0,0) = a at *
        obtain ⟨x, y, z⟩ := a
        simp only at c0 c1 c2
        cases hv : ptB p x y z with
        | true =>
          have HV := Lib.hid hv; clear hv
          go_wp2_with (go_at_call 49; refine (l01Point_any _ _ _ _ _).mono ?_; rintro e w' ⟨rfl, hb2⟩; rw [HV.out]; have HB2 := Lib.hid hb2; clear hb2)
          go_roundw
          case rel => exact ⟨k + 1, by omega, by go_num, by rw [HS.out, ptsB_snoc, HD.out]; exact HV.out, below_tr' HB.out HB2.out⟩
          case measure => simp [intOf]; omega
        | false =>
          have HV := Lib.hid hv; clear hv
          go_wp2_with (go_at_call 49; refine (l01Point_any _ _ _ _ _).mono ?_; rintro e w' ⟨rfl, hb2⟩; rw [HV.out]; have HB2 := Lib.hid hb2; clear hb2)
          go_ret
          exact ⟨ret_int (by rw [HF.out HV.out, codeOf_f HP.out]), below_tr' HB.out HB2.out⟩
      · have HB := Lib.hid hbl; clear hbl
        go_wp2
        go_ret
        refine ⟨ret_int ?_, HB.out⟩
        have h := HD.out
        rw [List.take_of_length_le (by have := HL.out; omega)] at h
        rw [h, codeOf_t HP.out]
/-! ### the laws' own -/
theorem toPoint_any (x y z : Int) (w : World) :
    Calls Try.prog 33 #[ptV x y z] w (Ret w (ptV x y z)) := by
  go_enter Try.func33, Try.ntmps33
  go_wp2
  refine wp_loop_rounds 4 ?_
  repeat any_goals (rw [rounds_succ]; go_wp2)
  exact bodyPost_ret (v := ptV x y z) (by simp [results, Try.results33, go_sem]) rfl ⟨rfl, by repeat (first | exact Below.refl _ _ | refine bal ?_ _)⟩
theorem eqPoint_same (x y z : Int) (w : World) :
    Calls Try.prog 39 #[ptV x y z, ptV x y z] w (Ret w (.bool true)) := by
  go_enter Try.func39, Try.ntmps39
  go_wp2
  refine wp_loop_rounds 4 ?_
  iterate 3 (rw [rounds_succ]; go_wp2; go_quiet (fail); go_wp2)
  rw [rounds_succ]; go_wp2
  go_ret
  exact ⟨rfl, by repeat (first | exact Below.refl _ _ | refine bal ?_ _ | refine bdrN ?_ _ | refine bdr ?_)⟩
theorem eqLine_same (x y z : Int) (w : World) :
    Calls Try.prog 18 #[ptV x y z, ptV x y z] w (Ret w (.bool true)) := by
  go_enter Try.func18, Try.ntmps18
  go_wp2
  refine wp_loop_rounds 4 ?_
  iterate 3 (rw [rounds_succ]; go_wp2; go_quiet (fail); go_wp2)
  rw [rounds_succ]; go_wp2
  go_ret
  exact ⟨rfl, by repeat (first | exact Below.refl _ _ | refine bal ?_ _ | refine bdrN ?_ _ | refine bdr ?_)⟩
end Go.Proofs.Ytcfilpcjgdbbmaa
/- Contracts: inverses, normal lists made. -/
namespace Go.Proofs.Ytcfilpcjgdbbmaa
open Go.RowKit
set_option linter.unusedVariables false
set_option linter.unusedSimpArgs false

theorem inverse_any (n p : Int) (w : World) (hp : prB p = true) (h0 : 0 < n) (h1 : n < p) :
    Calls Try.prog 27 #[.int .i64 n, .int .i64 p] w fun e w' => e = .returned (.int .i64 (invP p n)) ∧ w = w' := by
  obtain ⟨s1, s2, s3, s4⟩ := invP_spec hp h0 h1
  obtain ⟨b1, b2⟩ := prB_bd hp
  have S3 := Lib.hid s3; clear s3
  have S4 := Lib.hid s4; clear s4
  clear hp
  generalize invP p n = v at *
  go_enter Try.func27, Try.ntmps27
  go_wp2
  go_loop [5] (fun i => ∃ k : Int, 1 ≤ k ∧ k ≤ v ∧ i = .int .i64 k) (fun i => (v - intOf i).toNat)
  case atStart => exact ⟨1, by omega, by omega, rfl⟩
  case round =>
    obtain ⟨k, hk1, hk2, rfl⟩ := hrel
    obtain ⟨m1, m2⟩ := mul_bd (a := n) (b := k) (A := 12) (B := 12) (by omega) (by omega) (by omega) (by omega)
    by_cases e : k = v
    · have hne : (n * k % p != 1) = false := by rw [e, S3.out]; rfl
      have E := Lib.hid e; clear e
      go_wp2_with (go_at_call 48; refine (mod_any _ _ _ (by omega) (by omega) (by omega) (by omega)).mono ?_; rintro e w' ⟨rfl, rfl⟩)
      go_ret
      exact ⟨ret_int E.out, rfl⟩
    · have hne : (n * k % p != 1) = true := by have := S4.out k hk1 (by omega); simpa using this
      go_wp2_with (go_at_call 48; refine (mod_any _ _ _ (by omega) (by omega) (by omega) (by omega)).mono ?_; rintro e w' ⟨rfl, rfl⟩)
      go_round
      case rel => exact ⟨k + 1, by omega, by omega, rfl⟩
      case measure => simp [intOf]; omega
theorem l01Mod_any (p n : Int) (w : World) (hp : 0 < p) (hp' : p ≤ 1000) (hn : -4611686018427387904 ≤ n) (hn' : n ≤ 4611686018427387904) :
    Calls Try.prog 23 #[.int .i64 p, .int .i64 n] w fun e w' => e = .returned (.int .i64 (n % p)) ∧ w = w' := by
  have hb := tmod_lo n p hp
  have e : IntKind.i64.wrap (n.tmod p + p) = n.tmod p + p := IntWalk.i64_in _ (by omega)
  go_enter Try.func23, Try.ntmps23
  go_wp2
  go_ret
  exact ⟨ret_int (mod_is' n p hp), rfl⟩
theorem l01Inverse_any (p x : Int) (w : World) (hp : prB p = true) (hn : -4611686018427387904 ≤ x) (hn' : x ≤ 4611686018427387904) (h0 : 0 < x % p) :
    Calls Try.prog 22 #[.int .i64 p, .int .i64 x] w fun e w' => e = .returned (.int .i64 (invP p (x % p))) ∧ w = w' := by
  obtain ⟨b1, b2⟩ := prB_bd hp
  have h1 : x % p < p := Int.emod_lt_of_pos _ (by omega)
  obtain ⟨s1, s2, s3, s4⟩ := invP_spec hp h0 h1
  have hx := Lib.hid (l01Mod_any p x w (by omega) (by omega) hn hn')
  generalize x % p = n at *
  have S3 := Lib.hid s3; clear s3
  have S4 := Lib.hid s4; clear s4
  clear hp
  generalize invP p n = v at *
  go_enter Try.func22, Try.ntmps22
  go_wp2
  go_loop [5] (fun i => ∃ k : Int, 1 ≤ k ∧ k ≤ v ∧ i = .int .i64 k) (fun i => (v - intOf i).toNat)
  case atStart => exact ⟨1, by omega, by omega, rfl⟩
  case round =>
    obtain ⟨k, hk1, hk2, rfl⟩ := hrel
    have hkp : k < p := by omega
    obtain ⟨m1, m2⟩ := mul_bd (a := k) (b := n) (A := 12) (B := 12) (by omega) (by omega) (by omega) (by omega)
    by_cases e : k = v
    · have hne : (k * n % p == 1) = true := by rw [e, Int.mul_comm, S3.out]; rfl
      have E := Lib.hid e; clear e
      go_wp2_with (go_at_call 23; refine hx.out.mono ?_; rintro e w' ⟨rfl, rfl⟩)
      go_ret
      exact ⟨ret_int E.out, rfl⟩
    · have hne : (k * n % p == 1) = false := by have := S4.out k hk1 (by omega); rw [Int.mul_comm]; simpa using this
      go_wp2_with (go_at_call 23; refine hx.out.mono ?_; rintro e w' ⟨rfl, rfl⟩)
      go_round
      case rel => exact ⟨k + 1, by omega, by omega, rfl⟩
      case measure => simp [intOf]; omega

/-! ### numbers written one by one -/
def setInts (w : World) (b o : Nat) (l : List Int) : World := w.setCells b o (l.map (Value.int .i64))
theorem setCells_snoc (b : Nat) (v : Value) : ∀ (l : List Value) (o : Nat) (w : World), w.setCells b o (l ++ [v]) = (w.setCells b o l).setCell ⟨b, o + l.length, none⟩ v
  | [], o, w => rfl
  | u :: r, o, w => by
    show (w.setCell ⟨b, o, none⟩ u).setCells b (o + 1) (r ++ [v]) = ((w.setCell ⟨b, o, none⟩ u).setCells b (o + 1) r).setCell ⟨b, o + (r.length + 1), none⟩ v
    rw [setCells_snoc b v r (o + 1), show o + (r.length + 1) = o + 1 + r.length by omega]
theorem setInts_snoc (w : World) (b o : Nat) (l : List Int) (x : Int) : setInts w b o (l ++ [x]) = (setInts w b o l).setCell ⟨b, o + l.length, none⟩ (.int .i64 x) := by
  unfold setInts; rw [List.map_append]; simp only [List.map_cons, List.map_nil]; rw [setCells_snoc, List.length_map]
theorem setInts_cell_ge (w : World) (b o : Nat) (l : List Int) (i : Nat) (h : l.length ≤ i) : (setInts w b o l).cell? ⟨b, o + i, none⟩ = w.cell? ⟨b, o + i, none⟩ :=
  World.cell?_setCells_out b _ o w _ (fun _ _ => .inr (by simp; omega))
theorem setInts_frozen (w : World) (b o : Nat) (l : List Int) (a : Addr) : (setInts w b o l).frozen? a = w.frozen? a := World.frozen?_setCells b _ o w a
theorem setInts_other (w : World) (b o : Nat) (l : List Int) (a : Addr) (h : a.block ≠ b) : (setInts w b o l).cell? a = w.cell? a :=
  World.cell?_setCells_out b _ o w a (fun e _ => (h e).elim)
theorem setInts_cell (w : World) (b o : Nat) (l : List Int) (hc : ∀ j, j < l.length → (w.cell? ⟨b, o + j, none⟩).isSome = true) (i : Nat) (h : i < l.length) : (setInts w b o l).cell? ⟨b, o + i, none⟩ = some (.int .i64 (l.getD i 0)) := by
  unfold setInts
  rw [World.cell?_setCells_in b (l.map (Value.int .i64)) o w (by simpa using hc) i (by simpa using h)]
  simp [List.getD, h]
theorem setCells_size (b : Nat) : ∀ (l : List Value) (o : Nat) (w : World), (w.setCells b o l).heap.size = w.heap.size
  | [], _, _ => rfl
  | u :: r, o, w => by
    show ((w.setCell ⟨b, o, none⟩ u).setCells b (o + 1) r).heap.size = w.heap.size
    rw [setCells_size b r]; simp [World.setCell]
theorem setInts_size (w : World) (b o : Nat) (l : List Int) : (setInts w b o l).heap.size = w.heap.size := setCells_size b _ o w
theorem below_setCells {B : Nat} {w : World} (b : Nat) (hb : B ≤ b) : ∀ (l : List Value) (o : Nat) (W : World), Below B w W → Below B w (W.setCells b o l)
  | [], _, _, h => h
  | u :: r, o, W, h => below_setCells b hb r (o + 1) _ (h.setCell hb _)
theorem below_setInts {B : Nat} {w W : World} {b : Nat} (h : Below B w W) (hb : B ≤ b) (o : Nat) (l : List Int) : Below B w (setInts W b o l) := below_setCells b hb _ o W h

theorem setInts3 (w : World) (b : Nat) (x y z : Int) : setInts w b 0 [x, y, z] = ((w.setCell ⟨b, 0, none⟩ (.int .i64 x)).setCell ⟨b, 1, none⟩ (.int .i64 y)).setCell ⟨b, 2, none⟩ (.int .i64 z) := rfl
theorem normal_any (p : Int) (b o n cap : Nat) (l : List Int) (w : World) (hp : prB p = true) (hl : l.length = n) (hn : n ≤ 4611686018427387904)
    (hc : ∀ i, i < n → w.cell? ⟨b, o + i, none⟩ = some (.int .i64 (l.getD i 0))) (hf : ∀ i, i < n → w.frozen? ⟨b, o + i, none⟩ = false)
    (hx : ∀ i, i < n → -4611686018427387904 ≤ l.getD i 0 ∧ l.getD i 0 ≤ 4611686018427387904) :
    Calls Try.prog 68 #[.int .i64 p, .slice (some ⟨b, o, none⟩) n cap] w fun e w' => e = .returned (.bool (nzB p l)) ∧ setInts w b o (normL p l) = w' := by
  obtain ⟨b1, b2⟩ := prB_bd hp
  have HL := Lib.hid hl; clear hl
  have HC := Lib.hid hc; clear hc
  have HZ := Lib.hid hf; clear hf
  have HX := Lib.hid hx; clear hx
  have HP := Lib.hid hp; clear hp
  go_enter Try.func68, Try.ntmps68
  go_wp2
  go_loopw [5, 10] (fun f i wr => ∃ k : Nat, k ≤ n ∧ i = .int .i64 k ∧ f = .int .i64 (facL p (l.take k)) ∧ Hid (wr = setInts w b o ((normL p l).take k))) (fun _ i wr => n - (intOf i).toNat)
  case atStart => exact ⟨0, Nat.zero_le _, rfl, by show Value.int .i64 0 = .int .i64 (invP p 0); rw [invP_zero p (by omega)], Lib.hid rfl⟩
  case round =>
    obtain ⟨k, hk, rfl, rfl, HW⟩ := hrel
    have hfb := facL_bd HP.out (l.take k)
    by_cases hlt : k < n
    · have hcell : wr.cell? ⟨b, o + k, none⟩ = some (.int .i64 (l.getD k 0)) := by
        rw [HW.out, setInts_cell_ge _ _ _ _ _ (by simp; omega)]; exact HC.out k hlt
      have hfrz : wr.frozen? ⟨b, o + k, none⟩ = false := by rw [HW.out, setInts_frozen]; exact HZ.out k hlt
      have HS : Hid ((normL p l).take (k + 1) = (normL p l).take k ++ [(l.getD k 0 % p) * facL p (l.take (k + 1)) % p]) := Lib.hid (by
        rw [take_snoc' _ 0 k (by rw [normL_length]; have := HL.out; omega), normL_at HP.out _ _ (by have := HL.out; omega)])
      have HF : Hid (facL p (l.take (k + 1)) = if facL p (l.take k) = 0 then invP p (l.getD k 0 % p) else facL p (l.take k)) := Lib.hid (by
        rw [take_snoc' l 0 k (by have := HL.out; omega), facL_snoc HP.out])
      have hxb := HX.out k hlt
      have HM := Lib.hid (mod_any (l.getD k 0) p wr (by omega) (by omega) hxb.1 hxb.2)
      have hm0 : 0 ≤ l.getD k 0 % p := Int.emod_nonneg _ (by omega)
      have hm1 : l.getD k 0 % p < p := Int.emod_lt_of_pos _ (by omega)
      generalize l.getD k 0 = x at *
      generalize x % p = m at *
      generalize facL p (l.take k) = f at *
      by_cases hf0 : f = 0
      · have hF1 := HF.out; rw [if_pos hf0] at hF1
        have ht1 : (f == 0) = true := by simp [hf0]
        by_cases hm : m = 0
        · have ht2 : (m != 0) = false := by simp [hm]
          have HN : Hid (facL p (l.take (k + 1)) = f ∧ (normL p l).take (k + 1) = (normL p l).take k ++ [m * f % p]) := Lib.hid (by
            have e : facL p (l.take (k + 1)) = f := by rw [hF1, hm, invP_zero p (by omega), hf0]
            exact ⟨e, by rw [HS.out, e]⟩)
          clear HF HS hF1
          obtain ⟨m1, m2⟩ := mul_bd (a := m) (b := f) (A := 12) (B := 12) (by omega) (by omega) (by omega) (by omega)
          have HM2 := Lib.hid (mod_any (m * f) p wr (by omega) (by omega) (by omega) (by omega))
          have HE := Lib.hid hf0; have HE2 := Lib.hid hm; clear hf0 hm
          go_wp2_with (go_at_call 48; first | ((with_reducible refine HM.out.mono ?_); rintro e w' ⟨rfl, rfl⟩) | ((with_reducible refine HM2.out.mono ?_); rintro e w' ⟨rfl, rfl⟩))
          go_roundw
          case rel => exact ⟨k + 1, by omega, by go_num, by rw [HN.out.1], Lib.hid (by rw [HN.out.2, setInts_snoc, ← HW.out]; simp [normL_length]; congr 2; have := HL.out; omega)⟩
          case measure => simp [intOf]; omega
        · have ht2 : (m != 0) = true := by simp [hm]
          have HI := Lib.hid (inverse_any m p wr HP.out (by omega) (by omega))
          have hvb := invP_bd HP.out hm0 hm1
          have HN : Hid (facL p (l.take (k + 1)) = invP p m ∧ (normL p l).take (k + 1) = (normL p l).take k ++ [m * invP p m % p]) := Lib.hid ⟨hF1, by rw [HS.out, hF1]⟩
          clear HF HS hF1
          generalize invP p m = v at *
          obtain ⟨m1, m2⟩ := mul_bd (a := m) (b := v) (A := 12) (B := 12) (by omega) (by omega) (by omega) (by omega)
          have HM2 := Lib.hid (mod_any (m * v) p wr (by omega) (by omega) (by omega) (by omega))
          have HE := Lib.hid hf0; have HE2 := Lib.hid hm; clear hf0 hm
          go_wp2_with (first
            | (go_at_call 48; first | ((with_reducible refine HM.out.mono ?_); rintro e w' ⟨rfl, rfl⟩) | ((with_reducible refine HM2.out.mono ?_); rintro e w' ⟨rfl, rfl⟩))
            | (go_at_call 27; (with_reducible refine HI.out.mono ?_); rintro e w' ⟨rfl, rfl⟩))
          go_roundw
          case rel => exact ⟨k + 1, by omega, by go_num, by rw [HN.out.1], Lib.hid (by rw [HN.out.2, setInts_snoc, ← HW.out]; simp [normL_length]; congr 2; have := HL.out; omega)⟩
          case measure => simp [intOf]; omega
      · have hF1 := HF.out; rw [if_neg hf0] at hF1
        have ht1 : (f == 0) = false := by simp [hf0]
        have HN : Hid (facL p (l.take (k + 1)) = f ∧ (normL p l).take (k + 1) = (normL p l).take k ++ [m * f % p]) := Lib.hid ⟨hF1, by rw [HS.out, hF1]⟩
        clear HF HS hF1
        obtain ⟨m1, m2⟩ := mul_bd (a := m) (b := f) (A := 12) (B := 12) (by omega) (by omega) (by omega) (by omega)
        have HM2 := Lib.hid (mod_any (m * f) p wr (by omega) (by omega) (by omega) (by omega))
        have HE := Lib.hid hf0; clear hf0
        go_wp2_with (go_at_call 48; first | ((with_reducible refine HM.out.mono ?_); rintro e w' ⟨rfl, rfl⟩) | ((with_reducible refine HM2.out.mono ?_); rintro e w' ⟨rfl, rfl⟩))
        go_roundw
        case rel => exact ⟨k + 1, by omega, by go_num, by rw [HN.out.1], Lib.hid (by rw [HN.out.2, setInts_snoc, ← HW.out]; simp [normL_length]; congr 2; have := HL.out; omega)⟩
        case measure => simp [intOf]; omega
    · have HT : Hid (l.take k = l ∧ (normL p l).take k = normL p l) := Lib.hid ⟨List.take_of_length_le (by have := HL.out; omega), List.take_of_length_le (by rw [normL_length]; have := HL.out; omega)⟩
      have HG : Hid ((facL p (l.take k) != 0) = nzB p l) := Lib.hid (by
        rw [HT.out.1]; unfold nzB
        rw [Bool.eq_iff_iff]; simp [facL_zero HP.out, firstNZ_eq_zero])
      generalize facL p (l.take k) = f at *
      go_wp2
      go_ret
      exact ⟨ret_bool HG.out, by rw [HW.out, HT.out.2]⟩
end Go.Proofs.Ytcfilpcjgdbbmaa
/- Contracts: crossed numbers, joins and meets of the program. -/
namespace Go.Proofs.Ytcfilpcjgdbbmaa
open Go.RowKit
set_option linter.unusedVariables false
set_option linter.unusedSimpArgs false
/-- Three numbers made normal. -/
def nrm3 (p x y z : Int) : Pt := (x % p * facL p [x, y, z] % p, y % p * facL p [x, y, z] % p, z % p * facL p [x, y, z] % p)
theorem normL3 (p x y z : Int) : normL p [x, y, z] = [(nrm3 p x y z).1, (nrm3 p x y z).2.1, (nrm3 p x y z).2.2] := rfl
theorem pointOf_any (p x y z : Int) (w : World) (hp : prB p = true) (hx : -4611686018427387904 ≤ x ∧ x ≤ 4611686018427387904) (hy : -4611686018427387904 ≤ y ∧ y ≤ 4611686018427387904) (hz : -4611686018427387904 ≤ z ∧ z ≤ 4611686018427387904) :
    Calls Try.prog 63 #[.int .i64 p, .int .i64 x, .int .i64 y, .int .i64 z] w (Ret w (ptV (nrm3 p x y z).1 (nrm3 p x y z).2.1 (nrm3 p x y z).2.2)) := by
  have HN := Lib.hid (normL3 p x y z)
  have HP := Lib.hid hp; clear hp
  generalize nrm3 p x y z = r at *
  obtain ⟨u0, u1, u2⟩ := r
  go_enter Try.func63, Try.ntmps63
  go_wp2_with (go_at_call 68; refine (normal_any p _ 0 3 3 [x, y, z] _ HP.out rfl (by omega) (by intro i hi; match i, hi with | 0, _ => simp [go_sem] | 1, _ => simp [go_sem] | 2, _ => simp [go_sem]) (by intro i hi; match i, hi with | 0, _ => simp [go_sem] | 1, _ => simp [go_sem] | 2, _ => simp [go_sem]) (by intro i hi; match i, hi with | 0, _ => (simp; omega) | 1, _ => (simp; omega) | 2, _ => (simp; omega))).mono ?_; rintro e w' ⟨rfl, rfl⟩; rw [HN.out, setInts3])
  exact bodyPost_ret (v := ptV u0 u1 u2) (by simp [results, Try.results63, go_sem]) rfl ⟨rfl, (by repeat (first | exact Below.refl _ _ | refine bset ?_ _ _ (by omega) _ | refine bal ?_ _ | refine bdrN ?_ _ | refine bdr ?_))⟩
/-- The raw cross product. -/
def crs (a b : Pt) : Pt := (a.2.1 * b.2.2 - a.2.2 * b.2.1, a.2.2 * b.1 - a.1 * b.2.2, a.1 * b.2.1 - a.2.1 * b.1)
def crsN (p : Int) (a b : Pt) : Pt := nrm3 p (crs a b).1 (crs a b).2.1 (crs a b).2.2
def In13 (a : Pt) : Prop := (0 ≤ a.1 ∧ a.1 ≤ 12) ∧ (0 ≤ a.2.1 ∧ a.2.1 ≤ 12) ∧ (0 ≤ a.2.2 ∧ a.2.2 ≤ 12)
set_option maxHeartbeats 800000 in
theorem cross_any (p a0 a1 a2 b0 b1 b2 : Int) (w : World) (hp : prB p = true) (ha : In13 (a0, a1, a2)) (hb : In13 (b0, b1, b2)) :
    Calls Try.prog 56 #[.int .i64 p, ptV a0 a1 a2, ptV b0 b1 b2] w (Ret w (ptV (crsN p (a0, a1, a2) (b0, b1, b2)).1 (crsN p (a0, a1, a2) (b0, b1, b2)).2.1 (crsN p (a0, a1, a2) (b0, b1, b2)).2.2)) := by
  obtain ⟨⟨p0, p1⟩, ⟨p2, p3⟩, ⟨p4, p5⟩⟩ := ha
  obtain ⟨⟨q0, q1⟩, ⟨q2, q3⟩, ⟨q4, q5⟩⟩ := hb
  simp only at p0 p1 p2 p3 p4 p5 q0 q1 q2 q3 q4 q5
  obtain ⟨m1, n1⟩ := mul_bd p2 p3 q4 q5
  obtain ⟨m2, n2⟩ := mul_bd p4 p5 q2 q3
  obtain ⟨m3, n3⟩ := mul_bd p4 p5 q0 q1
  obtain ⟨m4, n4⟩ := mul_bd p0 p1 q4 q5
  obtain ⟨m5, n5⟩ := mul_bd p0 p1 q2 q3
  obtain ⟨m6, n6⟩ := mul_bd p2 p3 q0 q1
  have HC := Lib.hid (fun (W : World) => pointOf_any p (a1 * b2 - a2 * b1) (a2 * b0 - a0 * b2) (a0 * b1 - a1 * b0) W hp (by omega) (by omega) (by omega))
  have HE : Hid (crsN p (a0, a1, a2) (b0, b1, b2) = nrm3 p (a1 * b2 - a2 * b1) (a2 * b0 - a0 * b2) (a0 * b1 - a1 * b0)) := Lib.hid rfl
  clear hp
  generalize nrm3 p (a1 * b2 - a2 * b1) (a2 * b0 - a0 * b2) (a0 * b1 - a1 * b0) = r at *
  obtain ⟨u0, u1, u2⟩ := r
  rw [HE.out]
  go_enter Try.func56, Try.ntmps56
  go_wp2_with (go_at_call 63; refine (HC.out _).mono ?_; rintro e w_ ⟨rfl, hb⟩; obtain ⟨hcb, hfb, hlb⟩ := bcell hb; have hsz := hb.size; try simp at hsz; have HB := Lib.hid hb; clear hb; try (have hl0 : w.heap.size < w_.heap.size := by omega); try (have hl1 : w.heap.size + 1 < w_.heap.size := by omega); try (have hl2 : w.heap.size + 1 + 1 < w_.heap.size := by omega))
  exact bodyPost_ret (v := ptV u0 u1 u2) (by simp [results, Try.results56, go_sem, hcb, hl0, hl1, hl2]) rfl ⟨rfl, (by repeat (first | exact Below.refl _ _ | refine bset ?_ _ _ (by omega) _ | refine bal ?_ _ | refine bdrN ?_ _ | refine bdr ?_ | refine below_tr' ?_ HB.out))⟩
theorem meet_any (p a0 a1 a2 b0 b1 b2 : Int) (w : World) (hp : prB p = true) (ha : In13 (a0, a1, a2)) (hb : In13 (b0, b1, b2)) :
    Calls Try.prog 37 #[.int .i64 p, ptV a0 a1 a2, ptV b0 b1 b2] w (Ret w (ptV (crsN p (a0, a1, a2) (b0, b1, b2)).1 (crsN p (a0, a1, a2) (b0, b1, b2)).2.1 (crsN p (a0, a1, a2) (b0, b1, b2)).2.2)) := by
  have HC := Lib.hid (fun (W : World) => cross_any p a0 a1 a2 b0 b1 b2 W hp ha hb)
  generalize crsN p (a0, a1, a2) (b0, b1, b2) = r at *
  obtain ⟨u0, u1, u2⟩ := r
  clear hp ha hb
  go_enter Try.func37, Try.ntmps37
  go_wp2_with (go_at_call 56; refine (HC.out _).mono ?_; rintro e w_ ⟨rfl, hb⟩; obtain ⟨hcb, hfb, hlb⟩ := bcell hb; have hsz := hb.size; try simp at hsz; have HB := Lib.hid hb; clear hb; try (have hl0 : w.heap.size < w_.heap.size := by omega); try (have hl1 : w.heap.size + 1 < w_.heap.size := by omega); try (have hl2 : w.heap.size + 1 + 1 < w_.heap.size := by omega))
  exact bodyPost_ret (v := ptV u0 u1 u2) (by simp [results, Try.results37, go_sem, hcb, hl0, hl1, hl2]) rfl ⟨rfl, (by repeat (first | exact Below.refl _ _ | refine bset ?_ _ _ (by omega) _ | refine bal ?_ _ | refine bdrN ?_ _ | refine bdr ?_ | refine below_tr' ?_ HB.out))⟩
/-- Whether a point is on a line. -/
def onB (p : Int) (a l : Pt) : Bool := (a.1 * l.1 + a.2.1 * l.2.1 + a.2.2 * l.2.2) % p == 0
theorem dot_any (p a0 a1 a2 b0 b1 b2 : Int) (w : World) (hp : prB p = true) (ha : In13 (a0, a1, a2)) (hb : In13 (b0, b1, b2)) :
    Calls Try.prog 47 #[.int .i64 p, ptV a0 a1 a2, ptV b0 b1 b2] w (Ret w (.int .i64 ((a0 * b0 + a1 * b1 + a2 * b2) % p))) := by
  obtain ⟨⟨p0, p1⟩, ⟨p2, p3⟩, ⟨p4, p5⟩⟩ := ha
  obtain ⟨⟨q0, q1⟩, ⟨q2, q3⟩, ⟨q4, q5⟩⟩ := hb
  simp only at p0 p1 p2 p3 p4 p5 q0 q1 q2 q3 q4 q5
  obtain ⟨m1, n1⟩ := mul_bd p0 p1 q0 q1
  obtain ⟨m2, n2⟩ := mul_bd p2 p3 q2 q3
  obtain ⟨m3, n3⟩ := mul_bd p4 p5 q4 q5
  obtain ⟨h1, h2⟩ := prB_bd hp
  clear hp
  go_enter Try.func47, Try.ntmps47
  go_wp2_with (go_at_call 48; refine (mod_any _ _ _ (by omega) (by omega) (by omega) (by omega)).mono ?_; rintro e w' ⟨rfl, rfl⟩)
  go_ret
  exact ⟨rfl, (by repeat (first | exact Below.refl _ _ | refine bset ?_ _ _ (by omega) _ | refine bal ?_ _ | refine bdrN ?_ _ | refine bdr ?_))⟩
theorem isOn_any (p a0 a1 a2 b0 b1 b2 : Int) (w : World) (hp : prB p = true) (ha : In13 (a0, a1, a2)) (hb : In13 (b0, b1, b2)) :
    Calls Try.prog 26 #[.int .i64 p, ptV a0 a1 a2, ptV b0 b1 b2] w (Ret w (.bool (onB p (a0, a1, a2) (b0, b1, b2)))) := by
  have HC := Lib.hid (fun (W : World) => dot_any p a0 a1 a2 b0 b1 b2 W hp ha hb)
  have HE : Hid (onB p (a0, a1, a2) (b0, b1, b2) = ((a0 * b0 + a1 * b1 + a2 * b2) % p == 0)) := Lib.hid rfl
  generalize (a0 * b0 + a1 * b1 + a2 * b2) % p = d at *
  clear hp ha hb
  go_enter Try.func26, Try.ntmps26
  go_wp2_with (go_at_call 47; refine (HC.out _).mono ?_; rintro e w_ ⟨rfl, hb⟩; obtain ⟨hcb, hfb, hlb⟩ := bcell hb; have hsz := hb.size; try simp at hsz; have HB := Lib.hid hb; clear hb; try (have hl0 : w.heap.size < w_.heap.size := by omega); try (have hl1 : w.heap.size + 1 < w_.heap.size := by omega))
  go_ret
  exact ⟨ret_bool HE.out.symm, (by repeat (first | exact Below.refl _ _ | refine bset ?_ _ _ (by omega) _ | refine bal ?_ _ | refine bdrN ?_ _ | refine bdr ?_ | refine below_tr' ?_ HB.out))⟩
end Go.Proofs.Ytcfilpcjgdbbmaa
/- The first desk: both makings. -/
namespace Go.Proofs.Ytcfilpcjgdbbmaa
open Go.RowKit
set_option linter.unusedVariables false
set_option linter.unusedSimpArgs false
theorem run_loadRow {P : Program} {W : World} {g : Nat} {T : TypeId} {cs : Array Value} {fr : Nat × Nat} (ty : TypeId)
    (hg : W.heap[g]? = some (.cells cs T fr)) (n : Nat) (hn : cs.size = n) (hs : ∀ W, (sizeOf ty).run P W = .ok n W) (ha : ∀ W, (isAgg ty).run P W = .ok true W) : (loadVar ty ⟨g, 0, none⟩).run P W = .ok (.agg cs) W := by
  subst hn
  have hl : (loadCells ⟨g, 0, none⟩ cs.toList.length).run P W = .ok cs.toList.toArray W :=
    run_loadCells_list (P := P) W ⟨g, 0, none⟩ cs.toList (fun j v hv => by
      have hadd : (⟨g, 0, none⟩ : Addr).add j = ⟨g, j, none⟩ := by unfold Addr.add; split <;> simp_all
      rw [hadd, cell_of_row W g j cs T fr hg]
      simpa using hv)
  simp only [Array.length_toList, Array.toArray_toList] at hl
  unfold loadVar
  rw [Sem.run_bind, ha]
  simp only [Result.andThen_ok, if_true]
  rw [Sem.run_bind, hs]
  simp only [Result.andThen_ok]
  rw [Sem.run_bind, hl]
  rfl
theorem results_row {P : Program} {fn : Func} {tmps : Array Value} {t : Tmp} {W : World} {g : Nat} {T : TypeId} {cs : Array Value} {fr : Nat × Nat} {ty : TypeId} (h : fn.results = #[.cell t ty]) (ht : tmps.getD t undef = .pointer (some ⟨g, 0, none⟩))
    (hg : W.heap[g]? = some (.cells cs T fr)) (n : Nat) (hn : cs.size = n) (hs : ∀ W, (sizeOf ty).run P W = .ok n W) (ha : ∀ W, (isAgg ty).run P W = .ok true W) : (results fn tmps).run P W = .ok (.agg cs) W := by
  have hv := run_loadRow (P := P) ty hg n hn hs ha
  have ht' : tmps[t]?.getD undef = .pointer (some ⟨g, 0, none⟩) := by rw [← Array.getD_eq_getD_getElem?]; exact ht
  have hp : ∀ a : Addr, asAddr (.pointer (some a)) = pure a := fun _ => rfl
  simp [results, h, ht', hp, Sem.run_bind, Sem.run_pure, hv]
theorem wpList_store_row {P : Program} (w : World) {ops : Array Oper} {rest : List Oper} {o : Oper} {a : Act} {Q : Exit → Act → World → Prop}
    (hgd : o.guard = none) (ty : TypeId) (x y : Operand) (hop : o.op = .store ty x y) (hd : o.dst = none) {g : Nat} {T : TypeId} {cs U : Array Value} (hx : a.eval x = .pointer (some ⟨g, 0, none⟩)) (hy : a.eval y = .agg U)
    (hg : w.heap[g]? = some (.cells cs T (0, 0))) (hn : cs.size = U.size) (hs : ∀ W, (sizeOf ty).run P W = .ok U.size W) (h1 : ∀ v ∈ U.toList, v.oneCell' = true) (hK : wpList P ops Q rest a (w.setRow g U)) : wpList P ops Q (o :: rest) a w := by
  refine wpList_plain hgd fun K hK' => ?_
  unfold Oper.wp
  rw [run_store_row ty x y hop hx hy hg hn hs h1]
  simp only [Oper.upon, hd]
  exact hK' _ _ hK
theorem wpList_build {P : Program} (w : World) {ops : Array Oper} {rest : List Oper} {o : Oper} {a : Act} {Q : Exit → Act → World → Prop}
    (hgd : o.guard = none) (t : TypeId) (parts : Array (Nat × Operand)) (hop : o.op = .build t parts) (U : Array Value) (hb : P.built t (parts.map fun (i, x) => (i, a.eval x)).toList = some U)
    (hK : wpList P ops Q rest (a.put o.dst (.agg U)) w) : wpList P ops Q (o :: rest) a w := by
  refine wpList_plain hgd fun K hK' => wp_build t parts hop (by rw [hb]; rfl) ?_
  rw [hb]
  exact hK' _ _ hK
theorem hn_atN (w : World) (o : Obj) (n : Nat) (h : n = w.heap.size) : (w.alloc o).heap[n]? = some o := by subst h; exact heap_alloc_new w o
theorem hn_pastN (w : World) (o : Obj) (n : Nat) (h : n < w.heap.size) : (w.alloc o).heap[n]? = w.heap[n]? := by
  rw [heap_alloc_old]; exact h
theorem below_setRowN {B g : Nat} {w W : World} (h : Below B w W) (hg : B ≤ g) (cs : Array Value) : Below B w (W.setRow g cs) :=
  ⟨h.os, h.tape, h.output, by simpa [World.setRow] using h.size, fun k hk => (setRow_other W g k cs (by omega)).trans (h.block k hk)⟩
def deskC : Array Value := #[.int .i64 5, .int .i64 0, .int .i64 0, .int .i64 1, .int .i64 1, .int .i64 0, .int .i64 0, .int .i64 0, .int .i64 1, .int .i64 0, .int .i64 0, .int .i64 0, .int .i64 1, .int .i64 1, .int .i64 0, .int .i64 0, .int .i64 1, .int .i64 0, .int .i64 0, .int .i64 0, .int .i64 0, .int .i64 4]
def conC : Array Value := #[.int .i64 1, .int .i64 0, .int .i64 0, .int .i64 0, .int .i64 0, .int .i64 4]
end Go.Proofs.Ytcfilpcjgdbbmaa
/- The desks compared. -/
namespace Go.Proofs.Ytcfilpcjgdbbmaa
open Go.RowKit
set_option linter.unusedVariables false
set_option linter.unusedSimpArgs false
theorem calm_loadPt' {P : Program} {o : Oper} {ρ : Operand → Value} {W : World} {g off : Nat} {x y z : Int} (ty : TypeId) (q : Operand) (ho : o.op = .load ty q) (hx : ρ q = .pointer (some ⟨g, off, none⟩))
    (h0 : W.cell? ⟨g, off, none⟩ = some (.int .i64 x)) (h1 : W.cell? ⟨g, off + 1, none⟩ = some (.int .i64 y)) (h2 : W.cell? ⟨g, off + 2, none⟩ = some (.int .i64 z)) (hs : ∀ W, (sizeOf ty).run P W = .ok 3 W) (ha : ∀ W, (isAgg ty).run P W = .ok true W) : calmAt P o ρ W (ptV x y z) := by
  have hl : (loadCells ⟨g, off, none⟩ 3).run P W = .ok #[.int .i64 x, .int .i64 y, .int .i64 z] W :=
    run_loadCells_list (P := P) W ⟨g, off, none⟩ [.int .i64 x, .int .i64 y, .int .i64 z] (fun j v hv => by
      have hadd : ∀ j, (⟨g, off, none⟩ : Addr).add j = ⟨g, off + j, none⟩ := by intro j; unfold Addr.add; split <;> simp_all
      rw [hadd]
      match j, hv with
      | 0, hv => simpa using h0.trans (by simpa using hv)
      | 1, hv => exact h1.trans (by simpa using hv)
      | 2, hv => exact h2.trans (by simpa using hv)
      | j + 3, hv => simp at hv)
  have hv : (loadVar ty ⟨g, off, none⟩).run P W = .ok (ptV x y z) W := by
    unfold loadVar
    rw [Sem.run_bind, ha]
    simp only [Result.andThen_ok, if_true]
    rw [Sem.run_bind, hs]
    simp only [Result.andThen_ok]
    rw [Sem.run_bind, hl]
    rfl
  refine ⟨?_⟩
  unfold calmRun execOp
  simp only [ho, hx, Instr.loadAt, Instr.sureAddr, Sem.run_bind, Sem.run_pure, Result.andThen_ok, hv, and_self]
end Go.Proofs.Ytcfilpcjgdbbmaa
/- The law FnExactNewDesk: walked. -/
namespace Go.Proofs.Ytcfilpcjgdbbmaa
open Go.RowKit
set_option linter.unusedVariables false
set_option linter.unusedSimpArgs false
theorem wpList_load_row {P : Program} (w : World) {ops : Array Oper} {rest : List Oper} {o : Oper} {a : Act} {Q : Exit → Act → World → Prop}
    (hgd : o.guard = none) (ty : TypeId) (x : Operand) (hop : o.op = .load ty x) {g : Nat} {T : TypeId} {cs : Array Value} {fr : Nat × Nat} (hx : a.eval x = .pointer (some ⟨g, 0, none⟩))
    (hg : w.heap[g]? = some (.cells cs T fr)) (n : Nat) (hn : cs.size = n) (hs : ∀ W, (sizeOf ty).run P W = .ok n W) (ha : ∀ W, (isAgg ty).run P W = .ok true W) (hK : wpList P ops Q rest (a.put o.dst (.agg cs)) w) : wpList P ops Q (o :: rest) a w := by
  refine wpList_plain hgd fun K hK' => ?_
  have hv := run_loadRow (P := P) ty hg n hn hs ha
  have hr : (execOp a.eval o).run P w = .ok (.value (.agg cs)) w := by
    unfold execOp
    simp only [hop, hx, Instr.loadAt, Instr.sureAddr, Sem.run_bind, Sem.run_pure, Result.andThen_ok, hv]
  unfold Oper.wp
  rw [hr]
  simp only [Oper.upon]
  exact hK' _ _ hK
theorem alloc_setRow (w : World) (Z U : Array Value) (T : TypeId) : (w.alloc (.cells Z T)).setRow w.heap.size U = w.alloc (.cells U T) := by
  unfold World.setRow World.alloc
  congr 1
  apply Array.ext
  · simp
  · intro i h1 h2
    simp only [Array.getElem_modify, Array.getElem_push]
    by_cases e : i < w.heap.size
    · have : w.heap.size ≠ i := by omega
      simp [e, this]
    · have : w.heap.size = i := by simp at h2; omega
      simp [e, this]
end Go.Proofs.Ytcfilpcjgdbbmaa
/- Contracts: the reference's normal lists and crossed numbers. -/
namespace Go.Proofs.Ytcfilpcjgdbbmaa
open Go.RowKit
set_option linter.unusedVariables false
set_option linter.unusedSimpArgs false
theorem own_base' {w : World} {base : Nat} {e : TypeId} {size n : Nat} {v : Value} {xs : List Value} (h : w.ownsRow base e size v n xs) (k : Nat) (hk : v.ownBlock = some k) : base ≤ k := by
  rcases h.2 with ⟨rfl, _⟩ | ⟨g, cap, cur, rfl, hb, _⟩
  · simp [Value.ownBlock] at hk
  · have : g = k := by simpa [Value.ownBlock] using hk
    omega
theorem ret_tb {v v' : Value} {a b : Bool} (hv : v = v') (h : a = b) : Ending.returned (.tuple #[v, .bool a]) = .returned (.tuple #[v', .bool b]) := by rw [hv, h]
def ints (l : List Int) : List Value := l.map (Value.int .i64)
theorem ints_snoc (l : List Int) (x : Int) : ints (l ++ [x]) = ints l ++ [.int .i64 x] := by simp [ints]
theorem new1 (wr : World) (x : Value) (T : TypeId) : ∀ (j : Nat) (u : Value), [x][j]? = some u → (wr.alloc (.cells #[x] T)).cell? ((⟨wr.heap.size, 0, none⟩ : Addr).add j) = some u := by
  intro j u hj
  cases j with
  | zero =>
    have e : x = u := by simpa using hj
    subst e
    exact World.cell?_alloc_at _ _ _ _ rfl
  | succ j => simp at hj
theorem one1 (k : IntKind) (x : Int) : ∀ u ∈ [Value.int k x], u.oneCell' = true := by
  intro u hu
  have e : u = .int k x := by simpa using hu
  subst e; rfl
/-- A new list of numbers, and whether it is other than 0. -/
structure NormPost (w : World) (p : Int) (l : List Int) (n : Nat) (e : Ending) (w' : World) : Prop where
  out : ∃ v, e = .returned (.tuple #[v, .bool (nzB p l)]) ∧ w'.ownsRow w.heap.size 2 1 v n (ints (normL p l)) ∧ Below w.heap.size w w'
theorem info64 : (Try.prog.info? 2).map (fun i => (i.zero, i.size, i.bytes)) = some (some (.int .i64 0), 1, 8) := by kernel_rfl
set_option maxHeartbeats 1000000 in
theorem l01Norm_any (p : Int) (b o n cap : Nat) (l : List Int) (w : World) (hp : prB p = true) (hl : l.length = n) (hn : n ≤ 1000000)
    (hc : ∀ i, i < n → w.cell? ⟨b, o + i, none⟩ = some (.int .i64 (l.getD i 0)))
    (hx : ∀ i, i < n → -4611686018427387904 ≤ l.getD i 0 ∧ l.getD i 0 ≤ 4611686018427387904) :
    Calls Try.prog 66 #[.int .i64 p, .slice (some ⟨b, o, none⟩) n cap] w (NormPost w p l n) := by
  obtain ⟨b1, b2⟩ := prB_bd hp
  have hpz : (p == 0) = false := beqf (by omega)
  have HL := Lib.hid hl; clear hl
  have HC := Lib.hid hc; clear hc
  have HX := Lib.hid hx; clear hx
  have HP := Lib.hid hp; clear hp
  obtain ⟨i0, hi, hz0, hz1, hz2⟩ := info_parts info64
  have HI0 := Lib.hid hi; have HZ0 := Lib.hid hz0; have HZ1 := Lib.hid hz1; have HZ2 := Lib.hid hz2
  clear hi hz0 hz1 hz2
  go_enter Try.func66, Try.ntmps66
  go_wp2
  go_loopw [6, 7, 8] (fun f v i wr => ∃ k : Nat, k ≤ n ∧ i = .int .i64 k ∧ f = .int .i64 (facL p (l.take k)) ∧ Hid (wr.ownsRow w.heap.size 2 1 v k (ints ((normL p l).take k))) ∧ Hid (Below w.heap.size w wr)) (fun _ _ i wr => n - (intOf i).toNat)
  case atStart =>
    refine ⟨0, Nat.zero_le _, rfl, by show Value.int .i64 0 = .int .i64 (invP p 0); rw [invP_zero p (by omega)], Lib.hid ?_, Lib.hid (by repeat (first | exact Below.refl _ _ | refine bset ?_ _ _ (by omega) _ | refine bal ?_ _ | refine bdrN ?_ _ | refine bdr ?_))⟩
    refine ⟨rfl, .inr ⟨w.heap.size, 0, #[], rfl, Nat.le_refl _, heap_alloc_new _ _, Nat.le_refl _, by unfold maxLen; omega, rfl, rfl⟩⟩
  case round =>
    obtain ⟨k, hk, rfl, rfl, HO, HB⟩ := hrel
    have hfb := facL_bd HP.out (l.take k)
    by_cases hlt : k < n
    · have hcell : wr.cell? ⟨b, o + k, none⟩ = some (.int .i64 (l.getD k 0)) := cell_below HB.out (HC.out k hlt)
      have HS : Hid ((normL p l).take (k + 1) = (normL p l).take k ++ [(l.getD k 0 % p) * facL p (l.take (k + 1)) % p]) := Lib.hid (by
        rw [take_snoc' _ 0 k (by rw [normL_length]; have := HL.out; omega), normL_at HP.out _ _ (by have := HL.out; omega)])
      have HF : Hid (facL p (l.take (k + 1)) = if facL p (l.take k) = 0 then invP p (l.getD k 0 % p) else facL p (l.take k)) := Lib.hid (by
        rw [take_snoc' l 0 k (by have := HL.out; omega), facL_snoc HP.out])
      have hxb := HX.out k hlt
      have HM := Lib.hid (l01Mod_any p (l.getD k 0) wr (by omega) (by omega) hxb.1 hxb.2)
      have hm0 : 0 ≤ l.getD k 0 % p := Int.emod_nonneg _ (by omega)
      have hm1 : l.getD k 0 % p < p := Int.emod_lt_of_pos _ (by omega)
      generalize l.getD k 0 = x at *
      generalize x % p = m at *
      generalize facL p (l.take k) = f at *
      by_cases hf0 : f = 0
      · have hF1 := HF.out; rw [if_pos hf0] at hF1
        have ht1 : (f == 0) = true := beqt hf0
        by_cases hm : m = 0
        · have ht2 : (m != 0) = false := bnef hm
          have HN : Hid (facL p (l.take (k + 1)) = f ∧ (normL p l).take (k + 1) = (normL p l).take k ++ [m * f % p]) := Lib.hid (by
            have e : facL p (l.take (k + 1)) = f := by rw [hF1, hm, invP_zero p (by omega), hf0]
            exact ⟨e, by rw [HS.out, e]⟩)
          clear HF HS hF1
          obtain ⟨m1, m2⟩ := mul_bd (a := m) (b := f) (A := 12) (B := 12) (by omega) (by omega) (by omega) (by omega)
          have HE := Lib.hid hf0; have HE2 := Lib.hid hm; clear hf0 hm
          go_wp2_with (first
            | (go_at_call 23; (with_reducible refine (HM.out).mono ?_); rintro e w' ⟨rfl, rfl⟩)
            | (at_builtin; refine wpList_append_own _ rfl _ _ 43 rfl w.heap.size 2 i0 (.int .i64 0) 1 8 Try.underlying43 HI0.out HZ0.out HZ1.out HZ2.out rfl (by decide) _ _ _ rfl (HO.out.alloc _) ⟨wr.heap.size, 0, none⟩ 1 1 [.int .i64 (m * f % p)] rfl rfl (new1 _ _ _) (one1 _ _) (by unfold maxLen; omega) (by omega) (by have := HB.out.size; simp; omega) ?_; intro v2 w2 hown hgrow _; have HO2 := Lib.hid hown; have HG := Lib.hid hgrow; clear hown hgrow))
          go_roundw
          case rel => exact ⟨k + 1, by omega, by go_num, by rw [HN.out.1], Lib.hid (by rw [HN.out.2, ints_snoc]; exact HO2.out), Lib.hid ((bal HB.out _).grown HG.out (by have := HB.out.size; simp; omega) (fun k' hk' => own_base' HO.out k' hk'))⟩
          case measure => simp [intOf]; omega
        · have ht2 : (m != 0) = true := bnet hm
          have HI := Lib.hid (l01Inverse_any p m wr HP.out (by omega) (by omega) (by rw [Int.emod_eq_of_lt hm0 hm1]; omega))
          rw [Int.emod_eq_of_lt hm0 hm1] at HI
          have hvb := invP_bd HP.out hm0 hm1
          have HN : Hid (facL p (l.take (k + 1)) = invP p m ∧ (normL p l).take (k + 1) = (normL p l).take k ++ [m * invP p m % p]) := Lib.hid ⟨hF1, by rw [HS.out, hF1]⟩
          clear HF HS hF1
          generalize invP p m = g at *
          obtain ⟨m1, m2⟩ := mul_bd (a := m) (b := g) (A := 12) (B := 12) (by omega) (by omega) (by omega) (by omega)
          have HE := Lib.hid hf0; have HE2 := Lib.hid hm; clear hf0 hm
          go_wp2_with (first
            | (go_at_call 23; (with_reducible refine (HM.out).mono ?_); rintro e w' ⟨rfl, rfl⟩)
            | (go_at_call 22; (with_reducible refine (HI.out).mono ?_); rintro e w' ⟨rfl, rfl⟩)
            | (at_builtin; refine wpList_append_own _ rfl _ _ 43 rfl w.heap.size 2 i0 (.int .i64 0) 1 8 Try.underlying43 HI0.out HZ0.out HZ1.out HZ2.out rfl (by decide) _ _ _ rfl (HO.out.alloc _) ⟨wr.heap.size, 0, none⟩ 1 1 [.int .i64 (m * g % p)] rfl rfl (new1 _ _ _) (one1 _ _) (by unfold maxLen; omega) (by omega) (by have := HB.out.size; simp; omega) ?_; intro v2 w2 hown hgrow _; have HO2 := Lib.hid hown; have HG := Lib.hid hgrow; clear hown hgrow))
          go_roundw
          case rel => exact ⟨k + 1, by omega, by go_num, by rw [HN.out.1], Lib.hid (by rw [HN.out.2, ints_snoc]; exact HO2.out), Lib.hid ((bal HB.out _).grown HG.out (by have := HB.out.size; simp; omega) (fun k' hk' => own_base' HO.out k' hk'))⟩
          case measure => simp [intOf]; omega
      · have hF1 := HF.out; rw [if_neg hf0] at hF1
        have ht1 : (f == 0) = false := beqf hf0
        have HN : Hid (facL p (l.take (k + 1)) = f ∧ (normL p l).take (k + 1) = (normL p l).take k ++ [m * f % p]) := Lib.hid ⟨hF1, by rw [HS.out, hF1]⟩
        clear HF HS hF1
        obtain ⟨m1, m2⟩ := mul_bd (a := m) (b := f) (A := 12) (B := 12) (by omega) (by omega) (by omega) (by omega)
        have HE := Lib.hid hf0; clear hf0
        go_wp2_with (first
          | (go_at_call 23; (with_reducible refine (HM.out).mono ?_); rintro e w' ⟨rfl, rfl⟩)
          | (at_builtin; refine wpList_append_own _ rfl _ _ 43 rfl w.heap.size 2 i0 (.int .i64 0) 1 8 Try.underlying43 HI0.out HZ0.out HZ1.out HZ2.out rfl (by decide) _ _ _ rfl (HO.out.alloc _) ⟨wr.heap.size, 0, none⟩ 1 1 [.int .i64 (m * f % p)] rfl rfl (new1 _ _ _) (one1 _ _) (by unfold maxLen; omega) (by omega) (by have := HB.out.size; simp; omega) ?_; intro v2 w2 hown hgrow _; have HO2 := Lib.hid hown; have HG := Lib.hid hgrow; clear hown hgrow))
        go_roundw
        case rel => exact ⟨k + 1, by omega, by go_num, by rw [HN.out.1], Lib.hid (by rw [HN.out.2, ints_snoc]; exact HO2.out), Lib.hid ((bal HB.out _).grown HG.out (by have := HB.out.size; simp; omega) (fun k' hk' => own_base' HO.out k' hk'))⟩
        case measure => simp [intOf]; omega
    · have HT : Hid (l.take k = l ∧ (normL p l).take k = normL p l ∧ k = n) := Lib.hid ⟨List.take_of_length_le (by have := HL.out; omega), List.take_of_length_le (by rw [normL_length]; have := HL.out; omega), by omega⟩
      have HG : Hid ((facL p (l.take k) != 0) = nzB p l) := Lib.hid (by
        rw [HT.out.1]; unfold nzB
        rw [Bool.eq_iff_iff]; simp [facL_zero HP.out, firstNZ_eq_zero])
      generalize facL p (l.take k) = f at *
      go_wp2
      go_ret2
      refine ⟨u7, ret_tb rfl HG.out, ?_, HB.out⟩
      · have h := HO.out
        rw [HT.out.2.1, HT.out.2.2] at h; exact h

/-- A new list of three, laid open. -/
theorem own3 {W : World} {base : Nat} {T : TypeId} {v : Value} {x y z : Int} (h : W.ownsRow base T 1 v 3 (ints [x, y, z])) :
    ∃ g cap, v = .slice (some ⟨g, 0, none⟩) 3 cap ∧ base ≤ g ∧ g < W.heap.size ∧ W.cell? ⟨g, 0, none⟩ = some (.int .i64 x) ∧ W.cell? ⟨g, 1, none⟩ = some (.int .i64 y) ∧ W.cell? ⟨g, 2, none⟩ = some (.int .i64 z) := by
  rcases h.2 with ⟨_, h0⟩ | ⟨g, cap, cur, rfl, hb, hg, hle, _, hsz, htk⟩
  · cases h0
  · have hat : ∀ j, j < 3 → cur[j]? = (ints [x, y, z])[j]? := by
      intro j hj
      rw [← htk, List.getElem?_take_of_lt (by omega)]; simp
    refine ⟨g, cap, rfl, hb, (Array.getElem?_eq_some_iff.1 hg).1, ?_, ?_, ?_⟩
    · rw [cell_of_row W g 0 _ _ _ hg, hat 0 (by omega)]; rfl
    · rw [cell_of_row W g 1 _ _ _ hg, hat 1 (by omega)]; rfl
    · rw [cell_of_row W g 2 _ _ _ hg, hat 2 (by omega)]; rfl
structure Norm3Post (w : World) (p x y z : Int) (e : Ending) (w' : World) : Prop where
  out : ∃ g cap, e = .returned (.tuple #[.slice (some ⟨g, 0, none⟩) 3 cap, .bool (nzB p [x, y, z])]) ∧ w.heap.size ≤ g ∧ g < w'.heap.size ∧
    w'.cell? ⟨g, 0, none⟩ = some (.int .i64 (nrm3 p x y z).1) ∧ w'.cell? ⟨g, 1, none⟩ = some (.int .i64 (nrm3 p x y z).2.1) ∧ w'.cell? ⟨g, 2, none⟩ = some (.int .i64 (nrm3 p x y z).2.2) ∧ Below w.heap.size w w'
theorem norm3_any (p x y z : Int) (b : Nat) (w : World) (hp : prB p = true) (hx : -4611686018427387904 ≤ x ∧ x ≤ 4611686018427387904) (hy : -4611686018427387904 ≤ y ∧ y ≤ 4611686018427387904) (hz : -4611686018427387904 ≤ z ∧ z ≤ 4611686018427387904)
    (hc : ∀ i, i < 3 → w.cell? ⟨b, 0 + i, none⟩ = some (.int .i64 ([x, y, z].getD i 0))) :
    Calls Try.prog 66 #[.int .i64 p, .slice (some ⟨b, 0, none⟩) 3 3] w (Norm3Post w p x y z) := by
  refine (l01Norm_any p b 0 3 3 [x, y, z] w hp rfl (by omega) hc (by intro i hi; match i, hi with | 0, _ => (simp; omega) | 1, _ => (simp; omega) | 2, _ => (simp; omega))).mono ?_
  rintro e w' ⟨v, rfl, ho, hb⟩
  rw [normL3] at ho
  obtain ⟨g, cap, rfl, h1, h2, c0, c1, c2⟩ := own3 ho
  exact ⟨g, cap, rfl, h1, h2, c0, c1, c2, hb⟩
/-- What three stored numbers read as. -/
theorem rd3 {W : World} {b : Nat} {a0 a1 a2 : Value} (x y z : Value) (d0 : W.cell? ⟨b, 0, none⟩ = some a0) (d1 : W.cell? ⟨b, 1, none⟩ = some a1) (d2 : W.cell? ⟨b, 2, none⟩ = some a2) :
    (W.setCell ⟨b, 0, none⟩ x).cell? ⟨b, 0, none⟩ = some x ∧ ((W.setCell ⟨b, 0, none⟩ x).setCell ⟨b, 1, none⟩ y).cell? ⟨b, 1, none⟩ = some y ∧ (((W.setCell ⟨b, 0, none⟩ x).setCell ⟨b, 1, none⟩ y).setCell ⟨b, 2, none⟩ z).cell? ⟨b, 2, none⟩ = some z := by
  refine ⟨World.cell?_setCell_same _ _ _ d0, World.cell?_setCell_same (u := a1) _ _ _ ?_, World.cell?_setCell_same (u := a2) _ _ _ ?_⟩
  · rw [World.cell?_setCell_other _ _ _ _ (by simp)]; exact d1
  · rw [World.cell?_setCell_other _ _ _ _ (by simp), World.cell?_setCell_other _ _ _ _ (by simp)]; exact d2
/-- The point of three numbers, and whether there is one. -/
def made (p x y z : Int) : Pt × Bool := if nzB p [x, y, z] then (nrm3 p x y z, true) else ((0, 0, 0), false)
set_option maxHeartbeats 1000000 in
theorem l01Made_any (p x y z : Int) (w : World) (hp : prB p = true) (hx : -4611686018427387904 ≤ x ∧ x ≤ 4611686018427387904) (hy : -4611686018427387904 ≤ y ∧ y ≤ 4611686018427387904) (hz : -4611686018427387904 ≤ z ∧ z ≤ 4611686018427387904) :
    Calls Try.prog 61 #[.int .i64 p, .int .i64 x, .int .i64 y, .int .i64 z] w (Ret w (.tuple #[ptV (made p x y z).1.1 (made p x y z).1.2.1 (made p x y z).1.2.2, .bool (made p x y z).2])) := by
  have HC := Lib.hid (fun (g : Nat) (W : World) hc => norm3_any p x y z g W hp hx hy hz hc)
  have HE : made p x y z = if nzB p [x, y, z] then (nrm3 p x y z, true) else ((0, 0, 0), false) := rfl
  have HD : Hid (∀ (w : World) e w', Norm3Post w p x y z e w' → ∃ g cap, e = .returned (.tuple #[.slice (some ⟨g, 0, none⟩) 3 cap, .bool (nzB p [x, y, z])]) ∧ w.heap.size ≤ g ∧ g < w'.heap.size ∧
    w'.cell? ⟨g, 0, none⟩ = some (.int .i64 (nrm3 p x y z).1) ∧ w'.cell? ⟨g, 1, none⟩ = some (.int .i64 (nrm3 p x y z).2.1) ∧ w'.cell? ⟨g, 2, none⟩ = some (.int .i64 (nrm3 p x y z).2.2) ∧ Below w.heap.size w w') := Lib.hid (fun _ _ _ h => h.out)
  clear hp
  generalize nrm3 p x y z = r at *
  obtain ⟨u0, u1, u2⟩ := r
  cases hn : nzB p [x, y, z] with
  | true =>
    rw [hn] at HE HD
    have HM : Hid (made p x y z = ((u0, u1, u2), true)) := Lib.hid HE
    clear HE hn
    go_enter Try.func61, Try.ntmps61
    go_wp2_with (go_at_call 66; refine (HC.out _ _ (new3 _ _ _ _ _ _ (by simp))).mono ?_; intro e w1 hpost; obtain ⟨g, cap, rfl, h1, h2, c0, c1, c2, hb⟩ := HD.out _ _ _ hpost; obtain ⟨hcb, hfb, hlb⟩ := bcell hb; have hsz := hb.size; (try simp at hsz); (try simp at h1); have hl0 : w.heap.size < w1.heap.size := (by omega); have hne : w.heap.size < g := (by omega); have HB := Lib.hid hb; clear hb hpost)
    go_region
    all_goals go_wp2
    have d0 : w1.cell? ⟨w.heap.size, 0, none⟩ = some (.int .i64 0) := by rw [hcb _ _ (by simp; omega)]; simp [go_sem]
    have d1 : w1.cell? ⟨w.heap.size, 1, none⟩ = some (.int .i64 0) := by rw [hcb _ _ (by simp; omega)]; simp [go_sem]
    have d2 : w1.cell? ⟨w.heap.size, 2, none⟩ = some (.int .i64 0) := by rw [hcb _ _ (by simp; omega)]; simp [go_sem]
    obtain ⟨q0, q1, q2⟩ := rd3 (.int .i64 u0) (.int .i64 u1) (.int .i64 u2) d0 d1 d2
    exact bodyPost_ret (v := .tuple #[ptV u0 u1 u2, .bool true]) (by simp [results, Try.results61, go_sem, q0, q1, q2]) rfl ⟨by rw [HM.out], (by repeat (first | exact Below.refl _ _ | refine bset ?_ _ _ (by omega) _ | refine bal ?_ _ | refine bdrN ?_ _ | refine bdr ?_ | refine below_tr' ?_ HB.out))⟩
  | false =>
    rw [hn] at HE HD
    have HM : Hid (made p x y z = ((0, 0, 0), false)) := Lib.hid HE
    clear HE hn
    go_enter Try.func61, Try.ntmps61
    go_wp2_with (go_at_call 66; refine (HC.out _ _ (new3 _ _ _ _ _ _ (by simp))).mono ?_; intro e w1 hpost; obtain ⟨g, cap, rfl, h1, h2, c0, c1, c2, hb⟩ := HD.out _ _ _ hpost; obtain ⟨hcb, hfb, hlb⟩ := bcell hb; have hsz := hb.size; (try simp at hsz); (try simp at h1); have hl0 : w.heap.size < w1.heap.size := (by omega); have hne : w.heap.size < g := (by omega); have HB := Lib.hid hb; clear hb hpost)
    have d0 : w1.cell? ⟨w.heap.size, 0, none⟩ = some (.int .i64 0) := by rw [hcb _ _ (by simp; omega)]; simp [go_sem]
    have d1 : w1.cell? ⟨w.heap.size, 1, none⟩ = some (.int .i64 0) := by rw [hcb _ _ (by simp; omega)]; simp [go_sem]
    have d2 : w1.cell? ⟨w.heap.size, 2, none⟩ = some (.int .i64 0) := by rw [hcb _ _ (by simp; omega)]; simp [go_sem]
    obtain ⟨q0, q1, q2⟩ := rd3 (.int .i64 0) (.int .i64 0) (.int .i64 0) d0 d1 d2
    exact bodyPost_ret (v := .tuple #[ptV 0 0 0, .bool false]) (by simp [results, Try.results61, go_sem, q0, q1, q2]) rfl ⟨by rw [HM.out], (by repeat (first | exact Below.refl _ _ | refine bset ?_ _ _ (by omega) _ | refine bal ?_ _ | refine bdrN ?_ _ | refine bdr ?_ | refine below_tr' ?_ HB.out))⟩
end Go.Proofs.Ytcfilpcjgdbbmaa
/- New slices of points. -/
namespace Go.Proofs.Ytcfilpcjgdbbmaa
open Go.RowKit
set_option linter.unusedVariables false
theorem at1 (w : World) (g : Nat) (x0 y0 z0 : Int) (T : TypeId) (hg : g = w.heap.size) :
    PtsAt (w.alloc (.cells #[.int .i64 x0, .int .i64 y0, .int .i64 z0] T)) g 0 1 [(x0, y0, z0)] := by
  intro i hi
  rw [World.cell?_alloc_at _ _ _ _ hg, World.cell?_alloc_at _ _ _ _ hg, World.cell?_alloc_at _ _ _ _ hg]
  match i, hi with
  | 0, _ => exact ⟨rfl, rfl, rfl⟩
theorem at2 (w : World) (g : Nat) (x0 y0 z0 x1 y1 z1 : Int) (T : TypeId) (hg : g = w.heap.size) :
    PtsAt (w.alloc (.cells #[.int .i64 x0, .int .i64 y0, .int .i64 z0, .int .i64 x1, .int .i64 y1, .int .i64 z1] T)) g 0 2 [(x0, y0, z0), (x1, y1, z1)] := by
  intro i hi
  rw [World.cell?_alloc_at _ _ _ _ hg, World.cell?_alloc_at _ _ _ _ hg, World.cell?_alloc_at _ _ _ _ hg]
  match i, hi with
  | 0, _ => exact ⟨rfl, rfl, rfl⟩
  | 1, _ => exact ⟨rfl, rfl, rfl⟩
theorem at3 (w : World) (g : Nat) (x0 y0 z0 x1 y1 z1 x2 y2 z2 : Int) (T : TypeId) (hg : g = w.heap.size) :
    PtsAt (w.alloc (.cells #[.int .i64 x0, .int .i64 y0, .int .i64 z0, .int .i64 x1, .int .i64 y1, .int .i64 z1, .int .i64 x2, .int .i64 y2, .int .i64 z2] T)) g 0 3 [(x0, y0, z0), (x1, y1, z1), (x2, y2, z2)] := by
  intro i hi
  rw [World.cell?_alloc_at _ _ _ _ hg, World.cell?_alloc_at _ _ _ _ hg, World.cell?_alloc_at _ _ _ _ hg]
  match i, hi with
  | 0, _ => exact ⟨rfl, rfl, rfl⟩
  | 1, _ => exact ⟨rfl, rfl, rfl⟩
  | 2, _ => exact ⟨rfl, rfl, rfl⟩
theorem codeOf_ne {p : Int} {b : Bool} (h : codeOf p b ≠ 0) : (codeOf p b != 0) = true := by simpa using h
end Go.Proofs.Ytcfilpcjgdbbmaa
/- '==' on arrays of three int64. -/
namespace Go.Proofs.Ytcfilpcjgdbbmaa
open Go.RowKit
set_option linter.unusedVariables false
set_option linter.unusedSimpArgs false
theorem eq_arr3 {P : Program} (w : World) (d : Nat) {t e : TypeId} {i : TypeInfo} (hu : P.underlying t = some (.array 3 e)) (hi : P.info? e = some i) (he : P.plainKey e = true) (hk : P.underlying e = some (.int .i64)) (hc : P.cellsOf e = 1) (a0 a1 a2 b0 b1 b2 : Int) :
    (Op.equalIn (d + 1 + 1) t (ptV a0 a1 a2) (ptV b0 b1 b2)).run P w = .ok (a0 == b0 && (a1 == b1 && a2 == b2)) w := by
  have p : ∀ (x y z : Int), (part e #[.int .i64 x, .int .i64 y, .int .i64 z] 0).run P w = .ok (.int .i64 x) w ∧ (part e #[.int .i64 x, .int .i64 y, .int .i64 z] 1).run P w = .ok (.int .i64 y) w ∧ (part e #[.int .i64 x, .int .i64 y, .int .i64 z] 2).run P w = .ok (.int .i64 z) w :=
    fun x y z => ⟨run_part_plain w he rfl, run_part_plain w he rfl, run_part_plain w he rfl⟩
  rw [run_equalIn_array w (d + 1) _ _ hu hi, hc]
  simp only [List.range_succ_eq_map, List.range_zero, List.map_cons, List.map_nil, Op.eqItems, Nat.mul_one, Nat.succ_eq_add_one, Nat.zero_add, Nat.reduceAdd, Sem.run_bind, (p a0 a1 a2).1, (p b0 b1 b2).1, (p a0 a1 a2).2.1, (p b0 b1 b2).2.1, (p a0 a1 a2).2.2, (p b0 b1 b2).2.2, Result.andThen_ok, run_equalIn_int w d e .i64 .i64 _ _ hk]
  cases (a0 == b0) <;> cases h1 : (a1 == b1) <;> cases h2 : (a2 == b2) <;> simp [p, run_equalIn_int w d e .i64 .i64 _ _ hk, h1, h2]
theorem eqA24 (w : World) (a0 a1 a2 b0 b1 b2 : Int) : (Op.equalIn 10000 35 (ptV a0 a1 a2) (ptV b0 b1 b2)).run Try.prog w = .ok (a0 == b0 && (a1 == b1 && a2 == b2)) w :=
  eq_arr3 (i := Try.t2) w 9998 Try.underlying35 (by kernel_rfl) (by kernel_rfl) Try.underlying2 (by kernel_rfl) _ _ _ _ _ _
/-- Whether two points are the same, number by number. -/
def eqP (a b : Pt) : Bool := a.1 == b.1 && (a.2.1 == b.2.1 && a.2.2 == b.2.2)
theorem eqP_iff {a b : Pt} : eqP a b = true ↔ a = b := by
  obtain ⟨a0, a1, a2⟩ := a
  obtain ⟨b0, b1, b2⟩ := b
  simp [eqP]
@[go_sem high] theorem eqLn (w : World) (a0 a1 a2 b0 b1 b2 : Int) : (binOp .eql 35 (ptV a0 a1 a2) (ptV b0 b1 b2)).run Try.prog w = .ok (.bool (eqP (a0, a1, a2) (b0, b1, b2))) w := by
  rw [run_eql_struct, eqA24]; rfl
theorem eqAPt (w : World) (a0 a1 a2 b0 b1 b2 : Int) : (Op.equalIn 10000 45 (ptV a0 a1 a2) (ptV b0 b1 b2)).run Try.prog w = .ok (a0 == b0 && (a1 == b1 && a2 == b2)) w :=
  eq_arr3 (i := Try.t2) w 9998 Try.underlying45 (by kernel_rfl) (by kernel_rfl) Try.underlying2 (by kernel_rfl) _ _ _ _ _ _
@[go_sem high] theorem eqPo (w : World) (a0 a1 a2 b0 b1 b2 : Int) : (binOp .eql 45 (ptV a0 a1 a2) (ptV b0 b1 b2)).run Try.prog w = .ok (.bool (eqP (a0, a1, a2) (b0, b1, b2))) w := by
  rw [run_eql_struct, eqAPt]; rfl
@[go_sem high] theorem nePo (w : World) (a0 a1 a2 b0 b1 b2 : Int) : (binOp .neq 45 (ptV a0 a1 a2) (ptV b0 b1 b2)).run Try.prog w = .ok (.bool (!eqP (a0, a1, a2) (b0, b1, b2))) w := by
  rw [run_neq_struct, eqAPt]; rfl
end Go.Proofs.Ytcfilpcjgdbbmaa
/- Contracts: crossing of lines in the reference; far lines. -/
namespace Go.Proofs.Ytcfilpcjgdbbmaa
open Go.RowKit
set_option linter.unusedVariables false
set_option linter.unusedSimpArgs false
theorem crs_bd {p a0 a1 a2 b0 b1 b2 : Int} (ha : In13 (a0, a1, a2)) (hb : In13 (b0, b1, b2)) :
    ((0 ≤ a1 * b2 ∧ a1 * b2 ≤ 144) ∧ (0 ≤ a2 * b1 ∧ a2 * b1 ≤ 144)) ∧ ((0 ≤ a2 * b0 ∧ a2 * b0 ≤ 144) ∧ (0 ≤ a0 * b2 ∧ a0 * b2 ≤ 144)) ∧ ((0 ≤ a0 * b1 ∧ a0 * b1 ≤ 144) ∧ (0 ≤ a1 * b0 ∧ a1 * b0 ≤ 144)) := by
  obtain ⟨⟨p0, p1⟩, ⟨p2, p3⟩, ⟨p4, p5⟩⟩ := ha
  obtain ⟨⟨q0, q1⟩, ⟨q2, q3⟩, ⟨q4, q5⟩⟩ := hb
  exact ⟨⟨mul_bd p2 p3 q4 q5, mul_bd p4 p5 q2 q3⟩, ⟨mul_bd p4 p5 q0 q1, mul_bd p0 p1 q4 q5⟩, mul_bd p0 p1 q2 q3, mul_bd p2 p3 q0 q1⟩
/-- The reference's crossing: the point, and whether there is one. -/
def madeC (p : Int) (a b : Pt) : Pt × Bool := made p (crs a b).1 (crs a b).2.1 (crs a b).2.2
set_option maxHeartbeats 1000000 in
theorem l01Cross_any (p a0 a1 a2 b0 b1 b2 : Int) (w : World) (hp : prB p = true) (ha : In13 (a0, a1, a2)) (hb : In13 (b0, b1, b2)) :
    Calls Try.prog 50 #[.int .i64 p, ptV a0 a1 a2, ptV b0 b1 b2] w (Ret w (.tuple #[ptV (madeC p (a0, a1, a2) (b0, b1, b2)).1.1 (madeC p (a0, a1, a2) (b0, b1, b2)).1.2.1 (madeC p (a0, a1, a2) (b0, b1, b2)).1.2.2, .bool (madeC p (a0, a1, a2) (b0, b1, b2)).2])) := by
  obtain ⟨⟨⟨m1, n1⟩, m2, n2⟩, ⟨⟨m3, n3⟩, m4, n4⟩, ⟨m5, n5⟩, m6, n6⟩ := crs_bd (p := p) ha hb
  have HC := Lib.hid (fun (W : World) => l01Made_any p (a1 * b2 - a2 * b1) (a2 * b0 - a0 * b2) (a0 * b1 - a1 * b0) W hp (by omega) (by omega) (by omega))
  have HE : Hid (madeC p (a0, a1, a2) (b0, b1, b2) = made p (a1 * b2 - a2 * b1) (a2 * b0 - a0 * b2) (a0 * b1 - a1 * b0)) := Lib.hid rfl
  clear hp ha hb
  generalize made p (a1 * b2 - a2 * b1) (a2 * b0 - a0 * b2) (a0 * b1 - a1 * b0) = r at *
  obtain ⟨⟨u0, u1, u2⟩, c⟩ := r
  rw [HE.out]
  go_enter Try.func50, Try.ntmps50
  go_wp2_with (go_at_call 61; refine (HC.out _).mono ?_; rintro e w_ ⟨rfl, hb⟩; obtain ⟨hcb, hfb, hlb⟩ := bcell hb; have hsz := hb.size; try simp at hsz; have HB := Lib.hid hb; clear hb; try (have hl0 : w.heap.size < w_.heap.size := by omega); try (have hl1 : w.heap.size + 1 < w_.heap.size := by omega); try (have hl2 : w.heap.size + 1 + 1 < w_.heap.size := by omega))
  exact bodyPost_ret (v := .tuple #[ptV u0 u1 u2, .bool c]) (by simp [results, Try.results50, go_sem, hcb, hl0, hl1, hl2]) rfl ⟨rfl, (by repeat (first | exact Below.refl _ _ | refine bset ?_ _ _ (by omega) _ | refine bal ?_ _ | refine bdrN ?_ _ | refine bdr ?_ | refine below_tr' ?_ HB.out))⟩
theorem l01Meet_any (p a0 a1 a2 b0 b1 b2 : Int) (w : World) (hp : prB p = true) (ha : In13 (a0, a1, a2)) (hb : In13 (b0, b1, b2)) :
    Calls Try.prog 31 #[.int .i64 p, ptV a0 a1 a2, ptV b0 b1 b2] w (Ret w (.tuple #[ptV (madeC p (a0, a1, a2) (b0, b1, b2)).1.1 (madeC p (a0, a1, a2) (b0, b1, b2)).1.2.1 (madeC p (a0, a1, a2) (b0, b1, b2)).1.2.2, .bool (madeC p (a0, a1, a2) (b0, b1, b2)).2])) := by
  have HC := Lib.hid (fun (W : World) => l01Cross_any p a0 a1 a2 b0 b1 b2 W hp ha hb)
  generalize madeC p (a0, a1, a2) (b0, b1, b2) = r at *
  obtain ⟨⟨u0, u1, u2⟩, c⟩ := r
  clear hp ha hb
  go_enter Try.func31, Try.ntmps31
  go_wp2_with (go_at_call 50; refine (HC.out _).mono ?_; rintro e w_ ⟨rfl, hb⟩; obtain ⟨hcb, hfb, hlb⟩ := bcell hb; have hsz := hb.size; try simp at hsz; have HB := Lib.hid hb; clear hb; try (have hl0 : w.heap.size < w_.heap.size := by omega); try (have hl1 : w.heap.size + 1 < w_.heap.size := by omega); try (have hl2 : w.heap.size + 1 + 1 < w_.heap.size := by omega))
  exact bodyPost_ret (v := .tuple #[ptV u0 u1 u2, .bool c]) (by simp [results, Try.results31, go_sem, hcb, hl0, hl1, hl2]) rfl ⟨rfl, (by repeat (first | exact Below.refl _ _ | refine bset ?_ _ _ (by omega) _ | refine bal ?_ _ | refine bdrN ?_ _ | refine bdr ?_ | refine below_tr' ?_ HB.out))⟩
def farB (a : Pt) : Bool := eqP a (1, 0, 0)
end Go.Proofs.Ytcfilpcjgdbbmaa
