/- Contracts: primes, numbers, normal lists, points. -/
import Derived.Test.YthkbhaaodegocaaBase
import Derived.Test.YthkbhaaodegocaaPlain
namespace Go.Proofs.Ythkbhaaodegocaa
open Go.RowKit
set_option linter.unusedVariables false
set_option linter.unusedSimpArgs false

theorem isPrime_yes (p : Int) (w : World) (h : prB p = true) : Calls Try.prog 73 #[.int .i64 p] w fun e w' => e = .returned (.bool true) ∧ w = w' := by
  rcases prB_cases h with rfl | rfl | rfl | rfl | rfl
  all_goals
    go_enter Try.func73, Try.ntmps73
    go_wp2
    go_ret
    exact ⟨rfl, rfl⟩
theorem isPrime_no (p : Int) (w : World) (h : prB p = false) : Calls Try.prog 73 #[.int .i64 p] w fun e w' => e = .returned (.bool false) ∧ w = w' := by
  have h3 : (p == 3) = false := by revert h; unfold prB; cases (p == 3) <;> simp
  have h5 : (p == 5) = false := by revert h; unfold prB; cases (p == 5) <;> simp
  have h7 : (p == 7) = false := by revert h; unfold prB; cases (p == 7) <;> simp
  have h11 : (p == 11) = false := by revert h; unfold prB; cases (p == 11) <;> simp
  have h13 : (p == 13) = false := by revert h; unfold prB; cases (p == 13) <;> simp
  clear h
  go_enter Try.func73, Try.ntmps73
  go_wp2
  go_ret
  exact ⟨rfl, rfl⟩
theorem l01Prime_yes (p : Int) (w : World) (h : prB p = true) : Calls Try.prog 68 #[.int .i64 p] w fun e w' => e = .returned (.bool true) ∧ w = w' := by
  rcases prB_cases h with rfl | rfl | rfl | rfl | rfl
  all_goals
    go_enter Try.func68, Try.ntmps68
    go_wp2
    go_ret
    exact ⟨rfl, rfl⟩
theorem l01Prime_no (p : Int) (w : World) (h : prB p = false) : Calls Try.prog 68 #[.int .i64 p] w fun e w' => e = .returned (.bool false) ∧ w = w' := by
  have h3 : (p == 3) = false := by revert h; unfold prB; cases (p == 3) <;> simp
  have h5 : (p == 5) = false := by revert h; unfold prB; cases (p == 5) <;> simp
  have h7 : (p == 7) = false := by revert h; unfold prB; cases (p == 7) <;> simp
  have h11 : (p == 11) = false := by revert h; unfold prB; cases (p == 11) <;> simp
  have h13 : (p == 13) = false := by revert h; unfold prB; cases (p == 13) <;> simp
  clear h
  go_enter Try.func68, Try.ntmps68
  go_wp2
  go_ret
  exact ⟨rfl, rfl⟩
/-- (n % p + p) % p. -/
theorem mod_any (n p : Int) (w : World) (hp : 0 < p) (hp' : p ≤ 1000) (hn : -4611686018427387904 ≤ n) (hn' : n ≤ 4611686018427387904) :
    Calls Try.prog 65 #[.int .i64 n, .int .i64 p] w fun e w' => e = .returned (.int .i64 (n % p)) ∧ w = w' := by
  have hb := tmod_lo n p hp
  have e : IntKind.i64.wrap (n.tmod p + p) = n.tmod p + p := IntWalk.i64_in _ (by omega)
  go_enter Try.func65, Try.ntmps65
  go_wp2
  go_ret
  exact ⟨ret_int (mod_is' n p hp), rfl⟩
theorem within_yes (n a b : Int) (w : World) (h : a ≤ n) (h' : n ≤ b) : Calls Try.prog 126 #[.int .i64 n, .int .i64 a, .int .i64 b] w fun e w' => e = .returned (.bool true) ∧ w = w' := by
  go_enter Try.func126, Try.ntmps126
  go_wp2
  go_ret
  exact ⟨rfl, rfl⟩
theorem within_no (n a b : Int) (w : World) (h : n < a ∨ b < n) : Calls Try.prog 126 #[.int .i64 n, .int .i64 a, .int .i64 b] w fun e w' => e = .returned (.bool false) ∧ w = w' := by
  by_cases h1 : n < a
  · clear h
    go_enter Try.func126, Try.ntmps126
    go_wp2
    go_ret
    exact ⟨rfl, rfl⟩
  · have h2 : b < n := by omega
    have h3 : a ≤ n := by omega
    clear h h1
    go_enter Try.func126, Try.ntmps126
    go_wp2
    go_ret
    exact ⟨ret_bool (by simp; omega), rfl⟩
theorem areNumbers_any (p : Int) (b o n cap : Nat) (l : List Int) (w : World) (hp : 3 ≤ p) (hp' : p ≤ 13) (hl : l.length = n) (hn : n ≤ 4611686018427387904)
    (hc : ∀ i, i < n → w.cell? ⟨b, o + i, none⟩ = some (.int .i64 (l.getD i 0))) :
    Calls Try.prog 164 #[.int .i64 p, .slice (some ⟨b, o, none⟩) n cap] w fun e w' => e = .returned (.bool (numsB p l)) ∧ w = w' := by
  have HL := Lib.hid hl; clear hl
  have HC := Lib.hid hc; clear hc
  go_enter Try.func164, Try.ntmps164
  go_wp2
  go_loop [9] (fun i => ∃ k : Nat, k ≤ n ∧ i = .int .i64 k ∧ numsB p (l.take k) = true) (fun i => n - (intOf i).toNat)
  case atStart => exact ⟨0, Nat.zero_le _, rfl, rfl⟩
  case round =>
    obtain ⟨k, hk, rfl, hd⟩ := hrel
    have HD := Lib.hid hd; clear hd
    by_cases hlt : k < n
    · have hcell := HC.out k hlt
      have HS := Lib.hid (take_snoc' l 0 k (by have := HL.out; omega))
      generalize hx : l.getD k 0 = x at *
      have HX := Lib.hid hx; clear hx
      by_cases hr : 0 ≤ x ∧ x ≤ p - 1
      · obtain ⟨h0, h1⟩ := hr
        go_wp2_with (go_at_call 126; refine (within_yes _ _ _ _ h0 h1).mono ?_; rintro e w' ⟨rfl, rfl⟩)
        go_round
        case rel => exact ⟨k + 1, by omega, by go_num, by rw [HS.out, numsB_snoc, HD.out]; simp [numB, h0, h1]⟩
        case measure => simp [intOf]; omega
      · have hr' : x < 0 ∨ p - 1 < x := by omega
        go_wp2_with (go_at_call 126; refine (within_no _ _ _ _ hr').mono ?_; rintro e w' ⟨rfl, rfl⟩)
        go_ret
        exact ⟨ret_bool (numsB_false (k := k) (by have := HL.out; omega) (by rw [HX.out]; unfold numB; simp; omega)).symm, rfl⟩
    · go_wp2
      go_ret
      refine ⟨ret_bool ?_, rfl⟩
      have := HD.out
      rw [List.take_of_length_le (by have := HL.out; omega)] at this
      exact this.symm

theorem isNormal_any (p : Int) (b o n cap : Nat) (l : List Int) (w : World) (hp : 3 ≤ p) (hp' : p ≤ 13) (hl : l.length = n) (hn : n ≤ 4611686018427387904)
    (hc : ∀ i, i < n → w.cell? ⟨b, o + i, none⟩ = some (.int .i64 (l.getD i 0))) :
    Calls Try.prog 134 #[.int .i64 p, .slice (some ⟨b, o, none⟩) n cap] w fun e w' => e = .returned (.bool (normB p l)) ∧ w = w' := by
  have HL := Lib.hid hl; clear hl
  have HC := Lib.hid hc; clear hc
  go_enter Try.func134, Try.ntmps134
  go_wp2
  go_loop [9] (fun i => ∃ k : Nat, k ≤ n ∧ i = .int .i64 k ∧ zerosB (l.take k) = true) (fun i => n - (intOf i).toNat)
  case atStart => exact ⟨0, Nat.zero_le _, rfl, rfl⟩
  case round =>
    obtain ⟨k, hk, rfl, hd⟩ := hrel
    have HD := Lib.hid hd; clear hd
    by_cases hlt : k < n
    · have hcell := HC.out k hlt
      have HS := Lib.hid (take_snoc' l 0 k (by have := HL.out; omega))
      have HF := Lib.hid (fun h => firstNZ_at HD.out (by have := HL.out; omega) (h : l.getD k 0 ≠ 0))
      generalize l.getD k 0 = x at *
      by_cases hr : x = 0
      · have hx : (x != 0) = false := by simp [hr]
        go_wp2
        go_round
        case rel => exact ⟨k + 1, by omega, by go_num, by rw [HS.out, zerosB_snoc, HD.out]; simp [hr]⟩
        case measure => simp [intOf]; omega
      · have hx : (x != 0) = true := by simp [hr]
        by_cases h1 : x = 1
        · have hx1 : (x == 1) = true := by simp [h1]
          have HF1 := Lib.hid (show firstNZ l = 1 by rw [HF.out hr, h1])
          clear HF h1 hr
          go_wp2_with (go_at_call 164; refine (areNumbers_any p b o n cap l _ hp hp' HL.out hn HC.out).mono ?_; rintro e w' ⟨rfl, rfl⟩)
          go_ret
          exact ⟨ret_bool (by unfold normB; rw [HF1.out]; rfl), rfl⟩
        · have hx1 : (x == 1) = false := by simp [h1]
          have HF1 := Lib.hid (show (firstNZ l == 1) = false by rw [HF.out hr]; exact hx1)
          clear HF h1 hr
          go_wp2
          go_ret
          exact ⟨ret_bool (by unfold normB; rw [HF1.out]; rfl), rfl⟩
    · go_wp2
      go_ret
      refine ⟨ret_bool ?_, rfl⟩
      have h := HD.out
      rw [List.take_of_length_le (by have := HL.out; omega)] at h
      unfold normB; rw [firstNZ_zeros h]; rfl

theorem l01In_yes (n a b : Int) (w : World) (h : a ≤ n) (h' : n ≤ b) : Calls Try.prog 125 #[.int .i64 n, .int .i64 a, .int .i64 b] w fun e w' => e = .returned (.bool true) ∧ w = w' := by
  go_enter Try.func125, Try.ntmps125
  go_wp2
  go_ret
  exact ⟨rfl, rfl⟩
theorem l01In_no (n a b : Int) (w : World) (h : n < a ∨ b < n) : Calls Try.prog 125 #[.int .i64 n, .int .i64 a, .int .i64 b] w fun e w' => e = .returned (.bool false) ∧ w = w' := by
  by_cases h1 : n < a
  · clear h
    go_enter Try.func125, Try.ntmps125
    go_wp2
    go_ret
    exact ⟨rfl, rfl⟩
  · have h2 : b < n := by omega
    have h3 : a ≤ n := by omega
    clear h h1
    go_enter Try.func125, Try.ntmps125
    go_wp2
    go_ret
    exact ⟨ret_bool (by simp; omega), rfl⟩
theorem l01Normal_any (p : Int) (b o n cap : Nat) (l : List Int) (w : World) (hp : 3 ≤ p) (hp' : p ≤ 13) (hl : l.length = n) (hn : n ≤ 4611686018427387904)
    (hc : ∀ i, i < n → w.cell? ⟨b, o + i, none⟩ = some (.int .i64 (l.getD i 0))) :
    Calls Try.prog 160 #[.int .i64 p, .slice (some ⟨b, o, none⟩) n cap] w fun e w' => e = .returned (.bool (normB p l)) ∧ w = w' := by
  have HL := Lib.hid hl; clear hl
  have HC := Lib.hid hc; clear hc
  go_enter Try.func160, Try.ntmps160
  go_wp2
  go_loop [5, 6] (fun f i => ∃ k : Nat, k ≤ n ∧ i = .int .i64 k ∧ f = .int .i64 (firstNZ (l.take k)) ∧ numsB p (l.take k) = true) (fun _ i => n - (intOf i).toNat)
  case atStart => exact ⟨0, Nat.zero_le _, rfl, rfl, rfl⟩
  case round =>
    obtain ⟨k, hk, rfl, rfl, hd⟩ := hrel
    have HD := Lib.hid hd; clear hd
    by_cases hlt : k < n
    · have hcell := HC.out k hlt
      have HS := Lib.hid (take_snoc' l 0 k (by have := HL.out; omega))
      have HF := Lib.hid (fun h => numsB_false (p := p) (k := k) (by have := HL.out; omega) (h : numB p (l.getD k 0) = false))
      have HN := Lib.hid (firstNZ_snoc (l.take k) (l.getD k 0))
      generalize l.getD k 0 = x at *
      have HFn : Hid (firstNZ (l.take (k + 1)) = if firstNZ (l.take k) = 0 then x else firstNZ (l.take k)) := Lib.hid (by rw [HS.out]; exact HN.out)
      clear HN
      have HT : Hid (numsB p (l.take (k + 1)) = (numsB p (l.take k) && numB p x)) := Lib.hid (by rw [HS.out]; exact numsB_snoc _ _ _)
      clear HS
      generalize firstNZ (l.take k) = f at *
      by_cases hr : 0 ≤ x ∧ x ≤ p - 1
      · obtain ⟨h0, h1⟩ := hr
        by_cases hf : f = 0
        · have hf' : (f == 0) = true := by simp [hf]
          go_wp2_with (go_at_call 125; refine (l01In_yes _ _ _ _ h0 h1).mono ?_; rintro e w' ⟨rfl, rfl⟩)
          go_round
          case rel => exact ⟨k + 1, by omega, by go_num, by rw [HFn.out, if_pos hf], by rw [HT.out, HD.out]; simp [numB, h0, h1]⟩
          case measure => simp [intOf]; omega
        · have hf' : (f == 0) = false := by simp [hf]
          go_wp2_with (go_at_call 125; refine (l01In_yes _ _ _ _ h0 h1).mono ?_; rintro e w' ⟨rfl, rfl⟩)
          go_round
          case rel => exact ⟨k + 1, by omega, by go_num, by rw [HFn.out, if_neg hf], by rw [HT.out, HD.out]; simp [numB, h0, h1]⟩
          case measure => simp [intOf]; omega
      · have hr' : x < 0 ∨ p - 1 < x := by omega
        go_wp2_with (go_at_call 125; refine (l01In_no _ _ _ _ hr').mono ?_; rintro e w' ⟨rfl, rfl⟩)
        go_ret
        exact ⟨ret_bool (by unfold normB; rw [HF.out (by unfold numB; simp; omega)]; simp), rfl⟩
    · have HE : Hid (l.take k = l) := Lib.hid (List.take_of_length_le (by have := HL.out; omega))
      go_wp2
      go_ret
      refine ⟨ret_bool ?_, rfl⟩
      have h := HD.out
      rw [HE.out] at h
      unfold normB; rw [h, HE.out]; simp
end Go.Proofs.Ythkbhaaodegocaa
