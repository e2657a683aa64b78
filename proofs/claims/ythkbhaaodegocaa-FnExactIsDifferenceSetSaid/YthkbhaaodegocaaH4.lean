/- Contracts: whether a list is a set of numbers: the program. -/
import Derived.Test.YthkbhaaodegocaaH3
namespace Go.Proofs.Ythkbhaaodegocaa
open Go.RowKit
set_option linter.unusedVariables false
set_option linter.unusedSimpArgs false
theorem within_b (n a b : Int) (v : Bool) (w : World) (h : decide (a ≤ n ∧ n ≤ b) = v) : Calls Try.prog 126 #[.int .i64 n, .int .i64 a, .int .i64 b] w fun e w' => e = .returned (.bool v) ∧ w = w' := by
  cases v with
  | true =>
    have h2 : a ≤ n ∧ n ≤ b := by simpa using h
    exact within_yes n a b w h2.1 h2.2
  | false =>
    have h2 : ¬ (a ≤ n ∧ n ≤ b) := by simpa using h
    exact within_no n a b w (by omega)
set_option maxHeartbeats 2000000 in
theorem isNumberSet_bad (n : Int) (b : Option Addr) (k cap : Nat) (l : List Int) (w : World) (hk : k ≤ 1000000) (hc : ArgI w b k l) (hn : n < 2 ∨ 1000 < n) :
    Calls Try.prog 64 #[.int .i64 n, .slice b k cap] w (Ret w (.bool false)) := by
  have HC := Lib.hid hc
  clear hc
  go_enter Try.func64, Try.ntmps64
  go_wp2
  go_loop [9] (fun i => ∃ j : Nat, j ≤ k ∧ i = .int .i64 j) (fun i => k - (intOf i).toNat)
  case atStart => exact ⟨0, Nat.zero_le _, rfl⟩
  case round =>
    obtain ⟨j, hj, rfl⟩ := hrel
    by_cases hlt : j < k
    · obtain ⟨g, off, rfl, hp⟩ := HC.out (by omega)
      have c0 := hp j hlt
      have c1 := fun h : 0 < j => hp (j - 1) (by omega)
      generalize l.getD j 0 = x at c0
      generalize l.getD (j - 1) 0 = y at c1
      clear hp
      by_cases hj0 : j = 0
      · subst hj0
        simp only [Nat.add_zero] at c0
        clear c1
        go_wp2_with (go_at_call 126; refine (within_b _ _ _ _ _ rfl).mono ?_; rintro e w' ⟨rfl, rfl⟩)
        all_goals first
          | (go_round
             case rel => exact ⟨1, by omega, rfl⟩
             case measure => simp [intOf]; omega)
          | (go_ret; exact ⟨rfl, Below.refl _ _⟩)
      · obtain ⟨i, rfl⟩ : ∃ i, j = i + 1 := ⟨j - 1, by omega⟩
        have c1 := c1 (by omega)
        simp only [Nat.add_sub_cancel] at c1
        have hik : i < k := by omega
        have hip : (0 : Int) < (i : Int) + 1 := by omega
        go_wp2_with (go_at_call 126; refine (within_b _ _ _ _ _ rfl).mono ?_; rintro e w' ⟨rfl, rfl⟩)
        all_goals first
          | (go_round
             case rel => exact ⟨i + 1 + 1, by omega, by go_num⟩
             case measure => simp [intOf]; omega)
          | (go_ret; exact ⟨rfl, Below.refl _ _⟩)
    · have hjk : j = k := by omega
      go_wp2_with (go_at_call 126; refine (within_no _ _ _ _ hn).mono ?_; rintro e w' ⟨rfl, rfl⟩)
      go_ret
      exact ⟨rfl, Below.refl _ _⟩

theorem setB_bad {n : Int} {l : List Int} (h : okB n l = false) : setB n l = false := by unfold setB; rw [h]; simp
theorem setB_end {n : Int} {l : List Int} {k : Nat} (h1 : 2 ≤ n) (h2 : n ≤ 1000) (hl : l.length = k) (h : okB n l = true) : setB n l = decide (k ≤ 60) := by
  unfold setB
  have e1 : decide (2 ≤ n ∧ n ≤ 1000) = true := by simp; omega
  rw [e1, h, hl]; simp
set_option maxHeartbeats 2000000 in
theorem isNumberSet_good (n : Int) (b : Option Addr) (k cap : Nat) (l : List Int) (w : World) (hl : l.length = k) (hk : k ≤ 1000000) (hc : ArgI w b k l) (n2 : 2 ≤ n) (n1000 : n ≤ 1000) :
    Calls Try.prog 64 #[.int .i64 n, .slice b k cap] w (Ret w (.bool (setB n l))) := by
  have HC := Lib.hid hc
  have HL := Lib.hid hl
  clear hc hl
  go_enter Try.func64, Try.ntmps64
  go_wp2
  go_loop [9] (fun i => ∃ j : Nat, j ≤ k ∧ i = .int .i64 j ∧ Hid (∀ q, q < j → okI n l q = true)) (fun i => k - (intOf i).toNat)
  case atStart => exact ⟨0, Nat.zero_le _, rfl, Lib.hid (fun q hq => absurd hq (Nat.not_lt_zero _))⟩
  case round =>
    obtain ⟨j, hj, rfl, HD⟩ := hrel
    by_cases hlt : j < k
    · obtain ⟨g, off, rfl, hp⟩ := HC.out (by omega)
      have c0 := hp j hlt
      have c1 := fun h : 0 < j => hp (j - 1) (by omega)
      generalize hx : l.getD j 0 = x at c0
      generalize hy : l.getD (j - 1) 0 = y at c1
      have HX := Lib.hid hx
      have HY := Lib.hid hy
      have hjl : j < l.length := by have := HL.out; omega
      have HNo := Lib.hid (fun h : okI n l j = false => setB_bad (okB_bad hjl h))
      have HYes : Hid (okI n l j = true → ∀ q, q < j + 1 → okI n l q = true) := Lib.hid (fun h q hq => by
        rcases Nat.lt_or_ge q j with h2 | h2
        · exact HD.out q h2
        · rw [show q = j by omega]; exact h)
      clear hx hy hp hjl
      by_cases hr' : 0 ≤ x ∧ x ≤ n - 1
      · obtain ⟨r0, r1⟩ := hr'
        by_cases hj0 : j = 0
        · subst hj0
          simp only [Nat.add_zero] at c0
          have HY2 := Lib.hid (HYes.out (okI_zero HX.out r0 r1))
          clear c1 HYes HNo
          go_wp2_with (go_at_call 126; refine (within_yes _ _ _ _ r0 r1).mono ?_; rintro e w' ⟨rfl, rfl⟩)
          go_round
          case rel => exact ⟨1, by omega, rfl, HY2⟩
          case measure => simp [intOf]; omega
        · obtain ⟨i, rfl⟩ : ∃ i, j = i + 1 := ⟨j - 1, by omega⟩
          have c1' := c1 (by omega)
          simp only [Nat.add_sub_cancel] at c1'
          have hik : i < k := by omega
          have hip : (0 : Int) < (i : Int) + 1 := by omega
          clear c1
          by_cases hyx : y < x
          · have HY2 := Lib.hid (HYes.out (by rw [okI_pos (by omega) HX.out HY.out r0 r1]; simpa using hyx))
            have hle : ¬ x ≤ y := by omega
            clear HYes HNo
            go_wp2_with (go_at_call 126; refine (within_yes _ _ _ _ r0 r1).mono ?_; rintro e w' ⟨rfl, rfl⟩)
            go_round
            case rel => exact ⟨i + 1 + 1, by omega, by go_num, HY2⟩
            case measure => simp [intOf]; omega
          · have HY2 := Lib.hid (HNo.out (by rw [okI_pos (by omega) HX.out HY.out r0 r1]; simpa using hyx))
            have hle : x ≤ y := by omega
            clear HYes HNo
            go_wp2_with (go_at_call 126; refine (within_yes _ _ _ _ r0 r1).mono ?_; rintro e w' ⟨rfl, rfl⟩)
            go_ret
            exact ⟨ret_bool HY2.out.symm, Below.refl _ _⟩
      · have hr : x < 0 ∨ n - 1 < x := by omega
        have HY2 := Lib.hid (HNo.out (okI_out HX.out hr))
        clear c1 HYes HNo
        go_wp2_with (go_at_call 126; refine (within_no _ _ _ _ hr).mono ?_; rintro e w' ⟨rfl, rfl⟩)
        go_ret
        exact ⟨ret_bool HY2.out.symm, Below.refl _ _⟩
    · have hjk : j = k := by omega
      have HY2 := Lib.hid (setB_end n2 n1000 HL.out (okB_all (fun i hi => HD.out i (by have := HL.out; omega))))
      by_cases h60 : k ≤ 60
      · have h60z : (k : Int) ≤ 60 := by omega
        go_wp2_with (go_at_call 126; refine (within_yes _ _ _ _ n2 n1000).mono ?_; rintro e w' ⟨rfl, rfl⟩)
        go_ret
        exact ⟨ret_bool (by rw [HY2.out]; simp; omega), Below.refl _ _⟩
      · have h60z : ¬ (k : Int) ≤ 60 := by omega
        go_wp2_with (go_at_call 126; refine (within_yes _ _ _ _ n2 n1000).mono ?_; rintro e w' ⟨rfl, rfl⟩)
        go_ret
        exact ⟨ret_bool (by rw [HY2.out]; simp; omega), Below.refl _ _⟩
theorem isNumberSet_any (n : Int) (b : Option Addr) (k cap : Nat) (l : List Int) (w : World) (hl : l.length = k) (hk : k ≤ 1000000) (hc : ArgI w b k l) :
    Calls Try.prog 64 #[.int .i64 n, .slice b k cap] w (Ret w (.bool (setB n l))) := by
  by_cases hn : n < 2 ∨ 1000 < n
  · rw [setB_n hn]; exact isNumberSet_bad n b k cap l w hk hc hn
  · exact isNumberSet_good n b k cap l w hl hk hc (by omega) (by omega)
end Go.Proofs.Ythkbhaaodegocaa
