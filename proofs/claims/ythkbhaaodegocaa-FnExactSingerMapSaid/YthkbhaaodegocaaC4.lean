/- Contracts: all points of a plane: the program. -/
import Derived.Test.YthkbhaaodegocaaC3
namespace Go.Proofs.Ythkbhaaodegocaa
open Go.RowKit
set_option linter.unusedVariables false
set_option linter.unusedSimpArgs false
set_option maxHeartbeats 1600000 in
theorem allPoints_any (n : Nat) (w : World) (hn : 3 ≤ n ∧ n ≤ 13) :
    Calls Try.prog 74 #[.int .i64 (n : Int)] w (PtsPost w (allP n)) := by
  obtain ⟨n3, n13⟩ := hn
  obtain ⟨i0, hi, hz0, hz1, hz2⟩ := info_parts infoPo
  have HI0 := Lib.hid hi; have HZ0 := Lib.hid hz0; have HZ1 := Lib.hid hz1; have HZ2 := Lib.hid hz2
  clear hi hz0 hz1 hz2
  go_enter Try.func74, Try.ntmps74
  go_wp2
  go_loopw [3, 10] (fun v i wr => ∃ k : Nat, k ≤ n ∧ i = .int .i64 k ∧ Hid (wr.ownsRow w.heap.size 23 3 v (k + 1) (ptCs (pA k))) ∧ Hid (Below w.heap.size w wr)) (fun _ i wr => n - (intOf i).toNat)
  case atStart =>
    refine ⟨0, Nat.zero_le _, rfl, Lib.hid ?_, Lib.hid (by repeat (first | exact Below.refl _ _ | refine bset ?_ _ _ (by omega) _ | refine bal ?_ _ | refine bdrN ?_ _ | refine bdr ?_))⟩
    refine ⟨rfl, .inr ⟨w.heap.size, 1, #[.int .i64 0, .int .i64 0, .int .i64 1], rfl, Nat.le_refl _, heap_alloc_new _ _, Nat.le_refl _, by unfold maxLen; omega, rfl, rfl⟩⟩
  case round =>
    obtain ⟨k, hk, rfl, HO, HB⟩ := hrel
    by_cases hlt : k < n
    · have HN := Lib.hid (pA_succ k)
      go_wp2_with (at_builtin; refine wpList_append_own _ rfl _ _ 52 rfl w.heap.size 23 i0 (.agg #[.int .i64 0, .int .i64 0, .int .i64 0]) 3 24 Try.underlying52 HI0.out HZ0.out HZ1.out HZ2.out rfl (by decide) _ _ _ rfl (HO.out.alloc _) ⟨wr.heap.size, 0, none⟩ 1 1 [.int .i64 0, .int .i64 1, .int .i64 (k : Int)] rfl rfl (newP _ _ _ _ _) (oneP _ _ _) (by unfold maxLen; omega) (by omega) (by have := HB.out.size; simp; omega) ?_; intro v2 w2 hown hgrow _; have HO2 := Lib.hid hown; have HG := Lib.hid hgrow; clear hown hgrow)
      go_roundw
      case rel => exact ⟨k + 1, by omega, by go_num, Lib.hid (by rw [HN.out, ptCs_snoc]; exact HO2.out), Lib.hid ((bal HB.out _).grown HG.out (by have := HB.out.size; simp; omega) (fun k' hk' => own_base' HO.out k' hk'))⟩
      case measure => simp [intOf]; omega
    · have hkn : k = n := by omega
      subst hkn
      clear hlt hk
      go_wp2
      go_loopw [3, 20] (fun v i wr => ∃ j : Nat, j ≤ k ∧ i = .int .i64 j ∧ Hid (wr.ownsRow w.heap.size 23 3 v (k + 1 + j * k) (ptCs (pB k j))) ∧ Hid (Below w.heap.size w wr)) (fun _ i wr => k - (intOf i).toNat)
      case atStart =>
        exact ⟨0, Nat.zero_le _, rfl, Lib.hid (by have h := HO.out; simpa [pB] using h), HB⟩
      case round =>
        clear HO HB
        obtain ⟨j, hj, rfl, HO, HB⟩ := hrel
        by_cases hlt : j < k
        · have hjk : j * k ≤ 169 := Nat.mul_le_mul (show j ≤ 13 by omega) n13
          generalize hJ : j * k = J at *
          go_wp2
          go_loopw [3, 24] (fun v i wr => ∃ m : Nat, m ≤ k ∧ i = .int .i64 m ∧ Hid (wr.ownsRow w.heap.size 23 3 v (k + 1 + J + m) (ptCs (pB k j ++ pR m j))) ∧ Hid (Below w.heap.size w wr)) (fun _ i wr => k - (intOf i).toNat)
          case atStart =>
            exact ⟨0, Nat.zero_le _, rfl, Lib.hid (by have h := HO.out; simpa [pR] using h), HB⟩
          case round =>
            clear HO HB
            obtain ⟨m, hm, rfl, HO, HB⟩ := hrel
            by_cases hlm : m < k
            · have HN := Lib.hid (show pB k j ++ pR (m + 1) j = (pB k j ++ pR m j) ++ [(1, (j : Int), (m : Int))] by rw [pR_succ, List.append_assoc])
              go_wp2_with (at_builtin; refine wpList_append_own _ rfl _ _ 52 rfl w.heap.size 23 i0 (.agg #[.int .i64 0, .int .i64 0, .int .i64 0]) 3 24 Try.underlying52 HI0.out HZ0.out HZ1.out HZ2.out rfl (by decide) _ _ _ rfl (HO.out.alloc _) ⟨wr.heap.size, 0, none⟩ 1 1 [.int .i64 1, .int .i64 (j : Int), .int .i64 (m : Int)] rfl rfl (newP _ _ _ _ _) (oneP _ _ _) (by unfold maxLen; omega) (by omega) (by have := HB.out.size; simp; omega) ?_; intro v2 w2 hown hgrow _; have HO2 := Lib.hid hown; have HG := Lib.hid hgrow; clear hown hgrow)
              go_roundw
              case rel => exact ⟨m + 1, by omega, by go_num, Lib.hid (by rw [HN.out, ptCs_snoc]; exact HO2.out), Lib.hid ((bal HB.out _).grown HG.out (by have := HB.out.size; simp; omega) (fun k' hk' => own_base' HO.out k' hk'))⟩
              case measure => simp [intOf]; omega
            · have hmk : m = k := by omega
              subst hmk
              go_wp2
              go_roundw
              case rel => exact ⟨j + 1, by omega, by go_num, Lib.hid (by have h := HO.out; rw [pB_succ, Nat.succ_mul, hJ, show m + 1 + (J + m) = m + 1 + J + m by omega]; exact h), HB⟩
              case measure => simp [intOf]; omega
        · have hjk : j = k := by omega
          subst hjk
          go_wp2
          go_ret
          exact ⟨_, rfl, by have h := HO.out; rw [show allP j = pB j j from rfl, pB_length]; exact h, HB.out⟩
end Go.Proofs.Ythkbhaaodegocaa
