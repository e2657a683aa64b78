/- Contracts: all points of a plane. -/
import Derived.Test.YthkbhaaodegocaaC2
namespace Go.Proofs.Ythkbhaaodegocaa
open Go.RowKit
set_option linter.unusedVariables false
set_option linter.unusedSimpArgs false
def ptC (a : Pt) : List Value := [.int .i64 a.1, .int .i64 a.2.1, .int .i64 a.2.2]
def ptCs (l : List Pt) : List Value := l.flatMap ptC
theorem ptCs_snoc (l : List Pt) (a : Pt) : ptCs (l ++ [a]) = ptCs l ++ ptC a := by simp [ptCs]
/-- The points with first number 0 up to the k-th; those with first number 1. -/
def pA (k : Nat) : List Pt := (0, 0, 1) :: (List.range k).map (fun z : Nat => (0, 1, (z : Int)))
def pR (n y : Nat) : List Pt := (List.range n).map (fun z : Nat => (1, (y : Int), (z : Int)))
def pB (n y : Nat) : List Pt := pA n ++ (List.range y).flatMap (pR n)
def allP (n : Nat) : List Pt := pB n n
theorem pA_succ (k : Nat) : pA (k + 1) = pA k ++ [(0, 1, (k : Int))] := by simp [pA, List.range_succ]
theorem pR_succ (n y : Nat) : pR (n + 1) y = pR n y ++ [(1, (y : Int), (n : Int))] := by simp [pR, List.range_succ]
theorem pB_succ (n y : Nat) : pB n (y + 1) = pB n y ++ pR n y := by simp [pB, List.range_succ]
theorem pA_length (k : Nat) : (pA k).length = k + 1 := by simp [pA]
theorem pR_length (n y : Nat) : (pR n y).length = n := by simp [pR]
theorem pB_length (n y : Nat) : (pB n y).length = n + 1 + y * n := by
  induction y with
  | zero => simp [pB, pA_length]
  | succ y ih => rw [pB_succ, List.length_append, ih, pR_length, Nat.succ_mul]; omega
/-- A new list of points. -/
structure PtsPost (w : World) (l : List Pt) (e : Ending) (w' : World) : Prop where
  out : ∃ v, e = .returned v ∧ w'.ownsRow w.heap.size 23 3 v l.length (ptCs l) ∧ Below w.heap.size w w'
theorem infoPo : (Try.prog.info? 23).map (fun i => (i.zero, i.size, i.bytes)) = some (some (.agg #[.int .i64 0, .int .i64 0, .int .i64 0]), 3, 24) := by kernel_rfl
theorem newP (wr : World) (x y z : Value) (T : TypeId) : ∀ (j : Nat) (u : Value), [x, y, z][j]? = some u → (wr.alloc (.cells #[x, y, z] T)).cell? ((⟨wr.heap.size, 0, none⟩ : Addr).add j) = some u := by
  intro j u hj
  have e : (wr.alloc (.cells #[x, y, z] T)).cell? ((⟨wr.heap.size, 0, none⟩ : Addr).add j) = #[x, y, z][j]? := by
    have hadd : (⟨wr.heap.size, 0, none⟩ : Addr).add j = ⟨wr.heap.size, j, none⟩ := by unfold Addr.add; split <;> simp_all
    rw [hadd, World.cell?_alloc_at _ _ _ _ rfl]
  rw [e]; simpa using hj
theorem oneP (x y z : Int) : ∀ u ∈ [Value.int .i64 x, .int .i64 y, .int .i64 z], u.oneCell' = true := by
  intro u hu
  simp only [List.mem_cons, List.not_mem_nil, or_false] at hu
  rcases hu with rfl | rfl | rfl <;> rfl
set_option maxHeartbeats 1600000 in
theorem l01Points_any (n : Nat) (w : World) (hn : 3 ≤ n ∧ n ≤ 13) :
    Calls Try.prog 69 #[.int .i64 (n : Int)] w (PtsPost w (allP n)) := by
  obtain ⟨n3, n13⟩ := hn
  obtain ⟨i0, hi, hz0, hz1, hz2⟩ := info_parts infoPo
  have HI0 := Lib.hid hi; have HZ0 := Lib.hid hz0; have HZ1 := Lib.hid hz1; have HZ2 := Lib.hid hz2
  clear hi hz0 hz1 hz2
  go_enter Try.func69, Try.ntmps69
  go_wp2
  go_loopw [3, 4] (fun v i wr => ∃ k : Nat, k ≤ n ∧ i = .int .i64 k ∧ Hid (wr.ownsRow w.heap.size 23 3 v (k + 1) (ptCs (pA k))) ∧ Hid (Below w.heap.size w wr)) (fun _ i wr => n - (intOf i).toNat)
  case atStart =>
    refine ⟨0, Nat.zero_le _, rfl, Lib.hid ?_, Lib.hid (by repeat (first | exact Below.refl _ _ | refine bset ?_ _ _ (by omega) _ | refine bal ?_ _ | refine bdrN ?_ _ | refine bdr ?_))⟩
    refine ⟨rfl, .inr ⟨w.heap.size, 1, #[.int .i64 0, .int .i64 0, .int .i64 1], rfl, Nat.le_refl _, heap_alloc_new _ _, Nat.le_refl _, by unfold maxLen; omega, rfl, rfl⟩⟩
  case round =>
    obtain ⟨k, hk, rfl, HO, HB⟩ := hrel
    by_cases hlt : k < n
    · have HN := Lib.hid (pA_succ k)
      go_wp2_with (at_builtin; refine wpList_append_own _ rfl _ _ 52 rfl w.heap.size 23 i0 (.agg #[.int .i64 0, .int .i64 0, .int .i64 0]) 3 24 Try.underlying52 HI0.out HZ0.out HZ1.out HZ2.out rfl (by decide) _ _ _ rfl (HO.out.alloc _) ⟨wr.heap.size, 0, none⟩ 1 1 [.int .i64 0, .int .i64 1, .int .i64 (k : Int)] rfl rfl (newP _ _ _ _ _) (oneP _ _ _) (by unfold maxLen; omega) (by omega) (by have := HB.out.size; simp; omega) ?_; intro v2 w2 hown hgrow _; have HO2 := Lib.hid hown; have HG := Lib.hid hgrow; clear hown hgrow)
      go_roundw
      case rel => exact ⟨k + 1, by omega, by go_num, Lib.hid (by rw [HN.out, ptCs_snoc]; exact HO2.out), Lib.hid ((bal HB.out _).grown HG.out (by have := HB.out.size; simp; omega) (fun k' hk' => own_base' HO.out k' hk'))⟩
      case measure => simp [intOf]; omega
    · have hkn : k = n := by omega
      subst hkn
      clear hlt hk
      go_wp2
      go_loopw [3, 5, 6] (fun v i z wr => ∃ j : Nat, j ≤ k ∧ i = .int .i64 j ∧ Hid (wr.ownsRow w.heap.size 23 3 v (k + 1 + j * k) (ptCs (pB k j))) ∧ Hid (Below w.heap.size w wr)) (fun _ i _ wr => k - (intOf i).toNat)
      case atStart =>
        exact ⟨0, Nat.zero_le _, rfl, Lib.hid (by have h := HO.out; simpa [pB] using h), HB⟩
      case round =>
        clear HO HB
        obtain ⟨j, hj, rfl, HO, HB⟩ := hrel
        by_cases hlt : j < k
        · have hjk : j * k ≤ 169 := Nat.mul_le_mul (show j ≤ 13 by omega) n13
          generalize hJ : j * k = J at *
          go_wp2
          go_loopw [3, 6] (fun v i wr => ∃ m : Nat, m ≤ k ∧ i = .int .i64 m ∧ Hid (wr.ownsRow w.heap.size 23 3 v (k + 1 + J + m) (ptCs (pB k j ++ pR m j))) ∧ Hid (Below w.heap.size w wr)) (fun _ i wr => k - (intOf i).toNat)
          case atStart =>
            exact ⟨0, Nat.zero_le _, rfl, Lib.hid (by have h := HO.out; simpa [pR] using h), HB⟩
          case round =>
            clear HO HB
            obtain ⟨m, hm, rfl, HO, HB⟩ := hrel
            by_cases hlm : m < k
            · have HN := Lib.hid (show pB k j ++ pR (m + 1) j = (pB k j ++ pR m j) ++ [(1, (j : Int), (m : Int))] by rw [pR_succ, List.append_assoc])
              go_wp2_with (at_builtin; refine wpList_append_own _ rfl _ _ 52 rfl w.heap.size 23 i0 (.agg #[.int .i64 0, .int .i64 0, .int .i64 0]) 3 24 Try.underlying52 HI0.out HZ0.out HZ1.out HZ2.out rfl (by decide) _ _ _ rfl (HO.out.alloc _) ⟨wr.heap.size, 0, none⟩ 1 1 [.int .i64 1, .int .i64 (j : Int), .int .i64 (m : Int)] rfl rfl (newP _ _ _ _ _) (oneP _ _ _) (by unfold maxLen; omega) (by omega) (by have := HB.out.size; simp; omega) ?_; intro v2 w2 hown hgrow _; have HO2 := Lib.hid hown; have HG := Lib.hid hgrow; clear hown hgrow)
              go_roundw
              case rel => exact ⟨m + 1, by omega, by go_num, Lib.hid (by rw [HN.out, ptCs_snoc]; exact HO2.out), Lib.hid ((bal HB.out _).grown HG.out (by have := HB.out.size; simp; omega) (fun k' hk' => own_base' HO.out k' hk'))⟩
              case measure => simp [intOf]; omega
            · have hmk : m = k := by omega
              subst hmk
              go_wp2
              go_roundw
              case rel => exact ⟨j + 1, by omega, by go_num, Lib.hid (by have h := HO.out; rw [pB_succ, Nat.succ_mul, hJ, show m + 1 + (J + m) = m + 1 + J + m by omega]; exact h), HB⟩
              case measure => simp [intOf]; omega
        · have hjk : j = k := by omega
          subst hjk
          go_wp2
          go_ret
          exact ⟨_, rfl, by have h := HO.out; rw [show allP j = pB j j from rfl, pB_length]; exact h, HB.out⟩
end Go.Proofs.Ythkbhaaodegocaa
