/- Texts of the claim, in build order: U6, U7, U8, UA, ST1, ST0, SG1, DR2, DR3, OwB, DS1, DR4, DR5, RegD, DR6, OC3, GO4, OC2, OB5, Q1, Q2, P5, P6, F4, F5, F6, Q3, OC4, OD1, DR7. No condition. -/
import Derived.Maps.AppendAt
import Derived.Test.YtaocnklolgdkfaaGreatZFnSinger7
/- Contracts: two lists of numbers compared: the library's Equal, the specification's l10Same. -- numbers -/
namespace Go.Proofs.YtaocnklolgdkfaaGreat
open Go.RowKit
set_option linter.unusedVariables false
set_option linter.unusedSimpArgs false
/-- The lists agree as far as this. -/
structure AgreeK (S1 S2 : List Int) (k : Nat) : Prop where
  out : ∀ j, j < k → S1.getD j 0 = S2.getD j 0
theorem AgreeK.next {S1 S2 : List Int} {k : Nat} (h : AgreeK S1 S2 k) (e : S1.getD k 0 = S2.getD k 0) : AgreeK S1 S2 (k + 1) := ⟨fun j hj => by
  rcases Nat.lt_or_ge j k with h1 | h1
  · exact h.out j h1
  · rw [show j = k by omega]; exact e⟩
theorem AgreeK.all {S1 S2 : List Int} {n : Nat} (h : AgreeK S1 S2 n) (h1 : S1.length = n) (h2 : S2.length = n) : S1 = S2 := by
  refine List.ext_getElem (by omega) fun i hi1 hi2 => ?_
  have := h.out i (by omega)
  simpa [List.getD, hi1, hi2] using this
theorem getD_ne {S1 S2 : List Int} {k : Nat} (h : S1.getD k 0 ≠ S2.getD k 0) : S1 ≠ S2 := fun e => h (by rw [e])
set_option maxHeartbeats 4000000 in
theorem Equal_any (b1 b2 : Option Addr) (n1 n2 c1 c2 : Nat) (S1 S2 : List Int) (w : World) (h1 : S1.length = n1) (h2 : S2.length = n2) (hm : n1 ≤ 1000000) (hm2 : n2 ≤ 1000000) (hA1 : ArgK w b1 n1 S1) (hA2 : ArgK w b2 n2 S2) :
    Calls Tryz.prog 37 #[.slice b1 n1 c1, .slice b2 n2 c2] w (Ret w (.bool (decide (S1 = S2)))) := by
  by_cases hn : n1 = n2
  · subst hn
    go_enter Tryz.func37, Tryz.ntmps37
    go_wp2_with (first | (refine wl_load ?_) | (refine wl_store ?_) | (refine wl_build ?_) | (refine wl_slice ?_) | (refine wl_append ?_; intro v' w' ho hg hb; have hs := hg.size; (try simp at hs); (try rw [ptCs_end] at ho); (try rw [ints_end] at ho); (try simp only [Nat.zero_add, Nat.reduceAdd, List.nil_append, List.cons_append] at ho)) | ((with_reducible apply region_gd (id := 6)); refine region_QA (id := 6) 9 ?_; apply Exists.intro; refine ⟨fun G => ?_, fun W hl => ?_⟩; (· (simp only [List.take_succ_cons, List.take_zero]; (repeat (first | go_big_quiet_skip | (go_big_quiet_want; first | (refine q_load ?_; simp only [Act.put, List.setIfInBounds_toArray, List.set_cons_zero, List.set_cons_succ]; go_big_quiet_on) | (go_big_quiet_op; first | go_big_quiet_on)))); exact rfl)); have hs := hl.out.size; (try simp at hs); simp only [List.drop_succ_cons, List.drop_zero]))
    go_loopw [13] (fun i wr => ∃ k : Nat, k ≤ n1 ∧ i = .int .i64 (k : Int) ∧ AgreeK S1 S2 k ∧ LowK w wr ∧ ArgK wr b1 n1 S1 ∧ ArgK wr b2 n1 S2) (fun i wr => n1 - (intOf i).toNat)
    case atStart => exact ⟨0, Nat.zero_le _, rfl, ⟨fun j hj => absurd hj (Nat.not_lt_zero _)⟩, LowK.refl _, hA1, hA2⟩
    case round =>
      obtain ⟨k, hk, rfl, hD, hV, hB1, hB2⟩ := hrel
      by_cases hlt : k < n1
      · obtain ⟨g1, rfl, hI1⟩ := hB1.out (by omega)
        obtain ⟨g2, rfl, hI2⟩ := hB2.out (by omega)
        obtain ⟨x, hx⟩ : ∃ x, S1.getD k 0 = x := ⟨_, rfl⟩
        obtain ⟨y, hy⟩ : ∃ y, S2.getD k 0 = y := ⟨_, rfl⟩
        by_cases hxy : x = y
        · subst hxy
          have hD2 := hD.next (hx.trans hy.symm)
          go_wp2_with (first | (refine wl_load ?_) | (refine wl_store ?_) | (refine wl_build ?_) | (refine wl_slice ?_) | (refine wl_append ?_; intro v' w' ho hg hb; have hs := hg.size; (try simp at hs); (try rw [ptCs_end] at ho); (try rw [ints_end] at ho); (try simp only [Nat.zero_add, Nat.reduceAdd, List.nil_append, List.cons_append] at ho)) | ((with_reducible apply region_gd (id := 6)); refine region_QA (id := 6) 9 ?_; apply Exists.intro; refine ⟨fun G => ?_, fun W hl => ?_⟩; (· (simp only [List.take_succ_cons, List.take_zero]; (repeat (first | go_big_quiet_skip | (go_big_quiet_want; first | (refine q_load ?_; simp only [Act.put, List.setIfInBounds_toArray, List.set_cons_zero, List.set_cons_succ]; go_big_quiet_on) | (go_big_quiet_op; first | go_big_quiet_on)))); exact rfl)); have hs := hl.out.size; (try simp at hs); simp only [List.drop_succ_cons, List.drop_zero]))
          go_roundw
          case rel => exact ⟨k + 1, by omega, by go_num, hD2, findLow, ⟨fun _ => ⟨g1, rfl, findInts⟩⟩, ⟨fun _ => ⟨g2, rfl, findInts⟩⟩⟩
          case measure => (simp [intOf]; try omega)
        · have hne : S1 ≠ S2 := getD_ne (k := k) (by rw [hx, hy]; exact hxy)
          have hb : (x != y) = true := by simpa using hxy
          go_wp2_with (first | (refine wl_load ?_) | (refine wl_store ?_) | (refine wl_build ?_) | (refine wl_slice ?_) | (refine wl_append ?_; intro v' w' ho hg hb; have hs := hg.size; (try simp at hs); (try rw [ptCs_end] at ho); (try rw [ints_end] at ho); (try simp only [Nat.zero_add, Nat.reduceAdd, List.nil_append, List.cons_append] at ho)) | ((with_reducible apply region_gd (id := 6)); refine region_QA (id := 6) 9 ?_; apply Exists.intro; refine ⟨fun G => ?_, fun W hl => ?_⟩; (· (simp only [List.take_succ_cons, List.take_zero]; (repeat (first | go_big_quiet_skip | (go_big_quiet_want; first | (refine q_load ?_; simp only [Act.put, List.setIfInBounds_toArray, List.set_cons_zero, List.set_cons_succ]; go_big_quiet_on) | (go_big_quiet_op; first | go_big_quiet_on)))); exact rfl)); have hs := hl.out.size; (try simp at hs); simp only [List.drop_succ_cons, List.drop_zero]))
          (first | (go_ret; refine ⟨?_, LowK.out findLow⟩; first | exact rfl | skip) | (apply ret_rowT Tryz.results37; exact rfl; exact rfl; (exact findRow); exact rfl; (first | exact Tryz.sizeOf56 | exact Tryz.sizeOf38 | exact Tryz.sizeOf31); (first | exact Tryz.isAgg56 | exact Tryz.isAgg38 | exact Tryz.isAgg31); exact rfl; refine ret_ret ?_ findLow; first | exact rfl | skip) | (apply ret_row Tryz.results37; exact rfl; (exact findRow); exact rfl; (first | exact Tryz.sizeOf56 | exact Tryz.sizeOf38 | exact Tryz.sizeOf31); (first | exact Tryz.isAgg56 | exact Tryz.isAgg38 | exact Tryz.isAgg31); exact rfl; refine ret_ret ?_ findLow; first | exact rfl | skip))
          simp [hne]
      · obtain rfl : k = n1 := by omega
        have he := hD.all h1 h2
        go_wp2_with (first | (refine wl_load ?_) | (refine wl_store ?_) | (refine wl_build ?_) | (refine wl_slice ?_) | (refine wl_append ?_; intro v' w' ho hg hb; have hs := hg.size; (try simp at hs); (try rw [ptCs_end] at ho); (try rw [ints_end] at ho); (try simp only [Nat.zero_add, Nat.reduceAdd, List.nil_append, List.cons_append] at ho)) | ((with_reducible apply region_gd (id := 6)); refine region_QA (id := 6) 9 ?_; apply Exists.intro; refine ⟨fun G => ?_, fun W hl => ?_⟩; (· (simp only [List.take_succ_cons, List.take_zero]; (repeat (first | go_big_quiet_skip | (go_big_quiet_want; first | (refine q_load ?_; simp only [Act.put, List.setIfInBounds_toArray, List.set_cons_zero, List.set_cons_succ]; go_big_quiet_on) | (go_big_quiet_op; first | go_big_quiet_on)))); exact rfl)); have hs := hl.out.size; (try simp at hs); simp only [List.drop_succ_cons, List.drop_zero]))
        (first | (go_ret; refine ⟨?_, LowK.out findLow⟩; first | exact rfl | skip) | (apply ret_rowT Tryz.results37; exact rfl; exact rfl; (exact findRow); exact rfl; (first | exact Tryz.sizeOf56 | exact Tryz.sizeOf38 | exact Tryz.sizeOf31); (first | exact Tryz.isAgg56 | exact Tryz.isAgg38 | exact Tryz.isAgg31); exact rfl; refine ret_ret ?_ findLow; first | exact rfl | skip) | (apply ret_row Tryz.results37; exact rfl; (exact findRow); exact rfl; (first | exact Tryz.sizeOf56 | exact Tryz.sizeOf38 | exact Tryz.sizeOf31); (first | exact Tryz.isAgg56 | exact Tryz.isAgg38 | exact Tryz.isAgg31); exact rfl; refine ret_ret ?_ findLow; first | exact rfl | skip))
        simp [he]
  · have hne : S1 ≠ S2 := fun e => hn (by rw [← h1, ← h2, e])
    have hz : ¬ (n1 : Int) = n2 := by omega
    go_enter Tryz.func37, Tryz.ntmps37
    go_wp2_with (first | (refine wl_load ?_) | (refine wl_store ?_) | (refine wl_build ?_) | (refine wl_slice ?_) | (refine wl_append ?_; intro v' w' ho hg hb; have hs := hg.size; (try simp at hs); (try rw [ptCs_end] at ho); (try rw [ints_end] at ho); (try simp only [Nat.zero_add, Nat.reduceAdd, List.nil_append, List.cons_append] at ho)) | ((with_reducible apply region_gd (id := 6)); refine region_QA (id := 6) 9 ?_; apply Exists.intro; refine ⟨fun G => ?_, fun W hl => ?_⟩; (· (simp only [List.take_succ_cons, List.take_zero]; (repeat (first | go_big_quiet_skip | (go_big_quiet_want; first | (refine q_load ?_; simp only [Act.put, List.setIfInBounds_toArray, List.set_cons_zero, List.set_cons_succ]; go_big_quiet_on) | (go_big_quiet_op; first | go_big_quiet_on)))); exact rfl)); have hs := hl.out.size; (try simp at hs); simp only [List.drop_succ_cons, List.drop_zero]))
    (first | (go_ret; refine ⟨?_, LowK.out findLow⟩; first | exact rfl | skip) | (apply ret_rowT Tryz.results37; exact rfl; exact rfl; (exact findRow); exact rfl; (first | exact Tryz.sizeOf56 | exact Tryz.sizeOf38 | exact Tryz.sizeOf31); (first | exact Tryz.isAgg56 | exact Tryz.isAgg38 | exact Tryz.isAgg31); exact rfl; refine ret_ret ?_ findLow; first | exact rfl | skip) | (apply ret_row Tryz.results37; exact rfl; (exact findRow); exact rfl; (first | exact Tryz.sizeOf56 | exact Tryz.sizeOf38 | exact Tryz.sizeOf31); (first | exact Tryz.isAgg56 | exact Tryz.isAgg38 | exact Tryz.isAgg31); exact rfl; refine ret_ret ?_ findLow; first | exact rfl | skip))
    simp [hne]
set_option maxHeartbeats 4000000 in
theorem l10Same_any (b1 b2 : Option Addr) (n1 n2 c1 c2 : Nat) (S1 S2 : List Int) (w : World) (h1 : S1.length = n1) (h2 : S2.length = n2) (hm : n1 ≤ 1000000) (hm2 : n2 ≤ 1000000) (hA1 : ArgK w b1 n1 S1) (hA2 : ArgK w b2 n2 S2) :
    Calls Tryz.prog 70 #[.slice b1 n1 c1, .slice b2 n2 c2] w (Ret w (.bool (decide (S1 = S2)))) := by
  by_cases hn : n1 = n2
  · subst hn
    go_enter Tryz.func70, Tryz.ntmps70
    go_wp2_with (first | (refine wl_load ?_) | (refine wl_store ?_) | (refine wl_build ?_) | (refine wl_slice ?_) | (refine wl_append ?_; intro v' w' ho hg hb; have hs := hg.size; (try simp at hs); (try rw [ptCs_end] at ho); (try rw [ints_end] at ho); (try simp only [Nat.zero_add, Nat.reduceAdd, List.nil_append, List.cons_append] at ho)) | ((with_reducible apply region_gd (id := 4)); refine region_QA (id := 4) 9 ?_; apply Exists.intro; refine ⟨fun G => ?_, fun W hl => ?_⟩; (· (simp only [List.take_succ_cons, List.take_zero]; (repeat (first | go_big_quiet_skip | (go_big_quiet_want; first | (refine q_load ?_; simp only [Act.put, List.setIfInBounds_toArray, List.set_cons_zero, List.set_cons_succ]; go_big_quiet_on) | (go_big_quiet_op; first | go_big_quiet_on)))); exact rfl)); have hs := hl.out.size; (try simp at hs); simp only [List.drop_succ_cons, List.drop_zero]))
    go_loopw [5] (fun i wr => ∃ k : Nat, k ≤ n1 ∧ i = .int .i64 (k : Int) ∧ AgreeK S1 S2 k ∧ LowK w wr ∧ ArgK wr b1 n1 S1 ∧ ArgK wr b2 n1 S2) (fun i wr => n1 - (intOf i).toNat)
    case atStart => exact ⟨0, Nat.zero_le _, rfl, ⟨fun j hj => absurd hj (Nat.not_lt_zero _)⟩, LowK.refl _, hA1, hA2⟩
    case round =>
      obtain ⟨k, hk, rfl, hD, hV, hB1, hB2⟩ := hrel
      by_cases hlt : k < n1
      · obtain ⟨g1, rfl, hI1⟩ := hB1.out (by omega)
        obtain ⟨g2, rfl, hI2⟩ := hB2.out (by omega)
        obtain ⟨x, hx⟩ : ∃ x, S1.getD k 0 = x := ⟨_, rfl⟩
        obtain ⟨y, hy⟩ : ∃ y, S2.getD k 0 = y := ⟨_, rfl⟩
        by_cases hxy : x = y
        · subst hxy
          have hD2 := hD.next (hx.trans hy.symm)
          go_wp2_with (first | (refine wl_load ?_) | (refine wl_store ?_) | (refine wl_build ?_) | (refine wl_slice ?_) | (refine wl_append ?_; intro v' w' ho hg hb; have hs := hg.size; (try simp at hs); (try rw [ptCs_end] at ho); (try rw [ints_end] at ho); (try simp only [Nat.zero_add, Nat.reduceAdd, List.nil_append, List.cons_append] at ho)) | ((with_reducible apply region_gd (id := 4)); refine region_QA (id := 4) 9 ?_; apply Exists.intro; refine ⟨fun G => ?_, fun W hl => ?_⟩; (· (simp only [List.take_succ_cons, List.take_zero]; (repeat (first | go_big_quiet_skip | (go_big_quiet_want; first | (refine q_load ?_; simp only [Act.put, List.setIfInBounds_toArray, List.set_cons_zero, List.set_cons_succ]; go_big_quiet_on) | (go_big_quiet_op; first | go_big_quiet_on)))); exact rfl)); have hs := hl.out.size; (try simp at hs); simp only [List.drop_succ_cons, List.drop_zero]))
          go_roundw
          case rel => exact ⟨k + 1, by omega, by go_num, hD2, findLow, ⟨fun _ => ⟨g1, rfl, findInts⟩⟩, ⟨fun _ => ⟨g2, rfl, findInts⟩⟩⟩
          case measure => (simp [intOf]; try omega)
        · have hne : S1 ≠ S2 := getD_ne (k := k) (by rw [hx, hy]; exact hxy)
          have hb : (x != y) = true := by simpa using hxy
          go_wp2_with (first | (refine wl_load ?_) | (refine wl_store ?_) | (refine wl_build ?_) | (refine wl_slice ?_) | (refine wl_append ?_; intro v' w' ho hg hb; have hs := hg.size; (try simp at hs); (try rw [ptCs_end] at ho); (try rw [ints_end] at ho); (try simp only [Nat.zero_add, Nat.reduceAdd, List.nil_append, List.cons_append] at ho)) | ((with_reducible apply region_gd (id := 4)); refine region_QA (id := 4) 9 ?_; apply Exists.intro; refine ⟨fun G => ?_, fun W hl => ?_⟩; (· (simp only [List.take_succ_cons, List.take_zero]; (repeat (first | go_big_quiet_skip | (go_big_quiet_want; first | (refine q_load ?_; simp only [Act.put, List.setIfInBounds_toArray, List.set_cons_zero, List.set_cons_succ]; go_big_quiet_on) | (go_big_quiet_op; first | go_big_quiet_on)))); exact rfl)); have hs := hl.out.size; (try simp at hs); simp only [List.drop_succ_cons, List.drop_zero]))
          (first | (go_ret; refine ⟨?_, LowK.out findLow⟩; first | exact rfl | skip) | (apply ret_rowT Tryz.results70; exact rfl; exact rfl; (exact findRow); exact rfl; (first | exact Tryz.sizeOf56 | exact Tryz.sizeOf38 | exact Tryz.sizeOf31); (first | exact Tryz.isAgg56 | exact Tryz.isAgg38 | exact Tryz.isAgg31); exact rfl; refine ret_ret ?_ findLow; first | exact rfl | skip) | (apply ret_row Tryz.results70; exact rfl; (exact findRow); exact rfl; (first | exact Tryz.sizeOf56 | exact Tryz.sizeOf38 | exact Tryz.sizeOf31); (first | exact Tryz.isAgg56 | exact Tryz.isAgg38 | exact Tryz.isAgg31); exact rfl; refine ret_ret ?_ findLow; first | exact rfl | skip))
          simp [hne]
      · obtain rfl : k = n1 := by omega
        have he := hD.all h1 h2
        go_wp2_with (first | (refine wl_load ?_) | (refine wl_store ?_) | (refine wl_build ?_) | (refine wl_slice ?_) | (refine wl_append ?_; intro v' w' ho hg hb; have hs := hg.size; (try simp at hs); (try rw [ptCs_end] at ho); (try rw [ints_end] at ho); (try simp only [Nat.zero_add, Nat.reduceAdd, List.nil_append, List.cons_append] at ho)) | ((with_reducible apply region_gd (id := 4)); refine region_QA (id := 4) 9 ?_; apply Exists.intro; refine ⟨fun G => ?_, fun W hl => ?_⟩; (· (simp only [List.take_succ_cons, List.take_zero]; (repeat (first | go_big_quiet_skip | (go_big_quiet_want; first | (refine q_load ?_; simp only [Act.put, List.setIfInBounds_toArray, List.set_cons_zero, List.set_cons_succ]; go_big_quiet_on) | (go_big_quiet_op; first | go_big_quiet_on)))); exact rfl)); have hs := hl.out.size; (try simp at hs); simp only [List.drop_succ_cons, List.drop_zero]))
        (first | (go_ret; refine ⟨?_, LowK.out findLow⟩; first | exact rfl | skip) | (apply ret_rowT Tryz.results70; exact rfl; exact rfl; (exact findRow); exact rfl; (first | exact Tryz.sizeOf56 | exact Tryz.sizeOf38 | exact Tryz.sizeOf31); (first | exact Tryz.isAgg56 | exact Tryz.isAgg38 | exact Tryz.isAgg31); exact rfl; refine ret_ret ?_ findLow; first | exact rfl | skip) | (apply ret_row Tryz.results70; exact rfl; (exact findRow); exact rfl; (first | exact Tryz.sizeOf56 | exact Tryz.sizeOf38 | exact Tryz.sizeOf31); (first | exact Tryz.isAgg56 | exact Tryz.isAgg38 | exact Tryz.isAgg31); exact rfl; refine ret_ret ?_ findLow; first | exact rfl | skip))
        simp [he]
  · have hne : S1 ≠ S2 := fun e => hn (by rw [← h1, ← h2, e])
    have hz : ¬ (n1 : Int) = n2 := by omega
    go_enter Tryz.func70, Tryz.ntmps70
    go_wp2_with (first | (refine wl_load ?_) | (refine wl_store ?_) | (refine wl_build ?_) | (refine wl_slice ?_) | (refine wl_append ?_; intro v' w' ho hg hb; have hs := hg.size; (try simp at hs); (try rw [ptCs_end] at ho); (try rw [ints_end] at ho); (try simp only [Nat.zero_add, Nat.reduceAdd, List.nil_append, List.cons_append] at ho)) | ((with_reducible apply region_gd (id := 4)); refine region_QA (id := 4) 9 ?_; apply Exists.intro; refine ⟨fun G => ?_, fun W hl => ?_⟩; (· (simp only [List.take_succ_cons, List.take_zero]; (repeat (first | go_big_quiet_skip | (go_big_quiet_want; first | (refine q_load ?_; simp only [Act.put, List.setIfInBounds_toArray, List.set_cons_zero, List.set_cons_succ]; go_big_quiet_on) | (go_big_quiet_op; first | go_big_quiet_on)))); exact rfl)); have hs := hl.out.size; (try simp at hs); simp only [List.drop_succ_cons, List.drop_zero]))
    go_loopw [5] (fun i wr => i = .int .i64 0 ∧ LowK w wr) (fun i wr => 0)
    case atStart => exact ⟨rfl, LowK.refl _⟩
    case round =>
      obtain ⟨rfl, hV⟩ := hrel
      by_cases h0 : 0 < n1
      · have h0z : (0 : Int) < n1 := by omega
        go_wp2_with (first | (refine wl_load ?_) | (refine wl_store ?_) | (refine wl_build ?_) | (refine wl_slice ?_) | (refine wl_append ?_; intro v' w' ho hg hb; have hs := hg.size; (try simp at hs); (try rw [ptCs_end] at ho); (try rw [ints_end] at ho); (try simp only [Nat.zero_add, Nat.reduceAdd, List.nil_append, List.cons_append] at ho)) | ((with_reducible apply region_gd (id := 4)); refine region_QA (id := 4) 9 ?_; apply Exists.intro; refine ⟨fun G => ?_, fun W hl => ?_⟩; (· (simp only [List.take_succ_cons, List.take_zero]; (repeat (first | go_big_quiet_skip | (go_big_quiet_want; first | (refine q_load ?_; simp only [Act.put, List.setIfInBounds_toArray, List.set_cons_zero, List.set_cons_succ]; go_big_quiet_on) | (go_big_quiet_op; first | go_big_quiet_on)))); exact rfl)); have hs := hl.out.size; (try simp at hs); simp only [List.drop_succ_cons, List.drop_zero]))
        (first | (go_ret; refine ⟨?_, LowK.out findLow⟩; first | exact rfl | skip) | (apply ret_rowT Tryz.results70; exact rfl; exact rfl; (exact findRow); exact rfl; (first | exact Tryz.sizeOf56 | exact Tryz.sizeOf38 | exact Tryz.sizeOf31); (first | exact Tryz.isAgg56 | exact Tryz.isAgg38 | exact Tryz.isAgg31); exact rfl; refine ret_ret ?_ findLow; first | exact rfl | skip) | (apply ret_row Tryz.results70; exact rfl; (exact findRow); exact rfl; (first | exact Tryz.sizeOf56 | exact Tryz.sizeOf38 | exact Tryz.sizeOf31); (first | exact Tryz.isAgg56 | exact Tryz.isAgg38 | exact Tryz.isAgg31); exact rfl; refine ret_ret ?_ findLow; first | exact rfl | skip))
        simp [hne, hn]
      · obtain rfl : n1 = 0 := by omega
        go_wp2_with (first | (refine wl_load ?_) | (refine wl_store ?_) | (refine wl_build ?_) | (refine wl_slice ?_) | (refine wl_append ?_; intro v' w' ho hg hb; have hs := hg.size; (try simp at hs); (try rw [ptCs_end] at ho); (try rw [ints_end] at ho); (try simp only [Nat.zero_add, Nat.reduceAdd, List.nil_append, List.cons_append] at ho)) | ((with_reducible apply region_gd (id := 4)); refine region_QA (id := 4) 9 ?_; apply Exists.intro; refine ⟨fun G => ?_, fun W hl => ?_⟩; (· (simp only [List.take_succ_cons, List.take_zero]; (repeat (first | go_big_quiet_skip | (go_big_quiet_want; first | (refine q_load ?_; simp only [Act.put, List.setIfInBounds_toArray, List.set_cons_zero, List.set_cons_succ]; go_big_quiet_on) | (go_big_quiet_op; first | go_big_quiet_on)))); exact rfl)); have hs := hl.out.size; (try simp at hs); simp only [List.drop_succ_cons, List.drop_zero]))
        (first | (go_ret; refine ⟨?_, LowK.out findLow⟩; first | exact rfl | skip) | (apply ret_rowT Tryz.results70; exact rfl; exact rfl; (exact findRow); exact rfl; (first | exact Tryz.sizeOf56 | exact Tryz.sizeOf38 | exact Tryz.sizeOf31); (first | exact Tryz.isAgg56 | exact Tryz.isAgg38 | exact Tryz.isAgg31); exact rfl; refine ret_ret ?_ findLow; first | exact rfl | skip) | (apply ret_row Tryz.results70; exact rfl; (exact findRow); exact rfl; (first | exact Tryz.sizeOf56 | exact Tryz.sizeOf38 | exact Tryz.sizeOf31); (first | exact Tryz.isAgg56 | exact Tryz.isAgg38 | exact Tryz.isAgg31); exact rfl; refine ret_ret ?_ findLow; first | exact rfl | skip))
        simp [hne]; omega
theorem Equal_b (b1 b2 : Option Addr) (n1 n2 c1 c2 : Nat) (S1 S2 : List Int) (w : World) (v : Bool) (hv : decide (S1 = S2) = v) (h1 : S1.length = n1) (h2 : S2.length = n2) (hm : n1 ≤ 1000000) (hm2 : n2 ≤ 1000000) (hA1 : ArgK w b1 n1 S1) (hA2 : ArgK w b2 n2 S2) :
    Calls Tryz.prog 37 #[.slice b1 n1 c1, .slice b2 n2 c2] w (Ret w (.bool v)) := by
  rw [← hv]; exact Equal_any b1 b2 n1 n2 c1 c2 S1 S2 w h1 h2 hm hm2 hA1 hA2
theorem l10Same_b (b1 b2 : Option Addr) (n1 n2 c1 c2 : Nat) (S1 S2 : List Int) (w : World) (v : Bool) (hv : decide (S1 = S2) = v) (h1 : S1.length = n1) (h2 : S2.length = n2) (hm : n1 ≤ 1000000) (hm2 : n2 ≤ 1000000) (hA1 : ArgK w b1 n1 S1) (hA2 : ArgK w b2 n2 S2) :
    Calls Tryz.prog 70 #[.slice b1 n1 c1, .slice b2 n2 c2] w (Ret w (.bool v)) := by
  rw [← hv]; exact l10Same_any b1 b2 n1 n2 c1 c2 S1 S2 w h1 h2 hm hm2 hA1 hA2
theorem findArg {W : World} {b : Option Addr} {n : Nat} {l : List Int} (h : ArgK W b n l := by repeat (first | with_reducible assumption | (apply ArgK.link; (· with_reducible assumption)) | with_reducible apply ArgK.alloc)) : ArgK W b n l := h
end Go.Proofs.YtaocnklolgdkfaaGreat
/- Contracts: the least translate that a multiple of a set is. -- numbers -/
namespace Go.Proofs.YtaocnklolgdkfaaGreat
open Go.RowKit
set_option linter.unusedVariables false
set_option linter.unusedSimpArgs false
def hitB (n m : Int) (l : List Int) (t : Nat) : Bool := decide (sortN (movN n 1 t l) = sortN (movN n m 0 l))
def shiftI (n m : Int) (l : List Int) : Int := match (List.range n.toNat).find? (hitB n m l) with | some t => (t : Int) | none => -1
structure MissK (n m : Int) (l : List Int) (k : Nat) : Prop where
  out : ∀ j, j < k → hitB n m l j = false
theorem shiftI_at {n m : Int} {l : List Int} {k : Nat} (h : MissK n m l k) (hk : (k : Int) < n) (hh : hitB n m l k = true) : shiftI n m l = k := by
  have : (List.range n.toNat).find? (hitB n m l) = some k := by
    rw [List.find?_range_eq_some]
    exact ⟨hh, by simp; omega, fun j hj => by simp [h.out j hj]⟩
  unfold shiftI; rw [this]
theorem shiftI_no {n m : Int} {l : List Int} {k : Nat} (h : MissK n m l k) (hk : (k : Int) = n) : shiftI n m l = -1 := by
  have : (List.range n.toNat).find? (hitB n m l) = none := by
    rw [List.find?_eq_none]
    intro j hj
    simp at hj
    simp [h.out j (by omega)]
  unfold shiftI; rw [this]
theorem sml (n m t : Int) (l : List Int) : (sortN (movN n m t l)).length = l.length := by rw [sortN_length, movN_length]
set_option maxRecDepth 20000 in
set_option maxHeartbeats 4000000 in
theorem translateOf_any (n m : Int) (b : Option Addr) (c : Nat) (l : List Int) (w : World) (n2 : 2 ≤ n) (n1 : n ≤ 1000) (m0 : 0 ≤ m) (m1 : m < n) (hb : ∀ k ∈ l, 0 ≤ k ∧ k < n) (hl : l.length ≤ 1000) (hP : ArgK w b l.length l) :
    Calls Tryz.prog 52 #[.int .i64 n, .slice b l.length c, .int .i64 m] w (Ret w (.int .i64 (shiftI n m l))) := by
  have HB := Lib.hid hb
  clear hb
  go_enter Tryz.func52, Tryz.ntmps52
  go_wp2_with (first | (refine wl_load ?_) | (refine wl_store ?_) | (refine wl_build ?_) | (refine wl_slice ?_) | (refine wl_append ?_; intro v' w' ho hg hb; have hs := hg.size; (try simp at hs); (try rw [ptCs_end] at ho); (try rw [ints_end] at ho); (try simp only [Nat.zero_add, Nat.reduceAdd, List.nil_append, List.cons_append] at ho)) | (go_at_call 38; (with_reducible refine (moved_any n m 0 b c l _ n2 n1 m0 m1 (by omega) (by omega) HB.out hl findArg).mono ?_); rintro e w' ⟨v, rfl, hO, hb⟩; obtain ⟨b2, c2, rfl, hG⟩ := hO.arg rfl; rw [sml] at hG hO; (simp only [sml]); have hl2 := Link.mk hb; have hs := hb.size; clear hb))
  go_loopw [14] (fun i wr => ∃ k : Nat, (k : Int) ≤ n ∧ i = .int .i64 (k : Int) ∧ MissK n m l k ∧ LowK w wr ∧ ArgK wr b l.length l ∧ ArgK wr b2 l.length (sortN (movN n m 0 l))) (fun i wr => n.toNat - (intOf i).toNat)
  case atStart => exact ⟨0, by omega, rfl, ⟨fun j hj => absurd hj (Nat.not_lt_zero _)⟩, findLow, findArg, findArg⟩
  case round =>
    obtain ⟨k, hk, rfl, hM, hV, hA, hB2⟩ := hrel
    have hsz := hV.size
    by_cases hlt : (k : Int) < n
    · have hkz : (0 : Int) ≤ k := by omega
      rcases hh : hitB n m l k with _ | _
      · have hh2 : decide (sortN (movN n 1 k l) = sortN (movN n m 0 l)) = false := hh
        go_wp2_with (first | (refine wl_load ?_) | (refine wl_store ?_) | (refine wl_build ?_) | (refine wl_slice ?_) | (refine wl_append ?_; intro v' w' ho hg hb; have hs := hg.size; (try simp at hs); (try rw [ptCs_end] at ho); (try rw [ints_end] at ho); (try simp only [Nat.zero_add, Nat.reduceAdd, List.nil_append, List.cons_append] at ho)) | (go_at_call 38; (with_reducible refine (moved_any n 1 k b c l _ n2 n1 (by omega) (by omega) (by omega) (by omega) HB.out hl findArg).mono ?_); rintro e w' ⟨v, rfl, hO, hb⟩; obtain ⟨b3, c3, rfl, hG3⟩ := hO.arg rfl; rw [sml] at hG3 hO; (simp only [sml]); have hl2 := Link.mk hb; have hs := hb.size; clear hb hO) | (go_at_call 37; (with_reducible refine (Equal_b _ _ _ _ _ _ _ _ _ false hh2 (sml _ _ _ _) (sml _ _ _ _) (by omega) (by omega) findArg findArg).mono ?_); rintro e w' ⟨rfl, hb⟩; have hl := Link.mk hb; have hs := hb.size; (try simp at hs); clear hb))
        go_roundw
        case rel => exact ⟨k + 1, by omega, by go_num, ⟨fun j hj => by
          rcases Nat.lt_or_ge j k with h1 | h1
          · exact hM.out j h1
          · rw [show j = k by omega]; exact hh⟩, findLow, findArg, findArg⟩
        case measure => (simp [intOf]; try omega)
      · have hh2 : decide (sortN (movN n 1 k l) = sortN (movN n m 0 l)) = true := hh
        go_wp2_with (first | (refine wl_load ?_) | (refine wl_store ?_) | (refine wl_build ?_) | (refine wl_slice ?_) | (refine wl_append ?_; intro v' w' ho hg hb; have hs := hg.size; (try simp at hs); (try rw [ptCs_end] at ho); (try rw [ints_end] at ho); (try simp only [Nat.zero_add, Nat.reduceAdd, List.nil_append, List.cons_append] at ho)) | (go_at_call 38; (with_reducible refine (moved_any n 1 k b c l _ n2 n1 (by omega) (by omega) (by omega) (by omega) HB.out hl findArg).mono ?_); rintro e w' ⟨v, rfl, hO, hb⟩; obtain ⟨b3, c3, rfl, hG3⟩ := hO.arg rfl; rw [sml] at hG3 hO; (simp only [sml]); have hl2 := Link.mk hb; have hs := hb.size; clear hb hO) | (go_at_call 37; (with_reducible refine (Equal_b _ _ _ _ _ _ _ _ _ true hh2 (sml _ _ _ _) (sml _ _ _ _) (by omega) (by omega) findArg findArg).mono ?_); rintro e w' ⟨rfl, hb⟩; have hl := Link.mk hb; have hs := hb.size; (try simp at hs); clear hb))
        (first | (go_ret; refine ⟨?_, LowK.out findLow⟩; first | exact rfl | skip) | (apply ret_rowT Tryz.results52; exact rfl; exact rfl; (exact findRow); exact rfl; (first | exact Tryz.sizeOf56 | exact Tryz.sizeOf38 | exact Tryz.sizeOf31); (first | exact Tryz.isAgg56 | exact Tryz.isAgg38 | exact Tryz.isAgg31); exact rfl; refine ret_ret ?_ findLow; first | exact rfl | skip) | (apply ret_row Tryz.results52; exact rfl; (exact findRow); exact rfl; (first | exact Tryz.sizeOf56 | exact Tryz.sizeOf38 | exact Tryz.sizeOf31); (first | exact Tryz.isAgg56 | exact Tryz.isAgg38 | exact Tryz.isAgg31); exact rfl; refine ret_ret ?_ findLow; first | exact rfl | skip))
        rw [shiftI_at hM hlt hh]; rfl
    · have hkn : (k : Int) = n := by omega
      go_wp2_with (first | (refine wl_load ?_) | (refine wl_store ?_) | (refine wl_build ?_) | (refine wl_slice ?_) | (refine wl_append ?_; intro v' w' ho hg hb; have hs := hg.size; (try simp at hs); (try rw [ptCs_end] at ho); (try rw [ints_end] at ho); (try simp only [Nat.zero_add, Nat.reduceAdd, List.nil_append, List.cons_append] at ho)))
      (first | (go_ret; refine ⟨?_, LowK.out findLow⟩; first | exact rfl | skip) | (apply ret_rowT Tryz.results52; exact rfl; exact rfl; (exact findRow); exact rfl; (first | exact Tryz.sizeOf56 | exact Tryz.sizeOf38 | exact Tryz.sizeOf31); (first | exact Tryz.isAgg56 | exact Tryz.isAgg38 | exact Tryz.isAgg31); exact rfl; refine ret_ret ?_ findLow; first | exact rfl | skip) | (apply ret_row Tryz.results52; exact rfl; (exact findRow); exact rfl; (first | exact Tryz.sizeOf56 | exact Tryz.sizeOf38 | exact Tryz.sizeOf31); (first | exact Tryz.isAgg56 | exact Tryz.isAgg38 | exact Tryz.isAgg31); exact rfl; refine ret_ret ?_ findLow; first | exact rfl | skip))
      rw [shiftI_no hM hkn]; rfl
end Go.Proofs.YtaocnklolgdkfaaGreat
/- Contracts: the program's and the specification's TranslateSet and TranslateOf. -- numbers -/
namespace Go.Proofs.YtaocnklolgdkfaaGreat
open Go.RowKit
set_option linter.unusedVariables false
set_option linter.unusedSimpArgs false
theorem ArgK.toI {w : World} {b : Option Addr} {n : Nat} {l : List Int} (h : ArgK w b n l) : ArgI w b n l := fun h0 => by
  obtain ⟨g, e, h1⟩ := h.out h0
  exact ⟨g, 0, e, h1.out⟩
theorem setB_bd {n : Int} {l : List Int} (h : setB n l = true) : 2 ≤ n ∧ n ≤ 1000 ∧ l.length ≤ 60 ∧ ∀ k ∈ l, 0 ≤ k ∧ k < n := by
  obtain ⟨⟨h1, h2⟩, h3, h4⟩ := setB_yes h
  refine ⟨h1, h2, h3, fun k hk => ?_⟩
  obtain ⟨i, hi, rfl⟩ := List.mem_iff_getElem.1 hk
  have := okB_at h4 hi
  simp [List.getD, hi] at this
  omega
theorem isNumberSet_v (n : Int) (b : Option Addr) (c : Nat) (l : List Int) (w : World) (v : Bool) (hv : setB n l = v) (hl : l.length ≤ 1000000) (hA : ArgK w b l.length l) :
    Calls Tryz.prog 48 #[.int .i64 n, .slice b l.length c] w (Ret w (.bool v)) := by
  rw [← hv]; exact isNumberSet_any n b l.length c l w rfl hl hA.toI
theorem shiftO (v : Value) (n m : Int) (b : Option Addr) (c : Nat) (l : List Int) (w : World) (n2 : 2 ≤ n) (n1 : n ≤ 1000) (m0 : 0 ≤ m) (m1 : m < n) (hb : ∀ k ∈ l, 0 ≤ k ∧ k < n) (hl : l.length ≤ 1000) (hP : ArgK w b l.length l) (hv : Value.int .i64 (shiftI n m l) = v) :
    Calls Tryz.prog 52 #[.int .i64 n, .slice b l.length c, .int .i64 m] w (Ret w v) := by rw [← hv]; exact translateOf_any n m b c l w n2 n1 m0 m1 hb hl hP
/-- What TranslateOf answers. -/
def trO (n m : Int) (l : List Int) : Value := if setB n l = true ∧ 1 ≤ m ∧ m ≤ n - 1 then (if 0 ≤ shiftI n m l then .tuple #[.int .i64 (shiftI n m l), .int .i64 0] else .tuple #[.int .i64 0, .int .i64 4]) else .tuple #[.int .i64 0, .int .i64 2]
set_option maxHeartbeats 4000000 in
theorem TranslateOf_impl (n m : Int) (b : Option Addr) (c : Nat) (l : List Int) (w : World) (hl : l.length ≤ 1000000) (hP : ArgK w b l.length l) :
    Calls Tryz.prog 21 #[.int .i64 n, .slice b l.length c, .int .i64 m] w (Ret w (trO n m l)) := by
  rcases hs0 : setB n l with _ | _
  · have hv : trO n m l = .tuple #[.int .i64 0, .int .i64 2] := by unfold trO; rw [if_neg (by simp [hs0])]
    rw [hv]
    go_enter Tryz.func21, Tryz.ntmps21
    go_wp2_with (first | (refine wl_load ?_) | (refine wl_store ?_) | (refine wl_build ?_) | (refine wl_slice ?_) | (refine wl_append ?_; intro v' w' ho hg hb; have hs := hg.size; (try simp at hs); (try rw [ptCs_end] at ho); (try rw [ints_end] at ho); (try simp only [Nat.zero_add, Nat.reduceAdd, List.nil_append, List.cons_append] at ho)) | (go_at_call 48; (with_reducible refine (isNumberSet_v n b c l _ false hs0 hl findArg).mono ?_); rintro e w' ⟨rfl, hb⟩; have hl := Link.mk hb; have hs := hb.size; (try simp at hs); clear hb))
    (apply ret_two Tryz.results21; (conv => lhs; whnf); (conv => lhs; whnf); exact rfl)
    exact ret_ret rfl findLow
  · obtain ⟨n2, n1, hl60, HB⟩ := setB_bd hs0
    have HB := Lib.hid HB
    by_cases hr' : 1 ≤ m ∧ m ≤ n - 1
    · obtain ⟨t0, t2⟩ := hr'
      by_cases h0 : 0 ≤ shiftI n m l
      · have hv : trO n m l = .tuple #[.int .i64 (shiftI n m l), .int .i64 0] := by unfold trO; rw [if_pos ⟨hs0, t0, t2⟩, if_pos h0]
        rw [hv]
        have hz : Value.int .i64 (shiftI n m l) = .int .i64 (shiftI n m l) := rfl
        obtain ⟨z, hz0⟩ : ∃ z, shiftI n m l = z := ⟨_, rfl⟩
        rw [hz0] at h0 ⊢
        rw [hz0] at hz
        clear hz
        have hz : Hid (Value.int .i64 (shiftI n m l) = .int .i64 z) := Lib.hid (by rw [hz0])
        clear hz0
        go_enter Tryz.func21, Tryz.ntmps21
        go_wp2_with (first | (refine wl_load ?_) | (refine wl_store ?_) | (refine wl_build ?_) | (refine wl_slice ?_) | (refine wl_append ?_; intro v' w' ho hg hb; have hs := hg.size; (try simp at hs); (try rw [ptCs_end] at ho); (try rw [ints_end] at ho); (try simp only [Nat.zero_add, Nat.reduceAdd, List.nil_append, List.cons_append] at ho)) | (go_at_call 48; (with_reducible refine (isNumberSet_v n b c l _ true hs0 hl findArg).mono ?_); rintro e w' ⟨rfl, hb⟩; have hl := Link.mk hb; have hs := hb.size; (try simp at hs); clear hb) | (go_at_call 43; (with_reducible refine (within_yes _ _ _ _ t0 t2).mono ?_); rintro e w' ⟨rfl, rfl⟩) | (go_at_call 52; (with_reducible refine (shiftO _ n m b c l _ n2 n1 (by omega) (by omega) HB.out (by omega) findArg hz.out).mono ?_); rintro e w' ⟨rfl, hb⟩; have hl := Link.mk hb; have hs := hb.size; (try simp at hs); clear hb))
        (apply ret_two Tryz.results21; (conv => lhs; whnf); (conv => lhs; whnf); exact rfl)
        exact ret_ret rfl findLow
      · have hv : trO n m l = .tuple #[.int .i64 0, .int .i64 4] := by unfold trO; rw [if_pos ⟨hs0, t0, t2⟩, if_neg h0]
        rw [hv]
        have hz : Value.int .i64 (shiftI n m l) = .int .i64 (shiftI n m l) := rfl
        obtain ⟨z, hz0⟩ : ∃ z, shiftI n m l = z := ⟨_, rfl⟩
        rw [hz0] at h0
        clear hz
        have hz : Hid (Value.int .i64 (shiftI n m l) = .int .i64 z) := Lib.hid (by rw [hz0])
        clear hz0
        go_enter Tryz.func21, Tryz.ntmps21
        go_wp2_with (first | (refine wl_load ?_) | (refine wl_store ?_) | (refine wl_build ?_) | (refine wl_slice ?_) | (refine wl_append ?_; intro v' w' ho hg hb; have hs := hg.size; (try simp at hs); (try rw [ptCs_end] at ho); (try rw [ints_end] at ho); (try simp only [Nat.zero_add, Nat.reduceAdd, List.nil_append, List.cons_append] at ho)) | (go_at_call 48; (with_reducible refine (isNumberSet_v n b c l _ true hs0 hl findArg).mono ?_); rintro e w' ⟨rfl, hb⟩; have hl := Link.mk hb; have hs := hb.size; (try simp at hs); clear hb) | (go_at_call 43; (with_reducible refine (within_yes _ _ _ _ t0 t2).mono ?_); rintro e w' ⟨rfl, rfl⟩) | (go_at_call 52; (with_reducible refine (shiftO _ n m b c l _ n2 n1 (by omega) (by omega) HB.out (by omega) findArg hz.out).mono ?_); rintro e w' ⟨rfl, hb⟩; have hl := Link.mk hb; have hs := hb.size; (try simp at hs); clear hb))
        (apply ret_two Tryz.results21; (conv => lhs; whnf); (conv => lhs; whnf); exact rfl)
        exact ret_ret rfl findLow
    · have hr : m < 1 ∨ n - 1 < m := by omega
      have hv : trO n m l = .tuple #[.int .i64 0, .int .i64 2] := by unfold trO; rw [if_neg (by omega)]
      rw [hv]
      go_enter Tryz.func21, Tryz.ntmps21
      go_wp2_with (first | (refine wl_load ?_) | (refine wl_store ?_) | (refine wl_build ?_) | (refine wl_slice ?_) | (refine wl_append ?_; intro v' w' ho hg hb; have hs := hg.size; (try simp at hs); (try rw [ptCs_end] at ho); (try rw [ints_end] at ho); (try simp only [Nat.zero_add, Nat.reduceAdd, List.nil_append, List.cons_append] at ho)) | (go_at_call 48; (with_reducible refine (isNumberSet_v n b c l _ true hs0 hl findArg).mono ?_); rintro e w' ⟨rfl, hb⟩; have hl := Link.mk hb; have hs := hb.size; (try simp at hs); clear hb) | (go_at_call 43; (with_reducible refine (within_no _ _ _ _ hr).mono ?_); rintro e w' ⟨rfl, rfl⟩))
      (apply ret_two Tryz.results21; (conv => lhs; whnf); (conv => lhs; whnf); exact rfl)
      exact ret_ret rfl findLow
end Go.Proofs.YtaocnklolgdkfaaGreat
/- Contracts: the program's and the specification's MultipliersOf. -- numbers -/
namespace Go.Proofs.YtaocnklolgdkfaaGreat
open Go.RowKit
set_option linter.unusedVariables false
set_option linter.unusedSimpArgs false
end Go.Proofs.YtaocnklolgdkfaaGreat
/- Plain: translates of sets of numbers modulo n, and their differences. -/
namespace Go.Proofs.YtaocnklolgdkfaaGreat
set_option linter.unusedVariables false
set_option linter.unusedSimpArgs false
/-- How often a difference comes up. -/
def difC (n : Int) (l : List Int) (d : Nat) : Nat := (l.map fun x => l.countP fun y => decide (((x - y) % n).toNat = d)).sum
theorem bump_get {c : List Int} {i d : Nat} (hd : d < c.length) : (bump c i).getD d 0 = c.getD d 0 + (if i = d then 1 else 0) := by
  unfold bump
  by_cases e : i = d
  · subst e
    simp [List.getD, hd]
  · simp [List.getD, List.getElem?_set_ne e, e]
theorem rowC_get {n : Int} {l : List Int} {i : Nat} {c : List Int} {d : Nat} (hd : d < c.length) : ∀ k, (rowC n l i c k).getD d 0 = c.getD d 0 + ((List.range k).countP fun k => decide (dif n l i k = d) : Nat)
  | 0 => by simp [rowC_zero]
  | k + 1 => by
    rw [rowC_succ, bump_get (by rw [rowC_length]; exact hd), rowC_get hd k, List.range_succ, List.countP_append]
    by_cases e : dif n l i k = d
    · simp [e]; omega
    · simp [e]
theorem cntC_get {n : Int} {l : List Int} {d : Nat} (hd : d < n.toNat) : ∀ i, (cntC n l i).getD d 0 = (((List.range i).map fun i => (List.range l.length).countP fun k => decide (dif n l i k = d)).sum : Nat)
  | 0 => by simp [cntC, List.getD, hd]
  | i + 1 => by
    rw [cntC_succ, rowC_get (by rw [cntC_length]; exact hd), cntC_get hd i, List.range_succ, List.map_append, List.sum_append]
    simp
theorem range_map {α : Type} (l : List Int) (f : Int → α) : (List.range l.length).map (fun i => f (l.getD i 0)) = l.map f := by
  apply List.ext_getElem
  · simp
  · intro i h1 h2
    simp at h1
    simp [List.getD, h1]
theorem cntC_difC {n : Int} {l : List Int} {d : Nat} (hd : d < n.toNat) : (cntC n l l.length).getD d 0 = (difC n l d : Int) := by
  rw [cntC_get hd]
  congr 1
  unfold difC
  rw [← range_map l]
  congr 1
  apply List.map_congr_left
  intro i hi
  have e : (List.range l.length).map (fun k => l.getD k 0) = l := (range_map l fun x => x).trans (by simp)
  show (List.range l.length).countP _ = l.countP _
  have e2 : l.countP (fun y => decide (((l.getD i 0 - y) % n).toNat = d)) = ((List.range l.length).map (fun k => l.getD k 0)).countP (fun y => decide (((l.getD i 0 - y) % n).toNat = d)) := by rw [e]
  rw [e2, List.countP_map]
  rfl
end Go.Proofs.YtaocnklolgdkfaaGreat
/- Plain: numbers and tables of numbers forced, for the kernel. -/
namespace Go.Proofs.YtaocnklolgdkfaaGreat
/-- A number forced, then on. -/
def seqN {α : Type} (n : Nat) (f : Nat → α) : α := match n with | 0 => f 0 | .succ k => f (.succ k)
theorem seqN_eq {α : Type} (n : Nat) (f : Nat → α) : seqN n f = f n := by cases n <;> rfl
def forceR {α : Type} : List Nat → (List Nat → α) → α
  | [], k => k []
  | a :: l, k => seqN a fun v => forceR l fun r => k (v :: r)
theorem forceR_eq {α : Type} : ∀ (l : List Nat) (k : List Nat → α), forceR l k = k l
  | [], _ => rfl
  | a :: l, k => by rw [forceR, seqN_eq, forceR_eq l]
def forceM {α : Type} : List (List Nat) → (List (List Nat) → α) → α
  | [], k => k []
  | a :: l, k => forceR a fun v => forceM l fun r => k (v :: r)
theorem forceM_eq {α : Type} : ∀ (l : List (List Nat)) (k : List (List Nat) → α), forceM l k = k l
  | [], _ => rfl
  | a :: l, k => by rw [forceM, forceR_eq, forceM_eq l]
end Go.Proofs.YtaocnklolgdkfaaGreat
/- Plain: what the law FnSinger asks of the Singer orders and the difference sets: checked by the kernel. -/
namespace Go.Proofs.YtaocnklolgdkfaaGreat
open Go.RowKit
set_option linter.unusedVariables false
set_option linter.unusedSimpArgs false
/-- The line with a shift. -/
def lineI (p i j : Nat) : Pt := crsN (p : Int) ((sL p).getD i (0, 0, 0)) ((sL p).getD j (0, 0, 0))
def shI (p t : Nat) : List Int := insS (movN ((p * p + p + 1 : Nat) : Int) 1 (t : Int) (dL p))
def lineT (p t : Nat) : Pt := lineI p ((shI p t).getD 0 0).toNat ((shI p t).getD 1 0).toNat
/-- A point forced, then on. -/
def forceP (c : Pt) (k : Pt → Bool) : Bool := seqN c.1.toNat fun x => seqN c.2.1.toNat fun y => seqN c.2.2.toNat fun z => decide (c = (Int.ofNat x, Int.ofNat y, Int.ofNat z)) && k (Int.ofNat x, Int.ofNat y, Int.ofNat z)
theorem forceP_yes {c : Pt} {k : Pt → Bool} (h : forceP c k = true) : k c = true := by
  unfold forceP at h
  rw [seqN_eq, seqN_eq, seqN_eq, Bool.and_eq_true, decide_eq_true_eq] at h
  rw [h.1]; exact h.2
def backL (p t : Nat) (l : Pt) : Bool := ptB (p : Int) l.1 l.2.1 l.2.2 && decide (shI p t = numU (onN (p : Int) (sL p) l) (p * p + p + 1))
def backB (p t : Nat) : Bool := seqN ((shI p t).getD 0 0).toNat fun i => seqN ((shI p t).getD 1 0).toNat fun j => forceP (lineI p i j) (backL p t)
theorem backB_yes {p t : Nat} (h : backB p t = true) : backL p t (lineT p t) = true := by
  unfold backB at h
  rw [seqN_eq, seqN_eq] at h
  exact forceP_yes h
def thruR (p : Nat) (l : Pt) (R : List Int) : Bool := decide (crsN (p : Int) ((sL p).getD (R.getD 0 0).toNat (0, 0, 0)) ((sL p).getD (R.getD 1 0).toNat (0, 0, 0)) = l)
def thruB (p : Nat) (l : Pt) : Bool := thruR p l (numU (onN (p : Int) (sL p) l) (p * p + p + 1))
def shT (p : Nat) : List (List Nat) := (List.range (p * p + p + 1)).map fun t : Nat => (insS (movN ((p * p + p + 1 : Nat) : Int) 1 (t : Int) (dL p))).map Int.toNat
def eqL : List Nat → List Nat → Bool
  | [], [] => true
  | x :: xs, y :: ys => if x = y then eqL xs ys else false
  | _, _ => false
theorem eqL_refl : ∀ l : List Nat, eqL l l = true
  | [] => rfl
  | x :: xs => by simp [eqL, eqL_refl xs]
def freshB : List (List Nat) → Bool
  | [] => true
  | a :: l => (l.all fun b => !eqL a b) && freshB l
def shB (p : Nat) : Bool := forceM (shT p) freshB
def mulB (p : Nat) : Bool := (List.range (p * p + p + 1)).any fun t => decide (insS (movN ((p * p + p + 1 : Nat) : Int) 1 (t : Int) (dL p)) = insS (movN ((p * p + p + 1 : Nat) : Int) (p : Int) 0 (dL p)))
def difB (p : Nat) : Bool := setB ((p * p + p + 1 : Nat) : Int) (dL p) && (List.range (p * p + p)).all fun e => difC ((p * p + p + 1 : Nat) : Int) (dL p) (e + 1) == 1
set_option maxRecDepth 100000 in
set_option maxHeartbeats 4000000 in
theorem back_3 : (List.range (3 * 3 + 3 + 1)).all (backB 3) = true := by decide +kernel
set_option maxRecDepth 100000 in
set_option maxHeartbeats 4000000 in
theorem back_5 : (List.range (5 * 5 + 5 + 1)).all (backB 5) = true := by decide +kernel
set_option maxRecDepth 100000 in
set_option maxHeartbeats 4000000 in
theorem back_7 : (List.range (7 * 7 + 7 + 1)).all (backB 7) = true := by decide +kernel
set_option maxRecDepth 100000 in
set_option maxHeartbeats 4000000 in
theorem back_11 : (List.range (11 * 11 + 11 + 1)).all (backB 11) = true := by decide +kernel
set_option maxRecDepth 100000 in
set_option maxHeartbeats 4000000 in
theorem back_13 : (List.range (13 * 13 + 13 + 1)).all (backB 13) = true := by decide +kernel
set_option maxRecDepth 100000 in
set_option maxHeartbeats 4000000 in
theorem thru_3 : (sL 3).all (thruB 3) = true := by decide +kernel
set_option maxRecDepth 100000 in
set_option maxHeartbeats 4000000 in
theorem thru_5 : (sL 5).all (thruB 5) = true := by decide +kernel
set_option maxRecDepth 100000 in
set_option maxHeartbeats 4000000 in
theorem thru_7 : (sL 7).all (thruB 7) = true := by decide +kernel
set_option maxRecDepth 100000 in
set_option maxHeartbeats 4000000 in
theorem thru_11 : (sL 11).all (thruB 11) = true := by decide +kernel
set_option maxRecDepth 100000 in
set_option maxHeartbeats 4000000 in
theorem thru_13 : (sL 13).all (thruB 13) = true := by decide +kernel
theorem back_all : ∀ p ∈ ([3, 5, 7, 11, 13] : List Nat), (List.range (p * p + p + 1)).all (backB p) = true := by
  intro p hp
  simp only [List.mem_cons, List.not_mem_nil, or_false] at hp
  rcases hp with rfl | rfl | rfl | rfl | rfl
  · exact back_3
  · exact back_5
  · exact back_7
  · exact back_11
  · exact back_13
theorem thru_all : ∀ p ∈ ([3, 5, 7, 11, 13] : List Nat), (sL p).all (thruB p) = true := by
  intro p hp
  simp only [List.mem_cons, List.not_mem_nil, or_false] at hp
  rcases hp with rfl | rfl | rfl | rfl | rfl
  · exact thru_3
  · exact thru_5
  · exact thru_7
  · exact thru_11
  · exact thru_13
set_option maxRecDepth 100000 in
set_option maxHeartbeats 4000000 in
theorem sh_all : ∀ p ∈ ([3, 5, 7, 11, 13] : List Nat), shB p = true := by decide +kernel
set_option maxRecDepth 100000 in
set_option maxHeartbeats 4000000 in
theorem mul_all : ∀ p ∈ ([3, 5, 7, 11, 13] : List Nat), mulB p = true := by decide +kernel
set_option maxRecDepth 100000 in
set_option maxHeartbeats 4000000 in
theorem dif_all : ∀ p ∈ ([3, 5, 7, 11, 13] : List Nat), difB p = true := by decide +kernel
end Go.Proofs.YtaocnklolgdkfaaGreat
/- Contracts: numbers that draws pick. -- draws -/
namespace Go.Proofs.YtaocnklolgdkfaaGreat
open Go.RowKit
set_option linter.unusedVariables false
set_option linter.unusedSimpArgs false
/-- Numbers in a block of their own. -/
structure NumK (W : World) (gl k : Nat) : Prop where
  out : ∃ cs, RowK W gl cs 2 ∧ cs.size = k ∧ ∀ i, i < k → ∃ r : Int, cs[i]? = some (.int .i64 r)
theorem NumK.link {W W' : World} {gl k : Nat} (l : Link W W') (h : NumK W gl k) : NumK W' gl k := by
  obtain ⟨cs, h1, h2⟩ := h.out
  exact ⟨cs, h1.link l, h2⟩
theorem NumK.but {g : Nat} {W W' : World} {gl k : Nat} (hB : ButK g W W') (hne : gl ≠ g) (h : NumK W gl k) : NumK W' gl k := by
  obtain ⟨cs, h1, h2⟩ := h.out
  exact ⟨cs, h1.but hB hne, h2⟩
theorem SrcK.rowNe {W : World} {g gl n c : Nat} {b : Option Addr} {cs : Array Value} {T : TypeId} (h : SrcK W g b n c) (hR : RowK W gl cs T) (hT : T ≠ 82) : gl ≠ g := by
  rintro rfl
  obtain ⟨a, x, hr, -⟩ := h.row
  have h1 := hr.out
  have h2 := hR.out
  rw [h1] at h2
  cases h2
  exact hT rfl
theorem NumK.ne {W : World} {g gl k n c : Nat} {b : Option Addr} (h : NumK W gl k) (hS : SrcK W g b n c) : gl ≠ g := by
  obtain ⟨cs, h1, -⟩ := h.out
  exact hS.rowNe h1 (by decide)
theorem Drew.tr {g n c : Nat} {b : Option Addr} {w W W' : World} (h : Drew g b n c w W) (h' : Drew g b n c W W') : Drew g b n c w W' := ⟨h'.src, h'.but.tr h.but⟩
theorem Drew.low {g n c : Nat} {b : Option Addr} {w W W' : World} (h : Drew g b n c w W) (l : LowK W W') : Drew g b n c w W' := ⟨h.src.link (LowK.lnk l), h.but.low l⟩
theorem Drew.refl {g n c : Nat} {b : Option Addr} {w : World} (h : SrcK w g b n c) : Drew g b n c w w := ⟨h, ButK.refl g w⟩
/-- A number, and the source drawn from. -/
def NumP (g : Nat) (b : Option Addr) (n c : Nat) (w : World) : Ending → World → Prop := fun e W => ∃ r : Int, e = .returned (.int .i64 r) ∧ Drew g b n c w W
set_option maxRecDepth 20000 in
set_option maxHeartbeats 8000000 in
theorem Pick_S (g : Nat) (b : Option Addr) (n c : Nat) (gl k cp : Nat) (w : World) (hS : SrcK w g b n c) (hR : NumK w gl k) (h0 : 0 < k) (hk : k ≤ 1000) :
    Calls Tryz.prog 55 #[.pointer (some ⟨g, 0, none⟩), .slice (some ⟨gl, 0, none⟩) k cp] w (NumP g b n c w) := by
  have hne := hR.ne hS
  go_enter Tryz.func55, Tryz.ntmps55
  go_wp2_with (first | (refine wl_loadS ?_) | (go_at_call 42; (with_reducible refine (Next_S g b n c (k : Int) _ hS (by omega)).mono ?_); rintro e w' ⟨r, rfl, hr, hS', hB⟩; have hrk : r < k := (by omega); obtain ⟨cs, h1, h2, h3⟩ := (NumK.but hB hne hR).out; obtain ⟨x, hx⟩ := h3 r hrk; have c1 := h1.cellAt hx; have HX := Lib.hid hx; clear hx h3 h2))
  (apply ret_one Tryz.results55; (conv => lhs; whnf); exact rfl)
  exact ⟨x, rfl, hS', hB⟩
theorem NumK.of {W : World} {gl : Nat} {cs : Array Value} (h : RowK W gl cs 2) {k : Nat} (hk : cs.size = k) (hI : ∀ i, i < k → ∃ r : Int, cs[i]? = some (.int .i64 r)) : NumK W gl k := ⟨cs, h, hk, hI⟩
theorem NumK.l4 {W : World} {gl : Nat} {a b c d : Int} (h : RowK W gl #[.int .i64 a, .int .i64 b, .int .i64 c, .int .i64 d] 2) : NumK W gl 4 := NumK.of h rfl (fun i hi => by
  rcases (show i = 0 ∨ i = 1 ∨ i = 2 ∨ i = 3 by omega) with rfl | rfl | rfl | rfl <;> exact ⟨_, rfl⟩)
set_option maxRecDepth 20000 in
set_option maxHeartbeats 8000000 in
theorem Fine_S (p : Int) (w : World) : Calls Tryz.prog 35 #[.int .i64 p] w (fun e W => ∃ q : Int, e = .returned (.int .i64 q) ∧ prB q = true ∧ LowK w W) := by
  obtain ⟨v, hv⟩ : ∃ v, prB p = v := ⟨_, rfl⟩
  have HV := Lib.hid hv
  rcases v with _ | _
  · go_enter Tryz.func35, Tryz.ntmps35
    go_wp2_with (first | (refine wl_loadS ?_) | (refine wl_load ?_) | (refine wl_storeS ?_) | (refine wl_store ?_) | (refine wl_build ?_) | (refine wl_slice ?_) | (refine wl_append ?_; intro v' w' ho hg hb; have hs := hg.size; (try simp at hs); (try rw [ptCs_end] at ho); (try rw [ints_end] at ho); (try simp only [Nat.zero_add, Nat.reduceAdd, List.nil_append, List.cons_append] at ho)) | (go_at_call 45; (with_reducible refine (l01Prime_no p _ HV.out).mono ?_); rintro e w' ⟨rfl, rfl⟩))
    (apply ret_one Tryz.results35; (conv => lhs; whnf); exact rfl)
    exact ⟨5, rfl, rfl, findLow⟩
  · go_enter Tryz.func35, Tryz.ntmps35
    go_wp2_with (first | (refine wl_loadS ?_) | (refine wl_load ?_) | (refine wl_storeS ?_) | (refine wl_store ?_) | (refine wl_build ?_) | (refine wl_slice ?_) | (refine wl_append ?_; intro v' w' ho hg hb; have hs := hg.size; (try simp at hs); (try rw [ptCs_end] at ho); (try rw [ints_end] at ho); (try simp only [Nat.zero_add, Nat.reduceAdd, List.nil_append, List.cons_append] at ho)) | (go_at_call 45; (with_reducible refine (l01Prime_yes p _ HV.out).mono ?_); rintro e w' ⟨rfl, rfl⟩))
    (apply ret_one Tryz.results35; (conv => lhs; whnf); exact rfl)
    exact ⟨p, rfl, HV.out, findLow⟩
end Go.Proofs.YtaocnklolgdkfaaGreat
/- Contracts: the source of a code. -- draws -/
namespace Go.Proofs.YtaocnklolgdkfaaGreat
open Go.RowKit
set_option linter.unusedVariables false
set_option linter.unusedSimpArgs false
theorem wl_buildS {ops : Array Oper} {rest : List Oper} {o : Oper} {a : Act} {w : World} {Q : Exit → Act → World → Prop} {x y : Operand} {b : Option Addr} {n c : Nat} {h : Int} (hK : wpList Tryz.prog ops Q rest (a.put o.dst (.agg #[.slice b n c, .int .i64 0, .int .u64 h])) w) (hgd : o.guard = none := by exact rfl) (hop : o.op = .build 82 #[(0, x), (2, y)] := by exact rfl)
    (hx : a.eval x = .slice b n c := by exact rfl) (hy : a.eval y = .int .u64 h := by exact rfl) : wpList Tryz.prog ops Q (o :: rest) a w :=
  wpList_build w hgd _ _ hop _ ((show Program.built Tryz.prog 82 (#[(0, x), (2, y)].map fun ((i, x) : Nat × Operand) => (i, a.eval x)).toList = Program.built Tryz.prog 82 [(0, .slice b n c), (2, .int .u64 h)] from by simp [hx, hy]).trans (show Program.built Tryz.prog 82 [(0, .slice b n c), (2, .int .u64 h)] = some #[.slice b n c, .int .i64 0, .int .u64 h] by kernel_rfl)) hK
set_option pp.deepTerms false
set_option pp.deepTerms.threshold 10
set_option maxRecDepth 20000 in
set_option maxHeartbeats 8000000 in
theorem From_S (b : Option Addr) (n c : Nat) (w : World) (hC : CodeK w b n) (hn : n ≤ 4096) (hb : ∀ a, b = some a → a.block < w.heap.size) :
    Calls Tryz.prog 24 #[.slice b n c] w (fun e W => ∃ g, e = .returned (.pointer (some ⟨g, 0, none⟩)) ∧ w.heap.size ≤ g ∧ SrcK W g b n c ∧ LowK w W) := by
  have HB := Lib.hid hb
  clear hb
  go_enter Tryz.func24, Tryz.ntmps24
  go_wp2_with (first | (refine wl_buildS ?_))
  have hr0 : RowK (w.alloc (.cells #[.slice b n c, .int .i64 0, .int .u64 (13101 + (n : Int))] 82)) w.heap.size #[.slice b n c, .int .i64 0, .int .u64 (13101 + (n : Int))] 82 := findRow
  have hV0 : LowK w (w.alloc (.cells #[.slice b n c, .int .i64 0, .int .u64 (13101 + (n : Int))] 82)) := findLow
  generalize w.alloc (.cells #[.slice b n c, .int .i64 0, .int .u64 (13101 + (n : Int))] 82) = W1 at *
  obtain ⟨g, hg⟩ : ∃ g, w.heap.size = g := ⟨_, rfl⟩
  have hwg := Nat.le_of_eq hg
  have hgw := Nat.le_of_eq hg.symm
  rw [hg] at hr0 HB ⊢
  clear hg
  go_loopw [4] (fun iv wr => ∃ (i : Nat) (h : Int), i ≤ n ∧ iv = .int .i64 (i : Int) ∧ RowK wr g #[.slice b n c, .int .i64 0, .int .u64 h] 82 ∧ 0 ≤ h ∧ h < 18446744073709551616 ∧ LowK w wr) (fun iv wr => n - (intOf iv).toNat)
  case atStart => exact ⟨0, _, Nat.zero_le _, rfl, hr0, by omega, by omega, hV0⟩
  case round =>
    clear hr0 hV0
    obtain ⟨i, h, hi, rfl, hr, h0, h1, hV⟩ := hrel
    by_cases hlt : i < n
    · have hi4 : (i : Int) < 4096 := by omega
      obtain ⟨gb, o, rfl, hc⟩ := (hC.link (LowK.lnk hV)) (by omega)
      obtain ⟨x, hx, hx0, hx1⟩ := hc i hlt
      have c3 : CellK wr gb (o + i) (.int .u8 x) := ⟨hx⟩
      have c2 : CellK wr g 2 (.int .u64 h) := hr.cellAt rfl
      have s2 : StK wr g 2 := hr.stAt (by show 2 < 3; decide)
      have HX := Lib.hid hx
      clear hc hx
      go_wp2_with (first | (with_reducible refine hold (p := wpList _ _ _ ({ dst := none, op := .store _ _ _, type := _, pos := _, after := _, guard := _ } :: _) _ _) ?_) | (refine wl_loadS ?_) | ((with_reducible apply region_gd (id := 5)); refine region_QA (id := 5) 15 ?_; apply Exists.intro; refine ⟨fun G => ?_, fun W hl => ?_⟩; (· (simp only [List.take_succ_cons, List.take_zero]; (repeat (first | go_big_quiet_skip | (go_big_quiet_want; first | (refine q_loadS ?_; simp only [Act.put, List.setIfInBounds_toArray, List.set_cons_zero, List.set_cons_succ]; go_big_quiet_on) | (refine q_load ?_; simp only [Act.put, List.setIfInBounds_toArray, List.set_cons_zero, List.set_cons_succ]; go_big_quiet_on) | (go_big_quiet_op; first | go_big_quiet_on)))); exact rfl)); have hs := hl.out.size; (try simp at hs); simp only [List.drop_succ_cons, List.drop_zero]))
      unfold Hold
      refine wl_storeS ?_
      have hE := wrapU (IntKind.wrap .u64 (IntKind.wrap .u64 (h * 1099511628211) + x) + 127)
      generalize IntKind.wrap .u64 (IntKind.wrap .u64 (IntKind.wrap .u64 (h * 1099511628211) + x) + 127) = E at *
      have hlow : LowK wr W := findLow
      have hr2 : RowK (W.setCell ⟨g, 2, none⟩ (.int .u64 E)) g #[.slice (some ⟨gb, o, none⟩) n c, .int .i64 0, .int .u64 E] 82 := (hr.link (LowK.lnk hlow)).setC (k := 2) (.int .u64 E)
      have hV2 : LowK w (W.setCell ⟨g, 2, none⟩ (.int .u64 E)) := LowK.setCell hwg 2 _ (LowK.link (LowK.lnk hlow) hV)
      go_wp2
      go_roundw
      case rel => exact ⟨i + 1, E, by omega, by go_num, hr2, hE.1, hE.2, hV2⟩
      case measure => (simp [intOf]; try omega)
    · obtain rfl : n = i := by omega
      go_wp2
      (apply ret_one Tryz.results24; (conv => lhs; whnf); exact rfl)
      exact ⟨g, rfl, hwg, ⟨⟨0, h, hr, Nat.zero_le _, h0, h1⟩, hC.link (LowK.lnk hV), fun a ha => by have := HB.out a ha; omega, hn⟩, hV⟩
end Go.Proofs.YtaocnklolgdkfaaGreat
/- Own lists while draws go on. -- draws -/
namespace Go.Proofs.YtaocnklolgdkfaaGreat
open Go.RowKit
set_option linter.unusedVariables false
theorem OwnK.but {g : Nat} {W W' : World} {B : Nat} {T : TypeId} {sz : Nat} {v : Value} {n : Nat} {xs : List Value} (h : OwnK W B T sz v n xs) (hB : ButK g W W') (hg : g < B) : OwnK W' B T sz v n xs :=
  ⟨own_same h.out fun b hb => hB.out.2.1 b (own_lt h.out b hb) (fun e => by have := own_base' h.out b hb; omega)⟩
theorem ButK.grew {g : Nat} {w W W' : World} {u : Value} (h : ButK g w W) (hg : Grew W u W') (hu : ∀ b, u.ownBlock = some b → w.heap.size ≤ b) : ButK g w W' := by
  obtain ⟨h1, h2, h3, h4, h5⟩ := h.out
  exact ⟨Nat.le_trans h1 hg.size, fun b hb hne => (hg.out.block b (by omega) (fun e => by have := hu b e.symm; omega)).trans (h2 b hb hne), hg.out.os.trans h3, hg.out.tape.trans h4, hg.out.output.trans h5⟩
theorem SrcK.grew {W W' : World} {g n c : Nat} {b : Option Addr} {u : Value} (h : SrcK W g b n c) (hg : Grew W u W') (hu : Off u g) (hub : ∀ a, b = some a → Off u a.block) : SrcK W' g b n c := by
  obtain ⟨a, x, hr, h1⟩ := h.row
  refine ⟨⟨a, x, hr.grew hg hu, h1⟩, fun hn => ?_, h.ne, h.le⟩
  obtain ⟨gb, o, e, hc⟩ := h.code hn
  exact ⟨gb, o, e, fun i hi => by obtain ⟨x, h1, h2⟩ := hc i hi; exact ⟨x, cell_grew hg (hub _ e) h1, h2⟩⟩
end Go.Proofs.YtaocnklolgdkfaaGreat
/- Contracts: a number drawn from a list; sets that are drawn. -- draws -- own lists -- numbers -/
namespace Go.Proofs.YtaocnklolgdkfaaGreat
open Go.RowKit
set_option linter.unusedVariables false
set_option linter.unusedSimpArgs false
/-- Numbers of a kind in a block of their own. -/
structure NumQ (Pn : Int → Prop) (W : World) (gl k : Nat) : Prop where
  out : ∃ cs, RowK W gl cs 2 ∧ cs.size = k ∧ ∀ i, i < k → ∃ r : Int, cs[i]? = some (.int .i64 r) ∧ Pn r
theorem NumQ.link {Pn : Int → Prop} {W W' : World} {gl k : Nat} (l : Link W W') (h : NumQ Pn W gl k) : NumQ Pn W' gl k := by
  obtain ⟨cs, h1, h2⟩ := h.out
  exact ⟨cs, h1.link l, h2⟩
theorem NumQ.but {Pn : Int → Prop} {g : Nat} {W W' : World} {gl k : Nat} (hB : ButK g W W') (hne : gl ≠ g) (h : NumQ Pn W gl k) : NumQ Pn W' gl k := by
  obtain ⟨cs, h1, h2⟩ := h.out
  exact ⟨cs, h1.but hB hne, h2⟩
theorem NumQ.ne {Pn : Int → Prop} {W : World} {g gl k n c : Nat} {b : Option Addr} (h : NumQ Pn W gl k) (hS : SrcK W g b n c) : gl ≠ g := by
  obtain ⟨cs, h1, -⟩ := h.out
  exact hS.rowNe h1 (by decide)
theorem NumQ.ofL {W : World} {gl k : Nat} {l : List Int} (h : RowK W gl (l.map (Value.int .i64)).toArray 2) (hk : l.length = k) : NumQ (· ∈ l) W gl k :=
  ⟨_, h, by simp [hk], fun i hi => ⟨l[i]'(by omega), by simp [show i < l.length by omega], List.getElem_mem _⟩⟩
/-- A number of a kind, and the source drawn from. -/
def NumR (Pn : Int → Prop) (g : Nat) (b : Option Addr) (n c : Nat) (w : World) : Ending → World → Prop := fun e W => ∃ r : Int, e = .returned (.int .i64 r) ∧ Pn r ∧ Drew g b n c w W
set_option maxRecDepth 20000 in
set_option maxHeartbeats 8000000 in
theorem Pick_Q (Pn : Int → Prop) (g : Nat) (b : Option Addr) (n c : Nat) (gl k cp : Nat) (w : World) (hS : SrcK w g b n c) (hR : NumQ Pn w gl k) (h0 : 0 < k) (hk : k ≤ 1000) :
    Calls Tryz.prog 55 #[.pointer (some ⟨g, 0, none⟩), .slice (some ⟨gl, 0, none⟩) k cp] w (NumR Pn g b n c w) := by
  have hne := hR.ne hS
  go_enter Tryz.func55, Tryz.ntmps55
  go_wp2_with (first | (refine wl_loadS ?_) | (go_at_call 42; (with_reducible refine (Next_S g b n c (k : Int) _ hS (by omega)).mono ?_); rintro e w' ⟨r, rfl, hr, hS', hB⟩; have hrk : r < k := (by omega); obtain ⟨cs, h1, h2, h3⟩ := (NumQ.but hB hne hR).out; obtain ⟨x, hx, hpx⟩ := h3 r hrk; have c1 := h1.cellAt hx; have HX := Lib.hid hx; have HP := Lib.hid hpx; clear hx hpx h3 h2))
  (apply ret_one Tryz.results55; (conv => lhs; whnf); exact rfl)
  exact ⟨x, rfl, HP.out, hS', hB⟩
set_option pp.deepTerms false
set_option pp.deepTerms.threshold 10
end Go.Proofs.YtaocnklolgdkfaaGreat
/- Contracts: maps that draws make. -- draws -/
namespace Go.Proofs.YtaocnklolgdkfaaGreat
open Go.RowKit
set_option linter.unusedVariables false
set_option linter.unusedSimpArgs false
/-- A block of nine numbers of a kind. -/
structure MapP (P : Int → Prop) (W : World) (g : Nat) : Prop where
  out : ∃ cs, RowK W g cs 31 ∧ cs.size = 9 ∧ ∀ k, k < 9 → ∃ r, cs[k]? = some (.int .i64 r) ∧ P r
theorem MapP.link {P : Int → Prop} {W W' : World} {g : Nat} (l : Link W W') (h : MapP P W g) : MapP P W' g := by
  obtain ⟨cs, h1, h2⟩ := h.out
  exact ⟨cs, h1.link l, h2⟩
theorem MapP.set {P : Int → Prop} {W : World} {g k : Nat} {r : Int} (h : MapP P W g) (hk : k < 9) (hr : P r) : MapP P (W.setCell ⟨g, k, none⟩ (.int .i64 r)) g := by
  obtain ⟨cs, h1, h2, h3⟩ := h.out
  refine ⟨cs.setIfInBounds k (.int .i64 r), h1.setC _, by simpa using h2, fun j hj => ?_⟩
  by_cases e : k = j
  · subst e
    exact ⟨r, by simp [h2, hk], hr⟩
  · obtain ⟨x, hx, hp⟩ := h3 j hj
    exact ⟨x, by rw [Array.getElem?_setIfInBounds_ne e]; exact hx, hp⟩
theorem MapP.get {P : Int → Prop} {W : World} {g : Nat} (h : MapP P W g) : ∃ t : M9, RowK W g (mC t) 31 ∧ ∀ x ∈ listM t, P x := by
  obtain ⟨cs, h1, h2, h3⟩ := h.out
  obtain ⟨r0, e0, p0⟩ := h3 0 (by decide)
  obtain ⟨r1, e1, p1⟩ := h3 1 (by decide)
  obtain ⟨r2, e2, p2⟩ := h3 2 (by decide)
  obtain ⟨r3, e3, p3⟩ := h3 3 (by decide)
  obtain ⟨r4, e4, p4⟩ := h3 4 (by decide)
  obtain ⟨r5, e5, p5⟩ := h3 5 (by decide)
  obtain ⟨r6, e6, p6⟩ := h3 6 (by decide)
  obtain ⟨r7, e7, p7⟩ := h3 7 (by decide)
  obtain ⟨r8, e8, p8⟩ := h3 8 (by decide)
  have e : cs = mC ((r0, r1, r2), (r3, r4, r5), (r6, r7, r8)) := by
    apply Array.ext_getElem?
    intro i
    by_cases hi : i < 9
    · rcases (show i = 0 ∨ i = 1 ∨ i = 2 ∨ i = 3 ∨ i = 4 ∨ i = 5 ∨ i = 6 ∨ i = 7 ∨ i = 8 by omega) with rfl | rfl | rfl | rfl | rfl | rfl | rfl | rfl | rfl
      · rw [e0]; rfl
      · rw [e1]; rfl
      · rw [e2]; rfl
      · rw [e3]; rfl
      · rw [e4]; rfl
      · rw [e5]; rfl
      · rw [e6]; rfl
      · rw [e7]; rfl
      · rw [e8]; rfl
    · rw [Array.getElem?_eq_none (by omega), Array.getElem?_eq_none (by show 9 ≤ i; omega)]
  rw [e] at h1
  refine ⟨_, h1, fun x hx => ?_⟩
  simp only [listM, List.mem_cons, List.not_mem_nil, or_false] at hx
  rcases hx with rfl | rfl | rfl | rfl | rfl | rfl | rfl | rfl | rfl <;> assumption
theorem MapP.of {P : Int → Prop} {W : World} {g : Nat} {t : M9} (h : RowK W g (mC t) 31) (hp : ∀ x ∈ listM t, P x) : MapP P W g := by
  refine ⟨mC t, h, rfl, fun k hk => ?_⟩
  rcases (show k = 0 ∨ k = 1 ∨ k = 2 ∨ k = 3 ∨ k = 4 ∨ k = 5 ∨ k = 6 ∨ k = 7 ∨ k = 8 by omega) with rfl | rfl | rfl | rfl | rfl | rfl | rfl | rfl | rfl <;> exact ⟨_, rfl, hp _ (by simp [listM])⟩
theorem MapP.st {P : Int → Prop} {W : World} {g k : Nat} (h : MapP P W g) (hk : k < 9) : StK W g k := by
  obtain ⟨cs, h1, h2, -⟩ := h.out
  exact h1.stAt (by omega)
theorem MapP.but {P : Int → Prop} {g : Nat} {W W' : World} {gl : Nat} (hB : ButK g W W') (hne : gl ≠ g) (h : MapP P W gl) : MapP P W' gl := by
  obtain ⟨cs, h1, h2⟩ := h.out
  exact ⟨cs, h1.but hB hne, h2⟩
theorem MapP.ne {P : Int → Prop} {g gl n c : Nat} {b : Option Addr} {W : World} (h : MapP P W gl) (hS : SrcK W g b n c) : gl ≠ g := by
  obtain ⟨cs, h1, -⟩ := h.out
  exact hS.rowNe h1 (by decide)
theorem Mod_W (p n : Int) (w : World) (hp : prB p = true) : Calls Tryz.prog 105 #[.int .i64 p, .int .i64 n] w (Ret w (.int .i64 (n % p))) := by
  have hpb := prB_bd hp
  have hb := tmod_lo n p (by omega)
  have e : IntKind.i64.wrap (n.tmod p + p) = n.tmod p + p := IntWalk.i64_in _ (by omega)
  have hq : 0 ≤ (n.tmod p + p).tmod p ∧ (n.tmod p + p).tmod p < p := ⟨Int.tmod_nonneg p (by omega), Int.tmod_lt_of_pos _ (by omega)⟩
  have hp0 : p ≠ 0 := by omega
  go_enter Tryz.func105, Tryz.ntmps105
  go_wp2
  go_ret
  exact ⟨ret_int (mod_is' n p (by omega)), Below.refl _ _⟩
set_option pp.deepTerms false
set_option pp.deepTerms.threshold 10
end Go.Proofs.YtaocnklolgdkfaaGreat
/- Contracts: the map that is drawn. -- draws -/
namespace Go.Proofs.YtaocnklolgdkfaaGreat
open Go.RowKit
set_option linter.unusedVariables false
set_option linter.unusedSimpArgs false
theorem ButK.setNew {g g5 : Nat} {w W : World} {U : Array Value} (hg : w.heap.size ≤ g5) (h : ButK g w W) : ButK g w (W.setRow g5 U) := by
  obtain ⟨h1, h2, h3, h4, h5⟩ := h.out
  refine ⟨by simpa using h1, fun b hb hne => (setRow_other _ _ _ _ (show b ≠ g5 by omega)).trans (h2 b hb hne), h3, h4, h5⟩
theorem ButK.setCNew {g g5 : Nat} {w W : World} (k : Nat) (v : Value) (hg : w.heap.size ≤ g5) (h : ButK g w W) : ButK g w (W.setCell ⟨g5, k, none⟩ v) := by
  obtain ⟨h1, h2, h3, h4, h5⟩ := h.out
  refine ⟨by simpa [World.setCell] using h1, fun b hb hne => (setCell_blk W (show b ≠ g5 by omega) k v).trans (h2 b hb hne), h3, h4, h5⟩
theorem SrcK.setRow {W : World} {g g5 n c : Nat} {b : Option Addr} {U : Array Value} (hne : g ≠ g5) (hb : ∀ a, b = some a → a.block ≠ g5) (h : SrcK W g b n c) : SrcK (W.setRow g5 U) g b n c := by
  obtain ⟨a, x, hr, h1⟩ := h.row
  refine ⟨⟨a, x, hr.set hne, h1⟩, fun hn => ?_, h.ne, h.le⟩
  obtain ⟨gb, o, e, hc⟩ := h.code hn
  exact ⟨gb, o, e, fun i hi => by obtain ⟨x, h1, h2⟩ := hc i hi; exact ⟨x, by rw [cell_other _ _ _ _ _ (hb _ e)]; exact h1, h2⟩⟩
theorem RowK.setO {W : World} {g g5 k : Nat} {v : Value} {cs : Array Value} {T : TypeId} (hne : g ≠ g5) (h : RowK W g cs T) : RowK (W.setCell ⟨g5, k, none⟩ v) g cs T := ⟨(setCell_blk W hne k v).trans h.out⟩
theorem SrcK.setC {W : World} {g g5 n c k : Nat} {v : Value} {b : Option Addr} (hne : g ≠ g5) (hb : ∀ a, b = some a → a.block ≠ g5) (h : SrcK W g b n c) : SrcK (W.setCell ⟨g5, k, none⟩ v) g b n c := by
  obtain ⟨a, x, hr, h1⟩ := h.row
  refine ⟨⟨a, x, hr.setO hne, h1⟩, fun hn => ?_, h.ne, h.le⟩
  obtain ⟨gb, o, e, hc⟩ := h.code hn
  exact ⟨gb, o, e, fun i hi => by obtain ⟨x, h1, h2⟩ := hc i hi; exact ⟨x, by rw [show (W.setCell ⟨g5, k, none⟩ v).cell? ⟨gb, o + i, none⟩ = W.cell? ⟨gb, o + i, none⟩ from World.cell?_of_block (w := W) (a := ⟨gb, o + i, none⟩) (setCell_blk W (hb _ e) k v)]; exact h1, h2⟩⟩
set_option pp.deepTerms false
set_option pp.deepTerms.threshold 10
end Go.Proofs.YtaocnklolgdkfaaGreat
/- A region whose operations draw their order: calm ones are walked once; the others (calls that draw, new blocks, what reads them) are known by relation, in no order of their own. -/
namespace Go.Proofs.YtaocnklolgdkfaaGreat
open Go.RowKit
set_option linter.unusedVariables false
set_option linter.unusedSimpArgs false
structure StOk (St : World → World → Prop) : Prop where
  lnk : ∀ W W', Link W W' → St W W'
  tr : ∀ W W' W'', St W W' → St W' W'' → St W W''
def RelD (Rel : Nat → Value → World → Prop) : Option Nat → Value → World → Prop
  | some t, v, W => Rel t v W
  | none, _, _ => True
structure DREnd (St : World → World → Prop) (Rel : Nat → Value → World → Prop) (o : Oper) (a : Act) (W : World) (e : Exit) (a' : Act) (W' : World) : Prop where
  e1 : e = .normal
  out : ∃ v, a' = a.put o.dst v ∧ St W W' ∧ RelD Rel o.dst v W'
def PastR (Rel : Nat → Value → World → Prop) (W : World) (a : Act) : List Nat → Prop
  | [] => True
  | t :: r => Rel t (a.tmps.getD t undef) W ∧ PastR Rel W a r
def wpDR (P : Program) (ops : Array Oper) (St : World → World → Prop) (Rel : Nat → Value → World → Prop) (ts : List Nat) (w : World) (Q' : Act → World → Prop) : List Oper → Act → Prop
  | [], a => ∀ W, St w W → PastR Rel W a ts → Q' a W
  | o :: r, a => (∀ W, St w W → (∀ u, (readsOf o).contains u = true → ts.contains u = true → Rel u (a.tmps.getD u undef) W) → wpList P ops (fun e a' W' => DREnd St Rel o a W e a' W') [o] a W) ∧ ∀ v, wpDR P ops St Rel ts w Q' r (a.put o.dst v)
theorem dr_step {P : Program} {ops : Array Oper} {St : World → World → Prop} {Rel : Nat → Value → World → Prop} {ts : List Nat} {w : World} {Q' : Act → World → Prop} {o : Oper} {r : List Oper} {a : Act}
    (h : ∀ W, St w W → (∀ u, (readsOf o).contains u = true → ts.contains u = true → Rel u (a.tmps.getD u undef) W) → wpList P ops (fun e a' W' => DREnd St Rel o a W e a' W') [o] a W)
    (h2 : ∀ v, wpDR P ops St Rel ts w Q' r (a.put o.dst v)) : wpDR P ops St Rel ts w Q' (o :: r) a := ⟨h, h2⟩
theorem dr_nil {P : Program} {ops : Array Oper} {St : World → World → Prop} {Rel : Nat → Value → World → Prop} {ts : List Nat} {w : World} {Q' : Act → World → Prop} {a : Act} (h : ∀ W, St w W → PastR Rel W a ts → Q' a W) : wpDR P ops St Rel ts w Q' [] a := h
/-- The act in which the chain's slots are filled. -/
def canD (v : Nat → Value) : List Oper → Act → Act
  | [], a => a
  | o :: r, a => canD v r (a.put o.dst (match o.dst with | some t => v t | none => undef))
theorem canD_size (v : Nat → Value) : ∀ (l : List Oper) (a : Act), (canD v l a).tmps.size = a.tmps.size
  | [], _ => rfl
  | o :: r, a => by rw [canD, canD_size v r, put_size]
theorem canD_defers (v : Nat → Value) : ∀ (l : List Oper) (a : Act), (canD v l a).defers = a.defers
  | [], _ => rfl
  | o :: r, a => by rw [canD, canD_defers v r, put_defers]
theorem canD_other (v : Nat → Value) (u : Nat) : ∀ (l : List Oper) (a : Act), (∀ o ∈ l, o.dst ≠ some u) → (canD v l a).tmps.getD u undef = a.tmps.getD u undef
  | [], _, _ => rfl
  | o :: r, a, h => by
    rw [canD, canD_other v u r _ (fun o' ho' => h o' (List.mem_cons_of_mem _ ho'))]
    have := h o (List.mem_cons_self ..)
    cases hd : o.dst with
    | none => rfl
    | some t => exact put_get_ne _ _ _ _ (fun e => this (by rw [hd, e]))
theorem canD_in (v : Nat → Value) (u : Nat) : ∀ (l : List Oper) (a : Act), u < a.tmps.size → (∃ o ∈ l, o.dst = some u) → (canD v l a).tmps.getD u undef = v u
  | [], _, _, h => by obtain ⟨o, ho, -⟩ := h; cases ho
  | o :: r, a, hs, h => by
    rw [canD]
    by_cases hr : ∃ o' ∈ r, o'.dst = some u
    · exact canD_in v u r _ (by rw [put_size]; exact hs) hr
    · rw [canD_other v u r _ (fun o' ho' e => hr ⟨o', ho', e⟩)]
      obtain ⟨o', ho', e⟩ := h
      rcases List.mem_cons.1 ho' with e2 | e2
      · subst e2
        rw [e]
        exact put_get_same _ _ _ hs
      · exact (hr ⟨o', e2, e⟩).elim
theorem wpDR.at {P : Program} {ops : Array Oper} {St : World → World → Prop} {Rel : Nat → Value → World → Prop} {ts : List Nat} {w : World} {Q' : Act → World → Prop} (v : Nat → Value) : ∀ (cl : List Oper) (a : Act), wpDR P ops St Rel ts w Q' cl a → ∀ (k : Nat) (o : Oper), cl[k]? = some o →
    ∀ W, St w W → (∀ u, (readsOf o).contains u = true → ts.contains u = true → Rel u ((canD v (cl.take k) a).tmps.getD u undef) W) → wpList P ops (fun e a' W' => DREnd St Rel o (canD v (cl.take k) a) W e a' W') [o] (canD v (cl.take k) a) W
  | [], _, _, k, o, h => by simp at h
  | o :: r, a, hd, 0, o', h => by
    simp only [List.getElem?_cons_zero, Option.some.injEq] at h
    subst h
    exact hd.1
  | o :: r, a, hd, k + 1, o', h => by
    rw [List.getElem?_cons_succ] at h
    rw [List.take_succ_cons]
    exact wpDR.at v r _ (hd.2 _) k o' h
theorem wpDR.fin {P : Program} {ops : Array Oper} {St : World → World → Prop} {Rel : Nat → Value → World → Prop} {ts : List Nat} {w : World} {Q' : Act → World → Prop} (v : Nat → Value) : ∀ (cl : List Oper) (a : Act), wpDR P ops St Rel ts w Q' cl a → ∀ W, St w W → PastR Rel W (canD v cl a) ts → Q' (canD v cl a) W
  | [], _, h => h
  | o :: r, a, hd => wpDR.fin v r _ (hd.2 _)
theorem PastR.mk {Rel : Nat → Value → World → Prop} {W : World} {a : Act} : ∀ {ts : List Nat}, (∀ t ∈ ts, Rel t (a.tmps.getD t undef) W) → PastR Rel W a ts
  | [], _ => trivial
  | t :: r, h => ⟨h t (List.mem_cons_self ..), PastR.mk (fun u hu => h u (List.mem_cons_of_mem _ hu))⟩
/-- The chain is in the text's order, and each of its operations yields a value. -/
def chAsc : List Nat → Bool
  | [] => true
  | x :: r => (r.all fun y => decide (x < y)) && chAsc r
theorem chAsc_at : ∀ {ch : List Nat}, chAsc ch = true → ∀ {j k x y : Nat}, ch[j]? = some x → ch[k]? = some y → x < y → j < k
  | [], _, j, k, x, y, h, _, _ => by simp at h
  | z :: r, h, j, k, x, y, hj, hk, hxy => by
    unfold chAsc at h
    simp only [Bool.and_eq_true, List.all_eq_true, decide_eq_true_eq] at h
    cases k with
    | zero =>
      exfalso
      simp only [List.getElem?_cons_zero, Option.some.injEq] at hk
      subst hk
      cases j with
      | zero => simp only [List.getElem?_cons_zero, Option.some.injEq] at hj; omega
      | succ j => rw [List.getElem?_cons_succ] at hj; have := h.1 x (List.mem_of_getElem? hj); omega
    | succ k =>
      cases j with
      | zero => omega
      | succ j =>
        rw [List.getElem?_cons_succ] at hj hk
        have := chAsc_at h.2 hj hk hxy
        omega
def chDst (l : List Oper) (m : Nat) (ch : List Nat) : Bool := ch.all fun i => decide (i < m) && match l[i]? with | some o => o.dst.isSome | none => false
structure RInvD (l : List Oper) (m : Nat) (ch : List Nat) (St : World → World → Prop) (Rel : Nat → Value → World → Prop) (a0 aE : Act) (w0 : World) (listed : Array Bool) (a : Act) (w : World) : Prop where
  df : a.defers = a0.defers
  sz : a.tmps.size = a0.tmps.size
  len : listed.size = l.length
  fr1 : ∀ (j : Nat) (o : Oper) (t : Nat), j < m → l[j]? = some o → o.dst = some t → ch.contains j = false → listed.getD j false = true → a.tmps.getD t undef = aE.tmps.getD t undef
  fr2 : ∀ (j : Nat) (o : Oper) (t : Nat), j < m → l[j]? = some o → o.dst = some t → ch.contains j = true → listed.getD j false = true → Rel t (a.tmps.getD t undef) w
  fr0 : ∀ t : Nat, (∀ (j : Nat) (o : Oper), j < m → l[j]? = some o → o.dst = some t → listed.getD j false = false) → a.tmps.getD t undef = a0.tmps.getD t undef
  bl : St w0 w
  rest : ∀ j, m ≤ j → listed.getD j false = false
  dc : ∀ (i : Nat) (o : Oper), l[i]? = some o → listed.getD i false = true → ∀ e ∈ o.after, Region.binds .any e = true → listed.getD e.on false = true
section
variable {P : Program} {Q : Exit → Act → World → Prop} {l : List Oper} {a0 : Act} {w : World} {ch : List Nat}
theorem region_dr {id : Nat} (m : Nat) (ch : List Nat) (St : World → World → Prop) (Rel : Nat → Value → World → Prop) {ts : List Nat} {cl : List Oper} (hm : P.follows .mixedOrders = true) (hml : m ≤ l.length)
    (chk : viaChkC l m a0.tmps.size ch = true) (hgd : guardsIn l m = true) (hon : onceC l m = true) (hcb : chanB l m ch = true) (has : chAsc ch = true) (hcd : chDst l m ch = true)
    (hcl : (ch.filterMap fun i => l[i]?) = cl) (hts : cl.filterMap (·.dst) = ts)
    (hst : StOk St) (mono : ∀ t v W W', Rel t v W → St W W' → Rel t v W')
    (H : ∃ aE, (∀ W0, St w W0 → ∀ G : Grow0 W0, wpQuiet P l.toArray (fun w' => ∃ g : Grow W0 G, w' = g.W) (fun a' => a' = aE) (((List.range m).filter fun i => !ch.contains i).filterMap fun i => l[i]?) a0) ∧
      wpDR P l.toArray St Rel ts w (fun a' W' => wpList P l.toArray Q (l.drop m) a' W') cl aE) :
    (Code.region id l.toArray true).wp P Q a0 w := by
  obtain ⟨aE, H1, H2⟩ := H
  generalize hr : ((List.range m).filter fun i => !ch.contains i).filterMap (fun i => l[i]?) = r at *
  -- the calm ones, by their place
  have hrm : ∀ o ∈ r, ∃ i, i < m ∧ l[i]? = some o ∧ ch.contains i = false := fun o ho => by
    rw [← hr] at ho
    obtain ⟨i, hi, hio⟩ := List.mem_filterMap.1 ho
    have := List.mem_filter.1 hi
    exact ⟨i, List.mem_range.1 this.1, hio, by simpa using this.2⟩
  have hrl : ∀ i o, i < m → l[i]? = some o → ch.contains i = false → o ∈ r := fun i o him hio hc => by
    rw [← hr]
    exact List.mem_filterMap.2 ⟨i, List.mem_filter.2 ⟨List.mem_range.2 him, by rw [hc]; rfl⟩, hio⟩
  -- the order of r is that of the text
  have hord : ∀ (j k : Nat) (o o' : Oper), r[j]? = some o → r[k]? = some o' → ∃ i i', i < m ∧ i' < m ∧ l[i]? = some o ∧ l[i']? = some o' ∧ ch.contains i = false ∧ ch.contains i' = false ∧ (j < k → i < i') ∧ (k < j → i' < i) ∧ (j = k → i = i') := by
    have key : ∀ (is : List Nat), is.Pairwise (· < ·) → (∀ i ∈ is, i < m ∧ ch.contains i = false) → ∀ (j k : Nat) (o o' : Oper), (is.filterMap fun i => l[i]?)[j]? = some o → (is.filterMap fun i => l[i]?)[k]? = some o' →
        ∃ i i', i ∈ is ∧ i' ∈ is ∧ l[i]? = some o ∧ l[i']? = some o' ∧ (j < k → i < i') ∧ (k < j → i' < i) ∧ (j = k → i = i') := by
      intro is
      induction is with
      | nil => intro _ _ j k o o' h; simp at h
      | cons x is ih =>
        intro hp hq j k o o' hj hk'
        rw [List.pairwise_cons] at hp
        have hl : ∃ ox, l[x]? = some ox := ⟨l[x]'(by have := (hq x (List.mem_cons_self ..)).1; omega), List.getElem?_eq_getElem _⟩
        obtain ⟨ox, hox⟩ := hl
        rw [List.filterMap_cons, hox] at hj hk'
        cases j with
        | zero =>
          simp only [List.getElem?_cons_zero, Option.some.injEq] at hj
          subst hj
          cases k with
          | zero =>
            simp only [List.getElem?_cons_zero, Option.some.injEq] at hk'
            subst hk'
            exact ⟨x, x, List.mem_cons_self .., List.mem_cons_self .., hox, hox, (fun h => by omega), (fun h => by omega), fun _ => rfl⟩
          | succ k =>
            rw [List.getElem?_cons_succ] at hk'
            obtain ⟨i, hi, hio⟩ := List.mem_filterMap.1 (List.mem_of_getElem? hk')
            exact ⟨x, i, List.mem_cons_self .., List.mem_cons_of_mem _ hi, hox, hio, fun _ => hp.1 i hi, (fun h => by omega), (fun h => by omega)⟩
        | succ j =>
          rw [List.getElem?_cons_succ] at hj
          cases k with
          | zero =>
            simp only [List.getElem?_cons_zero, Option.some.injEq] at hk'
            subst hk'
            obtain ⟨i, hi, hio⟩ := List.mem_filterMap.1 (List.mem_of_getElem? hj)
            exact ⟨i, x, List.mem_cons_of_mem _ hi, List.mem_cons_self .., hio, hox, (fun h => by omega), fun _ => hp.1 i hi, (fun h => by omega)⟩
          | succ k =>
            rw [List.getElem?_cons_succ] at hk'
            obtain ⟨i, i', h1, h2, h3, h4, h5, h6, h7⟩ := ih hp.2 (fun i hi => hq i (List.mem_cons_of_mem _ hi)) j k o o' hj hk'
            exact ⟨i, i', List.mem_cons_of_mem _ h1, List.mem_cons_of_mem _ h2, h3, h4, (fun h => h5 (by omega)), (fun h => h6 (by omega)), (fun h => h7 (by omega))⟩
    intro j k o o' hj hk'
    rw [← hr] at hj hk'
    obtain ⟨i, i', h1, h2, h3⟩ := key _ (List.Pairwise.filter _ List.pairwise_lt_range) (fun i hi => by have := List.mem_filter.1 hi; exact ⟨List.mem_range.1 this.1, by simpa using this.2⟩) j k o o' hj hk'
    have q1 := List.mem_filter.1 h1
    have q2 := List.mem_filter.1 h2
    exact ⟨i, i', List.mem_range.1 q1.1, List.mem_range.1 q2.1, h3.1, h3.2.1, by simpa using q1.2, by simpa using q2.2, h3.2.2⟩
  have hsome : ∀ o ∈ r, o.dst ≠ none := fun o ho => by
    obtain ⟨i, him, hi, hc⟩ := hrm o ho
    intro h
    rw [((viaChkC_at chk hi).2.2.1 him).2.2.1 h] at hc; cases hc
  have look : ∀ {C : World → Prop} {us : List (Nat × Value)}, QSteps P l.toArray C r us a0 → puts a0 us = aE → ∀ {i : Nat} {o : Oper} {t : Nat}, i < m → ch.contains i = false → l[i]? = some o → o.dst = some t →
      ∃ v, aE.tmps.getD t undef = v ∧ ((Region.wanted o (yielded l.toArray aE.tmps) = true ∧ ∀ w, C w → Oper.quietUpon P C w v ((execOp aE.eval o).run P w)) ∨ (Region.wanted o (yielded l.toArray aE.tmps) = false ∧ v = undef)) := by
    intro C us hus hue i o t him hic hi hd
    obtain ⟨ri, hri⟩ := List.getElem?_of_mem (hrl i o him hi hic)
    have place : ∀ k ok, r[k]? = some ok → ∃ i', i' < m ∧ l[i']? = some ok ∧ ch.contains i' = false ∧ (ri < k → i < i') ∧ (ri ≤ k → i ≤ i') := by
      intro k ok hk'
      obtain ⟨x, x', hx, hx', hxo, hxo', _, hc', h1, h2, h3⟩ := hord ri k o ok hri hk'
      have e : x = i := by
        rcases Nat.lt_trichotomy x i with h | h | h
        · exact absurd hd (onceC_at hon hx him (by omega) hxo hi hd)
        · exact h
        · exact absurd hd (onceC_at hon him hx (by omega) hi hxo hd)
      subst e
      refine ⟨x', hx', hxo', hc', h1, fun h => ?_⟩
      rcases Nat.lt_or_ge ri k with h4 | h4
      · exact Nat.le_of_lt (h1 h4)
      · have := h3 (by omega); omega
    obtain ⟨t', v, ai, hd', hy, hsz, hv, hread⟩ := QSteps.at _ _ _ hus ri o hri
    rw [hd] at hd'; obtain rfl := Option.some.inj hd'
    rw [hue] at hv hread
    have hC := viaChkC_at chk hi
    have hCm := hC.2.2.1 him
    have hCb := (chanB_at hcb him hi).2 hic
    have htN := hCm.2.1 t hd
    have hval := hv htN (fun j o' hij hj => by obtain ⟨i', hi'm, hi', _, hlt, _⟩ := place j o' hj; exact onceC_at hon him hi'm (by have := hlt hij; omega) hi hi' hd)
    have heq : execOp ai.eval o = execOp aE.eval o := execOp_congr o hC.1 (fun x hx => by
      cases x with
      | tmp u =>
        refine hread u (fun j o' hij hj hdu => ?_)
        obtain ⟨i', hi'm, hi', _, _, hle⟩ := place j o' hj
        obtain ⟨e, he, hb, hon'⟩ := bindsTo_spec (hCm.2.2.2 u (List.mem_filterMap.2 ⟨.tmp u, by simpa using hx, rfl⟩) i' o' hi'm hi' hdu)
        have := hC.2.1 e he hb
        have := hle hij
        omega
      | _ => rfl)
    have hwe : Region.wanted o (yielded l.toArray ai.tmps) = Region.wanted o (yielded l.toArray aE.tmps) := by
      unfold Region.wanted
      cases hg : o.guard with
      | none => rfl
      | some kb =>
        obtain ⟨k, b⟩ := kb
        obtain ⟨e, he, hb, hon'⟩ := bindsTo_spec (hCm.1 k b hg)
        have hki := hC.2.1 e he hb
        rw [hon'] at hki
        have : yielded l.toArray ai.tmps k = yielded l.toArray aE.tmps k := yielded_congr (by rw [hsz, ← hue, puts_size]) (fun ok tk hk' hdk => hread tk (fun j o' hij hj hdj => by
          obtain ⟨i', hi'm, hi', _, _, hle⟩ := place j o' hj
          exact onceC_at hon (by omega) hi'm (by have := hle hij; omega) (show l[k]? = some ok by simpa using hk') hi' hdk hdj))
        simp only [this]
    refine ⟨v, hval, ?_⟩
    rcases hy with ⟨hw, hq⟩ | ⟨hw, hu⟩
    · exact .inl ⟨by rw [← hwe]; exact hw, fun w hw' => by have := hq w hw'; unfold Oper.quietAt at this; rwa [heq] at this⟩
    · exact .inr ⟨by rw [← hwe]; exact hw, hu⟩
  obtain ⟨us0, hus0, hue0⟩ := quiet_out _ _ hsome (H1 w (hst.lnk _ _ ⟨Below.refl _ _⟩) ⟨w, Below.refl _ _⟩)
  have hEs : aE.tmps.size = a0.tmps.size := by rw [← hue0, puts_size]
  have hEd : aE.defers = a0.defers := by rw [← hue0, puts_defers]
  have hE0 : ∀ u, (∀ (j : Nat) (o : Oper), j < m → l[j]? = some o → ch.contains j = false → o.dst ≠ some u) → aE.tmps.getD u undef = a0.tmps.getD u undef := fun u hu => by
    rw [← hue0]
    refine puts_other u us0 a0 (fun kv hk' e => ?_)
    obtain ⟨j, o, hj, hd⟩ := QSteps.key _ _ _ hus0 kv hk'
    obtain ⟨i, him, hi, hc⟩ := hrm o (List.mem_of_getElem? hj)
    exact hu i o him hi hc (by rw [hd, e])
  -- the chain's operations by their place
  have hcdi : ∀ i, i ∈ ch → i < m ∧ ∃ o t, l[i]? = some o ∧ o.dst = some t := fun i hi => by
    unfold chDst at hcd
    have h := List.all_eq_true.1 hcd i hi
    simp only [Bool.and_eq_true, decide_eq_true_eq] at h
    obtain ⟨h1, h2⟩ := h
    have hlt : i < l.length := by omega
    rw [List.getElem?_eq_getElem hlt] at h2
    obtain ⟨t, ht⟩ := Option.isSome_iff_exists.1 h2
    exact ⟨h1, _, t, List.getElem?_eq_getElem hlt, ht⟩
  have hclk : ∀ (js : List Nat), (∀ i ∈ js, i ∈ ch) → ∀ k : Nat, (js.filterMap fun i : Nat => l[i]?)[k]? = (js[k]?).bind fun i : Nat => l[i]? := by
    intro js
    induction js with
    | nil => intro _ k; simp
    | cons x r ih =>
      intro hjs k
      obtain ⟨-, o, t, ho, -⟩ := hcdi x (hjs x (List.mem_cons_self ..))
      rw [List.filterMap_cons, ho]
      cases k with
      | zero => simp [ho]
      | succ k => rw [List.getElem?_cons_succ, List.getElem?_cons_succ]; exact ih (fun i hi => hjs i (List.mem_cons_of_mem _ hi)) k
  have hclk' : ∀ k : Nat, cl[k]? = (ch[k]?).bind fun i : Nat => l[i]? := fun k => by rw [← hcl]; exact hclk ch (fun i hi => hi) k
  have hmemts : ∀ t, ts.contains t = true ↔ ∃ (i : Nat) (o : Oper), ch.contains i = true ∧ l[i]? = some o ∧ o.dst = some t := by
    intro t
    rw [List.contains_iff_mem, ← hts, ← hcl, List.mem_filterMap]
    constructor
    · rintro ⟨o, ho, hd⟩
      obtain ⟨i, hi, hio⟩ := List.mem_filterMap.1 ho
      exact ⟨i, o, List.contains_iff_mem.2 hi, hio, hd⟩
    · rintro ⟨i, o, hi, hio, hd⟩
      exact ⟨o, List.mem_filterMap.2 ⟨i, List.contains_iff_mem.1 hi, hio⟩, hd⟩
  refine wp_region_any hm ?_
  have key : ∀ (fuel : Nat) (listed : Array Bool) (a : Act) (W : World), RInvD l m ch St Rel a0 aE w listed a W →
      (List.range m).countP (fun i => !listed.getD i true) + (l.length - m) ≤ fuel → wpAny P .any l.toArray Q fuel listed a W := by
    intro fuel
    have fin : ∀ (fuel : Nat) (listed : Array Bool) (a : Act) (W : World), RInvD l m ch St Rel a0 aE w listed a W → (∀ j, j < m → listed.getD j false = true) → l.length - m ≤ fuel → wpAny P .any l.toArray Q fuel listed a W := by
      intro fuel listed a W hI hall hf
      have hcin : ∀ t, ts.contains t = true → t < aE.tmps.size → (canD (fun t => a.tmps.getD t undef) cl aE).tmps.getD t undef = a.tmps.getD t undef := fun t ht hlt => by
        obtain ⟨i, o, hi, hio, hd⟩ := (hmemts t).1 ht
        exact canD_in _ t cl aE hlt ⟨o, by rw [← hcl]; exact List.mem_filterMap.2 ⟨i, List.contains_iff_mem.1 hi, hio⟩, hd⟩
      have hcout : ∀ t, ¬ ts.contains t = true → (canD (fun t => a.tmps.getD t undef) cl aE).tmps.getD t undef = aE.tmps.getD t undef := fun t ht => by
        refine canD_other _ t cl aE (fun o ho e => ht ?_)
        rw [← hcl] at ho
        obtain ⟨i, hi, hio⟩ := List.mem_filterMap.1 ho
        exact (hmemts t).2 ⟨i, o, List.contains_iff_mem.2 hi, hio, e⟩
      have ea : a = canD (fun t => a.tmps.getD t undef) cl aE := by
        refine act_ext _ _ (by rw [hI.df, canD_defers, hEd]) (by rw [hI.sz, canD_size, hEs]) (fun t ht => ?_)
        by_cases htd : ts.contains t = true
        · exact (hcin t htd (by rw [hEs, ← hI.sz]; exact ht)).symm
        · rw [hcout t htd]
          by_cases hw : ∃ (j : Nat) (o : Oper), j < m ∧ l[j]? = some o ∧ o.dst = some t
          · obtain ⟨j, o, hjm, hj, ho⟩ := hw
            refine hI.fr1 j o t hjm hj ho ?_ (hall j hjm)
            cases hc : ch.contains j with
            | false => rfl
            | true => exact absurd ((hmemts t).2 ⟨j, o, hc, hj, ho⟩) htd
          · rw [hI.fr0 t (fun j o hjm hj ho => (hw ⟨j, o, hjm, hj, ho⟩).elim)]
            exact (hE0 t (fun j o hjm hj _ ho => hw ⟨j, o, hjm, hj, ho⟩)).symm
      have hq := H2.fin (fun t => a.tmps.getD t undef) cl aE W hI.bl (PastR.mk (fun t ht => by
        obtain ⟨i, o, hi, hio, hd⟩ := (hmemts t).1 (List.contains_iff_mem.2 ht)
        obtain ⟨him, -⟩ := hcdi i (List.contains_iff_mem.1 hi)
        have htN := ((viaChkC_at chk hio).2.2.1 him).2.1 t hd
        rw [hcin t (List.contains_iff_mem.2 ht) (by rw [hEs]; exact htN)]
        exact hI.fr2 i o t him hio hd hi (hall i him)))
      rw [← ea] at hq
      refine any_tailC chk fuel m listed _ W (Nat.le_refl _) hml hI.len (fun j hj => ⟨fun h => ?_, fun h => hall j h⟩) hf hq
      rcases Nat.lt_or_ge j m with h2 | h2
      · exact h2
      · rw [hI.rest j h2] at h; cases h
    induction fuel with
    | zero =>
      intro listed a W hI hc
      refine fin 0 listed a W hI (fun j hj => ?_) (by omega)
      have h0 : (List.range m).countP (fun i => !listed.getD i true) = 0 := by omega
      rw [List.countP_eq_zero] at h0
      have := h0 j (List.mem_range.2 hj)
      have hj' : j < listed.size := by rw [hI.len]; omega
      simpa [hj'] using this
    | succ fuel ih =>
      intro listed a W hI hc
      by_cases hall : ∀ j, j < m → listed.getD j false = true
      · exact fin _ listed a W hI hall (by omega)
      · have hno : ∀ i, i ∈ Region.ready .any l.toArray listed → i < m := by
          intro i hi
          rcases Nat.lt_or_ge i m with h | h
          · exact h
          · exfalso
            obtain ⟨o, hio, hil, hi0, ha⟩ := ready_mem hi hI.len
            rcases Nat.eq_or_lt_of_le h with h2 | h2
            · refine hall (fun j hj => ?_)
              exact reach_listed hI.dc _ i j o hio ha ((viaChkC_at chk hio).2.2.2.1 h2.symm j hj)
            · obtain ⟨e, he, hb, hon'⟩ := bindsTo_spec ((viaChkC_at chk hio).2.2.2.2 h2)
              have h3 := ha e he hb
              rw [hon', hI.rest (i - 1) (by omega)] at h3; cases h3
        refine ⟨fun hr0 => ?_, fun i hi => ?_⟩
        · exfalso
          have all : ∀ i, i < l.length → listed.getD i false = true := by
            intro i
            induction i using Nat.strongRecOn with
            | _ i ih2 =>
              intro hi
              cases hb : listed.getD i false with
              | true => rfl
              | false =>
                exfalso
                have ho : l[i]? = some l[i] := List.getElem?_eq_getElem hi
                have hmem : i ∈ Region.ready .any l.toArray listed := by
                  rw [mem_ready]
                  refine ⟨?_, l[i], by simp, fun e he hbd => ?_⟩
                  · have : i < listed.size := by have := hI.len; omega
                    simp [this] at hb ⊢; exact hb
                  · exact ih2 e.on ((viaChkC_at chk ho).2.1 e he hbd) (by have := (viaChkC_at chk ho).2.1 e he hbd; omega)
                rw [hr0] at hmem; cases hmem
          exact hall (fun j hj => all j (by omega))
        · have him := hno i hi
          obtain ⟨o, hio, hil, hi0, hal⟩ := ready_mem hi hI.len
          have hil' : i < listed.size := by rw [hI.len]; exact hil
          have ho : l.toArray[i]? = some o := by simpa using hio
          have hC := viaChkC_at chk hio
          have hCm := hC.2.2.1 him
          have hcnt : (List.range m).countP (fun j => !(listed.setIfInBounds i true).getD j true) + (l.length - m) ≤ fuel := by
            have := count_lt (fun j => !listed.getD j true) (fun j => !(listed.setIfInBounds i true).getD j true) (fun j hj => by
                by_cases e : i = j
                · subst e; simp [hil'] at hj
                · rw [getD_set_ne true e] at hj; exact hj) i (by simpa [hil'] using hi0) (by simp [hil']) (List.range m) (List.mem_range.2 him)
            omega
          have dcS : ∀ (i2 : Nat) (o2 : Oper), l[i2]? = some o2 → (listed.setIfInBounds i true).getD i2 false = true → ∀ e ∈ o2.after, Region.binds .any e = true → (listed.setIfInBounds i true).getD e.on false = true := by
            intro j oj hj hl e he hb
            rw [getD_set _ _ _ hil']
            by_cases ei : i = e.on
            · rw [if_pos ei]
            · rw [if_neg ei]
              rw [getD_set _ _ _ hil'] at hl
              by_cases ej : i = j
              · subst ej; rw [hio] at hj; obtain rfl := Option.some.inj hj; exact hal e he hb
              · rw [if_neg ej] at hl; exact hI.dc j oj hj hl e he hb
          have hi0f : listed.getD i false = false := by simpa [hil'] using hi0
          have restS : ∀ j, m ≤ j → (listed.setIfInBounds i true).getD j false = false := fun j hj => by rw [getD_set _ _ _ hil', if_neg (by omega)]; exact hI.rest j hj
          obtain ⟨t, hdst⟩ : ∃ t, o.dst = some t := by
            cases hd : o.dst with
            | some t => exact ⟨t, rfl⟩
            | none =>
              obtain ⟨-, o', t', ho', hd'⟩ := hcdi i (List.contains_iff_mem.1 (hCm.2.2.1 hd))
              rw [hio] at ho'; obtain rfl := Option.some.inj ho'; rw [hd] at hd'; cases hd'
          have htN := hCm.2.1 t hdst
          have fr0S : ∀ (v : Value) (u : Nat), (∀ (j : Nat) (o : Oper), j < m → l[j]? = some o → o.dst = some u → (listed.setIfInBounds i true).getD j false = false) → (a.put o.dst v).tmps.getD u undef = a0.tmps.getD u undef := by
            intro v u hnu
            have hou : o.dst ≠ some u := fun e => by
              have := hnu i o him hio e
              rw [getD_set _ _ _ hil', if_pos rfl] at this; cases this
            have e0 : (a.put o.dst v).tmps.getD u undef = a.tmps.getD u undef := by
              cases hd : o.dst with
              | none => rfl
              | some t => exact put_get_ne _ _ _ _ (fun e => hou (by rw [hd, e]))
            rw [e0]
            refine hI.fr0 u (fun j oj hjm hj hjd => ?_)
            have := hnu j oj hjm hj hjd
            rw [getD_set _ _ _ hil'] at this
            by_cases e : i = j
            · rw [if_pos e] at this; cases this
            · rw [if_neg e] at this; exact this
          cases hic : ch.contains i with
          | false =>
            rw [hdst] at fr0S
            have hCb := (chanB_at hcb him hio).2 hic
            have hrE : ∀ u ∈ readsOf o, a.tmps.getD u undef = aE.tmps.getD u undef := fun u hu => by
              by_cases hw : ∃ (j : Nat) (oj : Oper), j < m ∧ l[j]? = some oj ∧ oj.dst = some u
              · obtain ⟨j, oj, hjm, hj, hjd⟩ := hw
                obtain ⟨e, he, hb, hon'⟩ := bindsTo_spec (hCm.2.2.2 u hu j oj hjm hj hjd)
                refine hI.fr1 j oj u hjm hj hjd ?_ (by rw [← hon']; exact hal e he hb)
                cases hcj : ch.contains j with
                | false => rfl
                | true => exact absurd hjd (hCb.2 u hu j oj hcj hj)
              · rw [hI.fr0 u (fun j oj hjm hj ho => (hw ⟨j, oj, hjm, hj, ho⟩).elim), hE0 u (fun j oj hjm hj _ ho => hw ⟨j, oj, hjm, hj, ho⟩)]
            have heqE : execOp a.eval o = execOp aE.eval o := execOp_congr o hC.1 (fun x hx => by
              cases x with
              | tmp u => exact hrE u (List.mem_filterMap.2 ⟨.tmp u, by simpa using hx, rfl⟩)
              | _ => rfl)
            have hwe : Region.wanted o (yielded l.toArray a.tmps) = Region.wanted o (yielded l.toArray aE.tmps) := by
              unfold Region.wanted
              cases hg : o.guard with
              | none => rfl
              | some kb =>
                obtain ⟨k, b⟩ := kb
                obtain ⟨e, he, hb, hon'⟩ := bindsTo_spec (hCm.1 k b hg)
                have hkm := guardsIn_at hgd him hio hg
                have hlk : listed.getD k false = true := by rw [← hon']; exact hal e he hb
                have : yielded l.toArray a.tmps k = yielded l.toArray aE.tmps k := yielded_congr (by rw [hI.sz, hEs]) (fun ok tk hk' hdk => by
                  have hk2 : l[k]? = some ok := by simpa using hk'
                  exact hI.fr1 k ok tk hkm hk2 hdk (hCb.1 k b hg) hlk)
                simp only [this]
            have step : ∀ W', Below W.heap.size W W' → wpAny P .any l.toArray Q fuel (listed.setIfInBounds i true) (a.put (some t) (aE.tmps.getD t undef)) W' := by
              intro W' hWW
              have hS : St W W' := hst.lnk _ _ ⟨hWW⟩
              refine ih _ _ _ ⟨by rw [put_defers]; exact hI.df, by rw [put_size]; exact hI.sz, by simpa using hI.len, ?_, ?_, fr0S _, hst.tr _ _ _ hI.bl hS, restS, dcS⟩ hcnt
              · intro j oj u hjm hj hjd hjc hl
                by_cases htu : t = u
                · subst htu
                  rw [put_get_same _ _ _ (by rw [hI.sz]; exact htN)]
                · rw [put_get_ne _ _ _ _ htu]
                  rw [getD_set _ _ _ hil'] at hl
                  by_cases e : i = j
                  · subst e; rw [hio] at hj; obtain rfl := Option.some.inj hj; rw [hdst] at hjd; exact (htu (Option.some.inj hjd)).elim
                  · rw [if_neg e] at hl; exact hI.fr1 j oj u hjm hj hjd hjc hl
              · intro j oj u hjm hj hjd hjc hl
                have hij : i ≠ j := fun e => by subst e; rw [hic] at hjc; cases hjc
                rw [put_get_ne _ _ _ _ (fun e => onceC_at hon him hjm hij hio hj hdst (by rw [hjd, e]))]
                rw [getD_set _ _ _ hil', if_neg hij] at hl
                exact mono _ _ _ _ (hI.fr2 j oj u hjm hj hjd hjc hl) hS
            unfold wpOp
            simp only [ho]
            obtain ⟨us, hus, hue⟩ := quiet_out _ _ hsome (H1 W hI.bl ⟨W, Below.refl _ _⟩)
            obtain ⟨v, hv, h'⟩ := look hus hue him hic hio hdst
            rcases h' with ⟨hw, hq⟩ | ⟨hw, hu⟩
            · rw [hwe, hw]
              simp only [if_true]
              refine .inl ?_
              have hcalm := calmRun_of_quiet (w := W) (G := ⟨W, Below.refl _ _⟩) (hq W ⟨⟨W, Below.refl _ _⟩, rfl⟩)
              have hcalm' : calmAt P o a.eval W v := by
                refine ⟨?_⟩; have hh := hcalm.out; unfold calmRun at hh ⊢; rw [heqE]; exact hh
              refine wp_of_calm hcalm' (fun W' hb => ?_)
              rw [hdst, ← hv]
              exact step W' hb
            · rw [hwe, hw]
              simp only [Bool.false_eq_true, if_false, hdst]
              rw [hu] at hv
              rw [← hv]
              exact step W (Below.refl _ _)
          | true =>
            have hgn := (chanB_at hcb him hio).1 hic
            have hw : Region.wanted o (yielded l.toArray a.tmps) = true := by unfold Region.wanted; rw [hgn]
            obtain ⟨k, hkl, hk'⟩ := List.mem_iff_getElem.1 (List.contains_iff_mem.1 hic)
            have hk2 : ch[k]? = some i := by rw [← hk']; exact List.getElem?_eq_getElem hkl
            have hck : cl[k]? = some o := by rw [hclk', hk2]; exact hio
            -- the chain's operations ahead of this one
            have hpre : ∀ (j : Nat) (oj : Oper), j < i → ch.contains j = true → l[j]? = some oj → oj ∈ cl.take k := fun j oj hji hjc hj => by
              obtain ⟨k', hkl', hk''⟩ := List.mem_iff_getElem.1 (List.contains_iff_mem.1 hjc)
              have hk3 : ch[k']? = some j := by rw [← hk'']; exact List.getElem?_eq_getElem hkl'
              have hlt := chAsc_at has hk3 hk2 hji
              have hcj : cl[k']? = some oj := by rw [hclk', hk3]; exact hj
              exact List.mem_take_iff_getElem.2 ⟨k', by have := (List.getElem?_eq_some_iff.1 hcj).1; omega, (List.getElem?_eq_some_iff.1 hcj).2⟩
            have hb0 : ∀ u ∈ readsOf o, (canD (fun t => a.tmps.getD t undef) (cl.take k) aE).tmps.getD u undef = a.tmps.getD u undef ∧ (ts.contains u = true → Rel u (a.tmps.getD u undef) W) := fun u hu => by
              by_cases hw : ∃ (j : Nat) (oj : Oper), j < m ∧ l[j]? = some oj ∧ oj.dst = some u
              · obtain ⟨j, oj, hjm, hj, hjd⟩ := hw
                obtain ⟨e, he, hb, hon'⟩ := bindsTo_spec (hCm.2.2.2 u hu j oj hjm hj hjd)
                have hlj : listed.getD j false = true := by rw [← hon']; exact hal e he hb
                have hji : j < i := by have := hC.2.1 e he hb; omega
                have huN := ((viaChkC_at chk hj).2.2.1 hjm).2.1 u hjd
                cases hcj : ch.contains j with
                | true => exact ⟨canD_in _ u _ aE (by rw [hEs]; exact huN) ⟨oj, hpre j oj hji hcj hj, hjd⟩, fun _ => hI.fr2 j oj u hjm hj hjd hcj hlj⟩
                | false =>
                  have hno2 : ∀ (j' : Nat) (o' : Oper), ch.contains j' = true → l[j']? = some o' → o'.dst ≠ some u := fun j' o' hj' ho' hd' => by
                    obtain ⟨hjm', -⟩ := hcdi j' (List.contains_iff_mem.1 hj')
                    exact onceC_at hon hjm hjm' (fun e => by subst e; rw [hcj] at hj'; cases hj') hj ho' hjd hd'
                  refine ⟨?_, fun htu => ?_⟩
                  · rw [canD_other _ u _ aE (fun o' ho' hd' => by
                      have ho2 := List.mem_of_mem_take ho'
                      rw [← hcl] at ho2
                      obtain ⟨i', hi', hio'⟩ := List.mem_filterMap.1 ho2
                      exact hno2 i' o' (List.contains_iff_mem.2 hi') hio' hd')]
                    exact (hI.fr1 j oj u hjm hj hjd hcj hlj).symm
                  · obtain ⟨i', o', hi', hio', hd'⟩ := (hmemts u).1 htu
                    exact absurd hd' (hno2 i' o' hi' hio')
              · have hno2 : ∀ (j' : Nat) (o' : Oper), ch.contains j' = true → l[j']? = some o' → o'.dst ≠ some u := fun j' o' hj' ho' hd' => by
                  obtain ⟨hjm', -⟩ := hcdi j' (List.contains_iff_mem.1 hj')
                  exact hw ⟨j', o', hjm', ho', hd'⟩
                refine ⟨?_, fun htu => ?_⟩
                · rw [canD_other _ u _ aE (fun o' ho' hd' => by
                    have ho2 := List.mem_of_mem_take ho'
                    rw [← hcl] at ho2
                    obtain ⟨i', hi', hio'⟩ := List.mem_filterMap.1 ho2
                    exact hno2 i' o' (List.contains_iff_mem.2 hi') hio' hd'),
                    hI.fr0 u (fun j oj hjm hj ho => (hw ⟨j, oj, hjm, hj, ho⟩).elim), hE0 u (fun j oj hjm hj _ ho => hw ⟨j, oj, hjm, hj, ho⟩)]
                · obtain ⟨i', o', hi', hio', hd'⟩ := (hmemts u).1 htu
                  exact absurd hd' (hno2 i' o' hi' hio')
            have heqs : execOp a.eval o = execOp (canD (fun t => a.tmps.getD t undef) (cl.take k) aE).eval o := execOp_congr o hC.1 (fun x hx => by
              cases x with
              | tmp u => exact (hb0 u (List.mem_filterMap.2 ⟨.tmp u, by simpa using hx, rfl⟩)).1.symm
              | _ => rfl)
            have hone := H2.at (fun t => a.tmps.getD t undef) cl aE k o hck W hI.bl (fun u hu htu => by
              obtain ⟨h1, h2⟩ := hb0 u (List.contains_iff_mem.1 hu)
              rw [h1]; exact h2 htu)
            have hws : Region.wanted o (yielded l.toArray (canD (fun t => a.tmps.getD t undef) (cl.take k) aE).tmps) = true := by unfold Region.wanted; rw [hgn]
            have hcs : (canD (fun t => a.tmps.getD t undef) (cl.take k) aE).tmps.size = a0.tmps.size := by rw [canD_size, hEs]
            generalize canD (fun t => a.tmps.getD t undef) (cl.take k) aE = aC at *
            unfold wpList at hone
            rw [if_pos hws] at hone
            have hwp := hone.resolve_right (fun ⟨_, a1, w1, h1⟩ => by cases h1.e1)
            unfold wpOp
            simp only [ho, hw, if_true]
            refine .inl (Oper.wp_mono (fun a' W' h => ?_) (wp_other (Q := Q) heqs (fun e a w h => h.e1) (fun a' w' h => by obtain ⟨v, h1, -⟩ := h.out; exact ⟨v, h1⟩) hwp))
            obtain ⟨v, rfl, hde⟩ := h
            obtain ⟨v', hv', hS, hRt⟩ := hde.out
            rw [hdst] at hv' hRt fr0S ⊢
            have hvv : v = v' := by
              have : (aC.put (some t) v).tmps.getD t undef = (aC.put (some t) v').tmps.getD t undef := congrArg (fun x : Act => x.tmps.getD t undef) hv'
              rwa [put_get_same _ _ _ (by rw [hcs]; exact htN), put_get_same _ _ _ (by rw [hcs]; exact htN)] at this
            subst hvv
            replace hRt : Rel t v W' := hRt
            refine ih _ _ W' ⟨by rw [put_defers]; exact hI.df, by rw [put_size]; exact hI.sz, by simpa using hI.len, ?_, ?_, fr0S _, hst.tr _ _ _ hI.bl hS, restS, dcS⟩ hcnt
            · intro j oj u hjm hj hjd hjc hl
              have hij : i ≠ j := fun e => by subst e; rw [hic] at hjc; cases hjc
              rw [put_get_ne _ _ _ _ (fun e => onceC_at hon him hjm hij hio hj hdst (by rw [hjd, e]))]
              rw [getD_set _ _ _ hil', if_neg hij] at hl
              exact hI.fr1 j oj u hjm hj hjd hjc hl
            · intro j oj u hjm hj hjd hjc hl
              by_cases htu : t = u
              · subst htu
                rw [put_get_same _ _ _ (by rw [hI.sz]; exact htN)]
                exact hRt
              · rw [put_get_ne _ _ _ _ htu]
                rw [getD_set _ _ _ hil'] at hl
                by_cases e : i = j
                · subst e; rw [hio] at hj; obtain rfl := Option.some.inj hj; rw [hdst] at hjd; exact (htu (Option.some.inj hjd)).elim
                · rw [if_neg e] at hl; exact mono _ _ _ _ (hI.fr2 j oj u hjm hj hjd hjc hl) hS
  refine key _ _ _ _ ⟨rfl, rfl, by simp, ?_, ?_, ?_, hst.lnk _ _ ⟨⟨rfl, rfl, rfl, Nat.le_refl _, fun _ _ => rfl⟩⟩, ?_, ?_⟩ ?_
  · intro j o t _ hj hjd _ hl; rw [rep_false] at hl; cases hl
  · intro j o t _ hj hjd _ hl; rw [rep_false] at hl; cases hl
  · intro t _; rfl
  · intro j _; exact rep_false _ _
  · intro j o _ hl; rw [rep_false] at hl; cases hl
  · have : (List.range m).countP (fun i => !(Array.replicate l.toArray.size false).getD i true) ≤ m := Nat.le_trans List.countP_le_length (by simp)
    simp at this ⊢; omega
end
structure MonoS (St : World → World → Prop) (R : Value → World → Prop) : Prop where
  out : ∀ v W W', R v W → St W W' → R v W'
def AllMS (St : World → World → Prop) : List (Nat × (Value → World → Prop)) → Prop
  | [] => True
  | kv :: r => MonoS St kv.2 ∧ AllMS St r
theorem AllMS.spec {St : World → World → Prop} : ∀ (rs : List (Nat × (Value → World → Prop))), AllMS St rs → ∀ t v W W', relOf rs t v W → St W W' → relOf rs t v W'
  | [], _, _, _, _, _, _, _ => trivial
  | kv :: r, h, t, v, W, W', hr, hb => by
    unfold relOf at hr ⊢
    split
    · rename_i e; rw [if_pos e] at hr; exact h.1.out v W W' hr hb
    · rename_i e; rw [if_neg e] at hr; exact AllMS.spec r h.2 t v W W' hr hb
theorem region_DR {P : Program} {Q : Exit → Act → World → Prop} {l : List Oper} {a0 : Act} {w : World} {id : Nat} (m : Nat) (ch : List Nat) (St : World → World → Prop) (rs : List (Nat × (Value → World → Prop))) {ms mc : List Bool} {rl cl : List Oper} (hpk : Pick l ms rl) (hpc : Pick l mc cl)
    (hst : StOk St) (mono : AllMS St rs)
    (H : ∃ aE, (∀ W0, St w W0 → ∀ G : Grow0 W0, wpQuiet P l.toArray (fun w' => ∃ g : Grow W0 G, w' = g.W) (fun a' => a' = aE) rl a0) ∧ wpDR P l.toArray St (relOf rs) (rs.map (·.1)) w (fun a' W' => wpList P l.toArray Q (l.drop m) a' W') cl aE)
    (hm : P.follows .mixedOrders = true := by kernel_rfl) (hml : m ≤ l.length := by decide)
    (hrl : (((List.range m).filter fun i => !ch.contains i).filterMap fun i => l[i]?) = rl := by kernel_rfl) (hcl : (ch.filterMap fun i => l[i]?) = cl := by kernel_rfl) (hts : cl.filterMap (·.dst) = rs.map (·.1) := by kernel_rfl)
    (chk : viaChkC l m a0.tmps.size ch = true := by kernel_rfl) (hgd : guardsIn l m = true := by kernel_rfl) (hon : onceC l m = true := by kernel_rfl) (hcb : chanB l m ch = true := by kernel_rfl) (has : chAsc ch = true := by kernel_rfl) (hcd : chDst l m ch = true := by kernel_rfl) :
    (Code.region id l.toArray true).wp P Q a0 w := by
  subst hrl
  exact region_dr m ch St (relOf rs) hm hml chk hgd hon hcb has hcd hcl hts hst (fun t v W W' hr hS => AllMS.spec rs mono t v W W' hr hS) H
end Go.Proofs.YtaocnklolgdkfaaGreat
/- Contracts: what seldom is no map. -- draws -/
namespace Go.Proofs.YtaocnklolgdkfaaGreat
open Go.RowKit
set_option linter.unusedVariables false
set_option linter.unusedSimpArgs false
/-- A step that may draw. -/
structure StD (g : Nat) (b : Option Addr) (n c : Nat) (W W' : World) : Prop where
  src : SrcK W g b n c → SrcK W' g b n c
  but : ButK g W W'
theorem stD (g : Nat) (b : Option Addr) (n c : Nat) : StOk (StD g b n c) :=
  ⟨fun W W' l => ⟨fun h => h.link l, (ButK.refl g W).low (Link.low l)⟩, fun W W' W'' h h' => ⟨fun hs => h'.src (h.src hs), h'.but.tr h.but⟩⟩
theorem StD.refl {g n c : Nat} {b : Option Addr} {W : World} : StD g b n c W W := ⟨fun h => h, ButK.refl g W⟩
theorem Drew.st {g n c : Nat} {b : Option Addr} {W W' : World} (h : Drew g b n c W W') : StD g b n c W W' := ⟨fun _ => h.src, h.but⟩
theorem StD.drew {g n c : Nat} {b : Option Addr} {W W' : World} (h : StD g b n c W W') (hs : SrcK W g b n c) : Drew g b n c W W' := ⟨h.src hs, h.but⟩
theorem LowK.st {g n c : Nat} {b : Option Addr} {W W' : World} (l : LowK W W') : StD g b n c W W' := ⟨fun h => h.link (LowK.lnk l), (ButK.refl g W).low l⟩
theorem RowK.std {g n c h : Nat} {b : Option Addr} {W W' : World} {cs : Array Value} {T : TypeId} (st : StD g b n c W W') (hne : h ≠ g) (hr : RowK W h cs T) : RowK W' h cs T := hr.but st.but hne
/-- A number. -/
def isI (Pn : Int → Prop) : Value → World → Prop := fun v _ => ∃ r : Int, v = .int .i64 r ∧ Pn r
theorem mono_isI (St : World → World → Prop) (Pn : Int → Prop) : MonoS St (isI Pn) := ⟨fun _ _ _ h _ => h⟩
set_option pp.deepTerms false
set_option pp.deepTerms.threshold 10
end Go.Proofs.YtaocnklolgdkfaaGreat
/- Lists of lists of points in memory; the classes as lists. -/
namespace Go.Proofs.YtaocnklolgdkfaaGreat
open Go.RowKit
set_option linter.unusedVariables false
set_option linter.unusedSimpArgs false
/-- Block, room and points of each list. -/
abbrev Row3 := Nat × Nat × List Pt
@[reducible] def slV (t : Row3) : Value := .slice (some ⟨t.1, 0, none⟩) t.2.2.length t.2.1
structure TabK (W : World) (B : Nat) (T : List Row3) : Prop where
  out : (∀ t ∈ T, 0 < t.2.2.length ∧ OwnK W B 56 3 (slV t) t.2.2.length (ptCs t.2.2)) ∧ (T.map (·.1)).Nodup
theorem TabK.nil (W : World) (B : Nat) : TabK W B [] := ⟨⟨fun t ht => absurd ht (by simp), by simp⟩⟩
theorem TabK.link {W W' : World} {B : Nat} {T : List Row3} (l : Link W W') (h : TabK W B T) : TabK W' B T := ⟨⟨fun t ht => ⟨(h.out.1 t ht).1, (h.out.1 t ht).2.link l⟩, h.out.2⟩⟩
theorem own_types {W : World} {B B' sz sz' n n' : Nat} {T T' : TypeId} {v u : Value} {xs xs' : List Value} (h : OwnK W B T sz v n xs) (h' : OwnK W B' T' sz' u n' xs') (hne : T ≠ T') (b : Nat) (hb : v.ownBlock = some b) : u.ownBlock ≠ some b := by
  intro hu
  rcases h.out.2 with ⟨rfl, _⟩ | ⟨g1, c1, r1, rfl, _, h1, _⟩
  · simp [Value.ownBlock] at hb
  · rcases h'.out.2 with ⟨rfl, _⟩ | ⟨g2, c2, r2, rfl, _, h2, _⟩
    · simp [Value.ownBlock] at hu
    · simp [Value.ownBlock] at hb hu
      subst hb; subst hu
      rw [h1] at h2
      cases h2
      exact hne rfl
theorem TabK.grew {W W' : World} {B B' n : Nat} {T : List Row3} {u : Value} {xs : List Value} (hg : Grew W u W') (hO : OwnK W B' 25 1 u n xs) (h : TabK W B T) : TabK W' B T :=
  ⟨⟨fun t ht => ⟨(h.out.1 t ht).1, OwnK.grew hg (h.out.1 t ht).2 (fun b hb => own_types (h.out.1 t ht).2 hO (by decide) b hb)⟩, h.out.2⟩⟩
theorem TabK.lt {W : World} {B : Nat} {T : List Row3} (h : TabK W B T) {t : Row3} (ht : t ∈ T) : t.1 < W.heap.size := (h.out.1 t ht).2.lt t.1 rfl
/-- The points of a class. -/
def filtP (cls : Nat → Nat) (L : List Pt) (i : Nat) : Nat → List Pt
  | 0 => []
  | k + 1 => if cls k = i then filtP cls L i k ++ [L.getD k p0] else filtP cls L i k
theorem filtP_yes {cls : Nat → Nat} {L : List Pt} {i k : Nat} {t : Pt} (h : cls k = i) (ht : L.getD k p0 = t) : filtP cls L i (k + 1) = filtP cls L i k ++ [t] := by rw [← ht]; exact if_pos h
theorem filtP_no {cls : Nat → Nat} {L : List Pt} {i k : Nat} (h : ¬ cls k = i) : filtP cls L i (k + 1) = filtP cls L i k := if_neg h
theorem filtP_mem {cls : Nat → Nat} {L : List Pt} {i : Nat} {t : Pt} : ∀ {k}, t ∈ filtP cls L i k ↔ ∃ q, q < k ∧ cls q = i ∧ L.getD q p0 = t
  | 0 => by simp [filtP]
  | k + 1 => by
    by_cases h : cls k = i
    · rw [filtP_yes h rfl, List.mem_append, filtP_mem, List.mem_singleton]
      constructor
      · rintro (⟨q, h1, h2⟩ | rfl)
        · exact ⟨q, by omega, h2⟩
        · exact ⟨k, by omega, h, rfl⟩
      · rintro ⟨q, h1, h2, h3⟩
        by_cases e : q = k
        · subst e; exact .inr h3.symm
        · exact .inl ⟨q, by omega, h2, h3⟩
    · rw [filtP_no h, filtP_mem]
      constructor
      · rintro ⟨q, h1, h2⟩; exact ⟨q, by omega, h2⟩
      · rintro ⟨q, h1, h2, h3⟩
        refine ⟨q, ?_, h2, h3⟩
        by_cases e : q = k
        · subst e; exact absurd h2 h
        · omega
end Go.Proofs.YtaocnklolgdkfaaGreat
/- Small things for the walks over a group. -- maps -/
namespace Go.Proofs.YtaocnklolgdkfaaGreat
open Go.RowKit
set_option linter.unusedVariables false
set_option linter.unusedSimpArgs false
theorem OwnK.oneM {W : World} {B g : Nat} {T : TypeId} {t : M9} (h : RowK W g (mC t) T) (hB : B ≤ g) : OwnK W B T 9 (.slice (some ⟨g, 0, none⟩) 1 1) 1 (mCs [t]) :=
  ⟨⟨by simp [mCs, mC], .inr ⟨g, 1, mC t, rfl, hB, h.out, by omega, by first | exact mC_one t | decide, rfl, by simp [mCs, mC]⟩⟩⟩
def OutA (p : Int) (ms : List M9) (r e : Int) : Prop := (∃ K, GoodA p ms K ∧ (seqA p ms K).length = K ∧ r = (K : Int) ∧ e = 0) ∨ (∃ I, GoodA p ms I ∧ I < (seqA p ms I).length ∧ 200 < (seqA p ms (I + 1)).length ∧ r = 0 ∧ e = 3)
theorem OutA.whole {p : Int} {ms : List M9} {r e : Int} (h : OutA p ms r e) {i : Nat} (hg : GoodA p ms i) (hi : (seqA p ms i).length = i) : r = (i : Int) ∧ e = 0 := by
  rcases h with ⟨K, hK, hk, hr, he⟩ | ⟨I, hI, h2, h3, _, _⟩
  · rcases Nat.lt_trichotomy i K with h1 | h1 | h1
    · have := (hK i h1).1; omega
    · subst h1; exact ⟨hr, he⟩
    · have := (hg K h1).1; omega
  · exfalso
    rcases Nat.lt_trichotomy i I with h1 | h1 | h1
    · have := (hI i h1).1; omega
    · subst h1; omega
    · have := (hg I h1).2; omega
theorem Of.or {S : Array Bool} (j : Nat) : Of S j ∨ On S j := by
  cases h : S.getD j false with
  | false => exact .inl ⟨h⟩
  | true => exact .inr ⟨h⟩
theorem GoMapK.drew {W : World} {g : Nat} {L : List M9} (h : GoMapK W g L) : GoMapK W.drew g L := h.blk rfl
end Go.Proofs.YtaocnklolgdkfaaGreat
/- Contracts: the program's orbits. -- maps -- boxmaps -- classes -/
namespace Go.Proofs.YtaocnklolgdkfaaGreat
open Go.RowKit
set_option linter.unusedVariables false
set_option linter.unusedSimpArgs false
set_option pp.deepTerms false
set_option pp.deepTerms.threshold 10
end Go.Proofs.YtaocnklolgdkfaaGreat
/- Contracts: the reference's orbit of a point; the reference's AreInOneOrbit. -- maps -- gomaps -- slice2 -/
namespace Go.Proofs.YtaocnklolgdkfaaGreat
open Go.RowKit
set_option linter.unusedVariables false
set_option linter.unusedSimpArgs false
/-- A list of points that may be empty. -/
def PtsE (W : World) (b : Option Addr) (n : Nat) (L : List Pt) : Prop := L.length = n ∧ (0 < n → ∃ g, b = some ⟨g, 0, none⟩ ∧ PtsK W g 0 n L)
theorem PtsE.link {w W : World} {b : Option Addr} {n : Nat} {L : List Pt} (l : Link w W) (h : PtsE w b n L) : PtsE W b n L := ⟨h.1, fun hn => by obtain ⟨g, e, hP⟩ := h.2 hn; exact ⟨g, e, hP.link l⟩⟩
theorem PtsE.of {w : World} {g n : Nat} {L : List Pt} (hl : L.length = n) (h : PtsK w g 0 n L) : PtsE w (some ⟨g, 0, none⟩) n L := ⟨hl, fun _ => ⟨g, rfl, h⟩⟩
def pC2 (p q : Pt) : Array Value := #[.int .i64 p.1, .int .i64 p.2.1, .int .i64 p.2.2, .int .i64 q.1, .int .i64 q.2.1, .int .i64 q.2.2]
theorem PtsK.two {W : World} {g : Nat} {T : TypeId} {p q : Pt} (h : RowK W g (pC2 p q) T) : PtsK W g 0 2 [p, q] := by
  refine ⟨fun i hi => ?_⟩
  rcases (show i = 0 ∨ i = 1 by omega) with rfl | rfl <;> (refine ⟨?_, ?_, ?_⟩ <;> (rw [cell_of_row W g _ _ _ _ h.out]; rfl))
end Go.Proofs.YtaocnklolgdkfaaGreat
/- Plain words: Desargues' theorem modulo a prime. -/
namespace Go.Proofs.YtaocnklolgdkfaaGreat
set_option linter.unusedVariables false
set_option linter.unusedSimpArgs false
end Go.Proofs.YtaocnklolgdkfaaGreat
/- Plain words: what DesarguesLine returns, and what both makings lean on. -/
namespace Go.Proofs.YtaocnklolgdkfaaGreat
set_option linter.unusedVariables false
set_option linter.unusedSimpArgs false
end Go.Proofs.YtaocnklolgdkfaaGreat
/- Contracts: the program's PappusLine, walked. (Printed by genp5.py, a program of this session.) -/
namespace Go.Proofs.YtaocnklolgdkfaaGreat
open Go.RowKit
set_option linter.unusedVariables false
set_option linter.unusedSimpArgs false
end Go.Proofs.YtaocnklolgdkfaaGreat
/- Contracts: the reference's PappusLine, walked. (Printed by genp6.py, a program of this session.) -/
namespace Go.Proofs.YtaocnklolgdkfaaGreat
open Go.RowKit
set_option linter.unusedVariables false
set_option linter.unusedSimpArgs false
end Go.Proofs.YtaocnklolgdkfaaGreat
/- Contracts: pointsThat, for each closure that is handed to it. (Printed by genthat.py, a program of this session.) -/
namespace Go.Proofs.YtaocnklolgdkfaaGreat
open Go.RowKit
set_option linter.unusedVariables false
set_option linter.unusedSimpArgs false
end Go.Proofs.YtaocnklolgdkfaaGreat
/- Contracts: the two closures of QuadranglePoint. -/
namespace Go.Proofs.YtaocnklolgdkfaaGreat
open Go.RowKit
set_option linter.unusedVariables false
set_option linter.unusedSimpArgs false
end Go.Proofs.YtaocnklolgdkfaaGreat
/- Contracts: the fourth harmonic point: the reference. -/
namespace Go.Proofs.YtaocnklolgdkfaaGreat
open Go.RowKit
set_option linter.unusedVariables false
set_option linter.unusedSimpArgs false
/-- What the walks lean on, the points named. -/
structure QuadAt (n : Nat) (A B C L R S s V1 V2 t V3 V4 u V5 o : Pt) : Prop where
  eq : quadR n A B C = (o, 0)
  hp : prB (n : Int) = true
  n3 : 3 ≤ n ∧ n ≤ 13
  iA : In13 A
  iB : In13 B
  iC : In13 C
  iR : In13 R
  is : In13 s
  iL : In13 L
  iS : In13 S
  i1 : In13 V1
  i2 : In13 V2
  it : In13 t
  i3 : In13 V3
  i4 : In13 V4
  iu : In13 u
  i5 : In13 V5
  eL : crsN n A B = L
  offL : ∃ x ∈ allP n, onB (n : Int) x L = false
  eR : headP ((allP n).filter (fun x => !onB (n : Int) x L)) = R
  eS : crsN n A R = S
  onS : ∃ x ∈ allP n, (onB (n : Int) x S = true ∧ x ≠ A ∧ x ≠ R)
  es : headP ((allP n).filter (fun x => onB (n : Int) x S && (!eqP x A && !eqP x R))) = s
  e1 : crsN n B s = V1
  e2 : crsN n C R = V2
  et : crsN n V1 V2 = t
  e3 : crsN n B R = V3
  e4 : crsN n A t = V4
  eu : crsN n V3 V4 = u
  e5 : crsN n s u = V5
  eo : crsN n L V5 = o
end Go.Proofs.YtaocnklolgdkfaaGreat
/- Contracts: slices.Index and slices.Contains over points; two own lists of points, with what else a walk holds. (Printed by genq3.py, a program of this session.) -/
namespace Go.Proofs.YtaocnklolgdkfaaGreat
open Go.RowKit
set_option linter.unusedVariables false
set_option linter.unusedSimpArgs false
/-- What a walk holds beside its two own lists: the result's cell. -/
structure DesS (w W : World) (B : Nat) (T1 T2 : TypeId) (v1 : Value) (n1 : Nat) (l1 : List Pt) (v2 : Value) (n2 : Nat) (l2 : List Pt) : Prop where
  kr : W.heap[w.heap.size]? = some (.cells #[.int .i64 0, .int .i64 0, .int .i64 0] 38 (0, 0))
  bl : Below w.heap.size w W
  o1 : W.ownsRow B T1 3 v1 n1 (ptCs l1)
  o2 : W.ownsRow B T2 3 v2 n2 (ptCs l2)
  ne : ∀ b c, v1.ownBlock = some b → v2.ownBlock = some c → b ≠ c
  lo : w.heap.size < B
theorem DesS.below {w W W' : World} {B : Nat} {T1 T2 : TypeId} {v1 v2 : Value} {n1 n2 : Nat} {l1 l2 : List Pt} (h : DesS w W B T1 T2 v1 n1 l1 v2 n2 l2) (hb : Below W.heap.size W W') : DesS w W' B T1 T2 v1 n1 l1 v2 n2 l2 :=
  ⟨(hb.block _ (Array.getElem?_eq_some_iff.1 h.kr).1).trans h.kr, low_tr' h.bl hb h.bl.size, own_below h.o1 hb, own_below h.o2 hb, h.ne, h.lo⟩
end Go.Proofs.YtaocnklolgdkfaaGreat
/- Contracts: the program's AreInOneOrbit. -- maps -- gomaps -- slice2 -- classes -/
namespace Go.Proofs.YtaocnklolgdkfaaGreat
open Go.RowKit
set_option linter.unusedVariables false
set_option linter.unusedSimpArgs false
/-- In the lists of the classes a point's list is its orbit. -/
structure OrbL (Ls : List (List Pt)) (x y : Pt) (v : Bool) : Prop where
  has : ∃ l ∈ Ls, x ∈ l
  all : ∀ l ∈ Ls, x ∈ l → decide (y ∈ l) = v
end Go.Proofs.YtaocnklolgdkfaaGreat
/- Contracts: OrbitsOf, the reference's and the program's. -- maps -- gomaps -- classes -/
namespace Go.Proofs.YtaocnklolgdkfaaGreat
open Go.RowKit
set_option linter.unusedVariables false
set_option linter.unusedSimpArgs false
/-- Points of the orbits of the classes' first ones. -/
def metL (cls : Nat → Nat) (orb : Nat → List Pt) : Nat → List Pt
  | 0 => []
  | i + 1 => if cls i = i then metL cls orb i ++ orb i else metL cls orb i
theorem metL_yes {cls : Nat → Nat} {orb : Nat → List Pt} {i : Nat} {S : List Pt} (h : cls i = i) (hS : orb i = S) : metL cls orb (i + 1) = metL cls orb i ++ S := by rw [← hS]; exact if_pos h
theorem metL_no {cls : Nat → Nat} {orb : Nat → List Pt} {i : Nat} (h : ¬ cls i = i) : metL cls orb (i + 1) = metL cls orb i := if_neg h
/-- Classes, their first points, their orbits. -/
structure ClsK (L : List Pt) (N : Nat) (cls : Nat → Nat) (orb : Nat → List Pt) : Prop where
  lab : ∀ q, cls q ≤ q ∧ cls (cls q) = cls q
  mem : ∀ i j, i < N → j < N → (L.getD j p0 ∈ orb i ↔ cls j = cls i)
  len : ∀ i, i < N → (orb i).length ≤ 183
theorem ClsK.met {L : List Pt} {N : Nat} {cls : Nat → Nat} {orb : Nat → List Pt} (h : ClsK L N cls orb) {j : Nat} (hj : j < N) : ∀ i, i ≤ N → (L.getD j p0 ∈ metL cls orb i ↔ cls j < i)
  | 0, _ => by simp [metL]
  | i + 1, hi => by
    have ih := h.met hj i (by omega)
    have hl := h.lab j
    by_cases e : cls i = i
    · rw [metL_yes e rfl, List.mem_append, ih, h.mem i j (by omega) hj, e]; omega
    · rw [metL_no e, ih]
      constructor
      · intro h2; omega
      · intro h2
        by_cases e2 : cls j = i
        · rw [← e2] at e; exact absurd hl.2 e
        · omega
theorem ClsK.first {L : List Pt} {N : Nat} {cls : Nat → Nat} {orb : Nat → List Pt} (h : ClsK L N cls orb) {i : Nat} : ∀ k, k ≤ i → filtP cls L i k = []
  | 0, _ => rfl
  | k + 1, hk => by rw [filtP_no (by have := (h.lab k).1; omega)]; exact h.first k (by omega)
theorem ClsK.none {L : List Pt} {N : Nat} {cls : Nat → Nat} {orb : Nat → List Pt} (h : ClsK L N cls orb) {i : Nat} (hi : ¬ cls i = i) : ∀ k, filtP cls L i k = []
  | 0 => rfl
  | k + 1 => by rw [filtP_no (fun e => hi (by have := (h.lab k).2; rw [e] at this; exact this))]; exact h.none hi k
theorem ClsK.some {L : List Pt} {N : Nat} {cls : Nat → Nat} {orb : Nat → List Pt} (h : ClsK L N cls orb) {i : Nat} (hi : cls i = i) (hN : i < N) : 0 < (filtP cls L i N).length := List.length_pos_of_mem (filtP_mem.2 ⟨i, hN, hi, rfl⟩)
theorem l01Points_K (n : Nat) (w : World) (h : 3 ≤ n ∧ n ≤ 13) : Calls Tryz.prog 89 #[.int .i64 (n : Int)] w (fun e w' => ∃ g cap, e = .returned (.slice (some ⟨g, 0, none⟩) (allP n).length cap) ∧ w.heap.size ≤ g ∧ g < w'.heap.size ∧ PtsK w' g 0 (allP n).length (allP n) ∧ LowK w w') :=
  (l01Points_any n w h).mono fun e w' hp => by
    obtain ⟨v, rfl, ho, hb⟩ := hp.out
    obtain ⟨g, cap, rfl, h1, h2, h3⟩ := OwnK.pts ⟨ho⟩ rfl (by rw [allP_length]; omega)
    exact ⟨g, cap, rfl, h1, h2, h3, ⟨hb⟩⟩
set_option pp.deepTerms false
set_option pp.deepTerms.threshold 10
end Go.Proofs.YtaocnklolgdkfaaGreat
/- Contracts: points that are drawn. -- draws -/
namespace Go.Proofs.YtaocnklolgdkfaaGreat
open Go.RowKit
set_option linter.unusedVariables false
set_option linter.unusedSimpArgs false
/-- A block of three numbers. -/
structure PntP (W : World) (g : Nat) : Prop where
  out : ∃ cs, RowK W g cs 56 ∧ cs.size = 3 ∧ ∀ k, k < 3 → ∃ r, cs[k]? = some (.int .i64 r)
theorem PntP.link {W W' : World} {g : Nat} (l : Link W W') (h : PntP W g) : PntP W' g := by
  obtain ⟨cs, h1, h2⟩ := h.out
  exact ⟨cs, h1.link l, h2⟩
theorem PntP.set {W : World} {g k : Nat} {r : Int} (h : PntP W g) (hk : k < 3) : PntP (W.setCell ⟨g, k, none⟩ (.int .i64 r)) g := by
  obtain ⟨cs, h1, h2, h3⟩ := h.out
  refine ⟨cs.setIfInBounds k (.int .i64 r), h1.setC _, by simpa using h2, fun j hj => ?_⟩
  by_cases e : k = j
  · subst e
    exact ⟨r, by simp [h2, hk]⟩
  · obtain ⟨x, hx⟩ := h3 j hj
    exact ⟨x, by rw [Array.getElem?_setIfInBounds_ne e]; exact hx⟩
theorem PntP.get {W : World} {g : Nat} (h : PntP W g) : ∃ t : Pt, RowK W g (pC t) 56 := by
  obtain ⟨cs, h1, h2, h3⟩ := h.out
  obtain ⟨r0, e0⟩ := h3 0 (by decide)
  obtain ⟨r1, e1⟩ := h3 1 (by decide)
  obtain ⟨r2, e2⟩ := h3 2 (by decide)
  have e : cs = pC (r0, r1, r2) := by
    apply Array.ext_getElem?
    intro i
    by_cases hi : i < 3
    · rcases (show i = 0 ∨ i = 1 ∨ i = 2 by omega) with rfl | rfl | rfl
      · rw [e0]; rfl
      · rw [e1]; rfl
      · rw [e2]; rfl
    · rw [Array.getElem?_eq_none (by omega), Array.getElem?_eq_none (by show 3 ≤ i; omega)]
  rw [e] at h1
  exact ⟨_, h1⟩
theorem PntP.of {W : World} {g : Nat} {t : Pt} (h : RowK W g (pC t) 56) : PntP W g := by
  refine ⟨pC t, h, rfl, fun k hk => ?_⟩
  rcases (show k = 0 ∨ k = 1 ∨ k = 2 by omega) with rfl | rfl | rfl <;> exact ⟨_, rfl⟩
theorem PntP.st {W : World} {g k : Nat} (h : PntP W g) (hk : k < 3) : StK W g k := by
  obtain ⟨cs, h1, h2, -⟩ := h.out
  exact h1.stAt (by omega)
theorem PntP.but {g : Nat} {W W' : World} {gl : Nat} (hB : ButK g W W') (hne : gl ≠ g) (h : PntP W gl) : PntP W' gl := by
  obtain ⟨cs, h1, h2⟩ := h.out
  exact ⟨cs, h1.but hB hne, h2⟩
set_option pp.deepTerms false
set_option pp.deepTerms.threshold 10
set_option maxRecDepth 20000 in
set_option maxHeartbeats 16000000 in
theorem Sum_E (p : Int) (x y : Pt) (s t : Int) (w : World) (hp : prB p = true) : Calls Tryz.prog 88 #[.int .i64 p, pV x, pV y, .int .i64 s, .int .i64 t] w (fun e W => ∃ t, e = .returned (pV t) ∧ LowK w W) := by
  go_enter Tryz.func88, Tryz.ntmps88
  go_wp2_with (first | (refine wl_store ?_) | (refine wl_load ?_))
  have r6 : RowK (((((w.alloc (.cells (pC x) 56)).alloc (.cells (pC y) 56)).alloc (.cells #[.int .i64 0, .int .i64 0, .int .i64 0] 56)).alloc (.cells #[.int .i64 0, .int .i64 0, .int .i64 0] 56)).setRow (w.heap.size + 1 + 1 + 1) #[.int .i64 0, .int .i64 0, .int .i64 0]) w.heap.size (pC x) 56 := findRow
  have r7 : RowK (((((w.alloc (.cells (pC x) 56)).alloc (.cells (pC y) 56)).alloc (.cells #[.int .i64 0, .int .i64 0, .int .i64 0] 56)).alloc (.cells #[.int .i64 0, .int .i64 0, .int .i64 0] 56)).setRow (w.heap.size + 1 + 1 + 1) #[.int .i64 0, .int .i64 0, .int .i64 0]) (w.heap.size + 1) (pC y) 56 := findRow
  have r10 : RowK (((((w.alloc (.cells (pC x) 56)).alloc (.cells (pC y) 56)).alloc (.cells #[.int .i64 0, .int .i64 0, .int .i64 0] 56)).alloc (.cells #[.int .i64 0, .int .i64 0, .int .i64 0] 56)).setRow (w.heap.size + 1 + 1 + 1) #[.int .i64 0, .int .i64 0, .int .i64 0]) (w.heap.size + 1 + 1) (pC (0, 0, 0)) 56 := (show RowK _ _ #[.int .i64 0, .int .i64 0, .int .i64 0] _ from findRow)
  have r11 : RowK (((((w.alloc (.cells (pC x) 56)).alloc (.cells (pC y) 56)).alloc (.cells #[.int .i64 0, .int .i64 0, .int .i64 0] 56)).alloc (.cells #[.int .i64 0, .int .i64 0, .int .i64 0] 56)).setRow (w.heap.size + 1 + 1 + 1) #[.int .i64 0, .int .i64 0, .int .i64 0]) (w.heap.size + 1 + 1 + 1) (pC (0, 0, 0)) 56 := (show RowK _ _ #[.int .i64 0, .int .i64 0, .int .i64 0] _ from findRow)
  have hV : LowK w (((((w.alloc (.cells (pC x) 56)).alloc (.cells (pC y) 56)).alloc (.cells #[.int .i64 0, .int .i64 0, .int .i64 0] 56)).alloc (.cells #[.int .i64 0, .int .i64 0, .int .i64 0] 56)).setRow (w.heap.size + 1 + 1 + 1) #[.int .i64 0, .int .i64 0, .int .i64 0]) := findLow
  generalize (((((w.alloc (.cells (pC x) 56)).alloc (.cells (pC y) 56)).alloc (.cells #[.int .i64 0, .int .i64 0, .int .i64 0] 56)).alloc (.cells #[.int .i64 0, .int .i64 0, .int .i64 0] 56)).setRow (w.heap.size + 1 + 1 + 1) #[.int .i64 0, .int .i64 0, .int .i64 0]) = W2 at *
  obtain ⟨g6, hg6⟩ : ∃ g6, w.heap.size = g6 := ⟨_, rfl⟩
  have hw6 := Nat.le_of_eq hg6
  rw [hg6] at r6 r7 r10 r11 ⊢
  clear hg6
  obtain ⟨g7, hg7⟩ : ∃ g7, g6 + 1 = g7 := ⟨_, rfl⟩
  have hl7 : g6 < g7 := by omega
  rw [hg7] at r7 r10 r11 ⊢
  clear hg7
  obtain ⟨g10, hg10⟩ : ∃ g10, g7 + 1 = g10 := ⟨_, rfl⟩
  have hl10 : g7 < g10 := by omega
  rw [hg10] at r10 r11 ⊢
  clear hg10
  obtain ⟨g11, hg11⟩ : ∃ g11, g10 + 1 = g11 := ⟨_, rfl⟩
  have hl11 : g10 < g11 := by omega
  rw [hg11] at r11 ⊢
  clear hg11
  have hZ : PntP W2 g11 := PntP.of r11
  clear r11
  go_loopw [12] (fun iv wr => ∃ i : Nat, i ≤ 3 ∧ iv = .int .i64 (i : Int) ∧ PntP wr g11 ∧ ButK g11 W2 wr) (fun iv wr => 3 - (intOf iv).toNat)
  case atStart => exact ⟨0, by decide, rfl, hZ, ButK.refl _ _⟩
  case round =>
    clear hZ
    obtain ⟨i, hi, rfl, hZ, hB⟩ := hrel
    have q6 := RowK.but hB (by omega) r6
    have q7 := RowK.but hB (by omega) r7
    by_cases hlt : i < 3
    · have c0 : CellK wr g6 0 (.int .i64 x.1) := q6.cellAt rfl
      have c1 : CellK wr g6 1 (.int .i64 x.2.1) := q6.cellAt rfl
      have c2 : CellK wr g6 2 (.int .i64 x.2.2) := q6.cellAt rfl
      have d0 : CellK wr g7 0 (.int .i64 y.1) := q7.cellAt rfl
      have d1 : CellK wr g7 1 (.int .i64 y.2.1) := q7.cellAt rfl
      have d2 : CellK wr g7 2 (.int .i64 y.2.2) := q7.cellAt rfl
      rcases (show i = 0 ∨ i = 1 ∨ i = 2 by omega) with rfl | rfl | rfl
      all_goals
        go_wp2_with (first | (refine wl_loadS ?_) | (with_reducible refine hold (p := wpList _ _ _ ({ dst := none, op := .store _ _ _, type := _, pos := _, after := _, guard := _ } :: _) _ _) ?_) | ((with_reducible apply region_gd (id := 5)); refine region_QA (id := 5) 15 ?_; apply Exists.intro; refine ⟨fun G => ?_, fun W hl => ?_⟩; (· (simp only [List.take_succ_cons, List.take_zero]; (repeat (first | go_big_quiet_skip | (go_big_quiet_want; first | (refine q_loadS ?_; simp only [Act.put, List.setIfInBounds_toArray, List.set_cons_zero, List.set_cons_succ]; go_big_quiet_on) | (refine q_load ?_; simp only [Act.put, List.setIfInBounds_toArray, List.set_cons_zero, List.set_cons_succ]; go_big_quiet_on) | (go_big_quiet_op; first | go_big_quiet_on | (apply Exists.intro; refine ⟨fun g => ?_, ?_⟩; (· (have hl := growL g; first | (go_at_call 105; with_reducible exact grow_ret (Mod_W p _ _ hp)))); go_big_quiet_on))))); exact rfl)); have hs := hl.out.size; (try simp at hs); simp only [List.drop_succ_cons, List.drop_zero]))
        unfold Hold
        have hlow : LowK wr W := findLow
        refine wl_storeS (hS := (hZ.link (LowK.lnk hlow)).st (by decide)) ?_
        have hB2 := hB.low hlow
        go_wp2
        go_roundw
        case rel => first | exact ⟨1, by decide, (by first | rfl | go_num), (hZ.link (LowK.lnk hlow)).set (by decide), hB2.set _ _⟩ | exact ⟨2, by decide, (by first | rfl | go_num), (hZ.link (LowK.lnk hlow)).set (by decide), hB2.set _ _⟩ | exact ⟨3, by decide, (by first | rfl | go_num), (hZ.link (LowK.lnk hlow)).set (by decide), hB2.set _ _⟩
        case measure => (simp [intOf]; try omega)
    · obtain rfl : i = 3 := by omega
      obtain ⟨t, ht⟩ := hZ.get
      have hr10 := RowK.but hB (by omega) r10
      have hVr := LowK.but hB (by omega) hV
      go_wp2_with (first | (refine wl_load ?_) | (refine wl_store ?_))
      have hlow : LowK w (wr.setRow g10 (pC t)) := findLow
      have hg : RowK (wr.setRow g10 (pC t)) g10 (pC t) 56 := findRow
      exact ret_row Tryz.results88 rfl hg 3 rfl Tryz.sizeOf56 Tryz.isAgg56 rfl ⟨t, rfl, hlow⟩
set_option maxRecDepth 20000 in
set_option maxHeartbeats 16000000 in
theorem DrawPoint_E (g : Nat) (b : Option Addr) (n c : Nat) (p : Int) (w : World) (hS : SrcK w g b n c) (hb : ∀ a, b = some a → a.block < w.heap.size) :
    Calls Tryz.prog 64 #[.pointer (some ⟨g, 0, none⟩), .int .i64 p] w (fun e W => ∃ t, e = .returned (pV t) ∧ Drew g b n c w W) := by
  have hgl := hS.lt
  go_enter Tryz.func64, Tryz.ntmps64
  go_wp2_with (first | (refine wl_store ?_) | (refine wl_load ?_) | (go_at_call 35; (with_reducible refine (Fine_S p _).mono ?_); rintro e w1 ⟨q, rfl, hq, hl1⟩; obtain ⟨m, rfl⟩ : ∃ m : Nat, q = (m : Int) := ⟨q.toNat, by have := prB_bd hq; omega⟩; have hqb := prB_bd hq) | (go_at_call 89; (with_reducible refine (l01Points_K m _ ⟨by omega, by omega⟩).mono ?_); rintro e w2 ⟨gp, cp, rfl, hp0, hp1, hpt, hl2⟩) | (go_at_call 42; have r4 : RowK (w.alloc (.cells #[.int .i64 0, .int .i64 0, .int .i64 0] 56)) w.heap.size #[.int .i64 0, .int .i64 0, .int .i64 0] 56 := findRow; have hV : LowK w w2 := (LowK.link (LowK.lnk hl2) (LowK.link (LowK.lnk hl1) (show LowK w (w.alloc (.cells #[.int .i64 0, .int .i64 0, .int .i64 0] 56)) from findLow))); have q4 := (r4.link (LowK.lnk hl1)).link (LowK.lnk hl2); (with_reducible refine (Next_S g b n c ((allP m).length : Nat) _ (hS.link (LowK.lnk hV)) (by have := allP_length m; omega)).mono ?_); rintro e w3 ⟨r, rfl, hr, hD⟩; have p3 := hpt.but hD.but (by have := LowK.size hl1; simp at this; omega); have q5 := RowK.but hD.but (by omega) q4; have hD3 : Drew g b n c w w3 := ((Drew.refl hS).low hV).tr hD; have hr3 : r < (allP m).length := (by omega)))
  exact ret_row Tryz.results64 rfl (show RowK (w3.setRow w.heap.size (pC ((allP m).getD r (0, 0, 0)))) w.heap.size (pC ((allP m).getD r (0, 0, 0))) 56 from findRow) 3 rfl Tryz.sizeOf56 Tryz.isAgg56 rfl ⟨(allP m).getD r (0, 0, 0), rfl, SrcK.setRow (by omega) (fun a ha => by have := hb a ha; omega) hD3.src, ButK.setNew (by omega) hD3.but⟩
def isPv : Value → World → Prop := fun v _ => ∃ t : Pt, v = pV t
theorem mono_pv (St : World → World → Prop) : MonoS St isPv := ⟨fun _ _ _ h _ => h⟩
set_option maxRecDepth 20000 in
set_option maxHeartbeats 16000000 in
theorem BadPoint_E (g : Nat) (b : Option Addr) (n c : Nat) (p : Int) (x : Pt) (w : World) (hS : SrcK w g b n c) (hb : ∀ a, b = some a → a.block < w.heap.size) :
    Calls Tryz.prog 63 #[.pointer (some ⟨g, 0, none⟩), .int .i64 p, pV x] w (fun e W => ∃ t, e = .returned (pV t) ∧ Drew g b n c w W) := by
  have hgl := hS.lt
  go_enter Tryz.func63, Tryz.ntmps63
  have tok : True := trivial
  go_wp2_with (first | (have _t := tok; go_at_call 42; have r5 : RowK ((w.alloc (.cells (pC x) 56)).alloc (.cells #[.int .i64 0, .int .i64 0, .int .i64 0] 56)) w.heap.size (pC x) 56 := findRow; have r6 : RowK ((w.alloc (.cells (pC x) 56)).alloc (.cells #[.int .i64 0, .int .i64 0, .int .i64 0] 56)) (w.heap.size + 1) (pC (0, 0, 0)) 56 := (show RowK _ _ #[.int .i64 0, .int .i64 0, .int .i64 0] _ from findRow); have hV : LowK w ((w.alloc (.cells (pC x) 56)).alloc (.cells #[.int .i64 0, .int .i64 0, .int .i64 0] 56)) := findLow; (with_reducible refine (Next_S g b n c 50 _ (hS.link (LowK.lnk hV)) (by decide)).mono ?_); rintro e w2 ⟨k0, rfl, hk0, hD⟩; have q5 := RowK.but hD.but (by omega) r5; have q6 := RowK.but hD.but (by omega) r6; have hD2 : Drew g b n c w w2 := ((Drew.refl hS).low hV).tr hD; have hS2 := hD2.src; obtain ⟨g5, hg5⟩ : ∃ g5, w.heap.size = g5 := ⟨_, rfl⟩; have hw5 := Nat.le_of_eq hg5; rw [hg5] at q5 q6 ⊢; have hgl5 : g < g5 := (by omega); obtain ⟨g6, hg6⟩ : ∃ g6, g5 + 1 = g6 := ⟨_, rfl⟩; have hl6 : g5 < g6 := (by omega); rw [hg6] at q6 ⊢; clear hg5 hg6 r5 r6 hV hD tok) | (go_at_call 42; (with_reducible refine (Next_S g b n c 3 _ hS2 (by decide)).mono ?_); rintro e w3 ⟨r, rfl, hr, hD3⟩; have hr3 : r < 3 := (by omega); have m3 : PntP w3 g5 := PntP.of (RowK.but hD3.but (by omega) q5); have p6 := RowK.but hD3.but (by omega) q6) | (go_at_call 55; have hV4 : LowK w3 (w3.alloc (.cells #[.int .i64 p, .int .i64 (-1), .int .i64 2, .int .i64 1099511627776] 2)) := findLow; (with_reducible refine (Pick_S g b n c _ 4 _ _ (hD3.src.link (LowK.lnk hV4)) (NumK.l4 findRow) (by decide) (by decide)).mono ?_); rintro e w4 ⟨v, rfl, hD4⟩; have m4 : PntP w4 g5 := PntP.but hD4.but (by omega) (m3.link (LowK.lnk hV4)); have p7 := RowK.but hD4.but (by omega) (p6.link (LowK.lnk hV4)); have hD5 : Drew g b n c w w4 := ((hD2.tr hD3).low hV4).tr hD4) | (refine wl_storeS (hS := m4.st hr3) ?_; obtain ⟨y, q5'⟩ := (m4.set hr3 (r := v)).get; have p8 : RowK (w4.setCell ⟨g5, r, none⟩ (.int .i64 v)) g6 (pC (0, 0, 0)) 56 := RowK.setO (by omega) p7) | (refine wl_load ?_) | (refine wl_build ?_) | (refine wl_store ?_))
  · exact ret_row Tryz.results63 rfl (show RowK (w2.setRow g6 (pC (0, 0, 0))) g6 (pC (0, 0, 0)) 56 from findRow) 3 rfl Tryz.sizeOf56 Tryz.isAgg56 rfl ⟨(0, 0, 0), rfl, SrcK.setRow (by omega) (fun a ha => by have := hb a ha; omega) hS2, ButK.setNew (by omega) hD2.but⟩
  · have hg : RowK ((w4.setCell ⟨g5, r, none⟩ (.int .i64 v)).setRow g6 (pC y)) g6 (pC y) 56 := findRow
    exact ret_row Tryz.results63 rfl hg 3 rfl Tryz.sizeOf56 Tryz.isAgg56 rfl ⟨y, rfl, SrcK.setRow (by omega) (fun a ha => by have := hb a ha; omega) (SrcK.setC (by omega) (fun a ha => by have := hb a ha; omega) hD5.src), ButK.setNew (by omega) (ButK.setCNew _ _ hw5 hD5.but)⟩
  · rename_i hi1 hi2 hi3 _ _
    clear hi1 hi2 hi3
    refine region_DR (id := 7) 5 [1, 4] (StD g b n c) [(24, isI fun q => prB q = true), (27, isPv)] (.k (.d (.k (.k (.d (.d .n)))))) (.d (.k (.d (.d (.k (.d .n)))))) (stD g b n c) ⟨mono_isI _ _, mono_pv _, trivial⟩ ?_
    apply Exists.intro
    refine ⟨fun W0 hk G => ?_, ?_⟩
    · have k5 := RowK.std hk (by omega) q5
      repeat (first | go_big_quiet_skip | (go_big_quiet_want; first | (refine q_loadS ?_; simp only [Act.put, List.setIfInBounds_toArray, List.set_cons_zero, List.set_cons_succ]; go_big_quiet_on) | (refine q_load ?_; simp only [Act.put, List.setIfInBounds_toArray, List.set_cons_zero, List.set_cons_succ]; go_big_quiet_on) | (go_big_quiet_op; first | go_big_quiet_on)))
      exact rfl
    refine dr_step (fun W hW hr => ?_) (fun v1 => ?_)
    · go_wp2_with (first | (go_at_call 35; (with_reducible refine (Fine_S p _).mono ?_); rintro e w3 ⟨q, rfl, hq, hl3⟩))
      exact ⟨rfl, _, rfl, hl3.st, q, rfl, hq⟩
    refine dr_step (fun W hW hr => ?_) (fun v2 => ?_)
    · obtain ⟨q, rfl, hq⟩ := hr 24 rfl rfl
      go_wp2_with (first | (go_at_call 88; (with_reducible refine (Sum_E q x x 1 1 _ hq).mono ?_); rintro e w3 ⟨t, rfl, hl3⟩))
      exact ⟨rfl, _, rfl, hl3.st, t, rfl⟩
    refine dr_nil fun W hW hp => ?_
    simp [Act.put, PastR, relOf] at hp
    obtain ⟨-, ⟨y, rfl⟩⟩ := hp
    (try simp only [List.drop_succ_cons, List.drop_zero])
    conv => arg 5; simp [Act.put]
    have p6 := RowK.std hW (by omega) q6
    have hD3 : Drew g b n c w W := hD2.tr (hW.drew hS2)
    go_wp2_with (first | (refine wl_load ?_) | (refine wl_store ?_))
    have hg : RowK (W.setRow g6 (pC y)) g6 (pC y) 56 := findRow
    exact ret_row Tryz.results63 rfl hg 3 rfl Tryz.sizeOf56 Tryz.isAgg56 rfl ⟨y, rfl, SrcK.setRow (by omega) (fun a ha => by have := hb a ha; omega) hD3.src, ButK.setNew (by omega) hD3.but⟩
  · exact ret_row Tryz.results63 rfl (show RowK (w2.setRow g6 (pC x)) g6 (pC x) 56 from findRow) 3 rfl Tryz.sizeOf56 Tryz.isAgg56 rfl ⟨x, rfl, SrcK.setRow (by omega) (fun a ha => by have := hb a ha; omega) hS2, ButK.setNew (by omega) hD2.but⟩
set_option maxRecDepth 20000 in
set_option maxHeartbeats 16000000 in
theorem SpoilPoint_E (g : Nat) (b : Option Addr) (n c : Nat) (p : Int) (w : World) (hS : SrcK w g b n c) (hb : ∀ a, b = some a → a.block < w.heap.size) :
    Calls Tryz.prog 34 #[.pointer (some ⟨g, 0, none⟩), .int .i64 p] w (fun e W => ∃ t, e = .returned (pV t) ∧ Drew g b n c w W) := by
  have hgl := hS.lt
  go_enter Tryz.func34, Tryz.ntmps34
  go_wp2_with (first | (refine wl_store ?_) | (go_at_call 64; have r4 : RowK (w.alloc (.cells #[.int .i64 0, .int .i64 0, .int .i64 0] 56)) w.heap.size (pC (0, 0, 0)) 56 := (show RowK _ _ #[.int .i64 0, .int .i64 0, .int .i64 0] _ from findRow); have hV : LowK w (w.alloc (.cells #[.int .i64 0, .int .i64 0, .int .i64 0] 56)) := findLow; have hz := LowK.size hV; (with_reducible refine (DrawPoint_E g b n c p _ (hS.link (LowK.lnk hV)) (fun a ha => by have := hb a ha; omega)).mono ?_); rintro e w2 ⟨x, rfl, hD⟩; have q4 := RowK.but hD.but (by omega) r4; have hD2 : Drew g b n c w w2 := ((Drew.refl hS).low hV).tr hD; clear r4) | (go_at_call 63; (with_reducible refine (BadPoint_E g b n c p x _ hD2.src (fun a ha => by have := hb a ha; have := hD2.but.size; omega)).mono ?_); rintro e w3 ⟨y, rfl, hD3⟩; have q5 := RowK.but hD3.but (by omega) q4; have hD4 := hD2.tr hD3))
  have hg : RowK (w3.setRow w.heap.size (pC y)) w.heap.size (pC y) 56 := findRow
  exact ret_row Tryz.results34 rfl hg 3 rfl Tryz.sizeOf56 Tryz.isAgg56 rfl ⟨y, rfl, SrcK.setRow (by omega) (fun a ha => by have := hb a ha; omega) hD4.src, ButK.setNew (by omega) hD4.but⟩
end Go.Proofs.YtaocnklolgdkfaaGreat

