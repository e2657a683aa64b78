/- Texts of the claim, in build order: Q7, Q8. No condition. -/
import Derived.Test.YtdiihhohaijcoaaZDesarguesLine10
/- Contracts: DesarguesLine, program and reference, for all lists. -/
namespace Go.Proofs.Ytdiihhohaijcoaa
open Go.RowKit
set_option linter.unusedVariables false
set_option linter.unusedSimpArgs false
theorem desR_zero {p : Int} {n1 n2 : Nat} {l1 l2 : List Pt} (h : threesR p n1 n2 l1 l2 = 0) : desR p n1 n2 l1 l2 = desC p (l1.getD 0 (0, 0, 0)) (l1.getD 1 (0, 0, 0)) (l1.getD 2 (0, 0, 0)) (l2.getD 0 (0, 0, 0)) (l2.getD 1 (0, 0, 0)) (l2.getD 2 (0, 0, 0)) := by
  unfold desR; rw [if_neg (by simp [h])]
theorem desR_code {p : Int} {n1 n2 : Nat} {l1 l2 : List Pt} (h : threesR p n1 n2 l1 l2 ≠ 0) : desR p n1 n2 l1 l2 = ((0, 0, 0), threesR p n1 n2 l1 l2) := by
  unfold desR; rw [if_pos h]
theorem pts_lt {w : World} {g n : Nat} {l : List Pt} (h : PtsAt w g 0 n l) (hn : 0 < n) : g < w.heap.size := World.block_lt_of_cell? w _ (h 0 hn).1
set_option maxRecDepth 20000 in
set_option maxHeartbeats 4000000 in
theorem Des_impl_code (p : Int) (b1 b2 : Option Addr) (n1 c1 n2 c2 : Nat) (l1 l2 : List Pt) (k : Int) (w : World) (hn1 : n1 ≤ 1000000) (hn2 : n2 ≤ 1000000) (i1 : ListC w b1 n1 c1 l1) (i2 : ListC w b2 n2 c2 l2) (hk : threesR p n1 n2 l1 l2 = k) (h0 : k ≠ 0) :
    Calls Try.prog 9 #[.int .i64 p, .slice b1 n1 c1, .slice b2 n2 c2] w (Ret w (.tuple #[pV (0, 0, 0), .int .i64 k])) := by
  have HTc := Lib.hid (fun (W : World) (hW : Link w W) => threesCode_any p b1 b2 n1 c1 n2 c2 l1 l2 W hn1 hn2 (i1.below hW.out) (i2.below hW.out))
  rw [hk] at HTc
  have hq : (k != 0) = true := bnet h0
  clear i1 i2 hk h0
  go_enter Try.func9, Try.ntmps9
  go_wp2_with (first | (refine wl_load ?_) | (refine wl_store ?_) | (refine wl_build ?_) | (refine wl_slice ?_) | (refine wl_append ?_; intro v' w' ho hg hb; have hs := hg.size; (try simp at hs); (try rw [ptCs_end] at ho); (try rw [ints_end] at ho); (try simp only [Nat.zero_add, Nat.reduceAdd, List.nil_append, List.cons_append] at ho)) | (go_at_call 26; (with_reducible refine (HTc.out _ (LowK.lnk findLow)).mono ?_); rintro e w' ⟨rfl, hb⟩; have hl := Link.mk hb; have hs := hb.size; (try simp at hs); clear hb) | ((with_reducible apply region_gd (id := 4)); refine region_QA (id := 4) 24 ?_; apply Exists.intro; refine ⟨fun G => ?_, fun W hl => ?_⟩; (· (simp only [List.take_succ_cons, List.take_zero]; (repeat (first | go_big_quiet_skip | (go_big_quiet_want; first | (refine q_load ?_; simp only [Act.put, List.setIfInBounds_toArray, List.set_cons_zero, List.set_cons_succ]; go_big_quiet_on) | (go_big_quiet_op; first | go_big_quiet_on | (apply Exists.intro; refine ⟨fun g => ?_, ?_⟩; (· (have hl := growL g; first | (go_at_call 26; with_reducible exact grow_ret (HTc.out _ (LowK.lnk findLow))))); go_big_quiet_on))))); exact rfl)); have hs := hl.out.size; (try simp at hs); simp only [List.drop_succ_cons, List.drop_zero]) | ((with_reducible apply region_gd (id := 16)); refine region_QNA (id := 16) 26 [⟨24, 14, #[.int .i64 0, .int .i64 0, .int .i64 0], 25⟩, ⟨25, 15, #[.int .i64 0, .int .i64 0, .int .i64 0], 25⟩] (.k (.k (.k (.k (.k (.k (.k (.k (.k (.k (.k (.k (.k (.k (.k (.k (.k (.k (.k (.k (.k (.k (.k (.k (.d (.d (.d (.d .n)))))))))))))))))))))))))))) ⟨(fun o ho ρ W => by obtain rfl : _ = o := Option.some.inj ho; simp [execOp, go_sem]), (fun o ho ρ W => by obtain rfl : _ = o := Option.some.inj ho; simp [execOp, go_sem]), trivial⟩ ?_; apply Exists.intro; refine ⟨fun G => ?_, fun g W hl hg hd => ?_⟩; (· ((repeat (first | go_big_quiet_skip | (go_big_quiet_want; first | (refine q_load ?_; simp only [Act.put, List.setIfInBounds_toArray, List.set_cons_zero, List.set_cons_succ]; go_big_quiet_on) | (go_big_quiet_op; first | go_big_quiet_on | (apply Exists.intro; refine ⟨fun g => ?_, ?_⟩; (· (have hl := growL g; first | (go_at_call 26; with_reducible exact grow_ret (HTc.out _ (LowK.lnk findLow))))); go_big_quiet_on))))); exact rfl)); obtain ⟨⟨q14, k14⟩, ⟨q15, k15⟩, -⟩ := hg; have hs := hl.out.size; (try simp at hs); dsimp only at q14 k14; (try simp at q14); have l14 := k14.lt; dsimp only at q15 k15; (try simp at q15); have l15 := k15.lt; have hd2 := AllNs.spec _ hd; have d14_15 : g 14 ≠ g 15 := AllNs.spec _ (hd2 _ (.head _)) _ (.tail _ (.head _)) (by show (14 : Nat) ≠ 15; decide); have d15_14 := Ne.symm d14_15; clear hd2;  clear hd; simp only [List.map_cons, List.map_nil, puts, Act.put, List.setIfInBounds_toArray, List.set_cons_zero, List.set_cons_succ, List.drop_succ_cons, List.drop_zero]; generalize g 14 = g14 at *; generalize g 15 = g15 at *; skip) | ((with_reducible apply region_gd (id := 21)); refine region_QA (id := 21) 12 ?_; apply Exists.intro; refine ⟨fun G => ?_, fun W hl => ?_⟩; (· (simp only [List.take_succ_cons, List.take_zero]; (repeat (first | go_big_quiet_skip | (go_big_quiet_want; first | (refine q_load ?_; simp only [Act.put, List.setIfInBounds_toArray, List.set_cons_zero, List.set_cons_succ]; go_big_quiet_on) | (go_big_quiet_op; first | go_big_quiet_on | (apply Exists.intro; refine ⟨fun g => ?_, ?_⟩; (· (have hl := growL g; first | (go_at_call 26; with_reducible exact grow_ret (HTc.out _ (LowK.lnk findLow))))); go_big_quiet_on))))); exact rfl)); have hs := hl.out.size; (try simp at hs); simp only [List.drop_succ_cons, List.drop_zero]) | ((with_reducible apply region_gd (id := 23)); refine region_QA (id := 23) 8 ?_; apply Exists.intro; refine ⟨fun G => ?_, fun W hl => ?_⟩; (· (simp only [List.take_succ_cons, List.take_zero]; (repeat (first | go_big_quiet_skip | (go_big_quiet_want; first | (refine q_load ?_; simp only [Act.put, List.setIfInBounds_toArray, List.set_cons_zero, List.set_cons_succ]; go_big_quiet_on) | (go_big_quiet_op; first | go_big_quiet_on | (apply Exists.intro; refine ⟨fun g => ?_, ?_⟩; (· (have hl := growL g; first | (go_at_call 26; with_reducible exact grow_ret (HTc.out _ (LowK.lnk findLow))))); go_big_quiet_on))))); exact rfl)); have hs := hl.out.size; (try simp at hs); simp only [List.drop_succ_cons, List.drop_zero]))
  (first | (go_ret; refine ⟨?_, LowK.out findLow⟩; first | exact rfl | skip) | (apply ret_rowT Try.results9; exact rfl; exact rfl; (exact findRow); exact rfl; (first | exact Try.sizeOf42 | exact Try.sizeOf25); (first | exact Try.isAgg42 | exact Try.isAgg25); exact rfl; refine ret_ret ?_ findLow; first | exact rfl | skip) | (apply ret_row Try.results9; exact rfl; (exact findRow); exact rfl; (first | exact Try.sizeOf42 | exact Try.sizeOf25); (first | exact Try.isAgg42 | exact Try.isAgg25); exact rfl; refine ret_ret ?_ findLow; first | exact rfl | skip))
set_option maxRecDepth 20000 in
set_option maxHeartbeats 4000000 in
theorem Des_spec_code (p : Int) (b1 b2 : Option Addr) (n1 c1 n2 c2 : Nat) (l1 l2 : List Pt) (k : Int) (w : World) (hn1 : n1 ≤ 1000000) (hn2 : n2 ≤ 1000000) (i1 : ListC w b1 n1 c1 l1) (i2 : ListC w b2 n2 c2 l2) (hk : threesR p n1 n2 l1 l2 = k) (h0 : k ≠ 0) :
    Calls Try.prog 7 #[.int .i64 p, .slice b1 n1 c1, .slice b2 n2 c2] w (Ret w (.tuple #[pV (0, 0, 0), .int .i64 k])) := by
  have HTc := Lib.hid (fun (W : World) (hW : Link w W) => l09Threes_any p b1 b2 n1 c1 n2 c2 l1 l2 W hn1 hn2 (i1.below hW.out) (i2.below hW.out))
  rw [hk] at HTc
  have hq : (k != 0) = true := bnet h0
  clear i1 i2 hk h0
  go_enter Try.func7, Try.ntmps7
  go_wp2_with (first | (refine wl_load ?_) | (refine wl_store ?_) | (refine wl_build ?_) | (refine wl_slice ?_) | (refine wl_append ?_; intro v' w' ho hg hb; have hs := hg.size; (try simp at hs); (try rw [ptCs_end] at ho); (try rw [ints_end] at ho); (try simp only [Nat.zero_add, Nat.reduceAdd, List.nil_append, List.cons_append] at ho)) | (go_at_call 19; (with_reducible refine (HTc.out _ (LowK.lnk findLow)).mono ?_); rintro e w' ⟨rfl, hb⟩; have hl := Link.mk hb; have hs := hb.size; (try simp at hs); clear hb) | ((with_reducible apply region_gd (id := 4)); refine region_QA (id := 4) 27 ?_; apply Exists.intro; refine ⟨fun G => ?_, fun W hl => ?_⟩; (· (simp only [List.take_succ_cons, List.take_zero]; (repeat (first | go_big_quiet_skip | (go_big_quiet_want; first | (refine q_load ?_; simp only [Act.put, List.setIfInBounds_toArray, List.set_cons_zero, List.set_cons_succ]; go_big_quiet_on) | (go_big_quiet_op; first | go_big_quiet_on | (apply Exists.intro; refine ⟨fun g => ?_, ?_⟩; (· (have hl := growL g; first | (go_at_call 19; with_reducible exact grow_ret (HTc.out _ (LowK.lnk findLow))))); go_big_quiet_on))))); exact rfl)); have hs := hl.out.size; (try simp at hs); simp only [List.drop_succ_cons, List.drop_zero]) | ((with_reducible apply region_gd (id := 11)); refine region_QA (id := 11) 12 ?_; apply Exists.intro; refine ⟨fun G => ?_, fun W hl => ?_⟩; (· (simp only [List.take_succ_cons, List.take_zero]; (repeat (first | go_big_quiet_skip | (go_big_quiet_want; first | (refine q_load ?_; simp only [Act.put, List.setIfInBounds_toArray, List.set_cons_zero, List.set_cons_succ]; go_big_quiet_on) | (go_big_quiet_op; first | go_big_quiet_on | (apply Exists.intro; refine ⟨fun g => ?_, ?_⟩; (· (have hl := growL g; first | (go_at_call 19; with_reducible exact grow_ret (HTc.out _ (LowK.lnk findLow))))); go_big_quiet_on))))); exact rfl)); have hs := hl.out.size; (try simp at hs); simp only [List.drop_succ_cons, List.drop_zero]) | ((with_reducible apply region_gd (id := 19)); refine region_CHA (id := 19) 16 [13, 14] (LowK _) (.k (.k (.k (.k (.k (.k (.k (.k (.k (.k (.k (.k (.k (.d (.d (.k .n)))))))))))))))) (.d (.d (.d (.d (.d (.d (.d (.d (.d (.d (.d (.d (.d (.k (.k (.d .n)))))))))))))))) (fun W W' h l => LowK.link l h) (LowK.refl _) ?_; apply Exists.intro; refine ⟨fun W0 hk G => ?_, ?_⟩; (· (have hl := LowK.lnk hk; (repeat (first | go_big_quiet_skip | (go_big_quiet_want; first | (refine q_load ?_; simp only [Act.put, List.setIfInBounds_toArray, List.set_cons_zero, List.set_cons_succ]; go_big_quiet_on) | (go_big_quiet_op; first | go_big_quiet_on | (apply Exists.intro; refine ⟨fun g => ?_, ?_⟩; (· (have hl := growL g; first | (go_at_call 19; with_reducible exact grow_ret (HTc.out _ (LowK.lnk findLow))))); go_big_quiet_on))))); exact rfl)); refine ch_step fun W1 hl => ?_; have hs := hl.out.size; (try simp at hs); go_wp2_with (first | (refine wl_load ?_) | (refine wl_store ?_) | (refine wl_build ?_) | (refine wl_slice ?_) | (refine wl_append ?_; intro v' w' ho hg hb; have hs := hg.size; (try simp at hs); (try rw [ptCs_end] at ho); (try rw [ints_end] at ho); (try simp only [Nat.zero_add, Nat.reduceAdd, List.nil_append, List.cons_append] at ho))); refine ⟨rfl, ⟨_, rfl⟩, findLow, ?_⟩; refine ch_step fun W1 hl => ?_; have hs := hl.out.size; (try simp at hs); go_wp2_with (first | (refine wl_load ?_) | (refine wl_store ?_) | (refine wl_build ?_) | (refine wl_slice ?_) | (refine wl_append ?_; intro v' w' ho hg hb; have hs := hg.size; (try simp at hs); (try rw [ptCs_end] at ho); (try rw [ints_end] at ho); (try simp only [Nat.zero_add, Nat.reduceAdd, List.nil_append, List.cons_append] at ho))); refine ⟨rfl, ⟨undef, rfl⟩, findLow, ?_⟩;  refine ch_nil fun W1 hl => ?_; have hs := hl.out.size; (try simp at hs); (try simp only [List.drop_succ_cons, List.drop_zero])) | ((with_reducible apply region_gd (id := 20)); refine region_CHA (id := 20) 16 [13, 14] (LowK _) (.k (.k (.k (.k (.k (.k (.k (.k (.k (.k (.k (.k (.k (.d (.d (.k .n)))))))))))))))) (.d (.d (.d (.d (.d (.d (.d (.d (.d (.d (.d (.d (.d (.k (.k (.d .n)))))))))))))))) (fun W W' h l => LowK.link l h) (LowK.refl _) ?_; apply Exists.intro; refine ⟨fun W0 hk G => ?_, ?_⟩; (· (have hl := LowK.lnk hk; (repeat (first | go_big_quiet_skip | (go_big_quiet_want; first | (refine q_load ?_; simp only [Act.put, List.setIfInBounds_toArray, List.set_cons_zero, List.set_cons_succ]; go_big_quiet_on) | (go_big_quiet_op; first | go_big_quiet_on | (apply Exists.intro; refine ⟨fun g => ?_, ?_⟩; (· (have hl := growL g; first | (go_at_call 19; with_reducible exact grow_ret (HTc.out _ (LowK.lnk findLow))))); go_big_quiet_on))))); exact rfl)); refine ch_step fun W1 hl => ?_; have hs := hl.out.size; (try simp at hs); go_wp2_with (first | (refine wl_load ?_) | (refine wl_store ?_) | (refine wl_build ?_) | (refine wl_slice ?_) | (refine wl_append ?_; intro v' w' ho hg hb; have hs := hg.size; (try simp at hs); (try rw [ptCs_end] at ho); (try rw [ints_end] at ho); (try simp only [Nat.zero_add, Nat.reduceAdd, List.nil_append, List.cons_append] at ho))); refine ⟨rfl, ⟨_, rfl⟩, findLow, ?_⟩; refine ch_step fun W1 hl => ?_; have hs := hl.out.size; (try simp at hs); go_wp2_with (first | (refine wl_load ?_) | (refine wl_store ?_) | (refine wl_build ?_) | (refine wl_slice ?_) | (refine wl_append ?_; intro v' w' ho hg hb; have hs := hg.size; (try simp at hs); (try rw [ptCs_end] at ho); (try rw [ints_end] at ho); (try simp only [Nat.zero_add, Nat.reduceAdd, List.nil_append, List.cons_append] at ho))); refine ⟨rfl, ⟨undef, rfl⟩, findLow, ?_⟩;  refine ch_nil fun W1 hl => ?_; have hs := hl.out.size; (try simp at hs); (try simp only [List.drop_succ_cons, List.drop_zero])) | ((with_reducible apply region_gd (id := 25)); refine region_CHA (id := 25) 16 [13, 14] (LowK _) (.k (.k (.k (.k (.k (.k (.k (.k (.k (.k (.k (.k (.k (.d (.d (.k .n)))))))))))))))) (.d (.d (.d (.d (.d (.d (.d (.d (.d (.d (.d (.d (.d (.k (.k (.d .n)))))))))))))))) (fun W W' h l => LowK.link l h) (LowK.refl _) ?_; apply Exists.intro; refine ⟨fun W0 hk G => ?_, ?_⟩; (· (have hl := LowK.lnk hk; (repeat (first | go_big_quiet_skip | (go_big_quiet_want; first | (refine q_load ?_; simp only [Act.put, List.setIfInBounds_toArray, List.set_cons_zero, List.set_cons_succ]; go_big_quiet_on) | (go_big_quiet_op; first | go_big_quiet_on | (apply Exists.intro; refine ⟨fun g => ?_, ?_⟩; (· (have hl := growL g; first | (go_at_call 19; with_reducible exact grow_ret (HTc.out _ (LowK.lnk findLow))))); go_big_quiet_on))))); exact rfl)); refine ch_step fun W1 hl => ?_; have hs := hl.out.size; (try simp at hs); go_wp2_with (first | (refine wl_load ?_) | (refine wl_store ?_) | (refine wl_build ?_) | (refine wl_slice ?_) | (refine wl_append ?_; intro v' w' ho hg hb; have hs := hg.size; (try simp at hs); (try rw [ptCs_end] at ho); (try rw [ints_end] at ho); (try simp only [Nat.zero_add, Nat.reduceAdd, List.nil_append, List.cons_append] at ho))); refine ⟨rfl, ⟨_, rfl⟩, findLow, ?_⟩; refine ch_step fun W1 hl => ?_; have hs := hl.out.size; (try simp at hs); go_wp2_with (first | (refine wl_load ?_) | (refine wl_store ?_) | (refine wl_build ?_) | (refine wl_slice ?_) | (refine wl_append ?_; intro v' w' ho hg hb; have hs := hg.size; (try simp at hs); (try rw [ptCs_end] at ho); (try rw [ints_end] at ho); (try simp only [Nat.zero_add, Nat.reduceAdd, List.nil_append, List.cons_append] at ho))); refine ⟨rfl, ⟨undef, rfl⟩, findLow, ?_⟩;  refine ch_nil fun W1 hl => ?_; have hs := hl.out.size; (try simp at hs); (try simp only [List.drop_succ_cons, List.drop_zero])) | ((with_reducible apply region_gd (id := 27)); refine region_QA (id := 27) 12 ?_; apply Exists.intro; refine ⟨fun G => ?_, fun W hl => ?_⟩; (· (simp only [List.take_succ_cons, List.take_zero]; (repeat (first | go_big_quiet_skip | (go_big_quiet_want; first | (refine q_load ?_; simp only [Act.put, List.setIfInBounds_toArray, List.set_cons_zero, List.set_cons_succ]; go_big_quiet_on) | (go_big_quiet_op; first | go_big_quiet_on | (apply Exists.intro; refine ⟨fun g => ?_, ?_⟩; (· (have hl := growL g; first | (go_at_call 19; with_reducible exact grow_ret (HTc.out _ (LowK.lnk findLow))))); go_big_quiet_on))))); exact rfl)); have hs := hl.out.size; (try simp at hs); simp only [List.drop_succ_cons, List.drop_zero]))
  (first | (go_ret; refine ⟨?_, LowK.out findLow⟩; first | exact rfl | skip) | (apply ret_rowT Try.results7; exact rfl; exact rfl; (exact findRow); exact rfl; (first | exact Try.sizeOf42 | exact Try.sizeOf25); (first | exact Try.isAgg42 | exact Try.isAgg25); exact rfl; refine ret_ret ?_ findLow; first | exact rfl | skip) | (apply ret_row Try.results7; exact rfl; (exact findRow); exact rfl; (first | exact Try.sizeOf42 | exact Try.sizeOf25); (first | exact Try.isAgg42 | exact Try.isAgg25); exact rfl; refine ret_ret ?_ findLow; first | exact rfl | skip))
theorem DesarguesLine_impl (p : Int) (b1 b2 : Option Addr) (n1 c1 n2 c2 : Nat) (l1 l2 : List Pt) (w : World) (hn1 : n1 ≤ 1000000) (hn2 : n2 ≤ 1000000) (i1 : ListC w b1 n1 c1 l1) (i2 : ListC w b2 n2 c2 l2) :
    Calls Try.prog 9 #[.int .i64 p, .slice b1 n1 c1, .slice b2 n2 c2] w (Ret w (.tuple #[ptV (desR p n1 n2 l1 l2).1.1 (desR p n1 n2 l1 l2).1.2.1 (desR p n1 n2 l1 l2).1.2.2, .int .i64 (desR p n1 n2 l1 l2).2])) := by
  by_cases h0 : threesR p n1 n2 l1 l2 = 0
  · have HT := Lib.hid (fun (W : World) (hW : Link w W) => threesCode_any p b1 b2 n1 c1 n2 c2 l1 l2 W hn1 hn2 (i1.below hW.out) (i2.below hW.out))
    rw [h0] at HT
    obtain ⟨hp, hv1, hv2, rfl, rfl⟩ := threesR_zero h0
    obtain ⟨n, rfl⟩ : ∃ n : Nat, p = n := ⟨p.toNat, by have := prB_bd hp; omega⟩
    obtain ⟨a, b, c, rfl⟩ := list3 i1.1
    obtain ⟨d, e, f, rfl⟩ := list3 i2.1
    rcases i1.2 with ⟨_, h3, _⟩ | ⟨g1, rfl, hP1⟩
    · cases h3
    rcases i2.2 with ⟨_, h3, _⟩ | ⟨g2, rfl, hP2⟩
    · cases h3
    obtain ⟨ha, hb, hc⟩ := pts3 (x := 0) (y := 0) (z := 0) (u := 0) (v := 0) (t := 0) hv1
    obtain ⟨hd, he, hf⟩ := pts3 (x := 0) (y := 0) (z := 0) (u := 0) (v := 0) (t := 0) hv2
    rw [desR_zero h0]
    exact DesarguesLine_core n g1 c1 g2 c2 a b c d e f w hp (in13' ha) (in13' hb) (in13' hc) (in13' hd) (in13' he) (in13' hf) ⟨hP1⟩ ⟨hP2⟩ (pts_lt hP1 (by omega)) (pts_lt hP2 (by omega)) _ (desF_of ha hb hc hd he hf) HT
  · rw [desR_code h0]
    exact Des_impl_code p b1 b2 n1 c1 n2 c2 l1 l2 _ w hn1 hn2 i1 i2 rfl h0
theorem DesarguesLine_spec (p : Int) (b1 b2 : Option Addr) (n1 c1 n2 c2 : Nat) (l1 l2 : List Pt) (w : World) (hn1 : n1 ≤ 1000000) (hn2 : n2 ≤ 1000000) (i1 : ListC w b1 n1 c1 l1) (i2 : ListC w b2 n2 c2 l2) :
    Calls Try.prog 7 #[.int .i64 p, .slice b1 n1 c1, .slice b2 n2 c2] w (Ret w (.tuple #[ptV (desR p n1 n2 l1 l2).1.1 (desR p n1 n2 l1 l2).1.2.1 (desR p n1 n2 l1 l2).1.2.2, .int .i64 (desR p n1 n2 l1 l2).2])) := by
  by_cases h0 : threesR p n1 n2 l1 l2 = 0
  · have HT := Lib.hid (fun (W : World) (hW : Link w W) => l09Threes_any p b1 b2 n1 c1 n2 c2 l1 l2 W hn1 hn2 (i1.below hW.out) (i2.below hW.out))
    rw [h0] at HT
    obtain ⟨hp, hv1, hv2, rfl, rfl⟩ := threesR_zero h0
    obtain ⟨n, rfl⟩ : ∃ n : Nat, p = n := ⟨p.toNat, by have := prB_bd hp; omega⟩
    obtain ⟨a, b, c, rfl⟩ := list3 i1.1
    obtain ⟨d, e, f, rfl⟩ := list3 i2.1
    rcases i1.2 with ⟨_, h3, _⟩ | ⟨g1, rfl, hP1⟩
    · cases h3
    rcases i2.2 with ⟨_, h3, _⟩ | ⟨g2, rfl, hP2⟩
    · cases h3
    obtain ⟨ha, hb, hc⟩ := pts3 (x := 0) (y := 0) (z := 0) (u := 0) (v := 0) (t := 0) hv1
    obtain ⟨hd, he, hf⟩ := pts3 (x := 0) (y := 0) (z := 0) (u := 0) (v := 0) (t := 0) hv2
    rw [desR_zero h0]
    exact DesarguesLine_spec_core n g1 c1 g2 c2 a b c d e f w hp (in13' ha) (in13' hb) (in13' hc) (in13' hd) (in13' he) (in13' hf) ⟨hP1⟩ ⟨hP2⟩ (pts_lt hP1 (by omega)) (pts_lt hP2 (by omega)) _ (desF_of ha hb hc hd he hf) HT
  · rw [desR_code h0]
    exact Des_spec_code p b1 b2 n1 c1 n2 c2 l1 l2 _ w hn1 hn2 i1 i2 rfl h0
end Go.Proofs.Ytdiihhohaijcoaa
/- The law FnExactDesarguesLine, walked. (Printed by genp7.py, a program of this session.) -/
namespace Go.Proofs.Ytdiihhohaijcoaa
open Go.RowKit
set_option linter.unusedVariables false
set_option linter.unusedSimpArgs false
/-- Laid with no room behind, or nil. -/
structure LaidC (w : World) (n : Nat) (l : List Pt) (e : Ending) (w' : World) : Prop where
  out : ∃ b c, e = .returned (.slice b n c) ∧ ListC w' b n c l ∧ Below w.heap.size w w'
theorem laidR_at {w' : World} {g n : Nat} {l : List Pt} (hl : l.length = n) (h : PtsAt w' g 0 (n + roomN n) (withRoomP l)) : PtsAt w' g 0 n l := by
  have h1 := pts_take h (Nat.le_add_right n (roomN n))
  have h2 := withRoomP_take l
  rw [hl] at h2
  rwa [h2] at h1
theorem listC_of {w' : World} {g n c : Nat} {l : List Pt} (hl : l.length = n) (h : PtsAt w' g 0 (n + roomN n) (withRoomP l)) : ListC w' (some ⟨g, 0, none⟩) n c l := ⟨hl, .inr ⟨g, rfl, laidR_at hl h⟩⟩
theorem toPointS_C (b : Option Addr) (n cap : Nat) (l : List Pt) (w : World) (hn : n ≤ 1000000) (h : ListP w b n l) :
    Calls Try.prog 8 #[.slice b n cap, .bool true] w (LaidC w n l) := by
  rcases Nat.eq_zero_or_pos n with h0 | h0
  · subst h0
    obtain rfl := List.length_eq_zero_iff.1 h.1
    exact (toPointS_nil cap b w).mono fun e w' ⟨he, hw⟩ => ⟨none, 0, he, ⟨rfl, .inl ⟨rfl, rfl, rfl⟩⟩, hw ▸ Below.refl _ _⟩
  · obtain ⟨rfl, hc⟩ := h
    exact (toPointS_any b l.length cap true l w rfl hn (.inr h0) hc).mono fun e w' ⟨g, he, h1, h2, h3, h4⟩ => ⟨_, _, he, ⟨rfl, .inr ⟨g, rfl, laidR_at rfl h3⟩⟩, h4⟩
theorem FnExactDesarguesLine_big1 (p : Int) (b1 : Option Addr) (n1 c1 : Nat) (l1 : List Pt) (b2 : Option Addr) (n2 c2 : Nat) (l2 : List Pt) (w : World) (hn1 : n1 ≤ 9223372036854775807) (hk : ¬ n1 ≤ 1000000) :
    Calls Try.prog 3 #[.int .i64 p, .slice b1 n1 c1, .slice b2 n2 c2] w (Ret w (.bool true)) := by
  have HZ := Lib.hid (fun (W : World) => szPointS_any b1 n1 c1 1000000 W (by omega) hn1)
  rw [if_pos (by omega)] at HZ
  go_enter Try.func3, Try.ntmps3
  go_wp2_with (go_at_call 6; refine (HZ.out _).mono ?_; rintro e w' ⟨rfl, rfl⟩)
  go_ret
  exact ⟨rfl, Below.refl _ _⟩
theorem FnExactDesarguesLine_big2 (p : Int) (b1 : Option Addr) (n1 c1 : Nat) (l1 : List Pt) (b2 : Option Addr) (n2 c2 : Nat) (l2 : List Pt) (w : World) (hn1 : n1 ≤ 9223372036854775807) (hn2 : n2 ≤ 9223372036854775807) (hk1 : n1 ≤ 1000000) (hk : ¬ n1 + n2 ≤ 1000000) :
    Calls Try.prog 3 #[.int .i64 p, .slice b1 n1 c1, .slice b2 n2 c2] w (Ret w (.bool true)) := by
  obtain ⟨q, hq⟩ : ∃ q : Int, 1000000 - (n1 : Int) = q := ⟨_, rfl⟩
  have HZ := Lib.hid (fun (W : World) => szPointS_any b1 n1 c1 1000000 W (by omega) hn1)
  rw [if_neg (by omega), hq] at HZ
  have HY := Lib.hid (fun (W : World) => szPointS_any b2 n2 c2 q W (by omega) hn2)
  rw [if_pos (by omega)] at HY
  have q0 : ¬ q < 0 := by omega
  have tok1 : True := trivial
  go_enter Try.func3, Try.ntmps3
  go_wp2_with (first
    | (have _t := tok1; go_at_call 6; refine (HZ.out _).mono ?_; rintro e w' ⟨rfl, rfl⟩; clear tok1)
    | (go_at_call 6; refine (HY.out _).mono ?_; rintro e w' ⟨rfl, rfl⟩))
  go_ret
  exact ⟨rfl, Below.refl _ _⟩
set_option maxHeartbeats 8000000 in
theorem FnExactDesarguesLine_fit (p : Int) (b1 : Option Addr) (n1 c1 : Nat) (l1 : List Pt) (b2 : Option Addr) (n2 c2 : Nat) (l2 : List Pt) (w : World) (hk : n1 + n2 ≤ 1000000) (h1 : ListP w b1 n1 l1) (h2 : ListP w b2 n2 l2) :
    Calls Try.prog 3 #[.int .i64 p, .slice b1 n1 c1, .slice b2 n2 c2] w (Ret w (.bool true)) := by
  obtain ⟨q, hq⟩ : ∃ q : Int, 1000000 - (n1 : Int) = q := ⟨_, rfl⟩
  have HZ := Lib.hid (fun (W : World) => szPointS_any b1 n1 c1 1000000 W (by omega) (by omega))
  rw [if_neg (by omega), hq] at HZ
  obtain ⟨r, hr⟩ : ∃ r : Int, q - (n2 : Int) = r := ⟨_, rfl⟩
  have HY := Lib.hid (fun (W : World) => szPointS_any b2 n2 c2 q W (by omega) (by omega))
  rw [if_neg (by omega), hr] at HY
  have q0 : ¬ q < 0 := by omega
  have r0 : ¬ r < 0 := by omega
  have HT1 := Lib.hid (fun (W : World) (hW : Below w.heap.size w W) => toPointS_R b1 n1 c1 l1 W (by omega) (h1.below hW))
  have HT2 := Lib.hid (fun (W : World) (hW : Below w.heap.size w W) => toPointS_R b2 n2 c2 l2 W (by omega) (h2.below hW))
  have HU1 := Lib.hid (fun (W : World) (hW : Below w.heap.size w W) => toPointS_C b1 n1 c1 l1 W (by omega) (h1.below hW))
  have HU2 := Lib.hid (fun (W : World) (hW : Below w.heap.size w W) => toPointS_C b2 n2 c2 l2 W (by omega) (h2.below hW))
  have HS := Lib.hid (fun (W : World) (a1 : Option Addr) (d1 : Nat) (a2 : Option Addr) (d2 : Nat) (i1 : ListC W a1 n1 d1 l1) (i2 : ListC W a2 n2 d2 l2) => DesarguesLine_spec p a1 a2 n1 d1 n2 d2 l1 l2 W (by omega) (by omega) i1 i2)
  have HI := Lib.hid (fun (W : World) (a1 : Option Addr) (d1 : Nat) (a2 : Option Addr) (d2 : Nat) (i1 : ListC W a1 n1 d1 l1) (i2 : ListC W a2 n2 d2 l2) => DesarguesLine_impl p a1 a2 n1 d1 n2 d2 l1 l2 W (by omega) (by omega) i1 i2)
  have HN1 := Lib.hid (fun (W : World) (g g' : Nat) i1 i2 => intactPointS_same g g' n1 (withRoomP l1) W (by omega) (by rw [withRoomP_length, h1.1]) i1 i2)
  have HN2 := Lib.hid (fun (W : World) (g g' : Nat) i1 i2 => intactPointS_same g g' n2 (withRoomP l2) W (by omega) (by rw [withRoomP_length, h2.1]) i1 i2)
  have L1 := Lib.hid h1.1
  have L2 := Lib.hid h2.1
  generalize desR p n1 n2 l1 l2 = R at *
  obtain ⟨⟨u0, u1, u2⟩, c⟩ := R
  dsimp only at *
  clear h1 h2 hq hr
  have tok1 : True := trivial
  have tok3 : True := trivial
  have tok4 : True := trivial
  have tok6 : True := trivial
  have tok7 : True := trivial
  have tok8 : True := trivial
  have tok9 : True := trivial
  have tok10 : True := trivial
  have tok11 : True := trivial
  have tok12 : True := trivial
  have tok14 : True := trivial
  go_enter Try.func3, Try.ntmps3
  go_wp2_with (first
    | (have _t := tok1; go_at_call 6; refine (HZ.out _).mono ?_; rintro e w' ⟨rfl, rfl⟩; clear tok1)
    | (go_at_call 6; refine (HY.out _).mono ?_; rintro e w' ⟨rfl, rfl⟩)
    | (have _t := tok3; go_at_call 8; go_loud (refine (HT1.out _ (by repeat (first | exact Below.refl _ _ | refine bset ?_ _ _ (by omega) _ | refine bal ?_ _ | refine bdrN ?_ _ | refine bdr ?_))).mono ?_); rintro e w3_ ⟨g3, rfl, hg3, hgl3, hrm3, hp3, hb3⟩; have HB3 := Lib.hid hb3; have P3 := Lib.hid hp3; have hsz3 := hb3.size; (try simp at hsz3); clear hb3 hp3 hrm3; clear tok3)
    | (have _t := tok4; go_at_call 8; go_loud (refine (HT2.out _ (by repeat (first | exact Below.refl _ _ | refine bset ?_ _ _ (by omega) _ | refine bal ?_ _ | refine bdrN ?_ _ | refine bdr ?_ | refine below_tr' ?_ HB3.out))).mono ?_); rintro e w4_ ⟨g4, rfl, hg4, hgl4, hrm4, hp4, hb4⟩; have HB4 := Lib.hid hb4; have P4 := Lib.hid hp4; have hsz4 := hb4.size; (try simp at hsz4); clear hb4 hp4 hrm4; clear tok4)
    | (go_at_call 7; (with_reducible refine (HS.out _ _ _ _ _ (listC_of L1.out (P3.out.below HB4.out)) (listC_of L2.out P4.out)).mono ?_); rintro e w5_ ⟨rfl, hb5⟩; obtain ⟨hcb5, hfb5, hlb5⟩ := bcell hb5; have hsz5 := hb5.size; (try simp at hsz5); have HB5 := Lib.hid hb5; clear hb5)
    | (refine wpList_store_row _ rfl 25 _ _ rfl rfl (U := #[.int .i64 u0, .int .i64 u1, .int .i64 u2]) rfl rfl (heap_alloc_new _ _) rfl Try.sizeOf25 (by simp [Value.oneCell']) ?_; rw [alloc_setRow])
    | (have _t := tok6; go_at_call 8; go_loud (refine (HT1.out _ (by repeat (first | exact Below.refl _ _ | refine bset ?_ _ _ (by omega) _ | refine bal ?_ _ | refine bdrN ?_ _ | refine bdr ?_ | refine below_tr' ?_ HB5.out | refine below_tr' ?_ HB4.out | refine below_tr' ?_ HB3.out))).mono ?_); rintro e w6_ ⟨g6, rfl, hg6, hgl6, hrm6, hp6, hb6⟩; have HB6 := Lib.hid hb6; have P6 := Lib.hid hp6; have hsz6 := hb6.size; (try simp at hsz6); clear hb6 hp6 hrm6; clear tok6; have KU6 := Lib.hid ((HB6.out.block w5_.heap.size (by simp)).trans (heap_alloc_new w5_ (.cells #[.int .i64 u0, .int .i64 u1, .int .i64 u2] 25))))
    | (have _t := tok7; go_at_call 8; go_loud (refine (HT2.out _ (by repeat (first | exact Below.refl _ _ | refine bset ?_ _ _ (by omega) _ | refine bal ?_ _ | refine bdrN ?_ _ | refine bdr ?_ | refine below_tr' ?_ HB6.out | refine below_tr' ?_ HB5.out | refine below_tr' ?_ HB4.out | refine below_tr' ?_ HB3.out))).mono ?_); rintro e w7_ ⟨g7, rfl, hg7, hgl7, hrm7, hp7, hb7⟩; have HB7 := Lib.hid hb7; have P7 := Lib.hid hp7; have hsz7 := hb7.size; (try simp at hsz7); clear hb7 hp7 hrm7; clear tok7; have KU7 := Lib.hid ((HB7.out.block _ ((Array.getElem?_eq_some_iff.1 (KU6.out)).1)).trans (KU6.out)))
    | (have _t := tok8; (go_at_call 9; (with_reducible refine (HI.out _ _ _ _ _ (listC_of L1.out (P6.out.below HB7.out)) (listC_of L2.out P7.out)).mono ?_); rintro e w8_ ⟨rfl, hb8⟩; obtain ⟨hcb8, hfb8, hlb8⟩ := bcell hb8; have hsz8 := hb8.size; (try simp at hsz8); have HB8 := Lib.hid hb8; clear hb8); clear tok8; have KU8 := Lib.hid ((HB8.out.block _ ((Array.getElem?_eq_some_iff.1 (KU7.out)).1)).trans (KU7.out)))
    | (refine wpList_load_row _ rfl 25 _ rfl (g := w8_.heap.size) (T := 25) (cs := #[.int .i64 u0, .int .i64 u1, .int .i64 u2]) (fr := (0, 0)) rfl (heap_alloc_new _ _) 3 rfl Try.sizeOf25 Try.isAgg25 ?_)
    | (refine wpList_load_row _ rfl 25 _ rfl (g := w5_.heap.size) (T := 25) (cs := #[.int .i64 u0, .int .i64 u1, .int .i64 u2]) (fr := (0, 0)) rfl (by first | exact (hn_pastN _ _ _ ((Array.getElem?_eq_some_iff.1 KU8.out).1)).trans KU8.out | exact (hn_pastN _ _ _ ((Array.getElem?_eq_some_iff.1 KU16.out).1)).trans KU16.out) 3 rfl Try.sizeOf25 Try.isAgg25 ?_)
    | (have _t := tok9; (go_at_call 10; (with_reducible refine (eqLine_same u0 u1 u2 _).mono ?_); rintro e w9_ ⟨rfl, hb9⟩; obtain ⟨hcb9, hfb9, hlb9⟩ := bcell hb9; have hsz9 := hb9.size; (try simp at hsz9); have HB9 := Lib.hid hb9; clear hb9); clear tok9; have KU9 := Lib.hid ((HB9.out.block _ (by simp; exact Nat.lt_succ_of_lt ((Array.getElem?_eq_some_iff.1 KU8.out).1))).trans ((hn_pastN w8_ (.cells #[.int .i64 u0, .int .i64 u1, .int .i64 u2] 25) _ ((Array.getElem?_eq_some_iff.1 KU8.out).1)).trans KU8.out)))
    | (have _t := tok10; go_at_call 8; go_loud (refine (HT1.out _ (by repeat (first | exact Below.refl _ _ | refine bset ?_ _ _ (by omega) _ | refine bal ?_ _ | refine bdrN ?_ _ | refine bdr ?_ | refine below_tr' ?_ HB9.out | refine below_tr' ?_ HB8.out | refine below_tr' ?_ HB7.out | refine below_tr' ?_ HB6.out | refine below_tr' ?_ HB5.out | refine below_tr' ?_ HB4.out | refine below_tr' ?_ HB3.out))).mono ?_); rintro e w10_ ⟨g10, rfl, hg10, hgl10, hrm10, hp10, hb10⟩; have HB10 := Lib.hid hb10; have P10 := Lib.hid hp10; have hsz10 := hb10.size; (try simp at hsz10); clear hb10 hp10 hrm10; clear tok10; have KU10 := Lib.hid ((HB10.out.block _ ((Array.getElem?_eq_some_iff.1 (KU9.out)).1)).trans (KU9.out)))
    | (have _t := tok11; (go_at_call 11; (with_reducible refine (HN1.out _ _ _ (((((P6.out.below HB7.out).below HB8.out).alloc _).below HB9.out).below HB10.out) P10.out).mono ?_); rintro e w11_ ⟨rfl, hb11⟩; obtain ⟨hcb11, hfb11, hlb11⟩ := bcell hb11; have hsz11 := hb11.size; (try simp at hsz11); have HB11 := Lib.hid hb11; clear hb11); clear tok11; have KU11 := Lib.hid ((HB11.out.block _ ((Array.getElem?_eq_some_iff.1 (KU10.out)).1)).trans (KU10.out)))
    | (have _t := tok12; go_at_call 8; go_loud (refine (HT2.out _ (by repeat (first | exact Below.refl _ _ | refine bset ?_ _ _ (by omega) _ | refine bal ?_ _ | refine bdrN ?_ _ | refine bdr ?_ | refine below_tr' ?_ HB11.out | refine below_tr' ?_ HB10.out | refine below_tr' ?_ HB9.out | refine below_tr' ?_ HB8.out | refine below_tr' ?_ HB7.out | refine below_tr' ?_ HB6.out | refine below_tr' ?_ HB5.out | refine below_tr' ?_ HB4.out | refine below_tr' ?_ HB3.out))).mono ?_); rintro e w12_ ⟨g12, rfl, hg12, hgl12, hrm12, hp12, hb12⟩; have HB12 := Lib.hid hb12; have P12 := Lib.hid hp12; have hsz12 := hb12.size; (try simp at hsz12); clear hb12 hp12 hrm12; clear tok12; have KU12 := Lib.hid ((HB12.out.block _ ((Array.getElem?_eq_some_iff.1 (KU11.out)).1)).trans (KU11.out)))
    | ((go_at_call 11; (with_reducible refine (HN2.out _ _ _ ((((((P7.out.below HB8.out).alloc _).below HB9.out).below HB10.out).below HB11.out).below HB12.out) P12.out).mono ?_); rintro e w13_ ⟨rfl, hb13⟩; obtain ⟨hcb13, hfb13, hlb13⟩ := bcell hb13; have hsz13 := hb13.size; (try simp at hsz13); have HB13 := Lib.hid hb13; clear hb13); have KU13 := Lib.hid ((HB13.out.block _ ((Array.getElem?_eq_some_iff.1 (KU12.out)).1)).trans (KU12.out)))
    | (have _t := tok14; go_at_call 8; refine (HU1.out _ (by repeat (first | exact Below.refl _ _ | refine bset ?_ _ _ (by omega) _ | refine bal ?_ _ | refine bdrN ?_ _ | refine bdr ?_ | refine below_tr' ?_ HB13.out | refine below_tr' ?_ HB12.out | refine below_tr' ?_ HB11.out | refine below_tr' ?_ HB10.out | refine below_tr' ?_ HB9.out | refine below_tr' ?_ HB8.out | refine below_tr' ?_ HB7.out | refine below_tr' ?_ HB6.out | refine below_tr' ?_ HB5.out | refine below_tr' ?_ HB4.out | refine below_tr' ?_ HB3.out))).mono ?_; rintro e w14_ ⟨bb14, cc14, rfl, hl14, hb14⟩; have HB14 := Lib.hid hb14; have Q14 := Lib.hid hl14; have hsz14 := hb14.size; (try simp at hsz14); clear hb14 hl14; have KU14 := Lib.hid ((HB14.out.block _ ((Array.getElem?_eq_some_iff.1 (KU13.out)).1)).trans (KU13.out)); clear tok14)
    | (go_at_call 8; refine (HU2.out _ (by repeat (first | exact Below.refl _ _ | refine bset ?_ _ _ (by omega) _ | refine bal ?_ _ | refine bdrN ?_ _ | refine bdr ?_ | refine below_tr' ?_ HB14.out | refine below_tr' ?_ HB13.out | refine below_tr' ?_ HB12.out | refine below_tr' ?_ HB11.out | refine below_tr' ?_ HB10.out | refine below_tr' ?_ HB9.out | refine below_tr' ?_ HB8.out | refine below_tr' ?_ HB7.out | refine below_tr' ?_ HB6.out | refine below_tr' ?_ HB5.out | refine below_tr' ?_ HB4.out | refine below_tr' ?_ HB3.out))).mono ?_; rintro e w15_ ⟨bb15, cc15, rfl, hl15, hb15⟩; have HB15 := Lib.hid hb15; have Q15 := Lib.hid hl15; have hsz15 := hb15.size; (try simp at hsz15); clear hb15 hl15; have KU15 := Lib.hid ((HB15.out.block _ ((Array.getElem?_eq_some_iff.1 (KU14.out)).1)).trans (KU14.out)))
    | ((go_at_call 9; (with_reducible refine (HI.out _ _ _ _ _ (Q14.out.below HB15.out) Q15.out).mono ?_); rintro e w16_ ⟨rfl, hb16⟩; obtain ⟨hcb16, hfb16, hlb16⟩ := bcell hb16; have hsz16 := hb16.size; (try simp at hsz16); have HB16 := Lib.hid hb16; clear hb16); have KU16 := Lib.hid ((HB16.out.block _ ((Array.getElem?_eq_some_iff.1 (KU15.out)).1)).trans (KU15.out)))
    | (refine wpList_load_row _ rfl 25 _ rfl (g := w16_.heap.size) (T := 25) (cs := #[.int .i64 u0, .int .i64 u1, .int .i64 u2]) (fr := (0, 0)) rfl (heap_alloc_new _ _) 3 rfl Try.sizeOf25 Try.isAgg25 ?_)
    | (go_at_call 10; (with_reducible refine (eqLine_same u0 u1 u2 _).mono ?_); rintro e w17_ ⟨rfl, hb17⟩; obtain ⟨hcb17, hfb17, hlb17⟩ := bcell hb17; have hsz17 := hb17.size; (try simp at hsz17); have HB17 := Lib.hid hb17; clear hb17))
  go_ret
  exact ⟨rfl, (by repeat (first | exact Below.refl _ _ | refine bset ?_ _ _ (by omega) _ | refine bal ?_ _ | refine bdrN ?_ _ | refine bdr ?_ | refine below_tr' ?_ HB17.out | refine below_tr' ?_ HB16.out | refine below_tr' ?_ HB15.out | refine below_tr' ?_ HB14.out | refine below_tr' ?_ HB13.out | refine below_tr' ?_ HB12.out | refine below_tr' ?_ HB11.out | refine below_tr' ?_ HB10.out | refine below_tr' ?_ HB9.out | refine below_tr' ?_ HB8.out | refine below_tr' ?_ HB7.out | refine below_tr' ?_ HB6.out | refine below_tr' ?_ HB5.out | refine below_tr' ?_ HB4.out | refine below_tr' ?_ HB3.out))⟩
theorem FnExactDesarguesLine_walk (p : Int) (b1 : Option Addr) (n1 c1 : Nat) (l1 : List Pt) (b2 : Option Addr) (n2 c2 : Nat) (l2 : List Pt) (w : World) (hn1 : n1 ≤ 9223372036854775807) (h1 : ListP w b1 n1 l1) (hn2 : n2 ≤ 9223372036854775807) (h2 : ListP w b2 n2 l2) :
    Calls Try.prog 3 #[.int .i64 p, .slice b1 n1 c1, .slice b2 n2 c2] w (Ret w (.bool true)) := by
  by_cases hk : n1 + n2 ≤ 1000000
  · exact FnExactDesarguesLine_fit p b1 n1 c1 l1 b2 n2 c2 l2 w hk h1 h2
  · by_cases hk1 : n1 ≤ 1000000
    · exact FnExactDesarguesLine_big2 p b1 n1 c1 l1 b2 n2 c2 l2 w hn1 hn2 hk1 hk
    · exact FnExactDesarguesLine_big1 p b1 n1 c1 l1 b2 n2 c2 l2 w hn1 hk1
end Go.Proofs.Ytdiihhohaijcoaa
