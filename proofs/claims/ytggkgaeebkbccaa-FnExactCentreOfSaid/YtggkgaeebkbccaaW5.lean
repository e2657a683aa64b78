/- Contracts: the program's middles of finite points. (Printed by genmid2.py, a program of this session.) -/
import Derived.Test.YtggkgaeebkbccaaW4
namespace Go.Proofs.Ytggkgaeebkbccaa
open Go.RowKit
set_option linter.unusedVariables false
set_option linter.unusedSimpArgs false
theorem PtsAt.lt {w : World} {b o n : Nat} {l : List Pt} (h : PtsAt w b o n l) (hn : 0 < n) : b < w.heap.size := World.block_lt_of_cell? w _ (h 0 hn).1

set_option maxHeartbeats 1600000 in
theorem middle2_any (p : Int) (x0 y0 z0 x1 y1 z1 : Int) (b : Nat) (w : World) (hc : PtsAt w b 0 2 [(x0, y0, z0), (x1, y1, z1)]) :
    Calls Try.prog 53 #[.int .i64 p, .slice (some ⟨b, 0, none⟩) 2 2] w (Ret w (.tuple #[ptV (midR p (x0, y0, z0) (x1, y1, z1)).1.1 (midR p (x0, y0, z0) (x1, y1, z1)).1.2.1 (midR p (x0, y0, z0) (x1, y1, z1)).1.2.2, .int .i64 (midR p (x0, y0, z0) (x1, y1, z1)).2])) := by
  have hbw := hc.lt (by omega)
  have k00 : w.cell? ⟨b, 0, none⟩ = some (.int .i64 x0) := by simpa using (hc 0 (by omega)).1
  have k01 : w.cell? ⟨b, 1, none⟩ = some (.int .i64 y0) := by simpa using (hc 0 (by omega)).2.1
  have k02 : w.cell? ⟨b, 2, none⟩ = some (.int .i64 z0) := by simpa using (hc 0 (by omega)).2.2
  have k10 : w.cell? ⟨b, 3, none⟩ = some (.int .i64 x1) := by simpa using (hc 1 (by omega)).1
  have k11 : w.cell? ⟨b, 4, none⟩ = some (.int .i64 y1) := by simpa using (hc 1 (by omega)).2.1
  have k12 : w.cell? ⟨b, 5, none⟩ = some (.int .i64 z1) := by simpa using (hc 1 (by omega)).2.2
  have HC := Lib.hid (fun (W : World) hc => pointsCode_any p b 0 2 2 [(x0, y0, z0), (x1, y1, z1)] W rfl (by omega) hc)
  have HA := Lib.hid hc; clear hc
  by_cases hz : codeOf p (ptsB p [(x0, y0, z0), (x1, y1, z1)]) = 0
  · have HM0 : midR p (x0, y0, z0) (x1, y1, z1) = if x0 = 0 ∨ x1 = 0 then ((0, 0, 0), 5) else
      ((1, (y0 + y1) * invP p 2 % p, (z0 + z1) * invP p 2 % p), 0) := by unfold midR; rw [if_neg (by simpa using hz)]
    obtain ⟨hp, hpts⟩ := code_zero hz
    simp only [ptsB, List.all_cons, List.all_nil, Bool.and_true, Bool.and_eq_true] at hpts
    obtain ⟨q0, q1⟩ := hpts
    obtain ⟨_, f1_0, f2_0, f3_0, f4_0⟩ := pt_facts q0
    clear q0 f1_0
    obtain ⟨_, f1_1, f2_1, f3_1, f4_1⟩ := pt_facts q1
    clear q1 f1_1
    obtain ⟨hb1, hb2⟩ := prB_bd hp
    rw [hz] at HC
    clear hz
    by_cases h0 : x0 = 0
    · have HM := Lib.hid (show midR p (x0, y0, z0) (x1, y1, z1) = ((0, 0, 0), 5) by rw [HM0, if_pos (by omega)])
      have hp2 : (p == 2) = false := beqf (by omega)
      have hx0 : (x0 != 1) = true := bnet (by omega)
      have hh := Lib.hid h0
      clear HM0 hp h0 f4_0 f4_1
      go_enter Try.func53, Try.ntmps53
      go_wp2_with ((go_at_call 73; refine (HC.out _ (HA.out.alloc _)).mono ?_; rintro e w_ ⟨rfl, hb⟩; obtain ⟨hcb, hfb, hlb⟩ := bcell hb; have hsz := hb.size; try simp at hsz; have HB := Lib.hid hb; clear hb; try (have hl0 : w.heap.size < w_.heap.size := by omega)); have hbx : b < w_.heap.size := by omega)
      refine wp_loop_rounds 1 ?_
      rw [rounds_succ]; go_wp2
      exact bodyPost_ret (v := .tuple #[ptV 0 0 0, .int .i64 5]) (by simp [results, Try.results53, go_sem, hcb, hl0]) rfl ⟨by rw [HM.out], (by repeat (first | exact Below.refl _ _ | refine bset ?_ _ _ (by omega) _ | refine bal ?_ _ | refine bdrN ?_ _ | refine bdr ?_ | refine below_tr' ?_ HB.out))⟩
    · have hn0 := h0
      by_cases h1 : x1 = 0
      · have HM := Lib.hid (show midR p (x0, y0, z0) (x1, y1, z1) = ((0, 0, 0), 5) by rw [HM0, if_pos (by omega)])
        have hp2 : (p == 2) = false := beqf (by omega)
        have hx0 : (x0 != 1) = false := bnef (by omega)
        have hx1 : (x1 != 1) = true := bnet (by omega)
        have hh := Lib.hid h1
        clear HM0 hp h0 h1 f4_0 f4_1
        go_enter Try.func53, Try.ntmps53
        go_wp2_with ((go_at_call 73; refine (HC.out _ (HA.out.alloc _)).mono ?_; rintro e w_ ⟨rfl, hb⟩; obtain ⟨hcb, hfb, hlb⟩ := bcell hb; have hsz := hb.size; try simp at hsz; have HB := Lib.hid hb; clear hb; try (have hl0 : w.heap.size < w_.heap.size := by omega)); have hbx : b < w_.heap.size := by omega)
        refine wp_loop_rounds 2 ?_
        rw [rounds_succ]; go_wp2
        rw [rounds_succ]; go_wp2
        exact bodyPost_ret (v := .tuple #[ptV 0 0 0, .int .i64 5]) (by simp [results, Try.results53, go_sem, hcb, hl0]) rfl ⟨by rw [HM.out], (by repeat (first | exact Below.refl _ _ | refine bset ?_ _ _ (by omega) _ | refine bal ?_ _ | refine bdrN ?_ _ | refine bdr ?_ | refine below_tr' ?_ HB.out))⟩
      · have hn1 := h1
        have HM := Lib.hid (show midR p (x0, y0, z0) (x1, y1, z1) = ((1, (y0 + y1) * invP p 2 % p, (z0 + z1) * invP p 2 % p), 0) by rw [HM0, if_neg (by omega)])
        have hnp : (2 : Int) % p = 2 := Int.emod_eq_of_lt (by omega) (by omega)
        have HN : Hid (normL p [2, y0 + y1, z0 + z1] = [1, (y0 + y1) * invP p 2 % p, (z0 + z1) * invP p 2 % p]) := Lib.hid (by
          have hfac : facL p [2, y0 + y1, z0 + z1] = invP p 2 := by unfold facL firstNZ; simp only [List.map_cons, hnp]; rfl
          obtain ⟨_, _, s3, _⟩ := invP_spec (n := 2) hp (by omega) (by omega)
          unfold normL; simp only [List.map_cons, List.map_nil, hfac, hnp, emod_mul_l, s3])
        have hx1 : x0 = 1 ∧ x1 = 1 := by omega
        obtain ⟨rfl, rfl⟩ := hx1
        have hp2 : (p == 2) = false := beqf (by omega)
        have HP := Lib.hid hp
        clear HM0 hp hnp h0 hn0 h1 hn1 f4_0 f4_1
        generalize hv1 : (y0 + y1) * invP p 2 % p = v1 at *
        generalize hv2 : (z0 + z1) * invP p 2 % p = v2 at *
        clear hv1 hv2
        go_enter Try.func53, Try.ntmps53
        go_wp2_with ((go_at_call 73; refine (HC.out _ (HA.out.alloc _)).mono ?_; rintro e w_ ⟨rfl, hb⟩; obtain ⟨hcb, hfb, hlb⟩ := bcell hb; have hsz := hb.size; try simp at hsz; have HB := Lib.hid hb; clear hb; try (have hl0 : w.heap.size < w_.heap.size := by omega)); have hbx : b < w_.heap.size := by omega)
        refine wp_loop_rounds 3 ?_
        iterate 2 (rw [rounds_succ]; go_wp2)
        rw [rounds_succ]; go_wp2_with fail
        refine (normal_any p _ 0 3 3 [2, y0 + y1, z0 + z1] _ HP.out rfl (by omega) (by intro i hi; match i, hi with | 0, _ => simp [go_sem] | 1, _ => simp [go_sem] | 2, _ => simp [go_sem]) (by intro i hi; match i, hi with | 0, _ => simp [go_sem] | 1, _ => simp [go_sem] | 2, _ => simp [go_sem]) (by intro i hi; match i, hi with | 0, _ => simp | 1, _ => (simp; omega) | 2, _ => (simp; omega))).mono ?_
        rintro e w2 ⟨rfl, rfl⟩
        rw [HN.out, setInts3]
        go_wp2_with fail
        exact bodyPost_ret (v := .tuple #[ptV 1 v1 v2, .int .i64 0]) (by simp [results, Try.results53, go_sem, hcb, hl0]) rfl ⟨by rw [HM.out], (by repeat (first | exact Below.refl _ _ | refine bset ?_ _ _ (by omega) _ | refine bal ?_ _ | refine bdrN ?_ _ | refine bdr ?_ | refine below_tr' ?_ HB.out))⟩
  · have HM : Hid (midR p (x0, y0, z0) (x1, y1, z1) = ((0, 0, 0), codeOf p (ptsB p [(x0, y0, z0), (x1, y1, z1)]))) := Lib.hid (by unfold midR; rw [if_pos hz])
    have hz' := codeOf_ne hz
    generalize codeOf p (ptsB p [(x0, y0, z0), (x1, y1, z1)]) = c at *
    clear hz
    go_enter Try.func53, Try.ntmps53
    go_wp2_with ((go_at_call 73; refine (HC.out _ (HA.out.alloc _)).mono ?_; rintro e w_ ⟨rfl, hb⟩; obtain ⟨hcb, hfb, hlb⟩ := bcell hb; have hsz := hb.size; try simp at hsz; have HB := Lib.hid hb; clear hb; try (have hl0 : w.heap.size < w_.heap.size := by omega)); have hbx : b < w_.heap.size := by omega)
    exact bodyPost_ret (v := .tuple #[ptV 0 0 0, .int .i64 c]) (by simp [results, Try.results53, go_sem, hcb, hl0]) rfl ⟨by rw [HM.out], (by repeat (first | exact Below.refl _ _ | refine bset ?_ _ _ (by omega) _ | refine bal ?_ _ | refine bdrN ?_ _ | refine bdr ?_ | refine below_tr' ?_ HB.out))⟩

set_option maxHeartbeats 1600000 in
theorem middle3_any (p : Int) (x0 y0 z0 x1 y1 z1 x2 y2 z2 : Int) (b : Nat) (w : World) (hc : PtsAt w b 0 3 [(x0, y0, z0), (x1, y1, z1), (x2, y2, z2)]) :
    Calls Try.prog 53 #[.int .i64 p, .slice (some ⟨b, 0, none⟩) 3 3] w (Ret w (.tuple #[ptV (cenR p (x0, y0, z0) (x1, y1, z1) (x2, y2, z2)).1.1 (cenR p (x0, y0, z0) (x1, y1, z1) (x2, y2, z2)).1.2.1 (cenR p (x0, y0, z0) (x1, y1, z1) (x2, y2, z2)).1.2.2, .int .i64 (cenR p (x0, y0, z0) (x1, y1, z1) (x2, y2, z2)).2])) := by
  have hbw := hc.lt (by omega)
  have k00 : w.cell? ⟨b, 0, none⟩ = some (.int .i64 x0) := by simpa using (hc 0 (by omega)).1
  have k01 : w.cell? ⟨b, 1, none⟩ = some (.int .i64 y0) := by simpa using (hc 0 (by omega)).2.1
  have k02 : w.cell? ⟨b, 2, none⟩ = some (.int .i64 z0) := by simpa using (hc 0 (by omega)).2.2
  have k10 : w.cell? ⟨b, 3, none⟩ = some (.int .i64 x1) := by simpa using (hc 1 (by omega)).1
  have k11 : w.cell? ⟨b, 4, none⟩ = some (.int .i64 y1) := by simpa using (hc 1 (by omega)).2.1
  have k12 : w.cell? ⟨b, 5, none⟩ = some (.int .i64 z1) := by simpa using (hc 1 (by omega)).2.2
  have k20 : w.cell? ⟨b, 6, none⟩ = some (.int .i64 x2) := by simpa using (hc 2 (by omega)).1
  have k21 : w.cell? ⟨b, 7, none⟩ = some (.int .i64 y2) := by simpa using (hc 2 (by omega)).2.1
  have k22 : w.cell? ⟨b, 8, none⟩ = some (.int .i64 z2) := by simpa using (hc 2 (by omega)).2.2
  have HC := Lib.hid (fun (W : World) hc => pointsCode_any p b 0 3 3 [(x0, y0, z0), (x1, y1, z1), (x2, y2, z2)] W rfl (by omega) hc)
  have HA := Lib.hid hc; clear hc
  by_cases hz : codeOf p (ptsB p [(x0, y0, z0), (x1, y1, z1), (x2, y2, z2)]) = 0
  · have HM0 : cenR p (x0, y0, z0) (x1, y1, z1) (x2, y2, z2) = if x0 = 0 ∨ x1 = 0 ∨ x2 = 0 ∨ p = 3 then ((0, 0, 0), 5) else
      ((1, (y0 + y1 + y2) * invP p 3 % p, (z0 + z1 + z2) * invP p 3 % p), 0) := by unfold cenR; rw [if_neg (by simpa using hz)]
    obtain ⟨hp, hpts⟩ := code_zero hz
    simp only [ptsB, List.all_cons, List.all_nil, Bool.and_true, Bool.and_eq_true] at hpts
    obtain ⟨q0, q1, q2⟩ := hpts
    obtain ⟨_, f1_0, f2_0, f3_0, f4_0⟩ := pt_facts q0
    clear q0 f1_0
    obtain ⟨_, f1_1, f2_1, f3_1, f4_1⟩ := pt_facts q1
    clear q1 f1_1
    obtain ⟨_, f1_2, f2_2, f3_2, f4_2⟩ := pt_facts q2
    clear q2 f1_2
    obtain ⟨hb1, hb2⟩ := prB_bd hp
    rw [hz] at HC
    clear hz
    by_cases h0 : p = 3
    · have HM := Lib.hid (show cenR p (x0, y0, z0) (x1, y1, z1) (x2, y2, z2) = ((0, 0, 0), 5) by rw [HM0, if_pos (by omega)])
      have hp3 : (p == 3) = true := by simp [h0]
      by_cases hx : x0 = 1
      · have hx1 : (x0 != 1) = false := by simp [hx]
        clear HM0 h0 hx f4_0 f4_1 f4_2 hp
        go_enter Try.func53, Try.ntmps53
        go_wp2_with ((go_at_call 73; refine (HC.out _ (HA.out.alloc _)).mono ?_; rintro e w_ ⟨rfl, hb⟩; obtain ⟨hcb, hfb, hlb⟩ := bcell hb; have hsz := hb.size; try simp at hsz; have HB := Lib.hid hb; clear hb; try (have hl0 : w.heap.size < w_.heap.size := by omega)); have hbx : b < w_.heap.size := by omega)
        refine wp_loop_rounds 1 ?_
        rw [rounds_succ]; go_wp2
        exact bodyPost_ret (v := .tuple #[ptV 0 0 0, .int .i64 5]) (by simp [results, Try.results53, go_sem, hcb, hl0]) rfl ⟨by rw [HM.out], (by repeat (first | exact Below.refl _ _ | refine bset ?_ _ _ (by omega) _ | refine bal ?_ _ | refine bdrN ?_ _ | refine bdr ?_ | refine below_tr' ?_ HB.out))⟩
      · have hx1 : (x0 != 1) = true := by simp [hx]
        clear HM0 h0 hx f4_0 f4_1 f4_2 hp
        go_enter Try.func53, Try.ntmps53
        go_wp2_with ((go_at_call 73; refine (HC.out _ (HA.out.alloc _)).mono ?_; rintro e w_ ⟨rfl, hb⟩; obtain ⟨hcb, hfb, hlb⟩ := bcell hb; have hsz := hb.size; try simp at hsz; have HB := Lib.hid hb; clear hb; try (have hl0 : w.heap.size < w_.heap.size := by omega)); have hbx : b < w_.heap.size := by omega)
        refine wp_loop_rounds 1 ?_
        rw [rounds_succ]; go_wp2
        exact bodyPost_ret (v := .tuple #[ptV 0 0 0, .int .i64 5]) (by simp [results, Try.results53, go_sem, hcb, hl0]) rfl ⟨by rw [HM.out], (by repeat (first | exact Below.refl _ _ | refine bset ?_ _ _ (by omega) _ | refine bal ?_ _ | refine bdrN ?_ _ | refine bdr ?_ | refine below_tr' ?_ HB.out))⟩
    · have hn0 := h0
      by_cases h1 : x0 = 0
      · have HM := Lib.hid (show cenR p (x0, y0, z0) (x1, y1, z1) (x2, y2, z2) = ((0, 0, 0), 5) by rw [HM0, if_pos (by omega)])
        have hp3 : (p == 3) = false := by simp [h0]
        have hx0 : (x0 != 1) = true := bnet (by omega)
        have hh := Lib.hid h1
        clear HM0 hp h0 h1 f4_0 f4_1 f4_2
        go_enter Try.func53, Try.ntmps53
        go_wp2_with ((go_at_call 73; refine (HC.out _ (HA.out.alloc _)).mono ?_; rintro e w_ ⟨rfl, hb⟩; obtain ⟨hcb, hfb, hlb⟩ := bcell hb; have hsz := hb.size; try simp at hsz; have HB := Lib.hid hb; clear hb; try (have hl0 : w.heap.size < w_.heap.size := by omega)); have hbx : b < w_.heap.size := by omega)
        refine wp_loop_rounds 1 ?_
        rw [rounds_succ]; go_wp2
        exact bodyPost_ret (v := .tuple #[ptV 0 0 0, .int .i64 5]) (by simp [results, Try.results53, go_sem, hcb, hl0]) rfl ⟨by rw [HM.out], (by repeat (first | exact Below.refl _ _ | refine bset ?_ _ _ (by omega) _ | refine bal ?_ _ | refine bdrN ?_ _ | refine bdr ?_ | refine below_tr' ?_ HB.out))⟩
      · have hn1 := h1
        by_cases h2 : x1 = 0
        · have HM := Lib.hid (show cenR p (x0, y0, z0) (x1, y1, z1) (x2, y2, z2) = ((0, 0, 0), 5) by rw [HM0, if_pos (by omega)])
          have hp3 : (p == 3) = false := by simp [h0]
          have hx0 : (x0 != 1) = false := bnef (by omega)
          have hx1 : (x1 != 1) = true := bnet (by omega)
          have hh := Lib.hid h2
          clear HM0 hp h0 h1 h2 f4_0 f4_1 f4_2
          go_enter Try.func53, Try.ntmps53
          go_wp2_with ((go_at_call 73; refine (HC.out _ (HA.out.alloc _)).mono ?_; rintro e w_ ⟨rfl, hb⟩; obtain ⟨hcb, hfb, hlb⟩ := bcell hb; have hsz := hb.size; try simp at hsz; have HB := Lib.hid hb; clear hb; try (have hl0 : w.heap.size < w_.heap.size := by omega)); have hbx : b < w_.heap.size := by omega)
          refine wp_loop_rounds 2 ?_
          rw [rounds_succ]; go_wp2
          rw [rounds_succ]; go_wp2
          exact bodyPost_ret (v := .tuple #[ptV 0 0 0, .int .i64 5]) (by simp [results, Try.results53, go_sem, hcb, hl0]) rfl ⟨by rw [HM.out], (by repeat (first | exact Below.refl _ _ | refine bset ?_ _ _ (by omega) _ | refine bal ?_ _ | refine bdrN ?_ _ | refine bdr ?_ | refine below_tr' ?_ HB.out))⟩
        · have hn2 := h2
          by_cases h3 : x2 = 0
          · have HM := Lib.hid (show cenR p (x0, y0, z0) (x1, y1, z1) (x2, y2, z2) = ((0, 0, 0), 5) by rw [HM0, if_pos (by omega)])
            have hp3 : (p == 3) = false := by simp [h0]
            have hx0 : (x0 != 1) = false := bnef (by omega)
            have hx1 : (x1 != 1) = false := bnef (by omega)
            have hx2 : (x2 != 1) = true := bnet (by omega)
            have hh := Lib.hid h3
            clear HM0 hp h0 h1 h2 h3 f4_0 f4_1 f4_2
            go_enter Try.func53, Try.ntmps53
            go_wp2_with ((go_at_call 73; refine (HC.out _ (HA.out.alloc _)).mono ?_; rintro e w_ ⟨rfl, hb⟩; obtain ⟨hcb, hfb, hlb⟩ := bcell hb; have hsz := hb.size; try simp at hsz; have HB := Lib.hid hb; clear hb; try (have hl0 : w.heap.size < w_.heap.size := by omega)); have hbx : b < w_.heap.size := by omega)
            refine wp_loop_rounds 3 ?_
            rw [rounds_succ]; go_wp2
            rw [rounds_succ]; go_wp2
            rw [rounds_succ]; go_wp2
            exact bodyPost_ret (v := .tuple #[ptV 0 0 0, .int .i64 5]) (by simp [results, Try.results53, go_sem, hcb, hl0]) rfl ⟨by rw [HM.out], (by repeat (first | exact Below.refl _ _ | refine bset ?_ _ _ (by omega) _ | refine bal ?_ _ | refine bdrN ?_ _ | refine bdr ?_ | refine below_tr' ?_ HB.out))⟩
          · have hn3 := h3
            have HM := Lib.hid (show cenR p (x0, y0, z0) (x1, y1, z1) (x2, y2, z2) = ((1, (y0 + y1 + y2) * invP p 3 % p, (z0 + z1 + z2) * invP p 3 % p), 0) by rw [HM0, if_neg (by omega)])
            have hnp : (3 : Int) % p = 3 := Int.emod_eq_of_lt (by omega) (by omega)
            have HN : Hid (normL p [3, y0 + y1 + y2, z0 + z1 + z2] = [1, (y0 + y1 + y2) * invP p 3 % p, (z0 + z1 + z2) * invP p 3 % p]) := Lib.hid (by
              have hfac : facL p [3, y0 + y1 + y2, z0 + z1 + z2] = invP p 3 := by unfold facL firstNZ; simp only [List.map_cons, hnp]; rfl
              obtain ⟨_, _, s3, _⟩ := invP_spec (n := 3) hp (by omega) (by omega)
              unfold normL; simp only [List.map_cons, List.map_nil, hfac, hnp, emod_mul_l, s3])
            have hx1 : x0 = 1 ∧ x1 = 1 ∧ x2 = 1 := by omega
            obtain ⟨rfl, rfl, rfl⟩ := hx1
            have hp3 : (p == 3) = false := by simp [h0]
            have HP := Lib.hid hp
            clear HM0 hp hnp h0 hn0 h1 hn1 h2 hn2 h3 hn3 f4_0 f4_1 f4_2
            generalize hv1 : (y0 + y1 + y2) * invP p 3 % p = v1 at *
            generalize hv2 : (z0 + z1 + z2) * invP p 3 % p = v2 at *
            clear hv1 hv2
            go_enter Try.func53, Try.ntmps53
            go_wp2_with ((go_at_call 73; refine (HC.out _ (HA.out.alloc _)).mono ?_; rintro e w_ ⟨rfl, hb⟩; obtain ⟨hcb, hfb, hlb⟩ := bcell hb; have hsz := hb.size; try simp at hsz; have HB := Lib.hid hb; clear hb; try (have hl0 : w.heap.size < w_.heap.size := by omega)); have hbx : b < w_.heap.size := by omega)
            refine wp_loop_rounds 4 ?_
            iterate 3 (rw [rounds_succ]; go_wp2)
            rw [rounds_succ]; go_wp2_with fail
            refine (normal_any p _ 0 3 3 [3, y0 + y1 + y2, z0 + z1 + z2] _ HP.out rfl (by omega) (by intro i hi; match i, hi with | 0, _ => simp [go_sem] | 1, _ => simp [go_sem] | 2, _ => simp [go_sem]) (by intro i hi; match i, hi with | 0, _ => simp [go_sem] | 1, _ => simp [go_sem] | 2, _ => simp [go_sem]) (by intro i hi; match i, hi with | 0, _ => simp | 1, _ => (simp; omega) | 2, _ => (simp; omega))).mono ?_
            rintro e w2 ⟨rfl, rfl⟩
            rw [HN.out, setInts3]
            go_wp2_with fail
            exact bodyPost_ret (v := .tuple #[ptV 1 v1 v2, .int .i64 0]) (by simp [results, Try.results53, go_sem, hcb, hl0]) rfl ⟨by rw [HM.out], (by repeat (first | exact Below.refl _ _ | refine bset ?_ _ _ (by omega) _ | refine bal ?_ _ | refine bdrN ?_ _ | refine bdr ?_ | refine below_tr' ?_ HB.out))⟩
  · have HM : Hid (cenR p (x0, y0, z0) (x1, y1, z1) (x2, y2, z2) = ((0, 0, 0), codeOf p (ptsB p [(x0, y0, z0), (x1, y1, z1), (x2, y2, z2)]))) := Lib.hid (by unfold cenR; rw [if_pos hz])
    have hz' := codeOf_ne hz
    generalize codeOf p (ptsB p [(x0, y0, z0), (x1, y1, z1), (x2, y2, z2)]) = c at *
    clear hz
    go_enter Try.func53, Try.ntmps53
    go_wp2_with ((go_at_call 73; refine (HC.out _ (HA.out.alloc _)).mono ?_; rintro e w_ ⟨rfl, hb⟩; obtain ⟨hcb, hfb, hlb⟩ := bcell hb; have hsz := hb.size; try simp at hsz; have HB := Lib.hid hb; clear hb; try (have hl0 : w.heap.size < w_.heap.size := by omega)); have hbx : b < w_.heap.size := by omega)
    exact bodyPost_ret (v := .tuple #[ptV 0 0 0, .int .i64 c]) (by simp [results, Try.results53, go_sem, hcb, hl0]) rfl ⟨by rw [HM.out], (by repeat (first | exact Below.refl _ _ | refine bset ?_ _ _ (by omega) _ | refine bal ?_ _ | refine bdrN ?_ _ | refine bdr ?_ | refine below_tr' ?_ HB.out))⟩

end Go.Proofs.Ytggkgaeebkbccaa
