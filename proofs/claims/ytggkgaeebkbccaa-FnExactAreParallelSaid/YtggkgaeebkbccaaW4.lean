/- Contracts: middles of finite points. (Printed by genmid.py, a program of this session.) -/
import Derived.Test.YtggkgaeebkbccaaW3
import Derived.BigRegion
import Derived.RegionTactic
namespace Go.Proofs.Ytggkgaeebkbccaa
open Go.RowKit
set_option linter.unusedVariables false
set_option linter.unusedSimpArgs false
theorem emod_mul_l (a f p : Int) : a % p * f % p = a * f % p := by rw [Int.mul_emod, Int.emod_emod, ← Int.mul_emod]
theorem codeOf_ne {p : Int} {b : Bool} (h : codeOf p b ≠ 0) : (codeOf p b != 0) = true := by simpa using h

/-- 2 points' middle: what comes back, and the code. -/
def midR (p : Int) (a0 a1 : Pt) : Pt × Int :=
  if codeOf p (ptsB p [a0, a1]) ≠ 0 then ((0, 0, 0), codeOf p (ptsB p [a0, a1])) else
  if a0.1 = 0 ∨ a1.1 = 0 then ((0, 0, 0), 5) else
  ((1, (a0.2.1 + a1.2.1) * invP p 2 % p, (a0.2.2 + a1.2.2) * invP p 2 % p), 0)

theorem ptsAt2 (w : World) (g : Nat) (x0 y0 z0 x1 y1 z1 : Int) (T : TypeId) (hg : g = w.heap.size) :
    PtsAt (w.alloc (.cells #[.int .i64 x0, .int .i64 y0, .int .i64 z0, .int .i64 x1, .int .i64 y1, .int .i64 z1] T)) g 0 2 [(x0, y0, z0), (x1, y1, z1)] := by
  intro i hi
  rw [World.cell?_alloc_at _ _ _ _ hg, World.cell?_alloc_at _ _ _ _ hg, World.cell?_alloc_at _ _ _ _ hg]
  match i, hi with
  | 0, _ => exact ⟨rfl, rfl, rfl⟩
  | 1, _ => exact ⟨rfl, rfl, rfl⟩

set_option maxHeartbeats 1600000 in
theorem MidpointOf_spec (p : Int) (x0 y0 z0 x1 y1 z1 : Int) (w : World) :
    Calls Try.prog 23 #[.int .i64 p, ptV x0 y0 z0, ptV x1 y1 z1] w (Ret w (.tuple #[ptV (midR p (x0, y0, z0) (x1, y1, z1)).1.1 (midR p (x0, y0, z0) (x1, y1, z1)).1.2.1 (midR p (x0, y0, z0) (x1, y1, z1)).1.2.2, .int .i64 (midR p (x0, y0, z0) (x1, y1, z1)).2])) := by
  have HC := Lib.hid (fun (b : Nat) (W : World) hc => l01Code_any p b 0 2 2 [(x0, y0, z0), (x1, y1, z1)] W rfl (by omega) hc)
  by_cases hz : codeOf p (ptsB p [(x0, y0, z0), (x1, y1, z1)]) = 0
  · have HM0 : midR p (x0, y0, z0) (x1, y1, z1) = if x0 = 0 ∨ x1 = 0 then ((0, 0, 0), 5) else
      ((1, (y0 + y1) * invP p 2 % p, (z0 + z1) * invP p 2 % p), 0) := by unfold midR; rw [if_neg (by simpa using hz)]
    obtain ⟨hp, hpts⟩ := code_zero hz
    simp only [ptsB, List.all_cons, List.all_nil, Bool.and_true, Bool.and_eq_true] at hpts
    obtain ⟨q0, q1⟩ := hpts
    obtain ⟨_, f1_0, f2_0, f3_0, f4_0⟩ := pt_facts q0
    clear q0 f1_0
    obtain ⟨_, f1_1, f2_1, f3_1, f4_1⟩ := pt_facts q1
    clear q1 f1_1
    obtain ⟨hb1, hb2⟩ := prB_bd hp
    rw [hz] at HC
    clear hz
    by_cases h0 : x0 = 0
    · have h0' : (x0 == 0) = true := by simp [h0]
      have HM := Lib.hid (show midR p (x0, y0, z0) (x1, y1, z1) = ((0, 0, 0), 5) by rw [HM0, if_pos (by omega)])
      have hh0 := Lib.hid h0
      clear HM0 h0
      go_enter Try.func23, Try.ntmps23
      go_wp2_with (go_at_call 52; refine (HC.out _ _ (ptsAt2 _ _ _ _ _ _ _ _ _ (by simp))).mono ?_; rintro e w_ ⟨rfl, hb⟩; obtain ⟨hcb, hfb, hlb⟩ := bcell hb; have hsz := hb.size; try simp at hsz; have HB := Lib.hid hb; clear hb)
      exact bodyPost_ret (v := .tuple #[ptV 0 0 0, .int .i64 5]) (by simp [results, Try.results23, go_sem, hcb]) rfl ⟨by rw [HM.out], (by repeat (first | exact Below.refl _ _ | refine bset ?_ _ _ (by omega) _ | refine bal ?_ _ | refine bdrN ?_ _ | refine bdr ?_ | refine below_tr' ?_ HB.out))⟩
    · have h0' : (x0 == 0) = false := by simp [h0]
      by_cases h1 : x1 = 0
      · have h1' : (x1 == 0) = true := by simp [h1]
        have HM := Lib.hid (show midR p (x0, y0, z0) (x1, y1, z1) = ((0, 0, 0), 5) by rw [HM0, if_pos (by omega)])
        have hh1 := Lib.hid h1
        clear HM0 h0 h1
        go_enter Try.func23, Try.ntmps23
        go_wp2_with (go_at_call 52; refine (HC.out _ _ (ptsAt2 _ _ _ _ _ _ _ _ _ (by simp))).mono ?_; rintro e w_ ⟨rfl, hb⟩; obtain ⟨hcb, hfb, hlb⟩ := bcell hb; have hsz := hb.size; try simp at hsz; have HB := Lib.hid hb; clear hb)
        exact bodyPost_ret (v := .tuple #[ptV 0 0 0, .int .i64 5]) (by simp [results, Try.results23, go_sem, hcb]) rfl ⟨by rw [HM.out], (by repeat (first | exact Below.refl _ _ | refine bset ?_ _ _ (by omega) _ | refine bal ?_ _ | refine bdrN ?_ _ | refine bdr ?_ | refine below_tr' ?_ HB.out))⟩
      · have h1' : (x1 == 0) = false := by simp [h1]
        have HM := Lib.hid (show midR p (x0, y0, z0) (x1, y1, z1) = ((1, (y0 + y1) * invP p 2 % p, (z0 + z1) * invP p 2 % p), 0) by rw [HM0, if_neg (by omega)])
        have hnp : (2 : Int) % p = 2 := Int.emod_eq_of_lt (by omega) (by omega)
        have HI := Lib.hid (fun W => (l01Inverse_any p 2 W hp (by omega) (by omega) (by rw [hnp]; omega)))
        rw [hnp] at HI
        obtain ⟨v1, v2⟩ := invP_bd (n := 2) hp (by omega) (by omega)
        clear HM0 hp hnp h0 h1 f4_0 f4_1
        generalize invP p 2 = v at *
        obtain ⟨m1, m2⟩ := mul_bd (a := y0 + y1) (b := v) (A := 36) (B := 12) (by omega) (by omega) (by omega) (by omega)
        obtain ⟨m3, m4⟩ := mul_bd (a := z0 + z1) (b := v) (A := 36) (B := 12) (by omega) (by omega) (by omega) (by omega)
        have hpz : (p == 0) = false := by have : p ≠ 0 := by omega
                                          simpa using this
        go_enter Try.func23, Try.ntmps23
        go_wp2_with (first
          | (go_at_call 52; refine (HC.out _ _ (ptsAt2 _ _ _ _ _ _ _ _ _ (by simp))).mono ?_; rintro e w_ ⟨rfl, hb⟩; obtain ⟨hcb, hfb, hlb⟩ := bcell hb; have hsz := hb.size; try simp at hsz; have HB := Lib.hid hb; clear hb)
          | (go_at_call 46; refine (HI.out _).mono ?_; rintro e w' ⟨rfl, rfl⟩))
        go_region
        go_wp2
        exact bodyPost_ret (v := .tuple #[ptV 1 ((y0 + y1) * v % p) ((z0 + z1) * v % p), .int .i64 0]) (by simp [results, Try.results23, go_sem, hcb]) rfl ⟨by rw [HM.out], (by repeat (first | exact Below.refl _ _ | refine bset ?_ _ _ (by omega) _ | refine bal ?_ _ | refine bdrN ?_ _ | refine bdr ?_ | refine below_tr' ?_ HB.out))⟩
  · have HM : Hid (midR p (x0, y0, z0) (x1, y1, z1) = ((0, 0, 0), codeOf p (ptsB p [(x0, y0, z0), (x1, y1, z1)]))) := Lib.hid (by unfold midR; rw [if_pos hz])
    have hz' := codeOf_ne hz
    generalize codeOf p (ptsB p [(x0, y0, z0), (x1, y1, z1)]) = c at *
    clear hz
    go_enter Try.func23, Try.ntmps23
    go_wp2_with (go_at_call 52; refine (HC.out _ _ (ptsAt2 _ _ _ _ _ _ _ _ _ (by simp))).mono ?_; rintro e w_ ⟨rfl, hb⟩; obtain ⟨hcb, hfb, hlb⟩ := bcell hb; have hsz := hb.size; try simp at hsz; have HB := Lib.hid hb; clear hb)
    exact bodyPost_ret (v := .tuple #[ptV 0 0 0, .int .i64 c]) (by simp [results, Try.results23, go_sem, hcb]) rfl ⟨by rw [HM.out], (by repeat (first | exact Below.refl _ _ | refine bset ?_ _ _ (by omega) _ | refine bal ?_ _ | refine bdrN ?_ _ | refine bdr ?_ | refine below_tr' ?_ HB.out))⟩

/-- 3 points' middle: what comes back, and the code. -/
def cenR (p : Int) (a0 a1 a2 : Pt) : Pt × Int :=
  if codeOf p (ptsB p [a0, a1, a2]) ≠ 0 then ((0, 0, 0), codeOf p (ptsB p [a0, a1, a2])) else
  if a0.1 = 0 ∨ a1.1 = 0 ∨ a2.1 = 0 ∨ p = 3 then ((0, 0, 0), 5) else
  ((1, (a0.2.1 + a1.2.1 + a2.2.1) * invP p 3 % p, (a0.2.2 + a1.2.2 + a2.2.2) * invP p 3 % p), 0)

theorem ptsAt3 (w : World) (g : Nat) (x0 y0 z0 x1 y1 z1 x2 y2 z2 : Int) (T : TypeId) (hg : g = w.heap.size) :
    PtsAt (w.alloc (.cells #[.int .i64 x0, .int .i64 y0, .int .i64 z0, .int .i64 x1, .int .i64 y1, .int .i64 z1, .int .i64 x2, .int .i64 y2, .int .i64 z2] T)) g 0 3 [(x0, y0, z0), (x1, y1, z1), (x2, y2, z2)] := by
  intro i hi
  rw [World.cell?_alloc_at _ _ _ _ hg, World.cell?_alloc_at _ _ _ _ hg, World.cell?_alloc_at _ _ _ _ hg]
  match i, hi with
  | 0, _ => exact ⟨rfl, rfl, rfl⟩
  | 1, _ => exact ⟨rfl, rfl, rfl⟩
  | 2, _ => exact ⟨rfl, rfl, rfl⟩

set_option maxHeartbeats 1600000 in
theorem CentreOf_spec (p : Int) (x0 y0 z0 x1 y1 z1 x2 y2 z2 : Int) (w : World) :
    Calls Try.prog 19 #[.int .i64 p, ptV x0 y0 z0, ptV x1 y1 z1, ptV x2 y2 z2] w (Ret w (.tuple #[ptV (cenR p (x0, y0, z0) (x1, y1, z1) (x2, y2, z2)).1.1 (cenR p (x0, y0, z0) (x1, y1, z1) (x2, y2, z2)).1.2.1 (cenR p (x0, y0, z0) (x1, y1, z1) (x2, y2, z2)).1.2.2, .int .i64 (cenR p (x0, y0, z0) (x1, y1, z1) (x2, y2, z2)).2])) := by
  have HC := Lib.hid (fun (b : Nat) (W : World) hc => l01Code_any p b 0 3 3 [(x0, y0, z0), (x1, y1, z1), (x2, y2, z2)] W rfl (by omega) hc)
  by_cases hz : codeOf p (ptsB p [(x0, y0, z0), (x1, y1, z1), (x2, y2, z2)]) = 0
  · have HM0 : cenR p (x0, y0, z0) (x1, y1, z1) (x2, y2, z2) = if x0 = 0 ∨ x1 = 0 ∨ x2 = 0 ∨ p = 3 then ((0, 0, 0), 5) else
      ((1, (y0 + y1 + y2) * invP p 3 % p, (z0 + z1 + z2) * invP p 3 % p), 0) := by unfold cenR; rw [if_neg (by simpa using hz)]
    obtain ⟨hp, hpts⟩ := code_zero hz
    simp only [ptsB, List.all_cons, List.all_nil, Bool.and_true, Bool.and_eq_true] at hpts
    obtain ⟨q0, q1, q2⟩ := hpts
    obtain ⟨_, f1_0, f2_0, f3_0, f4_0⟩ := pt_facts q0
    clear q0 f1_0
    obtain ⟨_, f1_1, f2_1, f3_1, f4_1⟩ := pt_facts q1
    clear q1 f1_1
    obtain ⟨_, f1_2, f2_2, f3_2, f4_2⟩ := pt_facts q2
    clear q2 f1_2
    obtain ⟨hb1, hb2⟩ := prB_bd hp
    rw [hz] at HC
    clear hz
    by_cases h0 : x0 = 0
    · have h0' : (x0 == 0) = true := by simp [h0]
      have HM := Lib.hid (show cenR p (x0, y0, z0) (x1, y1, z1) (x2, y2, z2) = ((0, 0, 0), 5) by rw [HM0, if_pos (by omega)])
      have hh0 := Lib.hid h0
      clear HM0 h0
      go_enter Try.func19, Try.ntmps19
      go_wp2_with (go_at_call 52; refine (HC.out _ _ (ptsAt3 _ _ _ _ _ _ _ _ _ _ _ _ (by simp))).mono ?_; rintro e w_ ⟨rfl, hb⟩; obtain ⟨hcb, hfb, hlb⟩ := bcell hb; have hsz := hb.size; try simp at hsz; have HB := Lib.hid hb; clear hb)
      exact bodyPost_ret (v := .tuple #[ptV 0 0 0, .int .i64 5]) (by simp [results, Try.results19, go_sem, hcb]) rfl ⟨by rw [HM.out], (by repeat (first | exact Below.refl _ _ | refine bset ?_ _ _ (by omega) _ | refine bal ?_ _ | refine bdrN ?_ _ | refine bdr ?_ | refine below_tr' ?_ HB.out))⟩
    · have h0' : (x0 == 0) = false := by simp [h0]
      by_cases h1 : x1 = 0
      · have h1' : (x1 == 0) = true := by simp [h1]
        have HM := Lib.hid (show cenR p (x0, y0, z0) (x1, y1, z1) (x2, y2, z2) = ((0, 0, 0), 5) by rw [HM0, if_pos (by omega)])
        have hh1 := Lib.hid h1
        clear HM0 h0 h1
        go_enter Try.func19, Try.ntmps19
        go_wp2_with (go_at_call 52; refine (HC.out _ _ (ptsAt3 _ _ _ _ _ _ _ _ _ _ _ _ (by simp))).mono ?_; rintro e w_ ⟨rfl, hb⟩; obtain ⟨hcb, hfb, hlb⟩ := bcell hb; have hsz := hb.size; try simp at hsz; have HB := Lib.hid hb; clear hb)
        exact bodyPost_ret (v := .tuple #[ptV 0 0 0, .int .i64 5]) (by simp [results, Try.results19, go_sem, hcb]) rfl ⟨by rw [HM.out], (by repeat (first | exact Below.refl _ _ | refine bset ?_ _ _ (by omega) _ | refine bal ?_ _ | refine bdrN ?_ _ | refine bdr ?_ | refine below_tr' ?_ HB.out))⟩
      · have h1' : (x1 == 0) = false := by simp [h1]
        by_cases h2 : x2 = 0
        · have h2' : (x2 == 0) = true := by simp [h2]
          have HM := Lib.hid (show cenR p (x0, y0, z0) (x1, y1, z1) (x2, y2, z2) = ((0, 0, 0), 5) by rw [HM0, if_pos (by omega)])
          have hh2 := Lib.hid h2
          clear HM0 h0 h1 h2
          go_enter Try.func19, Try.ntmps19
          go_wp2_with (go_at_call 52; refine (HC.out _ _ (ptsAt3 _ _ _ _ _ _ _ _ _ _ _ _ (by simp))).mono ?_; rintro e w_ ⟨rfl, hb⟩; obtain ⟨hcb, hfb, hlb⟩ := bcell hb; have hsz := hb.size; try simp at hsz; have HB := Lib.hid hb; clear hb)
          exact bodyPost_ret (v := .tuple #[ptV 0 0 0, .int .i64 5]) (by simp [results, Try.results19, go_sem, hcb]) rfl ⟨by rw [HM.out], (by repeat (first | exact Below.refl _ _ | refine bset ?_ _ _ (by omega) _ | refine bal ?_ _ | refine bdrN ?_ _ | refine bdr ?_ | refine below_tr' ?_ HB.out))⟩
        · have h2' : (x2 == 0) = false := by simp [h2]
          by_cases h3 : p = 3
          · have h3' : (p == 3) = true := by simp [h3]
            have HM := Lib.hid (show cenR p (x0, y0, z0) (x1, y1, z1) (x2, y2, z2) = ((0, 0, 0), 5) by rw [HM0, if_pos (by omega)])
            have hh3 := Lib.hid h3
            clear HM0 h0 h1 h2 h3
            go_enter Try.func19, Try.ntmps19
            go_wp2_with (go_at_call 52; refine (HC.out _ _ (ptsAt3 _ _ _ _ _ _ _ _ _ _ _ _ (by simp))).mono ?_; rintro e w_ ⟨rfl, hb⟩; obtain ⟨hcb, hfb, hlb⟩ := bcell hb; have hsz := hb.size; try simp at hsz; have HB := Lib.hid hb; clear hb)
            exact bodyPost_ret (v := .tuple #[ptV 0 0 0, .int .i64 5]) (by simp [results, Try.results19, go_sem, hcb]) rfl ⟨by rw [HM.out], (by repeat (first | exact Below.refl _ _ | refine bset ?_ _ _ (by omega) _ | refine bal ?_ _ | refine bdrN ?_ _ | refine bdr ?_ | refine below_tr' ?_ HB.out))⟩
          · have h3' : (p == 3) = false := by simp [h3]
            have HM := Lib.hid (show cenR p (x0, y0, z0) (x1, y1, z1) (x2, y2, z2) = ((1, (y0 + y1 + y2) * invP p 3 % p, (z0 + z1 + z2) * invP p 3 % p), 0) by rw [HM0, if_neg (by omega)])
            have hnp : (3 : Int) % p = 3 := Int.emod_eq_of_lt (by omega) (by omega)
            have HI := Lib.hid (fun W => (l01Inverse_any p 3 W hp (by omega) (by omega) (by rw [hnp]; omega)))
            rw [hnp] at HI
            obtain ⟨v1, v2⟩ := invP_bd (n := 3) hp (by omega) (by omega)
            clear HM0 hp hnp h0 h1 h2 h3 f4_0 f4_1 f4_2
            generalize invP p 3 = v at *
            obtain ⟨m1, m2⟩ := mul_bd (a := y0 + y1 + y2) (b := v) (A := 36) (B := 12) (by omega) (by omega) (by omega) (by omega)
            obtain ⟨m3, m4⟩ := mul_bd (a := z0 + z1 + z2) (b := v) (A := 36) (B := 12) (by omega) (by omega) (by omega) (by omega)
            have hpz : (p == 0) = false := by have : p ≠ 0 := by omega
                                              simpa using this
            go_enter Try.func19, Try.ntmps19
            go_wp2_with (first
          | (go_at_call 52; refine (HC.out _ _ (ptsAt3 _ _ _ _ _ _ _ _ _ _ _ _ (by simp))).mono ?_; rintro e w_ ⟨rfl, hb⟩; obtain ⟨hcb, hfb, hlb⟩ := bcell hb; have hsz := hb.size; try simp at hsz; have HB := Lib.hid hb; clear hb)
          | (go_at_call 46; refine (HI.out _).mono ?_; rintro e w' ⟨rfl, rfl⟩))
            go_region
            go_wp2
            exact bodyPost_ret (v := .tuple #[ptV 1 ((y0 + y1 + y2) * v % p) ((z0 + z1 + z2) * v % p), .int .i64 0]) (by simp [results, Try.results19, go_sem, hcb]) rfl ⟨by rw [HM.out], (by repeat (first | exact Below.refl _ _ | refine bset ?_ _ _ (by omega) _ | refine bal ?_ _ | refine bdrN ?_ _ | refine bdr ?_ | refine below_tr' ?_ HB.out))⟩
  · have HM : Hid (cenR p (x0, y0, z0) (x1, y1, z1) (x2, y2, z2) = ((0, 0, 0), codeOf p (ptsB p [(x0, y0, z0), (x1, y1, z1), (x2, y2, z2)]))) := Lib.hid (by unfold cenR; rw [if_pos hz])
    have hz' := codeOf_ne hz
    generalize codeOf p (ptsB p [(x0, y0, z0), (x1, y1, z1), (x2, y2, z2)]) = c at *
    clear hz
    go_enter Try.func19, Try.ntmps19
    go_wp2_with (go_at_call 52; refine (HC.out _ _ (ptsAt3 _ _ _ _ _ _ _ _ _ _ _ _ (by simp))).mono ?_; rintro e w_ ⟨rfl, hb⟩; obtain ⟨hcb, hfb, hlb⟩ := bcell hb; have hsz := hb.size; try simp at hsz; have HB := Lib.hid hb; clear hb)
    exact bodyPost_ret (v := .tuple #[ptV 0 0 0, .int .i64 c]) (by simp [results, Try.results19, go_sem, hcb]) rfl ⟨by rw [HM.out], (by repeat (first | exact Below.refl _ _ | refine bset ?_ _ _ (by omega) _ | refine bal ?_ _ | refine bdrN ?_ _ | refine bdr ?_ | refine below_tr' ?_ HB.out))⟩

end Go.Proofs.Ytggkgaeebkbccaa
