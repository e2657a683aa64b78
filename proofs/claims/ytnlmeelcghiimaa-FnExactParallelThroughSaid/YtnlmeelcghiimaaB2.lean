/- Contracts: the parallel through a point: the reference. -/
import Derived.Test.YtnlmeelcghiimaaB1
namespace Go.Proofs.Ytnlmeelcghiimaa
open Go.RowKit
set_option linter.unusedVariables false
set_option linter.unusedSimpArgs false
/-- The parallel to a line through a point, and the code. -/
def thrR (p : Int) (l a : Pt) : Pt × Int :=
  if codeOf p (ptsB p [l, a]) ≠ 0 then ((0, 0, 0), codeOf p (ptsB p [l, a])) else
  if farB l = true ∨ a.1 = 0 then ((0, 0, 0), 5) else
  (crsN p a (crsN p l (1, 0, 0)), 0)
set_option maxHeartbeats 1600000 in
theorem ParallelThrough_spec (p x0 y0 z0 x1 y1 z1 : Int) (w : World) :
    Calls Try.prog 12 #[.int .i64 p, ptV x0 y0 z0, ptV x1 y1 z1] w (Ret w (.tuple #[ptV (thrR p (x0, y0, z0) (x1, y1, z1)).1.1 (thrR p (x0, y0, z0) (x1, y1, z1)).1.2.1 (thrR p (x0, y0, z0) (x1, y1, z1)).1.2.2, .int .i64 (thrR p (x0, y0, z0) (x1, y1, z1)).2])) := by
  have HC := Lib.hid (fun (b : Nat) (W : World) hc => l01Code_any p b 0 2 2 [(x0, y0, z0), (x1, y1, z1)] W rfl (by omega) hc)
  by_cases hz : codeOf p (ptsB p [(x0, y0, z0), (x1, y1, z1)]) = 0
  · have HM0 : thrR p (x0, y0, z0) (x1, y1, z1) = if farB (x0, y0, z0) = true ∨ x1 = 0 then ((0, 0, 0), 5) else
      (crsN p (x1, y1, z1) (crsN p (x0, y0, z0) (1, 0, 0)), 0) := by unfold thrR; rw [if_neg (by simpa using hz)]
    obtain ⟨hp, hpts⟩ := code_zero hz
    simp only [ptsB, List.all_cons, List.all_nil, Bool.and_true, Bool.and_eq_true] at hpts
    obtain ⟨q0, q1⟩ := hpts
    have HX := Lib.hid (fun (W : World) => l01Meet_crs p x0 y0 z0 1 0 0 W hp (in13' q0) in13_far)
    have HJ := Lib.hid (fun (W : World) => l01Join_crs p x1 y1 z1 _ _ _ W hp (in13' q1) (crsN_in' (a := (x0, y0, z0)) (b := (1, 0, 0)) hp))
    have HF0 := Lib.hid (fun (W : World) => l09Far_any x0 y0 z0 W)
    rw [hz] at HC
    clear hz q0 q1 hp
    generalize okC p (x0, y0, z0) (1, 0, 0) = o1 at *
    generalize crsN p (x0, y0, z0) (1, 0, 0) = r at *
    obtain ⟨v0, v1, v2⟩ := r
    simp only at HX HJ
    generalize okC p (x1, y1, z1) (v0, v1, v2) = o2 at *
    generalize crsN p (x1, y1, z1) (v0, v1, v2) = r at *
    obtain ⟨u0, u1, u2⟩ := r
    generalize farB (x0, y0, z0) = f0 at *
    cases f0 with
    | true =>
      have HM := Lib.hid (show thrR p (x0, y0, z0) (x1, y1, z1) = ((0, 0, 0), 5) by rw [HM0, if_pos (by simp)])
      clear HM0 HX HJ
      go_enter Try.func12, Try.ntmps12
      go_wp2_with (first
        | (go_at_call 47; (with_reducible refine (HC.out _ _ (at2 _ _ _ _ _ _ _ _ _ (by simp))).mono ?_); rintro e w1_ ⟨rfl, hb1⟩; obtain ⟨hcb1, hfb1, hlb1⟩ := bcell hb1; have hsz1 := hb1.size; (try simp at hsz1); have HB1 := Lib.hid hb1; clear hb1; (try (have hl01 : w.heap.size < w1_.heap.size := by omega)); (try (have hl11 : w.heap.size + 1 < w1_.heap.size := by omega)); (try (have hl21 : w.heap.size + 1 + 1 < w1_.heap.size := by omega)))
        | (go_at_call 48; (with_reducible refine (HF0.out _).mono ?_); rintro e w2_ ⟨rfl, hb2⟩; obtain ⟨hcb2, hfb2, hlb2⟩ := bcell hb2; have hsz2 := hb2.size; (try simp at hsz2); have HB2 := Lib.hid hb2; clear hb2; (try (have hl02 : w.heap.size < w2_.heap.size := by omega)); (try (have hl12 : w.heap.size + 1 < w2_.heap.size := by omega)); (try (have hl22 : w.heap.size + 1 + 1 < w2_.heap.size := by omega))))
      exact bodyPost_ret (v := .tuple #[ptV 0 0 0, .int .i64 5]) (by simp [results, Try.results12, go_sem, hcb1, hcb2, hl01, hl11, hl21, hl02, hl12, hl22]) rfl ⟨by rw [HM.out], (by repeat (first | exact Below.refl _ _ | refine bset ?_ _ _ (by omega) _ | refine bal ?_ _ | refine bdrN ?_ _ | refine bdr ?_ | refine below_tr' ?_ HB2.out | refine below_tr' ?_ HB1.out))⟩
    | false =>
      by_cases h1 : x1 = 0
      · have h1' : (x1 == 0) = true := by simp [h1]
        have HM := Lib.hid (show thrR p (x0, y0, z0) (x1, y1, z1) = ((0, 0, 0), 5) by rw [HM0, if_pos (by simp [h1])])
        clear HM0 HX HJ h1
        go_enter Try.func12, Try.ntmps12
        go_wp2_with (first
          | (go_at_call 47; (with_reducible refine (HC.out _ _ (at2 _ _ _ _ _ _ _ _ _ (by simp))).mono ?_); rintro e w1_ ⟨rfl, hb1⟩; obtain ⟨hcb1, hfb1, hlb1⟩ := bcell hb1; have hsz1 := hb1.size; (try simp at hsz1); have HB1 := Lib.hid hb1; clear hb1; (try (have hl01 : w.heap.size < w1_.heap.size := by omega)); (try (have hl11 : w.heap.size + 1 < w1_.heap.size := by omega)); (try (have hl21 : w.heap.size + 1 + 1 < w1_.heap.size := by omega)))
          | (go_at_call 48; (with_reducible refine (HF0.out _).mono ?_); rintro e w2_ ⟨rfl, hb2⟩; obtain ⟨hcb2, hfb2, hlb2⟩ := bcell hb2; have hsz2 := hb2.size; (try simp at hsz2); have HB2 := Lib.hid hb2; clear hb2; (try (have hl02 : w.heap.size < w2_.heap.size := by omega)); (try (have hl12 : w.heap.size + 1 < w2_.heap.size := by omega)); (try (have hl22 : w.heap.size + 1 + 1 < w2_.heap.size := by omega))))
        exact bodyPost_ret (v := .tuple #[ptV 0 0 0, .int .i64 5]) (by simp [results, Try.results12, go_sem, hcb1, hcb2, hl01, hl11, hl21, hl02, hl12, hl22]) rfl ⟨by rw [HM.out], (by repeat (first | exact Below.refl _ _ | refine bset ?_ _ _ (by omega) _ | refine bal ?_ _ | refine bdrN ?_ _ | refine bdr ?_ | refine below_tr' ?_ HB2.out | refine below_tr' ?_ HB1.out))⟩
      · have h1' : (x1 == 0) = false := by simp [h1]
        have HM := Lib.hid (show thrR p (x0, y0, z0) (x1, y1, z1) = ((u0, u1, u2), 0) by rw [HM0, if_neg (by simp [h1])])
        clear HM0 h1
        go_enter Try.func12, Try.ntmps12
        go_wp2_with (first
          | (go_at_call 47; (with_reducible refine (HC.out _ _ (at2 _ _ _ _ _ _ _ _ _ (by simp))).mono ?_); rintro e w1_ ⟨rfl, hb1⟩; obtain ⟨hcb1, hfb1, hlb1⟩ := bcell hb1; have hsz1 := hb1.size; (try simp at hsz1); have HB1 := Lib.hid hb1; clear hb1; (try (have hl01 : w.heap.size < w1_.heap.size := by omega)); (try (have hl11 : w.heap.size + 1 < w1_.heap.size := by omega)); (try (have hl21 : w.heap.size + 1 + 1 < w1_.heap.size := by omega)))
          | (go_at_call 48; (with_reducible refine (HF0.out _).mono ?_); rintro e w2_ ⟨rfl, hb2⟩; obtain ⟨hcb2, hfb2, hlb2⟩ := bcell hb2; have hsz2 := hb2.size; (try simp at hsz2); have HB2 := Lib.hid hb2; clear hb2; (try (have hl02 : w.heap.size < w2_.heap.size := by omega)); (try (have hl12 : w.heap.size + 1 < w2_.heap.size := by omega)); (try (have hl22 : w.heap.size + 1 + 1 < w2_.heap.size := by omega)))
          | (go_at_call 49; (with_reducible refine (HX.out _).mono ?_); rintro e w3_ ⟨rfl, hb3⟩; obtain ⟨hcb3, hfb3, hlb3⟩ := bcell hb3; have hsz3 := hb3.size; (try simp at hsz3); have HB3 := Lib.hid hb3; clear hb3; (try (have hl03 : w.heap.size < w3_.heap.size := by omega)); (try (have hl13 : w.heap.size + 1 < w3_.heap.size := by omega)); (try (have hl23 : w.heap.size + 1 + 1 < w3_.heap.size := by omega)))
          | (go_at_call 50; (with_reducible refine (HJ.out _).mono ?_); rintro e w4_ ⟨rfl, hb4⟩; obtain ⟨hcb4, hfb4, hlb4⟩ := bcell hb4; have hsz4 := hb4.size; (try simp at hsz4); have HB4 := Lib.hid hb4; clear hb4; (try (have hl04 : w.heap.size < w4_.heap.size := by omega)); (try (have hl14 : w.heap.size + 1 < w4_.heap.size := by omega)); (try (have hl24 : w.heap.size + 1 + 1 < w4_.heap.size := by omega)); (try (have hl04_1 : w3_.heap.size < w4_.heap.size := by omega))))
        exact bodyPost_ret (v := .tuple #[ptV u0 u1 u2, .int .i64 0]) (by simp [results, Try.results12, go_sem, hcb1, hcb2, hcb3, hcb4, hl01, hl11, hl21, hl02, hl12, hl22, hl03, hl13, hl23, hl04, hl14, hl24]) rfl ⟨by rw [HM.out], (by repeat (first | exact Below.refl _ _ | refine bset ?_ _ _ (by omega) _ | refine bal ?_ _ | refine bdrN ?_ _ | refine bdr ?_ | refine below_tr' ?_ HB4.out | refine below_tr' ?_ HB3.out | refine below_tr' ?_ HB2.out | refine below_tr' ?_ HB1.out))⟩
  · have HM : Hid (thrR p (x0, y0, z0) (x1, y1, z1) = ((0, 0, 0), codeOf p (ptsB p [(x0, y0, z0), (x1, y1, z1)]))) := Lib.hid (by unfold thrR; rw [if_pos hz])
    have hz' := codeOf_ne hz
    generalize codeOf p (ptsB p [(x0, y0, z0), (x1, y1, z1)]) = c at *
    clear hz
    go_enter Try.func12, Try.ntmps12
    go_wp2_with (go_at_call 47; (with_reducible refine (HC.out _ _ (at2 _ _ _ _ _ _ _ _ _ (by simp))).mono ?_); rintro e w1_ ⟨rfl, hb1⟩; obtain ⟨hcb1, hfb1, hlb1⟩ := bcell hb1; have hsz1 := hb1.size; (try simp at hsz1); have HB1 := Lib.hid hb1; clear hb1; (try (have hl01 : w.heap.size < w1_.heap.size := by omega)); (try (have hl11 : w.heap.size + 1 < w1_.heap.size := by omega)); (try (have hl21 : w.heap.size + 1 + 1 < w1_.heap.size := by omega)))
    exact bodyPost_ret (v := .tuple #[ptV 0 0 0, .int .i64 c]) (by simp [results, Try.results12, go_sem, hcb1, hl01, hl11, hl21]) rfl ⟨by rw [HM.out], (by repeat (first | exact Below.refl _ _ | refine bset ?_ _ _ (by omega) _ | refine bal ?_ _ | refine bdrN ?_ _ | refine bdr ?_ | refine below_tr' ?_ HB1.out))⟩
end Go.Proofs.Ytnlmeelcghiimaa
