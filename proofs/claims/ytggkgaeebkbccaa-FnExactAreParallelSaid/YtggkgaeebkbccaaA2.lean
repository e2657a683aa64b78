/- Contracts: whether two lines are parallel: the reference. -/
import Derived.Test.YtggkgaeebkbccaaA1
import Derived.Deep.RegionWith
namespace Go.Proofs.Ytggkgaeebkbccaa
open Go.RowKit
set_option linter.unusedVariables false
set_option linter.unusedSimpArgs false
/-- Whether two lines are parallel, and the code. -/
def parR (p : Int) (l m : Pt) : Bool × Int :=
  if codeOf p (ptsB p [l, m]) ≠ 0 then (false, codeOf p (ptsB p [l, m])) else
  if farB l = true ∨ farB m = true then (false, 5) else
  (!(madeC p l m).2 || (madeC p l m).1.1 == 0, 0)
theorem in13 {p x y z : Int} (h : ptB p x y z = true) : In13 (x, y, z) := by
  obtain ⟨hp, f1, f2, f3, _⟩ := pt_facts h
  obtain ⟨h1, h2⟩ := prB_bd hp
  exact ⟨⟨by simp only; omega, by simp only; omega⟩, ⟨by simp only; omega, by simp only; omega⟩, by simp only; omega, by simp only; omega⟩
set_option maxHeartbeats 1600000 in
theorem AreParallel_spec (p x0 y0 z0 x1 y1 z1 : Int) (w : World) :
    Calls Try.prog 25 #[.int .i64 p, ptV x0 y0 z0, ptV x1 y1 z1] w (Ret w (.tuple #[.bool (parR p (x0, y0, z0) (x1, y1, z1)).1, .int .i64 (parR p (x0, y0, z0) (x1, y1, z1)).2])) := by
  have HC := Lib.hid (fun (b : Nat) (W : World) hc => l01Code_any p b 0 2 2 [(x0, y0, z0), (x1, y1, z1)] W rfl (by omega) hc)
  by_cases hz : codeOf p (ptsB p [(x0, y0, z0), (x1, y1, z1)]) = 0
  · have HM0 : parR p (x0, y0, z0) (x1, y1, z1) = if farB (x0, y0, z0) = true ∨ farB (x1, y1, z1) = true then (false, 5) else
      (!(madeC p (x0, y0, z0) (x1, y1, z1)).2 || (madeC p (x0, y0, z0) (x1, y1, z1)).1.1 == 0, 0) := by unfold parR; rw [if_neg (by simpa using hz)]
    obtain ⟨hp, hpts⟩ := code_zero hz
    simp only [ptsB, List.all_cons, List.all_nil, Bool.and_true, Bool.and_eq_true] at hpts
    obtain ⟨q0, q1⟩ := hpts
    have HX := Lib.hid (fun (W : World) => l01Meet_any p x0 y0 z0 x1 y1 z1 W hp (in13 q0) (in13 q1))
    have HF0 := Lib.hid (fun (W : World) => l09Far_any x0 y0 z0 W)
    have HF1 := Lib.hid (fun (W : World) => l09Far_any x1 y1 z1 W)
    rw [hz] at HC
    clear hz q0 q1 hp
    generalize madeC p (x0, y0, z0) (x1, y1, z1) = r at *
    obtain ⟨⟨u0, u1, u2⟩, c⟩ := r
    generalize farB (x0, y0, z0) = f0 at *
    generalize farB (x1, y1, z1) = f1 at *
    cases f0 with
    | true =>
      have HM := Lib.hid (show parR p (x0, y0, z0) (x1, y1, z1) = (false, 5) by rw [HM0, if_pos (by simp)])
      clear HM0 HF1 HX
      go_enter Try.func25, Try.ntmps25
      go_wp2_with (first
        | (go_at_call 52; (with_reducible refine (HC.out _ _ (ptsAt2 _ _ _ _ _ _ _ _ _ (by simp))).mono ?_); rintro e w1_ ⟨rfl, hb1⟩; obtain ⟨hcb1, hfb1, hlb1⟩ := bcell hb1; have hsz1 := hb1.size; (try simp at hsz1); have HB1 := Lib.hid hb1; clear hb1; (try (have hl01 : w.heap.size < w1_.heap.size := by omega)); (try (have hl11 : w.heap.size + 1 < w1_.heap.size := by omega)))
        | (go_at_call 54; (with_reducible refine (HF0.out _).mono ?_); rintro e w2_ ⟨rfl, hb2⟩; obtain ⟨hcb2, hfb2, hlb2⟩ := bcell hb2; have hsz2 := hb2.size; (try simp at hsz2); have HB2 := Lib.hid hb2; clear hb2; (try (have hl02 : w.heap.size < w2_.heap.size := by omega)); (try (have hl12 : w.heap.size + 1 < w2_.heap.size := by omega))))
      exact bodyPost_ret (v := .tuple #[.bool false, .int .i64 5]) (by simp [results, Try.results25, go_sem]) rfl ⟨by rw [HM.out], (by repeat (first | exact Below.refl _ _ | refine bset ?_ _ _ (by omega) _ | refine bal ?_ _ | refine bdrN ?_ _ | refine bdr ?_ | refine below_tr' ?_ HB2.out | refine below_tr' ?_ HB1.out))⟩
    | false =>
      cases f1 with
      | true =>
        have HM := Lib.hid (show parR p (x0, y0, z0) (x1, y1, z1) = (false, 5) by rw [HM0, if_pos (by simp)])
        clear HM0 HX
        go_enter Try.func25, Try.ntmps25
        go_wp2_with (first
          | (go_at_call 52; (with_reducible refine (HC.out _ _ (ptsAt2 _ _ _ _ _ _ _ _ _ (by simp))).mono ?_); rintro e w1_ ⟨rfl, hb1⟩; obtain ⟨hcb1, hfb1, hlb1⟩ := bcell hb1; have hsz1 := hb1.size; (try simp at hsz1); have HB1 := Lib.hid hb1; clear hb1; (try (have hl01 : w.heap.size < w1_.heap.size := by omega)); (try (have hl11 : w.heap.size + 1 < w1_.heap.size := by omega)))
          | (go_at_call 54; (with_reducible refine (HF0.out _).mono ?_); rintro e w2_ ⟨rfl, hb2⟩; obtain ⟨hcb2, hfb2, hlb2⟩ := bcell hb2; have hsz2 := hb2.size; (try simp at hsz2); have HB2 := Lib.hid hb2; clear hb2; (try (have hl02 : w.heap.size < w2_.heap.size := by omega)); (try (have hl12 : w.heap.size + 1 < w2_.heap.size := by omega)))
          | (go_at_call 54; (with_reducible refine (HF1.out _).mono ?_); rintro e w3_ ⟨rfl, hb3⟩; obtain ⟨hcb3, hfb3, hlb3⟩ := bcell hb3; have hsz3 := hb3.size; (try simp at hsz3); have HB3 := Lib.hid hb3; clear hb3; (try (have hl03 : w.heap.size < w3_.heap.size := by omega)); (try (have hl13 : w.heap.size + 1 < w3_.heap.size := by omega))))
        exact bodyPost_ret (v := .tuple #[.bool false, .int .i64 5]) (by simp [results, Try.results25, go_sem]) rfl ⟨by rw [HM.out], (by repeat (first | exact Below.refl _ _ | refine bset ?_ _ _ (by omega) _ | refine bal ?_ _ | refine bdrN ?_ _ | refine bdr ?_ | refine below_tr' ?_ HB3.out | refine below_tr' ?_ HB2.out | refine below_tr' ?_ HB1.out))⟩
      | false =>
        cases c with
        | false =>
          have HM := Lib.hid (show parR p (x0, y0, z0) (x1, y1, z1) = (true, 0) by rw [HM0, if_neg (by simp)]; rfl)
          clear HM0
          go_enter Try.func25, Try.ntmps25
          go_wp2_with (first
            | (go_at_call 52; (with_reducible refine (HC.out _ _ (ptsAt2 _ _ _ _ _ _ _ _ _ (by simp))).mono ?_); rintro e w1_ ⟨rfl, hb1⟩; obtain ⟨hcb1, hfb1, hlb1⟩ := bcell hb1; have hsz1 := hb1.size; (try simp at hsz1); have HB1 := Lib.hid hb1; clear hb1; (try (have hl01 : w.heap.size < w1_.heap.size := by omega)); (try (have hl11 : w.heap.size + 1 < w1_.heap.size := by omega)))
            | (go_at_call 54; (with_reducible refine (HF0.out _).mono ?_); rintro e w2_ ⟨rfl, hb2⟩; obtain ⟨hcb2, hfb2, hlb2⟩ := bcell hb2; have hsz2 := hb2.size; (try simp at hsz2); have HB2 := Lib.hid hb2; clear hb2; (try (have hl02 : w.heap.size < w2_.heap.size := by omega)); (try (have hl12 : w.heap.size + 1 < w2_.heap.size := by omega)))
            | (go_at_call 54; (with_reducible refine (HF1.out _).mono ?_); rintro e w3_ ⟨rfl, hb3⟩; obtain ⟨hcb3, hfb3, hlb3⟩ := bcell hb3; have hsz3 := hb3.size; (try simp at hsz3); have HB3 := Lib.hid hb3; clear hb3; (try (have hl03 : w.heap.size < w3_.heap.size := by omega)); (try (have hl13 : w.heap.size + 1 < w3_.heap.size := by omega)))
            | (go_at_call 55; (with_reducible refine (HX.out _).mono ?_); rintro e w4_ ⟨rfl, hb4⟩; obtain ⟨hcb4, hfb4, hlb4⟩ := bcell hb4; have hsz4 := hb4.size; (try simp at hsz4); have HB4 := Lib.hid hb4; clear hb4; (try (have hl04 : w.heap.size < w4_.heap.size := by omega)); (try (have hl14 : w.heap.size + 1 < w4_.heap.size := by omega))))
          exact bodyPost_ret (v := .tuple #[.bool true, .int .i64 0]) (by simp [results, Try.results25, go_sem]) rfl ⟨by rw [HM.out], (by repeat (first | exact Below.refl _ _ | refine bset ?_ _ _ (by omega) _ | refine bal ?_ _ | refine bdrN ?_ _ | refine bdr ?_ | refine below_tr' ?_ HB4.out | refine below_tr' ?_ HB3.out | refine below_tr' ?_ HB2.out | refine below_tr' ?_ HB1.out))⟩
        | true =>
          have HM := Lib.hid (show parR p (x0, y0, z0) (x1, y1, z1) = (u0 == 0, 0) by rw [HM0, if_neg (by simp)]; rfl)
          clear HM0
          go_enter Try.func25, Try.ntmps25
          go_wp2_with (first
            | (go_at_call 52; (with_reducible refine (HC.out _ _ (ptsAt2 _ _ _ _ _ _ _ _ _ (by simp))).mono ?_); rintro e w1_ ⟨rfl, hb1⟩; obtain ⟨hcb1, hfb1, hlb1⟩ := bcell hb1; have hsz1 := hb1.size; (try simp at hsz1); have HB1 := Lib.hid hb1; clear hb1; (try (have hl01 : w.heap.size < w1_.heap.size := by omega)); (try (have hl11 : w.heap.size + 1 < w1_.heap.size := by omega)))
            | (go_at_call 54; (with_reducible refine (HF0.out _).mono ?_); rintro e w2_ ⟨rfl, hb2⟩; obtain ⟨hcb2, hfb2, hlb2⟩ := bcell hb2; have hsz2 := hb2.size; (try simp at hsz2); have HB2 := Lib.hid hb2; clear hb2; (try (have hl02 : w.heap.size < w2_.heap.size := by omega)); (try (have hl12 : w.heap.size + 1 < w2_.heap.size := by omega)))
            | (go_at_call 54; (with_reducible refine (HF1.out _).mono ?_); rintro e w3_ ⟨rfl, hb3⟩; obtain ⟨hcb3, hfb3, hlb3⟩ := bcell hb3; have hsz3 := hb3.size; (try simp at hsz3); have HB3 := Lib.hid hb3; clear hb3; (try (have hl03 : w.heap.size < w3_.heap.size := by omega)); (try (have hl13 : w.heap.size + 1 < w3_.heap.size := by omega)))
            | (go_at_call 55; (with_reducible refine (HX.out _).mono ?_); rintro e w4_ ⟨rfl, hb4⟩; obtain ⟨hcb4, hfb4, hlb4⟩ := bcell hb4; have hsz4 := hb4.size; (try simp at hsz4); have HB4 := Lib.hid hb4; clear hb4; (try (have hl04 : w.heap.size < w4_.heap.size := by omega)); (try (have hl14 : w.heap.size + 1 < w4_.heap.size := by omega))))
          exact bodyPost_ret (v := .tuple #[.bool (u0 == 0), .int .i64 0]) (by simp [results, Try.results25, go_sem]) rfl ⟨by rw [HM.out], (by repeat (first | exact Below.refl _ _ | refine bset ?_ _ _ (by omega) _ | refine bal ?_ _ | refine bdrN ?_ _ | refine bdr ?_ | refine below_tr' ?_ HB4.out | refine below_tr' ?_ HB3.out | refine below_tr' ?_ HB2.out | refine below_tr' ?_ HB1.out))⟩
  · have HM : Hid (parR p (x0, y0, z0) (x1, y1, z1) = (false, codeOf p (ptsB p [(x0, y0, z0), (x1, y1, z1)]))) := Lib.hid (by unfold parR; rw [if_pos hz])
    have hz' := codeOf_ne hz
    generalize codeOf p (ptsB p [(x0, y0, z0), (x1, y1, z1)]) = c at *
    clear hz
    go_enter Try.func25, Try.ntmps25
    go_wp2_with (go_at_call 52; (with_reducible refine (HC.out _ _ (ptsAt2 _ _ _ _ _ _ _ _ _ (by simp))).mono ?_); rintro e w1_ ⟨rfl, hb1⟩; obtain ⟨hcb1, hfb1, hlb1⟩ := bcell hb1; have hsz1 := hb1.size; (try simp at hsz1); have HB1 := Lib.hid hb1; clear hb1; (try (have hl01 : w.heap.size < w1_.heap.size := by omega)); (try (have hl11 : w.heap.size + 1 < w1_.heap.size := by omega)))
    exact bodyPost_ret (v := .tuple #[.bool false, .int .i64 c]) (by simp [results, Try.results25, go_sem]) rfl ⟨by rw [HM.out], (by repeat (first | exact Below.refl _ _ | refine bset ?_ _ _ (by omega) _ | refine bal ?_ _ | refine bdrN ?_ _ | refine bdr ?_ | refine below_tr' ?_ HB1.out))⟩
end Go.Proofs.Ytggkgaeebkbccaa
