/- Contracts: the program's MidpointOf and CentreOf. -/
import Derived.Test.YtggkgaeebkbccaaW5
import Derived.Deep.RegionWith
namespace Go.Proofs.Ytggkgaeebkbccaa
open Go.RowKit
set_option linter.unusedVariables false
set_option linter.unusedSimpArgs false
theorem MidpointOf_impl (p x0 y0 z0 x1 y1 z1 : Int) (w : World) :
    Calls Try.prog 24 #[.int .i64 p, ptV x0 y0 z0, ptV x1 y1 z1] w (Ret w (.tuple #[ptV (midR p (x0, y0, z0) (x1, y1, z1)).1.1 (midR p (x0, y0, z0) (x1, y1, z1)).1.2.1 (midR p (x0, y0, z0) (x1, y1, z1)).1.2.2, .int .i64 (midR p (x0, y0, z0) (x1, y1, z1)).2])) := by
  have HC := Lib.hid (fun (b : Nat) (W : World) hc => middle2_any p x0 y0 z0 x1 y1 z1 b W hc)
  generalize midR p (x0, y0, z0) (x1, y1, z1) = r at *
  obtain ⟨⟨u0, u1, u2⟩, c⟩ := r
  go_enter Try.func24, Try.ntmps24
  go_wp2_with (go_at_call 53; refine (HC.out _ _ (ptsAt2 _ _ _ _ _ _ _ _ _ (by simp))).mono ?_; rintro e w_ ⟨rfl, hb⟩; obtain ⟨hcb, hfb, hlb⟩ := bcell hb; have hsz := hb.size; try simp at hsz; have HB := Lib.hid hb; clear hb; try (have hl0 : w.heap.size < w_.heap.size := by omega); try (have hl1 : w.heap.size + 1 < w_.heap.size := by omega); try (have hl2 : w.heap.size + 1 + 1 < w_.heap.size := by omega); try (have hl3 : w.heap.size + 1 + 1 + 1 < w_.heap.size := by omega))
  exact bodyPost_ret (v := .tuple #[ptV u0 u1 u2, .int .i64 c]) (by simp [results, Try.results24, go_sem, hcb, hl0, hl1, hl2, hl3]) rfl ⟨rfl, (by repeat (first | exact Below.refl _ _ | refine bset ?_ _ _ (by omega) _ | refine bal ?_ _ | refine bdrN ?_ _ | refine bdr ?_ | refine below_tr' ?_ HB.out))⟩
theorem CentreOf_impl (p x0 y0 z0 x1 y1 z1 x2 y2 z2 : Int) (w : World) :
    Calls Try.prog 21 #[.int .i64 p, ptV x0 y0 z0, ptV x1 y1 z1, ptV x2 y2 z2] w (Ret w (.tuple #[ptV (cenR p (x0, y0, z0) (x1, y1, z1) (x2, y2, z2)).1.1 (cenR p (x0, y0, z0) (x1, y1, z1) (x2, y2, z2)).1.2.1 (cenR p (x0, y0, z0) (x1, y1, z1) (x2, y2, z2)).1.2.2, .int .i64 (cenR p (x0, y0, z0) (x1, y1, z1) (x2, y2, z2)).2])) := by
  have HC := Lib.hid (fun (b : Nat) (W : World) hc => middle3_any p x0 y0 z0 x1 y1 z1 x2 y2 z2 b W hc)
  generalize cenR p (x0, y0, z0) (x1, y1, z1) (x2, y2, z2) = r at *
  obtain ⟨⟨u0, u1, u2⟩, c⟩ := r
  go_enter Try.func21, Try.ntmps21
  go_wp2_with (go_at_call 53; refine (HC.out _ _ (ptsAt3 _ _ _ _ _ _ _ _ _ _ _ _ (by simp))).mono ?_; rintro e w_ ⟨rfl, hb⟩; obtain ⟨hcb, hfb, hlb⟩ := bcell hb; have hsz := hb.size; try simp at hsz; have HB := Lib.hid hb; clear hb; try (have hl0 : w.heap.size < w_.heap.size := by omega); try (have hl1 : w.heap.size + 1 < w_.heap.size := by omega); try (have hl2 : w.heap.size + 1 + 1 < w_.heap.size := by omega); try (have hl3 : w.heap.size + 1 + 1 + 1 < w_.heap.size := by omega); try (have hl4 : w.heap.size + 1 + 1 + 1 + 1 < w_.heap.size := by omega))
  exact bodyPost_ret (v := .tuple #[ptV u0 u1 u2, .int .i64 c]) (by simp [results, Try.results21, go_sem, hcb, hl0, hl1, hl2, hl3, hl4]) rfl ⟨rfl, (by repeat (first | exact Below.refl _ _ | refine bset ?_ _ _ (by omega) _ | refine bal ?_ _ | refine bdrN ?_ _ | refine bdr ?_ | refine below_tr' ?_ HB.out))⟩
end Go.Proofs.Ytggkgaeebkbccaa
