/- The law FnExactAreParallel: walked. (Printed by genlaw2.py, a program of this session.) -/
import Derived.Test.YtggkgaeebkbccaaA3
import Derived.Deep.DeepCutAuto
namespace Go.Proofs.Ytggkgaeebkbccaa
open Go.RowKit
set_option linter.unusedVariables false
set_option linter.unusedSimpArgs false
set_option maxHeartbeats 4000000 in
theorem FnExactAreParallel_walk (p x0 y0 z0 x1 y1 z1 : Int) (w : World) :
    Calls Try.prog 8 #[.int .i64 p, ptV x0 y0 z0, ptV x1 y1 z1] w (Ret w (.bool true)) := by
  have HS := Lib.hid (fun (W : World) => AreParallel_spec p x0 y0 z0 x1 y1 z1 W)
  have HI := Lib.hid (fun (W : World) => AreParallel_impl p x0 y0 z0 x1 y1 z1 W)
  generalize parR p (x0, y0, z0) (x1, y1, z1) = r at *
  obtain ⟨u, c⟩ := r
  go_enter Try.func8, Try.ntmps8
  go_upto_region 1 with fail
  refine region_calm [(12, .int .i64 p), (13, ptV x0 y0 z0), (14, ptV x0 y0 z0), (15, ptV x1 y1 z1), (16, ptV x1 y1 z1), (17, .tuple #[.bool u, .int .i64 c]), (11, .tuple #[.bool u, .int .i64 c]), (18, .bool u), (19, .int .i64 c), (7, .bool u), (8, .int .i64 c)] (by kernel_rfl) (by kernel_rfl) (by kernel_rfl) (fun aE hpe => ?_)
  simp only [puts, Act.put, List.setIfInBounds_toArray, List.set_cons_zero, List.set_cons_succ] at hpe
  subst hpe
  refine ⟨⟨.inr (.inr ?_), .inr (.inr ?_), .inr (.inr ?_), .inr (.inr ?_), .inr (.inr ?_), .inr (.inr ?_), .inr (.inr ?_), .inr (.inr ?_), .inr (.inr ?_), .inr (.inr ?_), .inr (.inr ?_), trivial⟩, ?_⟩
  · exact Calm.mk 12 (.int .i64 p) rfl rfl (fun W _ => calm_move (.tmp 0) rfl rfl)
  · exact Calm.mk 13 (ptV x0 y0 z0) rfl rfl (fun W hW => calm_load (cs := #[.int .i64 x0, .int .i64 y0, .int .i64 z0]) (g := w.heap.size) (T := 22) (fr := (0, 0)) 22 (.tmp 4) rfl rfl (by rw [hW.block _ (by first | (simp; done) | (simp; omega)), hn_past _ _ _ (by first | (simp; done) | (simp; omega)), hn_at _ _ _ (by simp)]) 3 rfl Try.sizeOf22 Try.isAgg22)
  · exact Calm.mk 14 (ptV x0 y0 z0) rfl rfl (fun W hW => calm_call 26 _ #[ptV x0 y0 z0] rfl rfl rfl (by simp [Act.eval]) (Try.call26 _ _) (toLine_any x0 y0 z0 W))
  · exact Calm.mk 15 (ptV x1 y1 z1) rfl rfl (fun W hW => calm_load (cs := #[.int .i64 x1, .int .i64 y1, .int .i64 z1]) (g := w.heap.size + 1) (T := 22) (fr := (0, 0)) 22 (.tmp 5) rfl rfl (by rw [hW.block _ (by first | (simp; done) | (simp; omega)), hn_at _ _ _ (by simp)]) 3 rfl Try.sizeOf22 Try.isAgg22)
  · exact Calm.mk 16 (ptV x1 y1 z1) rfl rfl (fun W hW => calm_call 26 _ #[ptV x1 y1 z1] rfl rfl rfl (by simp [Act.eval]) (Try.call26 _ _) (toLine_any x1 y1 z1 W))
  · exact Calm.mk 17 (.tuple #[.bool u, .int .i64 c]) rfl rfl (fun W hW => calm_call 25 _ #[.int .i64 p, ptV x0 y0 z0, ptV x1 y1 z1] rfl rfl rfl (by simp [Act.eval]) (Try.call25 _ _) (HS.out W))
  · exact Calm.mk 11 (.tuple #[.bool u, .int .i64 c]) rfl rfl (fun W _ => calm_move (.tmp 17) rfl rfl)
  · exact Calm.mk 18 (.bool u) rfl rfl (fun W _ => calm_extract (.tmp 11) 0 rfl rfl rfl)
  · exact Calm.mk 19 (.int .i64 c) rfl rfl (fun W _ => calm_extract (.tmp 11) 1 rfl rfl rfl)
  · exact Calm.mk 7 (.bool u) rfl rfl (fun W _ => calm_assign (.tmp 18) rfl rfl)
  · exact Calm.mk 8 (.int .i64 c) rfl rfl (fun W _ => calm_assign (.tmp 19) rfl rfl)
  intro W1 hW1
  have hbx0 : W1.heap[w.heap.size]? = some (.cells #[.int .i64 x0, .int .i64 y0, .int .i64 z0] 22 (0, 0)) := by rw [hW1.block _ (by first | (simp; done) | (simp; omega)), hn_past _ _ _ (by first | (simp; done) | (simp; omega)), hn_at _ _ _ (by simp)]
  have hlx0 : w.heap.size < W1.heap.size := (Array.getElem?_eq_some_iff.1 hbx0).1
  have hbx1 : W1.heap[w.heap.size + 1]? = some (.cells #[.int .i64 x1, .int .i64 y1, .int .i64 z1] 22 (0, 0)) := by rw [hW1.block _ (by first | (simp; done) | (simp; omega)), hn_at _ _ _ (by simp)]
  have hlx1 : w.heap.size + 1 < W1.heap.size := (Array.getElem?_eq_some_iff.1 hbx1).1
  have HW1 := Lib.hid hW1; clear hW1
  go_upto_region 2 with fail
  refine region_calm [(21, .int .i64 p), (22, ptV x0 y0 z0), (23, ptV x0 y0 z0), (24, ptV x1 y1 z1), (25, ptV x1 y1 z1), (26, .tuple #[.bool u, .int .i64 c]), (20, .tuple #[.bool u, .int .i64 c]), (27, .bool u), (28, .int .i64 c), (9, .bool u), (10, .int .i64 c)] (by kernel_rfl) (by kernel_rfl) (by kernel_rfl) (fun aE hpe => ?_)
  simp only [puts, Act.put, List.setIfInBounds_toArray, List.set_cons_zero, List.set_cons_succ] at hpe
  subst hpe
  refine ⟨⟨.inr (.inr ?_), .inr (.inr ?_), .inr (.inr ?_), .inr (.inr ?_), .inr (.inr ?_), .inr (.inr ?_), .inr (.inr ?_), .inr (.inr ?_), .inr (.inr ?_), .inr (.inr ?_), .inr (.inr ?_), trivial⟩, ?_⟩
  · exact Calm.mk 21 (.int .i64 p) rfl rfl (fun W _ => calm_move (.tmp 0) rfl rfl)
  · exact Calm.mk 22 (ptV x0 y0 z0) rfl rfl (fun W hW => calm_load (cs := #[.int .i64 x0, .int .i64 y0, .int .i64 z0]) (g := w.heap.size) (T := 22) (fr := (0, 0)) 22 (.tmp 4) rfl rfl (by rw [hW.block _ hlx0]; exact hbx0) 3 rfl Try.sizeOf22 Try.isAgg22)
  · exact Calm.mk 23 (ptV x0 y0 z0) rfl rfl (fun W hW => calm_call 26 _ #[ptV x0 y0 z0] rfl rfl rfl (by simp [Act.eval]) (Try.call26 _ _) (toLine_any x0 y0 z0 W))
  · exact Calm.mk 24 (ptV x1 y1 z1) rfl rfl (fun W hW => calm_load (cs := #[.int .i64 x1, .int .i64 y1, .int .i64 z1]) (g := w.heap.size + 1) (T := 22) (fr := (0, 0)) 22 (.tmp 5) rfl rfl (by rw [hW.block _ hlx1]; exact hbx1) 3 rfl Try.sizeOf22 Try.isAgg22)
  · exact Calm.mk 25 (ptV x1 y1 z1) rfl rfl (fun W hW => calm_call 26 _ #[ptV x1 y1 z1] rfl rfl rfl (by simp [Act.eval]) (Try.call26 _ _) (toLine_any x1 y1 z1 W))
  · exact Calm.mk 26 (.tuple #[.bool u, .int .i64 c]) rfl rfl (fun W hW => calm_call 27 _ #[.int .i64 p, ptV x0 y0 z0, ptV x1 y1 z1] rfl rfl rfl (by simp [Act.eval]) (Try.call27 _ _) (HI.out W))
  · exact Calm.mk 20 (.tuple #[.bool u, .int .i64 c]) rfl rfl (fun W _ => calm_move (.tmp 26) rfl rfl)
  · exact Calm.mk 27 (.bool u) rfl rfl (fun W _ => calm_extract (.tmp 20) 0 rfl rfl rfl)
  · exact Calm.mk 28 (.int .i64 c) rfl rfl (fun W _ => calm_extract (.tmp 20) 1 rfl rfl rfl)
  · exact Calm.mk 9 (.bool u) rfl rfl (fun W _ => calm_assign (.tmp 27) rfl rfl)
  · exact Calm.mk 10 (.int .i64 c) rfl rfl (fun W _ => calm_assign (.tmp 28) rfl rfl)
  intro W2 hW2
  have HW2 := Lib.hid hW2; clear hW2
  clear hbx0 hlx0 hbx1 hlx1
  cases u
  all_goals go_wp2
  all_goals go_ret
  all_goals exact ⟨rfl, (by repeat (first | exact Below.refl _ _ | refine bset ?_ _ _ (by omega) _ | refine bal ?_ _ | refine bdrN ?_ _ | refine bdr ?_ | refine below_tr' ?_ HW2.out | refine below_tr' ?_ HW1.out))⟩
end Go.Proofs.Ytggkgaeebkbccaa
