/- The law FnExactQuadranglePoint: walked. (Printed by genlaw4.py, a program of this session.) -/
import Derived.Test.YthkbhaaodegocaaF8
import Derived.Deep.DeepCutAuto
namespace Go.Proofs.Ythkbhaaodegocaa
open Go.RowKit
set_option linter.unusedVariables false
set_option linter.unusedSimpArgs false

set_option maxHeartbeats 4000000 in
theorem FnExactQuadranglePoint_walk (p x0 y0 z0 x1 y1 z1 x2 y2 z2 : Int) (w : World) :
    Calls Try.prog 10 #[.int .i64 p, ptV x0 y0 z0, ptV x1 y1 z1, ptV x2 y2 z2] w (Ret w (.bool true)) := by
  have HS := Lib.hid (fun (W : World) => QuadranglePoint_spec p x0 y0 z0 x1 y1 z1 x2 y2 z2 W)
  have HI := Lib.hid (fun (W : World) => QuadranglePoint_impl p x0 y0 z0 x1 y1 z1 x2 y2 z2 W)
  generalize quadR p (x0, y0, z0) (x1, y1, z1) (x2, y2, z2) = r at *
  obtain ⟨⟨u0, u1, u2⟩, c⟩ := r
  go_enter Try.func10, Try.ntmps10
  go_upto_region 1 with fail
  refine region_box (m := 11) (s := 12) (d := 9) (n := 3) (T := 23)
    [(14, .int .i64 p), (15, ptV x0 y0 z0), (16, ptV x0 y0 z0), (17, ptV x1 y1 z1), (18, ptV x1 y1 z1), (19, ptV x2 y2 z2), (20, ptV x2 y2 z2), (21, .tuple #[ptV u0 u1 u2, .int .i64 c]), (13, .tuple #[ptV u0 u1 u2, .int .i64 c]), (22, ptV u0 u1 u2), (23, .int .i64 c), (10, .int .i64 c)] #[.int .i64 u0, .int .i64 u1, .int .i64 u2] #[.int .i64 0, .int .i64 0, .int .i64 0]
    (by kernel_rfl) rfl rfl (by decide) (by kernel_rfl) (by simp) (by kernel_rfl) rfl rfl (fun ρ W => by kernel_rfl) (fun aE hpe => ?_)
  simp only [puts, Act.put, List.setIfInBounds_toArray, List.set_cons_zero, List.set_cons_succ] at hpe
  subst hpe
  refine ⟨?_, ?_, ?_⟩
  · intro ρ g W cs hp hv hg hn
    refine run_store_row (U := #[.int .i64 u0, .int .i64 u1, .int .i64 u2]) 23 (.tmp 9) (.tmp 22) rfl hp ?_ hg hn Try.sizeOf23 (by simp [Value.oneCell'])
    exact hv 22 (by simp [readsOf, Op.operands]) (by decide)
  · refine ⟨.inr (.inr ?_), .inr (.inr ?_), .inr (.inr ?_), .inr (.inr ?_), .inr (.inr ?_), .inr (.inr ?_), .inr (.inr ?_), .inr (.inr ?_), .inr (.inr ?_), .inr (.inr ?_), .inr (.inr ?_), .inl rfl, .inr (.inl rfl), .inr (.inr ?_), trivial⟩
    · exact Calm.mk 14 (.int .i64 p) rfl rfl (fun W _ => calm_move (.tmp 0) rfl rfl)
    · exact Calm.mk 15 (ptV x0 y0 z0) rfl rfl (fun W hW => calm_load (cs := #[.int .i64 x0, .int .i64 y0, .int .i64 z0]) (g := w.heap.size) (T := 22) (fr := (0, 0)) 22 (.tmp 5) rfl rfl (by rw [hW.block _ (by first | (simp; done) | (simp; omega)), hn_past' _ _ _ (by first | (simp; done) | (simp; omega)), hn_past' _ _ _ (by first | (simp; done) | (simp; omega)), hn_at' _ _ _ (by simp)]) 3 rfl Try.sizeOf22 Try.isAgg22)
    · exact Calm.mk 16 (ptV x0 y0 z0) rfl rfl (fun W hW => calm_call 41 _ #[ptV x0 y0 z0] rfl rfl rfl (by simp [Act.eval]) (Try.call41 _ _) (toPoint_any x0 y0 z0 W))
    · exact Calm.mk 17 (ptV x1 y1 z1) rfl rfl (fun W hW => calm_load (cs := #[.int .i64 x1, .int .i64 y1, .int .i64 z1]) (g := w.heap.size + 1) (T := 22) (fr := (0, 0)) 22 (.tmp 6) rfl rfl (by rw [hW.block _ (by first | (simp; done) | (simp; omega)), hn_past' _ _ _ (by first | (simp; done) | (simp; omega)), hn_at' _ _ _ (by simp)]) 3 rfl Try.sizeOf22 Try.isAgg22)
    · exact Calm.mk 18 (ptV x1 y1 z1) rfl rfl (fun W hW => calm_call 41 _ #[ptV x1 y1 z1] rfl rfl rfl (by simp [Act.eval]) (Try.call41 _ _) (toPoint_any x1 y1 z1 W))
    · exact Calm.mk 19 (ptV x2 y2 z2) rfl rfl (fun W hW => calm_load (cs := #[.int .i64 x2, .int .i64 y2, .int .i64 z2]) (g := w.heap.size + 1 + 1) (T := 22) (fr := (0, 0)) 22 (.tmp 7) rfl rfl (by rw [hW.block _ (by first | (simp; done) | (simp; omega)), hn_at' _ _ _ (by simp)]) 3 rfl Try.sizeOf22 Try.isAgg22)
    · exact Calm.mk 20 (ptV x2 y2 z2) rfl rfl (fun W hW => calm_call 41 _ #[ptV x2 y2 z2] rfl rfl rfl (by simp [Act.eval]) (Try.call41 _ _) (toPoint_any x2 y2 z2 W))
    · exact Calm.mk 21 (.tuple #[ptV u0 u1 u2, .int .i64 c]) rfl rfl (fun W hW => calm_call 40 _ #[.int .i64 p, ptV x0 y0 z0, ptV x1 y1 z1, ptV x2 y2 z2] rfl rfl rfl (by simp [Act.eval]) (Try.call40 _ _) (HS.out W))
    · exact Calm.mk 13 (.tuple #[ptV u0 u1 u2, .int .i64 c]) rfl rfl (fun W _ => calm_move (.tmp 21) rfl rfl)
    · exact Calm.mk 22 (ptV u0 u1 u2) rfl rfl (fun W _ => calm_extract (.tmp 13) 0 rfl rfl rfl)
    · exact Calm.mk 23 (.int .i64 c) rfl rfl (fun W _ => calm_extract (.tmp 13) 1 rfl rfl rfl)
    · exact Calm.mk 10 (.int .i64 c) rfl rfl (fun W _ => calm_assign (.tmp 23) rfl rfl)
  intro g W1 hW1 hg hrow
  simp only [Act.put, List.setIfInBounds_toArray, List.set_cons_zero, List.set_cons_succ]
  have hbx0 : W1.heap[w.heap.size]? = some (.cells #[.int .i64 x0, .int .i64 y0, .int .i64 z0] 22 (0, 0)) := by rw [hW1.block _ (by first | (simp; done) | (simp; omega)), hn_past' _ _ _ (by first | (simp; done) | (simp; omega)), hn_past' _ _ _ (by first | (simp; done) | (simp; omega)), hn_at' _ _ _ (by simp)]
  have hlx0 : w.heap.size < W1.heap.size := (Array.getElem?_eq_some_iff.1 hbx0).1
  have hbx1 : W1.heap[w.heap.size + 1]? = some (.cells #[.int .i64 x1, .int .i64 y1, .int .i64 z1] 22 (0, 0)) := by rw [hW1.block _ (by first | (simp; done) | (simp; omega)), hn_past' _ _ _ (by first | (simp; done) | (simp; omega)), hn_at' _ _ _ (by simp)]
  have hlx1 : w.heap.size + 1 < W1.heap.size := (Array.getElem?_eq_some_iff.1 hbx1).1
  have hbx2 : W1.heap[w.heap.size + 1 + 1]? = some (.cells #[.int .i64 x2, .int .i64 y2, .int .i64 z2] 22 (0, 0)) := by rw [hW1.block _ (by first | (simp; done) | (simp; omega)), hn_at' _ _ _ (by simp)]
  have hlx2 : w.heap.size + 1 + 1 < W1.heap.size := (Array.getElem?_eq_some_iff.1 hbx2).1
  have hgl : g < W1.heap.size := (Array.getElem?_eq_some_iff.1 hrow).1
  have HW1 := Lib.hid hW1; clear hW1
  go_upto_region 2 with fail
  refine region_box (m := 11) (s := 12) (d := 11) (n := 3) (T := 23)
    [(25, .int .i64 p), (26, ptV x0 y0 z0), (27, ptV x0 y0 z0), (28, ptV x1 y1 z1), (29, ptV x1 y1 z1), (30, ptV x2 y2 z2), (31, ptV x2 y2 z2), (32, .tuple #[ptV u0 u1 u2, .int .i64 c]), (24, .tuple #[ptV u0 u1 u2, .int .i64 c]), (33, ptV u0 u1 u2), (34, .int .i64 c), (12, .int .i64 c)] #[.int .i64 u0, .int .i64 u1, .int .i64 u2] #[.int .i64 0, .int .i64 0, .int .i64 0]
    (by kernel_rfl) rfl rfl (by decide) (by kernel_rfl) (by simp) (by kernel_rfl) rfl rfl (fun ρ W => by kernel_rfl) (fun aE hpe => ?_)
  simp only [puts, Act.put, List.setIfInBounds_toArray, List.set_cons_zero, List.set_cons_succ] at hpe
  subst hpe
  refine ⟨?_, ?_, ?_⟩
  · intro ρ g W cs hp hv hg hn
    refine run_store_row (U := #[.int .i64 u0, .int .i64 u1, .int .i64 u2]) 23 (.tmp 11) (.tmp 33) rfl hp ?_ hg hn Try.sizeOf23 (by simp [Value.oneCell'])
    exact hv 33 (by simp [readsOf, Op.operands]) (by decide)
  · refine ⟨.inr (.inr ?_), .inr (.inr ?_), .inr (.inr ?_), .inr (.inr ?_), .inr (.inr ?_), .inr (.inr ?_), .inr (.inr ?_), .inr (.inr ?_), .inr (.inr ?_), .inr (.inr ?_), .inr (.inr ?_), .inl rfl, .inr (.inl rfl), .inr (.inr ?_), trivial⟩
    · exact Calm.mk 25 (.int .i64 p) rfl rfl (fun W _ => calm_move (.tmp 0) rfl rfl)
    · exact Calm.mk 26 (ptV x0 y0 z0) rfl rfl (fun W hW => calm_load (cs := #[.int .i64 x0, .int .i64 y0, .int .i64 z0]) (g := w.heap.size) (T := 22) (fr := (0, 0)) 22 (.tmp 5) rfl rfl (by rw [hW.block _ hlx0]; exact hbx0) 3 rfl Try.sizeOf22 Try.isAgg22)
    · exact Calm.mk 27 (ptV x0 y0 z0) rfl rfl (fun W hW => calm_call 41 _ #[ptV x0 y0 z0] rfl rfl rfl (by simp [Act.eval]) (Try.call41 _ _) (toPoint_any x0 y0 z0 W))
    · exact Calm.mk 28 (ptV x1 y1 z1) rfl rfl (fun W hW => calm_load (cs := #[.int .i64 x1, .int .i64 y1, .int .i64 z1]) (g := w.heap.size + 1) (T := 22) (fr := (0, 0)) 22 (.tmp 6) rfl rfl (by rw [hW.block _ hlx1]; exact hbx1) 3 rfl Try.sizeOf22 Try.isAgg22)
    · exact Calm.mk 29 (ptV x1 y1 z1) rfl rfl (fun W hW => calm_call 41 _ #[ptV x1 y1 z1] rfl rfl rfl (by simp [Act.eval]) (Try.call41 _ _) (toPoint_any x1 y1 z1 W))
    · exact Calm.mk 30 (ptV x2 y2 z2) rfl rfl (fun W hW => calm_load (cs := #[.int .i64 x2, .int .i64 y2, .int .i64 z2]) (g := w.heap.size + 1 + 1) (T := 22) (fr := (0, 0)) 22 (.tmp 7) rfl rfl (by rw [hW.block _ hlx2]; exact hbx2) 3 rfl Try.sizeOf22 Try.isAgg22)
    · exact Calm.mk 31 (ptV x2 y2 z2) rfl rfl (fun W hW => calm_call 41 _ #[ptV x2 y2 z2] rfl rfl rfl (by simp [Act.eval]) (Try.call41 _ _) (toPoint_any x2 y2 z2 W))
    · exact Calm.mk 32 (.tuple #[ptV u0 u1 u2, .int .i64 c]) rfl rfl (fun W hW => calm_call 42 _ #[.int .i64 p, ptV x0 y0 z0, ptV x1 y1 z1, ptV x2 y2 z2] rfl rfl rfl (by simp [Act.eval]) (Try.call42 _ _) (HI.out W))
    · exact Calm.mk 24 (.tuple #[ptV u0 u1 u2, .int .i64 c]) rfl rfl (fun W _ => calm_move (.tmp 32) rfl rfl)
    · exact Calm.mk 33 (ptV u0 u1 u2) rfl rfl (fun W _ => calm_extract (.tmp 24) 0 rfl rfl rfl)
    · exact Calm.mk 34 (.int .i64 c) rfl rfl (fun W _ => calm_extract (.tmp 24) 1 rfl rfl rfl)
    · exact Calm.mk 12 (.int .i64 c) rfl rfl (fun W _ => calm_assign (.tmp 34) rfl rfl)
  intro g2 W2 hW2 hg2 hrow2
  simp only [Act.put, List.setIfInBounds_toArray, List.set_cons_zero, List.set_cons_succ]
  have hrow1 : W2.heap[g]? = some (.cells #[.int .i64 u0, .int .i64 u1, .int .i64 u2] 23 (0, 0)) := by rw [hW2.block _ hgl]; exact hrow
  have ka0 : W2.cell? ⟨g, 0, none⟩ = some (.int .i64 u0) := by rw [cell_of_row W2 g 0 _ _ _ hrow1]; rfl
  have kb0 : W2.cell? ⟨g2, 0, none⟩ = some (.int .i64 u0) := by rw [cell_of_row W2 g2 0 _ _ _ hrow2]; rfl
  have ka1 : W2.cell? ⟨g, 1, none⟩ = some (.int .i64 u1) := by rw [cell_of_row W2 g 1 _ _ _ hrow1]; rfl
  have kb1 : W2.cell? ⟨g2, 1, none⟩ = some (.int .i64 u1) := by rw [cell_of_row W2 g2 1 _ _ _ hrow2]; rfl
  have ka2 : W2.cell? ⟨g, 2, none⟩ = some (.int .i64 u2) := by rw [cell_of_row W2 g 2 _ _ _ hrow1]; rfl
  have kb2 : W2.cell? ⟨g2, 2, none⟩ = some (.int .i64 u2) := by rw [cell_of_row W2 g2 2 _ _ _ hrow2]; rfl
  have HW2 := Lib.hid hW2; clear hW2
  clear hrow hrow1 hrow2 hgl hbx0 hlx0 hbx1 hlx1 hbx2 hlx2
  go_wp2_with (go_at_call 43; (with_reducible refine (eqPoint_same u0 u1 u2 _).mono ?_); rintro e w_ ⟨rfl, hb⟩; obtain ⟨hcb, hfb, hlb⟩ := bcell hb; have hsz := hb.size; (try simp at hsz); have HB := Lib.hid hb; clear hb)
  go_ret
  exact ⟨rfl, (by repeat (first | exact Below.refl _ _ | refine bset ?_ _ _ (by omega) _ | refine bal ?_ _ | refine bdrN ?_ _ | refine bdr ?_ | refine below_tr' ?_ HB.out | refine below_tr' ?_ HW2.out | refine below_tr' ?_ HW1.out))⟩
end Go.Proofs.Ythkbhaaodegocaa
