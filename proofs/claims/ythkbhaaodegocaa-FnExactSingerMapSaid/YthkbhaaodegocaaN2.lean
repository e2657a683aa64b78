/- The desks compared. -/
import Derived.Test.YthkbhaaodegocaaN1
namespace Go.Proofs.Ythkbhaaodegocaa
open Go.RowKit
set_option linter.unusedVariables false
set_option linter.unusedSimpArgs false
theorem eqInt64A3_same (x y z : Int) (w : World) :
    Calls Try.prog 88 #[ptV x y z, ptV x y z] w (Ret w (.bool true)) := by
  go_enter Try.func88, Try.ntmps88
  go_wp2
  refine wp_loop_rounds 4 ?_
  iterate 3 (rw [rounds_succ]; go_wp2; go_quiet (fail); go_wp2)
  rw [rounds_succ]; go_wp2
  go_ret
  exact ⟨rfl, by repeat (first | exact Below.refl _ _ | refine bal ?_ _ | refine bdrN ?_ _ | refine bdr ?_)⟩
set_option maxHeartbeats 2000000 in
theorem eqConic_same (x0 x1 x2 x3 x4 x5 : Int) (w : World) :
    Calls Try.prog 61 #[.agg #[.int .i64 x0, .int .i64 x1, .int .i64 x2, .int .i64 x3, .int .i64 x4, .int .i64 x5], .agg #[.int .i64 x0, .int .i64 x1, .int .i64 x2, .int .i64 x3, .int .i64 x4, .int .i64 x5]] w (Ret w (.bool true)) := by
  go_enter Try.func61, Try.ntmps61
  go_wp2
  refine wp_loop_rounds 7 ?_
  iterate 6 (rw [rounds_succ]; go_wp2; go_quiet (fail); go_wp2)
  rw [rounds_succ]; go_wp2
  go_ret
  exact ⟨rfl, by repeat (first | exact Below.refl _ _ | refine bal ?_ _ | refine bdrN ?_ _ | refine bdr ?_)⟩
theorem calm_loadPt' {P : Program} {o : Oper} {ρ : Operand → Value} {W : World} {g off : Nat} {x y z : Int} (ty : TypeId) (q : Operand) (ho : o.op = .load ty q) (hx : ρ q = .pointer (some ⟨g, off, none⟩))
    (h0 : W.cell? ⟨g, off, none⟩ = some (.int .i64 x)) (h1 : W.cell? ⟨g, off + 1, none⟩ = some (.int .i64 y)) (h2 : W.cell? ⟨g, off + 2, none⟩ = some (.int .i64 z)) (hs : ∀ W, (sizeOf ty).run P W = .ok 3 W) (ha : ∀ W, (isAgg ty).run P W = .ok true W) : calmAt P o ρ W (ptV x y z) := by
  have hl : (loadCells ⟨g, off, none⟩ 3).run P W = .ok #[.int .i64 x, .int .i64 y, .int .i64 z] W :=
    run_loadCells_list (P := P) W ⟨g, off, none⟩ [.int .i64 x, .int .i64 y, .int .i64 z] (fun j v hv => by
      have hadd : ∀ j, (⟨g, off, none⟩ : Addr).add j = ⟨g, off + j, none⟩ := by intro j; unfold Addr.add; split <;> simp_all
      rw [hadd]
      match j, hv with
      | 0, hv => simpa using h0.trans (by simpa using hv)
      | 1, hv => exact h1.trans (by simpa using hv)
      | 2, hv => exact h2.trans (by simpa using hv)
      | j + 3, hv => simp at hv)
  have hv : (loadVar ty ⟨g, off, none⟩).run P W = .ok (ptV x y z) W := by
    unfold loadVar
    rw [Sem.run_bind, ha]
    simp only [Result.andThen_ok, if_true]
    rw [Sem.run_bind, hs]
    simp only [Result.andThen_ok]
    rw [Sem.run_bind, hl]
    rfl
  refine ⟨?_⟩
  unfold calmRun execOp
  simp only [ho, hx, Instr.loadAt, Instr.sureAddr, Sem.run_bind, Sem.run_pure, Result.andThen_ok, hv, and_self]
set_option maxHeartbeats 2000000 in
theorem eqMap_same (x0 x1 x2 x3 x4 x5 x6 x7 x8 : Int) (w : World) :
    Calls Try.prog 29 #[.agg #[.int .i64 x0, .int .i64 x1, .int .i64 x2, .int .i64 x3, .int .i64 x4, .int .i64 x5, .int .i64 x6, .int .i64 x7, .int .i64 x8], .agg #[.int .i64 x0, .int .i64 x1, .int .i64 x2, .int .i64 x3, .int .i64 x4, .int .i64 x5, .int .i64 x6, .int .i64 x7, .int .i64 x8]] w (Ret w (.bool true)) := by
  go_enter Try.func29, Try.ntmps29
  go_wp2
  go_loopw [5] (fun i wr => ∃ k : Nat, k ≤ 3 ∧ i = .int .i64 k ∧ Hid (Below ((w.alloc (.cells #[.int .i64 x0, .int .i64 x1, .int .i64 x2, .int .i64 x3, .int .i64 x4, .int .i64 x5, .int .i64 x6, .int .i64 x7, .int .i64 x8] 26)).alloc (.cells #[.int .i64 x0, .int .i64 x1, .int .i64 x2, .int .i64 x3, .int .i64 x4, .int .i64 x5, .int .i64 x6, .int .i64 x7, .int .i64 x8] 26)).heap.size ((w.alloc (.cells #[.int .i64 x0, .int .i64 x1, .int .i64 x2, .int .i64 x3, .int .i64 x4, .int .i64 x5, .int .i64 x6, .int .i64 x7, .int .i64 x8] 26)).alloc (.cells #[.int .i64 x0, .int .i64 x1, .int .i64 x2, .int .i64 x3, .int .i64 x4, .int .i64 x5, .int .i64 x6, .int .i64 x7, .int .i64 x8] 26)) wr)) (fun i wr => 3 - (intOf i).toNat)
  case atStart => exact ⟨0, by omega, rfl, Lib.hid (Below.refl _ _)⟩
  case round =>
    obtain ⟨k, hk, rfl, HB⟩ := hrel
    rcases (show k = 0 ∨ k = 1 ∨ k = 2 ∨ k = 3 by omega) with rfl | rfl | rfl | rfl
    · clear hk
      have k0 : wr.heap[w.heap.size]? = some (.cells #[.int .i64 x0, .int .i64 x1, .int .i64 x2, .int .i64 x3, .int .i64 x4, .int .i64 x5, .int .i64 x6, .int .i64 x7, .int .i64 x8] 26 (0, 0)) := by rw [HB.out.block _ (by first | (simp; done) | (simp; omega)), hn_pastN _ _ _ (by first | (simp; done) | (simp; omega)), hn_atN _ _ _ (by simp)]
      have k1 : wr.heap[w.heap.size + 1]? = some (.cells #[.int .i64 x0, .int .i64 x1, .int .i64 x2, .int .i64 x3, .int .i64 x4, .int .i64 x5, .int .i64 x6, .int .i64 x7, .int .i64 x8] 26 (0, 0)) := by rw [HB.out.block _ (by first | (simp; done) | (simp; omega)), hn_atN _ _ _ (by simp)]
      have l0 := (Array.getElem?_eq_some_iff.1 k0).1
      have l1 := (Array.getElem?_eq_some_iff.1 k1).1
      go_wp2
      refine region_calm [(10, .int .i64 0), (11, .pointer (some ⟨w.heap.size, 0, none⟩)), (12, ptV x0 x1 x2), (13, .int .i64 0), (14, .pointer (some ⟨w.heap.size + 1, 0, none⟩)), (15, ptV x0 x1 x2), (16, .bool true), (17, .bool false)] (by kernel_rfl) (by kernel_rfl) (by kernel_rfl) (fun aE hpe => ?_)
      simp only [puts, Act.put, List.setIfInBounds_toArray, List.set_cons_zero, List.set_cons_succ] at hpe
      subst hpe
      refine ⟨⟨.inr (.inr ?_), .inr (.inr ?_), .inr (.inr ?_), .inr (.inr ?_), .inr (.inr ?_), .inr (.inr ?_), .inr (.inr ?_), .inr (.inr ?_), trivial⟩, ?_⟩
      · exact Calm.mk 10 (.int .i64 0) rfl rfl (fun W _ => calm_move (.tmp 5) rfl rfl)
      · exact Calm.mk 11 (.pointer (some ⟨w.heap.size, 0, none⟩)) rfl rfl (fun W _ => calm_run (by simp [execOp, Act.eval, go_sem]))
      · exact Calm.mk 12 (ptV x0 x1 x2) rfl rfl (fun W hW => calm_loadPt' 22 (.tmp 11) rfl rfl (by rw [cell_of_row W _ 0 _ _ _ (by rw [hW.block _ l0]; exact k0)]; rfl) (by rw [cell_of_row W _ 1 _ _ _ (by rw [hW.block _ l0]; exact k0)]; rfl) (by rw [cell_of_row W _ 2 _ _ _ (by rw [hW.block _ l0]; exact k0)]; rfl) Try.sizeOf22 Try.isAgg22)
      · exact Calm.mk 13 (.int .i64 0) rfl rfl (fun W _ => calm_move (.tmp 5) rfl rfl)
      · exact Calm.mk 14 (.pointer (some ⟨w.heap.size + 1, 0, none⟩)) rfl rfl (fun W _ => calm_run (by simp [execOp, Act.eval, go_sem]))
      · exact Calm.mk 15 (ptV x0 x1 x2) rfl rfl (fun W hW => calm_loadPt' 22 (.tmp 14) rfl rfl (by rw [cell_of_row W _ 0 _ _ _ (by rw [hW.block _ l1]; exact k1)]; rfl) (by rw [cell_of_row W _ 1 _ _ _ (by rw [hW.block _ l1]; exact k1)]; rfl) (by rw [cell_of_row W _ 2 _ _ _ (by rw [hW.block _ l1]; exact k1)]; rfl) Try.sizeOf22 Try.isAgg22)
      · exact Calm.mk 16 (.bool true) rfl rfl (fun W hW => calm_call 88 _ #[ptV x0 x1 x2, ptV x0 x1 x2] rfl rfl rfl (by simp [Act.eval]) (Try.call88 _ _) (eqInt64A3_same x0 x1 x2 W))
      · exact Calm.mk 17 (.bool false) rfl rfl (fun W hW => calm_run (by simp [execOp, Act.eval, go_sem]))
      intro W2 hW2
      have HB2 := Lib.hid (below_tr HB.out HB.out.size hW2)
      clear HB k0 k1 l0 l1 hW2
      go_wp2
      go_roundw
      case rel => exact ⟨1, by omega, rfl, HB2⟩
      case measure => simp [intOf]
    · clear hk
      have k0 : wr.heap[w.heap.size]? = some (.cells #[.int .i64 x0, .int .i64 x1, .int .i64 x2, .int .i64 x3, .int .i64 x4, .int .i64 x5, .int .i64 x6, .int .i64 x7, .int .i64 x8] 26 (0, 0)) := by rw [HB.out.block _ (by first | (simp; done) | (simp; omega)), hn_pastN _ _ _ (by first | (simp; done) | (simp; omega)), hn_atN _ _ _ (by simp)]
      have k1 : wr.heap[w.heap.size + 1]? = some (.cells #[.int .i64 x0, .int .i64 x1, .int .i64 x2, .int .i64 x3, .int .i64 x4, .int .i64 x5, .int .i64 x6, .int .i64 x7, .int .i64 x8] 26 (0, 0)) := by rw [HB.out.block _ (by first | (simp; done) | (simp; omega)), hn_atN _ _ _ (by simp)]
      have l0 := (Array.getElem?_eq_some_iff.1 k0).1
      have l1 := (Array.getElem?_eq_some_iff.1 k1).1
      go_wp2
      refine region_calm [(10, .int .i64 1), (11, .pointer (some ⟨w.heap.size, 3, none⟩)), (12, ptV x3 x4 x5), (13, .int .i64 1), (14, .pointer (some ⟨w.heap.size + 1, 3, none⟩)), (15, ptV x3 x4 x5), (16, .bool true), (17, .bool false)] (by kernel_rfl) (by kernel_rfl) (by kernel_rfl) (fun aE hpe => ?_)
      simp only [puts, Act.put, List.setIfInBounds_toArray, List.set_cons_zero, List.set_cons_succ] at hpe
      subst hpe
      refine ⟨⟨.inr (.inr ?_), .inr (.inr ?_), .inr (.inr ?_), .inr (.inr ?_), .inr (.inr ?_), .inr (.inr ?_), .inr (.inr ?_), .inr (.inr ?_), trivial⟩, ?_⟩
      · exact Calm.mk 10 (.int .i64 1) rfl rfl (fun W _ => calm_move (.tmp 5) rfl rfl)
      · exact Calm.mk 11 (.pointer (some ⟨w.heap.size, 3, none⟩)) rfl rfl (fun W _ => calm_run (by simp [execOp, Act.eval, go_sem]))
      · exact Calm.mk 12 (ptV x3 x4 x5) rfl rfl (fun W hW => calm_loadPt' 22 (.tmp 11) rfl rfl (by rw [cell_of_row W _ 3 _ _ _ (by rw [hW.block _ l0]; exact k0)]; rfl) (by rw [cell_of_row W _ 4 _ _ _ (by rw [hW.block _ l0]; exact k0)]; rfl) (by rw [cell_of_row W _ 5 _ _ _ (by rw [hW.block _ l0]; exact k0)]; rfl) Try.sizeOf22 Try.isAgg22)
      · exact Calm.mk 13 (.int .i64 1) rfl rfl (fun W _ => calm_move (.tmp 5) rfl rfl)
      · exact Calm.mk 14 (.pointer (some ⟨w.heap.size + 1, 3, none⟩)) rfl rfl (fun W _ => calm_run (by simp [execOp, Act.eval, go_sem]))
      · exact Calm.mk 15 (ptV x3 x4 x5) rfl rfl (fun W hW => calm_loadPt' 22 (.tmp 14) rfl rfl (by rw [cell_of_row W _ 3 _ _ _ (by rw [hW.block _ l1]; exact k1)]; rfl) (by rw [cell_of_row W _ 4 _ _ _ (by rw [hW.block _ l1]; exact k1)]; rfl) (by rw [cell_of_row W _ 5 _ _ _ (by rw [hW.block _ l1]; exact k1)]; rfl) Try.sizeOf22 Try.isAgg22)
      · exact Calm.mk 16 (.bool true) rfl rfl (fun W hW => calm_call 88 _ #[ptV x3 x4 x5, ptV x3 x4 x5] rfl rfl rfl (by simp [Act.eval]) (Try.call88 _ _) (eqInt64A3_same x3 x4 x5 W))
      · exact Calm.mk 17 (.bool false) rfl rfl (fun W hW => calm_run (by simp [execOp, Act.eval, go_sem]))
      intro W2 hW2
      have HB2 := Lib.hid (below_tr HB.out HB.out.size hW2)
      clear HB k0 k1 l0 l1 hW2
      go_wp2
      go_roundw
      case rel => exact ⟨2, by omega, rfl, HB2⟩
      case measure => simp [intOf]
    · clear hk
      have k0 : wr.heap[w.heap.size]? = some (.cells #[.int .i64 x0, .int .i64 x1, .int .i64 x2, .int .i64 x3, .int .i64 x4, .int .i64 x5, .int .i64 x6, .int .i64 x7, .int .i64 x8] 26 (0, 0)) := by rw [HB.out.block _ (by first | (simp; done) | (simp; omega)), hn_pastN _ _ _ (by first | (simp; done) | (simp; omega)), hn_atN _ _ _ (by simp)]
      have k1 : wr.heap[w.heap.size + 1]? = some (.cells #[.int .i64 x0, .int .i64 x1, .int .i64 x2, .int .i64 x3, .int .i64 x4, .int .i64 x5, .int .i64 x6, .int .i64 x7, .int .i64 x8] 26 (0, 0)) := by rw [HB.out.block _ (by first | (simp; done) | (simp; omega)), hn_atN _ _ _ (by simp)]
      have l0 := (Array.getElem?_eq_some_iff.1 k0).1
      have l1 := (Array.getElem?_eq_some_iff.1 k1).1
      go_wp2
      refine region_calm [(10, .int .i64 2), (11, .pointer (some ⟨w.heap.size, 6, none⟩)), (12, ptV x6 x7 x8), (13, .int .i64 2), (14, .pointer (some ⟨w.heap.size + 1, 6, none⟩)), (15, ptV x6 x7 x8), (16, .bool true), (17, .bool false)] (by kernel_rfl) (by kernel_rfl) (by kernel_rfl) (fun aE hpe => ?_)
      simp only [puts, Act.put, List.setIfInBounds_toArray, List.set_cons_zero, List.set_cons_succ] at hpe
      subst hpe
      refine ⟨⟨.inr (.inr ?_), .inr (.inr ?_), .inr (.inr ?_), .inr (.inr ?_), .inr (.inr ?_), .inr (.inr ?_), .inr (.inr ?_), .inr (.inr ?_), trivial⟩, ?_⟩
      · exact Calm.mk 10 (.int .i64 2) rfl rfl (fun W _ => calm_move (.tmp 5) rfl rfl)
      · exact Calm.mk 11 (.pointer (some ⟨w.heap.size, 6, none⟩)) rfl rfl (fun W _ => calm_run (by simp [execOp, Act.eval, go_sem]))
      · exact Calm.mk 12 (ptV x6 x7 x8) rfl rfl (fun W hW => calm_loadPt' 22 (.tmp 11) rfl rfl (by rw [cell_of_row W _ 6 _ _ _ (by rw [hW.block _ l0]; exact k0)]; rfl) (by rw [cell_of_row W _ 7 _ _ _ (by rw [hW.block _ l0]; exact k0)]; rfl) (by rw [cell_of_row W _ 8 _ _ _ (by rw [hW.block _ l0]; exact k0)]; rfl) Try.sizeOf22 Try.isAgg22)
      · exact Calm.mk 13 (.int .i64 2) rfl rfl (fun W _ => calm_move (.tmp 5) rfl rfl)
      · exact Calm.mk 14 (.pointer (some ⟨w.heap.size + 1, 6, none⟩)) rfl rfl (fun W _ => calm_run (by simp [execOp, Act.eval, go_sem]))
      · exact Calm.mk 15 (ptV x6 x7 x8) rfl rfl (fun W hW => calm_loadPt' 22 (.tmp 14) rfl rfl (by rw [cell_of_row W _ 6 _ _ _ (by rw [hW.block _ l1]; exact k1)]; rfl) (by rw [cell_of_row W _ 7 _ _ _ (by rw [hW.block _ l1]; exact k1)]; rfl) (by rw [cell_of_row W _ 8 _ _ _ (by rw [hW.block _ l1]; exact k1)]; rfl) Try.sizeOf22 Try.isAgg22)
      · exact Calm.mk 16 (.bool true) rfl rfl (fun W hW => calm_call 88 _ #[ptV x6 x7 x8, ptV x6 x7 x8] rfl rfl rfl (by simp [Act.eval]) (Try.call88 _ _) (eqInt64A3_same x6 x7 x8 W))
      · exact Calm.mk 17 (.bool false) rfl rfl (fun W hW => calm_run (by simp [execOp, Act.eval, go_sem]))
      intro W2 hW2
      have HB2 := Lib.hid (below_tr HB.out HB.out.size hW2)
      clear HB k0 k1 l0 l1 hW2
      go_wp2
      go_roundw
      case rel => exact ⟨3, by omega, rfl, HB2⟩
      case measure => simp [intOf]
    · go_wp2
      go_ret
      exact ⟨rfl, (by repeat (first | exact Below.refl _ _ | refine bset ?_ _ _ (by omega) _ | refine bal ?_ _ | refine bdrN ?_ _ | refine bdr ?_ | refine below_tr' ?_ HB.out))⟩
set_option maxHeartbeats 4000000 in
theorem eqDesk_5 (w : World) : Calls Try.prog 17 #[.agg deskC, .agg deskC] w (Ret w (.bool true)) := by
  unfold deskC
  go_enter Try.func17, Try.ntmps17
  go_wp2_with (first
    | (go_at_call 43; (with_reducible refine (eqPoint_same _ _ _ _).mono ?_); rintro e w1_ ⟨rfl, hb1⟩; obtain ⟨hcb1, hfb1, hlb1⟩ := bcell hb1; have hsz1 := hb1.size; (try simp at hsz1); have HB1 := Lib.hid hb1; clear hb1; (try (have hl01 : w.heap.size < w1_.heap.size := by omega)); (try (have hl11 : w.heap.size + 1 < w1_.heap.size := by omega)))
    | (go_at_call 56; (with_reducible refine (eqLine_same _ _ _ _).mono ?_); rintro e w2_ ⟨rfl, hb2⟩; obtain ⟨hcb2, hfb2, hlb2⟩ := bcell hb2; have hsz2 := hb2.size; (try simp at hsz2); have HB2 := Lib.hid hb2; clear hb2; (try (have hl02 : w.heap.size < w2_.heap.size := by omega)); (try (have hl12 : w.heap.size + 1 < w2_.heap.size := by omega)))
    | (go_at_call 29; (with_reducible refine (eqMap_same _ _ _ _ _ _ _ _ _ _).mono ?_); rintro e w3_ ⟨rfl, hb3⟩; obtain ⟨hcb3, hfb3, hlb3⟩ := bcell hb3; have hsz3 := hb3.size; (try simp at hsz3); have HB3 := Lib.hid hb3; clear hb3; (try (have hl03 : w.heap.size < w3_.heap.size := by omega)); (try (have hl13 : w.heap.size + 1 < w3_.heap.size := by omega)))
    | (go_at_call 61; (with_reducible refine (eqConic_same _ _ _ _ _ _ _).mono ?_); rintro e w4_ ⟨rfl, hb4⟩; obtain ⟨hcb4, hfb4, hlb4⟩ := bcell hb4; have hsz4 := hb4.size; (try simp at hsz4); have HB4 := Lib.hid hb4; clear hb4; (try (have hl04 : w.heap.size < w4_.heap.size := by omega)); (try (have hl14 : w.heap.size + 1 < w4_.heap.size := by omega))))
  go_ret
  exact ⟨rfl, (by repeat (first | exact Below.refl _ _ | refine bset ?_ _ _ (by omega) _ | refine bal ?_ _ | refine bdrN ?_ _ | refine bdr ?_ | refine below_tr' ?_ HB4.out | refine below_tr' ?_ HB3.out | refine below_tr' ?_ HB2.out | refine below_tr' ?_ HB1.out))⟩
end Go.Proofs.Ythkbhaaodegocaa
