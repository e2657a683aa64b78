/- Contracts: triples compared; lists that ascend. (Printed by genk2.py, a program of this session.) -/
import Derived.Test.YthkbhaaodegocaaK1
namespace Go.Proofs.Ythkbhaaodegocaa
open Go.RowKit
set_option linter.unusedVariables false
set_option linter.unusedSimpArgs false
theorem at_new (w : World) (o : Obj) (n : Nat) (h : n = w.heap.size) : (w.alloc o).heap[n]? = some o := by subst h; exact heap_alloc_new w o
theorem at_old (w : World) (o : Obj) (n : Nat) (h : n < w.heap.size) : (w.alloc o).heap[n]? = w.heap[n]? := by
  rw [heap_alloc_old]; exact h
theorem comparePoint_any (x0 x1 x2 y0 y1 y2 : Int) (w : World) : Calls Try.prog 176 #[ptV x0 x1 x2, ptV y0 y1 y2] w (Ret w (.int .i64 (cmpP (x0, x1, x2) (y0, y1, y2)))) := by
  have HS := Lib.hid (fun (W : World) c0 c1 c2 e0 e1 e2 => (slicesCompare_any w.heap.size (w.heap.size + 1) x0 x1 x2 y0 y1 y2 W c0 c1 c2 e0 e1 e2).mono (fun e w' h => (⟨h.1, h.2 ▸ Below.refl _ _⟩ : Ret W (.int .i64 (cmpP (x0, x1, x2) (y0, y1, y2))) e w')))
  generalize cmpP (x0, x1, x2) (y0, y1, y2) = r at *
  go_enter Try.func176, Try.ntmps176
  go_wp2
  refine region_calm [(5, .slice (some ⟨w.heap.size, 0, none⟩) 3 3), (6, .slice (some ⟨w.heap.size + 1, 0, none⟩) 3 3), (7, .int .i64 r), (4, .int .i64 r)] (by kernel_rfl) (by kernel_rfl) (by kernel_rfl) (fun aE hpe => ?_)
  simp only [puts, Act.put, List.setIfInBounds_toArray, List.set_cons_zero, List.set_cons_succ] at hpe
  subst hpe
  refine ⟨⟨.inr (.inr ?_), .inr (.inr ?_), .inr (.inr ?_), .inr (.inr ?_), trivial⟩, ?_⟩
  · exact Calm.mk 5 (.slice (some ⟨w.heap.size, 0, none⟩) 3 3) rfl rfl (fun W _ => calm_run (by simp [execOp, Act.eval, go_sem]))
  · exact Calm.mk 6 (.slice (some ⟨w.heap.size + 1, 0, none⟩) 3 3) rfl rfl (fun W _ => calm_run (by simp [execOp, Act.eval, go_sem]))
  · refine Calm.mk 7 (.int .i64 r) rfl rfl (fun W hW => ?_)
    have b1 : W.heap[w.heap.size]? = some (.cells #[.int .i64 x0, .int .i64 x1, .int .i64 x2] 23 (0, 0)) := by rw [hW.block _ (by simp; omega), at_old _ _ _ (by simp), at_new _ _ _ (by simp)]
    have b2 : W.heap[w.heap.size + 1]? = some (.cells #[.int .i64 y0, .int .i64 y1, .int .i64 y2] 23 (0, 0)) := by rw [hW.block _ (by simp), at_new _ _ _ (by simp)]
    exact calm_call 184 _ #[.slice (some ⟨w.heap.size, 0, none⟩) 3 3, .slice (some ⟨w.heap.size + 1, 0, none⟩) 3 3] rfl rfl rfl (by simp [Act.eval]) (Try.call184 _ _)
      (HS.out W (by rw [cell_of_row W _ 0 _ _ _ b1]; rfl) (by rw [cell_of_row W _ 1 _ _ _ b1]; rfl) (by rw [cell_of_row W _ 2 _ _ _ b1]; rfl) (by rw [cell_of_row W _ 0 _ _ _ b2]; rfl) (by rw [cell_of_row W _ 1 _ _ _ b2]; rfl) (by rw [cell_of_row W _ 2 _ _ _ b2]; rfl))
  · exact Calm.mk 4 (.int .i64 r) rfl rfl (fun W hW => calm_assign (.tmp 7) rfl rfl)
  intro W2 hW2
  have HB := Lib.hid (below_tr' (bal (bal (Below.refl w.heap.size w) (.cells #[.int .i64 x0, .int .i64 x1, .int .i64 x2] 23 (0, 0))) (.cells #[.int .i64 y0, .int .i64 y1, .int .i64 y2] 23 (0, 0))) hW2)
  go_wp2
  go_ret
  exact ⟨rfl, HB.out⟩
theorem compareLine_any (x0 x1 x2 y0 y1 y2 : Int) (w : World) : Calls Try.prog 177 #[ptV x0 x1 x2, ptV y0 y1 y2] w (Ret w (.int .i64 (cmpP (x0, x1, x2) (y0, y1, y2)))) := by
  have HS := Lib.hid (fun (W : World) c0 c1 c2 e0 e1 e2 => (slicesCompare_any w.heap.size (w.heap.size + 1) x0 x1 x2 y0 y1 y2 W c0 c1 c2 e0 e1 e2).mono (fun e w' h => (⟨h.1, h.2 ▸ Below.refl _ _⟩ : Ret W (.int .i64 (cmpP (x0, x1, x2) (y0, y1, y2))) e w')))
  generalize cmpP (x0, x1, x2) (y0, y1, y2) = r at *
  go_enter Try.func177, Try.ntmps177
  go_wp2
  refine region_calm [(5, .slice (some ⟨w.heap.size, 0, none⟩) 3 3), (6, .slice (some ⟨w.heap.size + 1, 0, none⟩) 3 3), (7, .int .i64 r), (4, .int .i64 r)] (by kernel_rfl) (by kernel_rfl) (by kernel_rfl) (fun aE hpe => ?_)
  simp only [puts, Act.put, List.setIfInBounds_toArray, List.set_cons_zero, List.set_cons_succ] at hpe
  subst hpe
  refine ⟨⟨.inr (.inr ?_), .inr (.inr ?_), .inr (.inr ?_), .inr (.inr ?_), trivial⟩, ?_⟩
  · exact Calm.mk 5 (.slice (some ⟨w.heap.size, 0, none⟩) 3 3) rfl rfl (fun W _ => calm_run (by simp [execOp, Act.eval, go_sem]))
  · exact Calm.mk 6 (.slice (some ⟨w.heap.size + 1, 0, none⟩) 3 3) rfl rfl (fun W _ => calm_run (by simp [execOp, Act.eval, go_sem]))
  · refine Calm.mk 7 (.int .i64 r) rfl rfl (fun W hW => ?_)
    have b1 : W.heap[w.heap.size]? = some (.cells #[.int .i64 x0, .int .i64 x1, .int .i64 x2] 24 (0, 0)) := by rw [hW.block _ (by simp; omega), at_old _ _ _ (by simp), at_new _ _ _ (by simp)]
    have b2 : W.heap[w.heap.size + 1]? = some (.cells #[.int .i64 y0, .int .i64 y1, .int .i64 y2] 24 (0, 0)) := by rw [hW.block _ (by simp), at_new _ _ _ (by simp)]
    exact calm_call 184 _ #[.slice (some ⟨w.heap.size, 0, none⟩) 3 3, .slice (some ⟨w.heap.size + 1, 0, none⟩) 3 3] rfl rfl rfl (by simp [Act.eval]) (Try.call184 _ _)
      (HS.out W (by rw [cell_of_row W _ 0 _ _ _ b1]; rfl) (by rw [cell_of_row W _ 1 _ _ _ b1]; rfl) (by rw [cell_of_row W _ 2 _ _ _ b1]; rfl) (by rw [cell_of_row W _ 0 _ _ _ b2]; rfl) (by rw [cell_of_row W _ 1 _ _ _ b2]; rfl) (by rw [cell_of_row W _ 2 _ _ _ b2]; rfl))
  · exact Calm.mk 4 (.int .i64 r) rfl rfl (fun W hW => calm_assign (.tmp 7) rfl rfl)
  intro W2 hW2
  have HB := Lib.hid (below_tr' (bal (bal (Below.refl w.heap.size w) (.cells #[.int .i64 x0, .int .i64 x1, .int .i64 x2] 24 (0, 0))) (.cells #[.int .i64 y0, .int .i64 y1, .int .i64 y2] 24 (0, 0))) hW2)
  go_wp2
  go_ret
  exact ⟨rfl, HB.out⟩
/-- A list ascends strictly. -/
def ascB (l : List Pt) : Bool := (List.range (l.length - 1)).all (fun i => befB (l.getD i (0, 0, 0)) (l.getD (i + 1) (0, 0, 0)))
theorem ascB_true {l : List Pt} (h : ∀ i, i + 1 < l.length → befB (l.getD i (0, 0, 0)) (l.getD (i + 1) (0, 0, 0)) = true) : ascB l = true := by
  unfold ascB
  rw [List.all_eq_true]
  intro i hi
  exact h i (by have := List.mem_range.1 hi; omega)
theorem ascB_false {l : List Pt} {i : Nat} (hi : i + 1 < l.length) (h : befB (l.getD i (0, 0, 0)) (l.getD (i + 1) (0, 0, 0)) = false) : ascB l = false := by
  unfold ascB
  rw [List.all_eq_false]
  exact ⟨i, List.mem_range.2 (by omega), by rw [h]; decide⟩
set_option maxHeartbeats 1000000 in
theorem ascendsP_any (b0 : Option Addr) (n cap : Nat) (l : List Pt) (w : World) (hn : n ≤ 1000000) (h : ListP w b0 n l) :
    Calls Try.prog 155 #[.slice b0 n cap] w (Ret w (.bool (ascB l && decide (n ≤ 16)))) := by
  have HL := Lib.hid h
  clear h
  go_enter Try.func155, Try.ntmps155
  go_wp2
  go_loopw [3] (fun i wr => ∃ k : Nat, 1 ≤ k ∧ (k ≤ n ∨ k = 1) ∧ i = .int .i64 k ∧ Hid (∀ j, j + 1 < k → befB (l.getD j (0, 0, 0)) (l.getD (j + 1) (0, 0, 0)) = true) ∧ Hid (Below w.heap.size w wr)) (fun i wr => n - (intOf i).toNat)
  case atStart => exact ⟨1, Nat.le_refl _, .inr rfl, rfl, Lib.hid (fun j hj => absurd hj (by omega)), Lib.hid (Below.refl _ _)⟩
  case round =>
    obtain ⟨k, hk1, hk, rfl, HI, HB⟩ := hrel
    by_cases hlt : k < n
    · obtain ⟨g, o, rfl, hp⟩ := HL.out.2 (by omega)
      obtain ⟨j, rfl⟩ : ∃ j, k = j + 1 := ⟨k - 1, by omega⟩
      obtain ⟨c0, c1, c2⟩ := hp j (by omega)
      obtain ⟨e0, e1, e2⟩ := hp (j + 1) hlt
      have HF := Lib.hid (fun h => ascB_false (l := l) (i := j) (by have := HL.out.1; omega) h)
      have HI2 := Lib.hid (fun (h : befB (l.getD j (0, 0, 0)) (l.getD (j + 1) (0, 0, 0)) = true) (i : Nat) (hi : i + 1 < j + 1 + 1) => if e : i = j then e ▸ h else HI.out i (by omega))
      clear hp HI
      have hwj : IntKind.wrap .i64 (j : Int) = (j : Int) := by simp [IntKind.wrap, IntKind.signed, IntKind.bits]; omega
      obtain ⟨x, hx⟩ : ∃ x, l.getD j (0, 0, 0) = x := ⟨_, rfl⟩
      obtain ⟨y, hy⟩ : ∃ y, l.getD (j + 1) (0, 0, 0) = y := ⟨_, rfl⟩
      rw [hx] at c0 c1 c2
      rw [hy] at e0 e1 e2
      rw [hx, hy] at HF HI2
      obtain ⟨x0, x1, x2⟩ := x
      obtain ⟨y0, y1, y2⟩ := y
      dsimp only at c0 c1 c2 e0 e1 e2
      have HCC := Lib.hid (fun (W : World) => comparePoint_any x0 x1 x2 y0 y1 y2 W)
      have HE := Lib.hid (cmpP_bef (x0, x1, x2) (y0, y1, y2))
      generalize befB (x0, x1, x2) (y0, y1, y2) = b at *
      generalize cmpP (x0, x1, x2) (y0, y1, y2) = r at *
      go_wp2
      refine region_calm [(10, .slice (some ⟨g, o, none⟩) n cap), (11, .int .i64 (j + 1 : Nat)), (12, .int .i64 j), (13, .pointer (some ⟨g, o + j * 3, none⟩)), (14, ptV x0 x1 x2), (15, .slice (some ⟨g, o, none⟩) n cap), (16, .int .i64 (j + 1 : Nat)), (17, .pointer (some ⟨g, o + (j + 1) * 3, none⟩)), (18, ptV y0 y1 y2), (19, (.int .i64 r)), (20, .bool (!b))] (by kernel_rfl) (by kernel_rfl) (by kernel_rfl) (fun aE hpe => ?_)
      simp only [puts, Act.put, List.setIfInBounds_toArray, List.set_cons_zero, List.set_cons_succ] at hpe
      subst hpe
      refine ⟨⟨.inr (.inr ?_), .inr (.inr ?_), .inr (.inr ?_), .inr (.inr ?_), .inr (.inr ?_), .inr (.inr ?_), .inr (.inr ?_), .inr (.inr ?_), .inr (.inr ?_), .inr (.inr ?_), .inr (.inr ?_), trivial⟩, ?_⟩
      · exact Calm.mk 10 (.slice (some ⟨g, o, none⟩) n cap) rfl rfl (fun W _ => calm_move (.tmp 0) rfl rfl)
      · exact Calm.mk 11 (.int .i64 (j + 1 : Nat)) rfl rfl (fun W _ => calm_move (.tmp 3) rfl rfl)
      · exact Calm.mk 12 (.int .i64 j) rfl rfl (fun W _ => calm_run (by simp [execOp, Act.eval, go_sem, hwj]))
      · exact Calm.mk 13 (.pointer (some ⟨g, o + j * 3, none⟩)) rfl rfl (fun W _ => calm_run (by simp [execOp, Act.eval, go_sem, (show j < n by omega)]))
      · exact Calm.mk 14 (ptV x0 x1 x2) rfl rfl (fun W hW => calm_loadPt 23 (.tmp 13) rfl rfl (cell_below hW (cell_below HB.out c0)) (cell_below hW (cell_below HB.out c1)) (cell_below hW (cell_below HB.out c2)) Try.sizeOf23 Try.isAgg23)
      · exact Calm.mk 15 (.slice (some ⟨g, o, none⟩) n cap) rfl rfl (fun W _ => calm_move (.tmp 0) rfl rfl)
      · exact Calm.mk 16 (.int .i64 (j + 1 : Nat)) rfl rfl (fun W _ => calm_move (.tmp 3) rfl rfl)
      · exact Calm.mk 17 (.pointer (some ⟨g, o + (j + 1) * 3, none⟩)) rfl rfl (fun W _ => calm_run (by have hb0 : 0 ≤ ((j + 1 : Nat) : Int) := by omega
                                                                                                       have hb1 : ((j + 1 : Nat) : Int).toNat = j + 1 := by omega
                                                                                                       simp only [Int.natCast_add] at hb0 hb1 ⊢
                                                                                                       simp [execOp, Act.eval, go_sem, hlt, hb0, hb1]; try omega))
      · exact Calm.mk 18 (ptV y0 y1 y2) rfl rfl (fun W hW => calm_loadPt 23 (.tmp 17) rfl rfl (cell_below hW (cell_below HB.out e0)) (cell_below hW (cell_below HB.out e1)) (cell_below hW (cell_below HB.out e2)) Try.sizeOf23 Try.isAgg23)
      · exact Calm.mk 19 (.int .i64 r) rfl rfl (fun W hW => calm_call 176 _ #[ptV x0 x1 x2, ptV y0 y1 y2] rfl rfl rfl (by simp [Act.eval]) (Try.call176 _ _) (HCC.out W))
      · exact Calm.mk 20 (.bool (!b)) rfl rfl (fun W hW => calm_run (by simp [execOp, Act.eval, go_sem, HE.out]))
      intro W2 hW2
      have HB2 := Lib.hid (low_tr' HB.out hW2 HB.out.size)
      clear HB hW2
      cases b with
      | true =>
        go_wp2
        go_roundw
        case rel => exact ⟨j + 1 + 1, by omega, .inl (by omega), by go_num, Lib.hid (HI2.out (by simp)), HB2⟩
        case measure => simp [intOf]; omega
      | false =>
        go_wp2
        go_ret
        exact ⟨ret_bool (by rw [HF.out (by simp)]; rfl), HB2.out⟩
    · have HR : Hid (ascB l = true) := Lib.hid (ascB_true (fun i hi => HI.out i (by have := HL.out.1; omega)))
      go_wp2
      go_ret
      exact ⟨ret_bool (by rw [HR.out, Bool.true_and]; exact decide_eq_decide.2 (by omega)), HB.out⟩
set_option maxHeartbeats 1000000 in
theorem ascendsL_any (b0 : Option Addr) (n cap : Nat) (l : List Pt) (w : World) (hn : n ≤ 1000000) (h : ListP w b0 n l) :
    Calls Try.prog 156 #[.slice b0 n cap] w (Ret w (.bool (ascB l && decide (n ≤ 16)))) := by
  have HL := Lib.hid h
  clear h
  go_enter Try.func156, Try.ntmps156
  go_wp2
  go_loopw [3] (fun i wr => ∃ k : Nat, 1 ≤ k ∧ (k ≤ n ∨ k = 1) ∧ i = .int .i64 k ∧ Hid (∀ j, j + 1 < k → befB (l.getD j (0, 0, 0)) (l.getD (j + 1) (0, 0, 0)) = true) ∧ Hid (Below w.heap.size w wr)) (fun i wr => n - (intOf i).toNat)
  case atStart => exact ⟨1, Nat.le_refl _, .inr rfl, rfl, Lib.hid (fun j hj => absurd hj (by omega)), Lib.hid (Below.refl _ _)⟩
  case round =>
    obtain ⟨k, hk1, hk, rfl, HI, HB⟩ := hrel
    by_cases hlt : k < n
    · obtain ⟨g, o, rfl, hp⟩ := HL.out.2 (by omega)
      obtain ⟨j, rfl⟩ : ∃ j, k = j + 1 := ⟨k - 1, by omega⟩
      obtain ⟨c0, c1, c2⟩ := hp j (by omega)
      obtain ⟨e0, e1, e2⟩ := hp (j + 1) hlt
      have HF := Lib.hid (fun h => ascB_false (l := l) (i := j) (by have := HL.out.1; omega) h)
      have HI2 := Lib.hid (fun (h : befB (l.getD j (0, 0, 0)) (l.getD (j + 1) (0, 0, 0)) = true) (i : Nat) (hi : i + 1 < j + 1 + 1) => if e : i = j then e ▸ h else HI.out i (by omega))
      clear hp HI
      have hwj : IntKind.wrap .i64 (j : Int) = (j : Int) := by simp [IntKind.wrap, IntKind.signed, IntKind.bits]; omega
      obtain ⟨x, hx⟩ : ∃ x, l.getD j (0, 0, 0) = x := ⟨_, rfl⟩
      obtain ⟨y, hy⟩ : ∃ y, l.getD (j + 1) (0, 0, 0) = y := ⟨_, rfl⟩
      rw [hx] at c0 c1 c2
      rw [hy] at e0 e1 e2
      rw [hx, hy] at HF HI2
      obtain ⟨x0, x1, x2⟩ := x
      obtain ⟨y0, y1, y2⟩ := y
      dsimp only at c0 c1 c2 e0 e1 e2
      have HCC := Lib.hid (fun (W : World) => compareLine_any x0 x1 x2 y0 y1 y2 W)
      have HE := Lib.hid (cmpP_bef (x0, x1, x2) (y0, y1, y2))
      generalize befB (x0, x1, x2) (y0, y1, y2) = b at *
      generalize cmpP (x0, x1, x2) (y0, y1, y2) = r at *
      go_wp2
      refine region_calm [(10, .slice (some ⟨g, o, none⟩) n cap), (11, .int .i64 (j + 1 : Nat)), (12, .int .i64 j), (13, .pointer (some ⟨g, o + j * 3, none⟩)), (14, ptV x0 x1 x2), (15, .slice (some ⟨g, o, none⟩) n cap), (16, .int .i64 (j + 1 : Nat)), (17, .pointer (some ⟨g, o + (j + 1) * 3, none⟩)), (18, ptV y0 y1 y2), (19, (.int .i64 r)), (20, .bool (!b))] (by kernel_rfl) (by kernel_rfl) (by kernel_rfl) (fun aE hpe => ?_)
      simp only [puts, Act.put, List.setIfInBounds_toArray, List.set_cons_zero, List.set_cons_succ] at hpe
      subst hpe
      refine ⟨⟨.inr (.inr ?_), .inr (.inr ?_), .inr (.inr ?_), .inr (.inr ?_), .inr (.inr ?_), .inr (.inr ?_), .inr (.inr ?_), .inr (.inr ?_), .inr (.inr ?_), .inr (.inr ?_), .inr (.inr ?_), trivial⟩, ?_⟩
      · exact Calm.mk 10 (.slice (some ⟨g, o, none⟩) n cap) rfl rfl (fun W _ => calm_move (.tmp 0) rfl rfl)
      · exact Calm.mk 11 (.int .i64 (j + 1 : Nat)) rfl rfl (fun W _ => calm_move (.tmp 3) rfl rfl)
      · exact Calm.mk 12 (.int .i64 j) rfl rfl (fun W _ => calm_run (by simp [execOp, Act.eval, go_sem, hwj]))
      · exact Calm.mk 13 (.pointer (some ⟨g, o + j * 3, none⟩)) rfl rfl (fun W _ => calm_run (by simp [execOp, Act.eval, go_sem, (show j < n by omega)]))
      · exact Calm.mk 14 (ptV x0 x1 x2) rfl rfl (fun W hW => calm_loadPt 24 (.tmp 13) rfl rfl (cell_below hW (cell_below HB.out c0)) (cell_below hW (cell_below HB.out c1)) (cell_below hW (cell_below HB.out c2)) Try.sizeOf24 Try.isAgg24)
      · exact Calm.mk 15 (.slice (some ⟨g, o, none⟩) n cap) rfl rfl (fun W _ => calm_move (.tmp 0) rfl rfl)
      · exact Calm.mk 16 (.int .i64 (j + 1 : Nat)) rfl rfl (fun W _ => calm_move (.tmp 3) rfl rfl)
      · exact Calm.mk 17 (.pointer (some ⟨g, o + (j + 1) * 3, none⟩)) rfl rfl (fun W _ => calm_run (by have hb0 : 0 ≤ ((j + 1 : Nat) : Int) := by omega
                                                                                                       have hb1 : ((j + 1 : Nat) : Int).toNat = j + 1 := by omega
                                                                                                       simp only [Int.natCast_add] at hb0 hb1 ⊢
                                                                                                       simp [execOp, Act.eval, go_sem, hlt, hb0, hb1]; try omega))
      · exact Calm.mk 18 (ptV y0 y1 y2) rfl rfl (fun W hW => calm_loadPt 24 (.tmp 17) rfl rfl (cell_below hW (cell_below HB.out e0)) (cell_below hW (cell_below HB.out e1)) (cell_below hW (cell_below HB.out e2)) Try.sizeOf24 Try.isAgg24)
      · exact Calm.mk 19 (.int .i64 r) rfl rfl (fun W hW => calm_call 177 _ #[ptV x0 x1 x2, ptV y0 y1 y2] rfl rfl rfl (by simp [Act.eval]) (Try.call177 _ _) (HCC.out W))
      · exact Calm.mk 20 (.bool (!b)) rfl rfl (fun W hW => calm_run (by simp [execOp, Act.eval, go_sem, HE.out]))
      intro W2 hW2
      have HB2 := Lib.hid (low_tr' HB.out hW2 HB.out.size)
      clear HB hW2
      cases b with
      | true =>
        go_wp2
        go_roundw
        case rel => exact ⟨j + 1 + 1, by omega, .inl (by omega), by go_num, Lib.hid (HI2.out (by simp)), HB2⟩
        case measure => simp [intOf]; omega
      | false =>
        go_wp2
        go_ret
        exact ⟨ret_bool (by rw [HF.out (by simp)]; rfl), HB2.out⟩
    · have HR : Hid (ascB l = true) := Lib.hid (ascB_true (fun i hi => HI.out i (by have := HL.out.1; omega)))
      go_wp2
      go_ret
      exact ⟨ret_bool (by rw [HR.out, Bool.true_and]; exact decide_eq_decide.2 (by omega)), HB.out⟩
set_option maxHeartbeats 1000000 in
theorem l07Is_any (b0 : Option Addr) (n cap : Nat) (l : List Pt) (w : World) (hn : n ≤ 1000000) (h : ListP w b0 n l) :
    Calls Try.prog 151 #[.slice b0 n cap] w (Ret w (.bool (ascB l && decide (n ≤ 60)))) := by
  have HL := Lib.hid h
  clear h
  go_enter Try.func151, Try.ntmps151
  go_wp2
  go_loopw [3] (fun i wr => ∃ k : Nat, 1 ≤ k ∧ (k ≤ n ∨ k = 1) ∧ i = .int .i64 k ∧ Hid (∀ j, j + 1 < k → befB (l.getD j (0, 0, 0)) (l.getD (j + 1) (0, 0, 0)) = true) ∧ Hid (Below w.heap.size w wr)) (fun i wr => n - (intOf i).toNat)
  case atStart => exact ⟨1, Nat.le_refl _, .inr rfl, rfl, Lib.hid (fun j hj => absurd hj (by omega)), Lib.hid (Below.refl _ _)⟩
  case round =>
    obtain ⟨k, hk1, hk, rfl, HI, HB⟩ := hrel
    by_cases hlt : k < n
    · obtain ⟨g, o, rfl, hp⟩ := HL.out.2 (by omega)
      obtain ⟨j, rfl⟩ : ∃ j, k = j + 1 := ⟨k - 1, by omega⟩
      obtain ⟨c0, c1, c2⟩ := hp j (by omega)
      obtain ⟨e0, e1, e2⟩ := hp (j + 1) hlt
      have HF := Lib.hid (fun h => ascB_false (l := l) (i := j) (by have := HL.out.1; omega) h)
      have HI2 := Lib.hid (fun (h : befB (l.getD j (0, 0, 0)) (l.getD (j + 1) (0, 0, 0)) = true) (i : Nat) (hi : i + 1 < j + 1 + 1) => if e : i = j then e ▸ h else HI.out i (by omega))
      clear hp HI
      have hwj : IntKind.wrap .i64 (j : Int) = (j : Int) := by simp [IntKind.wrap, IntKind.signed, IntKind.bits]; omega
      obtain ⟨x, hx⟩ : ∃ x, l.getD j (0, 0, 0) = x := ⟨_, rfl⟩
      obtain ⟨y, hy⟩ : ∃ y, l.getD (j + 1) (0, 0, 0) = y := ⟨_, rfl⟩
      rw [hx] at c0 c1 c2
      rw [hy] at e0 e1 e2
      rw [hx, hy] at HF HI2
      obtain ⟨x0, x1, x2⟩ := x
      obtain ⟨y0, y1, y2⟩ := y
      dsimp only at c0 c1 c2 e0 e1 e2
      have HCC := Lib.hid (fun (W : World) => l07Before_any x0 x1 x2 y0 y1 y2 W)
      have HE := Lib.hid (cmpP_bef (x0, x1, x2) (y0, y1, y2))
      generalize befB (x0, x1, x2) (y0, y1, y2) = b at *
      go_wp2
      refine region_calm [(10, .slice (some ⟨g, o, none⟩) n cap), (11, .int .i64 (j + 1 : Nat)), (12, .int .i64 j), (13, .pointer (some ⟨g, o + j * 3, none⟩)), (14, ptV x0 x1 x2), (15, .slice (some ⟨g, o, none⟩) n cap), (16, .int .i64 (j + 1 : Nat)), (17, .pointer (some ⟨g, o + (j + 1) * 3, none⟩)), (18, ptV y0 y1 y2), (19, (.bool b)), (20, .bool (!b))] (by kernel_rfl) (by kernel_rfl) (by kernel_rfl) (fun aE hpe => ?_)
      simp only [puts, Act.put, List.setIfInBounds_toArray, List.set_cons_zero, List.set_cons_succ] at hpe
      subst hpe
      refine ⟨⟨.inr (.inr ?_), .inr (.inr ?_), .inr (.inr ?_), .inr (.inr ?_), .inr (.inr ?_), .inr (.inr ?_), .inr (.inr ?_), .inr (.inr ?_), .inr (.inr ?_), .inr (.inr ?_), .inr (.inr ?_), trivial⟩, ?_⟩
      · exact Calm.mk 10 (.slice (some ⟨g, o, none⟩) n cap) rfl rfl (fun W _ => calm_move (.tmp 0) rfl rfl)
      · exact Calm.mk 11 (.int .i64 (j + 1 : Nat)) rfl rfl (fun W _ => calm_move (.tmp 3) rfl rfl)
      · exact Calm.mk 12 (.int .i64 j) rfl rfl (fun W _ => calm_run (by simp [execOp, Act.eval, go_sem, hwj]))
      · exact Calm.mk 13 (.pointer (some ⟨g, o + j * 3, none⟩)) rfl rfl (fun W _ => calm_run (by simp [execOp, Act.eval, go_sem, (show j < n by omega)]))
      · exact Calm.mk 14 (ptV x0 x1 x2) rfl rfl (fun W hW => calm_loadPt 23 (.tmp 13) rfl rfl (cell_below hW (cell_below HB.out c0)) (cell_below hW (cell_below HB.out c1)) (cell_below hW (cell_below HB.out c2)) Try.sizeOf23 Try.isAgg23)
      · exact Calm.mk 15 (.slice (some ⟨g, o, none⟩) n cap) rfl rfl (fun W _ => calm_move (.tmp 0) rfl rfl)
      · exact Calm.mk 16 (.int .i64 (j + 1 : Nat)) rfl rfl (fun W _ => calm_move (.tmp 3) rfl rfl)
      · exact Calm.mk 17 (.pointer (some ⟨g, o + (j + 1) * 3, none⟩)) rfl rfl (fun W _ => calm_run (by have hb0 : 0 ≤ ((j + 1 : Nat) : Int) := by omega
                                                                                                       have hb1 : ((j + 1 : Nat) : Int).toNat = j + 1 := by omega
                                                                                                       simp only [Int.natCast_add] at hb0 hb1 ⊢
                                                                                                       simp [execOp, Act.eval, go_sem, hlt, hb0, hb1]; try omega))
      · exact Calm.mk 18 (ptV y0 y1 y2) rfl rfl (fun W hW => calm_loadPt 23 (.tmp 17) rfl rfl (cell_below hW (cell_below HB.out e0)) (cell_below hW (cell_below HB.out e1)) (cell_below hW (cell_below HB.out e2)) Try.sizeOf23 Try.isAgg23)
      · exact Calm.mk 19 (.bool b) rfl rfl (fun W hW => calm_call 175 _ #[ptV x0 x1 x2, ptV y0 y1 y2] rfl rfl rfl (by simp [Act.eval]) (Try.call175 _ _) (HCC.out W))
      · exact Calm.mk 20 (.bool (!b)) rfl rfl (fun W hW => calm_run (by simp [execOp, Act.eval, go_sem]))
      intro W2 hW2
      have HB2 := Lib.hid (low_tr' HB.out hW2 HB.out.size)
      clear HB hW2
      cases b with
      | true =>
        go_wp2
        go_roundw
        case rel => exact ⟨j + 1 + 1, by omega, .inl (by omega), by go_num, Lib.hid (HI2.out (by simp)), HB2⟩
        case measure => simp [intOf]; omega
      | false =>
        go_wp2
        go_ret
        exact ⟨ret_bool (by rw [HF.out (by simp)]; rfl), HB2.out⟩
    · have HR : Hid (ascB l = true) := Lib.hid (ascB_true (fun i hi => HI.out i (by have := HL.out.1; omega)))
      go_wp2
      go_ret
      exact ⟨ret_bool (by rw [HR.out, Bool.true_and]; exact decide_eq_decide.2 (by omega)), HB.out⟩
set_option maxHeartbeats 1000000 in
theorem l09Listed_any (b0 : Option Addr) (n cap : Nat) (l : List Pt) (w : World) (hn : n ≤ 1000000) (h : ListP w b0 n l) :
    Calls Try.prog 152 #[.slice b0 n cap] w (Ret w (.bool (ascB l && decide (n ≤ 16)))) := by
  have HL := Lib.hid h
  clear h
  go_enter Try.func152, Try.ntmps152
  go_wp2
  go_loopw [3] (fun i wr => ∃ k : Nat, 1 ≤ k ∧ (k ≤ n ∨ k = 1) ∧ i = .int .i64 k ∧ Hid (∀ j, j + 1 < k → befB (l.getD j (0, 0, 0)) (l.getD (j + 1) (0, 0, 0)) = true) ∧ Hid (Below w.heap.size w wr)) (fun i wr => n - (intOf i).toNat)
  case atStart => exact ⟨1, Nat.le_refl _, .inr rfl, rfl, Lib.hid (fun j hj => absurd hj (by omega)), Lib.hid (Below.refl _ _)⟩
  case round =>
    obtain ⟨k, hk1, hk, rfl, HI, HB⟩ := hrel
    by_cases hlt : k < n
    · obtain ⟨g, o, rfl, hp⟩ := HL.out.2 (by omega)
      obtain ⟨j, rfl⟩ : ∃ j, k = j + 1 := ⟨k - 1, by omega⟩
      obtain ⟨c0, c1, c2⟩ := hp j (by omega)
      obtain ⟨e0, e1, e2⟩ := hp (j + 1) hlt
      have HF := Lib.hid (fun h => ascB_false (l := l) (i := j) (by have := HL.out.1; omega) h)
      have HI2 := Lib.hid (fun (h : befB (l.getD j (0, 0, 0)) (l.getD (j + 1) (0, 0, 0)) = true) (i : Nat) (hi : i + 1 < j + 1 + 1) => if e : i = j then e ▸ h else HI.out i (by omega))
      clear hp HI
      have hwj : IntKind.wrap .i64 (j : Int) = (j : Int) := by simp [IntKind.wrap, IntKind.signed, IntKind.bits]; omega
      obtain ⟨x, hx⟩ : ∃ x, l.getD j (0, 0, 0) = x := ⟨_, rfl⟩
      obtain ⟨y, hy⟩ : ∃ y, l.getD (j + 1) (0, 0, 0) = y := ⟨_, rfl⟩
      rw [hx] at c0 c1 c2
      rw [hy] at e0 e1 e2
      rw [hx, hy] at HF HI2
      obtain ⟨x0, x1, x2⟩ := x
      obtain ⟨y0, y1, y2⟩ := y
      dsimp only at c0 c1 c2 e0 e1 e2
      have HCC := Lib.hid (fun (W : World) => l07Before_any x0 x1 x2 y0 y1 y2 W)
      have HE := Lib.hid (cmpP_bef (x0, x1, x2) (y0, y1, y2))
      generalize befB (x0, x1, x2) (y0, y1, y2) = b at *
      go_wp2
      refine region_calm [(10, .slice (some ⟨g, o, none⟩) n cap), (11, .int .i64 (j + 1 : Nat)), (12, .int .i64 j), (13, .pointer (some ⟨g, o + j * 3, none⟩)), (14, ptV x0 x1 x2), (15, .slice (some ⟨g, o, none⟩) n cap), (16, .int .i64 (j + 1 : Nat)), (17, .pointer (some ⟨g, o + (j + 1) * 3, none⟩)), (18, ptV y0 y1 y2), (19, (.bool b)), (20, .bool (!b))] (by kernel_rfl) (by kernel_rfl) (by kernel_rfl) (fun aE hpe => ?_)
      simp only [puts, Act.put, List.setIfInBounds_toArray, List.set_cons_zero, List.set_cons_succ] at hpe
      subst hpe
      refine ⟨⟨.inr (.inr ?_), .inr (.inr ?_), .inr (.inr ?_), .inr (.inr ?_), .inr (.inr ?_), .inr (.inr ?_), .inr (.inr ?_), .inr (.inr ?_), .inr (.inr ?_), .inr (.inr ?_), .inr (.inr ?_), trivial⟩, ?_⟩
      · exact Calm.mk 10 (.slice (some ⟨g, o, none⟩) n cap) rfl rfl (fun W _ => calm_move (.tmp 0) rfl rfl)
      · exact Calm.mk 11 (.int .i64 (j + 1 : Nat)) rfl rfl (fun W _ => calm_move (.tmp 3) rfl rfl)
      · exact Calm.mk 12 (.int .i64 j) rfl rfl (fun W _ => calm_run (by simp [execOp, Act.eval, go_sem, hwj]))
      · exact Calm.mk 13 (.pointer (some ⟨g, o + j * 3, none⟩)) rfl rfl (fun W _ => calm_run (by simp [execOp, Act.eval, go_sem, (show j < n by omega)]))
      · exact Calm.mk 14 (ptV x0 x1 x2) rfl rfl (fun W hW => calm_loadPt 24 (.tmp 13) rfl rfl (cell_below hW (cell_below HB.out c0)) (cell_below hW (cell_below HB.out c1)) (cell_below hW (cell_below HB.out c2)) Try.sizeOf24 Try.isAgg24)
      · exact Calm.mk 15 (.slice (some ⟨g, o, none⟩) n cap) rfl rfl (fun W _ => calm_move (.tmp 0) rfl rfl)
      · exact Calm.mk 16 (.int .i64 (j + 1 : Nat)) rfl rfl (fun W _ => calm_move (.tmp 3) rfl rfl)
      · exact Calm.mk 17 (.pointer (some ⟨g, o + (j + 1) * 3, none⟩)) rfl rfl (fun W _ => calm_run (by have hb0 : 0 ≤ ((j + 1 : Nat) : Int) := by omega
                                                                                                       have hb1 : ((j + 1 : Nat) : Int).toNat = j + 1 := by omega
                                                                                                       simp only [Int.natCast_add] at hb0 hb1 ⊢
                                                                                                       simp [execOp, Act.eval, go_sem, hlt, hb0, hb1]; try omega))
      · exact Calm.mk 18 (ptV y0 y1 y2) rfl rfl (fun W hW => calm_loadPt 24 (.tmp 17) rfl rfl (cell_below hW (cell_below HB.out e0)) (cell_below hW (cell_below HB.out e1)) (cell_below hW (cell_below HB.out e2)) Try.sizeOf24 Try.isAgg24)
      · exact Calm.mk 19 (.bool b) rfl rfl (fun W hW => calm_call 175 _ #[ptV x0 x1 x2, ptV y0 y1 y2] rfl rfl rfl (by simp [Act.eval]) (Try.call175 _ _) (HCC.out W))
      · exact Calm.mk 20 (.bool (!b)) rfl rfl (fun W hW => calm_run (by simp [execOp, Act.eval, go_sem]))
      intro W2 hW2
      have HB2 := Lib.hid (low_tr' HB.out hW2 HB.out.size)
      clear HB hW2
      cases b with
      | true =>
        go_wp2
        go_roundw
        case rel => exact ⟨j + 1 + 1, by omega, .inl (by omega), by go_num, Lib.hid (HI2.out (by simp)), HB2⟩
        case measure => simp [intOf]; omega
      | false =>
        go_wp2
        go_ret
        exact ⟨ret_bool (by rw [HF.out (by simp)]; rfl), HB2.out⟩
    · have HR : Hid (ascB l = true) := Lib.hid (ascB_true (fun i hi => HI.out i (by have := HL.out.1; omega)))
      go_wp2
      go_ret
      exact ⟨ret_bool (by rw [HR.out, Bool.true_and]; exact decide_eq_decide.2 (by omega)), HB.out⟩
end Go.Proofs.Ythkbhaaodegocaa
