/- Texts of the claim, in build order: S1, S2. No condition. -/
import Derived.Laws.Cover3
import Derived.Test.YtaocnklolgdkfaaGreatZFnSinger3
/- Contracts: maps turned and multiplied, as the program does it. (Printed by gens1.py, a program of this session.) -/
namespace Go.Proofs.YtaocnklolgdkfaaGreat
open Go.RowKit
set_option linter.unusedVariables false
set_option linter.unusedSimpArgs false
@[simp] theorem setRow_sizeS (w : World) (g : Nat) (cs : Array Value) : (w.setRow g cs).heap.size = w.heap.size := by simp [World.setRow]
theorem wpList_store1 {P : Program} (w : World) {ops : Array Oper} {rest : List Oper} {o : Oper} {a : Act} {Q : Exit → Act → World → Prop}
    (hgd : o.guard = none) (ty : TypeId) (x y : Operand) (hop : o.op = .store ty x y) (hd : o.dst = none) {g off : Nat} {T : TypeId} {cs cs' : Array Value} {z : Int} (hx : a.eval x = .pointer (some ⟨g, off, none⟩)) (hy : a.eval y = .int .i64 z)
    (hg : w.heap[g]? = some (.cells cs T (0, 0))) (hn : off + 1 ≤ cs.size) (he : (cs.toList.take off ++ [Value.int .i64 z] ++ cs.toList.drop (off + 1)).toArray = cs') (hs : ∀ W, (sizeOf ty).run P W = .ok 1 W) (hK : wpList P ops Q rest a (w.setRow g cs')) : wpList P ops Q (o :: rest) a w := by
  refine wpList_plain hgd fun K hK' => ?_
  have hst := run_storeCells_at (P := P) g off T [Value.int .i64 z] 0 cs w hg (by simpa using hn) (by intro v hv; rw [List.mem_singleton.1 hv]; rfl)
  rw [Nat.add_zero, show ([Value.int .i64 z] : List Value).length = 1 from rfl, he] at hst
  have hv : (storeVar ty ⟨g, off, none⟩ (.int .i64 z)).run P w = .ok () (w.setRow g cs') := by
    unfold storeVar
    rw [Sem.run_bind, hs]
    simp only [Result.andThen_ok, Value.cells, ne_eq, List.size_toArray, List.length_cons, List.length_nil, Nat.zero_add, not_true_eq_false, if_false]
    exact hst
  have hr : (execOp a.eval o).run P w = .ok .skip (w.setRow g cs') := by
    unfold execOp
    simp only [hop, hx, hy, Instr.storeAt, Instr.sureAddr, Sem.run_bind, Sem.run_pure, Result.andThen_ok, hv]
  unfold Oper.wp
  rw [hr]
  simp only [Oper.upon, hd]
  exact hK' _ _ hK
theorem row_int {w : World} {g off : Nat} {cs : Array Value} {T : TypeId} {fr : Nat × Nat} {z : Int} (h : w.heap[g]? = some (.cells cs T fr)) (hz : cs[off]? = some (.int .i64 z)) : w.cell? ⟨g, off, none⟩ = some (.int .i64 z) := by
  rw [cell_of_row w g off _ _ _ h]; exact hz
set_option maxRecDepth 20000 in
set_option maxHeartbeats 4000000 in
theorem transposed_any (x0 x1 x2 x3 x4 x5 x6 x7 x8 : Int) (w : World) :
    Calls Tryz.prog 120 #[.agg #[.int .i64 x0, .int .i64 x1, .int .i64 x2, .int .i64 x3, .int .i64 x4, .int .i64 x5, .int .i64 x6, .int .i64 x7, .int .i64 x8]] w (Ret w (.agg #[.int .i64 x0, .int .i64 x3, .int .i64 x6, .int .i64 x1, .int .i64 x4, .int .i64 x7, .int .i64 x2, .int .i64 x5, .int .i64 x8])) := by
  go_enter Tryz.func120, Tryz.ntmps120
  go_wp2
  have kx_0 : (((w.alloc (.cells #[.int .i64 x0, .int .i64 x1, .int .i64 x2, .int .i64 x3, .int .i64 x4, .int .i64 x5, .int .i64 x6, .int .i64 x7, .int .i64 x8] 31)).alloc (.cells #[.int .i64 0, .int .i64 0, .int .i64 0, .int .i64 0, .int .i64 0, .int .i64 0, .int .i64 0, .int .i64 0, .int .i64 0] 31)).alloc (.cells #[.int .i64 0, .int .i64 0, .int .i64 0, .int .i64 0, .int .i64 0, .int .i64 0, .int .i64 0, .int .i64 0, .int .i64 0] 31)).heap[w.heap.size]? = some (.cells #[.int .i64 x0, .int .i64 x1, .int .i64 x2, .int .i64 x3, .int .i64 x4, .int .i64 x5, .int .i64 x6, .int .i64 x7, .int .i64 x8] 31 (0, 0)) := by rw [hn_pastN _ _ _ (by first | omega | (simp; done) | (simp; omega)), hn_pastN _ _ _ (by first | omega | (simp; done) | (simp; omega)), hn_atN _ _ _ (by simp)]
  have kr_0 : (((w.alloc (.cells #[.int .i64 x0, .int .i64 x1, .int .i64 x2, .int .i64 x3, .int .i64 x4, .int .i64 x5, .int .i64 x6, .int .i64 x7, .int .i64 x8] 31)).alloc (.cells #[.int .i64 0, .int .i64 0, .int .i64 0, .int .i64 0, .int .i64 0, .int .i64 0, .int .i64 0, .int .i64 0, .int .i64 0] 31)).alloc (.cells #[.int .i64 0, .int .i64 0, .int .i64 0, .int .i64 0, .int .i64 0, .int .i64 0, .int .i64 0, .int .i64 0, .int .i64 0] 31)).heap[w.heap.size + 1]? = some (.cells #[.int .i64 0, .int .i64 0, .int .i64 0, .int .i64 0, .int .i64 0, .int .i64 0, .int .i64 0, .int .i64 0, .int .i64 0] 31 (0, 0)) := by rw [hn_pastN _ _ _ (by first | omega | (simp; done) | (simp; omega)), hn_atN _ _ _ (by simp)]
  have ko_0 : (((w.alloc (.cells #[.int .i64 x0, .int .i64 x1, .int .i64 x2, .int .i64 x3, .int .i64 x4, .int .i64 x5, .int .i64 x6, .int .i64 x7, .int .i64 x8] 31)).alloc (.cells #[.int .i64 0, .int .i64 0, .int .i64 0, .int .i64 0, .int .i64 0, .int .i64 0, .int .i64 0, .int .i64 0, .int .i64 0] 31)).alloc (.cells #[.int .i64 0, .int .i64 0, .int .i64 0, .int .i64 0, .int .i64 0, .int .i64 0, .int .i64 0, .int .i64 0, .int .i64 0] 31)).heap[w.heap.size + 1 + 1]? = some (.cells #[.int .i64 0, .int .i64 0, .int .i64 0, .int .i64 0, .int .i64 0, .int .i64 0, .int .i64 0, .int .i64 0, .int .i64 0] 31 (0, 0)) := by rw [hn_atN _ _ _ (by simp)]
  have HB_0 : Below w.heap.size w (((w.alloc (.cells #[.int .i64 x0, .int .i64 x1, .int .i64 x2, .int .i64 x3, .int .i64 x4, .int .i64 x5, .int .i64 x6, .int .i64 x7, .int .i64 x8] 31)).alloc (.cells #[.int .i64 0, .int .i64 0, .int .i64 0, .int .i64 0, .int .i64 0, .int .i64 0, .int .i64 0, .int .i64 0, .int .i64 0] 31)).alloc (.cells #[.int .i64 0, .int .i64 0, .int .i64 0, .int .i64 0, .int .i64 0, .int .i64 0, .int .i64 0, .int .i64 0, .int .i64 0] 31)) := (by repeat (first | exact Below.refl _ _ | refine bset ?_ _ _ (by omega) _ | refine bal ?_ _ | refine bdrN ?_ _ | refine bdr ?_))
  generalize (((w.alloc (.cells #[.int .i64 x0, .int .i64 x1, .int .i64 x2, .int .i64 x3, .int .i64 x4, .int .i64 x5, .int .i64 x6, .int .i64 x7, .int .i64 x8] 31)).alloc (.cells #[.int .i64 0, .int .i64 0, .int .i64 0, .int .i64 0, .int .i64 0, .int .i64 0, .int .i64 0, .int .i64 0, .int .i64 0] 31)).alloc (.cells #[.int .i64 0, .int .i64 0, .int .i64 0, .int .i64 0, .int .i64 0, .int .i64 0, .int .i64 0, .int .i64 0, .int .i64 0] 31)) = V_0 at *
  refine wp_loop_rounds 4 ?_
  rw [rounds_succ]; go_wp2
  refine wp_loop_rounds 4 ?_
  rw [rounds_succ]; go_wp2
  have lx := (Array.getElem?_eq_some_iff.1 kx_0).1
  have lr := (Array.getElem?_eq_some_iff.1 kr_0).1
  have lo := (Array.getElem?_eq_some_iff.1 ko_0).1
  refine region_via 9 [(13, .int .i64 0), (14, .int .i64 0), (15, .int .i64 0), (16, .int .i64 0), (17, .pointer (some ⟨w.heap.size, 0, none⟩)), (18, .pointer (some ⟨w.heap.size, 0, none⟩)), (19, .int .i64 x0), (20, .pointer (some ⟨w.heap.size + 1 + 1, 0, none⟩)), (21, .pointer (some ⟨w.heap.size + 1 + 1, 0, none⟩))] (by kernel_rfl) (by decide) (by kernel_rfl) (by kernel_rfl) (by kernel_rfl) (fun aE hpe => ?_)
  simp only [puts, Act.put, List.setIfInBounds_toArray, List.set_cons_zero, List.set_cons_succ] at hpe
  subst hpe
  refine ⟨⟨.inr (.inr ?_), .inr (.inr ?_), .inr (.inr ?_), .inr (.inr ?_), .inr (.inr ?_), .inr (.inr ?_), .inr (.inr ?_), .inr (.inr ?_), .inr (.inr ?_), trivial⟩, ?_⟩
  · exact CalmG.mk 13 (.int .i64 0) rfl rfl rfl (fun W hW => calm_move (.tmp 5) rfl rfl)
  · exact CalmG.mk 14 (.int .i64 0) rfl rfl rfl (fun W hW => calm_move (.tmp 4) rfl rfl)
  · exact CalmG.mk 15 (.int .i64 0) rfl rfl rfl (fun W hW => calm_move (.tmp 4) rfl rfl)
  · exact CalmG.mk 16 (.int .i64 0) rfl rfl rfl (fun W hW => calm_move (.tmp 5) rfl rfl)
  · exact CalmG.mk 17 (.pointer (some ⟨w.heap.size, 0, none⟩)) rfl rfl rfl (fun W hW => calm_run (by simp [execOp, Act.eval, go_sem]))
  · exact CalmG.mk 18 (.pointer (some ⟨w.heap.size, 0, none⟩)) rfl rfl rfl (fun W hW => calm_run (by simp [execOp, Act.eval, go_sem]))
  · exact CalmG.mk 19 (.int .i64 x0) rfl rfl rfl (fun W hW => by have hc := row_int (off := 0) (z := x0) ((hW.block _ lx).trans kx_0) rfl; exact calm_run (by simp [execOp, Act.eval, go_sem, hc]))
  · exact CalmG.mk 20 (.pointer (some ⟨w.heap.size + 1 + 1, 0, none⟩)) rfl rfl rfl (fun W hW => calm_run (by simp [execOp, Act.eval, go_sem]))
  · exact CalmG.mk 21 (.pointer (some ⟨w.heap.size + 1 + 1, 0, none⟩)) rfl rfl rfl (fun W hW => calm_run (by simp [execOp, Act.eval, go_sem]))
  intro W hW
  simp only [List.drop_succ_cons, List.drop_zero]
  refine wpList_store1 _ rfl 2 (.tmp 21) (.tmp 19) rfl rfl (g := w.heap.size + 1 + 1) (off := 0) (T := 31) (cs := #[.int .i64 0, .int .i64 0, .int .i64 0, .int .i64 0, .int .i64 0, .int .i64 0, .int .i64 0, .int .i64 0, .int .i64 0]) (cs' := #[.int .i64 x0, .int .i64 0, .int .i64 0, .int .i64 0, .int .i64 0, .int .i64 0, .int .i64 0, .int .i64 0, .int .i64 0]) (z := x0) rfl rfl ((hW.block _ lo).trans ko_0) (Nat.le_of_ble_eq_true rfl) rfl Tryz.sizeOf2 ?_
  refine wpList_nil ?_
  have kx_1 := (setRow_other W (w.heap.size + 1 + 1) w.heap.size #[.int .i64 x0, .int .i64 0, .int .i64 0, .int .i64 0, .int .i64 0, .int .i64 0, .int .i64 0, .int .i64 0, .int .i64 0] (by omega)).trans ((hW.block _ lx).trans kx_0)
  have kr_1 := (setRow_other W (w.heap.size + 1 + 1) (w.heap.size + 1) #[.int .i64 x0, .int .i64 0, .int .i64 0, .int .i64 0, .int .i64 0, .int .i64 0, .int .i64 0, .int .i64 0, .int .i64 0] (by omega)).trans ((hW.block _ lr).trans kr_0)
  have ko_1 := setRow_heap W (w.heap.size + 1 + 1) _ #[.int .i64 x0, .int .i64 0, .int .i64 0, .int .i64 0, .int .i64 0, .int .i64 0, .int .i64 0, .int .i64 0, .int .i64 0] _ _ ((hW.block _ lo).trans ko_0)
  have HB_1 : Below w.heap.size w (W.setRow (w.heap.size + 1 + 1) #[.int .i64 x0, .int .i64 0, .int .i64 0, .int .i64 0, .int .i64 0, .int .i64 0, .int .i64 0, .int .i64 0, .int .i64 0]) := below_setRowN (low_tr' HB_0 hW (by omega)) (by omega) _
  clear kx_0 kr_0 ko_0 HB_0 lx lr lo hW
  generalize W.setRow (w.heap.size + 1 + 1) #[.int .i64 x0, .int .i64 0, .int .i64 0, .int .i64 0, .int .i64 0, .int .i64 0, .int .i64 0, .int .i64 0, .int .i64 0] = V_1 at *
  clear V_0
  go_wp2
  rw [rounds_succ]; go_wp2
  have lx := (Array.getElem?_eq_some_iff.1 kx_1).1
  have lr := (Array.getElem?_eq_some_iff.1 kr_1).1
  have lo := (Array.getElem?_eq_some_iff.1 ko_1).1
  refine region_via 9 [(13, .int .i64 1), (14, .int .i64 0), (15, .int .i64 0), (16, .int .i64 1), (17, .pointer (some ⟨w.heap.size, 0, none⟩)), (18, .pointer (some ⟨w.heap.size, 1, none⟩)), (19, .int .i64 x1), (20, .pointer (some ⟨w.heap.size + 1 + 1, 3, none⟩)), (21, .pointer (some ⟨w.heap.size + 1 + 1, 3, none⟩))] (by kernel_rfl) (by decide) (by kernel_rfl) (by kernel_rfl) (by kernel_rfl) (fun aE hpe => ?_)
  simp only [puts, Act.put, List.setIfInBounds_toArray, List.set_cons_zero, List.set_cons_succ] at hpe
  subst hpe
  refine ⟨⟨.inr (.inr ?_), .inr (.inr ?_), .inr (.inr ?_), .inr (.inr ?_), .inr (.inr ?_), .inr (.inr ?_), .inr (.inr ?_), .inr (.inr ?_), .inr (.inr ?_), trivial⟩, ?_⟩
  · exact CalmG.mk 13 (.int .i64 1) rfl rfl rfl (fun W hW => calm_move (.tmp 5) rfl rfl)
  · exact CalmG.mk 14 (.int .i64 0) rfl rfl rfl (fun W hW => calm_move (.tmp 4) rfl rfl)
  · exact CalmG.mk 15 (.int .i64 0) rfl rfl rfl (fun W hW => calm_move (.tmp 4) rfl rfl)
  · exact CalmG.mk 16 (.int .i64 1) rfl rfl rfl (fun W hW => calm_move (.tmp 5) rfl rfl)
  · exact CalmG.mk 17 (.pointer (some ⟨w.heap.size, 0, none⟩)) rfl rfl rfl (fun W hW => calm_run (by simp [execOp, Act.eval, go_sem]))
  · exact CalmG.mk 18 (.pointer (some ⟨w.heap.size, 1, none⟩)) rfl rfl rfl (fun W hW => calm_run (by simp [execOp, Act.eval, go_sem]))
  · exact CalmG.mk 19 (.int .i64 x1) rfl rfl rfl (fun W hW => by have hc := row_int (off := 1) (z := x1) ((hW.block _ lx).trans kx_1) rfl; exact calm_run (by simp [execOp, Act.eval, go_sem, hc]))
  · exact CalmG.mk 20 (.pointer (some ⟨w.heap.size + 1 + 1, 3, none⟩)) rfl rfl rfl (fun W hW => calm_run (by simp [execOp, Act.eval, go_sem]))
  · exact CalmG.mk 21 (.pointer (some ⟨w.heap.size + 1 + 1, 3, none⟩)) rfl rfl rfl (fun W hW => calm_run (by simp [execOp, Act.eval, go_sem]))
  intro W hW
  simp only [List.drop_succ_cons, List.drop_zero]
  refine wpList_store1 _ rfl 2 (.tmp 21) (.tmp 19) rfl rfl (g := w.heap.size + 1 + 1) (off := 3) (T := 31) (cs := #[.int .i64 x0, .int .i64 0, .int .i64 0, .int .i64 0, .int .i64 0, .int .i64 0, .int .i64 0, .int .i64 0, .int .i64 0]) (cs' := #[.int .i64 x0, .int .i64 0, .int .i64 0, .int .i64 x1, .int .i64 0, .int .i64 0, .int .i64 0, .int .i64 0, .int .i64 0]) (z := x1) rfl rfl ((hW.block _ lo).trans ko_1) (Nat.le_of_ble_eq_true rfl) rfl Tryz.sizeOf2 ?_
  refine wpList_nil ?_
  have kx_2 := (setRow_other W (w.heap.size + 1 + 1) w.heap.size #[.int .i64 x0, .int .i64 0, .int .i64 0, .int .i64 x1, .int .i64 0, .int .i64 0, .int .i64 0, .int .i64 0, .int .i64 0] (by omega)).trans ((hW.block _ lx).trans kx_1)
  have kr_2 := (setRow_other W (w.heap.size + 1 + 1) (w.heap.size + 1) #[.int .i64 x0, .int .i64 0, .int .i64 0, .int .i64 x1, .int .i64 0, .int .i64 0, .int .i64 0, .int .i64 0, .int .i64 0] (by omega)).trans ((hW.block _ lr).trans kr_1)
  have ko_2 := setRow_heap W (w.heap.size + 1 + 1) _ #[.int .i64 x0, .int .i64 0, .int .i64 0, .int .i64 x1, .int .i64 0, .int .i64 0, .int .i64 0, .int .i64 0, .int .i64 0] _ _ ((hW.block _ lo).trans ko_1)
  have HB_2 : Below w.heap.size w (W.setRow (w.heap.size + 1 + 1) #[.int .i64 x0, .int .i64 0, .int .i64 0, .int .i64 x1, .int .i64 0, .int .i64 0, .int .i64 0, .int .i64 0, .int .i64 0]) := below_setRowN (low_tr' HB_1 hW (by omega)) (by omega) _
  clear kx_1 kr_1 ko_1 HB_1 lx lr lo hW
  generalize W.setRow (w.heap.size + 1 + 1) #[.int .i64 x0, .int .i64 0, .int .i64 0, .int .i64 x1, .int .i64 0, .int .i64 0, .int .i64 0, .int .i64 0, .int .i64 0] = V_2 at *
  clear V_1
  go_wp2
  rw [rounds_succ]; go_wp2
  have lx := (Array.getElem?_eq_some_iff.1 kx_2).1
  have lr := (Array.getElem?_eq_some_iff.1 kr_2).1
  have lo := (Array.getElem?_eq_some_iff.1 ko_2).1
  refine region_via 9 [(13, .int .i64 2), (14, .int .i64 0), (15, .int .i64 0), (16, .int .i64 2), (17, .pointer (some ⟨w.heap.size, 0, none⟩)), (18, .pointer (some ⟨w.heap.size, 2, none⟩)), (19, .int .i64 x2), (20, .pointer (some ⟨w.heap.size + 1 + 1, 6, none⟩)), (21, .pointer (some ⟨w.heap.size + 1 + 1, 6, none⟩))] (by kernel_rfl) (by decide) (by kernel_rfl) (by kernel_rfl) (by kernel_rfl) (fun aE hpe => ?_)
  simp only [puts, Act.put, List.setIfInBounds_toArray, List.set_cons_zero, List.set_cons_succ] at hpe
  subst hpe
  refine ⟨⟨.inr (.inr ?_), .inr (.inr ?_), .inr (.inr ?_), .inr (.inr ?_), .inr (.inr ?_), .inr (.inr ?_), .inr (.inr ?_), .inr (.inr ?_), .inr (.inr ?_), trivial⟩, ?_⟩
  · exact CalmG.mk 13 (.int .i64 2) rfl rfl rfl (fun W hW => calm_move (.tmp 5) rfl rfl)
  · exact CalmG.mk 14 (.int .i64 0) rfl rfl rfl (fun W hW => calm_move (.tmp 4) rfl rfl)
  · exact CalmG.mk 15 (.int .i64 0) rfl rfl rfl (fun W hW => calm_move (.tmp 4) rfl rfl)
  · exact CalmG.mk 16 (.int .i64 2) rfl rfl rfl (fun W hW => calm_move (.tmp 5) rfl rfl)
  · exact CalmG.mk 17 (.pointer (some ⟨w.heap.size, 0, none⟩)) rfl rfl rfl (fun W hW => calm_run (by simp [execOp, Act.eval, go_sem]))
  · exact CalmG.mk 18 (.pointer (some ⟨w.heap.size, 2, none⟩)) rfl rfl rfl (fun W hW => calm_run (by simp [execOp, Act.eval, go_sem]))
  · exact CalmG.mk 19 (.int .i64 x2) rfl rfl rfl (fun W hW => by have hc := row_int (off := 2) (z := x2) ((hW.block _ lx).trans kx_2) rfl; exact calm_run (by simp [execOp, Act.eval, go_sem, hc]))
  · exact CalmG.mk 20 (.pointer (some ⟨w.heap.size + 1 + 1, 6, none⟩)) rfl rfl rfl (fun W hW => calm_run (by simp [execOp, Act.eval, go_sem]))
  · exact CalmG.mk 21 (.pointer (some ⟨w.heap.size + 1 + 1, 6, none⟩)) rfl rfl rfl (fun W hW => calm_run (by simp [execOp, Act.eval, go_sem]))
  intro W hW
  simp only [List.drop_succ_cons, List.drop_zero]
  refine wpList_store1 _ rfl 2 (.tmp 21) (.tmp 19) rfl rfl (g := w.heap.size + 1 + 1) (off := 6) (T := 31) (cs := #[.int .i64 x0, .int .i64 0, .int .i64 0, .int .i64 x1, .int .i64 0, .int .i64 0, .int .i64 0, .int .i64 0, .int .i64 0]) (cs' := #[.int .i64 x0, .int .i64 0, .int .i64 0, .int .i64 x1, .int .i64 0, .int .i64 0, .int .i64 x2, .int .i64 0, .int .i64 0]) (z := x2) rfl rfl ((hW.block _ lo).trans ko_2) (Nat.le_of_ble_eq_true rfl) rfl Tryz.sizeOf2 ?_
  refine wpList_nil ?_
  have kx_3 := (setRow_other W (w.heap.size + 1 + 1) w.heap.size #[.int .i64 x0, .int .i64 0, .int .i64 0, .int .i64 x1, .int .i64 0, .int .i64 0, .int .i64 x2, .int .i64 0, .int .i64 0] (by omega)).trans ((hW.block _ lx).trans kx_2)
  have kr_3 := (setRow_other W (w.heap.size + 1 + 1) (w.heap.size + 1) #[.int .i64 x0, .int .i64 0, .int .i64 0, .int .i64 x1, .int .i64 0, .int .i64 0, .int .i64 x2, .int .i64 0, .int .i64 0] (by omega)).trans ((hW.block _ lr).trans kr_2)
  have ko_3 := setRow_heap W (w.heap.size + 1 + 1) _ #[.int .i64 x0, .int .i64 0, .int .i64 0, .int .i64 x1, .int .i64 0, .int .i64 0, .int .i64 x2, .int .i64 0, .int .i64 0] _ _ ((hW.block _ lo).trans ko_2)
  have HB_3 : Below w.heap.size w (W.setRow (w.heap.size + 1 + 1) #[.int .i64 x0, .int .i64 0, .int .i64 0, .int .i64 x1, .int .i64 0, .int .i64 0, .int .i64 x2, .int .i64 0, .int .i64 0]) := below_setRowN (low_tr' HB_2 hW (by omega)) (by omega) _
  clear kx_2 kr_2 ko_2 HB_2 lx lr lo hW
  generalize W.setRow (w.heap.size + 1 + 1) #[.int .i64 x0, .int .i64 0, .int .i64 0, .int .i64 x1, .int .i64 0, .int .i64 0, .int .i64 x2, .int .i64 0, .int .i64 0] = V_3 at *
  clear V_2
  go_wp2
  rw [rounds_succ]; go_wp2
  rw [rounds_succ]; go_wp2
  refine wp_loop_rounds 4 ?_
  rw [rounds_succ]; go_wp2
  have lx := (Array.getElem?_eq_some_iff.1 kx_3).1
  have lr := (Array.getElem?_eq_some_iff.1 kr_3).1
  have lo := (Array.getElem?_eq_some_iff.1 ko_3).1
  refine region_via 9 [(13, .int .i64 0), (14, .int .i64 1), (15, .int .i64 1), (16, .int .i64 0), (17, .pointer (some ⟨w.heap.size, 3, none⟩)), (18, .pointer (some ⟨w.heap.size, 3, none⟩)), (19, .int .i64 x3), (20, .pointer (some ⟨w.heap.size + 1 + 1, 0, none⟩)), (21, .pointer (some ⟨w.heap.size + 1 + 1, 1, none⟩))] (by kernel_rfl) (by decide) (by kernel_rfl) (by kernel_rfl) (by kernel_rfl) (fun aE hpe => ?_)
  simp only [puts, Act.put, List.setIfInBounds_toArray, List.set_cons_zero, List.set_cons_succ] at hpe
  subst hpe
  refine ⟨⟨.inr (.inr ?_), .inr (.inr ?_), .inr (.inr ?_), .inr (.inr ?_), .inr (.inr ?_), .inr (.inr ?_), .inr (.inr ?_), .inr (.inr ?_), .inr (.inr ?_), trivial⟩, ?_⟩
  · exact CalmG.mk 13 (.int .i64 0) rfl rfl rfl (fun W hW => calm_move (.tmp 5) rfl rfl)
  · exact CalmG.mk 14 (.int .i64 1) rfl rfl rfl (fun W hW => calm_move (.tmp 4) rfl rfl)
  · exact CalmG.mk 15 (.int .i64 1) rfl rfl rfl (fun W hW => calm_move (.tmp 4) rfl rfl)
  · exact CalmG.mk 16 (.int .i64 0) rfl rfl rfl (fun W hW => calm_move (.tmp 5) rfl rfl)
  · exact CalmG.mk 17 (.pointer (some ⟨w.heap.size, 3, none⟩)) rfl rfl rfl (fun W hW => calm_run (by simp [execOp, Act.eval, go_sem]))
  · exact CalmG.mk 18 (.pointer (some ⟨w.heap.size, 3, none⟩)) rfl rfl rfl (fun W hW => calm_run (by simp [execOp, Act.eval, go_sem]))
  · exact CalmG.mk 19 (.int .i64 x3) rfl rfl rfl (fun W hW => by have hc := row_int (off := 3) (z := x3) ((hW.block _ lx).trans kx_3) rfl; exact calm_run (by simp [execOp, Act.eval, go_sem, hc]))
  · exact CalmG.mk 20 (.pointer (some ⟨w.heap.size + 1 + 1, 0, none⟩)) rfl rfl rfl (fun W hW => calm_run (by simp [execOp, Act.eval, go_sem]))
  · exact CalmG.mk 21 (.pointer (some ⟨w.heap.size + 1 + 1, 1, none⟩)) rfl rfl rfl (fun W hW => calm_run (by simp [execOp, Act.eval, go_sem]))
  intro W hW
  simp only [List.drop_succ_cons, List.drop_zero]
  refine wpList_store1 _ rfl 2 (.tmp 21) (.tmp 19) rfl rfl (g := w.heap.size + 1 + 1) (off := 1) (T := 31) (cs := #[.int .i64 x0, .int .i64 0, .int .i64 0, .int .i64 x1, .int .i64 0, .int .i64 0, .int .i64 x2, .int .i64 0, .int .i64 0]) (cs' := #[.int .i64 x0, .int .i64 x3, .int .i64 0, .int .i64 x1, .int .i64 0, .int .i64 0, .int .i64 x2, .int .i64 0, .int .i64 0]) (z := x3) rfl rfl ((hW.block _ lo).trans ko_3) (Nat.le_of_ble_eq_true rfl) rfl Tryz.sizeOf2 ?_
  refine wpList_nil ?_
  have kx_4 := (setRow_other W (w.heap.size + 1 + 1) w.heap.size #[.int .i64 x0, .int .i64 x3, .int .i64 0, .int .i64 x1, .int .i64 0, .int .i64 0, .int .i64 x2, .int .i64 0, .int .i64 0] (by omega)).trans ((hW.block _ lx).trans kx_3)
  have kr_4 := (setRow_other W (w.heap.size + 1 + 1) (w.heap.size + 1) #[.int .i64 x0, .int .i64 x3, .int .i64 0, .int .i64 x1, .int .i64 0, .int .i64 0, .int .i64 x2, .int .i64 0, .int .i64 0] (by omega)).trans ((hW.block _ lr).trans kr_3)
  have ko_4 := setRow_heap W (w.heap.size + 1 + 1) _ #[.int .i64 x0, .int .i64 x3, .int .i64 0, .int .i64 x1, .int .i64 0, .int .i64 0, .int .i64 x2, .int .i64 0, .int .i64 0] _ _ ((hW.block _ lo).trans ko_3)
  have HB_4 : Below w.heap.size w (W.setRow (w.heap.size + 1 + 1) #[.int .i64 x0, .int .i64 x3, .int .i64 0, .int .i64 x1, .int .i64 0, .int .i64 0, .int .i64 x2, .int .i64 0, .int .i64 0]) := below_setRowN (low_tr' HB_3 hW (by omega)) (by omega) _
  clear kx_3 kr_3 ko_3 HB_3 lx lr lo hW
  generalize W.setRow (w.heap.size + 1 + 1) #[.int .i64 x0, .int .i64 x3, .int .i64 0, .int .i64 x1, .int .i64 0, .int .i64 0, .int .i64 x2, .int .i64 0, .int .i64 0] = V_4 at *
  clear V_3
  go_wp2
  rw [rounds_succ]; go_wp2
  have lx := (Array.getElem?_eq_some_iff.1 kx_4).1
  have lr := (Array.getElem?_eq_some_iff.1 kr_4).1
  have lo := (Array.getElem?_eq_some_iff.1 ko_4).1
  refine region_via 9 [(13, .int .i64 1), (14, .int .i64 1), (15, .int .i64 1), (16, .int .i64 1), (17, .pointer (some ⟨w.heap.size, 3, none⟩)), (18, .pointer (some ⟨w.heap.size, 4, none⟩)), (19, .int .i64 x4), (20, .pointer (some ⟨w.heap.size + 1 + 1, 3, none⟩)), (21, .pointer (some ⟨w.heap.size + 1 + 1, 4, none⟩))] (by kernel_rfl) (by decide) (by kernel_rfl) (by kernel_rfl) (by kernel_rfl) (fun aE hpe => ?_)
  simp only [puts, Act.put, List.setIfInBounds_toArray, List.set_cons_zero, List.set_cons_succ] at hpe
  subst hpe
  refine ⟨⟨.inr (.inr ?_), .inr (.inr ?_), .inr (.inr ?_), .inr (.inr ?_), .inr (.inr ?_), .inr (.inr ?_), .inr (.inr ?_), .inr (.inr ?_), .inr (.inr ?_), trivial⟩, ?_⟩
  · exact CalmG.mk 13 (.int .i64 1) rfl rfl rfl (fun W hW => calm_move (.tmp 5) rfl rfl)
  · exact CalmG.mk 14 (.int .i64 1) rfl rfl rfl (fun W hW => calm_move (.tmp 4) rfl rfl)
  · exact CalmG.mk 15 (.int .i64 1) rfl rfl rfl (fun W hW => calm_move (.tmp 4) rfl rfl)
  · exact CalmG.mk 16 (.int .i64 1) rfl rfl rfl (fun W hW => calm_move (.tmp 5) rfl rfl)
  · exact CalmG.mk 17 (.pointer (some ⟨w.heap.size, 3, none⟩)) rfl rfl rfl (fun W hW => calm_run (by simp [execOp, Act.eval, go_sem]))
  · exact CalmG.mk 18 (.pointer (some ⟨w.heap.size, 4, none⟩)) rfl rfl rfl (fun W hW => calm_run (by simp [execOp, Act.eval, go_sem]))
  · exact CalmG.mk 19 (.int .i64 x4) rfl rfl rfl (fun W hW => by have hc := row_int (off := 4) (z := x4) ((hW.block _ lx).trans kx_4) rfl; exact calm_run (by simp [execOp, Act.eval, go_sem, hc]))
  · exact CalmG.mk 20 (.pointer (some ⟨w.heap.size + 1 + 1, 3, none⟩)) rfl rfl rfl (fun W hW => calm_run (by simp [execOp, Act.eval, go_sem]))
  · exact CalmG.mk 21 (.pointer (some ⟨w.heap.size + 1 + 1, 4, none⟩)) rfl rfl rfl (fun W hW => calm_run (by simp [execOp, Act.eval, go_sem]))
  intro W hW
  simp only [List.drop_succ_cons, List.drop_zero]
  refine wpList_store1 _ rfl 2 (.tmp 21) (.tmp 19) rfl rfl (g := w.heap.size + 1 + 1) (off := 4) (T := 31) (cs := #[.int .i64 x0, .int .i64 x3, .int .i64 0, .int .i64 x1, .int .i64 0, .int .i64 0, .int .i64 x2, .int .i64 0, .int .i64 0]) (cs' := #[.int .i64 x0, .int .i64 x3, .int .i64 0, .int .i64 x1, .int .i64 x4, .int .i64 0, .int .i64 x2, .int .i64 0, .int .i64 0]) (z := x4) rfl rfl ((hW.block _ lo).trans ko_4) (Nat.le_of_ble_eq_true rfl) rfl Tryz.sizeOf2 ?_
  refine wpList_nil ?_
  have kx_5 := (setRow_other W (w.heap.size + 1 + 1) w.heap.size #[.int .i64 x0, .int .i64 x3, .int .i64 0, .int .i64 x1, .int .i64 x4, .int .i64 0, .int .i64 x2, .int .i64 0, .int .i64 0] (by omega)).trans ((hW.block _ lx).trans kx_4)
  have kr_5 := (setRow_other W (w.heap.size + 1 + 1) (w.heap.size + 1) #[.int .i64 x0, .int .i64 x3, .int .i64 0, .int .i64 x1, .int .i64 x4, .int .i64 0, .int .i64 x2, .int .i64 0, .int .i64 0] (by omega)).trans ((hW.block _ lr).trans kr_4)
  have ko_5 := setRow_heap W (w.heap.size + 1 + 1) _ #[.int .i64 x0, .int .i64 x3, .int .i64 0, .int .i64 x1, .int .i64 x4, .int .i64 0, .int .i64 x2, .int .i64 0, .int .i64 0] _ _ ((hW.block _ lo).trans ko_4)
  have HB_5 : Below w.heap.size w (W.setRow (w.heap.size + 1 + 1) #[.int .i64 x0, .int .i64 x3, .int .i64 0, .int .i64 x1, .int .i64 x4, .int .i64 0, .int .i64 x2, .int .i64 0, .int .i64 0]) := below_setRowN (low_tr' HB_4 hW (by omega)) (by omega) _
  clear kx_4 kr_4 ko_4 HB_4 lx lr lo hW
  generalize W.setRow (w.heap.size + 1 + 1) #[.int .i64 x0, .int .i64 x3, .int .i64 0, .int .i64 x1, .int .i64 x4, .int .i64 0, .int .i64 x2, .int .i64 0, .int .i64 0] = V_5 at *
  clear V_4
  go_wp2
  rw [rounds_succ]; go_wp2
  have lx := (Array.getElem?_eq_some_iff.1 kx_5).1
  have lr := (Array.getElem?_eq_some_iff.1 kr_5).1
  have lo := (Array.getElem?_eq_some_iff.1 ko_5).1
  refine region_via 9 [(13, .int .i64 2), (14, .int .i64 1), (15, .int .i64 1), (16, .int .i64 2), (17, .pointer (some ⟨w.heap.size, 3, none⟩)), (18, .pointer (some ⟨w.heap.size, 5, none⟩)), (19, .int .i64 x5), (20, .pointer (some ⟨w.heap.size + 1 + 1, 6, none⟩)), (21, .pointer (some ⟨w.heap.size + 1 + 1, 7, none⟩))] (by kernel_rfl) (by decide) (by kernel_rfl) (by kernel_rfl) (by kernel_rfl) (fun aE hpe => ?_)
  simp only [puts, Act.put, List.setIfInBounds_toArray, List.set_cons_zero, List.set_cons_succ] at hpe
  subst hpe
  refine ⟨⟨.inr (.inr ?_), .inr (.inr ?_), .inr (.inr ?_), .inr (.inr ?_), .inr (.inr ?_), .inr (.inr ?_), .inr (.inr ?_), .inr (.inr ?_), .inr (.inr ?_), trivial⟩, ?_⟩
  · exact CalmG.mk 13 (.int .i64 2) rfl rfl rfl (fun W hW => calm_move (.tmp 5) rfl rfl)
  · exact CalmG.mk 14 (.int .i64 1) rfl rfl rfl (fun W hW => calm_move (.tmp 4) rfl rfl)
  · exact CalmG.mk 15 (.int .i64 1) rfl rfl rfl (fun W hW => calm_move (.tmp 4) rfl rfl)
  · exact CalmG.mk 16 (.int .i64 2) rfl rfl rfl (fun W hW => calm_move (.tmp 5) rfl rfl)
  · exact CalmG.mk 17 (.pointer (some ⟨w.heap.size, 3, none⟩)) rfl rfl rfl (fun W hW => calm_run (by simp [execOp, Act.eval, go_sem]))
  · exact CalmG.mk 18 (.pointer (some ⟨w.heap.size, 5, none⟩)) rfl rfl rfl (fun W hW => calm_run (by simp [execOp, Act.eval, go_sem]))
  · exact CalmG.mk 19 (.int .i64 x5) rfl rfl rfl (fun W hW => by have hc := row_int (off := 5) (z := x5) ((hW.block _ lx).trans kx_5) rfl; exact calm_run (by simp [execOp, Act.eval, go_sem, hc]))
  · exact CalmG.mk 20 (.pointer (some ⟨w.heap.size + 1 + 1, 6, none⟩)) rfl rfl rfl (fun W hW => calm_run (by simp [execOp, Act.eval, go_sem]))
  · exact CalmG.mk 21 (.pointer (some ⟨w.heap.size + 1 + 1, 7, none⟩)) rfl rfl rfl (fun W hW => calm_run (by simp [execOp, Act.eval, go_sem]))
  intro W hW
  simp only [List.drop_succ_cons, List.drop_zero]
  refine wpList_store1 _ rfl 2 (.tmp 21) (.tmp 19) rfl rfl (g := w.heap.size + 1 + 1) (off := 7) (T := 31) (cs := #[.int .i64 x0, .int .i64 x3, .int .i64 0, .int .i64 x1, .int .i64 x4, .int .i64 0, .int .i64 x2, .int .i64 0, .int .i64 0]) (cs' := #[.int .i64 x0, .int .i64 x3, .int .i64 0, .int .i64 x1, .int .i64 x4, .int .i64 0, .int .i64 x2, .int .i64 x5, .int .i64 0]) (z := x5) rfl rfl ((hW.block _ lo).trans ko_5) (Nat.le_of_ble_eq_true rfl) rfl Tryz.sizeOf2 ?_
  refine wpList_nil ?_
  have kx_6 := (setRow_other W (w.heap.size + 1 + 1) w.heap.size #[.int .i64 x0, .int .i64 x3, .int .i64 0, .int .i64 x1, .int .i64 x4, .int .i64 0, .int .i64 x2, .int .i64 x5, .int .i64 0] (by omega)).trans ((hW.block _ lx).trans kx_5)
  have kr_6 := (setRow_other W (w.heap.size + 1 + 1) (w.heap.size + 1) #[.int .i64 x0, .int .i64 x3, .int .i64 0, .int .i64 x1, .int .i64 x4, .int .i64 0, .int .i64 x2, .int .i64 x5, .int .i64 0] (by omega)).trans ((hW.block _ lr).trans kr_5)
  have ko_6 := setRow_heap W (w.heap.size + 1 + 1) _ #[.int .i64 x0, .int .i64 x3, .int .i64 0, .int .i64 x1, .int .i64 x4, .int .i64 0, .int .i64 x2, .int .i64 x5, .int .i64 0] _ _ ((hW.block _ lo).trans ko_5)
  have HB_6 : Below w.heap.size w (W.setRow (w.heap.size + 1 + 1) #[.int .i64 x0, .int .i64 x3, .int .i64 0, .int .i64 x1, .int .i64 x4, .int .i64 0, .int .i64 x2, .int .i64 x5, .int .i64 0]) := below_setRowN (low_tr' HB_5 hW (by omega)) (by omega) _
  clear kx_5 kr_5 ko_5 HB_5 lx lr lo hW
  generalize W.setRow (w.heap.size + 1 + 1) #[.int .i64 x0, .int .i64 x3, .int .i64 0, .int .i64 x1, .int .i64 x4, .int .i64 0, .int .i64 x2, .int .i64 x5, .int .i64 0] = V_6 at *
  clear V_5
  go_wp2
  rw [rounds_succ]; go_wp2
  rw [rounds_succ]; go_wp2
  refine wp_loop_rounds 4 ?_
  rw [rounds_succ]; go_wp2
  have lx := (Array.getElem?_eq_some_iff.1 kx_6).1
  have lr := (Array.getElem?_eq_some_iff.1 kr_6).1
  have lo := (Array.getElem?_eq_some_iff.1 ko_6).1
  refine region_via 9 [(13, .int .i64 0), (14, .int .i64 2), (15, .int .i64 2), (16, .int .i64 0), (17, .pointer (some ⟨w.heap.size, 6, none⟩)), (18, .pointer (some ⟨w.heap.size, 6, none⟩)), (19, .int .i64 x6), (20, .pointer (some ⟨w.heap.size + 1 + 1, 0, none⟩)), (21, .pointer (some ⟨w.heap.size + 1 + 1, 2, none⟩))] (by kernel_rfl) (by decide) (by kernel_rfl) (by kernel_rfl) (by kernel_rfl) (fun aE hpe => ?_)
  simp only [puts, Act.put, List.setIfInBounds_toArray, List.set_cons_zero, List.set_cons_succ] at hpe
  subst hpe
  refine ⟨⟨.inr (.inr ?_), .inr (.inr ?_), .inr (.inr ?_), .inr (.inr ?_), .inr (.inr ?_), .inr (.inr ?_), .inr (.inr ?_), .inr (.inr ?_), .inr (.inr ?_), trivial⟩, ?_⟩
  · exact CalmG.mk 13 (.int .i64 0) rfl rfl rfl (fun W hW => calm_move (.tmp 5) rfl rfl)
  · exact CalmG.mk 14 (.int .i64 2) rfl rfl rfl (fun W hW => calm_move (.tmp 4) rfl rfl)
  · exact CalmG.mk 15 (.int .i64 2) rfl rfl rfl (fun W hW => calm_move (.tmp 4) rfl rfl)
  · exact CalmG.mk 16 (.int .i64 0) rfl rfl rfl (fun W hW => calm_move (.tmp 5) rfl rfl)
  · exact CalmG.mk 17 (.pointer (some ⟨w.heap.size, 6, none⟩)) rfl rfl rfl (fun W hW => calm_run (by simp [execOp, Act.eval, go_sem]))
  · exact CalmG.mk 18 (.pointer (some ⟨w.heap.size, 6, none⟩)) rfl rfl rfl (fun W hW => calm_run (by simp [execOp, Act.eval, go_sem]))
  · exact CalmG.mk 19 (.int .i64 x6) rfl rfl rfl (fun W hW => by have hc := row_int (off := 6) (z := x6) ((hW.block _ lx).trans kx_6) rfl; exact calm_run (by simp [execOp, Act.eval, go_sem, hc]))
  · exact CalmG.mk 20 (.pointer (some ⟨w.heap.size + 1 + 1, 0, none⟩)) rfl rfl rfl (fun W hW => calm_run (by simp [execOp, Act.eval, go_sem]))
  · exact CalmG.mk 21 (.pointer (some ⟨w.heap.size + 1 + 1, 2, none⟩)) rfl rfl rfl (fun W hW => calm_run (by simp [execOp, Act.eval, go_sem]))
  intro W hW
  simp only [List.drop_succ_cons, List.drop_zero]
  refine wpList_store1 _ rfl 2 (.tmp 21) (.tmp 19) rfl rfl (g := w.heap.size + 1 + 1) (off := 2) (T := 31) (cs := #[.int .i64 x0, .int .i64 x3, .int .i64 0, .int .i64 x1, .int .i64 x4, .int .i64 0, .int .i64 x2, .int .i64 x5, .int .i64 0]) (cs' := #[.int .i64 x0, .int .i64 x3, .int .i64 x6, .int .i64 x1, .int .i64 x4, .int .i64 0, .int .i64 x2, .int .i64 x5, .int .i64 0]) (z := x6) rfl rfl ((hW.block _ lo).trans ko_6) (Nat.le_of_ble_eq_true rfl) rfl Tryz.sizeOf2 ?_
  refine wpList_nil ?_
  have kx_7 := (setRow_other W (w.heap.size + 1 + 1) w.heap.size #[.int .i64 x0, .int .i64 x3, .int .i64 x6, .int .i64 x1, .int .i64 x4, .int .i64 0, .int .i64 x2, .int .i64 x5, .int .i64 0] (by omega)).trans ((hW.block _ lx).trans kx_6)
  have kr_7 := (setRow_other W (w.heap.size + 1 + 1) (w.heap.size + 1) #[.int .i64 x0, .int .i64 x3, .int .i64 x6, .int .i64 x1, .int .i64 x4, .int .i64 0, .int .i64 x2, .int .i64 x5, .int .i64 0] (by omega)).trans ((hW.block _ lr).trans kr_6)
  have ko_7 := setRow_heap W (w.heap.size + 1 + 1) _ #[.int .i64 x0, .int .i64 x3, .int .i64 x6, .int .i64 x1, .int .i64 x4, .int .i64 0, .int .i64 x2, .int .i64 x5, .int .i64 0] _ _ ((hW.block _ lo).trans ko_6)
  have HB_7 : Below w.heap.size w (W.setRow (w.heap.size + 1 + 1) #[.int .i64 x0, .int .i64 x3, .int .i64 x6, .int .i64 x1, .int .i64 x4, .int .i64 0, .int .i64 x2, .int .i64 x5, .int .i64 0]) := below_setRowN (low_tr' HB_6 hW (by omega)) (by omega) _
  clear kx_6 kr_6 ko_6 HB_6 lx lr lo hW
  generalize W.setRow (w.heap.size + 1 + 1) #[.int .i64 x0, .int .i64 x3, .int .i64 x6, .int .i64 x1, .int .i64 x4, .int .i64 0, .int .i64 x2, .int .i64 x5, .int .i64 0] = V_7 at *
  clear V_6
  go_wp2
  rw [rounds_succ]; go_wp2
  have lx := (Array.getElem?_eq_some_iff.1 kx_7).1
  have lr := (Array.getElem?_eq_some_iff.1 kr_7).1
  have lo := (Array.getElem?_eq_some_iff.1 ko_7).1
  refine region_via 9 [(13, .int .i64 1), (14, .int .i64 2), (15, .int .i64 2), (16, .int .i64 1), (17, .pointer (some ⟨w.heap.size, 6, none⟩)), (18, .pointer (some ⟨w.heap.size, 7, none⟩)), (19, .int .i64 x7), (20, .pointer (some ⟨w.heap.size + 1 + 1, 3, none⟩)), (21, .pointer (some ⟨w.heap.size + 1 + 1, 5, none⟩))] (by kernel_rfl) (by decide) (by kernel_rfl) (by kernel_rfl) (by kernel_rfl) (fun aE hpe => ?_)
  simp only [puts, Act.put, List.setIfInBounds_toArray, List.set_cons_zero, List.set_cons_succ] at hpe
  subst hpe
  refine ⟨⟨.inr (.inr ?_), .inr (.inr ?_), .inr (.inr ?_), .inr (.inr ?_), .inr (.inr ?_), .inr (.inr ?_), .inr (.inr ?_), .inr (.inr ?_), .inr (.inr ?_), trivial⟩, ?_⟩
  · exact CalmG.mk 13 (.int .i64 1) rfl rfl rfl (fun W hW => calm_move (.tmp 5) rfl rfl)
  · exact CalmG.mk 14 (.int .i64 2) rfl rfl rfl (fun W hW => calm_move (.tmp 4) rfl rfl)
  · exact CalmG.mk 15 (.int .i64 2) rfl rfl rfl (fun W hW => calm_move (.tmp 4) rfl rfl)
  · exact CalmG.mk 16 (.int .i64 1) rfl rfl rfl (fun W hW => calm_move (.tmp 5) rfl rfl)
  · exact CalmG.mk 17 (.pointer (some ⟨w.heap.size, 6, none⟩)) rfl rfl rfl (fun W hW => calm_run (by simp [execOp, Act.eval, go_sem]))
  · exact CalmG.mk 18 (.pointer (some ⟨w.heap.size, 7, none⟩)) rfl rfl rfl (fun W hW => calm_run (by simp [execOp, Act.eval, go_sem]))
  · exact CalmG.mk 19 (.int .i64 x7) rfl rfl rfl (fun W hW => by have hc := row_int (off := 7) (z := x7) ((hW.block _ lx).trans kx_7) rfl; exact calm_run (by simp [execOp, Act.eval, go_sem, hc]))
  · exact CalmG.mk 20 (.pointer (some ⟨w.heap.size + 1 + 1, 3, none⟩)) rfl rfl rfl (fun W hW => calm_run (by simp [execOp, Act.eval, go_sem]))
  · exact CalmG.mk 21 (.pointer (some ⟨w.heap.size + 1 + 1, 5, none⟩)) rfl rfl rfl (fun W hW => calm_run (by simp [execOp, Act.eval, go_sem]))
  intro W hW
  simp only [List.drop_succ_cons, List.drop_zero]
  refine wpList_store1 _ rfl 2 (.tmp 21) (.tmp 19) rfl rfl (g := w.heap.size + 1 + 1) (off := 5) (T := 31) (cs := #[.int .i64 x0, .int .i64 x3, .int .i64 x6, .int .i64 x1, .int .i64 x4, .int .i64 0, .int .i64 x2, .int .i64 x5, .int .i64 0]) (cs' := #[.int .i64 x0, .int .i64 x3, .int .i64 x6, .int .i64 x1, .int .i64 x4, .int .i64 x7, .int .i64 x2, .int .i64 x5, .int .i64 0]) (z := x7) rfl rfl ((hW.block _ lo).trans ko_7) (Nat.le_of_ble_eq_true rfl) rfl Tryz.sizeOf2 ?_
  refine wpList_nil ?_
  have kx_8 := (setRow_other W (w.heap.size + 1 + 1) w.heap.size #[.int .i64 x0, .int .i64 x3, .int .i64 x6, .int .i64 x1, .int .i64 x4, .int .i64 x7, .int .i64 x2, .int .i64 x5, .int .i64 0] (by omega)).trans ((hW.block _ lx).trans kx_7)
  have kr_8 := (setRow_other W (w.heap.size + 1 + 1) (w.heap.size + 1) #[.int .i64 x0, .int .i64 x3, .int .i64 x6, .int .i64 x1, .int .i64 x4, .int .i64 x7, .int .i64 x2, .int .i64 x5, .int .i64 0] (by omega)).trans ((hW.block _ lr).trans kr_7)
  have ko_8 := setRow_heap W (w.heap.size + 1 + 1) _ #[.int .i64 x0, .int .i64 x3, .int .i64 x6, .int .i64 x1, .int .i64 x4, .int .i64 x7, .int .i64 x2, .int .i64 x5, .int .i64 0] _ _ ((hW.block _ lo).trans ko_7)
  have HB_8 : Below w.heap.size w (W.setRow (w.heap.size + 1 + 1) #[.int .i64 x0, .int .i64 x3, .int .i64 x6, .int .i64 x1, .int .i64 x4, .int .i64 x7, .int .i64 x2, .int .i64 x5, .int .i64 0]) := below_setRowN (low_tr' HB_7 hW (by omega)) (by omega) _
  clear kx_7 kr_7 ko_7 HB_7 lx lr lo hW
  generalize W.setRow (w.heap.size + 1 + 1) #[.int .i64 x0, .int .i64 x3, .int .i64 x6, .int .i64 x1, .int .i64 x4, .int .i64 x7, .int .i64 x2, .int .i64 x5, .int .i64 0] = V_8 at *
  clear V_7
  go_wp2
  rw [rounds_succ]; go_wp2
  have lx := (Array.getElem?_eq_some_iff.1 kx_8).1
  have lr := (Array.getElem?_eq_some_iff.1 kr_8).1
  have lo := (Array.getElem?_eq_some_iff.1 ko_8).1
  refine region_via 9 [(13, .int .i64 2), (14, .int .i64 2), (15, .int .i64 2), (16, .int .i64 2), (17, .pointer (some ⟨w.heap.size, 6, none⟩)), (18, .pointer (some ⟨w.heap.size, 8, none⟩)), (19, .int .i64 x8), (20, .pointer (some ⟨w.heap.size + 1 + 1, 6, none⟩)), (21, .pointer (some ⟨w.heap.size + 1 + 1, 8, none⟩))] (by kernel_rfl) (by decide) (by kernel_rfl) (by kernel_rfl) (by kernel_rfl) (fun aE hpe => ?_)
  simp only [puts, Act.put, List.setIfInBounds_toArray, List.set_cons_zero, List.set_cons_succ] at hpe
  subst hpe
  refine ⟨⟨.inr (.inr ?_), .inr (.inr ?_), .inr (.inr ?_), .inr (.inr ?_), .inr (.inr ?_), .inr (.inr ?_), .inr (.inr ?_), .inr (.inr ?_), .inr (.inr ?_), trivial⟩, ?_⟩
  · exact CalmG.mk 13 (.int .i64 2) rfl rfl rfl (fun W hW => calm_move (.tmp 5) rfl rfl)
  · exact CalmG.mk 14 (.int .i64 2) rfl rfl rfl (fun W hW => calm_move (.tmp 4) rfl rfl)
  · exact CalmG.mk 15 (.int .i64 2) rfl rfl rfl (fun W hW => calm_move (.tmp 4) rfl rfl)
  · exact CalmG.mk 16 (.int .i64 2) rfl rfl rfl (fun W hW => calm_move (.tmp 5) rfl rfl)
  · exact CalmG.mk 17 (.pointer (some ⟨w.heap.size, 6, none⟩)) rfl rfl rfl (fun W hW => calm_run (by simp [execOp, Act.eval, go_sem]))
  · exact CalmG.mk 18 (.pointer (some ⟨w.heap.size, 8, none⟩)) rfl rfl rfl (fun W hW => calm_run (by simp [execOp, Act.eval, go_sem]))
  · exact CalmG.mk 19 (.int .i64 x8) rfl rfl rfl (fun W hW => by have hc := row_int (off := 8) (z := x8) ((hW.block _ lx).trans kx_8) rfl; exact calm_run (by simp [execOp, Act.eval, go_sem, hc]))
  · exact CalmG.mk 20 (.pointer (some ⟨w.heap.size + 1 + 1, 6, none⟩)) rfl rfl rfl (fun W hW => calm_run (by simp [execOp, Act.eval, go_sem]))
  · exact CalmG.mk 21 (.pointer (some ⟨w.heap.size + 1 + 1, 8, none⟩)) rfl rfl rfl (fun W hW => calm_run (by simp [execOp, Act.eval, go_sem]))
  intro W hW
  simp only [List.drop_succ_cons, List.drop_zero]
  refine wpList_store1 _ rfl 2 (.tmp 21) (.tmp 19) rfl rfl (g := w.heap.size + 1 + 1) (off := 8) (T := 31) (cs := #[.int .i64 x0, .int .i64 x3, .int .i64 x6, .int .i64 x1, .int .i64 x4, .int .i64 x7, .int .i64 x2, .int .i64 x5, .int .i64 0]) (cs' := #[.int .i64 x0, .int .i64 x3, .int .i64 x6, .int .i64 x1, .int .i64 x4, .int .i64 x7, .int .i64 x2, .int .i64 x5, .int .i64 x8]) (z := x8) rfl rfl ((hW.block _ lo).trans ko_8) (Nat.le_of_ble_eq_true rfl) rfl Tryz.sizeOf2 ?_
  refine wpList_nil ?_
  have kx_9 := (setRow_other W (w.heap.size + 1 + 1) w.heap.size #[.int .i64 x0, .int .i64 x3, .int .i64 x6, .int .i64 x1, .int .i64 x4, .int .i64 x7, .int .i64 x2, .int .i64 x5, .int .i64 x8] (by omega)).trans ((hW.block _ lx).trans kx_8)
  have kr_9 := (setRow_other W (w.heap.size + 1 + 1) (w.heap.size + 1) #[.int .i64 x0, .int .i64 x3, .int .i64 x6, .int .i64 x1, .int .i64 x4, .int .i64 x7, .int .i64 x2, .int .i64 x5, .int .i64 x8] (by omega)).trans ((hW.block _ lr).trans kr_8)
  have ko_9 := setRow_heap W (w.heap.size + 1 + 1) _ #[.int .i64 x0, .int .i64 x3, .int .i64 x6, .int .i64 x1, .int .i64 x4, .int .i64 x7, .int .i64 x2, .int .i64 x5, .int .i64 x8] _ _ ((hW.block _ lo).trans ko_8)
  have HB_9 : Below w.heap.size w (W.setRow (w.heap.size + 1 + 1) #[.int .i64 x0, .int .i64 x3, .int .i64 x6, .int .i64 x1, .int .i64 x4, .int .i64 x7, .int .i64 x2, .int .i64 x5, .int .i64 x8]) := below_setRowN (low_tr' HB_8 hW (by omega)) (by omega) _
  clear kx_8 kr_8 ko_8 HB_8 lx lr lo hW
  generalize W.setRow (w.heap.size + 1 + 1) #[.int .i64 x0, .int .i64 x3, .int .i64 x6, .int .i64 x1, .int .i64 x4, .int .i64 x7, .int .i64 x2, .int .i64 x5, .int .i64 x8] = V_9 at *
  clear V_8
  go_wp2
  rw [rounds_succ]; go_wp2
  rw [rounds_succ]
  go_wp2_with (first
    | (refine wpList_load_row _ rfl 31 _ rfl (g := w.heap.size + 1 + 1) (T := 31) (cs := #[.int .i64 x0, .int .i64 x3, .int .i64 x6, .int .i64 x1, .int .i64 x4, .int .i64 x7, .int .i64 x2, .int .i64 x5, .int .i64 x8]) (fr := (0, 0)) rfl ko_9 9 rfl Tryz.sizeOf31 Tryz.isAgg31 ?_)
    | (refine wpList_store_row _ rfl 31 _ _ rfl rfl (g := w.heap.size + 1) (T := 31) (cs := #[.int .i64 0, .int .i64 0, .int .i64 0, .int .i64 0, .int .i64 0, .int .i64 0, .int .i64 0, .int .i64 0, .int .i64 0]) (U := #[.int .i64 x0, .int .i64 x3, .int .i64 x6, .int .i64 x1, .int .i64 x4, .int .i64 x7, .int .i64 x2, .int .i64 x5, .int .i64 x8]) rfl rfl kr_9 rfl Tryz.sizeOf31 (by simp [Value.oneCell']) ?_))
  exact bodyPost_ret (v := .agg #[.int .i64 x0, .int .i64 x3, .int .i64 x6, .int .i64 x1, .int .i64 x4, .int .i64 x7, .int .i64 x2, .int .i64 x5, .int .i64 x8]) (results_row Tryz.results120 rfl (setRow_heap _ _ _ _ _ _ kr_9) 9 rfl Tryz.sizeOf31 Tryz.isAgg31) rfl ⟨rfl, below_setRowN HB_9 (by omega) _⟩
set_option maxRecDepth 20000 in
set_option maxHeartbeats 8000000 in
theorem product_any (p x0 x1 x2 x3 x4 x5 x6 x7 x8 y0 y1 y2 y3 y4 y5 y6 y7 y8 : Int) (w : World) (hp : prB p = true) (h0 : In13 (x0, x1, x2)) (h1 : In13 (x3, x4, x5)) (h2 : In13 (x6, x7, x8)) (c0 : In13 (y0, y3, y6)) (c1 : In13 (y1, y4, y7)) (c2 : In13 (y2, y5, y8)) :
    Calls Tryz.prog 102 #[.int .i64 p, .agg #[.int .i64 x0, .int .i64 x1, .int .i64 x2, .int .i64 x3, .int .i64 x4, .int .i64 x5, .int .i64 x6, .int .i64 x7, .int .i64 x8], .agg #[.int .i64 y0, .int .i64 y1, .int .i64 y2, .int .i64 y3, .int .i64 y4, .int .i64 y5, .int .i64 y6, .int .i64 y7, .int .i64 y8]] w (Ret w (.agg #[.int .i64 ((x0 * y0 + x1 * y3 + x2 * y6) % p), .int .i64 ((x0 * y1 + x1 * y4 + x2 * y7) % p), .int .i64 ((x0 * y2 + x1 * y5 + x2 * y8) % p), .int .i64 ((x3 * y0 + x4 * y3 + x5 * y6) % p), .int .i64 ((x3 * y1 + x4 * y4 + x5 * y7) % p), .int .i64 ((x3 * y2 + x4 * y5 + x5 * y8) % p), .int .i64 ((x6 * y0 + x7 * y3 + x8 * y6) % p), .int .i64 ((x6 * y1 + x7 * y4 + x8 * y7) % p), .int .i64 ((x6 * y2 + x7 * y5 + x8 * y8) % p)])) := by
  have HT := Lib.hid (fun (W : World) => transposed_any y0 y1 y2 y3 y4 y5 y6 y7 y8 W)
  have HD0 := Lib.hid (fun (W : World) => dot_any p x0 x1 x2 y0 y3 y6 W hp h0 c0)
  have HD1 := Lib.hid (fun (W : World) => dot_any p x0 x1 x2 y1 y4 y7 W hp h0 c1)
  have HD2 := Lib.hid (fun (W : World) => dot_any p x0 x1 x2 y2 y5 y8 W hp h0 c2)
  have HD3 := Lib.hid (fun (W : World) => dot_any p x3 x4 x5 y0 y3 y6 W hp h1 c0)
  have HD4 := Lib.hid (fun (W : World) => dot_any p x3 x4 x5 y1 y4 y7 W hp h1 c1)
  have HD5 := Lib.hid (fun (W : World) => dot_any p x3 x4 x5 y2 y5 y8 W hp h1 c2)
  have HD6 := Lib.hid (fun (W : World) => dot_any p x6 x7 x8 y0 y3 y6 W hp h2 c0)
  have HD7 := Lib.hid (fun (W : World) => dot_any p x6 x7 x8 y1 y4 y7 W hp h2 c1)
  have HD8 := Lib.hid (fun (W : World) => dot_any p x6 x7 x8 y2 y5 y8 W hp h2 c2)
  clear hp h0 h1 h2 c0 c1 c2
  generalize ((x0 * y0 + x1 * y3 + x2 * y6) % p) = d0 at *
  generalize ((x0 * y1 + x1 * y4 + x2 * y7) % p) = d1 at *
  generalize ((x0 * y2 + x1 * y5 + x2 * y8) % p) = d2 at *
  generalize ((x3 * y0 + x4 * y3 + x5 * y6) % p) = d3 at *
  generalize ((x3 * y1 + x4 * y4 + x5 * y7) % p) = d4 at *
  generalize ((x3 * y2 + x4 * y5 + x5 * y8) % p) = d5 at *
  generalize ((x6 * y0 + x7 * y3 + x8 * y6) % p) = d6 at *
  generalize ((x6 * y1 + x7 * y4 + x8 * y7) % p) = d7 at *
  generalize ((x6 * y2 + x7 * y5 + x8 * y8) % p) = d8 at *
  go_enter Tryz.func102, Tryz.ntmps102
  go_wp2_with (go_at_call 120; (with_reducible refine (HT.out _).mono ?_); rintro e w1_ ⟨rfl, hb1⟩; obtain ⟨hcb1, hfb1, hlb1⟩ := bcell hb1; have hsz1 := hb1.size; (try simp at hsz1); have HB1 := Lib.hid hb1; clear hb1; (try (have hl01 : w.heap.size < w1_.heap.size := by omega)); (try (have hl11 : w.heap.size + 1 < w1_.heap.size := by omega)); (try (have hl21 : w.heap.size + 1 + 1 < w1_.heap.size := by omega)))
  have kx_0 : ((w1_.alloc (.cells #[.int .i64 0, .int .i64 0, .int .i64 0, .int .i64 0, .int .i64 0, .int .i64 0, .int .i64 0, .int .i64 0, .int .i64 0] 31)).alloc (.cells #[.int .i64 y0, .int .i64 y3, .int .i64 y6, .int .i64 y1, .int .i64 y4, .int .i64 y7, .int .i64 y2, .int .i64 y5, .int .i64 y8] 31)).heap[w.heap.size]? = some (.cells #[.int .i64 x0, .int .i64 x1, .int .i64 x2, .int .i64 x3, .int .i64 x4, .int .i64 x5, .int .i64 x6, .int .i64 x7, .int .i64 x8] 31 (0, 0)) := by rw [hn_pastN _ _ _ (by first | omega | (simp; done) | (simp; omega)), hn_pastN _ _ _ (by first | omega | (simp; done) | (simp; omega)), HB1.out.block _ (by first | omega | (simp; done) | (simp; omega)), hn_pastN _ _ _ (by first | omega | (simp; done) | (simp; omega)), hn_pastN _ _ _ (by first | omega | (simp; done) | (simp; omega)), hn_atN _ _ _ (by simp)]
  have kr_0 : ((w1_.alloc (.cells #[.int .i64 0, .int .i64 0, .int .i64 0, .int .i64 0, .int .i64 0, .int .i64 0, .int .i64 0, .int .i64 0, .int .i64 0] 31)).alloc (.cells #[.int .i64 y0, .int .i64 y3, .int .i64 y6, .int .i64 y1, .int .i64 y4, .int .i64 y7, .int .i64 y2, .int .i64 y5, .int .i64 y8] 31)).heap[w.heap.size + 1 + 1]? = some (.cells #[.int .i64 0, .int .i64 0, .int .i64 0, .int .i64 0, .int .i64 0, .int .i64 0, .int .i64 0, .int .i64 0, .int .i64 0] 31 (0, 0)) := by rw [hn_pastN _ _ _ (by first | omega | (simp; done) | (simp; omega)), hn_pastN _ _ _ (by first | omega | (simp; done) | (simp; omega)), HB1.out.block _ (by first | omega | (simp; done) | (simp; omega)), hn_atN _ _ _ (by simp)]
  have kt_0 : ((w1_.alloc (.cells #[.int .i64 0, .int .i64 0, .int .i64 0, .int .i64 0, .int .i64 0, .int .i64 0, .int .i64 0, .int .i64 0, .int .i64 0] 31)).alloc (.cells #[.int .i64 y0, .int .i64 y3, .int .i64 y6, .int .i64 y1, .int .i64 y4, .int .i64 y7, .int .i64 y2, .int .i64 y5, .int .i64 y8] 31)).heap[w1_.heap.size + 1]? = some (.cells #[.int .i64 y0, .int .i64 y3, .int .i64 y6, .int .i64 y1, .int .i64 y4, .int .i64 y7, .int .i64 y2, .int .i64 y5, .int .i64 y8] 31 (0, 0)) := by rw [hn_atN _ _ _ (by simp)]
  have ko_0 : ((w1_.alloc (.cells #[.int .i64 0, .int .i64 0, .int .i64 0, .int .i64 0, .int .i64 0, .int .i64 0, .int .i64 0, .int .i64 0, .int .i64 0] 31)).alloc (.cells #[.int .i64 y0, .int .i64 y3, .int .i64 y6, .int .i64 y1, .int .i64 y4, .int .i64 y7, .int .i64 y2, .int .i64 y5, .int .i64 y8] 31)).heap[w1_.heap.size]? = some (.cells #[.int .i64 0, .int .i64 0, .int .i64 0, .int .i64 0, .int .i64 0, .int .i64 0, .int .i64 0, .int .i64 0, .int .i64 0] 31 (0, 0)) := by rw [hn_pastN _ _ _ (by first | omega | (simp; done) | (simp; omega)), hn_atN _ _ _ (by simp)]
  have HB_0 : Below w.heap.size w ((w1_.alloc (.cells #[.int .i64 0, .int .i64 0, .int .i64 0, .int .i64 0, .int .i64 0, .int .i64 0, .int .i64 0, .int .i64 0, .int .i64 0] 31)).alloc (.cells #[.int .i64 y0, .int .i64 y3, .int .i64 y6, .int .i64 y1, .int .i64 y4, .int .i64 y7, .int .i64 y2, .int .i64 y5, .int .i64 y8] 31)) := (by repeat (first | exact Below.refl _ _ | refine bset ?_ _ _ (by omega) _ | refine bal ?_ _ | refine bdrN ?_ _ | refine bdr ?_ | refine below_tr' ?_ HB1.out))
  generalize ((w1_.alloc (.cells #[.int .i64 0, .int .i64 0, .int .i64 0, .int .i64 0, .int .i64 0, .int .i64 0, .int .i64 0, .int .i64 0, .int .i64 0] 31)).alloc (.cells #[.int .i64 y0, .int .i64 y3, .int .i64 y6, .int .i64 y1, .int .i64 y4, .int .i64 y7, .int .i64 y2, .int .i64 y5, .int .i64 y8] 31)) = V_0 at *
  clear HB1 hcb1 hfb1 hlb1
  generalize w1_.heap.size = n1 at *
  clear w1_
  refine wp_loop_rounds 4 ?_
  rw [rounds_succ]; go_wp2
  refine wp_loop_rounds 4 ?_
  rw [rounds_succ]; go_wp2
  have lx := (Array.getElem?_eq_some_iff.1 kx_0).1
  have lr := (Array.getElem?_eq_some_iff.1 kr_0).1
  have lt := (Array.getElem?_eq_some_iff.1 kt_0).1
  have lo := (Array.getElem?_eq_some_iff.1 ko_0).1
  refine region_via 12 [(20, .int .i64 0), (21, .int .i64 0), (22, .int .i64 p), (23, .int .i64 0), (24, .pointer (some ⟨w.heap.size, 0, none⟩)), (25, ptV x0 x1 x2), (26, .int .i64 0), (27, .pointer (some ⟨n1 + 1, 0, none⟩)), (28, ptV y0 y3 y6), (29, .int .i64 d0), (30, .pointer (some ⟨n1, 0, none⟩)), (31, .pointer (some ⟨n1, 0, none⟩))] (by kernel_rfl) (by decide) (by kernel_rfl) (by kernel_rfl) (by kernel_rfl) (fun aE hpe => ?_)
  simp only [puts, Act.put, List.setIfInBounds_toArray, List.set_cons_zero, List.set_cons_succ] at hpe
  subst hpe
  refine ⟨⟨.inr (.inr ?_), .inr (.inr ?_), .inr (.inr ?_), .inr (.inr ?_), .inr (.inr ?_), .inr (.inr ?_), .inr (.inr ?_), .inr (.inr ?_), .inr (.inr ?_), .inr (.inr ?_), .inr (.inr ?_), .inr (.inr ?_), trivial⟩, ?_⟩
  · exact CalmG.mk 20 (.int .i64 0) rfl rfl rfl (fun W hW => calm_move (.tmp 9) rfl rfl)
  · exact CalmG.mk 21 (.int .i64 0) rfl rfl rfl (fun W hW => calm_move (.tmp 10) rfl rfl)
  · exact CalmG.mk 22 (.int .i64 p) rfl rfl rfl (fun W hW => calm_move (.tmp 0) rfl rfl)
  · exact CalmG.mk 23 (.int .i64 0) rfl rfl rfl (fun W hW => calm_move (.tmp 9) rfl rfl)
  · exact CalmG.mk 24 (.pointer (some ⟨w.heap.size, 0, none⟩)) rfl rfl rfl (fun W hW => calm_run (by simp [execOp, Act.eval, go_sem]))
  · exact CalmG.mk 25 (ptV x0 x1 x2) rfl rfl rfl (fun W hW => calm_loadPt' 29 (.tmp 24) rfl rfl (row_int ((hW.block _ lx).trans kx_0) rfl) (row_int ((hW.block _ lx).trans kx_0) rfl) (row_int ((hW.block _ lx).trans kx_0) rfl) Tryz.sizeOf29 Tryz.isAgg29)
  · exact CalmG.mk 26 (.int .i64 0) rfl rfl rfl (fun W hW => calm_move (.tmp 10) rfl rfl)
  · exact CalmG.mk 27 (.pointer (some ⟨n1 + 1, 0, none⟩)) rfl rfl rfl (fun W hW => calm_run (by simp [execOp, Act.eval, go_sem]))
  · exact CalmG.mk 28 (ptV y0 y3 y6) rfl rfl rfl (fun W hW => calm_loadPt' 29 (.tmp 27) rfl rfl (row_int ((hW.block _ lt).trans kt_0) rfl) (row_int ((hW.block _ lt).trans kt_0) rfl) (row_int ((hW.block _ lt).trans kt_0) rfl) Tryz.sizeOf29 Tryz.isAgg29)
  · exact CalmG.mk 29 (.int .i64 d0) rfl rfl rfl (fun W hW => calm_call 87 _ #[.int .i64 p, ptV x0 x1 x2, ptV y0 y3 y6] rfl rfl rfl (by simp [Act.eval]) (Tryz.call87 _ _) (HD0.out W))
  · exact CalmG.mk 30 (.pointer (some ⟨n1, 0, none⟩)) rfl rfl rfl (fun W hW => calm_run (by simp [execOp, Act.eval, go_sem]))
  · exact CalmG.mk 31 (.pointer (some ⟨n1, 0, none⟩)) rfl rfl rfl (fun W hW => calm_run (by simp [execOp, Act.eval, go_sem]))
  intro W hW
  simp only [List.drop_succ_cons, List.drop_zero]
  refine wpList_store1 _ rfl 2 (.tmp 31) (.tmp 29) rfl rfl (g := n1) (off := 0) (T := 31) (cs := #[.int .i64 0, .int .i64 0, .int .i64 0, .int .i64 0, .int .i64 0, .int .i64 0, .int .i64 0, .int .i64 0, .int .i64 0]) (cs' := #[.int .i64 d0, .int .i64 0, .int .i64 0, .int .i64 0, .int .i64 0, .int .i64 0, .int .i64 0, .int .i64 0, .int .i64 0]) (z := d0) rfl rfl ((hW.block _ lo).trans ko_0) (Nat.le_of_ble_eq_true rfl) rfl Tryz.sizeOf2 ?_
  refine wpList_nil ?_
  have kx_1 := (setRow_other W (n1) (w.heap.size) #[.int .i64 d0, .int .i64 0, .int .i64 0, .int .i64 0, .int .i64 0, .int .i64 0, .int .i64 0, .int .i64 0, .int .i64 0] (by omega)).trans ((hW.block _ lx).trans kx_0)
  have kr_1 := (setRow_other W (n1) (w.heap.size + 1 + 1) #[.int .i64 d0, .int .i64 0, .int .i64 0, .int .i64 0, .int .i64 0, .int .i64 0, .int .i64 0, .int .i64 0, .int .i64 0] (by omega)).trans ((hW.block _ lr).trans kr_0)
  have kt_1 := (setRow_other W (n1) (n1 + 1) #[.int .i64 d0, .int .i64 0, .int .i64 0, .int .i64 0, .int .i64 0, .int .i64 0, .int .i64 0, .int .i64 0, .int .i64 0] (by omega)).trans ((hW.block _ lt).trans kt_0)
  have ko_1 := setRow_heap W (n1) _ #[.int .i64 d0, .int .i64 0, .int .i64 0, .int .i64 0, .int .i64 0, .int .i64 0, .int .i64 0, .int .i64 0, .int .i64 0] _ _ ((hW.block _ lo).trans ko_0)
  have HB_1 : Below w.heap.size w (W.setRow (n1) #[.int .i64 d0, .int .i64 0, .int .i64 0, .int .i64 0, .int .i64 0, .int .i64 0, .int .i64 0, .int .i64 0, .int .i64 0]) := below_setRowN (low_tr' HB_0 hW (by omega)) (by omega) _
  clear kx_0 kr_0 kt_0 ko_0 HB_0 lx lr lt lo hW
  generalize W.setRow (n1) #[.int .i64 d0, .int .i64 0, .int .i64 0, .int .i64 0, .int .i64 0, .int .i64 0, .int .i64 0, .int .i64 0, .int .i64 0] = V_1 at *
  clear V_0
  go_wp2
  rw [rounds_succ]; go_wp2
  have lx := (Array.getElem?_eq_some_iff.1 kx_1).1
  have lr := (Array.getElem?_eq_some_iff.1 kr_1).1
  have lt := (Array.getElem?_eq_some_iff.1 kt_1).1
  have lo := (Array.getElem?_eq_some_iff.1 ko_1).1
  refine region_via 12 [(20, .int .i64 0), (21, .int .i64 1), (22, .int .i64 p), (23, .int .i64 0), (24, .pointer (some ⟨w.heap.size, 0, none⟩)), (25, ptV x0 x1 x2), (26, .int .i64 1), (27, .pointer (some ⟨n1 + 1, 3, none⟩)), (28, ptV y1 y4 y7), (29, .int .i64 d1), (30, .pointer (some ⟨n1, 0, none⟩)), (31, .pointer (some ⟨n1, 1, none⟩))] (by kernel_rfl) (by decide) (by kernel_rfl) (by kernel_rfl) (by kernel_rfl) (fun aE hpe => ?_)
  simp only [puts, Act.put, List.setIfInBounds_toArray, List.set_cons_zero, List.set_cons_succ] at hpe
  subst hpe
  refine ⟨⟨.inr (.inr ?_), .inr (.inr ?_), .inr (.inr ?_), .inr (.inr ?_), .inr (.inr ?_), .inr (.inr ?_), .inr (.inr ?_), .inr (.inr ?_), .inr (.inr ?_), .inr (.inr ?_), .inr (.inr ?_), .inr (.inr ?_), trivial⟩, ?_⟩
  · exact CalmG.mk 20 (.int .i64 0) rfl rfl rfl (fun W hW => calm_move (.tmp 9) rfl rfl)
  · exact CalmG.mk 21 (.int .i64 1) rfl rfl rfl (fun W hW => calm_move (.tmp 10) rfl rfl)
  · exact CalmG.mk 22 (.int .i64 p) rfl rfl rfl (fun W hW => calm_move (.tmp 0) rfl rfl)
  · exact CalmG.mk 23 (.int .i64 0) rfl rfl rfl (fun W hW => calm_move (.tmp 9) rfl rfl)
  · exact CalmG.mk 24 (.pointer (some ⟨w.heap.size, 0, none⟩)) rfl rfl rfl (fun W hW => calm_run (by simp [execOp, Act.eval, go_sem]))
  · exact CalmG.mk 25 (ptV x0 x1 x2) rfl rfl rfl (fun W hW => calm_loadPt' 29 (.tmp 24) rfl rfl (row_int ((hW.block _ lx).trans kx_1) rfl) (row_int ((hW.block _ lx).trans kx_1) rfl) (row_int ((hW.block _ lx).trans kx_1) rfl) Tryz.sizeOf29 Tryz.isAgg29)
  · exact CalmG.mk 26 (.int .i64 1) rfl rfl rfl (fun W hW => calm_move (.tmp 10) rfl rfl)
  · exact CalmG.mk 27 (.pointer (some ⟨n1 + 1, 3, none⟩)) rfl rfl rfl (fun W hW => calm_run (by simp [execOp, Act.eval, go_sem]))
  · exact CalmG.mk 28 (ptV y1 y4 y7) rfl rfl rfl (fun W hW => calm_loadPt' 29 (.tmp 27) rfl rfl (row_int ((hW.block _ lt).trans kt_1) rfl) (row_int ((hW.block _ lt).trans kt_1) rfl) (row_int ((hW.block _ lt).trans kt_1) rfl) Tryz.sizeOf29 Tryz.isAgg29)
  · exact CalmG.mk 29 (.int .i64 d1) rfl rfl rfl (fun W hW => calm_call 87 _ #[.int .i64 p, ptV x0 x1 x2, ptV y1 y4 y7] rfl rfl rfl (by simp [Act.eval]) (Tryz.call87 _ _) (HD1.out W))
  · exact CalmG.mk 30 (.pointer (some ⟨n1, 0, none⟩)) rfl rfl rfl (fun W hW => calm_run (by simp [execOp, Act.eval, go_sem]))
  · exact CalmG.mk 31 (.pointer (some ⟨n1, 1, none⟩)) rfl rfl rfl (fun W hW => calm_run (by simp [execOp, Act.eval, go_sem]))
  intro W hW
  simp only [List.drop_succ_cons, List.drop_zero]
  refine wpList_store1 _ rfl 2 (.tmp 31) (.tmp 29) rfl rfl (g := n1) (off := 1) (T := 31) (cs := #[.int .i64 d0, .int .i64 0, .int .i64 0, .int .i64 0, .int .i64 0, .int .i64 0, .int .i64 0, .int .i64 0, .int .i64 0]) (cs' := #[.int .i64 d0, .int .i64 d1, .int .i64 0, .int .i64 0, .int .i64 0, .int .i64 0, .int .i64 0, .int .i64 0, .int .i64 0]) (z := d1) rfl rfl ((hW.block _ lo).trans ko_1) (Nat.le_of_ble_eq_true rfl) rfl Tryz.sizeOf2 ?_
  refine wpList_nil ?_
  have kx_2 := (setRow_other W (n1) (w.heap.size) #[.int .i64 d0, .int .i64 d1, .int .i64 0, .int .i64 0, .int .i64 0, .int .i64 0, .int .i64 0, .int .i64 0, .int .i64 0] (by omega)).trans ((hW.block _ lx).trans kx_1)
  have kr_2 := (setRow_other W (n1) (w.heap.size + 1 + 1) #[.int .i64 d0, .int .i64 d1, .int .i64 0, .int .i64 0, .int .i64 0, .int .i64 0, .int .i64 0, .int .i64 0, .int .i64 0] (by omega)).trans ((hW.block _ lr).trans kr_1)
  have kt_2 := (setRow_other W (n1) (n1 + 1) #[.int .i64 d0, .int .i64 d1, .int .i64 0, .int .i64 0, .int .i64 0, .int .i64 0, .int .i64 0, .int .i64 0, .int .i64 0] (by omega)).trans ((hW.block _ lt).trans kt_1)
  have ko_2 := setRow_heap W (n1) _ #[.int .i64 d0, .int .i64 d1, .int .i64 0, .int .i64 0, .int .i64 0, .int .i64 0, .int .i64 0, .int .i64 0, .int .i64 0] _ _ ((hW.block _ lo).trans ko_1)
  have HB_2 : Below w.heap.size w (W.setRow (n1) #[.int .i64 d0, .int .i64 d1, .int .i64 0, .int .i64 0, .int .i64 0, .int .i64 0, .int .i64 0, .int .i64 0, .int .i64 0]) := below_setRowN (low_tr' HB_1 hW (by omega)) (by omega) _
  clear kx_1 kr_1 kt_1 ko_1 HB_1 lx lr lt lo hW
  generalize W.setRow (n1) #[.int .i64 d0, .int .i64 d1, .int .i64 0, .int .i64 0, .int .i64 0, .int .i64 0, .int .i64 0, .int .i64 0, .int .i64 0] = V_2 at *
  clear V_1
  go_wp2
  rw [rounds_succ]; go_wp2
  have lx := (Array.getElem?_eq_some_iff.1 kx_2).1
  have lr := (Array.getElem?_eq_some_iff.1 kr_2).1
  have lt := (Array.getElem?_eq_some_iff.1 kt_2).1
  have lo := (Array.getElem?_eq_some_iff.1 ko_2).1
  refine region_via 12 [(20, .int .i64 0), (21, .int .i64 2), (22, .int .i64 p), (23, .int .i64 0), (24, .pointer (some ⟨w.heap.size, 0, none⟩)), (25, ptV x0 x1 x2), (26, .int .i64 2), (27, .pointer (some ⟨n1 + 1, 6, none⟩)), (28, ptV y2 y5 y8), (29, .int .i64 d2), (30, .pointer (some ⟨n1, 0, none⟩)), (31, .pointer (some ⟨n1, 2, none⟩))] (by kernel_rfl) (by decide) (by kernel_rfl) (by kernel_rfl) (by kernel_rfl) (fun aE hpe => ?_)
  simp only [puts, Act.put, List.setIfInBounds_toArray, List.set_cons_zero, List.set_cons_succ] at hpe
  subst hpe
  refine ⟨⟨.inr (.inr ?_), .inr (.inr ?_), .inr (.inr ?_), .inr (.inr ?_), .inr (.inr ?_), .inr (.inr ?_), .inr (.inr ?_), .inr (.inr ?_), .inr (.inr ?_), .inr (.inr ?_), .inr (.inr ?_), .inr (.inr ?_), trivial⟩, ?_⟩
  · exact CalmG.mk 20 (.int .i64 0) rfl rfl rfl (fun W hW => calm_move (.tmp 9) rfl rfl)
  · exact CalmG.mk 21 (.int .i64 2) rfl rfl rfl (fun W hW => calm_move (.tmp 10) rfl rfl)
  · exact CalmG.mk 22 (.int .i64 p) rfl rfl rfl (fun W hW => calm_move (.tmp 0) rfl rfl)
  · exact CalmG.mk 23 (.int .i64 0) rfl rfl rfl (fun W hW => calm_move (.tmp 9) rfl rfl)
  · exact CalmG.mk 24 (.pointer (some ⟨w.heap.size, 0, none⟩)) rfl rfl rfl (fun W hW => calm_run (by simp [execOp, Act.eval, go_sem]))
  · exact CalmG.mk 25 (ptV x0 x1 x2) rfl rfl rfl (fun W hW => calm_loadPt' 29 (.tmp 24) rfl rfl (row_int ((hW.block _ lx).trans kx_2) rfl) (row_int ((hW.block _ lx).trans kx_2) rfl) (row_int ((hW.block _ lx).trans kx_2) rfl) Tryz.sizeOf29 Tryz.isAgg29)
  · exact CalmG.mk 26 (.int .i64 2) rfl rfl rfl (fun W hW => calm_move (.tmp 10) rfl rfl)
  · exact CalmG.mk 27 (.pointer (some ⟨n1 + 1, 6, none⟩)) rfl rfl rfl (fun W hW => calm_run (by simp [execOp, Act.eval, go_sem]))
  · exact CalmG.mk 28 (ptV y2 y5 y8) rfl rfl rfl (fun W hW => calm_loadPt' 29 (.tmp 27) rfl rfl (row_int ((hW.block _ lt).trans kt_2) rfl) (row_int ((hW.block _ lt).trans kt_2) rfl) (row_int ((hW.block _ lt).trans kt_2) rfl) Tryz.sizeOf29 Tryz.isAgg29)
  · exact CalmG.mk 29 (.int .i64 d2) rfl rfl rfl (fun W hW => calm_call 87 _ #[.int .i64 p, ptV x0 x1 x2, ptV y2 y5 y8] rfl rfl rfl (by simp [Act.eval]) (Tryz.call87 _ _) (HD2.out W))
  · exact CalmG.mk 30 (.pointer (some ⟨n1, 0, none⟩)) rfl rfl rfl (fun W hW => calm_run (by simp [execOp, Act.eval, go_sem]))
  · exact CalmG.mk 31 (.pointer (some ⟨n1, 2, none⟩)) rfl rfl rfl (fun W hW => calm_run (by simp [execOp, Act.eval, go_sem]))
  intro W hW
  simp only [List.drop_succ_cons, List.drop_zero]
  refine wpList_store1 _ rfl 2 (.tmp 31) (.tmp 29) rfl rfl (g := n1) (off := 2) (T := 31) (cs := #[.int .i64 d0, .int .i64 d1, .int .i64 0, .int .i64 0, .int .i64 0, .int .i64 0, .int .i64 0, .int .i64 0, .int .i64 0]) (cs' := #[.int .i64 d0, .int .i64 d1, .int .i64 d2, .int .i64 0, .int .i64 0, .int .i64 0, .int .i64 0, .int .i64 0, .int .i64 0]) (z := d2) rfl rfl ((hW.block _ lo).trans ko_2) (Nat.le_of_ble_eq_true rfl) rfl Tryz.sizeOf2 ?_
  refine wpList_nil ?_
  have kx_3 := (setRow_other W (n1) (w.heap.size) #[.int .i64 d0, .int .i64 d1, .int .i64 d2, .int .i64 0, .int .i64 0, .int .i64 0, .int .i64 0, .int .i64 0, .int .i64 0] (by omega)).trans ((hW.block _ lx).trans kx_2)
  have kr_3 := (setRow_other W (n1) (w.heap.size + 1 + 1) #[.int .i64 d0, .int .i64 d1, .int .i64 d2, .int .i64 0, .int .i64 0, .int .i64 0, .int .i64 0, .int .i64 0, .int .i64 0] (by omega)).trans ((hW.block _ lr).trans kr_2)
  have kt_3 := (setRow_other W (n1) (n1 + 1) #[.int .i64 d0, .int .i64 d1, .int .i64 d2, .int .i64 0, .int .i64 0, .int .i64 0, .int .i64 0, .int .i64 0, .int .i64 0] (by omega)).trans ((hW.block _ lt).trans kt_2)
  have ko_3 := setRow_heap W (n1) _ #[.int .i64 d0, .int .i64 d1, .int .i64 d2, .int .i64 0, .int .i64 0, .int .i64 0, .int .i64 0, .int .i64 0, .int .i64 0] _ _ ((hW.block _ lo).trans ko_2)
  have HB_3 : Below w.heap.size w (W.setRow (n1) #[.int .i64 d0, .int .i64 d1, .int .i64 d2, .int .i64 0, .int .i64 0, .int .i64 0, .int .i64 0, .int .i64 0, .int .i64 0]) := below_setRowN (low_tr' HB_2 hW (by omega)) (by omega) _
  clear kx_2 kr_2 kt_2 ko_2 HB_2 lx lr lt lo hW
  generalize W.setRow (n1) #[.int .i64 d0, .int .i64 d1, .int .i64 d2, .int .i64 0, .int .i64 0, .int .i64 0, .int .i64 0, .int .i64 0, .int .i64 0] = V_3 at *
  clear V_2
  go_wp2
  rw [rounds_succ]; go_wp2
  rw [rounds_succ]; go_wp2
  refine wp_loop_rounds 4 ?_
  rw [rounds_succ]; go_wp2
  have lx := (Array.getElem?_eq_some_iff.1 kx_3).1
  have lr := (Array.getElem?_eq_some_iff.1 kr_3).1
  have lt := (Array.getElem?_eq_some_iff.1 kt_3).1
  have lo := (Array.getElem?_eq_some_iff.1 ko_3).1
  refine region_via 12 [(20, .int .i64 1), (21, .int .i64 0), (22, .int .i64 p), (23, .int .i64 1), (24, .pointer (some ⟨w.heap.size, 3, none⟩)), (25, ptV x3 x4 x5), (26, .int .i64 0), (27, .pointer (some ⟨n1 + 1, 0, none⟩)), (28, ptV y0 y3 y6), (29, .int .i64 d3), (30, .pointer (some ⟨n1, 3, none⟩)), (31, .pointer (some ⟨n1, 3, none⟩))] (by kernel_rfl) (by decide) (by kernel_rfl) (by kernel_rfl) (by kernel_rfl) (fun aE hpe => ?_)
  simp only [puts, Act.put, List.setIfInBounds_toArray, List.set_cons_zero, List.set_cons_succ] at hpe
  subst hpe
  refine ⟨⟨.inr (.inr ?_), .inr (.inr ?_), .inr (.inr ?_), .inr (.inr ?_), .inr (.inr ?_), .inr (.inr ?_), .inr (.inr ?_), .inr (.inr ?_), .inr (.inr ?_), .inr (.inr ?_), .inr (.inr ?_), .inr (.inr ?_), trivial⟩, ?_⟩
  · exact CalmG.mk 20 (.int .i64 1) rfl rfl rfl (fun W hW => calm_move (.tmp 9) rfl rfl)
  · exact CalmG.mk 21 (.int .i64 0) rfl rfl rfl (fun W hW => calm_move (.tmp 10) rfl rfl)
  · exact CalmG.mk 22 (.int .i64 p) rfl rfl rfl (fun W hW => calm_move (.tmp 0) rfl rfl)
  · exact CalmG.mk 23 (.int .i64 1) rfl rfl rfl (fun W hW => calm_move (.tmp 9) rfl rfl)
  · exact CalmG.mk 24 (.pointer (some ⟨w.heap.size, 3, none⟩)) rfl rfl rfl (fun W hW => calm_run (by simp [execOp, Act.eval, go_sem]))
  · exact CalmG.mk 25 (ptV x3 x4 x5) rfl rfl rfl (fun W hW => calm_loadPt' 29 (.tmp 24) rfl rfl (row_int ((hW.block _ lx).trans kx_3) rfl) (row_int ((hW.block _ lx).trans kx_3) rfl) (row_int ((hW.block _ lx).trans kx_3) rfl) Tryz.sizeOf29 Tryz.isAgg29)
  · exact CalmG.mk 26 (.int .i64 0) rfl rfl rfl (fun W hW => calm_move (.tmp 10) rfl rfl)
  · exact CalmG.mk 27 (.pointer (some ⟨n1 + 1, 0, none⟩)) rfl rfl rfl (fun W hW => calm_run (by simp [execOp, Act.eval, go_sem]))
  · exact CalmG.mk 28 (ptV y0 y3 y6) rfl rfl rfl (fun W hW => calm_loadPt' 29 (.tmp 27) rfl rfl (row_int ((hW.block _ lt).trans kt_3) rfl) (row_int ((hW.block _ lt).trans kt_3) rfl) (row_int ((hW.block _ lt).trans kt_3) rfl) Tryz.sizeOf29 Tryz.isAgg29)
  · exact CalmG.mk 29 (.int .i64 d3) rfl rfl rfl (fun W hW => calm_call 87 _ #[.int .i64 p, ptV x3 x4 x5, ptV y0 y3 y6] rfl rfl rfl (by simp [Act.eval]) (Tryz.call87 _ _) (HD3.out W))
  · exact CalmG.mk 30 (.pointer (some ⟨n1, 3, none⟩)) rfl rfl rfl (fun W hW => calm_run (by simp [execOp, Act.eval, go_sem]))
  · exact CalmG.mk 31 (.pointer (some ⟨n1, 3, none⟩)) rfl rfl rfl (fun W hW => calm_run (by simp [execOp, Act.eval, go_sem]))
  intro W hW
  simp only [List.drop_succ_cons, List.drop_zero]
  refine wpList_store1 _ rfl 2 (.tmp 31) (.tmp 29) rfl rfl (g := n1) (off := 3) (T := 31) (cs := #[.int .i64 d0, .int .i64 d1, .int .i64 d2, .int .i64 0, .int .i64 0, .int .i64 0, .int .i64 0, .int .i64 0, .int .i64 0]) (cs' := #[.int .i64 d0, .int .i64 d1, .int .i64 d2, .int .i64 d3, .int .i64 0, .int .i64 0, .int .i64 0, .int .i64 0, .int .i64 0]) (z := d3) rfl rfl ((hW.block _ lo).trans ko_3) (Nat.le_of_ble_eq_true rfl) rfl Tryz.sizeOf2 ?_
  refine wpList_nil ?_
  have kx_4 := (setRow_other W (n1) (w.heap.size) #[.int .i64 d0, .int .i64 d1, .int .i64 d2, .int .i64 d3, .int .i64 0, .int .i64 0, .int .i64 0, .int .i64 0, .int .i64 0] (by omega)).trans ((hW.block _ lx).trans kx_3)
  have kr_4 := (setRow_other W (n1) (w.heap.size + 1 + 1) #[.int .i64 d0, .int .i64 d1, .int .i64 d2, .int .i64 d3, .int .i64 0, .int .i64 0, .int .i64 0, .int .i64 0, .int .i64 0] (by omega)).trans ((hW.block _ lr).trans kr_3)
  have kt_4 := (setRow_other W (n1) (n1 + 1) #[.int .i64 d0, .int .i64 d1, .int .i64 d2, .int .i64 d3, .int .i64 0, .int .i64 0, .int .i64 0, .int .i64 0, .int .i64 0] (by omega)).trans ((hW.block _ lt).trans kt_3)
  have ko_4 := setRow_heap W (n1) _ #[.int .i64 d0, .int .i64 d1, .int .i64 d2, .int .i64 d3, .int .i64 0, .int .i64 0, .int .i64 0, .int .i64 0, .int .i64 0] _ _ ((hW.block _ lo).trans ko_3)
  have HB_4 : Below w.heap.size w (W.setRow (n1) #[.int .i64 d0, .int .i64 d1, .int .i64 d2, .int .i64 d3, .int .i64 0, .int .i64 0, .int .i64 0, .int .i64 0, .int .i64 0]) := below_setRowN (low_tr' HB_3 hW (by omega)) (by omega) _
  clear kx_3 kr_3 kt_3 ko_3 HB_3 lx lr lt lo hW
  generalize W.setRow (n1) #[.int .i64 d0, .int .i64 d1, .int .i64 d2, .int .i64 d3, .int .i64 0, .int .i64 0, .int .i64 0, .int .i64 0, .int .i64 0] = V_4 at *
  clear V_3
  go_wp2
  rw [rounds_succ]; go_wp2
  have lx := (Array.getElem?_eq_some_iff.1 kx_4).1
  have lr := (Array.getElem?_eq_some_iff.1 kr_4).1
  have lt := (Array.getElem?_eq_some_iff.1 kt_4).1
  have lo := (Array.getElem?_eq_some_iff.1 ko_4).1
  refine region_via 12 [(20, .int .i64 1), (21, .int .i64 1), (22, .int .i64 p), (23, .int .i64 1), (24, .pointer (some ⟨w.heap.size, 3, none⟩)), (25, ptV x3 x4 x5), (26, .int .i64 1), (27, .pointer (some ⟨n1 + 1, 3, none⟩)), (28, ptV y1 y4 y7), (29, .int .i64 d4), (30, .pointer (some ⟨n1, 3, none⟩)), (31, .pointer (some ⟨n1, 4, none⟩))] (by kernel_rfl) (by decide) (by kernel_rfl) (by kernel_rfl) (by kernel_rfl) (fun aE hpe => ?_)
  simp only [puts, Act.put, List.setIfInBounds_toArray, List.set_cons_zero, List.set_cons_succ] at hpe
  subst hpe
  refine ⟨⟨.inr (.inr ?_), .inr (.inr ?_), .inr (.inr ?_), .inr (.inr ?_), .inr (.inr ?_), .inr (.inr ?_), .inr (.inr ?_), .inr (.inr ?_), .inr (.inr ?_), .inr (.inr ?_), .inr (.inr ?_), .inr (.inr ?_), trivial⟩, ?_⟩
  · exact CalmG.mk 20 (.int .i64 1) rfl rfl rfl (fun W hW => calm_move (.tmp 9) rfl rfl)
  · exact CalmG.mk 21 (.int .i64 1) rfl rfl rfl (fun W hW => calm_move (.tmp 10) rfl rfl)
  · exact CalmG.mk 22 (.int .i64 p) rfl rfl rfl (fun W hW => calm_move (.tmp 0) rfl rfl)
  · exact CalmG.mk 23 (.int .i64 1) rfl rfl rfl (fun W hW => calm_move (.tmp 9) rfl rfl)
  · exact CalmG.mk 24 (.pointer (some ⟨w.heap.size, 3, none⟩)) rfl rfl rfl (fun W hW => calm_run (by simp [execOp, Act.eval, go_sem]))
  · exact CalmG.mk 25 (ptV x3 x4 x5) rfl rfl rfl (fun W hW => calm_loadPt' 29 (.tmp 24) rfl rfl (row_int ((hW.block _ lx).trans kx_4) rfl) (row_int ((hW.block _ lx).trans kx_4) rfl) (row_int ((hW.block _ lx).trans kx_4) rfl) Tryz.sizeOf29 Tryz.isAgg29)
  · exact CalmG.mk 26 (.int .i64 1) rfl rfl rfl (fun W hW => calm_move (.tmp 10) rfl rfl)
  · exact CalmG.mk 27 (.pointer (some ⟨n1 + 1, 3, none⟩)) rfl rfl rfl (fun W hW => calm_run (by simp [execOp, Act.eval, go_sem]))
  · exact CalmG.mk 28 (ptV y1 y4 y7) rfl rfl rfl (fun W hW => calm_loadPt' 29 (.tmp 27) rfl rfl (row_int ((hW.block _ lt).trans kt_4) rfl) (row_int ((hW.block _ lt).trans kt_4) rfl) (row_int ((hW.block _ lt).trans kt_4) rfl) Tryz.sizeOf29 Tryz.isAgg29)
  · exact CalmG.mk 29 (.int .i64 d4) rfl rfl rfl (fun W hW => calm_call 87 _ #[.int .i64 p, ptV x3 x4 x5, ptV y1 y4 y7] rfl rfl rfl (by simp [Act.eval]) (Tryz.call87 _ _) (HD4.out W))
  · exact CalmG.mk 30 (.pointer (some ⟨n1, 3, none⟩)) rfl rfl rfl (fun W hW => calm_run (by simp [execOp, Act.eval, go_sem]))
  · exact CalmG.mk 31 (.pointer (some ⟨n1, 4, none⟩)) rfl rfl rfl (fun W hW => calm_run (by simp [execOp, Act.eval, go_sem]))
  intro W hW
  simp only [List.drop_succ_cons, List.drop_zero]
  refine wpList_store1 _ rfl 2 (.tmp 31) (.tmp 29) rfl rfl (g := n1) (off := 4) (T := 31) (cs := #[.int .i64 d0, .int .i64 d1, .int .i64 d2, .int .i64 d3, .int .i64 0, .int .i64 0, .int .i64 0, .int .i64 0, .int .i64 0]) (cs' := #[.int .i64 d0, .int .i64 d1, .int .i64 d2, .int .i64 d3, .int .i64 d4, .int .i64 0, .int .i64 0, .int .i64 0, .int .i64 0]) (z := d4) rfl rfl ((hW.block _ lo).trans ko_4) (Nat.le_of_ble_eq_true rfl) rfl Tryz.sizeOf2 ?_
  refine wpList_nil ?_
  have kx_5 := (setRow_other W (n1) (w.heap.size) #[.int .i64 d0, .int .i64 d1, .int .i64 d2, .int .i64 d3, .int .i64 d4, .int .i64 0, .int .i64 0, .int .i64 0, .int .i64 0] (by omega)).trans ((hW.block _ lx).trans kx_4)
  have kr_5 := (setRow_other W (n1) (w.heap.size + 1 + 1) #[.int .i64 d0, .int .i64 d1, .int .i64 d2, .int .i64 d3, .int .i64 d4, .int .i64 0, .int .i64 0, .int .i64 0, .int .i64 0] (by omega)).trans ((hW.block _ lr).trans kr_4)
  have kt_5 := (setRow_other W (n1) (n1 + 1) #[.int .i64 d0, .int .i64 d1, .int .i64 d2, .int .i64 d3, .int .i64 d4, .int .i64 0, .int .i64 0, .int .i64 0, .int .i64 0] (by omega)).trans ((hW.block _ lt).trans kt_4)
  have ko_5 := setRow_heap W (n1) _ #[.int .i64 d0, .int .i64 d1, .int .i64 d2, .int .i64 d3, .int .i64 d4, .int .i64 0, .int .i64 0, .int .i64 0, .int .i64 0] _ _ ((hW.block _ lo).trans ko_4)
  have HB_5 : Below w.heap.size w (W.setRow (n1) #[.int .i64 d0, .int .i64 d1, .int .i64 d2, .int .i64 d3, .int .i64 d4, .int .i64 0, .int .i64 0, .int .i64 0, .int .i64 0]) := below_setRowN (low_tr' HB_4 hW (by omega)) (by omega) _
  clear kx_4 kr_4 kt_4 ko_4 HB_4 lx lr lt lo hW
  generalize W.setRow (n1) #[.int .i64 d0, .int .i64 d1, .int .i64 d2, .int .i64 d3, .int .i64 d4, .int .i64 0, .int .i64 0, .int .i64 0, .int .i64 0] = V_5 at *
  clear V_4
  go_wp2
  rw [rounds_succ]; go_wp2
  have lx := (Array.getElem?_eq_some_iff.1 kx_5).1
  have lr := (Array.getElem?_eq_some_iff.1 kr_5).1
  have lt := (Array.getElem?_eq_some_iff.1 kt_5).1
  have lo := (Array.getElem?_eq_some_iff.1 ko_5).1
  refine region_via 12 [(20, .int .i64 1), (21, .int .i64 2), (22, .int .i64 p), (23, .int .i64 1), (24, .pointer (some ⟨w.heap.size, 3, none⟩)), (25, ptV x3 x4 x5), (26, .int .i64 2), (27, .pointer (some ⟨n1 + 1, 6, none⟩)), (28, ptV y2 y5 y8), (29, .int .i64 d5), (30, .pointer (some ⟨n1, 3, none⟩)), (31, .pointer (some ⟨n1, 5, none⟩))] (by kernel_rfl) (by decide) (by kernel_rfl) (by kernel_rfl) (by kernel_rfl) (fun aE hpe => ?_)
  simp only [puts, Act.put, List.setIfInBounds_toArray, List.set_cons_zero, List.set_cons_succ] at hpe
  subst hpe
  refine ⟨⟨.inr (.inr ?_), .inr (.inr ?_), .inr (.inr ?_), .inr (.inr ?_), .inr (.inr ?_), .inr (.inr ?_), .inr (.inr ?_), .inr (.inr ?_), .inr (.inr ?_), .inr (.inr ?_), .inr (.inr ?_), .inr (.inr ?_), trivial⟩, ?_⟩
  · exact CalmG.mk 20 (.int .i64 1) rfl rfl rfl (fun W hW => calm_move (.tmp 9) rfl rfl)
  · exact CalmG.mk 21 (.int .i64 2) rfl rfl rfl (fun W hW => calm_move (.tmp 10) rfl rfl)
  · exact CalmG.mk 22 (.int .i64 p) rfl rfl rfl (fun W hW => calm_move (.tmp 0) rfl rfl)
  · exact CalmG.mk 23 (.int .i64 1) rfl rfl rfl (fun W hW => calm_move (.tmp 9) rfl rfl)
  · exact CalmG.mk 24 (.pointer (some ⟨w.heap.size, 3, none⟩)) rfl rfl rfl (fun W hW => calm_run (by simp [execOp, Act.eval, go_sem]))
  · exact CalmG.mk 25 (ptV x3 x4 x5) rfl rfl rfl (fun W hW => calm_loadPt' 29 (.tmp 24) rfl rfl (row_int ((hW.block _ lx).trans kx_5) rfl) (row_int ((hW.block _ lx).trans kx_5) rfl) (row_int ((hW.block _ lx).trans kx_5) rfl) Tryz.sizeOf29 Tryz.isAgg29)
  · exact CalmG.mk 26 (.int .i64 2) rfl rfl rfl (fun W hW => calm_move (.tmp 10) rfl rfl)
  · exact CalmG.mk 27 (.pointer (some ⟨n1 + 1, 6, none⟩)) rfl rfl rfl (fun W hW => calm_run (by simp [execOp, Act.eval, go_sem]))
  · exact CalmG.mk 28 (ptV y2 y5 y8) rfl rfl rfl (fun W hW => calm_loadPt' 29 (.tmp 27) rfl rfl (row_int ((hW.block _ lt).trans kt_5) rfl) (row_int ((hW.block _ lt).trans kt_5) rfl) (row_int ((hW.block _ lt).trans kt_5) rfl) Tryz.sizeOf29 Tryz.isAgg29)
  · exact CalmG.mk 29 (.int .i64 d5) rfl rfl rfl (fun W hW => calm_call 87 _ #[.int .i64 p, ptV x3 x4 x5, ptV y2 y5 y8] rfl rfl rfl (by simp [Act.eval]) (Tryz.call87 _ _) (HD5.out W))
  · exact CalmG.mk 30 (.pointer (some ⟨n1, 3, none⟩)) rfl rfl rfl (fun W hW => calm_run (by simp [execOp, Act.eval, go_sem]))
  · exact CalmG.mk 31 (.pointer (some ⟨n1, 5, none⟩)) rfl rfl rfl (fun W hW => calm_run (by simp [execOp, Act.eval, go_sem]))
  intro W hW
  simp only [List.drop_succ_cons, List.drop_zero]
  refine wpList_store1 _ rfl 2 (.tmp 31) (.tmp 29) rfl rfl (g := n1) (off := 5) (T := 31) (cs := #[.int .i64 d0, .int .i64 d1, .int .i64 d2, .int .i64 d3, .int .i64 d4, .int .i64 0, .int .i64 0, .int .i64 0, .int .i64 0]) (cs' := #[.int .i64 d0, .int .i64 d1, .int .i64 d2, .int .i64 d3, .int .i64 d4, .int .i64 d5, .int .i64 0, .int .i64 0, .int .i64 0]) (z := d5) rfl rfl ((hW.block _ lo).trans ko_5) (Nat.le_of_ble_eq_true rfl) rfl Tryz.sizeOf2 ?_
  refine wpList_nil ?_
  have kx_6 := (setRow_other W (n1) (w.heap.size) #[.int .i64 d0, .int .i64 d1, .int .i64 d2, .int .i64 d3, .int .i64 d4, .int .i64 d5, .int .i64 0, .int .i64 0, .int .i64 0] (by omega)).trans ((hW.block _ lx).trans kx_5)
  have kr_6 := (setRow_other W (n1) (w.heap.size + 1 + 1) #[.int .i64 d0, .int .i64 d1, .int .i64 d2, .int .i64 d3, .int .i64 d4, .int .i64 d5, .int .i64 0, .int .i64 0, .int .i64 0] (by omega)).trans ((hW.block _ lr).trans kr_5)
  have kt_6 := (setRow_other W (n1) (n1 + 1) #[.int .i64 d0, .int .i64 d1, .int .i64 d2, .int .i64 d3, .int .i64 d4, .int .i64 d5, .int .i64 0, .int .i64 0, .int .i64 0] (by omega)).trans ((hW.block _ lt).trans kt_5)
  have ko_6 := setRow_heap W (n1) _ #[.int .i64 d0, .int .i64 d1, .int .i64 d2, .int .i64 d3, .int .i64 d4, .int .i64 d5, .int .i64 0, .int .i64 0, .int .i64 0] _ _ ((hW.block _ lo).trans ko_5)
  have HB_6 : Below w.heap.size w (W.setRow (n1) #[.int .i64 d0, .int .i64 d1, .int .i64 d2, .int .i64 d3, .int .i64 d4, .int .i64 d5, .int .i64 0, .int .i64 0, .int .i64 0]) := below_setRowN (low_tr' HB_5 hW (by omega)) (by omega) _
  clear kx_5 kr_5 kt_5 ko_5 HB_5 lx lr lt lo hW
  generalize W.setRow (n1) #[.int .i64 d0, .int .i64 d1, .int .i64 d2, .int .i64 d3, .int .i64 d4, .int .i64 d5, .int .i64 0, .int .i64 0, .int .i64 0] = V_6 at *
  clear V_5
  go_wp2
  rw [rounds_succ]; go_wp2
  rw [rounds_succ]; go_wp2
  refine wp_loop_rounds 4 ?_
  rw [rounds_succ]; go_wp2
  have lx := (Array.getElem?_eq_some_iff.1 kx_6).1
  have lr := (Array.getElem?_eq_some_iff.1 kr_6).1
  have lt := (Array.getElem?_eq_some_iff.1 kt_6).1
  have lo := (Array.getElem?_eq_some_iff.1 ko_6).1
  refine region_via 12 [(20, .int .i64 2), (21, .int .i64 0), (22, .int .i64 p), (23, .int .i64 2), (24, .pointer (some ⟨w.heap.size, 6, none⟩)), (25, ptV x6 x7 x8), (26, .int .i64 0), (27, .pointer (some ⟨n1 + 1, 0, none⟩)), (28, ptV y0 y3 y6), (29, .int .i64 d6), (30, .pointer (some ⟨n1, 6, none⟩)), (31, .pointer (some ⟨n1, 6, none⟩))] (by kernel_rfl) (by decide) (by kernel_rfl) (by kernel_rfl) (by kernel_rfl) (fun aE hpe => ?_)
  simp only [puts, Act.put, List.setIfInBounds_toArray, List.set_cons_zero, List.set_cons_succ] at hpe
  subst hpe
  refine ⟨⟨.inr (.inr ?_), .inr (.inr ?_), .inr (.inr ?_), .inr (.inr ?_), .inr (.inr ?_), .inr (.inr ?_), .inr (.inr ?_), .inr (.inr ?_), .inr (.inr ?_), .inr (.inr ?_), .inr (.inr ?_), .inr (.inr ?_), trivial⟩, ?_⟩
  · exact CalmG.mk 20 (.int .i64 2) rfl rfl rfl (fun W hW => calm_move (.tmp 9) rfl rfl)
  · exact CalmG.mk 21 (.int .i64 0) rfl rfl rfl (fun W hW => calm_move (.tmp 10) rfl rfl)
  · exact CalmG.mk 22 (.int .i64 p) rfl rfl rfl (fun W hW => calm_move (.tmp 0) rfl rfl)
  · exact CalmG.mk 23 (.int .i64 2) rfl rfl rfl (fun W hW => calm_move (.tmp 9) rfl rfl)
  · exact CalmG.mk 24 (.pointer (some ⟨w.heap.size, 6, none⟩)) rfl rfl rfl (fun W hW => calm_run (by simp [execOp, Act.eval, go_sem]))
  · exact CalmG.mk 25 (ptV x6 x7 x8) rfl rfl rfl (fun W hW => calm_loadPt' 29 (.tmp 24) rfl rfl (row_int ((hW.block _ lx).trans kx_6) rfl) (row_int ((hW.block _ lx).trans kx_6) rfl) (row_int ((hW.block _ lx).trans kx_6) rfl) Tryz.sizeOf29 Tryz.isAgg29)
  · exact CalmG.mk 26 (.int .i64 0) rfl rfl rfl (fun W hW => calm_move (.tmp 10) rfl rfl)
  · exact CalmG.mk 27 (.pointer (some ⟨n1 + 1, 0, none⟩)) rfl rfl rfl (fun W hW => calm_run (by simp [execOp, Act.eval, go_sem]))
  · exact CalmG.mk 28 (ptV y0 y3 y6) rfl rfl rfl (fun W hW => calm_loadPt' 29 (.tmp 27) rfl rfl (row_int ((hW.block _ lt).trans kt_6) rfl) (row_int ((hW.block _ lt).trans kt_6) rfl) (row_int ((hW.block _ lt).trans kt_6) rfl) Tryz.sizeOf29 Tryz.isAgg29)
  · exact CalmG.mk 29 (.int .i64 d6) rfl rfl rfl (fun W hW => calm_call 87 _ #[.int .i64 p, ptV x6 x7 x8, ptV y0 y3 y6] rfl rfl rfl (by simp [Act.eval]) (Tryz.call87 _ _) (HD6.out W))
  · exact CalmG.mk 30 (.pointer (some ⟨n1, 6, none⟩)) rfl rfl rfl (fun W hW => calm_run (by simp [execOp, Act.eval, go_sem]))
  · exact CalmG.mk 31 (.pointer (some ⟨n1, 6, none⟩)) rfl rfl rfl (fun W hW => calm_run (by simp [execOp, Act.eval, go_sem]))
  intro W hW
  simp only [List.drop_succ_cons, List.drop_zero]
  refine wpList_store1 _ rfl 2 (.tmp 31) (.tmp 29) rfl rfl (g := n1) (off := 6) (T := 31) (cs := #[.int .i64 d0, .int .i64 d1, .int .i64 d2, .int .i64 d3, .int .i64 d4, .int .i64 d5, .int .i64 0, .int .i64 0, .int .i64 0]) (cs' := #[.int .i64 d0, .int .i64 d1, .int .i64 d2, .int .i64 d3, .int .i64 d4, .int .i64 d5, .int .i64 d6, .int .i64 0, .int .i64 0]) (z := d6) rfl rfl ((hW.block _ lo).trans ko_6) (Nat.le_of_ble_eq_true rfl) rfl Tryz.sizeOf2 ?_
  refine wpList_nil ?_
  have kx_7 := (setRow_other W (n1) (w.heap.size) #[.int .i64 d0, .int .i64 d1, .int .i64 d2, .int .i64 d3, .int .i64 d4, .int .i64 d5, .int .i64 d6, .int .i64 0, .int .i64 0] (by omega)).trans ((hW.block _ lx).trans kx_6)
  have kr_7 := (setRow_other W (n1) (w.heap.size + 1 + 1) #[.int .i64 d0, .int .i64 d1, .int .i64 d2, .int .i64 d3, .int .i64 d4, .int .i64 d5, .int .i64 d6, .int .i64 0, .int .i64 0] (by omega)).trans ((hW.block _ lr).trans kr_6)
  have kt_7 := (setRow_other W (n1) (n1 + 1) #[.int .i64 d0, .int .i64 d1, .int .i64 d2, .int .i64 d3, .int .i64 d4, .int .i64 d5, .int .i64 d6, .int .i64 0, .int .i64 0] (by omega)).trans ((hW.block _ lt).trans kt_6)
  have ko_7 := setRow_heap W (n1) _ #[.int .i64 d0, .int .i64 d1, .int .i64 d2, .int .i64 d3, .int .i64 d4, .int .i64 d5, .int .i64 d6, .int .i64 0, .int .i64 0] _ _ ((hW.block _ lo).trans ko_6)
  have HB_7 : Below w.heap.size w (W.setRow (n1) #[.int .i64 d0, .int .i64 d1, .int .i64 d2, .int .i64 d3, .int .i64 d4, .int .i64 d5, .int .i64 d6, .int .i64 0, .int .i64 0]) := below_setRowN (low_tr' HB_6 hW (by omega)) (by omega) _
  clear kx_6 kr_6 kt_6 ko_6 HB_6 lx lr lt lo hW
  generalize W.setRow (n1) #[.int .i64 d0, .int .i64 d1, .int .i64 d2, .int .i64 d3, .int .i64 d4, .int .i64 d5, .int .i64 d6, .int .i64 0, .int .i64 0] = V_7 at *
  clear V_6
  go_wp2
  rw [rounds_succ]; go_wp2
  have lx := (Array.getElem?_eq_some_iff.1 kx_7).1
  have lr := (Array.getElem?_eq_some_iff.1 kr_7).1
  have lt := (Array.getElem?_eq_some_iff.1 kt_7).1
  have lo := (Array.getElem?_eq_some_iff.1 ko_7).1
  refine region_via 12 [(20, .int .i64 2), (21, .int .i64 1), (22, .int .i64 p), (23, .int .i64 2), (24, .pointer (some ⟨w.heap.size, 6, none⟩)), (25, ptV x6 x7 x8), (26, .int .i64 1), (27, .pointer (some ⟨n1 + 1, 3, none⟩)), (28, ptV y1 y4 y7), (29, .int .i64 d7), (30, .pointer (some ⟨n1, 6, none⟩)), (31, .pointer (some ⟨n1, 7, none⟩))] (by kernel_rfl) (by decide) (by kernel_rfl) (by kernel_rfl) (by kernel_rfl) (fun aE hpe => ?_)
  simp only [puts, Act.put, List.setIfInBounds_toArray, List.set_cons_zero, List.set_cons_succ] at hpe
  subst hpe
  refine ⟨⟨.inr (.inr ?_), .inr (.inr ?_), .inr (.inr ?_), .inr (.inr ?_), .inr (.inr ?_), .inr (.inr ?_), .inr (.inr ?_), .inr (.inr ?_), .inr (.inr ?_), .inr (.inr ?_), .inr (.inr ?_), .inr (.inr ?_), trivial⟩, ?_⟩
  · exact CalmG.mk 20 (.int .i64 2) rfl rfl rfl (fun W hW => calm_move (.tmp 9) rfl rfl)
  · exact CalmG.mk 21 (.int .i64 1) rfl rfl rfl (fun W hW => calm_move (.tmp 10) rfl rfl)
  · exact CalmG.mk 22 (.int .i64 p) rfl rfl rfl (fun W hW => calm_move (.tmp 0) rfl rfl)
  · exact CalmG.mk 23 (.int .i64 2) rfl rfl rfl (fun W hW => calm_move (.tmp 9) rfl rfl)
  · exact CalmG.mk 24 (.pointer (some ⟨w.heap.size, 6, none⟩)) rfl rfl rfl (fun W hW => calm_run (by simp [execOp, Act.eval, go_sem]))
  · exact CalmG.mk 25 (ptV x6 x7 x8) rfl rfl rfl (fun W hW => calm_loadPt' 29 (.tmp 24) rfl rfl (row_int ((hW.block _ lx).trans kx_7) rfl) (row_int ((hW.block _ lx).trans kx_7) rfl) (row_int ((hW.block _ lx).trans kx_7) rfl) Tryz.sizeOf29 Tryz.isAgg29)
  · exact CalmG.mk 26 (.int .i64 1) rfl rfl rfl (fun W hW => calm_move (.tmp 10) rfl rfl)
  · exact CalmG.mk 27 (.pointer (some ⟨n1 + 1, 3, none⟩)) rfl rfl rfl (fun W hW => calm_run (by simp [execOp, Act.eval, go_sem]))
  · exact CalmG.mk 28 (ptV y1 y4 y7) rfl rfl rfl (fun W hW => calm_loadPt' 29 (.tmp 27) rfl rfl (row_int ((hW.block _ lt).trans kt_7) rfl) (row_int ((hW.block _ lt).trans kt_7) rfl) (row_int ((hW.block _ lt).trans kt_7) rfl) Tryz.sizeOf29 Tryz.isAgg29)
  · exact CalmG.mk 29 (.int .i64 d7) rfl rfl rfl (fun W hW => calm_call 87 _ #[.int .i64 p, ptV x6 x7 x8, ptV y1 y4 y7] rfl rfl rfl (by simp [Act.eval]) (Tryz.call87 _ _) (HD7.out W))
  · exact CalmG.mk 30 (.pointer (some ⟨n1, 6, none⟩)) rfl rfl rfl (fun W hW => calm_run (by simp [execOp, Act.eval, go_sem]))
  · exact CalmG.mk 31 (.pointer (some ⟨n1, 7, none⟩)) rfl rfl rfl (fun W hW => calm_run (by simp [execOp, Act.eval, go_sem]))
  intro W hW
  simp only [List.drop_succ_cons, List.drop_zero]
  refine wpList_store1 _ rfl 2 (.tmp 31) (.tmp 29) rfl rfl (g := n1) (off := 7) (T := 31) (cs := #[.int .i64 d0, .int .i64 d1, .int .i64 d2, .int .i64 d3, .int .i64 d4, .int .i64 d5, .int .i64 d6, .int .i64 0, .int .i64 0]) (cs' := #[.int .i64 d0, .int .i64 d1, .int .i64 d2, .int .i64 d3, .int .i64 d4, .int .i64 d5, .int .i64 d6, .int .i64 d7, .int .i64 0]) (z := d7) rfl rfl ((hW.block _ lo).trans ko_7) (Nat.le_of_ble_eq_true rfl) rfl Tryz.sizeOf2 ?_
  refine wpList_nil ?_
  have kx_8 := (setRow_other W (n1) (w.heap.size) #[.int .i64 d0, .int .i64 d1, .int .i64 d2, .int .i64 d3, .int .i64 d4, .int .i64 d5, .int .i64 d6, .int .i64 d7, .int .i64 0] (by omega)).trans ((hW.block _ lx).trans kx_7)
  have kr_8 := (setRow_other W (n1) (w.heap.size + 1 + 1) #[.int .i64 d0, .int .i64 d1, .int .i64 d2, .int .i64 d3, .int .i64 d4, .int .i64 d5, .int .i64 d6, .int .i64 d7, .int .i64 0] (by omega)).trans ((hW.block _ lr).trans kr_7)
  have kt_8 := (setRow_other W (n1) (n1 + 1) #[.int .i64 d0, .int .i64 d1, .int .i64 d2, .int .i64 d3, .int .i64 d4, .int .i64 d5, .int .i64 d6, .int .i64 d7, .int .i64 0] (by omega)).trans ((hW.block _ lt).trans kt_7)
  have ko_8 := setRow_heap W (n1) _ #[.int .i64 d0, .int .i64 d1, .int .i64 d2, .int .i64 d3, .int .i64 d4, .int .i64 d5, .int .i64 d6, .int .i64 d7, .int .i64 0] _ _ ((hW.block _ lo).trans ko_7)
  have HB_8 : Below w.heap.size w (W.setRow (n1) #[.int .i64 d0, .int .i64 d1, .int .i64 d2, .int .i64 d3, .int .i64 d4, .int .i64 d5, .int .i64 d6, .int .i64 d7, .int .i64 0]) := below_setRowN (low_tr' HB_7 hW (by omega)) (by omega) _
  clear kx_7 kr_7 kt_7 ko_7 HB_7 lx lr lt lo hW
  generalize W.setRow (n1) #[.int .i64 d0, .int .i64 d1, .int .i64 d2, .int .i64 d3, .int .i64 d4, .int .i64 d5, .int .i64 d6, .int .i64 d7, .int .i64 0] = V_8 at *
  clear V_7
  go_wp2
  rw [rounds_succ]; go_wp2
  have lx := (Array.getElem?_eq_some_iff.1 kx_8).1
  have lr := (Array.getElem?_eq_some_iff.1 kr_8).1
  have lt := (Array.getElem?_eq_some_iff.1 kt_8).1
  have lo := (Array.getElem?_eq_some_iff.1 ko_8).1
  refine region_via 12 [(20, .int .i64 2), (21, .int .i64 2), (22, .int .i64 p), (23, .int .i64 2), (24, .pointer (some ⟨w.heap.size, 6, none⟩)), (25, ptV x6 x7 x8), (26, .int .i64 2), (27, .pointer (some ⟨n1 + 1, 6, none⟩)), (28, ptV y2 y5 y8), (29, .int .i64 d8), (30, .pointer (some ⟨n1, 6, none⟩)), (31, .pointer (some ⟨n1, 8, none⟩))] (by kernel_rfl) (by decide) (by kernel_rfl) (by kernel_rfl) (by kernel_rfl) (fun aE hpe => ?_)
  simp only [puts, Act.put, List.setIfInBounds_toArray, List.set_cons_zero, List.set_cons_succ] at hpe
  subst hpe
  refine ⟨⟨.inr (.inr ?_), .inr (.inr ?_), .inr (.inr ?_), .inr (.inr ?_), .inr (.inr ?_), .inr (.inr ?_), .inr (.inr ?_), .inr (.inr ?_), .inr (.inr ?_), .inr (.inr ?_), .inr (.inr ?_), .inr (.inr ?_), trivial⟩, ?_⟩
  · exact CalmG.mk 20 (.int .i64 2) rfl rfl rfl (fun W hW => calm_move (.tmp 9) rfl rfl)
  · exact CalmG.mk 21 (.int .i64 2) rfl rfl rfl (fun W hW => calm_move (.tmp 10) rfl rfl)
  · exact CalmG.mk 22 (.int .i64 p) rfl rfl rfl (fun W hW => calm_move (.tmp 0) rfl rfl)
  · exact CalmG.mk 23 (.int .i64 2) rfl rfl rfl (fun W hW => calm_move (.tmp 9) rfl rfl)
  · exact CalmG.mk 24 (.pointer (some ⟨w.heap.size, 6, none⟩)) rfl rfl rfl (fun W hW => calm_run (by simp [execOp, Act.eval, go_sem]))
  · exact CalmG.mk 25 (ptV x6 x7 x8) rfl rfl rfl (fun W hW => calm_loadPt' 29 (.tmp 24) rfl rfl (row_int ((hW.block _ lx).trans kx_8) rfl) (row_int ((hW.block _ lx).trans kx_8) rfl) (row_int ((hW.block _ lx).trans kx_8) rfl) Tryz.sizeOf29 Tryz.isAgg29)
  · exact CalmG.mk 26 (.int .i64 2) rfl rfl rfl (fun W hW => calm_move (.tmp 10) rfl rfl)
  · exact CalmG.mk 27 (.pointer (some ⟨n1 + 1, 6, none⟩)) rfl rfl rfl (fun W hW => calm_run (by simp [execOp, Act.eval, go_sem]))
  · exact CalmG.mk 28 (ptV y2 y5 y8) rfl rfl rfl (fun W hW => calm_loadPt' 29 (.tmp 27) rfl rfl (row_int ((hW.block _ lt).trans kt_8) rfl) (row_int ((hW.block _ lt).trans kt_8) rfl) (row_int ((hW.block _ lt).trans kt_8) rfl) Tryz.sizeOf29 Tryz.isAgg29)
  · exact CalmG.mk 29 (.int .i64 d8) rfl rfl rfl (fun W hW => calm_call 87 _ #[.int .i64 p, ptV x6 x7 x8, ptV y2 y5 y8] rfl rfl rfl (by simp [Act.eval]) (Tryz.call87 _ _) (HD8.out W))
  · exact CalmG.mk 30 (.pointer (some ⟨n1, 6, none⟩)) rfl rfl rfl (fun W hW => calm_run (by simp [execOp, Act.eval, go_sem]))
  · exact CalmG.mk 31 (.pointer (some ⟨n1, 8, none⟩)) rfl rfl rfl (fun W hW => calm_run (by simp [execOp, Act.eval, go_sem]))
  intro W hW
  simp only [List.drop_succ_cons, List.drop_zero]
  refine wpList_store1 _ rfl 2 (.tmp 31) (.tmp 29) rfl rfl (g := n1) (off := 8) (T := 31) (cs := #[.int .i64 d0, .int .i64 d1, .int .i64 d2, .int .i64 d3, .int .i64 d4, .int .i64 d5, .int .i64 d6, .int .i64 d7, .int .i64 0]) (cs' := #[.int .i64 d0, .int .i64 d1, .int .i64 d2, .int .i64 d3, .int .i64 d4, .int .i64 d5, .int .i64 d6, .int .i64 d7, .int .i64 d8]) (z := d8) rfl rfl ((hW.block _ lo).trans ko_8) (Nat.le_of_ble_eq_true rfl) rfl Tryz.sizeOf2 ?_
  refine wpList_nil ?_
  have kx_9 := (setRow_other W (n1) (w.heap.size) #[.int .i64 d0, .int .i64 d1, .int .i64 d2, .int .i64 d3, .int .i64 d4, .int .i64 d5, .int .i64 d6, .int .i64 d7, .int .i64 d8] (by omega)).trans ((hW.block _ lx).trans kx_8)
  have kr_9 := (setRow_other W (n1) (w.heap.size + 1 + 1) #[.int .i64 d0, .int .i64 d1, .int .i64 d2, .int .i64 d3, .int .i64 d4, .int .i64 d5, .int .i64 d6, .int .i64 d7, .int .i64 d8] (by omega)).trans ((hW.block _ lr).trans kr_8)
  have kt_9 := (setRow_other W (n1) (n1 + 1) #[.int .i64 d0, .int .i64 d1, .int .i64 d2, .int .i64 d3, .int .i64 d4, .int .i64 d5, .int .i64 d6, .int .i64 d7, .int .i64 d8] (by omega)).trans ((hW.block _ lt).trans kt_8)
  have ko_9 := setRow_heap W (n1) _ #[.int .i64 d0, .int .i64 d1, .int .i64 d2, .int .i64 d3, .int .i64 d4, .int .i64 d5, .int .i64 d6, .int .i64 d7, .int .i64 d8] _ _ ((hW.block _ lo).trans ko_8)
  have HB_9 : Below w.heap.size w (W.setRow (n1) #[.int .i64 d0, .int .i64 d1, .int .i64 d2, .int .i64 d3, .int .i64 d4, .int .i64 d5, .int .i64 d6, .int .i64 d7, .int .i64 d8]) := below_setRowN (low_tr' HB_8 hW (by omega)) (by omega) _
  clear kx_8 kr_8 kt_8 ko_8 HB_8 lx lr lt lo hW
  generalize W.setRow (n1) #[.int .i64 d0, .int .i64 d1, .int .i64 d2, .int .i64 d3, .int .i64 d4, .int .i64 d5, .int .i64 d6, .int .i64 d7, .int .i64 d8] = V_9 at *
  clear V_8
  go_wp2
  rw [rounds_succ]; go_wp2
  rw [rounds_succ]
  go_wp2_with (first
    | (refine wpList_load_row _ rfl 31 _ rfl (g := n1) (T := 31) (cs := #[.int .i64 d0, .int .i64 d1, .int .i64 d2, .int .i64 d3, .int .i64 d4, .int .i64 d5, .int .i64 d6, .int .i64 d7, .int .i64 d8]) (fr := (0, 0)) rfl ko_9 9 rfl Tryz.sizeOf31 Tryz.isAgg31 ?_)
    | (refine wpList_store_row _ rfl 31 _ _ rfl rfl (g := w.heap.size + 1 + 1) (T := 31) (cs := #[.int .i64 0, .int .i64 0, .int .i64 0, .int .i64 0, .int .i64 0, .int .i64 0, .int .i64 0, .int .i64 0, .int .i64 0]) (U := #[.int .i64 d0, .int .i64 d1, .int .i64 d2, .int .i64 d3, .int .i64 d4, .int .i64 d5, .int .i64 d6, .int .i64 d7, .int .i64 d8]) rfl rfl kr_9 rfl Tryz.sizeOf31 (by simp [Value.oneCell']) ?_))
  exact bodyPost_ret (v := .agg #[.int .i64 d0, .int .i64 d1, .int .i64 d2, .int .i64 d3, .int .i64 d4, .int .i64 d5, .int .i64 d6, .int .i64 d7, .int .i64 d8]) (results_row Tryz.results102 rfl (setRow_heap _ _ _ _ _ _ kr_9) 9 rfl Tryz.sizeOf31 Tryz.isAgg31) rfl ⟨rfl, below_setRowN HB_9 (by omega) _⟩
end Go.Proofs.YtaocnklolgdkfaaGreat
/- Contracts: maps made normal and multiplied, as the program does it. (Printed by gens2.py, a program of this session.) -/
namespace Go.Proofs.YtaocnklolgdkfaaGreat
open Go.RowKit
set_option linter.unusedVariables false
set_option linter.unusedSimpArgs false
theorem ownInts2 {W : World} {base : Nat} {T : TypeId} {v : Value} {l : List Int} {n : Nat} (h : W.ownsRow base T 1 v n (ints l)) (hl : l.length = n) (hn : 0 < n) :
    ∃ g cap, v = .slice (some ⟨g, 0, none⟩) n cap ∧ base ≤ g ∧ g < W.heap.size ∧ n ≤ cap ∧ (∀ i, i < n → W.cell? ⟨g, 0 + i, none⟩ = some (.int .i64 (l.getD i 0))) ∧ ∀ i, W.frozen? ⟨g, i, none⟩ = false := by
  obtain ⟨g, cap, e, hc⟩ := ownInts h hl hn
  rcases h.2 with ⟨_, h0⟩ | ⟨g', cap', cur, e', hb, hg, hle, _, hsz, htk⟩
  · omega
  · rw [e] at e'
    cases e'
    exact ⟨g, cap, e, hb, (Array.getElem?_eq_some_iff.1 hg).1, hle, hc, fun i => frozen_of_row W g i _ _ hg⟩
theorem set_nine {W : World} {g : Nat} {l : List Int} (hc : ∀ i, i < 9 → W.cell? ⟨g, 0 + i, none⟩ = some (.int .i64 (l.getD i 0))) (N : List Int) (hN : N.length = 9) (i : Nat) (hi : i < 9) : (setInts W g 0 N).cell? ⟨g, i, none⟩ = some (.int .i64 (N.getD i 0)) := by
  have := setInts_cell W g 0 N (fun j hj => by rw [hc j (by omega)]; rfl) i (by omega)
  rwa [Nat.zero_add] at this
set_option maxRecDepth 20000 in
set_option maxHeartbeats 4000000 in
theorem normalMap_any (p x0 x1 x2 x3 x4 x5 x6 x7 x8 : Int) (w : World) (hp : prB p = true) (hx : ∀ x ∈ [x0, x1, x2, x3, x4, x5, x6, x7, x8], -4611686018427387904 ≤ x ∧ x ≤ 4611686018427387904) (f : Int) (hf : facL p [x0, x1, x2, x3, x4, x5, x6, x7, x8] = f) :
    Calls Tryz.prog 101 #[.int .i64 p, .agg #[.int .i64 x0, .int .i64 x1, .int .i64 x2, .int .i64 x3, .int .i64 x4, .int .i64 x5, .int .i64 x6, .int .i64 x7, .int .i64 x8]] w (Ret w (.agg #[.int .i64 (x0 % p * f % p), .int .i64 (x1 % p * f % p), .int .i64 (x2 % p * f % p), .int .i64 (x3 % p * f % p), .int .i64 (x4 % p * f % p), .int .i64 (x5 % p * f % p), .int .i64 (x6 % p * f % p), .int .i64 (x7 % p * f % p), .int .i64 (x8 % p * f % p)])) := by
  have HF := Lib.hid (fun (W : World) => flat_any x0 x1 x2 x3 x4 x5 x6 x7 x8 W)
  have HNl := Lib.hid (show normL p [x0, x1, x2, x3, x4, x5, x6, x7, x8] = [x0 % p * f % p, x1 % p * f % p, x2 % p * f % p, x3 % p * f % p, x4 % p * f % p, x5 % p * f % p, x6 % p * f % p, x7 % p * f % p, x8 % p * f % p] by unfold normL; rw [hf]; rfl)
  have HN := Lib.hid (fun (W : World) (g cap : Nat) hc hz => normal_any p g 0 9 cap [x0, x1, x2, x3, x4, x5, x6, x7, x8] W hp rfl (by omega) hc hz (fun i hi => hx _ (by
    have hl : i < [x0, x1, x2, x3, x4, x5, x6, x7, x8].length := hi
    simp only [List.getD, List.getElem?_eq_getElem hl, Option.getD_some]
    exact List.getElem_mem hl)))
  rw [HNl.out] at HN
  clear HNl hx hf hp
  generalize x0 % p * f % p = n0 at *
  generalize x1 % p * f % p = n1 at *
  generalize x2 % p * f % p = n2 at *
  generalize x3 % p * f % p = n3 at *
  generalize x4 % p * f % p = n4 at *
  generalize x5 % p * f % p = n5 at *
  generalize x6 % p * f % p = n6 at *
  generalize x7 % p * f % p = n7 at *
  generalize x8 % p * f % p = n8 at *
  generalize nzB p [x0, x1, x2, x3, x4, x5, x6, x7, x8] = nb at *
  go_enter Tryz.func101, Tryz.ntmps101
  go_wp2_with (first
    | (go_at_call 100; (with_reducible refine (HF.out _).mono ?_); rintro e w1 ⟨v1, rfl, ho, hb⟩; obtain ⟨g, cap, rfl, hg0, hg1, hcap, hpt, hfz⟩ := ownInts2 (n := 9) ho rfl (by omega); have HO1 := Lib.hid hpt; have HFz := Lib.hid hfz; have HB1 := Lib.hid hb; clear ho hb hpt hfz)
    | (go_at_call 117; refine (HN.out _ _ _ HO1.out (fun i _ => HFz.out _)).mono ?_; rintro e w' ⟨rfl, rfl⟩))
  have HB : Below ((w.alloc (.cells #[.int .i64 x0, .int .i64 x1, .int .i64 x2, .int .i64 x3, .int .i64 x4, .int .i64 x5, .int .i64 x6, .int .i64 x7, .int .i64 x8] 31)).alloc (.cells #[.int .i64 0, .int .i64 0, .int .i64 0, .int .i64 0, .int .i64 0, .int .i64 0, .int .i64 0, .int .i64 0, .int .i64 0] 31)).heap.size ((w.alloc (.cells #[.int .i64 x0, .int .i64 x1, .int .i64 x2, .int .i64 x3, .int .i64 x4, .int .i64 x5, .int .i64 x6, .int .i64 x7, .int .i64 x8] 31)).alloc (.cells #[.int .i64 0, .int .i64 0, .int .i64 0, .int .i64 0, .int .i64 0, .int .i64 0, .int .i64 0, .int .i64 0, .int .i64 0] 31)) (setInts w1 g 0 [n0, n1, n2, n3, n4, n5, n6, n7, n8]) := below_setInts HB1.out hg0 0 _
  have q0 : (setInts w1 g 0 [n0, n1, n2, n3, n4, n5, n6, n7, n8]).cell? ⟨g, 0, none⟩ = some (.int .i64 n0) := set_nine HO1.out [n0, n1, n2, n3, n4, n5, n6, n7, n8] rfl 0 (by omega)
  have q1 : (setInts w1 g 0 [n0, n1, n2, n3, n4, n5, n6, n7, n8]).cell? ⟨g, 1, none⟩ = some (.int .i64 n1) := set_nine HO1.out [n0, n1, n2, n3, n4, n5, n6, n7, n8] rfl 1 (by omega)
  have q2 : (setInts w1 g 0 [n0, n1, n2, n3, n4, n5, n6, n7, n8]).cell? ⟨g, 2, none⟩ = some (.int .i64 n2) := set_nine HO1.out [n0, n1, n2, n3, n4, n5, n6, n7, n8] rfl 2 (by omega)
  have q3 : (setInts w1 g 0 [n0, n1, n2, n3, n4, n5, n6, n7, n8]).cell? ⟨g, 3, none⟩ = some (.int .i64 n3) := set_nine HO1.out [n0, n1, n2, n3, n4, n5, n6, n7, n8] rfl 3 (by omega)
  have q4 : (setInts w1 g 0 [n0, n1, n2, n3, n4, n5, n6, n7, n8]).cell? ⟨g, 4, none⟩ = some (.int .i64 n4) := set_nine HO1.out [n0, n1, n2, n3, n4, n5, n6, n7, n8] rfl 4 (by omega)
  have q5 : (setInts w1 g 0 [n0, n1, n2, n3, n4, n5, n6, n7, n8]).cell? ⟨g, 5, none⟩ = some (.int .i64 n5) := set_nine HO1.out [n0, n1, n2, n3, n4, n5, n6, n7, n8] rfl 5 (by omega)
  have q6 : (setInts w1 g 0 [n0, n1, n2, n3, n4, n5, n6, n7, n8]).cell? ⟨g, 6, none⟩ = some (.int .i64 n6) := set_nine HO1.out [n0, n1, n2, n3, n4, n5, n6, n7, n8] rfl 6 (by omega)
  have q7 : (setInts w1 g 0 [n0, n1, n2, n3, n4, n5, n6, n7, n8]).cell? ⟨g, 7, none⟩ = some (.int .i64 n7) := set_nine HO1.out [n0, n1, n2, n3, n4, n5, n6, n7, n8] rfl 7 (by omega)
  have q8 : (setInts w1 g 0 [n0, n1, n2, n3, n4, n5, n6, n7, n8]).cell? ⟨g, 8, none⟩ = some (.int .i64 n8) := set_nine HO1.out [n0, n1, n2, n3, n4, n5, n6, n7, n8] rfl 8 (by omega)
  have hgV : g < (setInts w1 g 0 [n0, n1, n2, n3, n4, n5, n6, n7, n8]).heap.size := by rw [setInts_size]; exact hg1
  simp at hg0
  clear HB1 HO1 HFz HN HF hg1
  generalize setInts w1 g 0 [n0, n1, n2, n3, n4, n5, n6, n7, n8] = V at *
  clear w1
  have kr : V.heap[w.heap.size + 1]? = some (.cells #[.int .i64 0, .int .i64 0, .int .i64 0, .int .i64 0, .int .i64 0, .int .i64 0, .int .i64 0, .int .i64 0, .int .i64 0] 31 (0, 0)) := by rw [HB.block _ (by simp), hn_atN _ _ _ (by simp)]
  have HBw : Below w.heap.size w V := below_tr' ((by repeat (first | exact Below.refl _ _ | refine bset ?_ _ _ (by omega) _ | refine bal ?_ _ | refine bdrN ?_ _ | refine bdr ?_))) HB
  clear HB
  have lr := (Array.getElem?_eq_some_iff.1 kr).1
  refine region_via 12 [(11, .slice (some ⟨g, 0, none⟩) 9 cap), (12, .pointer (some ⟨g, 0, none⟩)), (13, ptV n0 n1 n2), (14, .slice (some ⟨g, 0, none⟩) 9 cap), (15, .slice (some ⟨g, 3, none⟩) 6 (cap - 3)), (16, .pointer (some ⟨g, 3, none⟩)), (17, ptV n3 n4 n5), (18, .slice (some ⟨g, 0, none⟩) 9 cap), (19, .slice (some ⟨g, 6, none⟩) 3 (cap - 6)), (20, .pointer (some ⟨g, 6, none⟩)), (21, ptV n6 n7 n8), (22, .agg #[.int .i64 n0, .int .i64 n1, .int .i64 n2, .int .i64 n3, .int .i64 n4, .int .i64 n5, .int .i64 n6, .int .i64 n7, .int .i64 n8])] (by kernel_rfl) (by decide) (by kernel_rfl) (by kernel_rfl) (by kernel_rfl) (fun aE hpe => ?_)
  simp only [puts, Act.put, List.setIfInBounds_toArray, List.set_cons_zero, List.set_cons_succ] at hpe
  subst hpe
  refine ⟨⟨.inr (.inr ?_), .inr (.inr ?_), .inr (.inr ?_), .inr (.inr ?_), .inr (.inr ?_), .inr (.inr ?_), .inr (.inr ?_), .inr (.inr ?_), .inr (.inr ?_), .inr (.inr ?_), .inr (.inr ?_), .inr (.inr ?_), trivial⟩, ?_⟩
  · exact CalmG.mk 11 (.slice (some ⟨g, 0, none⟩) 9 cap) rfl rfl rfl (fun W hW => calm_move (.tmp 5) rfl rfl)
  · exact CalmG.mk 12 (.pointer (some ⟨g, 0, none⟩)) rfl rfl rfl (fun W hW => calm_run (by simp [execOp, Act.eval, go_sem, run_arrayAt (P := Tryz.prog) (w := W) (arr := 29) (e := 2) (n := 3) (a := some ⟨g, 0, none⟩) (len := 9) (cap := cap) (h := Tryz.underlying29) (hn := by omega)]))
  · exact CalmG.mk 13 (ptV n0 n1 n2) rfl rfl rfl (fun W hW => calm_loadPt' 29 (.tmp 12) rfl rfl (cell_below hW q0) (cell_below hW q1) (cell_below hW q2) Tryz.sizeOf29 Tryz.isAgg29)
  · exact CalmG.mk 14 (.slice (some ⟨g, 0, none⟩) 9 cap) rfl rfl rfl (fun W hW => calm_move (.tmp 5) rfl rfl)
  · exact CalmG.mk 15 (.slice (some ⟨g, 3, none⟩) 6 (cap - 3)) rfl rfl rfl (fun W hW => calm_run (by simp [execOp, Act.eval, go_sem, hcap]; try omega))
  · exact CalmG.mk 16 (.pointer (some ⟨g, 3, none⟩)) rfl rfl rfl (fun W hW => calm_run (by simp [execOp, Act.eval, go_sem, run_arrayAt (P := Tryz.prog) (w := W) (arr := 29) (e := 2) (n := 3) (a := some ⟨g, 3, none⟩) (len := 6) (cap := cap - 3) (h := Tryz.underlying29) (hn := by omega)]))
  · exact CalmG.mk 17 (ptV n3 n4 n5) rfl rfl rfl (fun W hW => calm_loadPt' 29 (.tmp 16) rfl rfl (cell_below hW q3) (cell_below hW q4) (cell_below hW q5) Tryz.sizeOf29 Tryz.isAgg29)
  · exact CalmG.mk 18 (.slice (some ⟨g, 0, none⟩) 9 cap) rfl rfl rfl (fun W hW => calm_move (.tmp 5) rfl rfl)
  · exact CalmG.mk 19 (.slice (some ⟨g, 6, none⟩) 3 (cap - 6)) rfl rfl rfl (fun W hW => calm_run (by simp [execOp, Act.eval, go_sem, hcap]; try omega))
  · exact CalmG.mk 20 (.pointer (some ⟨g, 6, none⟩)) rfl rfl rfl (fun W hW => calm_run (by simp [execOp, Act.eval, go_sem, run_arrayAt (P := Tryz.prog) (w := W) (arr := 29) (e := 2) (n := 3) (a := some ⟨g, 6, none⟩) (len := 3) (cap := cap - 6) (h := Tryz.underlying29) (hn := by omega)]))
  · exact CalmG.mk 21 (ptV n6 n7 n8) rfl rfl rfl (fun W hW => calm_loadPt' 29 (.tmp 20) rfl rfl (cell_below hW q6) (cell_below hW q7) (cell_below hW q8) Tryz.sizeOf29 Tryz.isAgg29)
  · exact CalmG.mk 22 (.agg #[.int .i64 n0, .int .i64 n1, .int .i64 n2, .int .i64 n3, .int .i64 n4, .int .i64 n5, .int .i64 n6, .int .i64 n7, .int .i64 n8]) rfl rfl rfl (fun W hW => calm_run (by simp [execOp, Act.eval, go_sem]))
  intro W hW
  simp only [List.drop_succ_cons, List.drop_zero]
  refine wpList_store_row _ rfl 31 _ _ rfl rfl (g := w.heap.size + 1) (T := 31) (cs := #[.int .i64 0, .int .i64 0, .int .i64 0, .int .i64 0, .int .i64 0, .int .i64 0, .int .i64 0, .int .i64 0, .int .i64 0]) (U := #[.int .i64 n0, .int .i64 n1, .int .i64 n2, .int .i64 n3, .int .i64 n4, .int .i64 n5, .int .i64 n6, .int .i64 n7, .int .i64 n8]) rfl rfl ((hW.block _ lr).trans kr) rfl Tryz.sizeOf31 (by simp [Value.oneCell']) ?_
  refine wpList_nil ?_
  go_wp2
  exact bodyPost_ret (v := .agg #[.int .i64 n0, .int .i64 n1, .int .i64 n2, .int .i64 n3, .int .i64 n4, .int .i64 n5, .int .i64 n6, .int .i64 n7, .int .i64 n8]) (results_row Tryz.results101 rfl (setRow_heap _ _ _ _ _ _ ((hW.block _ lr).trans kr)) 9 rfl Tryz.sizeOf31 Tryz.isAgg31) rfl ⟨rfl, below_setRowN (low_tr' HBw hW (by omega)) (by omega) _⟩
set_option maxRecDepth 20000 in
theorem unit_impl (w : World) : Calls Tryz.prog 79 #[] w (Ret w (.agg #[.int .i64 1, .int .i64 0, .int .i64 0, .int .i64 0, .int .i64 1, .int .i64 0, .int .i64 0, .int .i64 0, .int .i64 1])) := by
  go_enter Tryz.func79, Tryz.ntmps79
  go_wp2
  exact bodyPost_ret (v := .agg #[.int .i64 1, .int .i64 0, .int .i64 0, .int .i64 0, .int .i64 1, .int .i64 0, .int .i64 0, .int .i64 0, .int .i64 1]) (by simp [results, Tryz.results79, go_sem]) rfl ⟨rfl, (by repeat (first | exact Below.refl _ _ | refine bset ?_ _ _ (by omega) _ | refine bal ?_ _ | refine bdrN ?_ _ | refine bdr ?_))⟩
set_option maxRecDepth 20000 in
theorem unit_spec (w : World) : Calls Tryz.prog 85 #[] w (Ret w (.agg #[.int .i64 1, .int .i64 0, .int .i64 0, .int .i64 0, .int .i64 1, .int .i64 0, .int .i64 0, .int .i64 0, .int .i64 1])) := by
  go_enter Tryz.func85, Tryz.ntmps85
  go_wp2
  exact bodyPost_ret (v := .agg #[.int .i64 1, .int .i64 0, .int .i64 0, .int .i64 0, .int .i64 1, .int .i64 0, .int .i64 0, .int .i64 0, .int .i64 1]) (by simp [results, Tryz.results85, go_sem]) rfl ⟨rfl, (by repeat (first | exact Below.refl _ _ | refine bset ?_ _ _ (by omega) _ | refine bal ?_ _ | refine bdrN ?_ _ | refine bdr ?_))⟩
end Go.Proofs.YtaocnklolgdkfaaGreat

