/- Contracts: the laws' own maps, conics, desks. (Printed by genm7.py, a program of this session.) -/
import Derived.Test.YthkbhaaodegocaaM6
namespace Go.Proofs.Ythkbhaaodegocaa
open Go.RowKit
set_option linter.unusedVariables false
set_option linter.unusedSimpArgs false
theorem toInt64A3_any (x y z : Int) (w : World) :
    Calls Try.prog 133 #[ptV x y z] w (Ret w (ptV x y z)) := by
  go_enter Try.func133, Try.ntmps133
  go_wp2
  refine wp_loop_rounds 4 ?_
  repeat any_goals (rw [rounds_succ]; go_wp2)
  exact bodyPost_ret (v := ptV x y z) (by simp [results, Try.results133, go_sem]) rfl ⟨rfl, by repeat (first | exact Below.refl _ _ | refine bal ?_ _)⟩
set_option maxHeartbeats 2000000 in
theorem toConic_any (x0 x1 x2 x3 x4 x5 : Int) (w : World) :
    Calls Try.prog 80 #[.agg #[.int .i64 x0, .int .i64 x1, .int .i64 x2, .int .i64 x3, .int .i64 x4, .int .i64 x5]] w (Ret w (.agg #[.int .i64 x0, .int .i64 x1, .int .i64 x2, .int .i64 x3, .int .i64 x4, .int .i64 x5])) := by
  go_enter Try.func80, Try.ntmps80
  go_wp2
  refine wp_loop_rounds 7 ?_
  repeat any_goals (rw [rounds_succ]; go_wp2)
  exact bodyPost_ret (v := .agg #[.int .i64 x0, .int .i64 x1, .int .i64 x2, .int .i64 x3, .int .i64 x4, .int .i64 x5]) (by simp [results, Try.results80, go_sem]) rfl ⟨rfl, by repeat (first | exact Below.refl _ _ | refine bal ?_ _)⟩
set_option maxRecDepth 10000 in
set_option maxHeartbeats 4000000 in
theorem toMap_any (x0 x1 x2 x3 x4 x5 x6 x7 x8 : Int) (w : World) :
    Calls Try.prog 79 #[.agg #[.int .i64 x0, .int .i64 x1, .int .i64 x2, .int .i64 x3, .int .i64 x4, .int .i64 x5, .int .i64 x6, .int .i64 x7, .int .i64 x8]] w (Ret w (.agg #[.int .i64 x0, .int .i64 x1, .int .i64 x2, .int .i64 x3, .int .i64 x4, .int .i64 x5, .int .i64 x6, .int .i64 x7, .int .i64 x8])) := by
  go_enter Try.func79, Try.ntmps79
  go_wp2
  go_loopw [4] (fun i wr => ∃ k : Nat, k ≤ 3 ∧ i = .int .i64 k ∧ wr.heap[w.heap.size]? = some (.cells #[.int .i64 x0, .int .i64 x1, .int .i64 x2, .int .i64 x3, .int .i64 x4, .int .i64 x5, .int .i64 x6, .int .i64 x7, .int .i64 x8] 25 (0, 0)) ∧ wr.heap[w.heap.size + 1]? = some (.cells #[.int .i64 0, .int .i64 0, .int .i64 0, .int .i64 0, .int .i64 0, .int .i64 0, .int .i64 0, .int .i64 0, .int .i64 0] 26 (0, 0)) ∧ wr.heap[w.heap.size + 1 + 1]? = some (.cells (outC k x0 x1 x2 x3 x4 x5 x6 x7 x8) 26 (0, 0)) ∧ Hid (Below w.heap.size w wr)) (fun i wr => 3 - (intOf i).toNat)
  case atStart => exact ⟨0, by omega, rfl, by rw [hn_pastN _ _ _ (by first | omega | (simp; done) | (simp; omega)), hn_pastN _ _ _ (by first | omega | (simp; done) | (simp; omega)), hn_atN _ _ _ (by simp)], by rw [hn_pastN _ _ _ (by first | omega | (simp; done) | (simp; omega)), hn_atN _ _ _ (by simp)], by rw [hn_atN _ _ _ (by simp)]; rfl, Lib.hid (by repeat (first | exact Below.refl _ _ | refine bset ?_ _ _ (by omega) _ | refine bal ?_ _ | refine bdrN ?_ _ | refine bdr ?_))⟩
  case round =>
    obtain ⟨k, hk, rfl, kb, kr, ko, HB⟩ := hrel
    rcases (show k = 0 ∨ k = 1 ∨ k = 2 ∨ k = 3 by omega) with rfl | rfl | rfl | rfl
    · clear hk
      have lb := (Array.getElem?_eq_some_iff.1 kb).1
      have lr := (Array.getElem?_eq_some_iff.1 kr).1
      have lo := (Array.getElem?_eq_some_iff.1 ko).1
      have b0 : wr.cell? ⟨w.heap.size, 0, none⟩ = some (.int .i64 x0) := by rw [cell_of_row wr _ 0 _ _ _ kb]; rfl
      have c0 : wr.cell? ⟨w.heap.size + 1 + 1, 0, none⟩ = some (.int .i64 0) := by rw [cell_of_row wr _ 0 _ _ _ ko]; rfl
      have f0 := frozen_of_row wr (w.heap.size + 1 + 1) 0 _ _ ko
      have b1 : wr.cell? ⟨w.heap.size, 1, none⟩ = some (.int .i64 x1) := by rw [cell_of_row wr _ 1 _ _ _ kb]; rfl
      have c1 : wr.cell? ⟨w.heap.size + 1 + 1, 1, none⟩ = some (.int .i64 0) := by rw [cell_of_row wr _ 1 _ _ _ ko]; rfl
      have f1 := frozen_of_row wr (w.heap.size + 1 + 1) 1 _ _ ko
      have b2 : wr.cell? ⟨w.heap.size, 2, none⟩ = some (.int .i64 x2) := by rw [cell_of_row wr _ 2 _ _ _ kb]; rfl
      have c2 : wr.cell? ⟨w.heap.size + 1 + 1, 2, none⟩ = some (.int .i64 0) := by rw [cell_of_row wr _ 2 _ _ _ ko]; rfl
      have f2 := frozen_of_row wr (w.heap.size + 1 + 1) 2 _ _ ko
      have Kb := Lib.hid kb
      have Kr := Lib.hid kr
      have Ko := Lib.hid ko
      clear kb kr ko
      go_wp2_with (go_at_call 133; (with_reducible refine (toInt64A3_any x0 x1 x2 _).mono ?_); rintro e w1_ ⟨rfl, hb1⟩; obtain ⟨hcb1, hfb1, hlb1⟩ := bcell hb1; have hsz1 := hb1.size; (try simp at hsz1); have HB1 := Lib.hid hb1; clear hb1; (try (have hl01 : w.heap.size < w1_.heap.size := by omega)); (try (have hl11 : w.heap.size + 1 < w1_.heap.size := by omega)); (try (have hl21 : w.heap.size + 1 + 1 < w1_.heap.size := by omega)))
      go_roundw
      case rel => exact ⟨1, by omega, rfl, by rw [Below.heap_setCell _ _ _ _ (by first | (simp; done) | (simp; omega)), Below.heap_setCell _ _ _ _ (by first | (simp; done) | (simp; omega)), Below.heap_setCell _ _ _ _ (by first | (simp; done) | (simp; omega)), HB1.out.block _ lb]; exact Kb.out, by rw [Below.heap_setCell _ _ _ _ (by first | (simp; done) | (simp; omega)), Below.heap_setCell _ _ _ _ (by first | (simp; done) | (simp; omega)), Below.heap_setCell _ _ _ _ (by first | (simp; done) | (simp; omega)), HB1.out.block _ lr]; exact Kr.out, setCell_heap (setCell_heap (setCell_heap (by rw [HB1.out.block _ lo]; exact Ko.out) _ _) _ _) _ _, Lib.hid ((((low_tr' HB.out HB1.out HB.out.size).setCell (by show w.heap.size ≤ w.heap.size + 1 + 1; omega) _).setCell (by show w.heap.size ≤ w.heap.size + 1 + 1; omega) _).setCell (by show w.heap.size ≤ w.heap.size + 1 + 1; omega) _)⟩
      case measure => simp [intOf]
    · clear hk
      have lb := (Array.getElem?_eq_some_iff.1 kb).1
      have lr := (Array.getElem?_eq_some_iff.1 kr).1
      have lo := (Array.getElem?_eq_some_iff.1 ko).1
      have b0 : wr.cell? ⟨w.heap.size, 3, none⟩ = some (.int .i64 x3) := by rw [cell_of_row wr _ 3 _ _ _ kb]; rfl
      have c0 : wr.cell? ⟨w.heap.size + 1 + 1, 3, none⟩ = some (.int .i64 0) := by rw [cell_of_row wr _ 3 _ _ _ ko]; rfl
      have f0 := frozen_of_row wr (w.heap.size + 1 + 1) 3 _ _ ko
      have b1 : wr.cell? ⟨w.heap.size, 4, none⟩ = some (.int .i64 x4) := by rw [cell_of_row wr _ 4 _ _ _ kb]; rfl
      have c1 : wr.cell? ⟨w.heap.size + 1 + 1, 4, none⟩ = some (.int .i64 0) := by rw [cell_of_row wr _ 4 _ _ _ ko]; rfl
      have f1 := frozen_of_row wr (w.heap.size + 1 + 1) 4 _ _ ko
      have b2 : wr.cell? ⟨w.heap.size, 5, none⟩ = some (.int .i64 x5) := by rw [cell_of_row wr _ 5 _ _ _ kb]; rfl
      have c2 : wr.cell? ⟨w.heap.size + 1 + 1, 5, none⟩ = some (.int .i64 0) := by rw [cell_of_row wr _ 5 _ _ _ ko]; rfl
      have f2 := frozen_of_row wr (w.heap.size + 1 + 1) 5 _ _ ko
      have Kb := Lib.hid kb
      have Kr := Lib.hid kr
      have Ko := Lib.hid ko
      clear kb kr ko
      go_wp2_with (go_at_call 133; (with_reducible refine (toInt64A3_any x3 x4 x5 _).mono ?_); rintro e w1_ ⟨rfl, hb1⟩; obtain ⟨hcb1, hfb1, hlb1⟩ := bcell hb1; have hsz1 := hb1.size; (try simp at hsz1); have HB1 := Lib.hid hb1; clear hb1; (try (have hl01 : w.heap.size < w1_.heap.size := by omega)); (try (have hl11 : w.heap.size + 1 < w1_.heap.size := by omega)); (try (have hl21 : w.heap.size + 1 + 1 < w1_.heap.size := by omega)))
      go_roundw
      case rel => exact ⟨2, by omega, rfl, by rw [Below.heap_setCell _ _ _ _ (by first | (simp; done) | (simp; omega)), Below.heap_setCell _ _ _ _ (by first | (simp; done) | (simp; omega)), Below.heap_setCell _ _ _ _ (by first | (simp; done) | (simp; omega)), HB1.out.block _ lb]; exact Kb.out, by rw [Below.heap_setCell _ _ _ _ (by first | (simp; done) | (simp; omega)), Below.heap_setCell _ _ _ _ (by first | (simp; done) | (simp; omega)), Below.heap_setCell _ _ _ _ (by first | (simp; done) | (simp; omega)), HB1.out.block _ lr]; exact Kr.out, setCell_heap (setCell_heap (setCell_heap (by rw [HB1.out.block _ lo]; exact Ko.out) _ _) _ _) _ _, Lib.hid ((((low_tr' HB.out HB1.out HB.out.size).setCell (by show w.heap.size ≤ w.heap.size + 1 + 1; omega) _).setCell (by show w.heap.size ≤ w.heap.size + 1 + 1; omega) _).setCell (by show w.heap.size ≤ w.heap.size + 1 + 1; omega) _)⟩
      case measure => simp [intOf]
    · clear hk
      have lb := (Array.getElem?_eq_some_iff.1 kb).1
      have lr := (Array.getElem?_eq_some_iff.1 kr).1
      have lo := (Array.getElem?_eq_some_iff.1 ko).1
      have b0 : wr.cell? ⟨w.heap.size, 6, none⟩ = some (.int .i64 x6) := by rw [cell_of_row wr _ 6 _ _ _ kb]; rfl
      have c0 : wr.cell? ⟨w.heap.size + 1 + 1, 6, none⟩ = some (.int .i64 0) := by rw [cell_of_row wr _ 6 _ _ _ ko]; rfl
      have f0 := frozen_of_row wr (w.heap.size + 1 + 1) 6 _ _ ko
      have b1 : wr.cell? ⟨w.heap.size, 7, none⟩ = some (.int .i64 x7) := by rw [cell_of_row wr _ 7 _ _ _ kb]; rfl
      have c1 : wr.cell? ⟨w.heap.size + 1 + 1, 7, none⟩ = some (.int .i64 0) := by rw [cell_of_row wr _ 7 _ _ _ ko]; rfl
      have f1 := frozen_of_row wr (w.heap.size + 1 + 1) 7 _ _ ko
      have b2 : wr.cell? ⟨w.heap.size, 8, none⟩ = some (.int .i64 x8) := by rw [cell_of_row wr _ 8 _ _ _ kb]; rfl
      have c2 : wr.cell? ⟨w.heap.size + 1 + 1, 8, none⟩ = some (.int .i64 0) := by rw [cell_of_row wr _ 8 _ _ _ ko]; rfl
      have f2 := frozen_of_row wr (w.heap.size + 1 + 1) 8 _ _ ko
      have Kb := Lib.hid kb
      have Kr := Lib.hid kr
      have Ko := Lib.hid ko
      clear kb kr ko
      go_wp2_with (go_at_call 133; (with_reducible refine (toInt64A3_any x6 x7 x8 _).mono ?_); rintro e w1_ ⟨rfl, hb1⟩; obtain ⟨hcb1, hfb1, hlb1⟩ := bcell hb1; have hsz1 := hb1.size; (try simp at hsz1); have HB1 := Lib.hid hb1; clear hb1; (try (have hl01 : w.heap.size < w1_.heap.size := by omega)); (try (have hl11 : w.heap.size + 1 < w1_.heap.size := by omega)); (try (have hl21 : w.heap.size + 1 + 1 < w1_.heap.size := by omega)))
      go_roundw
      case rel => exact ⟨3, by omega, rfl, by rw [Below.heap_setCell _ _ _ _ (by first | (simp; done) | (simp; omega)), Below.heap_setCell _ _ _ _ (by first | (simp; done) | (simp; omega)), Below.heap_setCell _ _ _ _ (by first | (simp; done) | (simp; omega)), HB1.out.block _ lb]; exact Kb.out, by rw [Below.heap_setCell _ _ _ _ (by first | (simp; done) | (simp; omega)), Below.heap_setCell _ _ _ _ (by first | (simp; done) | (simp; omega)), Below.heap_setCell _ _ _ _ (by first | (simp; done) | (simp; omega)), HB1.out.block _ lr]; exact Kr.out, setCell_heap (setCell_heap (setCell_heap (by rw [HB1.out.block _ lo]; exact Ko.out) _ _) _ _) _ _, Lib.hid ((((low_tr' HB.out HB1.out HB.out.size).setCell (by show w.heap.size ≤ w.heap.size + 1 + 1; omega) _).setCell (by show w.heap.size ≤ w.heap.size + 1 + 1; omega) _).setCell (by show w.heap.size ≤ w.heap.size + 1 + 1; omega) _)⟩
      case measure => simp [intOf]
    · go_wp2_with (first
        | (refine wpList_load_row _ rfl 26 _ rfl (g := w.heap.size + 1 + 1) (T := 26) (cs := #[.int .i64 x0, .int .i64 x1, .int .i64 x2, .int .i64 x3, .int .i64 x4, .int .i64 x5, .int .i64 x6, .int .i64 x7, .int .i64 x8]) (fr := (0, 0)) rfl ko 9 rfl Try.sizeOf26 Try.isAgg26 ?_)
        | (refine wpList_store_row _ rfl 26 _ _ rfl rfl (g := w.heap.size + 1) (T := 26) (cs := #[.int .i64 0, .int .i64 0, .int .i64 0, .int .i64 0, .int .i64 0, .int .i64 0, .int .i64 0, .int .i64 0, .int .i64 0]) (U := #[.int .i64 x0, .int .i64 x1, .int .i64 x2, .int .i64 x3, .int .i64 x4, .int .i64 x5, .int .i64 x6, .int .i64 x7, .int .i64 x8]) rfl rfl kr rfl Try.sizeOf26 (by simp [Value.oneCell']) ?_))
      exact bodyPost_ret (v := .agg #[.int .i64 x0, .int .i64 x1, .int .i64 x2, .int .i64 x3, .int .i64 x4, .int .i64 x5, .int .i64 x6, .int .i64 x7, .int .i64 x8]) (results_row Try.results79 rfl (setRow_heap _ _ _ _ _ _ kr) 9 rfl Try.sizeOf26 Try.isAgg26) rfl ⟨rfl, below_setRowN HB.out (by omega) _⟩
end Go.Proofs.Ythkbhaaodegocaa
