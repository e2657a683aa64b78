/- Texts of the claim, in build order: M4, M5, M6, M7, M8, S1, S2. No condition. -/
import Derived.Laws.Cover3
import Derived.Test.YtbeeecahkchjnaaZFnSets3
/- Contracts: the reference's normal map. (Printed by genm4.py, a program of this session.) -/
namespace Go.Proofs.Ytbeeecahkchjnaa
open Go.RowKit
set_option linter.unusedVariables false
set_option linter.unusedSimpArgs false
theorem own_ne {W : World} {base : Nat} {T T' : TypeId} {v : Value} {n g : Nat} {xs : List Value} {cs : Array Value} (h : W.ownsRow base T 1 v n xs) (hg : W.heap[g]? = some (.cells cs T' (0, 0))) (hT : T ≠ T') : v.ownBlock ≠ some g := by
  rcases h.2 with ⟨rfl, _⟩ | ⟨g', cap, cur, rfl, hb, hg', _⟩
  · intro e; simp [Value.ownBlock] at e
  · intro e
    have : g' = g := by simpa [Value.ownBlock] using e
    subst this
    rw [hg] at hg'
    simp only [Option.some.injEq, Obj.cells.injEq] at hg'
    exact hT hg'.2.1.symm
theorem setCell_heap {W : World} {g : Nat} {cs : Array Value} {T : TypeId} {fr : Nat × Nat} (h : W.heap[g]? = some (.cells cs T fr)) (j : Nat) (v : Value) : (W.setCell ⟨g, j, none⟩ v).heap[g]? = some (.cells (cs.setIfInBounds j v) T fr) := by
  simp [World.setCell, Array.getElem?_modify, h]
theorem calm_build {P : Program} {o : Oper} {ρ : Operand → Value} {W : World} (t : TypeId) (parts : Array (Nat × Operand)) (U : Array Value) (ho : o.op = .build t parts) (hb : P.built t (parts.map fun (i, x) => (i, ρ x)).toList = some U) : calmAt P o ρ W (.agg U) := by
  refine calm_run ?_
  unfold execOp
  simp only [ho, Sem.run_bind, run_build W t _ U hb, Result.andThen_ok, Sem.run_pure]
theorem ownInts' {W : World} {base : Nat} {T : TypeId} {v : Value} {l : List Int} {n : Nat} (h : W.ownsRow base T 1 v n (ints l)) (hl : l.length = n) (hn : 0 < n) :
    ∃ g cap, v = .slice (some ⟨g, 0, none⟩) n cap ∧ base ≤ g ∧ ∀ i, i < n → W.cell? ⟨g, 0 + i, none⟩ = some (.int .i64 (l.getD i 0)) := by
  obtain ⟨g, cap, rfl, hp⟩ := ownInts h hl hn
  refine ⟨g, cap, rfl, ?_, hp⟩
  rcases h.2 with ⟨h0, _⟩ | ⟨g', cap', cur, h1, hb, _⟩
  · cases h0
  · cases h1; exact hb
/-- What has been laid in of the normal map after k rows. -/
def outC (k : Nat) (n0 n1 n2 n3 n4 n5 n6 n7 n8 : Int) : Array Value := match k with
  | 0 => #[.int .i64 0, .int .i64 0, .int .i64 0, .int .i64 0, .int .i64 0, .int .i64 0, .int .i64 0, .int .i64 0, .int .i64 0]
  | 1 => #[.int .i64 n0, .int .i64 n1, .int .i64 n2, .int .i64 0, .int .i64 0, .int .i64 0, .int .i64 0, .int .i64 0, .int .i64 0]
  | 2 => #[.int .i64 n0, .int .i64 n1, .int .i64 n2, .int .i64 n3, .int .i64 n4, .int .i64 n5, .int .i64 0, .int .i64 0, .int .i64 0]
  | _ => #[.int .i64 n0, .int .i64 n1, .int .i64 n2, .int .i64 n3, .int .i64 n4, .int .i64 n5, .int .i64 n6, .int .i64 n7, .int .i64 n8]
set_option maxRecDepth 20000 in
set_option maxHeartbeats 4000000 in
theorem l02Normal_any (p x0 x1 x2 x3 x4 x5 x6 x7 x8 : Int) (w : World) (hp : prB p = true) (hx : ∀ x ∈ [x0, x1, x2, x3, x4, x5, x6, x7, x8], -4611686018427387904 ≤ x ∧ x ≤ 4611686018427387904) (f : Int) (hf : facL p [x0, x1, x2, x3, x4, x5, x6, x7, x8] = f) :
    Calls Try.prog 80 #[.int .i64 p, .agg #[.int .i64 x0, .int .i64 x1, .int .i64 x2, .int .i64 x3, .int .i64 x4, .int .i64 x5, .int .i64 x6, .int .i64 x7, .int .i64 x8]] w (Ret w (.agg #[.int .i64 (x0 % p * f % p), .int .i64 (x1 % p * f % p), .int .i64 (x2 % p * f % p), .int .i64 (x3 % p * f % p), .int .i64 (x4 % p * f % p), .int .i64 (x5 % p * f % p), .int .i64 (x6 % p * f % p), .int .i64 (x7 % p * f % p), .int .i64 (x8 % p * f % p)])) := by
  obtain ⟨i0, hi, hz0, hz1, hz2⟩ := info_parts info64
  have HI0 := Lib.hid hi; have HZ0 := Lib.hid hz0; have HZ1 := Lib.hid hz1; have HZ2 := Lib.hid hz2
  have HNo := Lib.hid (fun (W : World) (g cap : Nat) hc => l01Norm_any p g 0 9 cap [x0, x1, x2, x3, x4, x5, x6, x7, x8] W hp rfl (by omega) hc (fun i hi => hx _ (by
    have hl : i < [x0, x1, x2, x3, x4, x5, x6, x7, x8].length := hi
    simp only [List.getD, List.getElem?_eq_getElem hl, Option.getD_some]
    exact List.getElem_mem hl)))
  have HNl := Lib.hid (show normL p [x0, x1, x2, x3, x4, x5, x6, x7, x8] = [x0 % p * f % p, x1 % p * f % p, x2 % p * f % p, x3 % p * f % p, x4 % p * f % p, x5 % p * f % p, x6 % p * f % p, x7 % p * f % p, x8 % p * f % p] by unfold normL; rw [hf]; rfl)
  clear hi hz0 hz1 hz2 hp hx hf
  generalize x0 % p * f % p = n0 at *
  generalize x1 % p * f % p = n1 at *
  generalize x2 % p * f % p = n2 at *
  generalize x3 % p * f % p = n3 at *
  generalize x4 % p * f % p = n4 at *
  generalize x5 % p * f % p = n5 at *
  generalize x6 % p * f % p = n6 at *
  generalize x7 % p * f % p = n7 at *
  generalize x8 % p * f % p = n8 at *
  generalize nzB p [x0, x1, x2, x3, x4, x5, x6, x7, x8] = nz at *
  go_enter Try.func80, Try.ntmps80
  go_wp2_with (refine wpList_store_row _ rfl 77 _ _ rfl rfl rfl rfl (heap_alloc_new _ _) rfl Try.sizeOf77 (by simp [Value.oneCell']) ?_; rw [alloc_setRow])
  go_loopw [5, 7] (fun v i wr => ∃ k : Nat, k ≤ 3 ∧ i = .int .i64 k ∧ Hid (wr.ownsRow (w.heap.size + 1 + 1) 2 1 v (3 * k) (ints ([x0, x1, x2, x3, x4, x5, x6, x7, x8].take (3 * k)))) ∧ wr.heap[w.heap.size]? = some (.cells #[.int .i64 x0, .int .i64 x1, .int .i64 x2, .int .i64 x3, .int .i64 x4, .int .i64 x5, .int .i64 x6, .int .i64 x7, .int .i64 x8] 77 (0, 0)) ∧ wr.heap[w.heap.size + 1]? = some (.cells #[.int .i64 0, .int .i64 0, .int .i64 0, .int .i64 0, .int .i64 0, .int .i64 0, .int .i64 0, .int .i64 0, .int .i64 0] 77 (0, 0)) ∧ wr.heap[w.heap.size + 1 + 1 + 1]? = some (.cells #[.int .i64 0, .int .i64 0, .int .i64 0, .int .i64 0, .int .i64 0, .int .i64 0, .int .i64 0, .int .i64 0, .int .i64 0] 77 (0, 0)) ∧ Hid (Below w.heap.size w wr)) (fun _ i wr => 3 - (intOf i).toNat)
  case atStart =>
    refine ⟨0, by omega, rfl, Lib.hid ?_, ?_, ?_, ?_, Lib.hid (by repeat (first | exact Below.refl _ _ | refine bset ?_ _ _ (by omega) _ | refine bal ?_ _ | refine bdrN ?_ _ | refine bdr ?_))⟩
    · exact ⟨rfl, .inr ⟨w.heap.size + 1 + 1, 0, #[], rfl, Nat.le_refl _, by rw [hn_pastN _ _ _ (by first | omega | (simp; done) | (simp; omega)), hn_atN _ _ _ (by simp)], Nat.le_refl _, by unfold maxLen; omega, rfl, rfl⟩⟩
    · rw [hn_pastN _ _ _ (by first | omega | (simp; done) | (simp; omega)), hn_pastN _ _ _ (by first | omega | (simp; done) | (simp; omega)), hn_pastN _ _ _ (by first | omega | (simp; done) | (simp; omega)), hn_atN _ _ _ (by simp)]
    · rw [hn_pastN _ _ _ (by first | omega | (simp; done) | (simp; omega)), hn_pastN _ _ _ (by first | omega | (simp; done) | (simp; omega)), hn_atN _ _ _ (by simp)]
    · rw [hn_atN _ _ _ (by simp)]
  case round =>
    obtain ⟨k, hk, rfl, HO, km, kr, ko, HB⟩ := hrel
    rcases (show k = 0 ∨ k = 1 ∨ k = 2 ∨ k = 3 by omega) with rfl | rfl | rfl | rfl
    · clear hk
      have lm := (Array.getElem?_eq_some_iff.1 km).1
      have lr := (Array.getElem?_eq_some_iff.1 kr).1
      have lo := (Array.getElem?_eq_some_iff.1 ko).1
      go_wp2
      refine region_boxvia 14 13 30 (fun g => .slice (some ⟨g, 0, none⟩) 3 3) #[.int .i64 x0, .int .i64 x1, .int .i64 x2] 2 [(17, u5), (18, .int .i64 0), (19, .pointer (some ⟨w.heap.size, 0, none⟩)), (20, .pointer (some ⟨w.heap.size, 0, none⟩)), (21, .int .i64 x0), (22, .int .i64 0), (23, .pointer (some ⟨w.heap.size, 0, none⟩)), (24, .pointer (some ⟨w.heap.size, 1, none⟩)), (25, .int .i64 x1), (26, .int .i64 0), (27, .pointer (some ⟨w.heap.size, 0, none⟩)), (28, .pointer (some ⟨w.heap.size, 2, none⟩)), (29, .int .i64 x2)] (by kernel_rfl) (by decide) rfl (by kernel_rfl) (by kernel_rfl) (by kernel_rfl) (by decide) (by simp) (by kernel_rfl) (fun aE hpe => ?_)
      simp only [puts, Act.put, List.setIfInBounds_toArray, List.set_cons_zero, List.set_cons_succ] at hpe
      subst hpe
      refine ⟨?_, ⟨.inr (.inr ?_), .inr (.inr ?_), .inr (.inr ?_), .inr (.inr ?_), .inr (.inr ?_), .inr (.inr ?_), .inr (.inr ?_), .inr (.inr ?_), .inr (.inr ?_), .inr (.inr ?_), .inr (.inr ?_), .inr (.inr ?_), .inr (.inr ?_), .inl rfl, trivial⟩, ?_⟩
      · intro ρ W hr
        have r0 : ρ (.tmp 21) = .int .i64 x0 := hr 21 (by simp [readsOf, Op.operands])
        have r1 : ρ (.tmp 25) = .int .i64 x1 := hr 25 (by simp [readsOf, Op.operands])
        have r2 : ρ (.tmp 29) = .int .i64 x2 := hr 29 (by simp [readsOf, Op.operands])
        simp [execOp, go_sem, r0, r1, r2]
      · exact CalmG.mk 17 (u5) rfl rfl rfl (fun W hW => calm_move (.tmp 5) rfl rfl)
      · exact CalmG.mk 18 (.int .i64 0) rfl rfl rfl (fun W hW => calm_move (.tmp 7) rfl rfl)
      · exact CalmG.mk 19 (.pointer (some ⟨w.heap.size, 0, none⟩)) rfl rfl rfl (fun W hW => calm_run (by first | (simp [execOp, Act.eval, go_sem]; done) | (simp [execOp, Act.eval, go_sem]; rfl)))
      · exact CalmG.mk 20 (.pointer (some ⟨w.heap.size, 0, none⟩)) rfl rfl rfl (fun W hW => calm_run (by first | (simp [execOp, Act.eval, go_sem]; done) | (simp [execOp, Act.eval, go_sem]; rfl)))
      · exact CalmG.mk 21 (.int .i64 x0) rfl rfl rfl (fun W hW => calm_run (by have hc : W.cell? ⟨w.heap.size, 0, none⟩ = some (.int .i64 x0) := (by rw [cell_of_row W _ 0 _ _ _ (by rw [hW.block _ lm]; exact km)]; rfl); simp [execOp, Act.eval, go_sem, hc]))
      · exact CalmG.mk 22 (.int .i64 0) rfl rfl rfl (fun W hW => calm_move (.tmp 7) rfl rfl)
      · exact CalmG.mk 23 (.pointer (some ⟨w.heap.size, 0, none⟩)) rfl rfl rfl (fun W hW => calm_run (by first | (simp [execOp, Act.eval, go_sem]; done) | (simp [execOp, Act.eval, go_sem]; rfl)))
      · exact CalmG.mk 24 (.pointer (some ⟨w.heap.size, 1, none⟩)) rfl rfl rfl (fun W hW => calm_run (by first | (simp [execOp, Act.eval, go_sem]; done) | (simp [execOp, Act.eval, go_sem]; rfl)))
      · exact CalmG.mk 25 (.int .i64 x1) rfl rfl rfl (fun W hW => calm_run (by have hc : W.cell? ⟨w.heap.size, 1, none⟩ = some (.int .i64 x1) := (by rw [cell_of_row W _ 1 _ _ _ (by rw [hW.block _ lm]; exact km)]; rfl); simp [execOp, Act.eval, go_sem, hc]))
      · exact CalmG.mk 26 (.int .i64 0) rfl rfl rfl (fun W hW => calm_move (.tmp 7) rfl rfl)
      · exact CalmG.mk 27 (.pointer (some ⟨w.heap.size, 0, none⟩)) rfl rfl rfl (fun W hW => calm_run (by first | (simp [execOp, Act.eval, go_sem]; done) | (simp [execOp, Act.eval, go_sem]; rfl)))
      · exact CalmG.mk 28 (.pointer (some ⟨w.heap.size, 2, none⟩)) rfl rfl rfl (fun W hW => calm_run (by first | (simp [execOp, Act.eval, go_sem]; done) | (simp [execOp, Act.eval, go_sem]; rfl)))
      · exact CalmG.mk 29 (.int .i64 x2) rfl rfl rfl (fun W hW => calm_run (by have hc : W.cell? ⟨w.heap.size, 2, none⟩ = some (.int .i64 x2) := (by rw [cell_of_row W _ 2 _ _ _ (by rw [hW.block _ lm]; exact km)]; rfl); simp [execOp, Act.eval, go_sem, hc]))
      intro g W hW hg hgc
      simp only [List.drop_succ_cons, List.drop_zero, Act.put, List.setIfInBounds_toArray, List.set_cons_zero, List.set_cons_succ]
      have jm : W.heap[w.heap.size]? = some (.cells #[.int .i64 x0, .int .i64 x1, .int .i64 x2, .int .i64 x3, .int .i64 x4, .int .i64 x5, .int .i64 x6, .int .i64 x7, .int .i64 x8] 77 (0, 0)) := by rw [hW.block _ lm]; exact km
      have jr : W.heap[w.heap.size + 1]? = some (.cells #[.int .i64 0, .int .i64 0, .int .i64 0, .int .i64 0, .int .i64 0, .int .i64 0, .int .i64 0, .int .i64 0, .int .i64 0] 77 (0, 0)) := by rw [hW.block _ lr]; exact kr
      have jo : W.heap[w.heap.size + 1 + 1 + 1]? = some (.cells #[.int .i64 0, .int .i64 0, .int .i64 0, .int .i64 0, .int .i64 0, .int .i64 0, .int .i64 0, .int .i64 0, .int .i64 0] 77 (0, 0)) := by rw [hW.block _ lo]; exact ko
      have HO2 := Lib.hid (own_below HO.out hW)
      have HB2 := Lib.hid (low_tr' HB.out hW HB.out.size)
      have HS := Lib.hid (show [x0, x1, x2, x3, x4, x5, x6, x7, x8].take (3 * 0) ++ [x0, x1, x2] = [x0, x1, x2, x3, x4, x5, x6, x7, x8].take (3 * 1) from rfl)
      have d0 : W.cell? ⟨g, 0, none⟩ = some (.int .i64 x0) := by rw [cell_of_row W _ 0 _ _ _ hgc]; rfl
      have d1 : W.cell? ⟨g, 0 + 1, none⟩ = some (.int .i64 x1) := by rw [cell_of_row W _ 1 _ _ _ hgc]; rfl
      have d2 : W.cell? ⟨g, 0 + 2, none⟩ = some (.int .i64 x2) := by rw [cell_of_row W _ 2 _ _ _ hgc]; rfl
      have HD := Lib.hid (src3 d0 d1 d2)
      have hsz : w.heap.size + 1 + 1 ≤ W.heap.size := by have := (Array.getElem?_eq_some_iff.1 jo).1; omega
      have Jm := Lib.hid jm
      have Jr := Lib.hid jr
      have Jo := Lib.hid jo
      clear km kr ko HO HB hW hgc d0 d1 d2 jm jr jo lm lr lo
      go_wp2_with (at_builtin; refine wpList_append_own _ rfl _ _ 24 rfl (w.heap.size + 1 + 1) 2 i0 (.int .i64 0) 1 8 Try.underlying24 HI0.out HZ0.out HZ1.out HZ2.out rfl (by decide) _ _ _ rfl HO2.out ⟨g, 0, none⟩ 3 3 [.int .i64 x0, .int .i64 x1, .int .i64 x2] rfl rfl HD.out (oneP _ _ _) (by unfold maxLen; omega) (by omega) hsz ?_; intro v2 w2 hown hgrow _; have HO3 := Lib.hid hown; have HG := Lib.hid hgrow; clear hown hgrow)
      have hb := own_base' HO2.out
      have ne : ∀ a, a < w.heap.size + 1 + 1 → some a ≠ u5.ownBlock := fun a ha e => by have := hb a e.symm; omega
      have neo : some (w.heap.size + 1 + 1 + 1) ≠ u5.ownBlock := fun e => own_ne HO2.out Jo.out (by decide) e.symm
      go_roundw
      case rel => exact ⟨1, by omega, rfl, Lib.hid (by rw [← HS.out, ints_app]; exact HO3.out), by rw [HG.out.block _ (Array.getElem?_eq_some_iff.1 Jm.out).1 (ne _ (by omega))]; exact Jm.out, by rw [HG.out.block _ (Array.getElem?_eq_some_iff.1 Jr.out).1 (ne _ (by omega))]; exact Jr.out, by rw [HG.out.block _ (Array.getElem?_eq_some_iff.1 Jo.out).1 neo]; exact Jo.out, Lib.hid (HB2.out.grown HG.out HB2.out.size (fun k' hk' => by have := hb k' hk'; omega))⟩
      case measure => simp [intOf]
    · clear hk
      have lm := (Array.getElem?_eq_some_iff.1 km).1
      have lr := (Array.getElem?_eq_some_iff.1 kr).1
      have lo := (Array.getElem?_eq_some_iff.1 ko).1
      go_wp2
      refine region_boxvia 14 13 30 (fun g => .slice (some ⟨g, 0, none⟩) 3 3) #[.int .i64 x3, .int .i64 x4, .int .i64 x5] 2 [(17, u5), (18, .int .i64 1), (19, .pointer (some ⟨w.heap.size, 3, none⟩)), (20, .pointer (some ⟨w.heap.size, 3, none⟩)), (21, .int .i64 x3), (22, .int .i64 1), (23, .pointer (some ⟨w.heap.size, 3, none⟩)), (24, .pointer (some ⟨w.heap.size, 4, none⟩)), (25, .int .i64 x4), (26, .int .i64 1), (27, .pointer (some ⟨w.heap.size, 3, none⟩)), (28, .pointer (some ⟨w.heap.size, 5, none⟩)), (29, .int .i64 x5)] (by kernel_rfl) (by decide) rfl (by kernel_rfl) (by kernel_rfl) (by kernel_rfl) (by decide) (by simp) (by kernel_rfl) (fun aE hpe => ?_)
      simp only [puts, Act.put, List.setIfInBounds_toArray, List.set_cons_zero, List.set_cons_succ] at hpe
      subst hpe
      refine ⟨?_, ⟨.inr (.inr ?_), .inr (.inr ?_), .inr (.inr ?_), .inr (.inr ?_), .inr (.inr ?_), .inr (.inr ?_), .inr (.inr ?_), .inr (.inr ?_), .inr (.inr ?_), .inr (.inr ?_), .inr (.inr ?_), .inr (.inr ?_), .inr (.inr ?_), .inl rfl, trivial⟩, ?_⟩
      · intro ρ W hr
        have r0 : ρ (.tmp 21) = .int .i64 x3 := hr 21 (by simp [readsOf, Op.operands])
        have r1 : ρ (.tmp 25) = .int .i64 x4 := hr 25 (by simp [readsOf, Op.operands])
        have r2 : ρ (.tmp 29) = .int .i64 x5 := hr 29 (by simp [readsOf, Op.operands])
        simp [execOp, go_sem, r0, r1, r2]
      · exact CalmG.mk 17 (u5) rfl rfl rfl (fun W hW => calm_move (.tmp 5) rfl rfl)
      · exact CalmG.mk 18 (.int .i64 1) rfl rfl rfl (fun W hW => calm_move (.tmp 7) rfl rfl)
      · exact CalmG.mk 19 (.pointer (some ⟨w.heap.size, 3, none⟩)) rfl rfl rfl (fun W hW => calm_run (by first | (simp [execOp, Act.eval, go_sem]; done) | (simp [execOp, Act.eval, go_sem]; rfl)))
      · exact CalmG.mk 20 (.pointer (some ⟨w.heap.size, 3, none⟩)) rfl rfl rfl (fun W hW => calm_run (by first | (simp [execOp, Act.eval, go_sem]; done) | (simp [execOp, Act.eval, go_sem]; rfl)))
      · exact CalmG.mk 21 (.int .i64 x3) rfl rfl rfl (fun W hW => calm_run (by have hc : W.cell? ⟨w.heap.size, 3, none⟩ = some (.int .i64 x3) := (by rw [cell_of_row W _ 3 _ _ _ (by rw [hW.block _ lm]; exact km)]; rfl); simp [execOp, Act.eval, go_sem, hc]))
      · exact CalmG.mk 22 (.int .i64 1) rfl rfl rfl (fun W hW => calm_move (.tmp 7) rfl rfl)
      · exact CalmG.mk 23 (.pointer (some ⟨w.heap.size, 3, none⟩)) rfl rfl rfl (fun W hW => calm_run (by first | (simp [execOp, Act.eval, go_sem]; done) | (simp [execOp, Act.eval, go_sem]; rfl)))
      · exact CalmG.mk 24 (.pointer (some ⟨w.heap.size, 4, none⟩)) rfl rfl rfl (fun W hW => calm_run (by first | (simp [execOp, Act.eval, go_sem]; done) | (simp [execOp, Act.eval, go_sem]; rfl)))
      · exact CalmG.mk 25 (.int .i64 x4) rfl rfl rfl (fun W hW => calm_run (by have hc : W.cell? ⟨w.heap.size, 4, none⟩ = some (.int .i64 x4) := (by rw [cell_of_row W _ 4 _ _ _ (by rw [hW.block _ lm]; exact km)]; rfl); simp [execOp, Act.eval, go_sem, hc]))
      · exact CalmG.mk 26 (.int .i64 1) rfl rfl rfl (fun W hW => calm_move (.tmp 7) rfl rfl)
      · exact CalmG.mk 27 (.pointer (some ⟨w.heap.size, 3, none⟩)) rfl rfl rfl (fun W hW => calm_run (by first | (simp [execOp, Act.eval, go_sem]; done) | (simp [execOp, Act.eval, go_sem]; rfl)))
      · exact CalmG.mk 28 (.pointer (some ⟨w.heap.size, 5, none⟩)) rfl rfl rfl (fun W hW => calm_run (by first | (simp [execOp, Act.eval, go_sem]; done) | (simp [execOp, Act.eval, go_sem]; rfl)))
      · exact CalmG.mk 29 (.int .i64 x5) rfl rfl rfl (fun W hW => calm_run (by have hc : W.cell? ⟨w.heap.size, 5, none⟩ = some (.int .i64 x5) := (by rw [cell_of_row W _ 5 _ _ _ (by rw [hW.block _ lm]; exact km)]; rfl); simp [execOp, Act.eval, go_sem, hc]))
      intro g W hW hg hgc
      simp only [List.drop_succ_cons, List.drop_zero, Act.put, List.setIfInBounds_toArray, List.set_cons_zero, List.set_cons_succ]
      have jm : W.heap[w.heap.size]? = some (.cells #[.int .i64 x0, .int .i64 x1, .int .i64 x2, .int .i64 x3, .int .i64 x4, .int .i64 x5, .int .i64 x6, .int .i64 x7, .int .i64 x8] 77 (0, 0)) := by rw [hW.block _ lm]; exact km
      have jr : W.heap[w.heap.size + 1]? = some (.cells #[.int .i64 0, .int .i64 0, .int .i64 0, .int .i64 0, .int .i64 0, .int .i64 0, .int .i64 0, .int .i64 0, .int .i64 0] 77 (0, 0)) := by rw [hW.block _ lr]; exact kr
      have jo : W.heap[w.heap.size + 1 + 1 + 1]? = some (.cells #[.int .i64 0, .int .i64 0, .int .i64 0, .int .i64 0, .int .i64 0, .int .i64 0, .int .i64 0, .int .i64 0, .int .i64 0] 77 (0, 0)) := by rw [hW.block _ lo]; exact ko
      have HO2 := Lib.hid (own_below HO.out hW)
      have HB2 := Lib.hid (low_tr' HB.out hW HB.out.size)
      have HS := Lib.hid (show [x0, x1, x2, x3, x4, x5, x6, x7, x8].take (3 * 1) ++ [x3, x4, x5] = [x0, x1, x2, x3, x4, x5, x6, x7, x8].take (3 * 2) from rfl)
      have d0 : W.cell? ⟨g, 0, none⟩ = some (.int .i64 x3) := by rw [cell_of_row W _ 0 _ _ _ hgc]; rfl
      have d1 : W.cell? ⟨g, 0 + 1, none⟩ = some (.int .i64 x4) := by rw [cell_of_row W _ 1 _ _ _ hgc]; rfl
      have d2 : W.cell? ⟨g, 0 + 2, none⟩ = some (.int .i64 x5) := by rw [cell_of_row W _ 2 _ _ _ hgc]; rfl
      have HD := Lib.hid (src3 d0 d1 d2)
      have hsz : w.heap.size + 1 + 1 ≤ W.heap.size := by have := (Array.getElem?_eq_some_iff.1 jo).1; omega
      have Jm := Lib.hid jm
      have Jr := Lib.hid jr
      have Jo := Lib.hid jo
      clear km kr ko HO HB hW hgc d0 d1 d2 jm jr jo lm lr lo
      go_wp2_with (at_builtin; refine wpList_append_own _ rfl _ _ 24 rfl (w.heap.size + 1 + 1) 2 i0 (.int .i64 0) 1 8 Try.underlying24 HI0.out HZ0.out HZ1.out HZ2.out rfl (by decide) _ _ _ rfl HO2.out ⟨g, 0, none⟩ 3 3 [.int .i64 x3, .int .i64 x4, .int .i64 x5] rfl rfl HD.out (oneP _ _ _) (by unfold maxLen; omega) (by omega) hsz ?_; intro v2 w2 hown hgrow _; have HO3 := Lib.hid hown; have HG := Lib.hid hgrow; clear hown hgrow)
      have hb := own_base' HO2.out
      have ne : ∀ a, a < w.heap.size + 1 + 1 → some a ≠ u5.ownBlock := fun a ha e => by have := hb a e.symm; omega
      have neo : some (w.heap.size + 1 + 1 + 1) ≠ u5.ownBlock := fun e => own_ne HO2.out Jo.out (by decide) e.symm
      go_roundw
      case rel => exact ⟨2, by omega, rfl, Lib.hid (by rw [← HS.out, ints_app]; exact HO3.out), by rw [HG.out.block _ (Array.getElem?_eq_some_iff.1 Jm.out).1 (ne _ (by omega))]; exact Jm.out, by rw [HG.out.block _ (Array.getElem?_eq_some_iff.1 Jr.out).1 (ne _ (by omega))]; exact Jr.out, by rw [HG.out.block _ (Array.getElem?_eq_some_iff.1 Jo.out).1 neo]; exact Jo.out, Lib.hid (HB2.out.grown HG.out HB2.out.size (fun k' hk' => by have := hb k' hk'; omega))⟩
      case measure => simp [intOf]
    · clear hk
      have lm := (Array.getElem?_eq_some_iff.1 km).1
      have lr := (Array.getElem?_eq_some_iff.1 kr).1
      have lo := (Array.getElem?_eq_some_iff.1 ko).1
      go_wp2
      refine region_boxvia 14 13 30 (fun g => .slice (some ⟨g, 0, none⟩) 3 3) #[.int .i64 x6, .int .i64 x7, .int .i64 x8] 2 [(17, u5), (18, .int .i64 2), (19, .pointer (some ⟨w.heap.size, 6, none⟩)), (20, .pointer (some ⟨w.heap.size, 6, none⟩)), (21, .int .i64 x6), (22, .int .i64 2), (23, .pointer (some ⟨w.heap.size, 6, none⟩)), (24, .pointer (some ⟨w.heap.size, 7, none⟩)), (25, .int .i64 x7), (26, .int .i64 2), (27, .pointer (some ⟨w.heap.size, 6, none⟩)), (28, .pointer (some ⟨w.heap.size, 8, none⟩)), (29, .int .i64 x8)] (by kernel_rfl) (by decide) rfl (by kernel_rfl) (by kernel_rfl) (by kernel_rfl) (by decide) (by simp) (by kernel_rfl) (fun aE hpe => ?_)
      simp only [puts, Act.put, List.setIfInBounds_toArray, List.set_cons_zero, List.set_cons_succ] at hpe
      subst hpe
      refine ⟨?_, ⟨.inr (.inr ?_), .inr (.inr ?_), .inr (.inr ?_), .inr (.inr ?_), .inr (.inr ?_), .inr (.inr ?_), .inr (.inr ?_), .inr (.inr ?_), .inr (.inr ?_), .inr (.inr ?_), .inr (.inr ?_), .inr (.inr ?_), .inr (.inr ?_), .inl rfl, trivial⟩, ?_⟩
      · intro ρ W hr
        have r0 : ρ (.tmp 21) = .int .i64 x6 := hr 21 (by simp [readsOf, Op.operands])
        have r1 : ρ (.tmp 25) = .int .i64 x7 := hr 25 (by simp [readsOf, Op.operands])
        have r2 : ρ (.tmp 29) = .int .i64 x8 := hr 29 (by simp [readsOf, Op.operands])
        simp [execOp, go_sem, r0, r1, r2]
      · exact CalmG.mk 17 (u5) rfl rfl rfl (fun W hW => calm_move (.tmp 5) rfl rfl)
      · exact CalmG.mk 18 (.int .i64 2) rfl rfl rfl (fun W hW => calm_move (.tmp 7) rfl rfl)
      · exact CalmG.mk 19 (.pointer (some ⟨w.heap.size, 6, none⟩)) rfl rfl rfl (fun W hW => calm_run (by first | (simp [execOp, Act.eval, go_sem]; done) | (simp [execOp, Act.eval, go_sem]; rfl)))
      · exact CalmG.mk 20 (.pointer (some ⟨w.heap.size, 6, none⟩)) rfl rfl rfl (fun W hW => calm_run (by first | (simp [execOp, Act.eval, go_sem]; done) | (simp [execOp, Act.eval, go_sem]; rfl)))
      · exact CalmG.mk 21 (.int .i64 x6) rfl rfl rfl (fun W hW => calm_run (by have hc : W.cell? ⟨w.heap.size, 6, none⟩ = some (.int .i64 x6) := (by rw [cell_of_row W _ 6 _ _ _ (by rw [hW.block _ lm]; exact km)]; rfl); simp [execOp, Act.eval, go_sem, hc]))
      · exact CalmG.mk 22 (.int .i64 2) rfl rfl rfl (fun W hW => calm_move (.tmp 7) rfl rfl)
      · exact CalmG.mk 23 (.pointer (some ⟨w.heap.size, 6, none⟩)) rfl rfl rfl (fun W hW => calm_run (by first | (simp [execOp, Act.eval, go_sem]; done) | (simp [execOp, Act.eval, go_sem]; rfl)))
      · exact CalmG.mk 24 (.pointer (some ⟨w.heap.size, 7, none⟩)) rfl rfl rfl (fun W hW => calm_run (by first | (simp [execOp, Act.eval, go_sem]; done) | (simp [execOp, Act.eval, go_sem]; rfl)))
      · exact CalmG.mk 25 (.int .i64 x7) rfl rfl rfl (fun W hW => calm_run (by have hc : W.cell? ⟨w.heap.size, 7, none⟩ = some (.int .i64 x7) := (by rw [cell_of_row W _ 7 _ _ _ (by rw [hW.block _ lm]; exact km)]; rfl); simp [execOp, Act.eval, go_sem, hc]))
      · exact CalmG.mk 26 (.int .i64 2) rfl rfl rfl (fun W hW => calm_move (.tmp 7) rfl rfl)
      · exact CalmG.mk 27 (.pointer (some ⟨w.heap.size, 6, none⟩)) rfl rfl rfl (fun W hW => calm_run (by first | (simp [execOp, Act.eval, go_sem]; done) | (simp [execOp, Act.eval, go_sem]; rfl)))
      · exact CalmG.mk 28 (.pointer (some ⟨w.heap.size, 8, none⟩)) rfl rfl rfl (fun W hW => calm_run (by first | (simp [execOp, Act.eval, go_sem]; done) | (simp [execOp, Act.eval, go_sem]; rfl)))
      · exact CalmG.mk 29 (.int .i64 x8) rfl rfl rfl (fun W hW => calm_run (by have hc : W.cell? ⟨w.heap.size, 8, none⟩ = some (.int .i64 x8) := (by rw [cell_of_row W _ 8 _ _ _ (by rw [hW.block _ lm]; exact km)]; rfl); simp [execOp, Act.eval, go_sem, hc]))
      intro g W hW hg hgc
      simp only [List.drop_succ_cons, List.drop_zero, Act.put, List.setIfInBounds_toArray, List.set_cons_zero, List.set_cons_succ]
      have jm : W.heap[w.heap.size]? = some (.cells #[.int .i64 x0, .int .i64 x1, .int .i64 x2, .int .i64 x3, .int .i64 x4, .int .i64 x5, .int .i64 x6, .int .i64 x7, .int .i64 x8] 77 (0, 0)) := by rw [hW.block _ lm]; exact km
      have jr : W.heap[w.heap.size + 1]? = some (.cells #[.int .i64 0, .int .i64 0, .int .i64 0, .int .i64 0, .int .i64 0, .int .i64 0, .int .i64 0, .int .i64 0, .int .i64 0] 77 (0, 0)) := by rw [hW.block _ lr]; exact kr
      have jo : W.heap[w.heap.size + 1 + 1 + 1]? = some (.cells #[.int .i64 0, .int .i64 0, .int .i64 0, .int .i64 0, .int .i64 0, .int .i64 0, .int .i64 0, .int .i64 0, .int .i64 0] 77 (0, 0)) := by rw [hW.block _ lo]; exact ko
      have HO2 := Lib.hid (own_below HO.out hW)
      have HB2 := Lib.hid (low_tr' HB.out hW HB.out.size)
      have HS := Lib.hid (show [x0, x1, x2, x3, x4, x5, x6, x7, x8].take (3 * 2) ++ [x6, x7, x8] = [x0, x1, x2, x3, x4, x5, x6, x7, x8].take (3 * 3) from rfl)
      have d0 : W.cell? ⟨g, 0, none⟩ = some (.int .i64 x6) := by rw [cell_of_row W _ 0 _ _ _ hgc]; rfl
      have d1 : W.cell? ⟨g, 0 + 1, none⟩ = some (.int .i64 x7) := by rw [cell_of_row W _ 1 _ _ _ hgc]; rfl
      have d2 : W.cell? ⟨g, 0 + 2, none⟩ = some (.int .i64 x8) := by rw [cell_of_row W _ 2 _ _ _ hgc]; rfl
      have HD := Lib.hid (src3 d0 d1 d2)
      have hsz : w.heap.size + 1 + 1 ≤ W.heap.size := by have := (Array.getElem?_eq_some_iff.1 jo).1; omega
      have Jm := Lib.hid jm
      have Jr := Lib.hid jr
      have Jo := Lib.hid jo
      clear km kr ko HO HB hW hgc d0 d1 d2 jm jr jo lm lr lo
      go_wp2_with (at_builtin; refine wpList_append_own _ rfl _ _ 24 rfl (w.heap.size + 1 + 1) 2 i0 (.int .i64 0) 1 8 Try.underlying24 HI0.out HZ0.out HZ1.out HZ2.out rfl (by decide) _ _ _ rfl HO2.out ⟨g, 0, none⟩ 3 3 [.int .i64 x6, .int .i64 x7, .int .i64 x8] rfl rfl HD.out (oneP _ _ _) (by unfold maxLen; omega) (by omega) hsz ?_; intro v2 w2 hown hgrow _; have HO3 := Lib.hid hown; have HG := Lib.hid hgrow; clear hown hgrow)
      have hb := own_base' HO2.out
      have ne : ∀ a, a < w.heap.size + 1 + 1 → some a ≠ u5.ownBlock := fun a ha e => by have := hb a e.symm; omega
      have neo : some (w.heap.size + 1 + 1 + 1) ≠ u5.ownBlock := fun e => own_ne HO2.out Jo.out (by decide) e.symm
      go_roundw
      case rel => exact ⟨3, by omega, rfl, Lib.hid (by rw [← HS.out, ints_app]; exact HO3.out), by rw [HG.out.block _ (Array.getElem?_eq_some_iff.1 Jm.out).1 (ne _ (by omega))]; exact Jm.out, by rw [HG.out.block _ (Array.getElem?_eq_some_iff.1 Jr.out).1 (ne _ (by omega))]; exact Jr.out, by rw [HG.out.block _ (Array.getElem?_eq_some_iff.1 Jo.out).1 neo]; exact Jo.out, Lib.hid (HB2.out.grown HG.out HB2.out.size (fun k' hk' => by have := hb k' hk'; omega))⟩
      case measure => simp [intOf]
    · have ho9 : wr.ownsRow (w.heap.size + 1 + 1) 2 1 u5 9 (ints [x0, x1, x2, x3, x4, x5, x6, x7, x8]) := HO.out
      obtain ⟨g5, cap5, rfl, hb5, hpt5⟩ := ownInts' ho9 rfl (by omega)
      have HP5 := Lib.hid hpt5
      have HB5 := HB
      have lm := (Array.getElem?_eq_some_iff.1 km).1
      have lr := (Array.getElem?_eq_some_iff.1 kr).1
      have lo := (Array.getElem?_eq_some_iff.1 ko).1
      clear HO ho9 hpt5 HB hk
      go_wp2_with (go_at_call 76; refine (HNo.out _ _ _ HP5.out).mono ?_; rintro e w1 ⟨v1, rfl, ho, hb⟩; rw [HNl.out] at ho; obtain ⟨gN, capN, rfl, hbN, hptN⟩ := ownInts' (n := 9) ho rfl (by omega); have HPN := Lib.hid hptN; have HB1 := Lib.hid hb; clear ho hptN hb)
      have jr : w1.heap[w.heap.size + 1]? = some (.cells #[.int .i64 0, .int .i64 0, .int .i64 0, .int .i64 0, .int .i64 0, .int .i64 0, .int .i64 0, .int .i64 0, .int .i64 0] 77 (0, 0)) := by rw [HB1.out.block _ lr]; exact kr
      have jo : w1.heap[w.heap.size + 1 + 1 + 1]? = some (.cells #[.int .i64 0, .int .i64 0, .int .i64 0, .int .i64 0, .int .i64 0, .int .i64 0, .int .i64 0, .int .i64 0, .int .i64 0] 77 (0, 0)) := by rw [HB1.out.block _ lo]; exact ko
      have HBq := Lib.hid (low_tr' HB5.out HB1.out HB5.out.size)
      have hgN : w.heap.size + 1 + 1 + 1 < gN := by omega
      clear km kr ko HB5 HB1 lm lr lo HP5 HNo
      go_loopw [10] (fun i wr => ∃ k : Nat, k ≤ 3 ∧ i = .int .i64 k ∧ Hid (∀ i, i < 9 → wr.cell? ⟨gN, 0 + i, none⟩ = some (.int .i64 ([n0, n1, n2, n3, n4, n5, n6, n7, n8].getD i 0))) ∧ wr.heap[w.heap.size + 1]? = some (.cells #[.int .i64 0, .int .i64 0, .int .i64 0, .int .i64 0, .int .i64 0, .int .i64 0, .int .i64 0, .int .i64 0, .int .i64 0] 77 (0, 0)) ∧ wr.heap[w.heap.size + 1 + 1 + 1]? = some (.cells (outC k n0 n1 n2 n3 n4 n5 n6 n7 n8) 77 (0, 0)) ∧ Hid (Below w.heap.size w wr)) (fun i wr => 3 - (intOf i).toNat)
      case atStart => exact ⟨0, by omega, rfl, HPN, jr, jo, HBq⟩
      case round =>
        clear HPN jr jo HBq
        obtain ⟨k, hk, rfl, HP, kr, ko, HB⟩ := hrel
        rcases (show k = 0 ∨ k = 1 ∨ k = 2 ∨ k = 3 by omega) with rfl | rfl | rfl | rfl
        · clear hk
          have lo := (Array.getElem?_eq_some_iff.1 ko).1
          have lr := (Array.getElem?_eq_some_iff.1 kr).1
          go_wp2
          refine region_then 20 [(47, .int .i64 0), (48, .slice (some ⟨gN, 0, none⟩) 9 capN), (49, .int .i64 0), (50, .int .i64 0), (51, .pointer (some ⟨gN, 0, none⟩)), (52, .int .i64 n0), (53, .slice (some ⟨gN, 0, none⟩) 9 capN), (54, .int .i64 0), (55, .int .i64 0), (56, .int .i64 1), (57, .pointer (some ⟨gN, 1, none⟩)), (58, .int .i64 n1), (59, .slice (some ⟨gN, 0, none⟩) 9 capN), (60, .int .i64 0), (61, .int .i64 0), (62, .int .i64 2), (63, .pointer (some ⟨gN, 2, none⟩)), (64, .int .i64 n2), (65, ptV n0 n1 n2), (66, .pointer (some ⟨w.heap.size + 1 + 1 + 1, 0, none⟩))] (by kernel_rfl) (by decide) (by kernel_rfl) (by kernel_rfl) (by kernel_rfl) (fun aE hpe => ?_)
          simp only [puts, Act.put, List.setIfInBounds_toArray, List.set_cons_zero, List.set_cons_succ] at hpe
          subst hpe
          refine ⟨⟨.inr (.inr ?_), .inr (.inr ?_), .inr (.inr ?_), .inr (.inr ?_), .inr (.inr ?_), .inr (.inr ?_), .inr (.inr ?_), .inr (.inr ?_), .inr (.inr ?_), .inr (.inr ?_), .inr (.inr ?_), .inr (.inr ?_), .inr (.inr ?_), .inr (.inr ?_), .inr (.inr ?_), .inr (.inr ?_), .inr (.inr ?_), .inr (.inr ?_), .inr (.inr ?_), .inr (.inr ?_), trivial⟩, ?_⟩
          · exact CalmG.mk 47 (.int .i64 0) rfl rfl rfl (fun W hW => calm_move (.tmp 10) rfl rfl)
          · exact CalmG.mk 48 (.slice (some ⟨gN, 0, none⟩) 9 capN) rfl rfl rfl (fun W hW => calm_move (.tmp 8) rfl rfl)
          · exact CalmG.mk 49 (.int .i64 0) rfl rfl rfl (fun W hW => calm_move (.tmp 10) rfl rfl)
          · exact CalmG.mk 50 (.int .i64 0) rfl rfl rfl (fun W hW => calm_run (by first | (simp [execOp, Act.eval, go_sem]; done) | (simp [execOp, Act.eval, go_sem]; rfl)))
          · exact CalmG.mk 51 (.pointer (some ⟨gN, 0, none⟩)) rfl rfl rfl (fun W hW => calm_run (by first | (simp [execOp, Act.eval, go_sem]; done) | (simp [execOp, Act.eval, go_sem]; rfl)))
          · exact CalmG.mk 52 (.int .i64 n0) rfl rfl rfl (fun W hW => calm_run (by have hc : W.cell? ⟨gN, 0, none⟩ = some (.int .i64 n0) := cell_below hW (HP.out 0 (by omega)); simp [execOp, Act.eval, go_sem, hc]))
          · exact CalmG.mk 53 (.slice (some ⟨gN, 0, none⟩) 9 capN) rfl rfl rfl (fun W hW => calm_move (.tmp 8) rfl rfl)
          · exact CalmG.mk 54 (.int .i64 0) rfl rfl rfl (fun W hW => calm_move (.tmp 10) rfl rfl)
          · exact CalmG.mk 55 (.int .i64 0) rfl rfl rfl (fun W hW => calm_run (by first | (simp [execOp, Act.eval, go_sem]; done) | (simp [execOp, Act.eval, go_sem]; rfl)))
          · exact CalmG.mk 56 (.int .i64 1) rfl rfl rfl (fun W hW => calm_run (by first | (simp [execOp, Act.eval, go_sem]; done) | (simp [execOp, Act.eval, go_sem]; rfl)))
          · exact CalmG.mk 57 (.pointer (some ⟨gN, 1, none⟩)) rfl rfl rfl (fun W hW => calm_run (by first | (simp [execOp, Act.eval, go_sem]; done) | (simp [execOp, Act.eval, go_sem]; rfl)))
          · exact CalmG.mk 58 (.int .i64 n1) rfl rfl rfl (fun W hW => calm_run (by have hc : W.cell? ⟨gN, 1, none⟩ = some (.int .i64 n1) := cell_below hW (HP.out 1 (by omega)); simp [execOp, Act.eval, go_sem, hc]))
          · exact CalmG.mk 59 (.slice (some ⟨gN, 0, none⟩) 9 capN) rfl rfl rfl (fun W hW => calm_move (.tmp 8) rfl rfl)
          · exact CalmG.mk 60 (.int .i64 0) rfl rfl rfl (fun W hW => calm_move (.tmp 10) rfl rfl)
          · exact CalmG.mk 61 (.int .i64 0) rfl rfl rfl (fun W hW => calm_run (by first | (simp [execOp, Act.eval, go_sem]; done) | (simp [execOp, Act.eval, go_sem]; rfl)))
          · exact CalmG.mk 62 (.int .i64 2) rfl rfl rfl (fun W hW => calm_run (by first | (simp [execOp, Act.eval, go_sem]; done) | (simp [execOp, Act.eval, go_sem]; rfl)))
          · exact CalmG.mk 63 (.pointer (some ⟨gN, 2, none⟩)) rfl rfl rfl (fun W hW => calm_run (by first | (simp [execOp, Act.eval, go_sem]; done) | (simp [execOp, Act.eval, go_sem]; rfl)))
          · exact CalmG.mk 64 (.int .i64 n2) rfl rfl rfl (fun W hW => calm_run (by have hc : W.cell? ⟨gN, 2, none⟩ = some (.int .i64 n2) := cell_below hW (HP.out 2 (by omega)); simp [execOp, Act.eval, go_sem, hc]))
          · exact CalmG.mk 65 (ptV n0 n1 n2) rfl rfl rfl (fun W hW => calm_build 60 _ #[.int .i64 n0, .int .i64 n1, .int .i64 n2] rfl (by kernel_rfl))
          · exact CalmG.mk 66 (.pointer (some ⟨w.heap.size + 1 + 1 + 1, 0, none⟩)) rfl rfl rfl (fun W hW => calm_run (by first | (simp [execOp, Act.eval, go_sem]; done) | (simp [execOp, Act.eval, go_sem]; rfl)))
          intro W hW
          simp only [List.drop_succ_cons, List.drop_zero]
          have jr : W.heap[w.heap.size + 1]? = some (.cells #[.int .i64 0, .int .i64 0, .int .i64 0, .int .i64 0, .int .i64 0, .int .i64 0, .int .i64 0, .int .i64 0, .int .i64 0] 77 (0, 0)) := by rw [hW.block _ lr]; exact kr
          have jo : W.heap[w.heap.size + 1 + 1 + 1]? = some (.cells (outC 0 n0 n1 n2 n3 n4 n5 n6 n7 n8) 77 (0, 0)) := by rw [hW.block _ lo]; exact ko
          have HPW := Lib.hid (fun i (h : i < 9) => cell_below hW (HP.out i h))
          have HBW := Lib.hid (low_tr' HB.out hW HB.out.size)
          have c0 : W.cell? ⟨w.heap.size + 1 + 1 + 1, 0, none⟩ = some (.int .i64 0) := by rw [cell_of_row W _ 0 _ _ _ jo]; rfl
          have f0 := frozen_of_row W (w.heap.size + 1 + 1 + 1) 0 _ _ jo
          have c1 : W.cell? ⟨w.heap.size + 1 + 1 + 1, 1, none⟩ = some (.int .i64 0) := by rw [cell_of_row W _ 1 _ _ _ jo]; rfl
          have f1 := frozen_of_row W (w.heap.size + 1 + 1 + 1) 1 _ _ jo
          have c2 : W.cell? ⟨w.heap.size + 1 + 1 + 1, 2, none⟩ = some (.int .i64 0) := by rw [cell_of_row W _ 2 _ _ _ jo]; rfl
          have f2 := frozen_of_row W (w.heap.size + 1 + 1 + 1) 2 _ _ jo
          have Jr := Lib.hid jr
          have Jo := Lib.hid jo
          have hlo := (Array.getElem?_eq_some_iff.1 jo).1
          clear kr ko HP HB hW jr jo lo lr
          go_wp2
          go_roundw
          case rel => exact ⟨1, by omega, rfl, Lib.hid (fun i h => by rw [World.cell?_setCell_other _ _ _ _ (fun e => by have h2 := congrArg Addr.block e; simp at h2; omega), World.cell?_setCell_other _ _ _ _ (fun e => by have h2 := congrArg Addr.block e; simp at h2; omega), World.cell?_setCell_other _ _ _ _ (fun e => by have h2 := congrArg Addr.block e; simp at h2; omega)]; exact HPW.out i h), by rw [Below.heap_setCell _ _ _ _ (by simp), Below.heap_setCell _ _ _ _ (by simp), Below.heap_setCell _ _ _ _ (by simp)]; exact Jr.out, setCell_heap (setCell_heap (setCell_heap Jo.out _ _) _ _) _ _, Lib.hid (((HBW.out.setCell (by show w.heap.size ≤ w.heap.size + 1 + 1 + 1; omega) _).setCell (by show w.heap.size ≤ w.heap.size + 1 + 1 + 1; omega) _).setCell (by show w.heap.size ≤ w.heap.size + 1 + 1 + 1; omega) _)⟩
          case measure => simp [intOf]
        · clear hk
          have lo := (Array.getElem?_eq_some_iff.1 ko).1
          have lr := (Array.getElem?_eq_some_iff.1 kr).1
          go_wp2
          refine region_then 20 [(47, .int .i64 1), (48, .slice (some ⟨gN, 0, none⟩) 9 capN), (49, .int .i64 1), (50, .int .i64 3), (51, .pointer (some ⟨gN, 3, none⟩)), (52, .int .i64 n3), (53, .slice (some ⟨gN, 0, none⟩) 9 capN), (54, .int .i64 1), (55, .int .i64 3), (56, .int .i64 4), (57, .pointer (some ⟨gN, 4, none⟩)), (58, .int .i64 n4), (59, .slice (some ⟨gN, 0, none⟩) 9 capN), (60, .int .i64 1), (61, .int .i64 3), (62, .int .i64 5), (63, .pointer (some ⟨gN, 5, none⟩)), (64, .int .i64 n5), (65, ptV n3 n4 n5), (66, .pointer (some ⟨w.heap.size + 1 + 1 + 1, 3, none⟩))] (by kernel_rfl) (by decide) (by kernel_rfl) (by kernel_rfl) (by kernel_rfl) (fun aE hpe => ?_)
          simp only [puts, Act.put, List.setIfInBounds_toArray, List.set_cons_zero, List.set_cons_succ] at hpe
          subst hpe
          refine ⟨⟨.inr (.inr ?_), .inr (.inr ?_), .inr (.inr ?_), .inr (.inr ?_), .inr (.inr ?_), .inr (.inr ?_), .inr (.inr ?_), .inr (.inr ?_), .inr (.inr ?_), .inr (.inr ?_), .inr (.inr ?_), .inr (.inr ?_), .inr (.inr ?_), .inr (.inr ?_), .inr (.inr ?_), .inr (.inr ?_), .inr (.inr ?_), .inr (.inr ?_), .inr (.inr ?_), .inr (.inr ?_), trivial⟩, ?_⟩
          · exact CalmG.mk 47 (.int .i64 1) rfl rfl rfl (fun W hW => calm_move (.tmp 10) rfl rfl)
          · exact CalmG.mk 48 (.slice (some ⟨gN, 0, none⟩) 9 capN) rfl rfl rfl (fun W hW => calm_move (.tmp 8) rfl rfl)
          · exact CalmG.mk 49 (.int .i64 1) rfl rfl rfl (fun W hW => calm_move (.tmp 10) rfl rfl)
          · exact CalmG.mk 50 (.int .i64 3) rfl rfl rfl (fun W hW => calm_run (by first | (simp [execOp, Act.eval, go_sem]; done) | (simp [execOp, Act.eval, go_sem]; rfl)))
          · exact CalmG.mk 51 (.pointer (some ⟨gN, 3, none⟩)) rfl rfl rfl (fun W hW => calm_run (by first | (simp [execOp, Act.eval, go_sem]; done) | (simp [execOp, Act.eval, go_sem]; rfl)))
          · exact CalmG.mk 52 (.int .i64 n3) rfl rfl rfl (fun W hW => calm_run (by have hc : W.cell? ⟨gN, 3, none⟩ = some (.int .i64 n3) := cell_below hW (HP.out 3 (by omega)); simp [execOp, Act.eval, go_sem, hc]))
          · exact CalmG.mk 53 (.slice (some ⟨gN, 0, none⟩) 9 capN) rfl rfl rfl (fun W hW => calm_move (.tmp 8) rfl rfl)
          · exact CalmG.mk 54 (.int .i64 1) rfl rfl rfl (fun W hW => calm_move (.tmp 10) rfl rfl)
          · exact CalmG.mk 55 (.int .i64 3) rfl rfl rfl (fun W hW => calm_run (by first | (simp [execOp, Act.eval, go_sem]; done) | (simp [execOp, Act.eval, go_sem]; rfl)))
          · exact CalmG.mk 56 (.int .i64 4) rfl rfl rfl (fun W hW => calm_run (by first | (simp [execOp, Act.eval, go_sem]; done) | (simp [execOp, Act.eval, go_sem]; rfl)))
          · exact CalmG.mk 57 (.pointer (some ⟨gN, 4, none⟩)) rfl rfl rfl (fun W hW => calm_run (by first | (simp [execOp, Act.eval, go_sem]; done) | (simp [execOp, Act.eval, go_sem]; rfl)))
          · exact CalmG.mk 58 (.int .i64 n4) rfl rfl rfl (fun W hW => calm_run (by have hc : W.cell? ⟨gN, 4, none⟩ = some (.int .i64 n4) := cell_below hW (HP.out 4 (by omega)); simp [execOp, Act.eval, go_sem, hc]))
          · exact CalmG.mk 59 (.slice (some ⟨gN, 0, none⟩) 9 capN) rfl rfl rfl (fun W hW => calm_move (.tmp 8) rfl rfl)
          · exact CalmG.mk 60 (.int .i64 1) rfl rfl rfl (fun W hW => calm_move (.tmp 10) rfl rfl)
          · exact CalmG.mk 61 (.int .i64 3) rfl rfl rfl (fun W hW => calm_run (by first | (simp [execOp, Act.eval, go_sem]; done) | (simp [execOp, Act.eval, go_sem]; rfl)))
          · exact CalmG.mk 62 (.int .i64 5) rfl rfl rfl (fun W hW => calm_run (by first | (simp [execOp, Act.eval, go_sem]; done) | (simp [execOp, Act.eval, go_sem]; rfl)))
          · exact CalmG.mk 63 (.pointer (some ⟨gN, 5, none⟩)) rfl rfl rfl (fun W hW => calm_run (by first | (simp [execOp, Act.eval, go_sem]; done) | (simp [execOp, Act.eval, go_sem]; rfl)))
          · exact CalmG.mk 64 (.int .i64 n5) rfl rfl rfl (fun W hW => calm_run (by have hc : W.cell? ⟨gN, 5, none⟩ = some (.int .i64 n5) := cell_below hW (HP.out 5 (by omega)); simp [execOp, Act.eval, go_sem, hc]))
          · exact CalmG.mk 65 (ptV n3 n4 n5) rfl rfl rfl (fun W hW => calm_build 60 _ #[.int .i64 n3, .int .i64 n4, .int .i64 n5] rfl (by kernel_rfl))
          · exact CalmG.mk 66 (.pointer (some ⟨w.heap.size + 1 + 1 + 1, 3, none⟩)) rfl rfl rfl (fun W hW => calm_run (by first | (simp [execOp, Act.eval, go_sem]; done) | (simp [execOp, Act.eval, go_sem]; rfl)))
          intro W hW
          simp only [List.drop_succ_cons, List.drop_zero]
          have jr : W.heap[w.heap.size + 1]? = some (.cells #[.int .i64 0, .int .i64 0, .int .i64 0, .int .i64 0, .int .i64 0, .int .i64 0, .int .i64 0, .int .i64 0, .int .i64 0] 77 (0, 0)) := by rw [hW.block _ lr]; exact kr
          have jo : W.heap[w.heap.size + 1 + 1 + 1]? = some (.cells (outC 1 n0 n1 n2 n3 n4 n5 n6 n7 n8) 77 (0, 0)) := by rw [hW.block _ lo]; exact ko
          have HPW := Lib.hid (fun i (h : i < 9) => cell_below hW (HP.out i h))
          have HBW := Lib.hid (low_tr' HB.out hW HB.out.size)
          have c0 : W.cell? ⟨w.heap.size + 1 + 1 + 1, 3, none⟩ = some (.int .i64 0) := by rw [cell_of_row W _ 3 _ _ _ jo]; rfl
          have f0 := frozen_of_row W (w.heap.size + 1 + 1 + 1) 3 _ _ jo
          have c1 : W.cell? ⟨w.heap.size + 1 + 1 + 1, 4, none⟩ = some (.int .i64 0) := by rw [cell_of_row W _ 4 _ _ _ jo]; rfl
          have f1 := frozen_of_row W (w.heap.size + 1 + 1 + 1) 4 _ _ jo
          have c2 : W.cell? ⟨w.heap.size + 1 + 1 + 1, 5, none⟩ = some (.int .i64 0) := by rw [cell_of_row W _ 5 _ _ _ jo]; rfl
          have f2 := frozen_of_row W (w.heap.size + 1 + 1 + 1) 5 _ _ jo
          have Jr := Lib.hid jr
          have Jo := Lib.hid jo
          have hlo := (Array.getElem?_eq_some_iff.1 jo).1
          clear kr ko HP HB hW jr jo lo lr
          go_wp2
          go_roundw
          case rel => exact ⟨2, by omega, rfl, Lib.hid (fun i h => by rw [World.cell?_setCell_other _ _ _ _ (fun e => by have h2 := congrArg Addr.block e; simp at h2; omega), World.cell?_setCell_other _ _ _ _ (fun e => by have h2 := congrArg Addr.block e; simp at h2; omega), World.cell?_setCell_other _ _ _ _ (fun e => by have h2 := congrArg Addr.block e; simp at h2; omega)]; exact HPW.out i h), by rw [Below.heap_setCell _ _ _ _ (by simp), Below.heap_setCell _ _ _ _ (by simp), Below.heap_setCell _ _ _ _ (by simp)]; exact Jr.out, setCell_heap (setCell_heap (setCell_heap Jo.out _ _) _ _) _ _, Lib.hid (((HBW.out.setCell (by show w.heap.size ≤ w.heap.size + 1 + 1 + 1; omega) _).setCell (by show w.heap.size ≤ w.heap.size + 1 + 1 + 1; omega) _).setCell (by show w.heap.size ≤ w.heap.size + 1 + 1 + 1; omega) _)⟩
          case measure => simp [intOf]
        · clear hk
          have lo := (Array.getElem?_eq_some_iff.1 ko).1
          have lr := (Array.getElem?_eq_some_iff.1 kr).1
          go_wp2
          refine region_then 20 [(47, .int .i64 2), (48, .slice (some ⟨gN, 0, none⟩) 9 capN), (49, .int .i64 2), (50, .int .i64 6), (51, .pointer (some ⟨gN, 6, none⟩)), (52, .int .i64 n6), (53, .slice (some ⟨gN, 0, none⟩) 9 capN), (54, .int .i64 2), (55, .int .i64 6), (56, .int .i64 7), (57, .pointer (some ⟨gN, 7, none⟩)), (58, .int .i64 n7), (59, .slice (some ⟨gN, 0, none⟩) 9 capN), (60, .int .i64 2), (61, .int .i64 6), (62, .int .i64 8), (63, .pointer (some ⟨gN, 8, none⟩)), (64, .int .i64 n8), (65, ptV n6 n7 n8), (66, .pointer (some ⟨w.heap.size + 1 + 1 + 1, 6, none⟩))] (by kernel_rfl) (by decide) (by kernel_rfl) (by kernel_rfl) (by kernel_rfl) (fun aE hpe => ?_)
          simp only [puts, Act.put, List.setIfInBounds_toArray, List.set_cons_zero, List.set_cons_succ] at hpe
          subst hpe
          refine ⟨⟨.inr (.inr ?_), .inr (.inr ?_), .inr (.inr ?_), .inr (.inr ?_), .inr (.inr ?_), .inr (.inr ?_), .inr (.inr ?_), .inr (.inr ?_), .inr (.inr ?_), .inr (.inr ?_), .inr (.inr ?_), .inr (.inr ?_), .inr (.inr ?_), .inr (.inr ?_), .inr (.inr ?_), .inr (.inr ?_), .inr (.inr ?_), .inr (.inr ?_), .inr (.inr ?_), .inr (.inr ?_), trivial⟩, ?_⟩
          · exact CalmG.mk 47 (.int .i64 2) rfl rfl rfl (fun W hW => calm_move (.tmp 10) rfl rfl)
          · exact CalmG.mk 48 (.slice (some ⟨gN, 0, none⟩) 9 capN) rfl rfl rfl (fun W hW => calm_move (.tmp 8) rfl rfl)
          · exact CalmG.mk 49 (.int .i64 2) rfl rfl rfl (fun W hW => calm_move (.tmp 10) rfl rfl)
          · exact CalmG.mk 50 (.int .i64 6) rfl rfl rfl (fun W hW => calm_run (by first | (simp [execOp, Act.eval, go_sem]; done) | (simp [execOp, Act.eval, go_sem]; rfl)))
          · exact CalmG.mk 51 (.pointer (some ⟨gN, 6, none⟩)) rfl rfl rfl (fun W hW => calm_run (by first | (simp [execOp, Act.eval, go_sem]; done) | (simp [execOp, Act.eval, go_sem]; rfl)))
          · exact CalmG.mk 52 (.int .i64 n6) rfl rfl rfl (fun W hW => calm_run (by have hc : W.cell? ⟨gN, 6, none⟩ = some (.int .i64 n6) := cell_below hW (HP.out 6 (by omega)); simp [execOp, Act.eval, go_sem, hc]))
          · exact CalmG.mk 53 (.slice (some ⟨gN, 0, none⟩) 9 capN) rfl rfl rfl (fun W hW => calm_move (.tmp 8) rfl rfl)
          · exact CalmG.mk 54 (.int .i64 2) rfl rfl rfl (fun W hW => calm_move (.tmp 10) rfl rfl)
          · exact CalmG.mk 55 (.int .i64 6) rfl rfl rfl (fun W hW => calm_run (by first | (simp [execOp, Act.eval, go_sem]; done) | (simp [execOp, Act.eval, go_sem]; rfl)))
          · exact CalmG.mk 56 (.int .i64 7) rfl rfl rfl (fun W hW => calm_run (by first | (simp [execOp, Act.eval, go_sem]; done) | (simp [execOp, Act.eval, go_sem]; rfl)))
          · exact CalmG.mk 57 (.pointer (some ⟨gN, 7, none⟩)) rfl rfl rfl (fun W hW => calm_run (by first | (simp [execOp, Act.eval, go_sem]; done) | (simp [execOp, Act.eval, go_sem]; rfl)))
          · exact CalmG.mk 58 (.int .i64 n7) rfl rfl rfl (fun W hW => calm_run (by have hc : W.cell? ⟨gN, 7, none⟩ = some (.int .i64 n7) := cell_below hW (HP.out 7 (by omega)); simp [execOp, Act.eval, go_sem, hc]))
          · exact CalmG.mk 59 (.slice (some ⟨gN, 0, none⟩) 9 capN) rfl rfl rfl (fun W hW => calm_move (.tmp 8) rfl rfl)
          · exact CalmG.mk 60 (.int .i64 2) rfl rfl rfl (fun W hW => calm_move (.tmp 10) rfl rfl)
          · exact CalmG.mk 61 (.int .i64 6) rfl rfl rfl (fun W hW => calm_run (by first | (simp [execOp, Act.eval, go_sem]; done) | (simp [execOp, Act.eval, go_sem]; rfl)))
          · exact CalmG.mk 62 (.int .i64 8) rfl rfl rfl (fun W hW => calm_run (by first | (simp [execOp, Act.eval, go_sem]; done) | (simp [execOp, Act.eval, go_sem]; rfl)))
          · exact CalmG.mk 63 (.pointer (some ⟨gN, 8, none⟩)) rfl rfl rfl (fun W hW => calm_run (by first | (simp [execOp, Act.eval, go_sem]; done) | (simp [execOp, Act.eval, go_sem]; rfl)))
          · exact CalmG.mk 64 (.int .i64 n8) rfl rfl rfl (fun W hW => calm_run (by have hc : W.cell? ⟨gN, 8, none⟩ = some (.int .i64 n8) := cell_below hW (HP.out 8 (by omega)); simp [execOp, Act.eval, go_sem, hc]))
          · exact CalmG.mk 65 (ptV n6 n7 n8) rfl rfl rfl (fun W hW => calm_build 60 _ #[.int .i64 n6, .int .i64 n7, .int .i64 n8] rfl (by kernel_rfl))
          · exact CalmG.mk 66 (.pointer (some ⟨w.heap.size + 1 + 1 + 1, 6, none⟩)) rfl rfl rfl (fun W hW => calm_run (by first | (simp [execOp, Act.eval, go_sem]; done) | (simp [execOp, Act.eval, go_sem]; rfl)))
          intro W hW
          simp only [List.drop_succ_cons, List.drop_zero]
          have jr : W.heap[w.heap.size + 1]? = some (.cells #[.int .i64 0, .int .i64 0, .int .i64 0, .int .i64 0, .int .i64 0, .int .i64 0, .int .i64 0, .int .i64 0, .int .i64 0] 77 (0, 0)) := by rw [hW.block _ lr]; exact kr
          have jo : W.heap[w.heap.size + 1 + 1 + 1]? = some (.cells (outC 2 n0 n1 n2 n3 n4 n5 n6 n7 n8) 77 (0, 0)) := by rw [hW.block _ lo]; exact ko
          have HPW := Lib.hid (fun i (h : i < 9) => cell_below hW (HP.out i h))
          have HBW := Lib.hid (low_tr' HB.out hW HB.out.size)
          have c0 : W.cell? ⟨w.heap.size + 1 + 1 + 1, 6, none⟩ = some (.int .i64 0) := by rw [cell_of_row W _ 6 _ _ _ jo]; rfl
          have f0 := frozen_of_row W (w.heap.size + 1 + 1 + 1) 6 _ _ jo
          have c1 : W.cell? ⟨w.heap.size + 1 + 1 + 1, 7, none⟩ = some (.int .i64 0) := by rw [cell_of_row W _ 7 _ _ _ jo]; rfl
          have f1 := frozen_of_row W (w.heap.size + 1 + 1 + 1) 7 _ _ jo
          have c2 : W.cell? ⟨w.heap.size + 1 + 1 + 1, 8, none⟩ = some (.int .i64 0) := by rw [cell_of_row W _ 8 _ _ _ jo]; rfl
          have f2 := frozen_of_row W (w.heap.size + 1 + 1 + 1) 8 _ _ jo
          have Jr := Lib.hid jr
          have Jo := Lib.hid jo
          have hlo := (Array.getElem?_eq_some_iff.1 jo).1
          clear kr ko HP HB hW jr jo lo lr
          go_wp2
          go_roundw
          case rel => exact ⟨3, by omega, rfl, Lib.hid (fun i h => by rw [World.cell?_setCell_other _ _ _ _ (fun e => by have h2 := congrArg Addr.block e; simp at h2; omega), World.cell?_setCell_other _ _ _ _ (fun e => by have h2 := congrArg Addr.block e; simp at h2; omega), World.cell?_setCell_other _ _ _ _ (fun e => by have h2 := congrArg Addr.block e; simp at h2; omega)]; exact HPW.out i h), by rw [Below.heap_setCell _ _ _ _ (by simp), Below.heap_setCell _ _ _ _ (by simp), Below.heap_setCell _ _ _ _ (by simp)]; exact Jr.out, setCell_heap (setCell_heap (setCell_heap Jo.out _ _) _ _) _ _, Lib.hid (((HBW.out.setCell (by show w.heap.size ≤ w.heap.size + 1 + 1 + 1; omega) _).setCell (by show w.heap.size ≤ w.heap.size + 1 + 1 + 1; omega) _).setCell (by show w.heap.size ≤ w.heap.size + 1 + 1 + 1; omega) _)⟩
          case measure => simp [intOf]
        · have hlr := (Array.getElem?_eq_some_iff.1 kr).1
          go_wp2_with (first
            | (refine wpList_load_row _ rfl 77 _ rfl (g := w.heap.size + 1 + 1 + 1) (T := 77) (cs := #[.int .i64 n0, .int .i64 n1, .int .i64 n2, .int .i64 n3, .int .i64 n4, .int .i64 n5, .int .i64 n6, .int .i64 n7, .int .i64 n8]) (fr := (0, 0)) rfl ko 9 rfl Try.sizeOf77 Try.isAgg77 ?_)
            | (refine wpList_store_row _ rfl 77 _ _ rfl rfl (g := w.heap.size + 1) (T := 77) (cs := #[.int .i64 0, .int .i64 0, .int .i64 0, .int .i64 0, .int .i64 0, .int .i64 0, .int .i64 0, .int .i64 0, .int .i64 0]) (U := #[.int .i64 n0, .int .i64 n1, .int .i64 n2, .int .i64 n3, .int .i64 n4, .int .i64 n5, .int .i64 n6, .int .i64 n7, .int .i64 n8]) rfl rfl kr rfl Try.sizeOf77 (by simp [Value.oneCell']) ?_))
          exact bodyPost_ret (v := .agg #[.int .i64 n0, .int .i64 n1, .int .i64 n2, .int .i64 n3, .int .i64 n4, .int .i64 n5, .int .i64 n6, .int .i64 n7, .int .i64 n8]) (results_row Try.results80 rfl (setRow_heap _ _ _ _ _ _ kr) 9 rfl Try.sizeOf77 Try.isAgg77) rfl ⟨rfl, below_setRowN HB.out (by omega) _⟩

end Go.Proofs.Ytbeeecahkchjnaa
/- '==' on maps. -/
namespace Go.Proofs.Ytbeeecahkchjnaa
open Go.RowKit
set_option linter.unusedVariables false
set_option linter.unusedSimpArgs false
theorem partMap (w : World) (x0 x1 x2 x3 x4 x5 x6 x7 x8 : Int) :
    (part 60 #[.int .i64 x0, .int .i64 x1, .int .i64 x2, .int .i64 x3, .int .i64 x4, .int .i64 x5, .int .i64 x6, .int .i64 x7, .int .i64 x8] 0).run Try.prog w = .ok (ptV x0 x1 x2) w ∧ (part 60 #[.int .i64 x0, .int .i64 x1, .int .i64 x2, .int .i64 x3, .int .i64 x4, .int .i64 x5, .int .i64 x6, .int .i64 x7, .int .i64 x8] 3).run Try.prog w = .ok (ptV x3 x4 x5) w ∧ (part 60 #[.int .i64 x0, .int .i64 x1, .int .i64 x2, .int .i64 x3, .int .i64 x4, .int .i64 x5, .int .i64 x6, .int .i64 x7, .int .i64 x8] 6).run Try.prog w = .ok (ptV x6 x7 x8) w := by
  refine ⟨?_, ?_, ?_⟩
  · unfold part; rw [Sem.run_bind, Try.isAgg60]; simp only [Result.andThen_ok, if_true]; rw [Sem.run_bind, Try.sizeOf60]; rfl
  · unfold part; rw [Sem.run_bind, Try.isAgg60]; simp only [Result.andThen_ok, if_true]; rw [Sem.run_bind, Try.sizeOf60]; rfl
  · unfold part; rw [Sem.run_bind, Try.isAgg60]; simp only [Result.andThen_ok, if_true]; rw [Sem.run_bind, Try.sizeOf60]; rfl
theorem eqRow (w : World) (d : Nat) (a0 a1 a2 b0 b1 b2 : Int) : (Op.equalIn (d + 1 + 1) 60 (ptV a0 a1 a2) (ptV b0 b1 b2)).run Try.prog w = .ok (eqP (a0, a1, a2) (b0, b1, b2)) w :=
  eq_arr3 (i := Try.t2) w d Try.underlying60 (by kernel_rfl) (by kernel_rfl) Try.underlying2 (by kernel_rfl) _ _ _ _ _ _
theorem cellsRow : Try.prog.cellsOf 60 = 3 := by kernel_rfl
def eqM (a b c a' b' c' : Pt) : Bool := eqP a a' && (eqP b b' && eqP c c')
theorem eqM_iff {a b c a' b' c' : Pt} : eqM a b c a' b' c' = true ↔ a = a' ∧ b = b' ∧ c = c' := by
  unfold eqM; simp only [Bool.and_eq_true, eqP_iff]
theorem eqAMap (w : World) (x0 x1 x2 x3 x4 x5 x6 x7 x8 y0 y1 y2 y3 y4 y5 y6 y7 y8 : Int) : (Op.equalIn 10000 77 (.agg #[.int .i64 x0, .int .i64 x1, .int .i64 x2, .int .i64 x3, .int .i64 x4, .int .i64 x5, .int .i64 x6, .int .i64 x7, .int .i64 x8]) (.agg #[.int .i64 y0, .int .i64 y1, .int .i64 y2, .int .i64 y3, .int .i64 y4, .int .i64 y5, .int .i64 y6, .int .i64 y7, .int .i64 y8])).run Try.prog w = .ok (eqM (x0, x1, x2) (x3, x4, x5) (x6, x7, x8) (y0, y1, y2) (y3, y4, y5) (y6, y7, y8)) w := by
  obtain ⟨p0, p1, p2⟩ := partMap w x0 x1 x2 x3 x4 x5 x6 x7 x8
  obtain ⟨q0, q1, q2⟩ := partMap w y0 y1 y2 y3 y4 y5 y6 y7 y8
  have e := eqRow w 9997
  rw [run_equalIn_array (i := Try.t60) w 9999 _ _ Try.underlying77 (by kernel_rfl), cellsRow]
  simp only [List.range_succ_eq_map, List.range_zero, List.map_cons, List.map_nil, Op.eqItems, Nat.succ_eq_add_one, Nat.zero_add, Nat.reduceAdd, Nat.reduceMul, Nat.zero_mul, Sem.run_bind, p0, q0, Result.andThen_ok, e]
  unfold eqM
  cases h0 : eqP (x0, x1, x2) (y0, y1, y2) <;> cases h1 : eqP (x3, x4, x5) (y3, y4, y5) <;> cases h2 : eqP (x6, x7, x8) (y6, y7, y8) <;> simp [p1, q1, p2, q2, e, h0, h1, h2]
@[go_sem high] theorem eqMp (w : World) (x0 x1 x2 x3 x4 x5 x6 x7 x8 y0 y1 y2 y3 y4 y5 y6 y7 y8 : Int) : (binOp .eql 77 (.agg #[.int .i64 x0, .int .i64 x1, .int .i64 x2, .int .i64 x3, .int .i64 x4, .int .i64 x5, .int .i64 x6, .int .i64 x7, .int .i64 x8]) (.agg #[.int .i64 y0, .int .i64 y1, .int .i64 y2, .int .i64 y3, .int .i64 y4, .int .i64 y5, .int .i64 y6, .int .i64 y7, .int .i64 y8])).run Try.prog w = .ok (.bool (eqM (x0, x1, x2) (x3, x4, x5) (x6, x7, x8) (y0, y1, y2) (y3, y4, y5) (y6, y7, y8))) w := by
  rw [run_eql_struct, eqAMap]; rfl
theorem eqgMp : Try.prog.eqGuardType Try.prog.depth 77 = false := by kernel_rfl
end Go.Proofs.Ytbeeecahkchjnaa
/- Contracts: whether numbers are a map, a conic, a desk: the reference. -/
namespace Go.Proofs.Ytbeeecahkchjnaa
open Go.RowKit
set_option linter.unusedVariables false
set_option linter.unusedSimpArgs false
end Go.Proofs.Ytbeeecahkchjnaa
/- Contracts: the laws' own maps, conics, desks. (Printed by genm7.py, a program of this session.) -/
namespace Go.Proofs.Ytbeeecahkchjnaa
open Go.RowKit
set_option linter.unusedVariables false
set_option linter.unusedSimpArgs false
end Go.Proofs.Ytbeeecahkchjnaa
/- The law FnExactIsDesk: walked. -/
namespace Go.Proofs.Ytbeeecahkchjnaa
open Go.RowKit
set_option linter.unusedVariables false
set_option linter.unusedSimpArgs false
end Go.Proofs.Ytbeeecahkchjnaa
/- Contracts: maps turned and multiplied, as the program does it. (Printed by gens1.py, a program of this session.) -/
namespace Go.Proofs.Ytbeeecahkchjnaa
open Go.RowKit
set_option linter.unusedVariables false
set_option linter.unusedSimpArgs false
@[simp] theorem setRow_sizeS (w : World) (g : Nat) (cs : Array Value) : (w.setRow g cs).heap.size = w.heap.size := by simp [World.setRow]
theorem wpList_store1 {P : Program} (w : World) {ops : Array Oper} {rest : List Oper} {o : Oper} {a : Act} {Q : Exit → Act → World → Prop}
    (hgd : o.guard = none) (ty : TypeId) (x y : Operand) (hop : o.op = .store ty x y) (hd : o.dst = none) {g off : Nat} {T : TypeId} {cs cs' : Array Value} {z : Int} (hx : a.eval x = .pointer (some ⟨g, off, none⟩)) (hy : a.eval y = .int .i64 z)
    (hg : w.heap[g]? = some (.cells cs T (0, 0))) (hn : off + 1 ≤ cs.size) (he : (cs.toList.take off ++ [Value.int .i64 z] ++ cs.toList.drop (off + 1)).toArray = cs') (hs : ∀ W, (sizeOf ty).run P W = .ok 1 W) (hK : wpList P ops Q rest a (w.setRow g cs')) : wpList P ops Q (o :: rest) a w := by
  refine wpList_plain hgd fun K hK' => ?_
  have hst := run_storeCells_at (P := P) g off T [Value.int .i64 z] 0 cs w hg (by simpa using hn) (by intro v hv; rw [List.mem_singleton.1 hv]; rfl)
  rw [Nat.add_zero, show ([Value.int .i64 z] : List Value).length = 1 from rfl, he] at hst
  have hv : (storeVar ty ⟨g, off, none⟩ (.int .i64 z)).run P w = .ok () (w.setRow g cs') := by
    unfold storeVar
    rw [Sem.run_bind, hs]
    simp only [Result.andThen_ok, Value.cells, ne_eq, List.size_toArray, List.length_cons, List.length_nil, Nat.zero_add, not_true_eq_false, if_false]
    exact hst
  have hr : (execOp a.eval o).run P w = .ok .skip (w.setRow g cs') := by
    unfold execOp
    simp only [hop, hx, hy, Instr.storeAt, Instr.sureAddr, Sem.run_bind, Sem.run_pure, Result.andThen_ok, hv]
  unfold Oper.wp
  rw [hr]
  simp only [Oper.upon, hd]
  exact hK' _ _ hK
theorem row_int {w : World} {g off : Nat} {cs : Array Value} {T : TypeId} {fr : Nat × Nat} {z : Int} (h : w.heap[g]? = some (.cells cs T fr)) (hz : cs[off]? = some (.int .i64 z)) : w.cell? ⟨g, off, none⟩ = some (.int .i64 z) := by
  rw [cell_of_row w g off _ _ _ h]; exact hz
end Go.Proofs.Ytbeeecahkchjnaa
/- Contracts: maps made normal and multiplied, as the program does it. (Printed by gens2.py, a program of this session.) -/
namespace Go.Proofs.Ytbeeecahkchjnaa
open Go.RowKit
set_option linter.unusedVariables false
set_option linter.unusedSimpArgs false
set_option maxRecDepth 20000 in
theorem unit_spec (w : World) : Calls Try.prog 77 #[] w (Ret w (.agg #[.int .i64 1, .int .i64 0, .int .i64 0, .int .i64 0, .int .i64 1, .int .i64 0, .int .i64 0, .int .i64 0, .int .i64 1])) := by
  go_enter Try.func77, Try.ntmps77
  go_wp2
  exact bodyPost_ret (v := .agg #[.int .i64 1, .int .i64 0, .int .i64 0, .int .i64 0, .int .i64 1, .int .i64 0, .int .i64 0, .int .i64 0, .int .i64 1]) (by simp [results, Try.results77, go_sem]) rfl ⟨rfl, (by repeat (first | exact Below.refl _ _ | refine bset ?_ _ _ (by omega) _ | refine bal ?_ _ | refine bdrN ?_ _ | refine bdr ?_))⟩
end Go.Proofs.Ytbeeecahkchjnaa

