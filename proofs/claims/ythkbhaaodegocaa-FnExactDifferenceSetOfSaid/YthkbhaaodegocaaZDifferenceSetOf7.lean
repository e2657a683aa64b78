/- Texts of the claim, in build order: S2. No condition. -/
import Derived.Laws.Cover3
import Derived.Test.YthkbhaaodegocaaZDifferenceSetOf6
/- Contracts: maps made normal and multiplied, as the program does it. (Printed by gens2.py, a program of this session.) -/
namespace Go.Proofs.Ythkbhaaodegocaa
open Go.RowKit
set_option linter.unusedVariables false
set_option linter.unusedSimpArgs false
theorem ownInts2 {W : World} {base : Nat} {T : TypeId} {v : Value} {l : List Int} {n : Nat} (h : W.ownsRow base T 1 v n (ints l)) (hl : l.length = n) (hn : 0 < n) :
    ∃ g cap, v = .slice (some ⟨g, 0, none⟩) n cap ∧ base ≤ g ∧ g < W.heap.size ∧ n ≤ cap ∧ (∀ i, i < n → W.cell? ⟨g, 0 + i, none⟩ = some (.int .i64 (l.getD i 0))) ∧ ∀ i, W.frozen? ⟨g, i, none⟩ = false := by
  obtain ⟨g, cap, e, hc⟩ := ownInts h hl hn
  rcases h.2 with ⟨_, h0⟩ | ⟨g', cap', cur, e', hb, hg, hle, _, hsz, htk⟩
  · omega
  · rw [e] at e'
    cases e'
    exact ⟨g, cap, e, hb, (Array.getElem?_eq_some_iff.1 hg).1, hle, hc, fun i => frozen_of_row W g i _ _ hg⟩
theorem set_nine {W : World} {g : Nat} {l : List Int} (hc : ∀ i, i < 9 → W.cell? ⟨g, 0 + i, none⟩ = some (.int .i64 (l.getD i 0))) (N : List Int) (hN : N.length = 9) (i : Nat) (hi : i < 9) : (setInts W g 0 N).cell? ⟨g, i, none⟩ = some (.int .i64 (N.getD i 0)) := by
  have := setInts_cell W g 0 N (fun j hj => by rw [hc j (by omega)]; rfl) i (by omega)
  rwa [Nat.zero_add] at this
set_option maxRecDepth 20000 in
set_option maxHeartbeats 4000000 in
theorem normalMap_any (p x0 x1 x2 x3 x4 x5 x6 x7 x8 : Int) (w : World) (hp : prB p = true) (hx : ∀ x ∈ [x0, x1, x2, x3, x4, x5, x6, x7, x8], -4611686018427387904 ≤ x ∧ x ≤ 4611686018427387904) (f : Int) (hf : facL p [x0, x1, x2, x3, x4, x5, x6, x7, x8] = f) :
    Calls Try.prog 181 #[.int .i64 p, .agg #[.int .i64 x0, .int .i64 x1, .int .i64 x2, .int .i64 x3, .int .i64 x4, .int .i64 x5, .int .i64 x6, .int .i64 x7, .int .i64 x8]] w (Ret w (.agg #[.int .i64 (x0 % p * f % p), .int .i64 (x1 % p * f % p), .int .i64 (x2 % p * f % p), .int .i64 (x3 % p * f % p), .int .i64 (x4 % p * f % p), .int .i64 (x5 % p * f % p), .int .i64 (x6 % p * f % p), .int .i64 (x7 % p * f % p), .int .i64 (x8 % p * f % p)])) := by
  have HF := Lib.hid (fun (W : World) => flat_any x0 x1 x2 x3 x4 x5 x6 x7 x8 W)
  have HNl := Lib.hid (show normL p [x0, x1, x2, x3, x4, x5, x6, x7, x8] = [x0 % p * f % p, x1 % p * f % p, x2 % p * f % p, x3 % p * f % p, x4 % p * f % p, x5 % p * f % p, x6 % p * f % p, x7 % p * f % p, x8 % p * f % p] by unfold normL; rw [hf]; rfl)
  have HN := Lib.hid (fun (W : World) (g cap : Nat) hc hz => normal_any p g 0 9 cap [x0, x1, x2, x3, x4, x5, x6, x7, x8] W hp rfl (by omega) hc hz (fun i hi => hx _ (by
    have hl : i < [x0, x1, x2, x3, x4, x5, x6, x7, x8].length := hi
    simp only [List.getD, List.getElem?_eq_getElem hl, Option.getD_some]
    exact List.getElem_mem hl)))
  rw [HNl.out] at HN
  clear HNl hx hf hp
  generalize x0 % p * f % p = n0 at *
  generalize x1 % p * f % p = n1 at *
  generalize x2 % p * f % p = n2 at *
  generalize x3 % p * f % p = n3 at *
  generalize x4 % p * f % p = n4 at *
  generalize x5 % p * f % p = n5 at *
  generalize x6 % p * f % p = n6 at *
  generalize x7 % p * f % p = n7 at *
  generalize x8 % p * f % p = n8 at *
  generalize nzB p [x0, x1, x2, x3, x4, x5, x6, x7, x8] = nb at *
  go_enter Try.func181, Try.ntmps181
  go_wp2_with (first
    | (go_at_call 135; (with_reducible refine (HF.out _).mono ?_); rintro e w1 ⟨v1, rfl, ho, hb⟩; obtain ⟨g, cap, rfl, hg0, hg1, hcap, hpt, hfz⟩ := ownInts2 (n := 9) ho rfl (by omega); have HO1 := Lib.hid hpt; have HFz := Lib.hid hfz; have HB1 := Lib.hid hb; clear ho hb hpt hfz)
    | (go_at_call 183; refine (HN.out _ _ _ HO1.out (fun i _ => HFz.out _)).mono ?_; rintro e w' ⟨rfl, rfl⟩))
  have HB : Below ((w.alloc (.cells #[.int .i64 x0, .int .i64 x1, .int .i64 x2, .int .i64 x3, .int .i64 x4, .int .i64 x5, .int .i64 x6, .int .i64 x7, .int .i64 x8] 26)).alloc (.cells #[.int .i64 0, .int .i64 0, .int .i64 0, .int .i64 0, .int .i64 0, .int .i64 0, .int .i64 0, .int .i64 0, .int .i64 0] 26)).heap.size ((w.alloc (.cells #[.int .i64 x0, .int .i64 x1, .int .i64 x2, .int .i64 x3, .int .i64 x4, .int .i64 x5, .int .i64 x6, .int .i64 x7, .int .i64 x8] 26)).alloc (.cells #[.int .i64 0, .int .i64 0, .int .i64 0, .int .i64 0, .int .i64 0, .int .i64 0, .int .i64 0, .int .i64 0, .int .i64 0] 26)) (setInts w1 g 0 [n0, n1, n2, n3, n4, n5, n6, n7, n8]) := below_setInts HB1.out hg0 0 _
  have q0 : (setInts w1 g 0 [n0, n1, n2, n3, n4, n5, n6, n7, n8]).cell? ⟨g, 0, none⟩ = some (.int .i64 n0) := set_nine HO1.out [n0, n1, n2, n3, n4, n5, n6, n7, n8] rfl 0 (by omega)
  have q1 : (setInts w1 g 0 [n0, n1, n2, n3, n4, n5, n6, n7, n8]).cell? ⟨g, 1, none⟩ = some (.int .i64 n1) := set_nine HO1.out [n0, n1, n2, n3, n4, n5, n6, n7, n8] rfl 1 (by omega)
  have q2 : (setInts w1 g 0 [n0, n1, n2, n3, n4, n5, n6, n7, n8]).cell? ⟨g, 2, none⟩ = some (.int .i64 n2) := set_nine HO1.out [n0, n1, n2, n3, n4, n5, n6, n7, n8] rfl 2 (by omega)
  have q3 : (setInts w1 g 0 [n0, n1, n2, n3, n4, n5, n6, n7, n8]).cell? ⟨g, 3, none⟩ = some (.int .i64 n3) := set_nine HO1.out [n0, n1, n2, n3, n4, n5, n6, n7, n8] rfl 3 (by omega)
  have q4 : (setInts w1 g 0 [n0, n1, n2, n3, n4, n5, n6, n7, n8]).cell? ⟨g, 4, none⟩ = some (.int .i64 n4) := set_nine HO1.out [n0, n1, n2, n3, n4, n5, n6, n7, n8] rfl 4 (by omega)
  have q5 : (setInts w1 g 0 [n0, n1, n2, n3, n4, n5, n6, n7, n8]).cell? ⟨g, 5, none⟩ = some (.int .i64 n5) := set_nine HO1.out [n0, n1, n2, n3, n4, n5, n6, n7, n8] rfl 5 (by omega)
  have q6 : (setInts w1 g 0 [n0, n1, n2, n3, n4, n5, n6, n7, n8]).cell? ⟨g, 6, none⟩ = some (.int .i64 n6) := set_nine HO1.out [n0, n1, n2, n3, n4, n5, n6, n7, n8] rfl 6 (by omega)
  have q7 : (setInts w1 g 0 [n0, n1, n2, n3, n4, n5, n6, n7, n8]).cell? ⟨g, 7, none⟩ = some (.int .i64 n7) := set_nine HO1.out [n0, n1, n2, n3, n4, n5, n6, n7, n8] rfl 7 (by omega)
  have q8 : (setInts w1 g 0 [n0, n1, n2, n3, n4, n5, n6, n7, n8]).cell? ⟨g, 8, none⟩ = some (.int .i64 n8) := set_nine HO1.out [n0, n1, n2, n3, n4, n5, n6, n7, n8] rfl 8 (by omega)
  have hgV : g < (setInts w1 g 0 [n0, n1, n2, n3, n4, n5, n6, n7, n8]).heap.size := by rw [setInts_size]; exact hg1
  simp at hg0
  clear HB1 HO1 HFz HN HF hg1
  generalize setInts w1 g 0 [n0, n1, n2, n3, n4, n5, n6, n7, n8] = V at *
  clear w1
  have kr : V.heap[w.heap.size + 1]? = some (.cells #[.int .i64 0, .int .i64 0, .int .i64 0, .int .i64 0, .int .i64 0, .int .i64 0, .int .i64 0, .int .i64 0, .int .i64 0] 26 (0, 0)) := by rw [HB.block _ (by simp), hn_atN _ _ _ (by simp)]
  have HBw : Below w.heap.size w V := below_tr' ((by repeat (first | exact Below.refl _ _ | refine bset ?_ _ _ (by omega) _ | refine bal ?_ _ | refine bdrN ?_ _ | refine bdr ?_))) HB
  clear HB
  have lr := (Array.getElem?_eq_some_iff.1 kr).1
  refine region_via 12 [(11, .slice (some ⟨g, 0, none⟩) 9 cap), (12, .pointer (some ⟨g, 0, none⟩)), (13, ptV n0 n1 n2), (14, .slice (some ⟨g, 0, none⟩) 9 cap), (15, .slice (some ⟨g, 3, none⟩) 6 (cap - 3)), (16, .pointer (some ⟨g, 3, none⟩)), (17, ptV n3 n4 n5), (18, .slice (some ⟨g, 0, none⟩) 9 cap), (19, .slice (some ⟨g, 6, none⟩) 3 (cap - 6)), (20, .pointer (some ⟨g, 6, none⟩)), (21, ptV n6 n7 n8), (22, .agg #[.int .i64 n0, .int .i64 n1, .int .i64 n2, .int .i64 n3, .int .i64 n4, .int .i64 n5, .int .i64 n6, .int .i64 n7, .int .i64 n8])] (by kernel_rfl) (by decide) (by kernel_rfl) (by kernel_rfl) (by kernel_rfl) (fun aE hpe => ?_)
  simp only [puts, Act.put, List.setIfInBounds_toArray, List.set_cons_zero, List.set_cons_succ] at hpe
  subst hpe
  refine ⟨⟨.inr (.inr ?_), .inr (.inr ?_), .inr (.inr ?_), .inr (.inr ?_), .inr (.inr ?_), .inr (.inr ?_), .inr (.inr ?_), .inr (.inr ?_), .inr (.inr ?_), .inr (.inr ?_), .inr (.inr ?_), .inr (.inr ?_), trivial⟩, ?_⟩
  · exact CalmG.mk 11 (.slice (some ⟨g, 0, none⟩) 9 cap) rfl rfl rfl (fun W hW => calm_move (.tmp 5) rfl rfl)
  · exact CalmG.mk 12 (.pointer (some ⟨g, 0, none⟩)) rfl rfl rfl (fun W hW => calm_run (by simp [execOp, Act.eval, go_sem, run_arrayAt (P := Try.prog) (w := W) (arr := 22) (e := 2) (n := 3) (a := some ⟨g, 0, none⟩) (len := 9) (cap := cap) (h := Try.underlying22) (hn := by omega)]))
  · exact CalmG.mk 13 (ptV n0 n1 n2) rfl rfl rfl (fun W hW => calm_loadPt' 22 (.tmp 12) rfl rfl (cell_below hW q0) (cell_below hW q1) (cell_below hW q2) Try.sizeOf22 Try.isAgg22)
  · exact CalmG.mk 14 (.slice (some ⟨g, 0, none⟩) 9 cap) rfl rfl rfl (fun W hW => calm_move (.tmp 5) rfl rfl)
  · exact CalmG.mk 15 (.slice (some ⟨g, 3, none⟩) 6 (cap - 3)) rfl rfl rfl (fun W hW => calm_run (by simp [execOp, Act.eval, go_sem, hcap]; try omega))
  · exact CalmG.mk 16 (.pointer (some ⟨g, 3, none⟩)) rfl rfl rfl (fun W hW => calm_run (by simp [execOp, Act.eval, go_sem, run_arrayAt (P := Try.prog) (w := W) (arr := 22) (e := 2) (n := 3) (a := some ⟨g, 3, none⟩) (len := 6) (cap := cap - 3) (h := Try.underlying22) (hn := by omega)]))
  · exact CalmG.mk 17 (ptV n3 n4 n5) rfl rfl rfl (fun W hW => calm_loadPt' 22 (.tmp 16) rfl rfl (cell_below hW q3) (cell_below hW q4) (cell_below hW q5) Try.sizeOf22 Try.isAgg22)
  · exact CalmG.mk 18 (.slice (some ⟨g, 0, none⟩) 9 cap) rfl rfl rfl (fun W hW => calm_move (.tmp 5) rfl rfl)
  · exact CalmG.mk 19 (.slice (some ⟨g, 6, none⟩) 3 (cap - 6)) rfl rfl rfl (fun W hW => calm_run (by simp [execOp, Act.eval, go_sem, hcap]; try omega))
  · exact CalmG.mk 20 (.pointer (some ⟨g, 6, none⟩)) rfl rfl rfl (fun W hW => calm_run (by simp [execOp, Act.eval, go_sem, run_arrayAt (P := Try.prog) (w := W) (arr := 22) (e := 2) (n := 3) (a := some ⟨g, 6, none⟩) (len := 3) (cap := cap - 6) (h := Try.underlying22) (hn := by omega)]))
  · exact CalmG.mk 21 (ptV n6 n7 n8) rfl rfl rfl (fun W hW => calm_loadPt' 22 (.tmp 20) rfl rfl (cell_below hW q6) (cell_below hW q7) (cell_below hW q8) Try.sizeOf22 Try.isAgg22)
  · exact CalmG.mk 22 (.agg #[.int .i64 n0, .int .i64 n1, .int .i64 n2, .int .i64 n3, .int .i64 n4, .int .i64 n5, .int .i64 n6, .int .i64 n7, .int .i64 n8]) rfl rfl rfl (fun W hW => calm_run (by simp [execOp, Act.eval, go_sem]))
  intro W hW
  simp only [List.drop_succ_cons, List.drop_zero]
  refine wpList_store_row _ rfl 26 _ _ rfl rfl (g := w.heap.size + 1) (T := 26) (cs := #[.int .i64 0, .int .i64 0, .int .i64 0, .int .i64 0, .int .i64 0, .int .i64 0, .int .i64 0, .int .i64 0, .int .i64 0]) (U := #[.int .i64 n0, .int .i64 n1, .int .i64 n2, .int .i64 n3, .int .i64 n4, .int .i64 n5, .int .i64 n6, .int .i64 n7, .int .i64 n8]) rfl rfl ((hW.block _ lr).trans kr) rfl Try.sizeOf26 (by simp [Value.oneCell']) ?_
  refine wpList_nil ?_
  go_wp2
  exact bodyPost_ret (v := .agg #[.int .i64 n0, .int .i64 n1, .int .i64 n2, .int .i64 n3, .int .i64 n4, .int .i64 n5, .int .i64 n6, .int .i64 n7, .int .i64 n8]) (results_row Try.results181 rfl (setRow_heap _ _ _ _ _ _ ((hW.block _ lr).trans kr)) 9 rfl Try.sizeOf26 Try.isAgg26) rfl ⟨rfl, below_setRowN (low_tr' HBw hW (by omega)) (by omega) _⟩
set_option maxRecDepth 20000 in
theorem unit_impl (w : World) : Calls Try.prog 168 #[] w (Ret w (.agg #[.int .i64 1, .int .i64 0, .int .i64 0, .int .i64 0, .int .i64 1, .int .i64 0, .int .i64 0, .int .i64 0, .int .i64 1])) := by
  go_enter Try.func168, Try.ntmps168
  go_wp2
  exact bodyPost_ret (v := .agg #[.int .i64 1, .int .i64 0, .int .i64 0, .int .i64 0, .int .i64 1, .int .i64 0, .int .i64 0, .int .i64 0, .int .i64 1]) (by simp [results, Try.results168, go_sem]) rfl ⟨rfl, (by repeat (first | exact Below.refl _ _ | refine bset ?_ _ _ (by omega) _ | refine bal ?_ _ | refine bdrN ?_ _ | refine bdr ?_))⟩
set_option maxRecDepth 20000 in
theorem unit_spec (w : World) : Calls Try.prog 166 #[] w (Ret w (.agg #[.int .i64 1, .int .i64 0, .int .i64 0, .int .i64 0, .int .i64 1, .int .i64 0, .int .i64 0, .int .i64 0, .int .i64 1])) := by
  go_enter Try.func166, Try.ntmps166
  go_wp2
  exact bodyPost_ret (v := .agg #[.int .i64 1, .int .i64 0, .int .i64 0, .int .i64 0, .int .i64 1, .int .i64 0, .int .i64 0, .int .i64 0, .int .i64 1]) (by simp [results, Try.results166, go_sem]) rfl ⟨rfl, (by repeat (first | exact Below.refl _ _ | refine bset ?_ _ _ (by omega) _ | refine bal ?_ _ | refine bdrN ?_ _ | refine bdr ?_))⟩
end Go.Proofs.Ythkbhaaodegocaa
