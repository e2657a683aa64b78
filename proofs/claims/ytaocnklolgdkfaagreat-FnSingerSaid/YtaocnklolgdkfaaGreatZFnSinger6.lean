/- Texts of the claim, in build order: T2, T3, Own, Aut, IR1, IR2, IR3, MA1, MB1, GO1, MA2, MA3, MA4, MA5, MA6, RegK, GO2, MB2, OB1, OB2. No condition. -/
import Derived.Maps.AppendAt
import Derived.Great.BuildSlice
import Derived.Deep.MidRow
import Derived.DeepKeys3
import Derived.Laws.MakeOwn
import Derived.Test.YtaocnklolgdkfaaGreatZFnSinger5
/- Contracts: the image of a point under a map, as the reference makes it. (Printed by gent2.py, a program of this session.) -/
namespace Go.Proofs.YtaocnklolgdkfaaGreat
open Go.RowKit
set_option linter.unusedVariables false
set_option linter.unusedSimpArgs false
theorem src1 {W : World} {g o : Nat} {x : Int} (d0 : W.cell? ⟨g, o, none⟩ = some (.int .i64 x)) :
    ∀ (j : Nat) (u : Value), [Value.int .i64 x][j]? = some u → W.cell? ((⟨g, o, none⟩ : Addr).add j) = some u := by
  intro j u hj
  have hadd : (⟨g, o, none⟩ : Addr).add j = ⟨g, o + j, none⟩ := by unfold Addr.add; split <;> simp_all
  rw [hadd]
  match j, hj with
  | 0, hj => simpa using d0.trans (by simpa using hj)
  | j + 1, hj => simp at hj
theorem oneA (x : Int) : ∀ u ∈ [Value.int .i64 x], u.oneCell' = true := by
  intro u hu
  rw [List.mem_singleton.1 hu]; rfl
set_option maxRecDepth 20000 in
set_option maxHeartbeats 8000000 in
theorem l02Image_any (p : Int) (m : M9) (a : Pt) (w : World) (hp : prB p = true) (hm : InM m) (ha : In13 a) :
    Calls Tryz.prog 83 #[.int .i64 p, .agg (cellsM9 m), ptV a.1 a.2.1 a.2.2] w (Ret w (ptV (imgP p m a).1 (imgP p m a).2.1 (imgP p m a).2.2)) := by
  obtain ⟨i0, hi, hz0, hz1, hz2⟩ := info_parts info64
  have HI0 := Lib.hid hi; have HZ0 := Lib.hid hz0; have HZ1 := Lib.hid hz1; have HZ2 := Lib.hid hz2
  have hpb := prB_bd hp
  have hb : ∀ r : Pt, -4611686018427387904 ≤ dotP r a % p ∧ dotP r a % p ≤ 4611686018427387904 := fun r => by
    have h1 := Int.emod_nonneg (dotP r a) (show p ≠ 0 by omega)
    have h2 := Int.emod_lt_of_pos (dotP r a) (show 0 < p by omega)
    omega
  have HNo : Hid (∀ (W : World) (g cap : Nat), (∀ i, i < 3 → W.cell? ⟨g, 0 + i, none⟩ = some (.int .i64 ([dotP m.1 a % p, dotP m.2.1 a % p, dotP m.2.2 a % p].getD i 0))) → Calls Tryz.prog 103 #[.int .i64 p, .slice (some ⟨g, 0, none⟩) 3 cap] W (NormPost W p [dotP m.1 a % p, dotP m.2.1 a % p, dotP m.2.2 a % p] 3)) :=
    Lib.hid (fun W g cap hc => l01Norm_any p g 0 3 cap [dotP m.1 a % p, dotP m.2.1 a % p, dotP m.2.2 a % p] W hp rfl (by omega) hc (fun i hi => by
      rcases (show i = 0 ∨ i = 1 ∨ i = 2 by omega) with rfl | rfl | rfl
      · exact hb _
      · exact hb _
      · exact hb _))
  have HNl : Hid (normL p [dotP m.1 a % p, dotP m.2.1 a % p, dotP m.2.2 a % p] = [(imgP p m a).1, (imgP p m a).2.1, (imgP p m a).2.2]) := Lib.hid rfl
  generalize imgP p m a = r at *
  obtain ⟨⟨x0, x1, x2⟩, ⟨x3, x4, x5⟩, ⟨x6, x7, x8⟩⟩ := m
  obtain ⟨a0, a1, a2⟩ := a
  obtain ⟨r0, r1, r2⟩ := r
  dsimp only [cellsM9, dotP] at *
  have bx0 : In12 x0 := hm _ (by simp [listM])
  have bx1 : In12 x1 := hm _ (by simp [listM])
  have bx2 : In12 x2 := hm _ (by simp [listM])
  have bx3 : In12 x3 := hm _ (by simp [listM])
  have bx4 : In12 x4 := hm _ (by simp [listM])
  have bx5 : In12 x5 := hm _ (by simp [listM])
  have bx6 : In12 x6 := hm _ (by simp [listM])
  have bx7 : In12 x7 := hm _ (by simp [listM])
  have bx8 : In12 x8 := hm _ (by simp [listM])
  obtain ⟨ba0, ba1, ba2⟩ := ha
  replace ba0 : In12 a0 := ba0
  replace ba1 : In12 a1 := ba1
  replace ba2 : In12 a2 := ba2
  have w0_0 := wmul bx0 ba0
  have w0_1 := wmul bx1 ba1
  have w0_2 := wmul bx2 ba2
  have w0_3 := wadd2 bx0 ba0 bx1 ba1
  have w0_4 := wadd3 bx0 ba0 bx1 ba1 bx2 ba2
  have e0 : Int.tmod (x0 * a0 + x1 * a1 + x2 * a2) p = (x0 * a0 + x1 * a1 + x2 * a2) % p := Int.tmod_eq_emod_of_nonneg (dot12 bx0 ba0 bx1 ba1 bx2 ba2)
  have v0 : IntKind.wrap .i64 ((x0 * a0 + x1 * a1 + x2 * a2) % p) = (x0 * a0 + x1 * a1 + x2 * a2) % p := wrap_small (modb hpb)
  have w_0 := Lib.hid (And.intro w0_0 (And.intro w0_1 (And.intro w0_2 (And.intro w0_3 (And.intro w0_4 (And.intro e0 v0))))))
  clear w0_0 w0_1 w0_2 w0_3 w0_4 e0 v0
  have w1_0 := wmul bx3 ba0
  have w1_1 := wmul bx4 ba1
  have w1_2 := wmul bx5 ba2
  have w1_3 := wadd2 bx3 ba0 bx4 ba1
  have w1_4 := wadd3 bx3 ba0 bx4 ba1 bx5 ba2
  have e1 : Int.tmod (x3 * a0 + x4 * a1 + x5 * a2) p = (x3 * a0 + x4 * a1 + x5 * a2) % p := Int.tmod_eq_emod_of_nonneg (dot12 bx3 ba0 bx4 ba1 bx5 ba2)
  have v1 : IntKind.wrap .i64 ((x3 * a0 + x4 * a1 + x5 * a2) % p) = (x3 * a0 + x4 * a1 + x5 * a2) % p := wrap_small (modb hpb)
  have w_1 := Lib.hid (And.intro w1_0 (And.intro w1_1 (And.intro w1_2 (And.intro w1_3 (And.intro w1_4 (And.intro e1 v1))))))
  clear w1_0 w1_1 w1_2 w1_3 w1_4 e1 v1
  have w2_0 := wmul bx6 ba0
  have w2_1 := wmul bx7 ba1
  have w2_2 := wmul bx8 ba2
  have w2_3 := wadd2 bx6 ba0 bx7 ba1
  have w2_4 := wadd3 bx6 ba0 bx7 ba1 bx8 ba2
  have e2 : Int.tmod (x6 * a0 + x7 * a1 + x8 * a2) p = (x6 * a0 + x7 * a1 + x8 * a2) % p := Int.tmod_eq_emod_of_nonneg (dot12 bx6 ba0 bx7 ba1 bx8 ba2)
  have v2 : IntKind.wrap .i64 ((x6 * a0 + x7 * a1 + x8 * a2) % p) = (x6 * a0 + x7 * a1 + x8 * a2) % p := wrap_small (modb hpb)
  have w_2 := Lib.hid (And.intro w2_0 (And.intro w2_1 (And.intro w2_2 (And.intro w2_3 (And.intro w2_4 (And.intro e2 v2))))))
  clear w2_0 w2_1 w2_2 w2_3 w2_4 e2 v2
  have hpn : ¬ p = 0 := by omega
  clear hi hz0 hz1 hz2 hp hm hb hpb bx0 bx1 bx2 bx3 bx4 bx5 bx6 bx7 bx8 ba0 ba1 ba2
  go_enter Tryz.func83, Tryz.ntmps83
  go_wp2
  go_loopw [7, 8] (fun v i wr => ∃ k : Nat, k ≤ 3 ∧ i = .int .i64 k ∧ Hid (wr.ownsRow (w.heap.size + 1 + 1 + 1) 2 1 v k (ints ([(x0 * a0 + x1 * a1 + x2 * a2) % p, (x3 * a0 + x4 * a1 + x5 * a2) % p, (x6 * a0 + x7 * a1 + x8 * a2) % p].take k))) ∧ wr.heap[w.heap.size]? = some (.cells #[.int .i64 x0, .int .i64 x1, .int .i64 x2, .int .i64 x3, .int .i64 x4, .int .i64 x5, .int .i64 x6, .int .i64 x7, .int .i64 x8] 31 (0, 0)) ∧ wr.heap[w.heap.size + 1]? = some (.cells #[.int .i64 a0, .int .i64 a1, .int .i64 a2] 56 (0, 0)) ∧ wr.heap[w.heap.size + 1 + 1]? = some (.cells #[.int .i64 0, .int .i64 0, .int .i64 0] 56 (0, 0)) ∧ Hid (Below w.heap.size w wr)) (fun _ i wr => 3 - (intOf i).toNat)
  case atStart =>
    refine ⟨0, by omega, rfl, Lib.hid ?_, ?_, ?_, ?_, Lib.hid (by repeat (first | exact Below.refl _ _ | refine bset ?_ _ _ (by omega) _ | refine bal ?_ _ | refine bdrN ?_ _ | refine bdr ?_))⟩
    · exact ⟨rfl, .inr ⟨(w.heap.size + 1 + 1 + 1), 0, #[], rfl, Nat.le_refl _, by rw [hn_atN _ _ _ (by simp)], Nat.le_refl _, by unfold maxLen; omega, rfl, rfl⟩⟩
    · rw [hn_pastN _ _ _ (by first | omega | (simp; done) | (simp; omega)), hn_pastN _ _ _ (by first | omega | (simp; done) | (simp; omega)), hn_pastN _ _ _ (by first | omega | (simp; done) | (simp; omega)), hn_atN _ _ _ (by simp)]
    · rw [hn_pastN _ _ _ (by first | omega | (simp; done) | (simp; omega)), hn_pastN _ _ _ (by first | omega | (simp; done) | (simp; omega)), hn_atN _ _ _ (by simp)]
    · rw [hn_pastN _ _ _ (by first | omega | (simp; done) | (simp; omega)), hn_atN _ _ _ (by simp)]
  case round =>
    obtain ⟨k, hk, rfl, HO, kx, ka, kr, HB⟩ := hrel
    rcases (show k = 0 ∨ k = 1 ∨ k = 2 ∨ k = 3 by omega) with rfl | rfl | rfl | rfl
    · clear hk
      have lx := (Array.getElem?_eq_some_iff.1 kx).1
      have la := (Array.getElem?_eq_some_iff.1 ka).1
      have lr := (Array.getElem?_eq_some_iff.1 kr).1
      obtain ⟨m0, m1, m2, m3, m4, m5, m6⟩ := w_0.out
      go_wp2
      refine region_boxvia 27 26 42 (fun g => .slice (some ⟨g, 0, none⟩) 1 1) #[.int .i64 ((x0 * a0 + x1 * a1 + x2 * a2) % p)] 2 [(16, u7), (17, .int .i64 0), (18, .pointer (some ⟨w.heap.size, 0, none⟩)), (19, .pointer (some ⟨w.heap.size, 0, none⟩)), (20, .int .i64 x0), (21, .pointer (some ⟨w.heap.size + 1, 0, none⟩)), (22, .int .i64 a0), (23, .int .i64 (x0 * a0)), (24, .int .i64 0), (25, .pointer (some ⟨w.heap.size, 0, none⟩)), (26, .pointer (some ⟨w.heap.size, 1, none⟩)), (27, .int .i64 x1), (28, .pointer (some ⟨w.heap.size + 1, 1, none⟩)), (29, .int .i64 a1), (30, .int .i64 (x1 * a1)), (31, .int .i64 (x0 * a0 + x1 * a1)), (32, .int .i64 0), (33, .pointer (some ⟨w.heap.size, 0, none⟩)), (34, .pointer (some ⟨w.heap.size, 2, none⟩)), (35, .int .i64 x2), (36, .pointer (some ⟨w.heap.size + 1, 2, none⟩)), (37, .int .i64 a2), (38, .int .i64 (x2 * a2)), (39, .int .i64 (x0 * a0 + x1 * a1 + x2 * a2)), (40, .int .i64 p), (41, .int .i64 ((x0 * a0 + x1 * a1 + x2 * a2) % p))] (by kernel_rfl) (by decide) rfl (by kernel_rfl) (by kernel_rfl) (by kernel_rfl) (by decide) (by simp) (by kernel_rfl) (fun aE hpe => ?_)
      simp only [puts, Act.put, List.setIfInBounds_toArray, List.set_cons_zero, List.set_cons_succ] at hpe
      subst hpe
      refine ⟨?_, ⟨.inr (.inr ?_), .inr (.inr ?_), .inr (.inr ?_), .inr (.inr ?_), .inr (.inr ?_), .inr (.inr ?_), .inr (.inr ?_), .inr (.inr ?_), .inr (.inr ?_), .inr (.inr ?_), .inr (.inr ?_), .inr (.inr ?_), .inr (.inr ?_), .inr (.inr ?_), .inr (.inr ?_), .inr (.inr ?_), .inr (.inr ?_), .inr (.inr ?_), .inr (.inr ?_), .inr (.inr ?_), .inr (.inr ?_), .inr (.inr ?_), .inr (.inr ?_), .inr (.inr ?_), .inr (.inr ?_), .inr (.inr ?_), .inl rfl, trivial⟩, ?_⟩
      · intro ρ W hr
        have r0 : ρ (.tmp 41) = .int .i64 ((x0 * a0 + x1 * a1 + x2 * a2) % p) := hr 41 (by simp [readsOf, Op.operands])
        simp [execOp, go_sem, r0]
      · exact CalmG.mk 16 (u7) rfl rfl rfl (fun W hW => calm_move (.tmp 7) rfl rfl)
      · exact CalmG.mk 17 (.int .i64 0) rfl rfl rfl (fun W hW => calm_move (.tmp 8) rfl rfl)
      · exact CalmG.mk 18 (.pointer (some ⟨w.heap.size, 0, none⟩)) rfl rfl rfl (fun W hW => calm_run (by simp [execOp, Act.eval, go_sem]))
      · exact CalmG.mk 19 (.pointer (some ⟨w.heap.size, 0, none⟩)) rfl rfl rfl (fun W hW => calm_run (by simp [execOp, Act.eval, go_sem]))
      · exact CalmG.mk 20 (.int .i64 x0) rfl rfl rfl (fun W hW => calm_run (by have hc := row_int (off := 0) (z := x0) ((hW.block _ lx).trans kx) rfl; simp [execOp, Act.eval, go_sem, hc]))
      · exact CalmG.mk 21 (.pointer (some ⟨w.heap.size + 1, 0, none⟩)) rfl rfl rfl (fun W hW => calm_run (by simp [execOp, Act.eval, go_sem]))
      · exact CalmG.mk 22 (.int .i64 a0) rfl rfl rfl (fun W hW => calm_run (by have hc := row_int (off := 0) (z := a0) ((hW.block _ la).trans ka) rfl; simp [execOp, Act.eval, go_sem, hc]))
      · exact CalmG.mk 23 (.int .i64 (x0 * a0)) rfl rfl rfl (fun W hW => calm_run (by simp [execOp, Act.eval, go_sem, m0]))
      · exact CalmG.mk 24 (.int .i64 0) rfl rfl rfl (fun W hW => calm_move (.tmp 8) rfl rfl)
      · exact CalmG.mk 25 (.pointer (some ⟨w.heap.size, 0, none⟩)) rfl rfl rfl (fun W hW => calm_run (by simp [execOp, Act.eval, go_sem]))
      · exact CalmG.mk 26 (.pointer (some ⟨w.heap.size, 1, none⟩)) rfl rfl rfl (fun W hW => calm_run (by simp [execOp, Act.eval, go_sem]))
      · exact CalmG.mk 27 (.int .i64 x1) rfl rfl rfl (fun W hW => calm_run (by have hc := row_int (off := 1) (z := x1) ((hW.block _ lx).trans kx) rfl; simp [execOp, Act.eval, go_sem, hc]))
      · exact CalmG.mk 28 (.pointer (some ⟨w.heap.size + 1, 1, none⟩)) rfl rfl rfl (fun W hW => calm_run (by simp [execOp, Act.eval, go_sem]))
      · exact CalmG.mk 29 (.int .i64 a1) rfl rfl rfl (fun W hW => calm_run (by have hc := row_int (off := 1) (z := a1) ((hW.block _ la).trans ka) rfl; simp [execOp, Act.eval, go_sem, hc]))
      · exact CalmG.mk 30 (.int .i64 (x1 * a1)) rfl rfl rfl (fun W hW => calm_run (by simp [execOp, Act.eval, go_sem, m1]))
      · exact CalmG.mk 31 (.int .i64 (x0 * a0 + x1 * a1)) rfl rfl rfl (fun W hW => calm_run (by simp [execOp, Act.eval, go_sem, m3]))
      · exact CalmG.mk 32 (.int .i64 0) rfl rfl rfl (fun W hW => calm_move (.tmp 8) rfl rfl)
      · exact CalmG.mk 33 (.pointer (some ⟨w.heap.size, 0, none⟩)) rfl rfl rfl (fun W hW => calm_run (by simp [execOp, Act.eval, go_sem]))
      · exact CalmG.mk 34 (.pointer (some ⟨w.heap.size, 2, none⟩)) rfl rfl rfl (fun W hW => calm_run (by simp [execOp, Act.eval, go_sem]))
      · exact CalmG.mk 35 (.int .i64 x2) rfl rfl rfl (fun W hW => calm_run (by have hc := row_int (off := 2) (z := x2) ((hW.block _ lx).trans kx) rfl; simp [execOp, Act.eval, go_sem, hc]))
      · exact CalmG.mk 36 (.pointer (some ⟨w.heap.size + 1, 2, none⟩)) rfl rfl rfl (fun W hW => calm_run (by simp [execOp, Act.eval, go_sem]))
      · exact CalmG.mk 37 (.int .i64 a2) rfl rfl rfl (fun W hW => calm_run (by have hc := row_int (off := 2) (z := a2) ((hW.block _ la).trans ka) rfl; simp [execOp, Act.eval, go_sem, hc]))
      · exact CalmG.mk 38 (.int .i64 (x2 * a2)) rfl rfl rfl (fun W hW => calm_run (by simp [execOp, Act.eval, go_sem, m2]))
      · exact CalmG.mk 39 (.int .i64 (x0 * a0 + x1 * a1 + x2 * a2)) rfl rfl rfl (fun W hW => calm_run (by simp [execOp, Act.eval, go_sem, m4]))
      · exact CalmG.mk 40 (.int .i64 p) rfl rfl rfl (fun W hW => calm_move (.tmp 0) rfl rfl)
      · exact CalmG.mk 41 (.int .i64 ((x0 * a0 + x1 * a1 + x2 * a2) % p)) rfl rfl rfl (fun W hW => calm_run (by simp [execOp, Act.eval, go_sem, hpn, m5, m6]))
      intro g W hW hg hgc
      simp only [List.drop_succ_cons, List.drop_zero, Act.put, List.setIfInBounds_toArray, List.set_cons_zero, List.set_cons_succ]
      have Jx := Lib.hid ((hW.block _ lx).trans kx)
      have Ja := Lib.hid ((hW.block _ la).trans ka)
      have Jr := Lib.hid ((hW.block _ lr).trans kr)
      have HO2 := Lib.hid (own_below HO.out hW)
      have HB2 := Lib.hid (low_tr' HB.out hW HB.out.size)
      have HS := Lib.hid (show [(x0 * a0 + x1 * a1 + x2 * a2) % p, (x3 * a0 + x4 * a1 + x5 * a2) % p, (x6 * a0 + x7 * a1 + x8 * a2) % p].take 0 ++ [(x0 * a0 + x1 * a1 + x2 * a2) % p] = [(x0 * a0 + x1 * a1 + x2 * a2) % p, (x3 * a0 + x4 * a1 + x5 * a2) % p, (x6 * a0 + x7 * a1 + x8 * a2) % p].take (0 + 1) from rfl)
      have d0 : W.cell? ⟨g, 0, none⟩ = some (.int .i64 ((x0 * a0 + x1 * a1 + x2 * a2) % p)) := by rw [cell_of_row W _ 0 _ _ _ hgc]; rfl
      have HD := Lib.hid (src1 d0)
      have hsz : w.heap.size + 1 + 1 + 1 ≤ W.heap.size := by have := (Array.getElem?_eq_some_iff.1 Jr.out).1; omega
      clear kx ka kr HO HB hW hgc d0 lx la lr m0 m1 m2 m3 m4 m5 m6
      go_wp2_with (at_builtin; refine wpList_append_own _ rfl _ _ 34 rfl (w.heap.size + 1 + 1 + 1) 2 i0 (.int .i64 0) 1 8 Tryz.underlying34 HI0.out HZ0.out HZ1.out HZ2.out rfl (by decide) _ _ _ rfl HO2.out ⟨g, 0, none⟩ 1 1 [.int .i64 ((x0 * a0 + x1 * a1 + x2 * a2) % p)] rfl rfl HD.out (oneA _) (by unfold maxLen; omega) (by omega) hsz ?_; intro v2 w2 hown hgrow _; have HO3 := Lib.hid hown; have HG := Lib.hid hgrow; clear hown hgrow)
      have hb := own_base' HO2.out
      have ne : ∀ a, a < w.heap.size + 1 + 1 + 1 → some a ≠ u7.ownBlock := fun a ha e => by have := hb a e.symm; omega
      go_roundw
      case rel => exact ⟨1, by omega, rfl, Lib.hid (by rw [← HS.out, ints_app]; exact HO3.out), by rw [HG.out.block _ (Array.getElem?_eq_some_iff.1 Jx.out).1 (ne _ (by omega))]; exact Jx.out, by rw [HG.out.block _ (Array.getElem?_eq_some_iff.1 Ja.out).1 (ne _ (by omega))]; exact Ja.out, by rw [HG.out.block _ (Array.getElem?_eq_some_iff.1 Jr.out).1 (ne _ (by omega))]; exact Jr.out, Lib.hid (HB2.out.grown HG.out HB2.out.size (fun k' hk' => by have := hb k' hk'; omega))⟩
      case measure => simp [intOf]
    · clear hk
      have lx := (Array.getElem?_eq_some_iff.1 kx).1
      have la := (Array.getElem?_eq_some_iff.1 ka).1
      have lr := (Array.getElem?_eq_some_iff.1 kr).1
      obtain ⟨m0, m1, m2, m3, m4, m5, m6⟩ := w_1.out
      go_wp2
      refine region_boxvia 27 26 42 (fun g => .slice (some ⟨g, 0, none⟩) 1 1) #[.int .i64 ((x3 * a0 + x4 * a1 + x5 * a2) % p)] 2 [(16, u7), (17, .int .i64 1), (18, .pointer (some ⟨w.heap.size, 3, none⟩)), (19, .pointer (some ⟨w.heap.size, 3, none⟩)), (20, .int .i64 x3), (21, .pointer (some ⟨w.heap.size + 1, 0, none⟩)), (22, .int .i64 a0), (23, .int .i64 (x3 * a0)), (24, .int .i64 1), (25, .pointer (some ⟨w.heap.size, 3, none⟩)), (26, .pointer (some ⟨w.heap.size, 4, none⟩)), (27, .int .i64 x4), (28, .pointer (some ⟨w.heap.size + 1, 1, none⟩)), (29, .int .i64 a1), (30, .int .i64 (x4 * a1)), (31, .int .i64 (x3 * a0 + x4 * a1)), (32, .int .i64 1), (33, .pointer (some ⟨w.heap.size, 3, none⟩)), (34, .pointer (some ⟨w.heap.size, 5, none⟩)), (35, .int .i64 x5), (36, .pointer (some ⟨w.heap.size + 1, 2, none⟩)), (37, .int .i64 a2), (38, .int .i64 (x5 * a2)), (39, .int .i64 (x3 * a0 + x4 * a1 + x5 * a2)), (40, .int .i64 p), (41, .int .i64 ((x3 * a0 + x4 * a1 + x5 * a2) % p))] (by kernel_rfl) (by decide) rfl (by kernel_rfl) (by kernel_rfl) (by kernel_rfl) (by decide) (by simp) (by kernel_rfl) (fun aE hpe => ?_)
      simp only [puts, Act.put, List.setIfInBounds_toArray, List.set_cons_zero, List.set_cons_succ] at hpe
      subst hpe
      refine ⟨?_, ⟨.inr (.inr ?_), .inr (.inr ?_), .inr (.inr ?_), .inr (.inr ?_), .inr (.inr ?_), .inr (.inr ?_), .inr (.inr ?_), .inr (.inr ?_), .inr (.inr ?_), .inr (.inr ?_), .inr (.inr ?_), .inr (.inr ?_), .inr (.inr ?_), .inr (.inr ?_), .inr (.inr ?_), .inr (.inr ?_), .inr (.inr ?_), .inr (.inr ?_), .inr (.inr ?_), .inr (.inr ?_), .inr (.inr ?_), .inr (.inr ?_), .inr (.inr ?_), .inr (.inr ?_), .inr (.inr ?_), .inr (.inr ?_), .inl rfl, trivial⟩, ?_⟩
      · intro ρ W hr
        have r0 : ρ (.tmp 41) = .int .i64 ((x3 * a0 + x4 * a1 + x5 * a2) % p) := hr 41 (by simp [readsOf, Op.operands])
        simp [execOp, go_sem, r0]
      · exact CalmG.mk 16 (u7) rfl rfl rfl (fun W hW => calm_move (.tmp 7) rfl rfl)
      · exact CalmG.mk 17 (.int .i64 1) rfl rfl rfl (fun W hW => calm_move (.tmp 8) rfl rfl)
      · exact CalmG.mk 18 (.pointer (some ⟨w.heap.size, 3, none⟩)) rfl rfl rfl (fun W hW => calm_run (by simp [execOp, Act.eval, go_sem]))
      · exact CalmG.mk 19 (.pointer (some ⟨w.heap.size, 3, none⟩)) rfl rfl rfl (fun W hW => calm_run (by simp [execOp, Act.eval, go_sem]))
      · exact CalmG.mk 20 (.int .i64 x3) rfl rfl rfl (fun W hW => calm_run (by have hc := row_int (off := 3) (z := x3) ((hW.block _ lx).trans kx) rfl; simp [execOp, Act.eval, go_sem, hc]))
      · exact CalmG.mk 21 (.pointer (some ⟨w.heap.size + 1, 0, none⟩)) rfl rfl rfl (fun W hW => calm_run (by simp [execOp, Act.eval, go_sem]))
      · exact CalmG.mk 22 (.int .i64 a0) rfl rfl rfl (fun W hW => calm_run (by have hc := row_int (off := 0) (z := a0) ((hW.block _ la).trans ka) rfl; simp [execOp, Act.eval, go_sem, hc]))
      · exact CalmG.mk 23 (.int .i64 (x3 * a0)) rfl rfl rfl (fun W hW => calm_run (by simp [execOp, Act.eval, go_sem, m0]))
      · exact CalmG.mk 24 (.int .i64 1) rfl rfl rfl (fun W hW => calm_move (.tmp 8) rfl rfl)
      · exact CalmG.mk 25 (.pointer (some ⟨w.heap.size, 3, none⟩)) rfl rfl rfl (fun W hW => calm_run (by simp [execOp, Act.eval, go_sem]))
      · exact CalmG.mk 26 (.pointer (some ⟨w.heap.size, 4, none⟩)) rfl rfl rfl (fun W hW => calm_run (by simp [execOp, Act.eval, go_sem]))
      · exact CalmG.mk 27 (.int .i64 x4) rfl rfl rfl (fun W hW => calm_run (by have hc := row_int (off := 4) (z := x4) ((hW.block _ lx).trans kx) rfl; simp [execOp, Act.eval, go_sem, hc]))
      · exact CalmG.mk 28 (.pointer (some ⟨w.heap.size + 1, 1, none⟩)) rfl rfl rfl (fun W hW => calm_run (by simp [execOp, Act.eval, go_sem]))
      · exact CalmG.mk 29 (.int .i64 a1) rfl rfl rfl (fun W hW => calm_run (by have hc := row_int (off := 1) (z := a1) ((hW.block _ la).trans ka) rfl; simp [execOp, Act.eval, go_sem, hc]))
      · exact CalmG.mk 30 (.int .i64 (x4 * a1)) rfl rfl rfl (fun W hW => calm_run (by simp [execOp, Act.eval, go_sem, m1]))
      · exact CalmG.mk 31 (.int .i64 (x3 * a0 + x4 * a1)) rfl rfl rfl (fun W hW => calm_run (by simp [execOp, Act.eval, go_sem, m3]))
      · exact CalmG.mk 32 (.int .i64 1) rfl rfl rfl (fun W hW => calm_move (.tmp 8) rfl rfl)
      · exact CalmG.mk 33 (.pointer (some ⟨w.heap.size, 3, none⟩)) rfl rfl rfl (fun W hW => calm_run (by simp [execOp, Act.eval, go_sem]))
      · exact CalmG.mk 34 (.pointer (some ⟨w.heap.size, 5, none⟩)) rfl rfl rfl (fun W hW => calm_run (by simp [execOp, Act.eval, go_sem]))
      · exact CalmG.mk 35 (.int .i64 x5) rfl rfl rfl (fun W hW => calm_run (by have hc := row_int (off := 5) (z := x5) ((hW.block _ lx).trans kx) rfl; simp [execOp, Act.eval, go_sem, hc]))
      · exact CalmG.mk 36 (.pointer (some ⟨w.heap.size + 1, 2, none⟩)) rfl rfl rfl (fun W hW => calm_run (by simp [execOp, Act.eval, go_sem]))
      · exact CalmG.mk 37 (.int .i64 a2) rfl rfl rfl (fun W hW => calm_run (by have hc := row_int (off := 2) (z := a2) ((hW.block _ la).trans ka) rfl; simp [execOp, Act.eval, go_sem, hc]))
      · exact CalmG.mk 38 (.int .i64 (x5 * a2)) rfl rfl rfl (fun W hW => calm_run (by simp [execOp, Act.eval, go_sem, m2]))
      · exact CalmG.mk 39 (.int .i64 (x3 * a0 + x4 * a1 + x5 * a2)) rfl rfl rfl (fun W hW => calm_run (by simp [execOp, Act.eval, go_sem, m4]))
      · exact CalmG.mk 40 (.int .i64 p) rfl rfl rfl (fun W hW => calm_move (.tmp 0) rfl rfl)
      · exact CalmG.mk 41 (.int .i64 ((x3 * a0 + x4 * a1 + x5 * a2) % p)) rfl rfl rfl (fun W hW => calm_run (by simp [execOp, Act.eval, go_sem, hpn, m5, m6]))
      intro g W hW hg hgc
      simp only [List.drop_succ_cons, List.drop_zero, Act.put, List.setIfInBounds_toArray, List.set_cons_zero, List.set_cons_succ]
      have Jx := Lib.hid ((hW.block _ lx).trans kx)
      have Ja := Lib.hid ((hW.block _ la).trans ka)
      have Jr := Lib.hid ((hW.block _ lr).trans kr)
      have HO2 := Lib.hid (own_below HO.out hW)
      have HB2 := Lib.hid (low_tr' HB.out hW HB.out.size)
      have HS := Lib.hid (show [(x0 * a0 + x1 * a1 + x2 * a2) % p, (x3 * a0 + x4 * a1 + x5 * a2) % p, (x6 * a0 + x7 * a1 + x8 * a2) % p].take 1 ++ [(x3 * a0 + x4 * a1 + x5 * a2) % p] = [(x0 * a0 + x1 * a1 + x2 * a2) % p, (x3 * a0 + x4 * a1 + x5 * a2) % p, (x6 * a0 + x7 * a1 + x8 * a2) % p].take (1 + 1) from rfl)
      have d0 : W.cell? ⟨g, 0, none⟩ = some (.int .i64 ((x3 * a0 + x4 * a1 + x5 * a2) % p)) := by rw [cell_of_row W _ 0 _ _ _ hgc]; rfl
      have HD := Lib.hid (src1 d0)
      have hsz : w.heap.size + 1 + 1 + 1 ≤ W.heap.size := by have := (Array.getElem?_eq_some_iff.1 Jr.out).1; omega
      clear kx ka kr HO HB hW hgc d0 lx la lr m0 m1 m2 m3 m4 m5 m6
      go_wp2_with (at_builtin; refine wpList_append_own _ rfl _ _ 34 rfl (w.heap.size + 1 + 1 + 1) 2 i0 (.int .i64 0) 1 8 Tryz.underlying34 HI0.out HZ0.out HZ1.out HZ2.out rfl (by decide) _ _ _ rfl HO2.out ⟨g, 0, none⟩ 1 1 [.int .i64 ((x3 * a0 + x4 * a1 + x5 * a2) % p)] rfl rfl HD.out (oneA _) (by unfold maxLen; omega) (by omega) hsz ?_; intro v2 w2 hown hgrow _; have HO3 := Lib.hid hown; have HG := Lib.hid hgrow; clear hown hgrow)
      have hb := own_base' HO2.out
      have ne : ∀ a, a < w.heap.size + 1 + 1 + 1 → some a ≠ u7.ownBlock := fun a ha e => by have := hb a e.symm; omega
      go_roundw
      case rel => exact ⟨2, by omega, rfl, Lib.hid (by rw [← HS.out, ints_app]; exact HO3.out), by rw [HG.out.block _ (Array.getElem?_eq_some_iff.1 Jx.out).1 (ne _ (by omega))]; exact Jx.out, by rw [HG.out.block _ (Array.getElem?_eq_some_iff.1 Ja.out).1 (ne _ (by omega))]; exact Ja.out, by rw [HG.out.block _ (Array.getElem?_eq_some_iff.1 Jr.out).1 (ne _ (by omega))]; exact Jr.out, Lib.hid (HB2.out.grown HG.out HB2.out.size (fun k' hk' => by have := hb k' hk'; omega))⟩
      case measure => simp [intOf]
    · clear hk
      have lx := (Array.getElem?_eq_some_iff.1 kx).1
      have la := (Array.getElem?_eq_some_iff.1 ka).1
      have lr := (Array.getElem?_eq_some_iff.1 kr).1
      obtain ⟨m0, m1, m2, m3, m4, m5, m6⟩ := w_2.out
      go_wp2
      refine region_boxvia 27 26 42 (fun g => .slice (some ⟨g, 0, none⟩) 1 1) #[.int .i64 ((x6 * a0 + x7 * a1 + x8 * a2) % p)] 2 [(16, u7), (17, .int .i64 2), (18, .pointer (some ⟨w.heap.size, 6, none⟩)), (19, .pointer (some ⟨w.heap.size, 6, none⟩)), (20, .int .i64 x6), (21, .pointer (some ⟨w.heap.size + 1, 0, none⟩)), (22, .int .i64 a0), (23, .int .i64 (x6 * a0)), (24, .int .i64 2), (25, .pointer (some ⟨w.heap.size, 6, none⟩)), (26, .pointer (some ⟨w.heap.size, 7, none⟩)), (27, .int .i64 x7), (28, .pointer (some ⟨w.heap.size + 1, 1, none⟩)), (29, .int .i64 a1), (30, .int .i64 (x7 * a1)), (31, .int .i64 (x6 * a0 + x7 * a1)), (32, .int .i64 2), (33, .pointer (some ⟨w.heap.size, 6, none⟩)), (34, .pointer (some ⟨w.heap.size, 8, none⟩)), (35, .int .i64 x8), (36, .pointer (some ⟨w.heap.size + 1, 2, none⟩)), (37, .int .i64 a2), (38, .int .i64 (x8 * a2)), (39, .int .i64 (x6 * a0 + x7 * a1 + x8 * a2)), (40, .int .i64 p), (41, .int .i64 ((x6 * a0 + x7 * a1 + x8 * a2) % p))] (by kernel_rfl) (by decide) rfl (by kernel_rfl) (by kernel_rfl) (by kernel_rfl) (by decide) (by simp) (by kernel_rfl) (fun aE hpe => ?_)
      simp only [puts, Act.put, List.setIfInBounds_toArray, List.set_cons_zero, List.set_cons_succ] at hpe
      subst hpe
      refine ⟨?_, ⟨.inr (.inr ?_), .inr (.inr ?_), .inr (.inr ?_), .inr (.inr ?_), .inr (.inr ?_), .inr (.inr ?_), .inr (.inr ?_), .inr (.inr ?_), .inr (.inr ?_), .inr (.inr ?_), .inr (.inr ?_), .inr (.inr ?_), .inr (.inr ?_), .inr (.inr ?_), .inr (.inr ?_), .inr (.inr ?_), .inr (.inr ?_), .inr (.inr ?_), .inr (.inr ?_), .inr (.inr ?_), .inr (.inr ?_), .inr (.inr ?_), .inr (.inr ?_), .inr (.inr ?_), .inr (.inr ?_), .inr (.inr ?_), .inl rfl, trivial⟩, ?_⟩
      · intro ρ W hr
        have r0 : ρ (.tmp 41) = .int .i64 ((x6 * a0 + x7 * a1 + x8 * a2) % p) := hr 41 (by simp [readsOf, Op.operands])
        simp [execOp, go_sem, r0]
      · exact CalmG.mk 16 (u7) rfl rfl rfl (fun W hW => calm_move (.tmp 7) rfl rfl)
      · exact CalmG.mk 17 (.int .i64 2) rfl rfl rfl (fun W hW => calm_move (.tmp 8) rfl rfl)
      · exact CalmG.mk 18 (.pointer (some ⟨w.heap.size, 6, none⟩)) rfl rfl rfl (fun W hW => calm_run (by simp [execOp, Act.eval, go_sem]))
      · exact CalmG.mk 19 (.pointer (some ⟨w.heap.size, 6, none⟩)) rfl rfl rfl (fun W hW => calm_run (by simp [execOp, Act.eval, go_sem]))
      · exact CalmG.mk 20 (.int .i64 x6) rfl rfl rfl (fun W hW => calm_run (by have hc := row_int (off := 6) (z := x6) ((hW.block _ lx).trans kx) rfl; simp [execOp, Act.eval, go_sem, hc]))
      · exact CalmG.mk 21 (.pointer (some ⟨w.heap.size + 1, 0, none⟩)) rfl rfl rfl (fun W hW => calm_run (by simp [execOp, Act.eval, go_sem]))
      · exact CalmG.mk 22 (.int .i64 a0) rfl rfl rfl (fun W hW => calm_run (by have hc := row_int (off := 0) (z := a0) ((hW.block _ la).trans ka) rfl; simp [execOp, Act.eval, go_sem, hc]))
      · exact CalmG.mk 23 (.int .i64 (x6 * a0)) rfl rfl rfl (fun W hW => calm_run (by simp [execOp, Act.eval, go_sem, m0]))
      · exact CalmG.mk 24 (.int .i64 2) rfl rfl rfl (fun W hW => calm_move (.tmp 8) rfl rfl)
      · exact CalmG.mk 25 (.pointer (some ⟨w.heap.size, 6, none⟩)) rfl rfl rfl (fun W hW => calm_run (by simp [execOp, Act.eval, go_sem]))
      · exact CalmG.mk 26 (.pointer (some ⟨w.heap.size, 7, none⟩)) rfl rfl rfl (fun W hW => calm_run (by simp [execOp, Act.eval, go_sem]))
      · exact CalmG.mk 27 (.int .i64 x7) rfl rfl rfl (fun W hW => calm_run (by have hc := row_int (off := 7) (z := x7) ((hW.block _ lx).trans kx) rfl; simp [execOp, Act.eval, go_sem, hc]))
      · exact CalmG.mk 28 (.pointer (some ⟨w.heap.size + 1, 1, none⟩)) rfl rfl rfl (fun W hW => calm_run (by simp [execOp, Act.eval, go_sem]))
      · exact CalmG.mk 29 (.int .i64 a1) rfl rfl rfl (fun W hW => calm_run (by have hc := row_int (off := 1) (z := a1) ((hW.block _ la).trans ka) rfl; simp [execOp, Act.eval, go_sem, hc]))
      · exact CalmG.mk 30 (.int .i64 (x7 * a1)) rfl rfl rfl (fun W hW => calm_run (by simp [execOp, Act.eval, go_sem, m1]))
      · exact CalmG.mk 31 (.int .i64 (x6 * a0 + x7 * a1)) rfl rfl rfl (fun W hW => calm_run (by simp [execOp, Act.eval, go_sem, m3]))
      · exact CalmG.mk 32 (.int .i64 2) rfl rfl rfl (fun W hW => calm_move (.tmp 8) rfl rfl)
      · exact CalmG.mk 33 (.pointer (some ⟨w.heap.size, 6, none⟩)) rfl rfl rfl (fun W hW => calm_run (by simp [execOp, Act.eval, go_sem]))
      · exact CalmG.mk 34 (.pointer (some ⟨w.heap.size, 8, none⟩)) rfl rfl rfl (fun W hW => calm_run (by simp [execOp, Act.eval, go_sem]))
      · exact CalmG.mk 35 (.int .i64 x8) rfl rfl rfl (fun W hW => calm_run (by have hc := row_int (off := 8) (z := x8) ((hW.block _ lx).trans kx) rfl; simp [execOp, Act.eval, go_sem, hc]))
      · exact CalmG.mk 36 (.pointer (some ⟨w.heap.size + 1, 2, none⟩)) rfl rfl rfl (fun W hW => calm_run (by simp [execOp, Act.eval, go_sem]))
      · exact CalmG.mk 37 (.int .i64 a2) rfl rfl rfl (fun W hW => calm_run (by have hc := row_int (off := 2) (z := a2) ((hW.block _ la).trans ka) rfl; simp [execOp, Act.eval, go_sem, hc]))
      · exact CalmG.mk 38 (.int .i64 (x8 * a2)) rfl rfl rfl (fun W hW => calm_run (by simp [execOp, Act.eval, go_sem, m2]))
      · exact CalmG.mk 39 (.int .i64 (x6 * a0 + x7 * a1 + x8 * a2)) rfl rfl rfl (fun W hW => calm_run (by simp [execOp, Act.eval, go_sem, m4]))
      · exact CalmG.mk 40 (.int .i64 p) rfl rfl rfl (fun W hW => calm_move (.tmp 0) rfl rfl)
      · exact CalmG.mk 41 (.int .i64 ((x6 * a0 + x7 * a1 + x8 * a2) % p)) rfl rfl rfl (fun W hW => calm_run (by simp [execOp, Act.eval, go_sem, hpn, m5, m6]))
      intro g W hW hg hgc
      simp only [List.drop_succ_cons, List.drop_zero, Act.put, List.setIfInBounds_toArray, List.set_cons_zero, List.set_cons_succ]
      have Jx := Lib.hid ((hW.block _ lx).trans kx)
      have Ja := Lib.hid ((hW.block _ la).trans ka)
      have Jr := Lib.hid ((hW.block _ lr).trans kr)
      have HO2 := Lib.hid (own_below HO.out hW)
      have HB2 := Lib.hid (low_tr' HB.out hW HB.out.size)
      have HS := Lib.hid (show [(x0 * a0 + x1 * a1 + x2 * a2) % p, (x3 * a0 + x4 * a1 + x5 * a2) % p, (x6 * a0 + x7 * a1 + x8 * a2) % p].take 2 ++ [(x6 * a0 + x7 * a1 + x8 * a2) % p] = [(x0 * a0 + x1 * a1 + x2 * a2) % p, (x3 * a0 + x4 * a1 + x5 * a2) % p, (x6 * a0 + x7 * a1 + x8 * a2) % p].take (2 + 1) from rfl)
      have d0 : W.cell? ⟨g, 0, none⟩ = some (.int .i64 ((x6 * a0 + x7 * a1 + x8 * a2) % p)) := by rw [cell_of_row W _ 0 _ _ _ hgc]; rfl
      have HD := Lib.hid (src1 d0)
      have hsz : w.heap.size + 1 + 1 + 1 ≤ W.heap.size := by have := (Array.getElem?_eq_some_iff.1 Jr.out).1; omega
      clear kx ka kr HO HB hW hgc d0 lx la lr m0 m1 m2 m3 m4 m5 m6
      go_wp2_with (at_builtin; refine wpList_append_own _ rfl _ _ 34 rfl (w.heap.size + 1 + 1 + 1) 2 i0 (.int .i64 0) 1 8 Tryz.underlying34 HI0.out HZ0.out HZ1.out HZ2.out rfl (by decide) _ _ _ rfl HO2.out ⟨g, 0, none⟩ 1 1 [.int .i64 ((x6 * a0 + x7 * a1 + x8 * a2) % p)] rfl rfl HD.out (oneA _) (by unfold maxLen; omega) (by omega) hsz ?_; intro v2 w2 hown hgrow _; have HO3 := Lib.hid hown; have HG := Lib.hid hgrow; clear hown hgrow)
      have hb := own_base' HO2.out
      have ne : ∀ a, a < w.heap.size + 1 + 1 + 1 → some a ≠ u7.ownBlock := fun a ha e => by have := hb a e.symm; omega
      go_roundw
      case rel => exact ⟨3, by omega, rfl, Lib.hid (by rw [← HS.out, ints_app]; exact HO3.out), by rw [HG.out.block _ (Array.getElem?_eq_some_iff.1 Jx.out).1 (ne _ (by omega))]; exact Jx.out, by rw [HG.out.block _ (Array.getElem?_eq_some_iff.1 Ja.out).1 (ne _ (by omega))]; exact Ja.out, by rw [HG.out.block _ (Array.getElem?_eq_some_iff.1 Jr.out).1 (ne _ (by omega))]; exact Jr.out, Lib.hid (HB2.out.grown HG.out HB2.out.size (fun k' hk' => by have := hb k' hk'; omega))⟩
      case measure => simp [intOf]
    · have ho3 : wr.ownsRow (w.heap.size + 1 + 1 + 1) 2 1 u7 3 (ints [(x0 * a0 + x1 * a1 + x2 * a2) % p, (x3 * a0 + x4 * a1 + x5 * a2) % p, (x6 * a0 + x7 * a1 + x8 * a2) % p]) := HO.out
      obtain ⟨g5, cap5, rfl, hb5, hpt5⟩ := ownInts' ho3 rfl (by omega)
      have HP5 := Lib.hid hpt5
      have lr := (Array.getElem?_eq_some_iff.1 kr).1
      have HR := Lib.hid kr
      clear HO ho3 hpt5 hk kx ka kr w_0 w_1 w_2
      go_wp2_with (go_at_call 103; refine (HNo.out _ _ _ HP5.out).mono ?_; rintro e w1 ⟨v1, rfl, ho, hb⟩; rw [HNl.out] at ho; obtain ⟨gN, capN, rfl, hbN, hptN⟩ := ownInts' (n := 3) ho rfl (by omega); have HPN := Lib.hid hptN; have HB1 := Lib.hid hb; clear ho hptN hb)
      have jr := Lib.hid ((HB1.out.block _ lr).trans HR.out)
      have HBq := Lib.hid (low_tr' HB.out HB1.out HB.out.size)
      have ljr := (Array.getElem?_eq_some_iff.1 jr.out).1
      clear HB HB1 HR lr HP5 HNo HNl
      refine region_via 10 [(50, .slice (some ⟨gN, 0, none⟩) 3 capN), (51, .pointer (some ⟨gN, 0, none⟩)), (52, .int .i64 r0), (53, .slice (some ⟨gN, 0, none⟩) 3 capN), (54, .pointer (some ⟨gN, 1, none⟩)), (55, .int .i64 r1), (56, .slice (some ⟨gN, 0, none⟩) 3 capN), (57, .pointer (some ⟨gN, 2, none⟩)), (58, .int .i64 r2), (59, .agg #[.int .i64 r0, .int .i64 r1, .int .i64 r2])] (by kernel_rfl) (by decide) (by kernel_rfl) (by kernel_rfl) (by kernel_rfl) (fun aE hpe => ?_)
      simp only [puts, Act.put, List.setIfInBounds_toArray, List.set_cons_zero, List.set_cons_succ] at hpe
      subst hpe
      refine ⟨⟨.inr (.inr ?_), .inr (.inr ?_), .inr (.inr ?_), .inr (.inr ?_), .inr (.inr ?_), .inr (.inr ?_), .inr (.inr ?_), .inr (.inr ?_), .inr (.inr ?_), .inr (.inr ?_), trivial⟩, ?_⟩
      · exact CalmG.mk 50 (.slice (some ⟨gN, 0, none⟩) 3 capN) rfl rfl rfl (fun W hW => calm_move (.tmp 9) rfl rfl)
      · exact CalmG.mk 51 (.pointer (some ⟨gN, 0, none⟩)) rfl rfl rfl (fun W hW => calm_run (by simp [execOp, Act.eval, go_sem]))
      · exact CalmG.mk 52 (.int .i64 r0) rfl rfl rfl (fun W hW => calm_run (by have hc : W.cell? ⟨gN, 0, none⟩ = some (.int .i64 r0) := cell_below hW (HPN.out 0 (by omega)); simp [execOp, Act.eval, go_sem, hc]))
      · exact CalmG.mk 53 (.slice (some ⟨gN, 0, none⟩) 3 capN) rfl rfl rfl (fun W hW => calm_move (.tmp 9) rfl rfl)
      · exact CalmG.mk 54 (.pointer (some ⟨gN, 1, none⟩)) rfl rfl rfl (fun W hW => calm_run (by simp [execOp, Act.eval, go_sem]))
      · exact CalmG.mk 55 (.int .i64 r1) rfl rfl rfl (fun W hW => calm_run (by have hc : W.cell? ⟨gN, 1, none⟩ = some (.int .i64 r1) := cell_below hW (HPN.out 1 (by omega)); simp [execOp, Act.eval, go_sem, hc]))
      · exact CalmG.mk 56 (.slice (some ⟨gN, 0, none⟩) 3 capN) rfl rfl rfl (fun W hW => calm_move (.tmp 9) rfl rfl)
      · exact CalmG.mk 57 (.pointer (some ⟨gN, 2, none⟩)) rfl rfl rfl (fun W hW => calm_run (by simp [execOp, Act.eval, go_sem]))
      · exact CalmG.mk 58 (.int .i64 r2) rfl rfl rfl (fun W hW => calm_run (by have hc : W.cell? ⟨gN, 2, none⟩ = some (.int .i64 r2) := cell_below hW (HPN.out 2 (by omega)); simp [execOp, Act.eval, go_sem, hc]))
      · exact CalmG.mk 59 (.agg #[.int .i64 r0, .int .i64 r1, .int .i64 r2]) rfl rfl rfl (fun W hW => calm_build 56 _ #[.int .i64 r0, .int .i64 r1, .int .i64 r2] rfl (by kernel_rfl))
      intro W hW
      simp only [List.drop_succ_cons, List.drop_zero]
      refine wpList_store_row _ rfl 56 _ _ rfl rfl (g := w.heap.size + 1 + 1) (T := 56) (cs := #[.int .i64 0, .int .i64 0, .int .i64 0]) (U := #[.int .i64 r0, .int .i64 r1, .int .i64 r2]) rfl rfl ((hW.block _ ljr).trans jr.out) rfl Tryz.sizeOf56 (by simp [Value.oneCell']) ?_
      refine wpList_nil ?_
      go_wp2
      exact bodyPost_ret (v := .agg #[.int .i64 r0, .int .i64 r1, .int .i64 r2]) (results_row Tryz.results83 rfl (setRow_heap _ _ #[.int .i64 0, .int .i64 0, .int .i64 0] _ _ _ ((hW.block _ ljr).trans jr.out)) 3 rfl Tryz.sizeOf56 Tryz.isAgg56) rfl ⟨rfl, below_setRowN (low_tr' HBq.out hW HBq.out.size) (by omega) _⟩
end Go.Proofs.YtaocnklolgdkfaaGreat
/- Contracts: orbits of a point, the program's and the reference's. (Printed by gent3.py, a program of this session.) -/
namespace Go.Proofs.YtaocnklolgdkfaaGreat
open Go.RowKit
set_option linter.unusedVariables false
set_option linter.unusedSimpArgs false
theorem own_lt {w : World} {base : Nat} {e : TypeId} {size n : Nat} {v : Value} {xs : List Value} (h : w.ownsRow base e size v n xs) (k : Nat) (hk : v.ownBlock = some k) : k < w.heap.size := by
  rcases h.2 with ⟨rfl, _⟩ | ⟨g, cap, cur, rfl, hb, hg, _⟩
  · simp [Value.ownBlock] at hk
  · have : g = k := by simpa [Value.ownBlock] using hk
    rw [← this]
    exact (Array.getElem?_eq_some_iff.1 hg).1
theorem own_same {W W' : World} {base : Nat} {e : TypeId} {size n : Nat} {v : Value} {xs : List Value} (h : W.ownsRow base e size v n xs) (hb : ∀ b, v.ownBlock = some b → W'.heap[b]? = W.heap[b]?) : W'.ownsRow base e size v n xs := by
  refine ⟨h.1, ?_⟩
  rcases h.2 with h0 | ⟨g, cap, cur, rfl, hb0, hg, hr⟩
  · exact .inl h0
  · exact .inr ⟨g, cap, cur, rfl, hb0, (hb g (by simp [Value.ownBlock])).trans hg, hr⟩
def lenV : Value → Nat
  | .slice _ n _ => n
  | _ => 0
theorem own_len {w : World} {base : Nat} {e : TypeId} {size n : Nat} {v : Value} {xs : List Value} (h : w.ownsRow base e size v n xs) : lenV v = n := by
  rcases h.2 with ⟨rfl, h0⟩ | ⟨g, cap, cur, rfl, _⟩
  · simp [lenV]; omega
  · rfl
set_option maxRecDepth 20000 in
set_option maxHeartbeats 4000000 in
theorem orbit_any (p : Int) (m : M9) (a : Pt) (k : Nat) (w : World) (hO : Orb p m a k) :
    Calls Tryz.prog 57 #[.int .i64 p, .agg (cellsM9 m), ptV a.1 a.2.1 a.2.2] w (PtsPost w (orbL p m a k)) := by
  obtain ⟨i0, hi, hz0, hz1, hz2⟩ := info_parts infoPo
  have HI0 := Lib.hid hi; have HZ0 := Lib.hid hz0; have HZ1 := Lib.hid hz1; have HZ2 := Lib.hid hz2
  have HIm : Hid (∀ (j : Nat) (W : World), Calls Tryz.prog 82 #[.int .i64 p, .agg (cellsM9 m), ptV (orbA p m a j).1 (orbA p m a j).2.1 (orbA p m a j).2.2] W (Ret W (ptV (orbA p m a (j + 1)).1 (orbA p m a (j + 1)).2.1 (orbA p m a (j + 1)).2.2))) :=
    Lib.hid (fun j W => image_any p m (orbA p m a j) W hO.pr hO.inm (orbA_in hO.pr hO.inp j))
  have HNo := Lib.hid hO.no
  have HBk := Lib.hid hO.back
  have HA0 : Hid (orbA p m a 0 = a) := Lib.hid rfl
  have HLn := Lib.hid (orbL_length p m a)
  have HSn := Lib.hid (fun j => orbL_succ p m a j)
  have HL0 : Hid (orbL p m a 0 = []) := Lib.hid rfl
  obtain ⟨hk0, hk1⟩ := hO.pos
  clear hi hz0 hz1 hz2 hO
  generalize orbA p m a = A at *
  generalize orbL p m a = Ls at *
  obtain ⟨⟨x0, x1, x2⟩, ⟨x3, x4, x5⟩, ⟨x6, x7, x8⟩⟩ := m
  obtain ⟨a0, a1, a2⟩ := a
  dsimp only [cellsM9] at *
  obtain ⟨y, hy⟩ : ∃ y, A 1 = y := ⟨_, rfl⟩
  obtain ⟨y0, y1, y2⟩ := y
  have HY := Lib.hid hy
  have HI1 := Lib.hid (HIm.out 0)
  rw [HA0.out, hy] at HI1
  clear hy
  go_enter Tryz.func57, Tryz.ntmps57
  go_wp2_with (first
    | (refine wpList_load_row _ rfl 31 _ rfl (g := w.heap.size) (T := 31) (cs := #[.int .i64 x0, .int .i64 x1, .int .i64 x2, .int .i64 x3, .int .i64 x4, .int .i64 x5, .int .i64 x6, .int .i64 x7, .int .i64 x8]) (fr := (0, 0)) rfl (by rw [hn_pastN _ _ _ (by first | omega | (simp; done) | (simp; omega)), hn_pastN _ _ _ (by first | omega | (simp; done) | (simp; omega)), hn_atN _ _ _ (by simp)]) 9 rfl Tryz.sizeOf31 Tryz.isAgg31 ?_)
    | (go_at_call 82; (with_reducible refine (HI1.out _).mono ?_); rintro e w1_ ⟨rfl, hb1⟩; obtain ⟨hcb1, hfb1, hlb1⟩ := bcell hb1; have hsz1 := hb1.size; (try simp at hsz1); have HB1 := Lib.hid hb1; clear hb1; (try (have hl01 : w.heap.size < w1_.heap.size := by omega)); (try (have hl11 : w.heap.size + 1 < w1_.heap.size := by omega)); (try (have hl21 : w.heap.size + 1 + 1 < w1_.heap.size := by omega)))
    | (refine wpList_store_row _ rfl 56 _ _ rfl rfl (U := #[.int .i64 y0, .int .i64 y1, .int .i64 y2]) rfl rfl (heap_alloc_new _ _) rfl Tryz.sizeOf56 (by simp [Value.oneCell']) ?_; rw [alloc_setRow]))
  have hs1 := HB1.out.size
  try simp at hs1
  have kx := Lib.hid (show (w1_.alloc (.cells #[.int .i64 y0, .int .i64 y1, .int .i64 y2] 56)).heap[w.heap.size]? = some (.cells #[.int .i64 x0, .int .i64 x1, .int .i64 x2, .int .i64 x3, .int .i64 x4, .int .i64 x5, .int .i64 x6, .int .i64 x7, .int .i64 x8] 31 (0, 0)) by rw [hn_pastN _ _ _ (by omega), HB1.out.block _ (by first | omega | (simp; done) | (simp; omega)), hn_pastN _ _ _ (by first | omega | (simp; done) | (simp; omega)), hn_pastN _ _ _ (by first | omega | (simp; done) | (simp; omega)), hn_atN _ _ _ (by simp)])
  have ka := Lib.hid (show (w1_.alloc (.cells #[.int .i64 y0, .int .i64 y1, .int .i64 y2] 56)).heap[w.heap.size + 1]? = some (.cells #[.int .i64 a0, .int .i64 a1, .int .i64 a2] 56 (0, 0)) by rw [hn_pastN _ _ _ (by omega), HB1.out.block _ (by simp), hn_pastN _ _ _ (by first | omega | (simp; done) | (simp; omega)), hn_atN _ _ _ (by simp)])
  have kb := Lib.hid (show (w1_.alloc (.cells #[.int .i64 y0, .int .i64 y1, .int .i64 y2] 56)).heap[w1_.heap.size]? = some (.cells #[.int .i64 y0, .int .i64 y1, .int .i64 y2] 56 (0, 0)) by rw [hn_atN _ _ _ rfl])
  have ko := Lib.hid (show (w1_.alloc (.cells #[.int .i64 y0, .int .i64 y1, .int .i64 y2] 56)).ownsRow (w.heap.size + 1 + 1) 56 3 (.slice (some ⟨w.heap.size + 1 + 1, 0, none⟩) 1 1) 1 (ptCs (Ls 1)) by rw [HSn.out 0, HL0.out, HA0.out]; exact ⟨rfl, .inr ⟨(w.heap.size + 1 + 1), 1, #[.int .i64 a0, .int .i64 a1, .int .i64 a2], rfl, Nat.le_refl _, by rw [hn_pastN _ _ _ (by omega), HB1.out.block _ (by simp), hn_atN _ _ _ (by simp)], Nat.le_refl _, by unfold maxLen; omega, rfl, rfl⟩⟩)
  have hbl := Lib.hid (show Below w.heap.size w (w1_.alloc (.cells #[.int .i64 y0, .int .i64 y1, .int .i64 y2] 56)) from (by repeat (first | exact Below.refl _ _ | refine bset ?_ _ _ (by omega) _ | refine bal ?_ _ | refine bdrN ?_ _ | refine bdr ?_ | refine below_tr' ?_ HB1.out)))
  generalize hV : w1_.alloc (.cells #[.int .i64 y0, .int .i64 y1, .int .i64 y2] 56) = V at *
  clear HI1
  go_loopw [7, 8] (fun v c wr => ∃ (j gb : Nat) (y0 y1 y2 : Int), 1 ≤ j ∧ j ≤ k ∧ Hid (A j = (y0, y1, y2)) ∧ c = .pointer (some ⟨gb, 0, none⟩) ∧ Hid (wr.ownsRow (w.heap.size + 1 + 1) 56 3 v j (ptCs (Ls j))) ∧ Hid (wr.heap[gb]? = some (.cells #[.int .i64 y0, .int .i64 y1, .int .i64 y2] 56 (0, 0))) ∧ Hid (wr.heap[w.heap.size]? = some (.cells #[.int .i64 x0, .int .i64 x1, .int .i64 x2, .int .i64 x3, .int .i64 x4, .int .i64 x5, .int .i64 x6, .int .i64 x7, .int .i64 x8] 31 (0, 0))) ∧ Hid (wr.heap[w.heap.size + 1]? = some (.cells #[.int .i64 a0, .int .i64 a1, .int .i64 a2] 56 (0, 0))) ∧ Hid (v.ownBlock ≠ some gb) ∧ w.heap.size + 1 + 1 ≤ gb ∧ Hid (Below w.heap.size w wr)) (fun v _ wr => k - (lenV v))
  case atStart => exact ⟨1, w1_.heap.size, y0, y1, y2, Nat.le_refl _, hk0, HY, rfl, ko, kb, kx, ka, Lib.hid (by simp [Value.ownBlock]; omega), by omega, hbl⟩
  case round =>
    clear ko kb kx ka hbl HY
    obtain ⟨j, gb, y0, y1, y2, hj1, hjk, HY, rfl, HO, KB, KX, KA, HNe, hgb, HB⟩ := hrel
    have kb := KB.out
    have ka := KA.out
    have lb := (Array.getElem?_eq_some_iff.1 kb).1
    have hlen : lenV u7 = j := by have := own_len HO.out; exact this
    by_cases hlt : j < k
    · have hne : eqP (y0, y1, y2) (a0, a1, a2) = false := by
        cases he : eqP (y0, y1, y2) (a0, a1, a2) with
        | false => rfl
        | true => exact absurd (HY.out.trans (eqP_iff.1 he)) (HNo.out j (by omega) hlt)
      obtain ⟨z, hz⟩ : ∃ z, A (j + 1) = z := ⟨_, rfl⟩
      obtain ⟨z0, z1, z2⟩ := z
      have HZz := Lib.hid hz
      have HIj := Lib.hid (HIm.out j)
      rw [hz, HY.out] at HIj
      clear hz
      have hNe := HNe.out
      have lx := (Array.getElem?_eq_some_iff.1 KX.out).1
      have la := (Array.getElem?_eq_some_iff.1 ka).1
      have hns := own_base' HO.out
      have HNs := Lib.hid hns
      clear hns hNe
      go_wp2_with (first
        | (at_builtin; go_loud (refine wpList_append_own _ rfl _ _ 25 rfl (w.heap.size + 1 + 1) 56 i0 (.agg #[.int .i64 0, .int .i64 0, .int .i64 0]) 3 24 Tryz.underlying25 HI0.out HZ0.out HZ1.out HZ2.out rfl (by decide) _ _ _ rfl (HO.out.alloc _) ⟨wr.heap.size, 0, none⟩ 1 1 [.int .i64 y0, .int .i64 y1, .int .i64 y2] rfl rfl (newP _ _ _ _ _) (oneP _ _ _) (by unfold maxLen; omega) (by omega) (by first | omega | (simp; done) | (simp; omega)) ?_; intro v2 w2 hown hgrow _; have HO2 := Lib.hid hown; have HG := Lib.hid hgrow; clear hown hgrow; have kb2 : w2.heap[gb]? = some (.cells #[.int .i64 y0, .int .i64 y1, .int .i64 y2] 56 (0, 0)) := (by rw [HG.out.block gb (by first | omega | (simp; done) | (simp; omega)) (fun e => HNe.out e.symm), hn_pastN _ _ _ lb]; exact kb); have KX2 := Lib.hid (show w2.heap[w.heap.size]? = some (.cells #[.int .i64 x0, .int .i64 x1, .int .i64 x2, .int .i64 x3, .int .i64 x4, .int .i64 x5, .int .i64 x6, .int .i64 x7, .int .i64 x8] 31 (0, 0)) by rw [HG.out.block (w.heap.size) (by first | omega | (simp; done) | (simp; omega)) (fun e => by have := HNs.out _ e.symm; omega), hn_pastN _ _ _ lx]; exact KX.out); have KA2 := Lib.hid (show w2.heap[w.heap.size + 1]? = some (.cells #[.int .i64 a0, .int .i64 a1, .int .i64 a2] 56 (0, 0)) by rw [HG.out.block (w.heap.size + 1) (by first | omega | (simp; done) | (simp; omega)) (fun e => by have := HNs.out _ e.symm; omega), hn_pastN _ _ _ la]; exact KA.out); have lx2 := (Array.getElem?_eq_some_iff.1 KX2.out).1; have la2 := (Array.getElem?_eq_some_iff.1 KA2.out).1))
        | (refine wpList_load_row _ rfl 56 _ rfl (g := gb) (T := 56) (cs := #[.int .i64 y0, .int .i64 y1, .int .i64 y2]) (fr := (0, 0)) rfl (kb) 3 rfl Tryz.sizeOf56 Tryz.isAgg56 ?_)
        | (refine wpList_load_row _ rfl 56 _ rfl (g := w.heap.size + 1) (T := 56) (cs := #[.int .i64 a0, .int .i64 a1, .int .i64 a2]) (fr := (0, 0)) rfl (ka) 3 rfl Tryz.sizeOf56 Tryz.isAgg56 ?_)
        | (refine wpList_load_row _ rfl 56 _ rfl (g := gb) (T := 56) (cs := #[.int .i64 y0, .int .i64 y1, .int .i64 y2]) (fr := (0, 0)) rfl (kb2) 3 rfl Tryz.sizeOf56 Tryz.isAgg56 ?_)
        | (refine wpList_load_row _ rfl 56 _ rfl (g := w2.heap.size) (T := 56) (cs := #[.int .i64 y0, .int .i64 y1, .int .i64 y2]) (fr := (0, 0)) rfl (by rw [hn_atN _ _ _ rfl]) 3 rfl Tryz.sizeOf56 Tryz.isAgg56 ?_)
        | (refine wpList_load_row _ rfl 31 _ rfl (g := w.heap.size) (T := 31) (cs := #[.int .i64 x0, .int .i64 x1, .int .i64 x2, .int .i64 x3, .int .i64 x4, .int .i64 x5, .int .i64 x6, .int .i64 x7, .int .i64 x8]) (fr := (0, 0)) rfl (by rw [hn_pastN _ _ _ lx2]; exact KX2.out) 9 rfl Tryz.sizeOf31 Tryz.isAgg31 ?_)
        | (go_at_call 82; (with_reducible refine (HIj.out _).mono ?_); rintro e w3_ ⟨rfl, hb3⟩; obtain ⟨hcb3, hfb3, hlb3⟩ := bcell hb3; have hsz3 := hb3.size; (try simp at hsz3); have HB3 := Lib.hid hb3; clear hb3; (try (have hl03 : w.heap.size < w3_.heap.size := by omega)))
        | (refine wpList_store_row _ rfl 56 _ _ rfl rfl (U := #[.int .i64 y0, .int .i64 y1, .int .i64 y2]) rfl rfl (heap_alloc_new _ _) rfl Tryz.sizeOf56 (by simp [Value.oneCell']) ?_; rw [alloc_setRow])
        | (refine wpList_store_row _ rfl 56 _ _ rfl rfl (g := w2.heap.size) (T := 56) (cs := #[.int .i64 y0, .int .i64 y1, .int .i64 y2]) (U := #[.int .i64 z0, .int .i64 z1, .int .i64 z2]) rfl rfl (by rw [HB3.out.block _ (by simp), hn_atN _ _ _ rfl]) rfl Tryz.sizeOf56 (by simp [Value.oneCell']) ?_))
      have hs3 := HB3.out.size
      try simp at hs3
      have hl2 := own_lt HO2.out
      have hb2 := own_base' HO2.out
      have q2 : Below w.heap.size w w2 := (bal HB.out _).grown HG.out (by have := HB.out.size; first | omega | (simp; done) | (simp; omega)) (fun k' hk' => by have := HNs.out k' hk'; omega)
      go_roundw
      case rel => exact ⟨j + 1, w2.heap.size, z0, z1, z2, by omega, by omega, HZz, rfl, Lib.hid (by rw [HSn.out j, ptCs_snoc, HY.out]; exact own_same HO2.out (fun b hb => by have := hl2 b hb; rw [setRow_other _ _ _ _ (by omega), HB3.out.block _ (by first | omega | (simp; done) | (simp; omega)), hn_pastN _ _ _ (by omega)])), Lib.hid (setRow_heap _ _ _ _ _ _ (by rw [HB3.out.block _ (by simp), hn_atN _ _ _ rfl])), Lib.hid (by rw [setRow_other _ _ _ _ (by omega), HB3.out.block _ (by first | omega | (simp; done) | (simp; omega)), hn_pastN _ _ _ lx2]; exact KX2.out), Lib.hid (by rw [setRow_other _ _ _ _ (by omega), HB3.out.block _ (by first | omega | (simp; done) | (simp; omega)), hn_pastN _ _ _ la2]; exact KA2.out), Lib.hid (fun e => by have := hl2 _ e; omega), by omega, Lib.hid (below_setRowN (low_tr' (bal q2 _) HB3.out (by first | omega | (simp; done) | (simp; omega))) (by omega) _)⟩
      case measure => have := own_len HO2.out; simp only [hlen]; omega
    · have hjk2 : j = k := by omega
      subst hjk2
      have hne : eqP (y0, y1, y2) (a0, a1, a2) = true := eqP_iff.2 (HY.out.symm.trans HBk.out)
      go_wp2_with (first
        | (refine wpList_load_row _ rfl 56 _ rfl (g := gb) (T := 56) (cs := #[.int .i64 y0, .int .i64 y1, .int .i64 y2]) (fr := (0, 0)) rfl (kb) 3 rfl Tryz.sizeOf56 Tryz.isAgg56 ?_)
        | (refine wpList_load_row _ rfl 56 _ rfl (g := w.heap.size + 1) (T := 56) (cs := #[.int .i64 a0, .int .i64 a1, .int .i64 a2]) (fr := (0, 0)) rfl (ka) 3 rfl Tryz.sizeOf56 Tryz.isAgg56 ?_))
      go_ret
      exact ⟨_, rfl, by rw [HLn.out]; exact own_low HO.out (by omega), HB.out⟩
set_option maxRecDepth 20000 in
set_option maxHeartbeats 4000000 in
theorem l02Orbit_any (p : Int) (m : M9) (a : Pt) (k : Nat) (w : World) (hO : Orb p m a k) :
    Calls Tryz.prog 58 #[.int .i64 p, .agg (cellsM9 m), ptV a.1 a.2.1 a.2.2] w (PtsPost w (orbL p m a k)) := by
  obtain ⟨i0, hi, hz0, hz1, hz2⟩ := info_parts infoPo
  have HI0 := Lib.hid hi; have HZ0 := Lib.hid hz0; have HZ1 := Lib.hid hz1; have HZ2 := Lib.hid hz2
  have HIm : Hid (∀ (j : Nat) (W : World), Calls Tryz.prog 83 #[.int .i64 p, .agg (cellsM9 m), ptV (orbA p m a j).1 (orbA p m a j).2.1 (orbA p m a j).2.2] W (Ret W (ptV (orbA p m a (j + 1)).1 (orbA p m a (j + 1)).2.1 (orbA p m a (j + 1)).2.2))) :=
    Lib.hid (fun j W => l02Image_any p m (orbA p m a j) W hO.pr hO.inm (orbA_in hO.pr hO.inp j))
  have HNo := Lib.hid hO.no
  have HBk := Lib.hid hO.back
  have HA0 : Hid (orbA p m a 0 = a) := Lib.hid rfl
  have HLn := Lib.hid (orbL_length p m a)
  have HSn := Lib.hid (fun j => orbL_succ p m a j)
  have HL0 : Hid (orbL p m a 0 = []) := Lib.hid rfl
  obtain ⟨hk0, hk1⟩ := hO.pos
  clear hi hz0 hz1 hz2 hO
  generalize orbA p m a = A at *
  generalize orbL p m a = Ls at *
  obtain ⟨⟨x0, x1, x2⟩, ⟨x3, x4, x5⟩, ⟨x6, x7, x8⟩⟩ := m
  obtain ⟨a0, a1, a2⟩ := a
  dsimp only [cellsM9] at *
  obtain ⟨y, hy⟩ : ∃ y, A 1 = y := ⟨_, rfl⟩
  obtain ⟨y0, y1, y2⟩ := y
  have HY := Lib.hid hy
  have HI1 := Lib.hid (HIm.out 0)
  rw [HA0.out, hy] at HI1
  clear hy
  go_enter Tryz.func58, Tryz.ntmps58
  go_wp2_with (first
    | (refine wpList_load_row _ rfl 31 _ rfl (g := w.heap.size) (T := 31) (cs := #[.int .i64 x0, .int .i64 x1, .int .i64 x2, .int .i64 x3, .int .i64 x4, .int .i64 x5, .int .i64 x6, .int .i64 x7, .int .i64 x8]) (fr := (0, 0)) rfl (by rw [hn_pastN _ _ _ (by first | omega | (simp; done) | (simp; omega)), hn_pastN _ _ _ (by first | omega | (simp; done) | (simp; omega)), hn_atN _ _ _ (by simp)]) 9 rfl Tryz.sizeOf31 Tryz.isAgg31 ?_)
    | (go_at_call 83; (with_reducible refine (HI1.out _).mono ?_); rintro e w1_ ⟨rfl, hb1⟩; obtain ⟨hcb1, hfb1, hlb1⟩ := bcell hb1; have hsz1 := hb1.size; (try simp at hsz1); have HB1 := Lib.hid hb1; clear hb1; (try (have hl01 : w.heap.size < w1_.heap.size := by omega)); (try (have hl11 : w.heap.size + 1 < w1_.heap.size := by omega)); (try (have hl21 : w.heap.size + 1 + 1 < w1_.heap.size := by omega)))
    | (refine wpList_store_row _ rfl 56 _ _ rfl rfl (U := #[.int .i64 y0, .int .i64 y1, .int .i64 y2]) rfl rfl (heap_alloc_new _ _) rfl Tryz.sizeOf56 (by simp [Value.oneCell']) ?_; rw [alloc_setRow]))
  have hs1 := HB1.out.size
  try simp at hs1
  have kx := Lib.hid (show (w1_.alloc (.cells #[.int .i64 y0, .int .i64 y1, .int .i64 y2] 56)).heap[w.heap.size]? = some (.cells #[.int .i64 x0, .int .i64 x1, .int .i64 x2, .int .i64 x3, .int .i64 x4, .int .i64 x5, .int .i64 x6, .int .i64 x7, .int .i64 x8] 31 (0, 0)) by rw [hn_pastN _ _ _ (by omega), HB1.out.block _ (by first | omega | (simp; done) | (simp; omega)), hn_pastN _ _ _ (by first | omega | (simp; done) | (simp; omega)), hn_pastN _ _ _ (by first | omega | (simp; done) | (simp; omega)), hn_atN _ _ _ (by simp)])
  have ka := Lib.hid (show (w1_.alloc (.cells #[.int .i64 y0, .int .i64 y1, .int .i64 y2] 56)).heap[w.heap.size + 1]? = some (.cells #[.int .i64 a0, .int .i64 a1, .int .i64 a2] 56 (0, 0)) by rw [hn_pastN _ _ _ (by omega), HB1.out.block _ (by simp), hn_pastN _ _ _ (by first | omega | (simp; done) | (simp; omega)), hn_atN _ _ _ (by simp)])
  have kb := Lib.hid (show (w1_.alloc (.cells #[.int .i64 y0, .int .i64 y1, .int .i64 y2] 56)).heap[w1_.heap.size]? = some (.cells #[.int .i64 y0, .int .i64 y1, .int .i64 y2] 56 (0, 0)) by rw [hn_atN _ _ _ rfl])
  have ko := Lib.hid (show (w1_.alloc (.cells #[.int .i64 y0, .int .i64 y1, .int .i64 y2] 56)).ownsRow (w.heap.size + 1 + 1) 56 3 (.slice (some ⟨w.heap.size + 1 + 1, 0, none⟩) 1 1) 1 (ptCs (Ls 1)) by rw [HSn.out 0, HL0.out, HA0.out]; exact ⟨rfl, .inr ⟨(w.heap.size + 1 + 1), 1, #[.int .i64 a0, .int .i64 a1, .int .i64 a2], rfl, Nat.le_refl _, by rw [hn_pastN _ _ _ (by omega), HB1.out.block _ (by simp), hn_atN _ _ _ (by simp)], Nat.le_refl _, by unfold maxLen; omega, rfl, rfl⟩⟩)
  have hbl := Lib.hid (show Below w.heap.size w (w1_.alloc (.cells #[.int .i64 y0, .int .i64 y1, .int .i64 y2] 56)) from (by repeat (first | exact Below.refl _ _ | refine bset ?_ _ _ (by omega) _ | refine bal ?_ _ | refine bdrN ?_ _ | refine bdr ?_ | refine below_tr' ?_ HB1.out)))
  generalize hV : w1_.alloc (.cells #[.int .i64 y0, .int .i64 y1, .int .i64 y2] 56) = V at *
  clear HI1
  go_loopw [7, 8] (fun v c wr => ∃ (j gb : Nat) (y0 y1 y2 : Int), 1 ≤ j ∧ j ≤ k ∧ Hid (A j = (y0, y1, y2)) ∧ c = .pointer (some ⟨gb, 0, none⟩) ∧ Hid (wr.ownsRow (w.heap.size + 1 + 1) 56 3 v j (ptCs (Ls j))) ∧ Hid (wr.heap[gb]? = some (.cells #[.int .i64 y0, .int .i64 y1, .int .i64 y2] 56 (0, 0))) ∧ Hid (wr.heap[w.heap.size]? = some (.cells #[.int .i64 x0, .int .i64 x1, .int .i64 x2, .int .i64 x3, .int .i64 x4, .int .i64 x5, .int .i64 x6, .int .i64 x7, .int .i64 x8] 31 (0, 0))) ∧ Hid (wr.heap[w.heap.size + 1]? = some (.cells #[.int .i64 a0, .int .i64 a1, .int .i64 a2] 56 (0, 0))) ∧ Hid (v.ownBlock ≠ some gb) ∧ w.heap.size + 1 + 1 ≤ gb ∧ Hid (Below w.heap.size w wr)) (fun v _ wr => k - (lenV v))
  case atStart => exact ⟨1, w1_.heap.size, y0, y1, y2, Nat.le_refl _, hk0, HY, rfl, ko, kb, kx, ka, Lib.hid (by simp [Value.ownBlock]; omega), by omega, hbl⟩
  case round =>
    clear ko kb kx ka hbl HY
    obtain ⟨j, gb, y0, y1, y2, hj1, hjk, HY, rfl, HO, KB, KX, KA, HNe, hgb, HB⟩ := hrel
    have kb := KB.out
    have ka := KA.out
    have lb := (Array.getElem?_eq_some_iff.1 kb).1
    have hlen : lenV u7 = j := by have := own_len HO.out; exact this
    by_cases hlt : j < k
    · have hne : eqP (y0, y1, y2) (a0, a1, a2) = false := by
        cases he : eqP (y0, y1, y2) (a0, a1, a2) with
        | false => rfl
        | true => exact absurd (HY.out.trans (eqP_iff.1 he)) (HNo.out j (by omega) hlt)
      obtain ⟨z, hz⟩ : ∃ z, A (j + 1) = z := ⟨_, rfl⟩
      obtain ⟨z0, z1, z2⟩ := z
      have HZz := Lib.hid hz
      have HIj := Lib.hid (HIm.out j)
      rw [hz, HY.out] at HIj
      clear hz
      have hNe := HNe.out
      have lx := (Array.getElem?_eq_some_iff.1 KX.out).1
      have la := (Array.getElem?_eq_some_iff.1 ka).1
      have hns := own_base' HO.out
      have HNs := Lib.hid hns
      clear hns hNe
      go_wp2_with (first
        | (at_builtin; go_loud (refine wpList_append_own _ rfl _ _ 25 rfl (w.heap.size + 1 + 1) 56 i0 (.agg #[.int .i64 0, .int .i64 0, .int .i64 0]) 3 24 Tryz.underlying25 HI0.out HZ0.out HZ1.out HZ2.out rfl (by decide) _ _ _ rfl (HO.out.alloc _) ⟨wr.heap.size, 0, none⟩ 1 1 [.int .i64 y0, .int .i64 y1, .int .i64 y2] rfl rfl (newP _ _ _ _ _) (oneP _ _ _) (by unfold maxLen; omega) (by omega) (by first | omega | (simp; done) | (simp; omega)) ?_; intro v2 w2 hown hgrow _; have HO2 := Lib.hid hown; have HG := Lib.hid hgrow; clear hown hgrow; have kb2 : w2.heap[gb]? = some (.cells #[.int .i64 y0, .int .i64 y1, .int .i64 y2] 56 (0, 0)) := (by rw [HG.out.block gb (by first | omega | (simp; done) | (simp; omega)) (fun e => HNe.out e.symm), hn_pastN _ _ _ lb]; exact kb); have KX2 := Lib.hid (show w2.heap[w.heap.size]? = some (.cells #[.int .i64 x0, .int .i64 x1, .int .i64 x2, .int .i64 x3, .int .i64 x4, .int .i64 x5, .int .i64 x6, .int .i64 x7, .int .i64 x8] 31 (0, 0)) by rw [HG.out.block (w.heap.size) (by first | omega | (simp; done) | (simp; omega)) (fun e => by have := HNs.out _ e.symm; omega), hn_pastN _ _ _ lx]; exact KX.out); have KA2 := Lib.hid (show w2.heap[w.heap.size + 1]? = some (.cells #[.int .i64 a0, .int .i64 a1, .int .i64 a2] 56 (0, 0)) by rw [HG.out.block (w.heap.size + 1) (by first | omega | (simp; done) | (simp; omega)) (fun e => by have := HNs.out _ e.symm; omega), hn_pastN _ _ _ la]; exact KA.out); have lx2 := (Array.getElem?_eq_some_iff.1 KX2.out).1; have la2 := (Array.getElem?_eq_some_iff.1 KA2.out).1))
        | (refine wpList_load_row _ rfl 56 _ rfl (g := gb) (T := 56) (cs := #[.int .i64 y0, .int .i64 y1, .int .i64 y2]) (fr := (0, 0)) rfl (kb) 3 rfl Tryz.sizeOf56 Tryz.isAgg56 ?_)
        | (refine wpList_load_row _ rfl 56 _ rfl (g := w.heap.size + 1) (T := 56) (cs := #[.int .i64 a0, .int .i64 a1, .int .i64 a2]) (fr := (0, 0)) rfl (ka) 3 rfl Tryz.sizeOf56 Tryz.isAgg56 ?_)
        | (refine wpList_load_row _ rfl 56 _ rfl (g := gb) (T := 56) (cs := #[.int .i64 y0, .int .i64 y1, .int .i64 y2]) (fr := (0, 0)) rfl (kb2) 3 rfl Tryz.sizeOf56 Tryz.isAgg56 ?_)
        | (refine wpList_load_row _ rfl 56 _ rfl (g := w2.heap.size) (T := 56) (cs := #[.int .i64 y0, .int .i64 y1, .int .i64 y2]) (fr := (0, 0)) rfl (by rw [hn_atN _ _ _ rfl]) 3 rfl Tryz.sizeOf56 Tryz.isAgg56 ?_)
        | (refine wpList_load_row _ rfl 31 _ rfl (g := w.heap.size) (T := 31) (cs := #[.int .i64 x0, .int .i64 x1, .int .i64 x2, .int .i64 x3, .int .i64 x4, .int .i64 x5, .int .i64 x6, .int .i64 x7, .int .i64 x8]) (fr := (0, 0)) rfl (by rw [hn_pastN _ _ _ lx2]; exact KX2.out) 9 rfl Tryz.sizeOf31 Tryz.isAgg31 ?_)
        | (go_at_call 83; (with_reducible refine (HIj.out _).mono ?_); rintro e w3_ ⟨rfl, hb3⟩; obtain ⟨hcb3, hfb3, hlb3⟩ := bcell hb3; have hsz3 := hb3.size; (try simp at hsz3); have HB3 := Lib.hid hb3; clear hb3; (try (have hl03 : w.heap.size < w3_.heap.size := by omega)))
        | (refine wpList_store_row _ rfl 56 _ _ rfl rfl (U := #[.int .i64 y0, .int .i64 y1, .int .i64 y2]) rfl rfl (heap_alloc_new _ _) rfl Tryz.sizeOf56 (by simp [Value.oneCell']) ?_; rw [alloc_setRow])
        | (refine wpList_store_row _ rfl 56 _ _ rfl rfl (g := w2.heap.size) (T := 56) (cs := #[.int .i64 y0, .int .i64 y1, .int .i64 y2]) (U := #[.int .i64 z0, .int .i64 z1, .int .i64 z2]) rfl rfl (by rw [HB3.out.block _ (by simp), hn_atN _ _ _ rfl]) rfl Tryz.sizeOf56 (by simp [Value.oneCell']) ?_))
      have hs3 := HB3.out.size
      try simp at hs3
      have hl2 := own_lt HO2.out
      have hb2 := own_base' HO2.out
      have q2 : Below w.heap.size w w2 := (bal HB.out _).grown HG.out (by have := HB.out.size; first | omega | (simp; done) | (simp; omega)) (fun k' hk' => by have := HNs.out k' hk'; omega)
      go_roundw
      case rel => exact ⟨j + 1, w2.heap.size, z0, z1, z2, by omega, by omega, HZz, rfl, Lib.hid (by rw [HSn.out j, ptCs_snoc, HY.out]; exact own_same HO2.out (fun b hb => by have := hl2 b hb; rw [setRow_other _ _ _ _ (by omega), HB3.out.block _ (by first | omega | (simp; done) | (simp; omega)), hn_pastN _ _ _ (by omega)])), Lib.hid (setRow_heap _ _ _ _ _ _ (by rw [HB3.out.block _ (by simp), hn_atN _ _ _ rfl])), Lib.hid (by rw [setRow_other _ _ _ _ (by omega), HB3.out.block _ (by first | omega | (simp; done) | (simp; omega)), hn_pastN _ _ _ lx2]; exact KX2.out), Lib.hid (by rw [setRow_other _ _ _ _ (by omega), HB3.out.block _ (by first | omega | (simp; done) | (simp; omega)), hn_pastN _ _ _ la2]; exact KA2.out), Lib.hid (fun e => by have := hl2 _ e; omega), by omega, Lib.hid (below_setRowN (low_tr' (bal q2 _) HB3.out (by first | omega | (simp; done) | (simp; omega))) (by omega) _)⟩
      case measure => have := own_len HO2.out; simp only [hlen]; omega
    · have hjk2 : j = k := by omega
      subst hjk2
      have hne : eqP (y0, y1, y2) (a0, a1, a2) = true := eqP_iff.2 (HY.out.symm.trans HBk.out)
      go_wp2_with (first
        | (refine wpList_load_row _ rfl 56 _ rfl (g := gb) (T := 56) (cs := #[.int .i64 y0, .int .i64 y1, .int .i64 y2]) (fr := (0, 0)) rfl (kb) 3 rfl Tryz.sizeOf56 Tryz.isAgg56 ?_)
        | (refine wpList_load_row _ rfl 56 _ rfl (g := w.heap.size + 1) (T := 56) (cs := #[.int .i64 a0, .int .i64 a1, .int .i64 a2]) (fr := (0, 0)) rfl (ka) 3 rfl Tryz.sizeOf56 Tryz.isAgg56 ?_))
      go_ret
      exact ⟨_, rfl, by rw [HLn.out]; exact own_low HO.out (by omega), HB.out⟩
end Go.Proofs.YtaocnklolgdkfaaGreat
/- Own lists, found again by search; slice literals of one element and appends to own lists. -/
namespace Go.Proofs.YtaocnklolgdkfaaGreat
open Go.RowKit
set_option linter.unusedVariables false
set_option linter.unusedSimpArgs false
/-- An own list. -/
structure OwnK (W : World) (B : Nat) (T : TypeId) (sz : Nat) (v : Value) (n : Nat) (xs : List Value) : Prop where
  out : W.ownsRow B T sz v n xs
/-- The list's block is not this one. -/
structure Off (v : Value) (g : Nat) : Prop where
  out : v.ownBlock ≠ some g
/-- The list that this value is has been appended to. -/
structure Grew (w : World) (v : Value) (W : World) : Prop where
  out : w.grownBy W v.ownBlock
theorem OwnK.below {w W : World} {B : Nat} {T : TypeId} {sz : Nat} {v : Value} {n : Nat} {xs : List Value} (h : OwnK w B T sz v n xs) (l : Below w.heap.size w W) : OwnK W B T sz v n xs := ⟨own_below h.out l⟩
theorem OwnK.link {w W : World} {B : Nat} {T : TypeId} {sz : Nat} {v : Value} {n : Nat} {xs : List Value} (l : Link w W) (h : OwnK w B T sz v n xs) : OwnK W B T sz v n xs := h.below l.out
theorem OwnK.alloc {w : World} {B : Nat} {T : TypeId} {sz : Nat} {v : Value} {n : Nat} {xs : List Value} (h : OwnK w B T sz v n xs) (o : Obj) : OwnK (w.alloc o) B T sz v n xs := h.below (bal (Below.refl _ _) o)
theorem OwnK.drew {w : World} {B : Nat} {T : TypeId} {sz : Nat} {v : Value} {n : Nat} {xs : List Value} (h : OwnK w B T sz v n xs) : OwnK w.drew B T sz v n xs := ⟨h.out⟩
theorem OwnK.drewN {w : World} {B : Nat} {T : TypeId} {sz : Nat} {v : Value} {n : Nat} {xs : List Value} (h : OwnK w B T sz v n xs) (k : Nat) : OwnK (w.drewN k) B T sz v n xs := ⟨h.out⟩
theorem OwnK.set {w : World} {B : Nat} {T : TypeId} {sz : Nat} {v : Value} {n g : Nat} {xs : List Value} {U : Array Value} (h : OwnK w B T sz v n xs) (hg : Off v g) : OwnK (w.setRow g U) B T sz v n xs :=
  ⟨own_same h.out fun b hb => setRow_other _ _ _ _ (fun e => hg.out (by rw [hb, e]))⟩
theorem OwnK.grew {w W : World} {B : Nat} {T : TypeId} {sz : Nat} {v u : Value} {n : Nat} {xs : List Value} (hg : Grew w u W) (h : OwnK w B T sz v n xs) (ho : ∀ b, v.ownBlock = some b → u.ownBlock ≠ some b) : OwnK W B T sz v n xs :=
  ⟨own_same h.out fun b hb => hg.out.block b (own_lt h.out b hb) (fun e => ho b hb e.symm)⟩
theorem OwnK.lt {w : World} {B : Nat} {T : TypeId} {sz : Nat} {v : Value} {n : Nat} {xs : List Value} (h : OwnK w B T sz v n xs) (b : Nat) (hb : v.ownBlock = some b) : b < w.heap.size := own_lt h.out b hb
theorem OwnK.base {w : World} {B : Nat} {T : TypeId} {sz : Nat} {v : Value} {n : Nat} {xs : List Value} (h : OwnK w B T sz v n xs) (b : Nat) (hb : v.ownBlock = some b) : B ≤ b := own_base' h.out b hb
theorem Off.above {w : World} {B : Nat} {T : TypeId} {sz : Nat} {v : Value} {n g : Nat} {xs : List Value} (h : OwnK w B T sz v n xs) (hg : w.heap.size ≤ g) : Off v g := ⟨fun e => by have := h.lt g e; omega⟩
theorem Off.under {w : World} {B : Nat} {T : TypeId} {sz : Nat} {v : Value} {n g : Nat} {xs : List Value} (h : OwnK w B T sz v n xs) (hg : g < B) : Off v g := ⟨fun e => by have := h.base g e; omega⟩
theorem Grew.size {w W : World} {v : Value} (h : Grew w v W) : w.heap.size ≤ W.heap.size := h.out.size
theorem RowK.grew {w W : World} {u : Value} {g : Nat} {cs : Array Value} {T : TypeId} (hg : Grew w u W) (ho : Off u g) (h : RowK w g cs T) : RowK W g cs T := ⟨(hg.out.block g h.lt (fun e => ho.out e.symm)).trans h.out⟩
theorem cell_grew {w W : World} {u : Value} {b o : Nat} {x : Value} (hg : Grew w u W) (ho : Off u b) (h : w.cell? ⟨b, o, none⟩ = some x) : W.cell? ⟨b, o, none⟩ = some x := hg.out.cell h (fun e => ho.out e.symm)
theorem PtsK.grew {w W : World} {u : Value} {b o n : Nat} {L : List Pt} (hg : Grew w u W) (ho : Off u b) (h : PtsK w b o n L) : PtsK W b o n L :=
  ⟨fun i hi => ⟨cell_grew hg ho (h.out i hi).1, cell_grew hg ho (h.out i hi).2.1, cell_grew hg ho (h.out i hi).2.2⟩⟩
theorem IntsK.grew {w W : World} {u : Value} {b o n : Nat} {L : List Int} (hg : Grew w u W) (ho : Off u b) (h : IntsK w b o n L) : IntsK W b o n L := ⟨fun i hi => cell_grew hg ho (h.out i hi)⟩
theorem LowK.grew {w w1 W : World} {u : Value} (hg : Grew w1 u W) (ho : ∀ b, u.ownBlock = some b → w.heap.size ≤ b) (h : LowK w w1) : LowK w W := ⟨h.out.grown hg.out h.out.size ho⟩
theorem LowK.grewB {w w1 w2 W : World} {B : Nat} {T : TypeId} {sz n : Nat} {u : Value} {xs : List Value} (hg : Grew w1 u W) (hO : OwnK w2 B T sz u n xs) (hB : w.heap.size ≤ B) (h : LowK w w1) : LowK w W := h.grew hg (fun b hb => Nat.le_trans hB (hO.base b hb))
/-- Two lists of different blocks. -/
structure Apart (v u : Value) : Prop where
  out : ∀ b, v.ownBlock = some b → u.ownBlock ≠ some b
theorem Apart.symm {v u : Value} (h : Apart v u) : Apart u v := ⟨fun b h1 h2 => h.out b h2 h1⟩
theorem Apart.next {v u u' : Value} {w : World} {B : Nat} {T : TypeId} {sz n : Nat} {xs : List Value} (h : Apart v u) (hO : OwnK w B T sz v n xs) (hb : u'.ownBlock = u.ownBlock ∨ u'.ownBlock = some w.heap.size) : Apart v u' :=
  ⟨fun b h1 h2 => by
    rcases hb with e | e
    · exact h.out b h1 (by rw [← e, h2])
    · have := hO.lt b h1; rw [e] at h2; have := Option.some.inj h2; omega⟩
theorem Apart.of {g1 g2 n1 c1 n2 c2 : Nat} (h : g1 ≠ g2) : Apart (.slice (some ⟨g1, 0, none⟩) n1 c1) (.slice (some ⟨g2, 0, none⟩) n2 c2) := ⟨fun b h1 h2 => by simp [Value.ownBlock] at h1 h2; omega⟩
/-- What an append needs to know of the types. -/
structure EltK (P : Program) (ty e : TypeId) (sz : Nat) : Prop where
  out : P.underlying ty = some (.slice e) ∧ ∃ i z, P.info? e = some i ∧ i.zero = some z ∧ i.size = sz ∧ z.cells.size = sz ∧ 0 < sz ∧ sz ≤ 100 ∧ i.bytes ≤ 1000
section
variable {P : Program} {ops : Array Oper} {rest : List Oper} {o : Oper} {a : Act} {Q : Exit → Act → World → Prop}
theorem wpList_append_K (w : World) (hgd : o.guard = none) (s x : Operand) (t e : TypeId) (sz : Nat) (ho : o.op = .call { callee := .builtin .append, args := #[s, x], argTypes := #[t, t] }) (he : EltK P t e sz)
    {v : Value} {g m c : Nat} (hs : a.eval s = v) (hx : a.eval x = .slice (some ⟨g, 0, none⟩) m c) {B n : Nat} {xs : List Value} (hown : OwnK w B e sz v n xs) {news : Array Value} {T : TypeId} (hnew : RowK w g news T) (hl : news.size = m * sz) (h1 : ∀ u ∈ news.toList, u.oneCell' = true)
    (h63 : n + m ≤ 1000000) (hbase : B ≤ w.heap.size)
    (h : ∀ v' w', OwnK w' B e sz v' (n + m) (xs ++ news.toList) → Grew w v w' → (v'.ownBlock = v.ownBlock ∨ v'.ownBlock = some w.heap.size) → wpList P ops Q rest (a.put o.dst v') w') : wpList P ops Q (o :: rest) a w := by
  obtain ⟨hu, i, z, hi, hz, hsz, hzs, hpos, hle, hby⟩ := he.out
  refine wpList_append_own_at w hgd s x t ho B e i z sz i.bytes hu hi hz hsz rfl hzs hpos v n xs hs hown.out ⟨g, 0, none⟩ m c news.toList hx (by simpa using hl) (fun j u hj => ?_) h1 (by unfold maxLen; omega) ?_ hbase (fun v' w' h2 h3 h4 h5 => h v' w' ⟨h2⟩ ⟨h3⟩ h5)
  · have hadd : (⟨g, 0, none⟩ : Addr).add j = ⟨g, j, none⟩ := by unfold Addr.add; split <;> simp_all
    rw [hadd, cell_of_row w g j _ _ _ hnew.out]
    simpa using hj
  · exact Nat.le_trans (Nat.mul_le_mul h63 hby) (by decide)
/-- A slice literal of one aggregate of three. -/
theorem wpList_slice_pt (w : World) (hgd : o.guard = none) (t e : TypeId) (x : Operand) (ho : o.op = .buildSlice t 1 #[(0, x)]) (he : EltK P t e 3) {p : Pt} (hx : a.eval x = pV p)
    (h : wpList P ops Q rest (a.put o.dst (.slice (some ⟨w.heap.size, 0, none⟩) 1 1)) (w.alloc (.cells (pC p) e))) : wpList P ops Q (o :: rest) a w := by
  obtain ⟨hu, i, z, hi, hz, hsz, hzs, hpos, hle, hby⟩ := he.out
  refine wpList_buildSlice hgd t e 1 _ ho (pC p) i z hu hi hz (by rw [hsz]; decide) (by rw [hsz]; decide) ?_ h
  simp only [List.map_toArray, List.map_cons, List.map_nil, hx, hsz]
  generalize z.cells = zc at hzs
  have e1 : (Array.range (1 * 3)).map (fun k => zc[k % zc.size]!) = #[zc[0]!, zc[1]!, zc[2]!] := by
    rw [hzs]
    apply Array.ext
    · simp
    · intro i h1 h2
      simp at h1
      match i, h1 with
      | 0, _ => simp
      | 1, _ => simp
      | 2, _ => simp
  rw [e1]
  rfl
end
theorem eltPo : EltK Tryz.prog 25 56 3 := by
  obtain ⟨i0, hi, hz0, hz1, hz2⟩ := info_parts (show (Tryz.prog.info? 56).map (fun i => (i.zero, i.size, i.bytes)) = some (some (.agg #[.int .i64 0, .int .i64 0, .int .i64 0]), 3, 24) by kernel_rfl)
  exact ⟨Tryz.underlying25, i0, _, hi, hz0, hz1, rfl, by decide, by decide, by rw [hz2]; decide⟩
theorem eltLn : EltK Tryz.prog 87 38 3 := by
  obtain ⟨i0, hi, hz0, hz1, hz2⟩ := info_parts (show (Tryz.prog.info? 38).map (fun i => (i.zero, i.size, i.bytes)) = some (some (.agg #[.int .i64 0, .int .i64 0, .int .i64 0]), 3, 24) by kernel_rfl)
  exact ⟨Tryz.underlying87, i0, _, hi, hz0, hz1, rfl, by decide, by decide, by rw [hz2]; decide⟩
theorem eltI64 : EltK Tryz.prog 34 2 1 := by
  obtain ⟨i0, hi, hz0, hz1, hz2⟩ := info_parts (show (Tryz.prog.info? 2).map (fun i => (i.zero, i.size, i.bytes)) = some (some (.int .i64 0), 1, 8) by kernel_rfl)
  exact ⟨Tryz.underlying34, i0, _, hi, hz0, hz1, rfl, by decide, by decide, by rw [hz2]; decide⟩
theorem eltInt : EltK Tryz.prog 72 3 1 := by
  obtain ⟨i0, hi, hz0, hz1, hz2⟩ := info_parts (show (Tryz.prog.info? 3).map (fun i => (i.zero, i.size, i.bytes)) = some (some (.int .i64 0), 1, 8) by kernel_rfl)
  exact ⟨Tryz.underlying72, i0, _, hi, hz0, hz1, rfl, by decide, by decide, by rw [hz2]; decide⟩
theorem OwnK.empty {w : World} {B g : Nat} {T : TypeId} {sz : Nat} (h : RowK w g #[] T) (hB : B ≤ g) : OwnK w B T sz (.slice (some ⟨g, 0, none⟩) 0 0) 0 [] :=
  ⟨by simp, .inr ⟨g, 0, #[], rfl, hB, h.out, Nat.le_refl _, by unfold maxLen; omega, by simp, by simp⟩⟩
/-- An own list of points, read. -/
theorem OwnK.pts {W : World} {B : Nat} {T : TypeId} {v : Value} {n : Nat} {l : List Pt} (h : OwnK W B T 3 v n (ptCs l)) (hl : l.length = n) (hn : 0 < n) :
    ∃ g cap, v = .slice (some ⟨g, 0, none⟩) n cap ∧ B ≤ g ∧ g < W.heap.size ∧ PtsK W g 0 n l := by
  obtain ⟨g, cap, h1, h2, h3, h4⟩ := ownPts h.out hl hn
  exact ⟨g, cap, h1, h2, h3, ⟨h4⟩⟩
theorem ptCs_end (l : List Pt) (p : Pt) : ptCs l ++ (pC p).toList = ptCs (l ++ [p]) := by simp [ptCs, pC, ptC]
end Go.Proofs.YtaocnklolgdkfaaGreat
/- The searches of a walk, as defaults of arguments: a fact is found again by its name alone. -- own lists -- numbers -/
namespace Go.Proofs.YtaocnklolgdkfaaGreat
open Go.RowKit
set_option linter.unusedVariables false
set_option linter.unusedSimpArgs false
theorem ints_end (l : List Int) (k : Int) : ints l ++ (#[Value.int .i64 k] : Array Value).toList = ints (l ++ [k]) := by simp [ints]
theorem IntsK.lt {w : World} {b o n : Nat} {L : List Int} (h : IntsK w b o n L) (hn : 0 < n) : b < w.heap.size := World.block_lt_of_cell? w _ (h.out 0 hn)
theorem OwnK.ints {W : World} {B : Nat} {T : TypeId} {v : Value} {n : Nat} {l : List Int} (h : OwnK W B T 1 v n (ints l)) (hl : l.length = n) (hn : 0 < n) :
    ∃ g cap, v = .slice (some ⟨g, 0, none⟩) n cap ∧ B ≤ g ∧ g < W.heap.size ∧ IntsK W g 0 n l := by
  rcases h.out.2 with ⟨_, h0⟩ | ⟨g, cap, cur, rfl, hb, hg, hle, _, hsz, htk⟩
  · exfalso; omega
  · refine ⟨g, cap, rfl, hb, (Array.getElem?_eq_some_iff.1 hg).1, ⟨fun i hi => ?_⟩⟩
    rw [Nat.zero_add, cell_of_row W g i _ _ _ hg]
    have h1 : (cur.toList.take (n * 1))[i]? = (Go.Proofs.YtaocnklolgdkfaaGreat.ints l)[i]? := by rw [htk]
    rw [Nat.mul_one, List.getElem?_take_of_lt hi] at h1
    rw [← Array.getElem?_toList, h1]
    unfold Go.Proofs.YtaocnklolgdkfaaGreat.ints
    have hil : i < l.length := by omega
    simp [List.getD, hil]
theorem run_load_intT {P : Program} {o : Oper} {W : World} {ρ : Operand → Value} {ty : TypeId} {x : Operand} {b e n : Nat} {L : List Int} (hop : o.op = .load ty x) (hx : ρ x = .pointer (some ⟨b, e, none⟩)) (hL : IntsK W b 0 n L) (he : e < n)
    (ha : ∀ W, (isAgg ty).run P W = .ok false W) (t : Int) (ht : L.getD e 0 = t) : (execOp ρ o).run P W = .ok (.value (.int .i64 t)) W := by
  have h := hL.out e he
  rw [Nat.zero_add, ht] at h
  unfold execOp
  simp only [hop, hx, Instr.loadAt, Instr.sureAddr, Sem.run_bind, Sem.run_pure, Result.andThen_ok, loadVar, ha, Bool.false_eq_true, if_false]
  rw [run_load]
  simp [h]
theorem findRow {W : World} {g : Nat} {cs : Array Value} {T : TypeId} (h : RowK W g cs T := by repeat (first | with_reducible assumption | ((with_reducible apply RowK.new); (first | rfl | (focus (simp; done)) | omega | (focus (simp; omega)))) | with_reducible apply RowK.here | (apply RowK.link; (· with_reducible assumption)) | with_reducible apply RowK.alloc | with_reducible apply RowK.drewN | with_reducible apply RowK.drew | ((with_reducible apply RowK.set); (· first | assumption | omega | (simp; omega))) | (apply RowK.grew; (· with_reducible assumption); (· (first | with_reducible assumption | (apply Off.under; (· with_reducible assumption); (· omega)) | (apply Off.above; (· with_reducible assumption); (· omega))))))) : RowK W g cs T := h
theorem findPts {W : World} {b o n : Nat} {L : List Pt} (h : PtsK W b o n L := by repeat (first | with_reducible assumption | (apply PtsK.link; (· with_reducible assumption)) | with_reducible apply PtsK.alloc | with_reducible apply PtsK.drewN | with_reducible apply PtsK.drew | ((with_reducible apply PtsK.set); (· first | assumption | omega | (simp; omega))) | (apply PtsK.grew; (· with_reducible assumption); (· (first | with_reducible assumption | (apply Off.under; (· with_reducible assumption); (· omega)) | (apply Off.above; (· with_reducible assumption); (· omega))))))) : PtsK W b o n L := h
theorem findInts {W : World} {b o n : Nat} {L : List Int} (h : IntsK W b o n L := by repeat (first | with_reducible assumption | (apply IntsK.link; (· with_reducible assumption)) | with_reducible apply IntsK.alloc | with_reducible apply IntsK.drewN | with_reducible apply IntsK.drew | ((with_reducible apply IntsK.set); (· first | assumption | omega | (simp; omega))) | (apply IntsK.grew; (· with_reducible assumption); (· (first | with_reducible assumption | (apply Off.under; (· with_reducible assumption); (· omega)) | (apply Off.above; (· with_reducible assumption); (· omega))))))) : IntsK W b o n L := h
theorem findLow {w W : World} (h : LowK w W := by repeat (first | with_reducible assumption | with_reducible exact LowK.refl _ | (apply LowK.link; (· with_reducible assumption)) | with_reducible apply LowK.alloc | with_reducible apply LowK.drewN | with_reducible apply LowK.drew | ((with_reducible apply LowK.set); (· first | assumption | omega | (simp; omega))) | (apply LowK.grewB; (· with_reducible assumption); (· with_reducible assumption); (· omega)))) : LowK w W := h
theorem findOwn {W : World} {B : Nat} {T : TypeId} {sz : Nat} {v : Value} {n : Nat} {xs : List Value} (h : OwnK W B T sz v n xs := by repeat (first | with_reducible assumption | (apply OwnK.link; (· with_reducible assumption)) | with_reducible apply OwnK.alloc | with_reducible apply OwnK.drewN | with_reducible apply OwnK.drew | with_reducible apply OwnK.set | with_reducible assumption | (apply Off.under; (· with_reducible assumption); (· omega)) | (apply Off.above; (· with_reducible assumption); (· omega)) | (apply OwnK.grew; (· with_reducible assumption)) | exact Apart.out (by first | assumption | exact Apart.symm (by assumption)))) : OwnK W B T sz v n xs := h
section
variable {ρ : Operand → Value} {o : Oper} {W : World} {ty : TypeId} {x : Operand}
theorem ld_row {g : Nat} {T : TypeId} {cs : Array Value} {n : Nat} (hop : o.op = .load ty x := by exact rfl) (hx : ρ x = .pointer (some ⟨g, 0, none⟩) := by exact rfl) (hg : RowK W g cs T := by repeat (first | with_reducible assumption | ((with_reducible apply RowK.new); (first | rfl | (focus (simp; done)) | omega | (focus (simp; omega)))) | with_reducible apply RowK.here | (apply RowK.link; (· with_reducible assumption)) | with_reducible apply RowK.alloc | with_reducible apply RowK.drewN | with_reducible apply RowK.drew | ((with_reducible apply RowK.set); (· first | assumption | omega | (simp; omega))) | (apply RowK.grew; (· with_reducible assumption); (· (first | with_reducible assumption | (apply Off.under; (· with_reducible assumption); (· omega)) | (apply Off.above; (· with_reducible assumption); (· omega))))))) (hn : cs.size = n := by exact rfl)
    (hs : ∀ W, (sizeOf ty).run Tryz.prog W = .ok n W := by (first | exact Tryz.sizeOf56 | exact Tryz.sizeOf38 | exact Tryz.sizeOf31)) (ha : ∀ W, (isAgg ty).run Tryz.prog W = .ok true W := by (first | exact Tryz.isAgg56 | exact Tryz.isAgg38 | exact Tryz.isAgg31)) : (execOp ρ o).run Tryz.prog W = .ok (.value (.agg cs)) W := run_load_rowK hop hx hg n hn hs ha
theorem ld_pt {b e n : Nat} {L : List Pt} {t : Pt} (k : Nat) (hop : o.op = .load ty x := by exact rfl) (hx : ρ x = .pointer (some ⟨b, e, none⟩) := by exact rfl) (hL : PtsK W b 0 n L := by repeat (first | with_reducible assumption | (apply PtsK.link; (· with_reducible assumption)) | with_reducible apply PtsK.alloc | with_reducible apply PtsK.drewN | with_reducible apply PtsK.drew | ((with_reducible apply PtsK.set); (· first | assumption | omega | (simp; omega))) | (apply PtsK.grew; (· with_reducible assumption); (· (first | with_reducible assumption | (apply Off.under; (· with_reducible assumption); (· omega)) | (apply Off.above; (· with_reducible assumption); (· omega))))))) (he : e = k * 3 := by exact rfl) (hk : k < n := by (first | assumption | omega | decide))
    (hs : ∀ W, (sizeOf ty).run Tryz.prog W = .ok 3 W := by (first | exact Tryz.sizeOf56 | exact Tryz.sizeOf38 | exact Tryz.sizeOf31)) (ha : ∀ W, (isAgg ty).run Tryz.prog W = .ok true W := by (first | exact Tryz.isAgg56 | exact Tryz.isAgg38 | exact Tryz.isAgg31)) (ht : L.getD k (0, 0, 0) = t := by (first | with_reducible assumption | (simp only [List.getD_cons_zero, List.getD_cons_succ]; exact rfl) | exact rfl)) : (execOp ρ o).run Tryz.prog W = .ok (.value (pV t)) W := run_load_ptT k hop hx hL he hk hs ha t ht
theorem ld_int {b e n : Nat} {L : List Int} {t : Int} (hop : o.op = .load ty x := by exact rfl) (hx : ρ x = .pointer (some ⟨b, e, none⟩) := by exact rfl) (hL : IntsK W b 0 n L := by repeat (first | with_reducible assumption | (apply IntsK.link; (· with_reducible assumption)) | with_reducible apply IntsK.alloc | with_reducible apply IntsK.drewN | with_reducible apply IntsK.drew | ((with_reducible apply IntsK.set); (· first | assumption | omega | (simp; omega))) | (apply IntsK.grew; (· with_reducible assumption); (· (first | with_reducible assumption | (apply Off.under; (· with_reducible assumption); (· omega)) | (apply Off.above; (· with_reducible assumption); (· omega))))))) (he : e < n := by (first | assumption | omega | decide))
    (ha : ∀ W, (isAgg ty).run Tryz.prog W = .ok false W := by (first | exact Tryz.isAgg2 | exact Tryz.isAgg3 | exact Tryz.isAgg4)) (ht : L.getD e 0 = t := by (first | with_reducible assumption | (simp only [List.getD_cons_zero, List.getD_cons_succ]; exact rfl) | exact rfl)) : (execOp ρ o).run Tryz.prog W = .ok (.value (.int .i64 t)) W := run_load_intT hop hx hL he ha t ht
end
section
variable {ops : Array Oper} {rest : List Oper} {o : Oper} {a : Act} {w : World} {Q : Exit → Act → World → Prop}
theorem wl_load {ty : TypeId} {x : Operand} {v : Value} (hK : wpList Tryz.prog ops Q rest (a.put o.dst v) w) (hgd : o.guard = none := by exact rfl) (hop : o.op = .load ty x := by exact rfl)
    (hr : (execOp a.eval o).run Tryz.prog w = .ok (.value v) w := by first | exact ld_row | exact ld_pt _ | exact ld_pt 0 | exact ld_pt 1 | exact ld_pt 2 | exact ld_pt 3 | exact ld_int) : wpList Tryz.prog ops Q (o :: rest) a w := wpList_load_any w hgd ty x hop hr hK
theorem wl_store {ty : TypeId} {x y : Operand} {g n : Nat} {T : TypeId} {cs U : Array Value} (hK : wpList Tryz.prog ops Q rest a (w.setRow g U)) (hgd : o.guard = none := by exact rfl) (hop : o.op = .store ty x y := by exact rfl) (hd : o.dst = none := by exact rfl)
    (hx : a.eval x = .pointer (some ⟨g, 0, none⟩) := by exact rfl) (hy : a.eval y = .agg U := by exact rfl) (hg : RowK w g cs T := by repeat (first | with_reducible assumption | ((with_reducible apply RowK.new); (first | rfl | (focus (simp; done)) | omega | (focus (simp; omega)))) | with_reducible apply RowK.here | (apply RowK.link; (· with_reducible assumption)) | with_reducible apply RowK.alloc | with_reducible apply RowK.drewN | with_reducible apply RowK.drew | ((with_reducible apply RowK.set); (· first | assumption | omega | (simp; omega))) | (apply RowK.grew; (· with_reducible assumption); (· (first | with_reducible assumption | (apply Off.under; (· with_reducible assumption); (· omega)) | (apply Off.above; (· with_reducible assumption); (· omega))))))) (hn : cs.size = n := by exact rfl) (hU : U.size = n := by exact rfl)
    (hs : ∀ W, (sizeOf ty).run Tryz.prog W = .ok n W := by (first | exact Tryz.sizeOf56 | exact Tryz.sizeOf38 | exact Tryz.sizeOf31)) (h1 : ∀ v ∈ U.toList, v.oneCell' = true := by (first | exact pC_one _ | (focus (simp [Value.oneCell']; done)))) : wpList Tryz.prog ops Q (o :: rest) a w := wpList_store_rowK w hgd ty x y hop hd hx hy hg n hn hU hs h1 hK
theorem wl_build {t : TypeId} {parts : Array (Nat × Operand)} (hK : wpList Tryz.prog ops Q rest (a.put o.dst (.agg (pC (0, 0, 0)))) w) (hgd : o.guard = none := by exact rfl) (hop : o.op = .build t parts := by exact rfl)
    (hb : Program.built Tryz.prog t (parts.map fun (i, x) => (i, a.eval x)).toList = some (pC (0, 0, 0)) := by kernel_rfl) : wpList Tryz.prog ops Q (o :: rest) a w := wpList_build w hgd t parts hop _ hb hK
theorem wl_slice {t e : TypeId} {x : Operand} {p : Pt} (h : wpList Tryz.prog ops Q rest (a.put o.dst (.slice (some ⟨w.heap.size, 0, none⟩) 1 1)) (w.alloc (.cells (pC p) e))) (hgd : o.guard = none := by exact rfl) (ho : o.op = .buildSlice t 1 #[(0, x)] := by exact rfl)
    (he : EltK Tryz.prog t e 3 := by (first | exact eltPo | exact eltLn | exact eltI64 | exact eltInt)) (hx : a.eval x = pV p := by exact rfl) : wpList Tryz.prog ops Q (o :: rest) a w := wpList_slice_pt w hgd t e x ho he hx h
theorem wl_append {s x : Operand} {t e : TypeId} {sz g m c B n : Nat} {v : Value} {xs : List Value} {news : Array Value} {T : TypeId}
    (h : ∀ v' w', OwnK w' B e sz v' (n + m) (xs ++ news.toList) → Grew w v w' → (v'.ownBlock = v.ownBlock ∨ v'.ownBlock = some w.heap.size) → wpList Tryz.prog ops Q rest (a.put o.dst v') w')
    (hgd : o.guard = none := by exact rfl) (ho : o.op = .call { callee := .builtin .append, args := #[s, x], argTypes := #[t, t] } := by exact rfl) (he : EltK Tryz.prog t e sz := by (first | exact eltPo | exact eltLn | exact eltI64 | exact eltInt))
    (hs : a.eval s = v := by conv => lhs; whnf) (hx : a.eval x = .slice (some ⟨g, 0, none⟩) m c := by exact rfl) (hown : OwnK w B e sz v n xs := by repeat (first | with_reducible assumption | (apply OwnK.link; (· with_reducible assumption)) | with_reducible apply OwnK.alloc | with_reducible apply OwnK.drewN | with_reducible apply OwnK.drew | with_reducible apply OwnK.set | with_reducible assumption | (apply Off.under; (· with_reducible assumption); (· omega)) | (apply Off.above; (· with_reducible assumption); (· omega)) | (apply OwnK.grew; (· with_reducible assumption)) | exact Apart.out (by first | assumption | exact Apart.symm (by assumption)))) (hnew : RowK w g news T := by repeat (first | with_reducible assumption | ((with_reducible apply RowK.new); (first | rfl | (focus (simp; done)) | omega | (focus (simp; omega)))) | with_reducible apply RowK.here | (apply RowK.link; (· with_reducible assumption)) | with_reducible apply RowK.alloc | with_reducible apply RowK.drewN | with_reducible apply RowK.drew | ((with_reducible apply RowK.set); (· first | assumption | omega | (simp; omega))) | (apply RowK.grew; (· with_reducible assumption); (· (first | with_reducible assumption | (apply Off.under; (· with_reducible assumption); (· omega)) | (apply Off.above; (· with_reducible assumption); (· omega))))))) (hl : news.size = m * sz := by exact rfl) (h1 : ∀ u ∈ news.toList, u.oneCell' = true := by (first | exact pC_one _ | (focus (simp [Value.oneCell']; done))))
    (h63 : n + m ≤ 1000000 := by first | omega | (simp; omega)) (hbase : B ≤ w.heap.size := by first | omega | (simp; omega)) : wpList Tryz.prog ops Q (o :: rest) a w := wpList_append_K w hgd s x t e sz ho he hs hx hown hnew hl h1 h63 hbase h
theorem q_load {w : World} {G : Grow0 w} {K : Act → Prop} {ty : TypeId} {x : Operand} {v : Value} (hK : K (a.put o.dst v)) (hop : o.op = .load ty x := by exact rfl)
    (h : ∀ W, Link w W → (execOp a.eval o).run Tryz.prog W = .ok (.value v) W := by (intro W hl; first | exact ld_row | exact ld_pt _ | exact ld_pt 0 | exact ld_pt 1 | exact ld_pt 2 | exact ld_pt 3 | exact ld_int)) : o.quiet Tryz.prog a (fun w' => ∃ g : Grow w G, w' = g.W) K := q_load_any ty x hop h hK
end
section
variable {P : Program} {Q : Exit → Act → World → Prop} {l : List Oper} {a0 : Act} {w : World}
theorem region_QA {id : Nat} (m : Nat) (H : ∃ aE, (∀ G : Grow0 w, wpQuiet P l.toArray (fun w' => ∃ g : Grow w G, w' = g.W) (fun a' => a' = aE) (l.take m) a0) ∧ ∀ W, Link w W → wpList P l.toArray Q (l.drop m) aE W)
    (hm : P.follows .mixedOrders = true := by kernel_rfl) (hml : m ≤ l.length := by decide) (chk : viaChk l m a0.tmps.size = true := by kernel_rfl) (hgd : guardsIn l m = true := by kernel_rfl) (hon : onceB l m = true := by kernel_rfl) :
    (Code.region id l.toArray true).wp P Q a0 w := region_Q m hm hml chk hgd hon H
theorem region_CHA {id : Nat} (m : Nat) (ch : List Nat) (KP : World → Prop) {ms mc : List Bool} {rl cl : List Oper} (hpk : Pick l ms rl) (hpc : Pick l mc cl)
    (hk : ∀ W W', KP W → Link W W' → KP W') (h0 : KP w)
    (H : ∃ aE, (∀ W0, KP W0 → ∀ G : Grow0 W0, wpQuiet P l.toArray (fun w' => ∃ g : Grow W0 G, w' = g.W) (fun a' => a' = aE) rl a0) ∧ wpCh P l.toArray KP (fun a' W' => wpList P l.toArray Q (l.drop m) a' W') cl aE w)
    (hm : P.follows .mixedOrders = true := by kernel_rfl) (hml : m ≤ l.length := by decide)
    (hrl : (((List.range m).filter fun i => !ch.contains i).filterMap fun i => l[i]?) = rl := by kernel_rfl) (hcl : (ch.filterMap fun i => l[i]?) = cl := by kernel_rfl)
    (chk : viaChkC l m a0.tmps.size ch = true := by kernel_rfl) (hgd : guardsIn l m = true := by kernel_rfl) (hon : onceC l m = true := by kernel_rfl) (hch : chChk l m ch = true := by kernel_rfl) (hcb : chanB l m ch = true := by kernel_rfl) :
    (Code.region id l.toArray true).wp P Q a0 w := region_CH m ch KP hpk hpc hm hml hrl hcl chk hgd hon hch hcb hk h0 H
end
end Go.Proofs.YtaocnklolgdkfaaGreat
/- Plain: the rank of a table of numbers modulo a prime, by elimination. -/
namespace Go.Proofs.YtaocnklolgdkfaaGreat
set_option linter.unusedVariables false
set_option linter.unusedSimpArgs false
/-- The first row from f on that is not 0 in column c; N if there is none. -/
def piv (M : Nat → Nat → Int) (c N f : Nat) : Nat := if f < N ∧ M f c = 0 then piv M c N (f + 1) else f
termination_by N - f
def swp {α : Type} (M : Nat → α) (r f : Nat) : Nat → α := fun i => if i = r then M f else if i = f then M r else M i
/-- Row r taken from the rows behind it, from column c on. -/
def elm (q : Int) (c r : Nat) (M : Nat → Nat → Int) : Nat → Nat → Int := fun i k => if r < i ∧ ¬ M i c = 0 ∧ c ≤ k then (M i k - (M i c * invP q (M r c)) % q * M r k) % q else M i k
def stp (q : Int) (N c : Nat) (s : Nat × (Nat → Nat → Int)) : Nat × (Nat → Nat → Int) := if piv s.2 c N s.1 = N then s else (s.1 + 1, elm q c s.1 (swp s.2 s.1 (piv s.2 c N s.1)))
def elim (q : Int) (N : Nat) (M0 : Nat → Nat → Int) : Nat → Nat × (Nat → Nat → Int)
  | 0 => (0, M0)
  | c + 1 => stp q N c (elim q N M0 c)
section
variable {q : Int} {c r i k N : Nat} {B : Nat → Nat → Int}
end
end Go.Proofs.YtaocnklolgdkfaaGreat
/- Tables of numbers in memory: rows in blocks of their own, their headers in one. -- own lists -- numbers -/
namespace Go.Proofs.YtaocnklolgdkfaaGreat
open Go.RowKit
set_option linter.unusedVariables false
set_option linter.unusedSimpArgs false
@[reducible] def rowV (N : Nat) (q : Nat × Nat) : Value := .slice (some ⟨q.1, 0, none⟩) N q.2
structure RowF (W : World) (g cap N : Nat) (F : Nat → Int) : Prop where
  room : RoomI W g cap 2
  le : N ≤ cap
  at_ : ∀ j, j < N → W.cell? ⟨g, j, none⟩ = some (.int .i64 (F j))
section
variable {W W' : World} {g g' cap N k : Nat} {F G : Nat → Int}
theorem RowF.blk (h : RowF W g cap N F) (e : W'.heap[g]? = W.heap[g]?) : RowF W' g cap N F := by
  obtain ⟨⟨cur, h1, h2⟩, h3, h4⟩ := h
  refine ⟨⟨cur, e.trans h1, h2⟩, h3, fun j hj => ?_⟩
  rw [← h4 j hj]; unfold World.cell?; rw [e]
theorem RowF.lt (h : RowF W g cap N F) : g < W.heap.size := h.room.lt
theorem RowF.below (h : RowF W g cap N F) (hb : Below W.heap.size W W') : RowF W' g cap N F := h.blk (hb.block _ h.lt)
theorem RowF.link (l : Link W W') (h : RowF W g cap N F) : RowF W' g cap N F := h.below l.out
theorem RowF.alloc (h : RowF W g cap N F) (o : Obj) : RowF (W.alloc o) g cap N F := h.below (bal (Below.refl _ _) o)
theorem RowF.set (h : RowF W g cap N F) (hk : k < N) (x : Int) : RowF (W.setCell ⟨g, k, none⟩ (.int .i64 x)) g cap N (fun j => if j = k then x else F j) := by
  refine ⟨h.room.set k _, h.le, fun j hj => ?_⟩
  by_cases e : j = k
  · subst e
    rw [World.cell?_setCell_same _ _ _ (h.at_ j hj)]
    simp
  · rw [World.cell?_setCell_other _ _ _ _ (fun h => e (by cases h; rfl)), h.at_ j hj]
    simp [e]
theorem setCell_blk (W : World) {g g' : Nat} (hne : g ≠ g') (k : Nat) (v : Value) : (W.setCell ⟨g', k, none⟩ v).heap[g]? = W.heap[g]? := by
  simp [World.setCell, Array.getElem?_modify, Ne.symm hne]
theorem RowF.other (h : RowF W g cap N F) (hne : g ≠ g') (k : Nat) (v : Value) : RowF (W.setCell ⟨g', k, none⟩ v) g cap N F := h.blk (setCell_blk W hne k v)
theorem RowF.congr (h : RowF W g cap N F) (e : ∀ j, j < N → F j = G j) : RowF W g cap N G := ⟨h.room, h.le, fun j hj => by rw [h.at_ j hj, e j hj]⟩
end
theorem room_ne {W : World} {g g' c c' : Nat} {T T' : TypeId} (h : RoomI W g c T) (h' : RoomI W g' c' T') (hT : T ≠ T') : g ≠ g' := by
  rintro rfl
  obtain ⟨_, h1, _⟩ := h
  obtain ⟨_, h2, _⟩ := h'
  rw [h1] at h2
  cases h2
  exact hT rfl
/-- A cell that holds a value; a cell that may be stored to. -/
structure CellK (W : World) (g k : Nat) (v : Value) : Prop where
  out : W.cell? ⟨g, k, none⟩ = some v
structure StK (W : World) (g k : Nat) : Prop where
  out : (W.cell? ⟨g, k, none⟩).isSome = true ∧ W.frozen? ⟨g, k, none⟩ = false ∧ g < W.heap.size
theorem CellK.link {W W' : World} {g k : Nat} {v : Value} (l : Link W W') (h : CellK W g k v) : CellK W' g k v := ⟨cell_below l.out h.out⟩
theorem CellK.alloc {W : World} {g k : Nat} {v : Value} (h : CellK W g k v) (o : Obj) : CellK (W.alloc o) g k v := ⟨cell_below (bal (Below.refl _ _) o) h.out⟩
theorem StK.link {W W' : World} {g k : Nat} (l : Link W W') (h : StK W g k) : StK W' g k := by
  obtain ⟨h1, h2, h3⟩ := h.out
  have e := l.out.block g h3
  refine ⟨?_, ?_, Nat.lt_of_lt_of_le h3 l.out.size⟩
  · unfold World.cell? at h1 ⊢; rw [e]; exact h1
  · unfold World.frozen? at h2 ⊢; rw [e]; exact h2
theorem RowF.cell {W : World} {g cap N k : Nat} {F : Nat → Int} (h : RowF W g cap N F) (hk : k < N) : CellK W g k (.int .i64 (F k)) := ⟨h.at_ k hk⟩
theorem RowF.st {W : World} {g cap N k : Nat} {F : Nat → Int} (h : RowF W g cap N F) (hk : k < N) : StK W g k := ⟨h.room.some k (Nat.lt_of_lt_of_le hk h.le), h.room.frozen k, h.lt⟩
/-- The rows of a table. -/
structure RowsK (W : World) (B k N : Nat) (gs : Nat → Nat × Nat) (M : Nat → Nat → Int) : Prop where
  row : ∀ i, i < k → RowF W (gs i).1 (gs i).2 N (M i)
  low : ∀ i, i < k → B ≤ (gs i).1
  inj : ∀ i j, i < k → j < k → (gs i).1 = (gs j).1 → i = j
section
variable {W W' : World} {B k N i c : Nat} {gs : Nat → Nat × Nat} {M M' : Nat → Nat → Int}
theorem RowsK.blk (h : RowsK W B k N gs M) (e : ∀ i, i < k → W'.heap[(gs i).1]? = W.heap[(gs i).1]?) : RowsK W' B k N gs M := ⟨fun i hi => (h.row i hi).blk (e i hi), h.low, h.inj⟩
theorem RowsK.link (l : Link W W') (h : RowsK W B k N gs M) : RowsK W' B k N gs M := h.blk (fun i hi => l.out.block _ (h.row i hi).lt)
theorem RowsK.alloc (h : RowsK W B k N gs M) (o : Obj) : RowsK (W.alloc o) B k N gs M := h.blk (fun i hi => (bal (Below.refl _ _) o : Below W.heap.size W (W.alloc o)).block _ (h.row i hi).lt)
theorem RowsK.grew {u : Value} (hg : Grew W u W') (ho : ∀ i, i < k → Off u (gs i).1) (h : RowsK W B k N gs M) : RowsK W' B k N gs M := h.blk (fun i hi => hg.out.block _ (h.row i hi).lt (fun e => (ho i hi).out e.symm))
theorem RowsK.other {g' : Nat} (h : RowsK W B k N gs M) (hne : ∀ i, i < k → (gs i).1 ≠ g') (c : Nat) (v : Value) : RowsK (W.setCell ⟨g', c, none⟩ v) B k N gs M := h.blk (fun i hi => setCell_blk W (hne i hi) c v)
theorem RowsK.set (h : RowsK W B k N gs M) (hi : i < k) (hc : c < N) (x : Int) : RowsK (W.setCell ⟨(gs i).1, c, none⟩ (.int .i64 x)) B k N gs (fun j l => if j = i ∧ l = c then x else M j l) := by
  refine ⟨fun j hj => ?_, h.low, h.inj⟩
  by_cases e : j = i
  · subst e
    exact ((h.row j hj).set hc x).congr (fun l hl => by by_cases e2 : l = c <;> simp [e2])
  · exact ((h.row j hj).other (fun e2 => e (h.inj j i hj hi e2)) c _).congr (fun l hl => by simp [e])
theorem RowsK.congr (h : RowsK W B k N gs M) (e : ∀ i l, i < k → l < N → M i l = M' i l) : RowsK W B k N gs M' := ⟨fun i hi => (h.row i hi).congr (fun l hl => e i l hi hl), h.low, h.inj⟩
theorem RowsK.swap {r f : Nat} (h : RowsK W B k N gs M) (hr : r < k) (hf : f < k) : RowsK W B k N (swp gs r f) (swp M r f) := by
  have key : ∀ i, i < k → ∃ j, j < k ∧ swp gs r f i = gs j ∧ swp M r f i = M j ∧ j = (if i = r then f else if i = f then r else i) := by
    intro i hi
    unfold swp
    by_cases h1 : i = r
    · exact ⟨f, hf, by rw [if_pos h1], by rw [if_pos h1], by rw [if_pos h1]⟩
    · by_cases h2 : i = f
      · exact ⟨r, hr, by rw [if_neg h1, if_pos h2], by rw [if_neg h1, if_pos h2], by rw [if_neg h1, if_pos h2]⟩
      · exact ⟨i, hi, by rw [if_neg h1, if_neg h2], by rw [if_neg h1, if_neg h2], by rw [if_neg h1, if_neg h2]⟩
  refine ⟨fun i hi => ?_, fun i hi => ?_, fun i j hi hj e => ?_⟩
  · obtain ⟨j, hj, e1, e2, -⟩ := key i hi
    rw [e1, e2]; exact h.row j hj
  · obtain ⟨j, hj, e1, e2, -⟩ := key i hi
    rw [e1]; exact h.low j hj
  · obtain ⟨i', hi', e1, -, x1⟩ := key i hi
    obtain ⟨j', hj', e2, -, x2⟩ := key j hj
    rw [e1, e2] at e
    have := h.inj i' j' hi' hj' e
    rw [x1, x2] at this
    clear e e1 e2 x1 x2
    split at this <;> split at this <;> (try split at this) <;> (try split at this) <;> omega
theorem RowsK.nil (W : World) (B N : Nat) (gs : Nat → Nat × Nat) (M : Nat → Nat → Int) : RowsK W B 0 N gs M := ⟨fun i hi => absurd hi (Nat.not_lt_zero _), fun i hi => absurd hi (Nat.not_lt_zero _), fun i j hi => absurd hi (Nat.not_lt_zero _)⟩
end
/-- The headers of the rows. -/
structure HdK (W : World) (g0 cap0 N : Nat) (gs : Nat → Nat × Nat) : Prop where
  room : RoomI W g0 cap0 34
  le : N ≤ cap0
  at_ : ∀ i, i < N → W.cell? ⟨g0, i, none⟩ = some (rowV N (gs i))
section
variable {W W' : World} {g0 cap0 N i : Nat} {gs : Nat → Nat × Nat}
theorem HdK.blk (h : HdK W g0 cap0 N gs) (e : W'.heap[g0]? = W.heap[g0]?) : HdK W' g0 cap0 N gs := by
  obtain ⟨⟨cur, h1, h2⟩, h3, h4⟩ := h
  refine ⟨⟨cur, e.trans h1, h2⟩, h3, fun j hj => ?_⟩
  rw [← h4 j hj]; unfold World.cell?; rw [e]
theorem HdK.lt (h : HdK W g0 cap0 N gs) : g0 < W.heap.size := h.room.lt
theorem HdK.link (l : Link W W') (h : HdK W g0 cap0 N gs) : HdK W' g0 cap0 N gs := h.blk (l.out.block _ h.lt)
theorem HdK.other {g' : Nat} (h : HdK W g0 cap0 N gs) (hne : g0 ≠ g') (k : Nat) (v : Value) : HdK (W.setCell ⟨g', k, none⟩ v) g0 cap0 N gs := h.blk (setCell_blk W hne k v)
theorem HdK.set (h : HdK W g0 cap0 N gs) (hi : i < N) (q : Nat × Nat) : HdK (W.setCell ⟨g0, i, none⟩ (rowV N q)) g0 cap0 N (fun j => if j = i then q else gs j) := by
  refine ⟨h.room.set i _, h.le, fun j hj => ?_⟩
  by_cases e : j = i
  · subst e
    rw [World.cell?_setCell_same _ _ _ (h.at_ j hj)]
    simp
  · rw [World.cell?_setCell_other _ _ _ _ (fun h => e (by cases h; rfl)), h.at_ j hj]
    simp [e]
theorem HdK.cell (h : HdK W g0 cap0 N gs) (hi : i < N) : CellK W g0 i (rowV N (gs i)) := ⟨h.at_ i hi⟩
theorem HdK.st (h : HdK W g0 cap0 N gs) (hi : i < N) : StK W g0 i := ⟨h.room.some i (Nat.lt_of_lt_of_le hi h.le), h.room.frozen i, h.lt⟩
theorem HdK.congr {gs' : Nat → Nat × Nat} (h : HdK W g0 cap0 N gs) (e : ∀ i, i < N → gs i = gs' i) : HdK W g0 cap0 N gs' := ⟨h.room, h.le, fun j hj => by rw [h.at_ j hj, e j hj]⟩
theorem HdK.ne {B k : Nat} {M : Nat → Nat → Int} {gs' : Nat → Nat × Nat} (h : HdK W g0 cap0 N gs) (hR : RowsK W B k N gs' M) (hi : i < k) : (gs' i).1 ≠ g0 := room_ne (hR.row i hi).room h.room (by decide)
end
def rowVs (N : Nat) (gs : Nat → Nat × Nat) (k : Nat) : List Value := (List.range k).map (fun i => rowV N (gs i))
theorem OwnK.hd {W : World} {B N : Nat} {v : Value} {gs : Nat → Nat × Nat} (h : OwnK W B 34 1 v N (rowVs N gs N)) (hn : 0 < N) :
    ∃ g cap, v = .slice (some ⟨g, 0, none⟩) N cap ∧ B ≤ g ∧ HdK W g cap N gs := by
  rcases h.out.2 with ⟨_, h0⟩ | ⟨g, cap, cur, rfl, hb, hg, hle, _, hsz, htk⟩
  · omega
  · refine ⟨g, cap, rfl, hb, ⟨cur, hg, by simpa using hsz⟩, hle, fun i hi => ?_⟩
    rw [cell_of_row W g i _ _ _ hg]
    have h1 : (cur.toList.take (N * 1))[i]? = (rowVs N gs N)[i]? := by rw [htk]
    rw [Nat.mul_one, List.getElem?_take_of_lt hi] at h1
    rw [← Array.getElem?_toList, h1]
    simp [rowVs, hi]
end Go.Proofs.YtaocnklolgdkfaaGreat
/- Walks over tables of numbers: loads and stores of one cell, 'make', and the searches for them. -- tables -/
namespace Go.Proofs.YtaocnklolgdkfaaGreat
open Go.RowKit
set_option linter.unusedVariables false
set_option linter.unusedSimpArgs false
theorem StK.viaLow {W W' : World} {g k : Nat} (h : StK W g k) (l : LowK W W') : StK W' g k := h.link (LowK.lnk l)
theorem CellK.viaLow {W W' : World} {g k : Nat} {v : Value} (h : CellK W g k v) (l : LowK W W') : CellK W' g k v := h.link (LowK.lnk l)
theorem LowK.setCell {w W : World} {g : Nat} (hg : w.heap.size ≤ g) (k : Nat) (v : Value) (h : LowK w W) : LowK w (W.setCell ⟨g, k, none⟩ v) := ⟨h.out.setCell hg _⟩
theorem RowK.setCell {W : World} {g g' : Nat} {cs : Array Value} {T : TypeId} (h : RowK W g cs T) (hne : g ≠ g') (k : Nat) (v : Value) : RowK (W.setCell ⟨g', k, none⟩ v) g cs T := ⟨(setCell_blk W hne k v).trans h.out⟩
theorem Off.row {W : World} {B n g cap N : Nat} {v : Value} {xs : List Value} {F : Nat → Int} (hO : OwnK W B 34 1 v n xs) (hF : RowF W g cap N F) : Off v g := by
  refine ⟨fun e => ?_⟩
  obtain ⟨cur, h1, -⟩ := hF.room
  rcases hO.out.2 with ⟨rfl, _⟩ | ⟨g2, c2, cur2, rfl, _, h2, _⟩
  · simp [Value.ownBlock] at e
  · simp [Value.ownBlock] at e
    subst e
    rw [h1] at h2
    have := congrArg (fun o : Option Obj => match o with | some (.cells _ T _) => T | _ => 0) h2
    exact absurd (show (2 : TypeId) = 34 from this) (by decide)
theorem RowF.grew {w W : World} {u : Value} {g cap N : Nat} {F : Nat → Int} (hg : Grew w u W) (ho : Off u g) (h : RowF w g cap N F) : RowF W g cap N F := h.blk (hg.out.block g h.lt (fun e => ho.out e.symm))
theorem CellK.of {W : World} {g k : Nat} {v : Value} (h : CellK W g k v) : W.cell? ⟨g, k, none⟩ = some v := h.out
section
variable {ρ : Operand → Value} {ops : Array Oper} {rest : List Oper} {o : Oper} {a : Act} {w W : World} {Q : Exit → Act → World → Prop} {ty : TypeId} {x y : Operand}
end
end Go.Proofs.YtaocnklolgdkfaaGreat
/- Lists of maps in memory: loads and stores of nine cells in the middle of a block, and the searches for them. -/
namespace Go.Proofs.YtaocnklolgdkfaaGreat
open Go.RowKit
set_option linter.unusedVariables false
set_option linter.unusedSimpArgs false
def mC (t : M9) : Array Value := #[.int .i64 t.1.1, .int .i64 t.1.2.1, .int .i64 t.1.2.2, .int .i64 t.2.1.1, .int .i64 t.2.1.2.1, .int .i64 t.2.1.2.2, .int .i64 t.2.2.1, .int .i64 t.2.2.2.1, .int .i64 t.2.2.2.2]
@[reducible] def mV (t : M9) : Value := .agg (mC t)
def m0 : M9 := ((0, 0, 0), (0, 0, 0), (0, 0, 0))
theorem mC_one (t : M9) : ∀ u ∈ (mC t).toList, u.oneCell' = true := by
  intro u hu
  simp only [mC, List.mem_cons, List.not_mem_nil, or_false] at hu
  rcases hu with h | h | h | h | h | h | h | h | h <;> (subst h; rfl)
/-- Cells in the middle of a block. -/
structure RangeK (W : World) (b o : Nat) (U : Array Value) : Prop where
  out : W.rangeAt b o U.toList
/-- Cells that may be written. -/
structure ThereK (W : World) (b o n : Nat) : Prop where
  out : W.there b o n ∧ b < W.heap.size
theorem RangeK.link {W W' : World} {b o : Nat} {U : Array Value} (l : Link W W') (h : RangeK W b o U) : RangeK W' b o U := ⟨fun j v hv => cell_below l.out (h.out j v hv)⟩
theorem RangeK.alloc {W : World} {b o : Nat} {U : Array Value} (h : RangeK W b o U) (ob : Obj) : RangeK (W.alloc ob) b o U := ⟨World.rangeAt_alloc h.out ob⟩
theorem RangeK.viaLow {W W' : World} {b o : Nat} {U : Array Value} (h : RangeK W b o U) (l : LowK W W') : RangeK W' b o U := h.link (LowK.lnk l)
theorem RangeK.apart {W : World} {b o b' o' : Nat} {U : Array Value} {vs : List Value} (h : RangeK W b o U) (hap : b ≠ b' ∨ o + U.size ≤ o' ∨ o' + vs.length ≤ o) : RangeK (W.setCells b' o' vs) b o U := ⟨World.rangeAt_setCells_apart h.out b' o' vs (by simpa using hap)⟩
theorem RangeK.row {W : World} {b : Nat} {C U : Array Value} {T : TypeId} (h : RowK W b C T) (o : Nat) (hU : (C.extract o (o + U.size)) = U) : RangeK W b o U := ⟨by rw [← hU]; exact World.rangeAt_of_block h.out o U.size⟩
theorem ThereK.link {W W' : World} {b o n : Nat} (l : Link W W') (h : ThereK W b o n) : ThereK W' b o n := by
  obtain ⟨h1, h3⟩ := h.out
  have e := l.out.block b h3
  refine ⟨fun j hj => ?_, Nat.lt_of_lt_of_le h3 l.out.size⟩
  obtain ⟨k1, k2⟩ := h1 j hj
  refine ⟨?_, ?_⟩
  · unfold World.cell? at k1 ⊢; rw [e]; exact k1
  · unfold World.frozen? at k2 ⊢; rw [e]; exact k2
theorem ThereK.viaLow {W W' : World} {b o n : Nat} (h : ThereK W b o n) (l : LowK W W') : ThereK W' b o n := h.link (LowK.lnk l)
theorem ThereK.sets {W : World} {b o n b' o' : Nat} {vs : List Value} (h : ThereK W b o n) : ThereK (W.setCells b' o' vs) b o n := ⟨World.there_setCells h.out.1 b' o' vs, by rw [setCells_size]; exact h.out.2⟩
theorem ThereK.part {W : World} {b n : Nat} (h : ThereK W b 0 n) (o m : Nat) (hm : o + m ≤ n) : ThereK W b o m := ⟨fun j hj => by have := h.out.1 (o + j) (by omega); rwa [Nat.zero_add] at this, h.out.2⟩
theorem LowK.sets {w W : World} {g : Nat} (hg : w.heap.size ≤ g) (o : Nat) (vs : List Value) (h : LowK w W) : LowK w (W.setCells g o vs) := ⟨below_setCells g hg _ _ _ h.out⟩
/-- A list of maps. -/
structure MapsK (W : World) (b o n : Nat) (L : List M9) : Prop where
  out : ∀ i, i < n → W.rangeAt b (o + i * 9) (mC (L.getD i m0)).toList
theorem MapsK.link {W W' : World} {b o n : Nat} {L : List M9} (l : Link W W') (h : MapsK W b o n L) : MapsK W' b o n L := ⟨fun i hi => ((RangeK.mk (h.out i hi)).link l).out⟩
theorem MapsK.at_ {W : World} {b o n i : Nat} {L : List M9} (h : MapsK W b o n L) (hi : i < n) : RangeK W b (o + i * 9) (mC (L.getD i m0)) := ⟨h.out i hi⟩
theorem MapsK.lt {W : World} {b o n : Nat} {L : List M9} (h : MapsK W b o n L) (hn : 0 < n) : b < W.heap.size := World.block_lt_of_cell? W _ (h.out 0 hn 0 _ rfl)
structure RowTy (ty : TypeId) (n : Nat) : Prop where
  out : ∃ d, Tryz.prog.underlying ty = some d ∧ d.isRow = true ∧ (Tryz.prog.info? ty).map (·.size) = some n
theorem rowMap : RowTy 31 9 := ⟨_, Tryz.underlying31, rfl, by kernel_rfl⟩
theorem rowA33 : RowTy 30 9 := ⟨_, Tryz.underlying30, rfl, by kernel_rfl⟩
theorem rowA3 : RowTy 29 3 := ⟨_, Tryz.underlying29, rfl, by kernel_rfl⟩
section
variable {ρ : Operand → Value} {ops : Array Oper} {rest : List Oper} {o : Oper} {a : Act} {w W : World} {Q : Exit → Act → World → Prop} {ty : TypeId} {x y : Operand}
theorem findRange {W : World} {b o : Nat} {U : Array Value} (h : RangeK W b o U := by first | with_reducible assumption | (with_reducible apply RangeK.viaLow; (· with_reducible assumption); (· exact findLow)) | (repeat (first | with_reducible assumption | (apply RangeK.link; (· with_reducible assumption)) | with_reducible apply RangeK.alloc))) : RangeK W b o U := h
theorem ld_mid {b off n : Nat} {U : Array Value} (hop : o.op = .load ty x := by exact rfl) (hx : ρ x = .pointer (some ⟨b, off, none⟩) := by exact rfl) (hc : RangeK W b off U := by exact findRange)
    (hn : U.size = n := by exact rfl) (hty : RowTy ty n := by first | exact rowMap | exact rowA33 | exact rowA3) : (execOp ρ o).run Tryz.prog W = .ok (.value (.agg U)) W := by
  obtain ⟨d, h1, h2, h3⟩ := hty.out
  unfold execOp
  have hs : (Tryz.prog.info? ty).map (·.size) = some U.toList.length := by rw [h3]; simp [hn]
  simp only [hop, hx, Sem.run_bind, run_loadAt_mid W b off ty U.toList d hc.out h1 h2 hs, Result.andThen_ok]
  rfl
theorem wl_loadM {U : Array Value} (hK : wpList Tryz.prog ops Q rest (a.put o.dst (.agg U)) w) (hgd : o.guard = none := by exact rfl) (hop : o.op = .load ty x := by exact rfl)
    (hr : (execOp a.eval o).run Tryz.prog w = .ok (.value (.agg U)) w := by exact ld_mid) : wpList Tryz.prog ops Q (o :: rest) a w := wpList_load_any w hgd ty x hop hr hK
theorem wl_fill1 (hK : wpList Tryz.prog ops Q rest (a.put o.dst (.agg (pC (-7000000000000000101, 0, 0)))) w) (hgd : o.guard = none := by exact rfl) (hop : o.op = .build 29 #[(0, .const (.int .i64 (-7000000000000000101)))] := by exact rfl) : wpList Tryz.prog ops Q (o :: rest) a w :=
  wpList_build w hgd _ _ hop _ ((show Program.built Tryz.prog 29 (#[(0, .const (.int .i64 (-7000000000000000101)))].map fun ((i, x) : Nat × Operand) => (i, a.eval x)).toList = Program.built Tryz.prog 29 [(0, .int .i64 (-7000000000000000101))] from by simp; rfl).trans (show Program.built Tryz.prog 29 [(0, .int .i64 (-7000000000000000101))] = some (pC (-7000000000000000101, 0, 0)) by kernel_rfl)) hK
theorem wl_fill2 (hK : wpList Tryz.prog ops Q rest (a.put o.dst (.agg (mC ((-7000000000000000101, 0, 0), (0, 0, 0), (0, 0, 0))))) w) (hgd : o.guard = none := by exact rfl) (hop : o.op = .build 31 #[(0, x)] := by exact rfl) (hx : a.eval x = .agg (pC (-7000000000000000101, 0, 0)) := by exact rfl) : wpList Tryz.prog ops Q (o :: rest) a w :=
  wpList_build w hgd _ _ hop _ ((show Program.built Tryz.prog 31 (#[(0, x)].map fun ((i, x) : Nat × Operand) => (i, a.eval x)).toList = Program.built Tryz.prog 31 [(0, .agg (pC (-7000000000000000101, 0, 0)))] from by simp [hx]).trans (show Program.built Tryz.prog 31 [(0, .agg (pC (-7000000000000000101, 0, 0)))] = some (mC ((-7000000000000000101, 0, 0), (0, 0, 0), (0, 0, 0))) by kernel_rfl)) hK
theorem wl_storeM {b off n : Nat} {U : Array Value} (hK : wpList Tryz.prog ops Q rest a (w.setCells b off U.toList)) (hgd : o.guard = none := by exact rfl) (hop : o.op = .store ty x y := by exact rfl) (hd : o.dst = none := by exact rfl)
    (hx : a.eval x = .pointer (some ⟨b, off, none⟩) := by exact rfl) (hy : a.eval y = .agg U := by exact rfl)
    (hS : ThereK w b off n := by first | with_reducible assumption | (with_reducible apply ThereK.viaLow; (· with_reducible assumption); (· exact findLow)) | (with_reducible apply ThereK.link; (· with_reducible assumption); (· with_reducible assumption)))
    (hn : U.size = n := by exact rfl) (hty : RowTy ty n := by first | exact rowMap | exact rowA33 | exact rowA3) (h1 : ∀ v ∈ U.toList, v.oneCell' = true := by first | exact mC_one _ | (intro v hv; simp at hv; rcases hv with rfl | rfl | rfl <;> rfl)) : wpList Tryz.prog ops Q (o :: rest) a w := by
  obtain ⟨d, k1, k2, k3⟩ := hty.out
  subst hn
  have hr : (execOp a.eval o).run Tryz.prog w = .ok .skip (w.setCells b off U.toList) := by
    unfold execOp
    have := run_storeAt_mid (P := Tryz.prog) w b off ty U hS.out.1 k3 (by have h2 := all_oneCell_toArray (cs := U.toList) h1; simpa using h2)
    simp only [hop, hx, hy, Sem.run_bind, this, Result.andThen_ok]
    rfl
  refine wpList_plain hgd fun K hK' => ?_
  unfold Oper.wp
  rw [hr]
  simp only [Oper.upon, hd]
  exact hK' _ _ hK
end
end Go.Proofs.YtaocnklolgdkfaaGreat
/- Go maps keyed by maps: looked up and written. -/
namespace Go.Proofs.YtaocnklolgdkfaaGreat
open Go.RowKit
set_option linter.unusedVariables false
set_option linter.unusedSimpArgs false
/-- A Go map from maps to true. -/
structure GoMapK (W : World) (g : Nat) (L : List M9) : Prop where
  out : ∃ es clock, W.heap[g]? = some (.map es clock) ∧ es.toList.map (·.key) = L.map mV ∧ ∀ e ∈ es.toList, e.val = .bool true
theorem GoMapK.lt {W : World} {g : Nat} {L : List M9} (h : GoMapK W g L) : g < W.heap.size := by
  obtain ⟨es, cl, h1, -⟩ := h.out
  exact (Array.getElem?_eq_some_iff.1 h1).1
theorem GoMapK.blk {W W' : World} {g : Nat} {L : List M9} (h : GoMapK W g L) (e : W'.heap[g]? = W.heap[g]?) : GoMapK W' g L := by
  obtain ⟨es, cl, h1, h2⟩ := h.out
  exact ⟨es, cl, e.trans h1, h2⟩
theorem GoMapK.link {W W' : World} {g : Nat} {L : List M9} (l : Link W W') (h : GoMapK W g L) : GoMapK W' g L := h.blk (l.out.block _ h.lt)
end Go.Proofs.YtaocnklolgdkfaaGreat
/- Plain: the maps of a group, one after the other; own lists of maps. -/
namespace Go.Proofs.YtaocnklolgdkfaaGreat
open Go.RowKit
set_option linter.unusedVariables false
set_option linter.unusedSimpArgs false
def oneM : M9 := ((1, 0, 0), (0, 1, 0), (0, 0, 1))
def stepA (p : Int) (A : List M9) (x m : M9) : List M9 := if timesM p x m ∈ A then A else A ++ [timesM p x m]
def innA (p : Int) (ms : List M9) (A : List M9) (x : M9) : Nat → List M9
  | 0 => A
  | k + 1 => stepA p (innA p ms A x k) x (ms.getD k m0)
def seqA (p : Int) (ms : List M9) : Nat → List M9
  | 0 => [oneM]
  | i + 1 => innA p ms (seqA p ms i) ((seqA p ms i).getD i m0) ms.length
def GoodA (p : Int) (ms : List M9) (I : Nat) : Prop := ∀ i, i < I → i < (seqA p ms i).length ∧ (seqA p ms (i + 1)).length ≤ 200
def mCs (l : List M9) : List Value := l.flatMap (fun t => (mC t).toList)
theorem mCs_at : ∀ (l : List M9) (i j : Nat), i < l.length → j < 9 → (mCs l)[i * 9 + j]? = (mC (l.getD i m0)).toList[j]?
  | [], i, j, hi, _ => by simp at hi
  | a :: l, 0, j, _, hj => by
    show ((mC a).toList ++ mCs l)[0 * 9 + j]? = _
    rw [List.getElem?_append_left (by simp [mC]; omega)]
    simp
  | a :: l, i + 1, j, hi, hj => by
    show ((mC a).toList ++ mCs l)[(i + 1) * 9 + j]? = _
    rw [List.getElem?_append_right (by simp [mC]; omega)]
    have e : (i + 1) * 9 + j - (mC a).toList.length = i * 9 + j := by simp [mC]; omega
    rw [e, mCs_at l i j (by simpa using hi) hj]
    simp
theorem eltMp : EltK Tryz.prog 98 31 9 := by
  obtain ⟨i0, hi, hz0, hz1, hz2⟩ := info_parts (show (Tryz.prog.info? 31).map (fun i => (i.zero, i.size, i.bytes)) = some (some (.agg #[.int .i64 0, .int .i64 0, .int .i64 0, .int .i64 0, .int .i64 0, .int .i64 0, .int .i64 0, .int .i64 0, .int .i64 0]), 9, 72) by kernel_rfl)
  exact ⟨Tryz.underlying98, i0, _, hi, hz0, hz1, rfl, by decide, by decide, by rw [hz2]; decide⟩
theorem OwnK.maps {W : World} {B : Nat} {v : Value} {n : Nat} {l : List M9} (h : OwnK W B 31 9 v n (mCs l)) (hl : l.length = n) (hn : 0 < n) :
    ∃ g cap, v = .slice (some ⟨g, 0, none⟩) n cap ∧ B ≤ g ∧ g < W.heap.size ∧ MapsK W g 0 n l := by
  rcases h.out.2 with ⟨_, h0⟩ | ⟨g, cap, cur, rfl, hb, hg, hle, _, hsz, htk⟩
  · omega
  · refine ⟨g, cap, rfl, hb, (Array.getElem?_eq_some_iff.1 hg).1, ⟨fun i hi j v hv => ?_⟩⟩
    have hj : j < 9 := by
      have := (List.getElem?_eq_some_iff.1 hv).1
      simpa [mC] using this
    rw [Nat.zero_add, cell_of_row W g _ _ _ _ hg]
    have h1 : (cur.toList.take (n * 9))[i * 9 + j]? = (mCs l)[i * 9 + j]? := by rw [htk]
    rw [List.getElem?_take_of_lt (by omega)] at h1
    rw [← Array.getElem?_toList, h1, mCs_at l i j (by omega) hj]
    exact hv
theorem fill9 (zc : Array Value) (h : zc.size = 9) (x0 x1 x2 x3 x4 x5 x6 x7 x8 : Value) : Instr.fill (fun i => some (i * 9, 9)) ((Array.range (1 * 9)).map (fun k => zc[k % zc.size]!)) [(0, .agg #[x0, x1, x2, x3, x4, x5, x6, x7, x8])] = some #[x0, x1, x2, x3, x4, x5, x6, x7, x8] := by
  have hs : ((Array.range (1 * 9)).map (fun k => zc[k % zc.size]!)).size = 9 := by simp
  generalize (Array.range (1 * 9)).map (fun k => zc[k % zc.size]!) = cs at hs
  have e : cs = #[cs[0]!, cs[1]!, cs[2]!, cs[3]!, cs[4]!, cs[5]!, cs[6]!, cs[7]!, cs[8]!] := by
    apply Array.ext
    · simpa using hs
    · intro i h1 h2
      simp only [List.size_toArray, List.length_cons, List.length_nil] at h2
      match i, h2 with
      | 0, _ => simp [hs]
      | 1, _ => simp [hs]
      | 2, _ => simp [hs]
      | 3, _ => simp [hs]
      | 4, _ => simp [hs]
      | 5, _ => simp [hs]
      | 6, _ => simp [hs]
      | 7, _ => simp [hs]
      | 8, _ => simp [hs]
  generalize cs[0]! = z0 at e
  generalize cs[1]! = z1 at e
  generalize cs[2]! = z2 at e
  generalize cs[3]! = z3 at e
  generalize cs[4]! = z4 at e
  generalize cs[5]! = z5 at e
  generalize cs[6]! = z6 at e
  generalize cs[7]! = z7 at e
  generalize cs[8]! = z8 at e
  subst e
  simp [Instr.fill, Value.cells, List.zipIdx]
section
variable {ops : Array Oper} {rest : List Oper} {o : Oper} {a : Act} {w : World} {Q : Exit → Act → World → Prop}
theorem wl_sliceM {x : Operand} {t : M9} (h : wpList Tryz.prog ops Q rest (a.put o.dst (.slice (some ⟨w.heap.size, 0, none⟩) 1 1)) (w.alloc (.cells (mC t) 31))) (hgd : o.guard = none := by exact rfl) (ho : o.op = .buildSlice 98 1 #[(0, x)] := by exact rfl)
    (hx : a.eval x = mV t := by exact rfl) : wpList Tryz.prog ops Q (o :: rest) a w := by
  obtain ⟨hu, i, z, hi, hz, hsz, hzs, hpos, hle, hby⟩ := eltMp.out
  refine wpList_buildSlice hgd _ _ 1 _ ho (mC t) i z hu hi hz (by rw [hsz]; decide) (by rw [hsz]; decide) ?_ h
  simp only [List.map_toArray, List.map_cons, List.map_nil, hx, hsz]
  exact fill9 z.cells hzs _ _ _ _ _ _ _ _ _
end
end Go.Proofs.YtaocnklolgdkfaaGreat
/- The laws' own lists of maps: made with room behind, compared. -- maps -/
namespace Go.Proofs.YtaocnklolgdkfaaGreat
open Go.RowKit
set_option linter.unusedVariables false
set_option linter.unusedSimpArgs false
def fillM : M9 := ((-7000000000000000101, 0, 0), (0, 0, 0), (0, 0, 0))
def withRoomM (l : List M9) : List M9 := l ++ List.replicate (roomN l.length) fillM
theorem made9 {m j : Nat} (h : j < m * 9) : ((madeCells #[.int .i64 0, .int .i64 0, .int .i64 0, .int .i64 0, .int .i64 0, .int .i64 0, .int .i64 0, .int .i64 0, .int .i64 0] (m * 9))[j]?).isSome = true := by simp [madeCells, h]
section
variable {ops : Array Oper} {rest : List Oper} {o : Oper} {a : Act} {w : World} {Q : Exit → Act → World → Prop}
theorem wl_makeM {l c : Operand} {N : Nat} (hK : ∀ g W', w.heap.size = g → Link w W' → ThereK W' g 0 (N * 9) → wpList Tryz.prog ops Q rest (a.put o.dst (.slice (some ⟨g, 0, none⟩) N N)) W') (hgd : o.guard = none := by exact rfl)
    (hop : o.op = .makeSlice 98 l c := by exact rfl) (hl : a.eval l = .int .i64 (N : Int) := by exact rfl) (hc : a.eval c = .int .i64 (N : Int) := by exact rfl) (hN : N ≤ 10000000 := by omega) : wpList Tryz.prog ops Q (o :: rest) a w := by
  obtain ⟨i0, hi, hz0, hz1, hz2⟩ := info_parts (show (Tryz.prog.info? 31).map (fun i => (i.zero, i.size, i.bytes)) = some (some (.agg #[.int .i64 0, .int .i64 0, .int .i64 0, .int .i64 0, .int .i64 0, .int .i64 0, .int .i64 0, .int .i64 0, .int .i64 0]), 9, 72) by kernel_rfl)
  refine wpList_plain hgd fun K hK' => ?_
  have hb' : (i0.bytes : Int) * (N : Int) ≤ 281474976710656 := by rw [hz2]; omega
  have hr := run_make (P := Tryz.prog) w 98 31 i0 _ Tryz.underlying98 hi hz0 .i64 .i64 N N (by omega) (Int.le_refl _) hb' (by omega)
  have hcl : (Value.agg #[.int .i64 0, .int .i64 0, .int .i64 0, .int .i64 0, .int .i64 0, .int .i64 0, .int .i64 0, .int .i64 0, .int .i64 0]).cells = #[.int .i64 0, .int .i64 0, .int .i64 0, .int .i64 0, .int .i64 0, .int .i64 0, .int .i64 0, .int .i64 0, .int .i64 0] := by rfl
  rw [hcl, hz1, Int.toNat_natCast] at hr
  unfold Oper.wp
  simp [execOp, hop, hl, hc, hr, Result.andThen]
  refine hK' _ _ (hK _ _ rfl ⟨(Below.refl _ _).alloc (Nat.le_refl _) _⟩ ⟨fun j hj => ⟨?_, ?_⟩, by simp⟩)
  · rw [World.cell?_alloc_at _ _ _ _ rfl, Nat.zero_add]; exact made9 hj
  · exact frozen_of_row _ _ _ _ _ (heap_alloc_new _ _)
end
/-- A list of maps as an argument. -/
structure ListM (W : World) (b : Option Addr) (n : Nat) (L : List M9) : Prop where
  out : L.length = n ∧ (0 < n → ∃ g off, b = some ⟨g, off, none⟩ ∧ MapsK W g off n L)
theorem ListM.link {W W' : World} {b : Option Addr} {n : Nat} {L : List M9} (l : Link W W') (h : ListM W b n L) : ListM W' b n L := ⟨h.out.1, fun hn => by obtain ⟨g, off, e, hp⟩ := h.out.2 hn; exact ⟨g, off, e, hp.link l⟩⟩
/-- A copy of an argument. -/
structure CopyM (w : World) (k : Nat) (l : List M9) (e : Ending) (w' : World) : Prop where
  out : ∃ g, e = .returned (.slice (some ⟨g, 0, none⟩) k (k + roomN k)) ∧ w.heap.size ≤ g ∧ g < w'.heap.size ∧ MapsK w' g 0 (k + roomN k) (withRoomM l) ∧ MapsK w' g 0 k l ∧ Link w w'
end Go.Proofs.YtaocnklolgdkfaaGreat
/- The laws' own lists of maps, compared. -- maps -/
namespace Go.Proofs.YtaocnklolgdkfaaGreat
open Go.RowKit
set_option linter.unusedVariables false
set_option linter.unusedSimpArgs false
end Go.Proofs.YtaocnklolgdkfaaGreat
/- Contracts: the codes of lists of maps, the program's and the reference's. -- maps -/
namespace Go.Proofs.YtaocnklolgdkfaaGreat
open Go.RowKit
set_option linter.unusedVariables false
set_option linter.unusedSimpArgs false
/-- A map for p. -/
def okM (p : Int) (t : M9) : Bool := mapB p [t.1.1, t.1.2.1, t.1.2.2, t.2.1.1, t.2.1.2.1, t.2.1.2.2, t.2.2.1, t.2.2.2.1, t.2.2.2.2] (detZ (t.1.1, t.1.2.1, t.1.2.2) (t.2.1.1, t.2.1.2.1, t.2.1.2.2) (t.2.2.1, t.2.2.2.1, t.2.2.2.2))
def oksM (p : Int) (l : List M9) : Bool := l.all (okM p)
theorem IsMap_M (p : Int) (t : M9) (w : World) : Calls Tryz.prog 78 #[.int .i64 p, mV t] w (Ret w (.bool (okM p t))) := IsMap_any p _ _ _ _ _ _ _ _ _ w
set_option maxRecDepth 20000 in
set_option maxHeartbeats 4000000 in
theorem mapsC1 (p : Int) (c : Nat) (t : M9) (w : World) (c0 : w.cell? ⟨c, 0, none⟩ = some (.int .i64 p)) : Calls Tryz.prog 77 #[mV t, .pointer (some ⟨c, 0, none⟩)] w (Ret w (.bool (!okM p t))) := by
  have hc : c < w.heap.size := World.block_lt_of_cell? w _ c0
  go_enter Tryz.func77, Tryz.ntmps77
  go_wp2_with (first | (refine wl_loadM ?_) | (refine wl_load ?_) | (refine wl_fill1 ?_) | (refine wl_fill2 ?_) | (refine wl_storeM ?_) | (refine wl_makeM ?_; intro gm W' hgm hl hT; have hs := hl.out.size; (try simp at hs)) | (refine wl_store ?_) | (refine wl_build ?_) | (refine wl_slice ?_) | (refine wl_append ?_; intro v' w' ho hg hb; have hs := hg.size; (try simp at hs); (try rw [ptCs_end] at ho); (try rw [ints_end] at ho); (try simp only [Nat.zero_add, Nat.reduceAdd, List.nil_append, List.cons_append] at ho)) | (go_at_call 78; (with_reducible refine (IsMap_M p t _).mono ?_); rintro e w' ⟨rfl, hb⟩; have hl := Link.mk hb; have hs := hb.size; (try simp at hs); clear hb))
  (apply ret_one Tryz.results77; (conv => lhs; whnf); exact rfl)
  exact ret_ret rfl findLow
set_option maxRecDepth 20000 in
set_option maxHeartbeats 4000000 in
theorem IndexFunc_M (p : Int) (c : Nat) (b : Option Addr) (n k : Nat) (L : List M9) (w : World) (hn : n ≤ 1000000) (c0 : w.cell? ⟨c, 0, none⟩ = some (.int .i64 p)) (h : ListM w b n L) :
    Calls Tryz.prog 98 #[.slice b n k, .func (.func 77) #[] #[.pointer (some ⟨c, 0, none⟩)]] w (fun e w' => ∃ r : Int, e = .returned (.int .i64 r) ∧ (oksM p L = true → r = -1) ∧ (oksM p L = false → 0 ≤ r) ∧ Link w w') := by
  have HC := Lib.hid (fun (W : World) (l : LowK w W) (t : M9) => mapsC1 p c t W (cell_below l.out c0))
  obtain ⟨hL, hM⟩ := h.out
  go_enter Tryz.func98, Tryz.ntmps98
  go_wp2_with (first | (refine wl_loadM ?_) | (refine wl_load ?_) | (refine wl_fill1 ?_) | (refine wl_fill2 ?_) | (refine wl_storeM ?_) | (refine wl_makeM ?_; intro gm W' hgm hl hT; have hs := hl.out.size; (try simp at hs)) | (refine wl_store ?_) | (refine wl_build ?_) | (refine wl_slice ?_) | (refine wl_append ?_; intro v' w' ho hg hb; have hs := hg.size; (try simp at hs); (try rw [ptCs_end] at ho); (try rw [ints_end] at ho); (try simp only [Nat.zero_add, Nat.reduceAdd, List.nil_append, List.cons_append] at ho)))
  go_loopw [8] (fun i wr => ∃ k : Nat, k ≤ n ∧ i = .int .i64 (k : Int) ∧ LowK w wr ∧ ∀ j, j < k → okM p (L.getD j m0) = true) (fun i _ => n - (intOf i).toNat)
  case atStart => exact ⟨0, Nat.zero_le _, rfl, findLow, fun j hj => absurd hj (Nat.not_lt_zero _)⟩
  case round =>
    obtain ⟨i, hi, rfl, hV, hJ⟩ := hrel
    by_cases hlt : i < n
    · obtain ⟨g, off, rfl, hS⟩ := hM (by omega)
      have r1 := (hS.at_ hlt).viaLow hV
      obtain ⟨x, hx⟩ : ∃ x, L.getD i m0 = x := ⟨_, rfl⟩
      rw [hx] at r1
      have HX := Lib.hid (HC.out wr hV x)
      rcases ho : okM p x with _ | _
      · rw [ho] at HX
        go_wp2_with (first | (refine wl_loadM ?_) | (refine wl_load ?_) | (refine wl_fill1 ?_) | (refine wl_fill2 ?_) | (refine wl_storeM ?_) | (refine wl_makeM ?_; intro gm W' hgm hl hT; have hs := hl.out.size; (try simp at hs)) | (refine wl_store ?_) | (refine wl_build ?_) | (refine wl_slice ?_) | (refine wl_append ?_; intro v' w' ho hg hb; have hs := hg.size; (try simp at hs); (try rw [ptCs_end] at ho); (try rw [ints_end] at ho); (try simp only [Nat.zero_add, Nat.reduceAdd, List.nil_append, List.cons_append] at ho)) | (go_at_call 77; (with_reducible refine (HX.out).mono ?_); rintro e w' ⟨rfl, hb⟩; have hl := Link.mk hb; have hs := hb.size; (try simp at hs); clear hb))
        (apply ret_one Tryz.results98; (conv => lhs; whnf); exact rfl)
        refine ⟨_, rfl, fun h => ?_, fun _ => by omega, LowK.lnk findLow⟩
        have := List.all_eq_true.1 h x (by rw [← hx, List.getD_eq_getElem?_getD, List.getElem?_eq_getElem (by omega)]; exact List.getElem_mem _)
        rw [ho] at this; cases this
      · rw [ho] at HX
        go_wp2_with (first | (refine wl_loadM ?_) | (refine wl_load ?_) | (refine wl_fill1 ?_) | (refine wl_fill2 ?_) | (refine wl_storeM ?_) | (refine wl_makeM ?_; intro gm W' hgm hl hT; have hs := hl.out.size; (try simp at hs)) | (refine wl_store ?_) | (refine wl_build ?_) | (refine wl_slice ?_) | (refine wl_append ?_; intro v' w' ho hg hb; have hs := hg.size; (try simp at hs); (try rw [ptCs_end] at ho); (try rw [ints_end] at ho); (try simp only [Nat.zero_add, Nat.reduceAdd, List.nil_append, List.cons_append] at ho)) | (go_at_call 77; (with_reducible refine (HX.out).mono ?_); rintro e w' ⟨rfl, hb⟩; have hl := Link.mk hb; have hs := hb.size; (try simp at hs); clear hb))
        go_roundw
        case rel => exact ⟨i + 1, by omega, by go_num, findLow, fun j hj => by
          rcases Nat.lt_or_ge j i with e | e
          · exact hJ j e
          · obtain rfl : j = i := by omega
            rw [hx]; exact ho⟩
        case measure => (simp [intOf]; try omega)
    · have hin : n ≤ i := by omega
      go_wp2_with (first | (refine wl_loadM ?_) | (refine wl_load ?_) | (refine wl_fill1 ?_) | (refine wl_fill2 ?_) | (refine wl_storeM ?_) | (refine wl_makeM ?_; intro gm W' hgm hl hT; have hs := hl.out.size; (try simp at hs)) | (refine wl_store ?_) | (refine wl_build ?_) | (refine wl_slice ?_) | (refine wl_append ?_; intro v' w' ho hg hb; have hs := hg.size; (try simp at hs); (try rw [ptCs_end] at ho); (try rw [ints_end] at ho); (try simp only [Nat.zero_add, Nat.reduceAdd, List.nil_append, List.cons_append] at ho)))
      (apply ret_one Tryz.results98; (conv => lhs; whnf); exact rfl)
      refine ⟨_, rfl, fun _ => rfl, fun h => ?_, LowK.lnk findLow⟩
      exfalso
      have : oksM p L = true := List.all_eq_true.2 (fun x hx => by
        obtain ⟨j, hj, rfl⟩ := List.mem_iff_getElem.1 hx
        have := hJ j (by omega)
        rwa [List.getD_eq_getElem?_getD, List.getElem?_eq_getElem hj] at this)
      rw [this] at h; cases h
set_option maxRecDepth 20000 in
set_option maxHeartbeats 4000000 in
theorem ContainsFunc_M (p : Int) (c : Nat) (b : Option Addr) (n k : Nat) (L : List M9) (w : World) (hn : n ≤ 1000000) (c0 : w.cell? ⟨c, 0, none⟩ = some (.int .i64 p)) (h : ListM w b n L) :
    Calls Tryz.prog 76 #[.slice b n k, .func (.func 77) #[] #[.pointer (some ⟨c, 0, none⟩)]] w (Ret w (.bool (!oksM p L))) := by
  have HI := Lib.hid (IndexFunc_M p c b n k L w hn c0 h)
  go_enter Tryz.func76, Tryz.ntmps76
  rcases ho : oksM p L with _ | _
  · go_wp2_with (first | (refine wl_loadM ?_) | (refine wl_load ?_) | (refine wl_fill1 ?_) | (refine wl_fill2 ?_) | (refine wl_storeM ?_) | (refine wl_makeM ?_; intro gm W' hgm hl hT; have hs := hl.out.size; (try simp at hs)) | (refine wl_store ?_) | (refine wl_build ?_) | (refine wl_slice ?_) | (refine wl_append ?_; intro v' w' ho hg hb; have hs := hg.size; (try simp at hs); (try rw [ptCs_end] at ho); (try rw [ints_end] at ho); (try simp only [Nat.zero_add, Nat.reduceAdd, List.nil_append, List.cons_append] at ho)) | (go_at_call 98; (with_reducible refine (HI.out).mono ?_); rintro e w' ⟨r, rfl, h1, h2, hl⟩; have hr := h2 ho))
    (apply ret_one Tryz.results76; (conv => lhs; whnf); exact rfl)
    exact ret_ret (by first | (simp; done) | (simp; omega)) findLow
  · go_wp2_with (first | (refine wl_loadM ?_) | (refine wl_load ?_) | (refine wl_fill1 ?_) | (refine wl_fill2 ?_) | (refine wl_storeM ?_) | (refine wl_makeM ?_; intro gm W' hgm hl hT; have hs := hl.out.size; (try simp at hs)) | (refine wl_store ?_) | (refine wl_build ?_) | (refine wl_slice ?_) | (refine wl_append ?_; intro v' w' ho hg hb; have hs := hg.size; (try simp at hs); (try rw [ptCs_end] at ho); (try rw [ints_end] at ho); (try simp only [Nat.zero_add, Nat.reduceAdd, List.nil_append, List.cons_append] at ho)) | (go_at_call 98; (with_reducible refine (HI.out).mono ?_); rintro e w' ⟨r, rfl, h1, h2, hl⟩; have hr := h1 ho; subst hr))
    (apply ret_one Tryz.results76; (conv => lhs; whnf); exact rfl)
    exact ret_ret rfl findLow
set_option maxRecDepth 20000 in
set_option maxHeartbeats 4000000 in
theorem mapsC2 (p : Int) (c d : Nat) (b : Option Addr) (n k : Nat) (L : List M9) (w : World) (hn : n ≤ 1000000) (c0 : w.cell? ⟨c, 0, none⟩ = some (.int .i64 p)) (d0 : w.cell? ⟨d, 0, none⟩ = some (.slice b n k)) (h : ListM w b n L) :
    Calls Tryz.prog 75 #[.pointer (some ⟨d, 0, none⟩), .pointer (some ⟨c, 0, none⟩)] w (Ret w (.bool (oksM p L))) := by
  have HC := Lib.hid (ContainsFunc_M p c b n k L w hn c0 h)
  go_enter Tryz.func75, Tryz.ntmps75
  go_wp2_with (first | (refine wl_loadM ?_) | (refine wl_load ?_) | (refine wl_fill1 ?_) | (refine wl_fill2 ?_) | (refine wl_storeM ?_) | (refine wl_makeM ?_; intro gm W' hgm hl hT; have hs := hl.out.size; (try simp at hs)) | (refine wl_store ?_) | (refine wl_build ?_) | (refine wl_slice ?_) | (refine wl_append ?_; intro v' w' ho hg hb; have hs := hg.size; (try simp at hs); (try rw [ptCs_end] at ho); (try rw [ints_end] at ho); (try simp only [Nat.zero_add, Nat.reduceAdd, List.nil_append, List.cons_append] at ho)) | (go_at_call 76; (with_reducible refine (HC.out).mono ?_); rintro e w' ⟨rfl, hb⟩; have hl := Link.mk hb; have hs := hb.size; (try simp at hs); clear hb))
  (apply ret_one Tryz.results75; (conv => lhs; whnf); exact rfl)
  exact ret_ret (by simp) findLow
/-- The code of a prime and of what a function says. -/
theorem planeCode_maps (p : Int) (caps : Array Value) (v : Bool) (w : World) (hp : prB p = true) (Hf : ∀ W, LowK w W → Calls Tryz.prog 75 caps W (Ret W (.bool v))) :
    Calls Tryz.prog 65 #[.int .i64 p, .func (.func 75) #[] caps] w (Ret w (.int .i64 (codeOf p v))) := by
  have HF := Lib.hid Hf
  have e0 : codeOf p v = if v = true then 0 else 1 := by unfold codeOf; rw [hp]; rfl
  rw [e0]
  clear Hf e0
  go_enter Tryz.func65, Tryz.ntmps65
  rcases v with _ | _
  · go_wp2_with (first | (refine wl_loadM ?_) | (refine wl_load ?_) | (refine wl_fill1 ?_) | (refine wl_fill2 ?_) | (refine wl_storeM ?_) | (refine wl_makeM ?_; intro gm W' hgm hl hT; have hs := hl.out.size; (try simp at hs)) | (refine wl_store ?_) | (refine wl_build ?_) | (refine wl_slice ?_) | (refine wl_append ?_; intro v' w' ho hg hb; have hs := hg.size; (try simp at hs); (try rw [ptCs_end] at ho); (try rw [ints_end] at ho); (try simp only [Nat.zero_add, Nat.reduceAdd, List.nil_append, List.cons_append] at ho)) | (go_at_call 25; (with_reducible refine (isPrime_yes _ _ hp).mono ?_); rintro e w' ⟨rfl, rfl⟩) | (go_at_call 75; (with_reducible refine (HF.out _ findLow).mono ?_); rintro e w' ⟨rfl, hb⟩; have hl := Link.mk hb; have hs := hb.size; (try simp at hs); clear hb))
    (apply ret_one Tryz.results65; (conv => lhs; whnf); exact rfl)
    exact ret_ret rfl findLow
  · go_wp2_with (first | (refine wl_loadM ?_) | (refine wl_load ?_) | (refine wl_fill1 ?_) | (refine wl_fill2 ?_) | (refine wl_storeM ?_) | (refine wl_makeM ?_; intro gm W' hgm hl hT; have hs := hl.out.size; (try simp at hs)) | (refine wl_store ?_) | (refine wl_build ?_) | (refine wl_slice ?_) | (refine wl_append ?_; intro v' w' ho hg hb; have hs := hg.size; (try simp at hs); (try rw [ptCs_end] at ho); (try rw [ints_end] at ho); (try simp only [Nat.zero_add, Nat.reduceAdd, List.nil_append, List.cons_append] at ho)) | (go_at_call 25; (with_reducible refine (isPrime_yes _ _ hp).mono ?_); rintro e w' ⟨rfl, rfl⟩) | (go_at_call 75; (with_reducible refine (HF.out _ findLow).mono ?_); rintro e w' ⟨rfl, hb⟩; have hl := Link.mk hb; have hs := hb.size; (try simp at hs); clear hb))
    (apply ret_one Tryz.results65; (conv => lhs; whnf); exact rfl)
    exact ret_ret rfl findLow
set_option maxRecDepth 20000 in
set_option maxHeartbeats 4000000 in
theorem mapsCode_M (p : Int) (b : Option Addr) (n k : Nat) (L : List M9) (w : World) (hn : n ≤ 1000000) (h : ListM w b n L) :
    Calls Tryz.prog 53 #[.int .i64 p, .slice b n k] w (Ret w (.int .i64 (codeOf p (oksM p L)))) := by
  rcases hp : prB p with _ | _
  · go_enter Tryz.func53, Tryz.ntmps53
    go_wp2_with (first | (refine wl_loadM ?_) | (refine wl_load ?_) | (refine wl_fill1 ?_) | (refine wl_fill2 ?_) | (refine wl_storeM ?_) | (refine wl_makeM ?_; intro gm W' hgm hl hT; have hs := hl.out.size; (try simp at hs)) | (refine wl_store ?_) | (refine wl_build ?_) | (refine wl_slice ?_) | (refine wl_append ?_; intro v' w' ho hg hb; have hs := hg.size; (try simp at hs); (try rw [ptCs_end] at ho); (try rw [ints_end] at ho); (try simp only [Nat.zero_add, Nat.reduceAdd, List.nil_append, List.cons_append] at ho)) | (go_at_call 65; (with_reducible refine (planeCode_no _ _ _ hp).mono ?_); rintro e w' ⟨rfl, rfl⟩))
    (apply ret_one Tryz.results53; (conv => lhs; whnf); exact rfl)
    exact ret_ret (by simp [codeOf, hp]) findLow
  · have HF : Hid (∀ (W : World) (c d : Nat), W.cell? ⟨c, 0, none⟩ = some (.int .i64 p) → W.cell? ⟨d, 0, none⟩ = some (.slice b n k) → LowK w W → ∀ W2, LowK W W2 → Calls Tryz.prog 75 #[.pointer (some ⟨d, 0, none⟩), .pointer (some ⟨c, 0, none⟩)] W2 (Ret W2 (.bool (oksM p L)))) :=
      Lib.hid (fun W c d hc hd hV W2 hV2 => mapsC2 p c d b n k L W2 hn (cell_below hV2.out hc) (cell_below hV2.out hd) (h.link (LowK.lnk (LowK.link (LowK.lnk hV2) hV))))
    go_enter Tryz.func53, Tryz.ntmps53
    go_wp2_with (first | (refine wl_loadM ?_) | (refine wl_load ?_) | (refine wl_fill1 ?_) | (refine wl_fill2 ?_) | (refine wl_storeM ?_) | (refine wl_makeM ?_; intro gm W' hgm hl hT; have hs := hl.out.size; (try simp at hs)) | (refine wl_store ?_) | (refine wl_build ?_) | (refine wl_slice ?_) | (refine wl_append ?_; intro v' w' ho hg hb; have hs := hg.size; (try simp at hs); (try rw [ptCs_end] at ho); (try rw [ints_end] at ho); (try simp only [Nat.zero_add, Nat.reduceAdd, List.nil_append, List.cons_append] at ho)) | (go_at_call 65; (with_reducible refine (planeCode_maps p _ _ _ hp (HF.out _ _ _ (by simp [go_sem]) (by simp [go_sem]) findLow)).mono ?_); rintro e w' ⟨rfl, hb⟩; have hl := Link.mk hb; have hs := hb.size; (try simp at hs); clear hb))
    (apply ret_one Tryz.results53; (conv => lhs; whnf); exact rfl)
    exact ret_ret rfl findLow
end Go.Proofs.YtaocnklolgdkfaaGreat
/- Contracts: the codes of a list of maps and of points, the program's and the reference's. -- maps -/
namespace Go.Proofs.YtaocnklolgdkfaaGreat
open Go.RowKit
set_option linter.unusedVariables false
set_option linter.unusedSimpArgs false
end Go.Proofs.YtaocnklolgdkfaaGreat
/- Contracts: the reference's codes of a list of maps and of points. -- maps -/
namespace Go.Proofs.YtaocnklolgdkfaaGreat
open Go.RowKit
set_option linter.unusedVariables false
set_option linter.unusedSimpArgs false
end Go.Proofs.YtaocnklolgdkfaaGreat
/- A region that draws its order, by an invariant: what is known when so many operations are done, whichever they are. -/
namespace Go.Proofs.YtaocnklolgdkfaaGreat
open Go.RowKit
set_option linter.unusedVariables false
set_option linter.unusedSimpArgs false
/-- What stands behind one operation. -/
structure InvEnd (o : Oper) (a : Act) (X : Act → World → Prop) (e : Exit) (a' : Act) (W' : World) : Prop where
  e1 : e = .normal
  pv : ∃ v, a' = a.put o.dst v
  nx : X a' W'
end Go.Proofs.YtaocnklolgdkfaaGreat
/- Walks over Go maps keyed by maps: the operations. -- maps -/
namespace Go.Proofs.YtaocnklolgdkfaaGreat
open Go.RowKit
set_option linter.unusedVariables false
set_option linter.unusedSimpArgs false
/-- The world is the same but for one block. -/
structure TurnK (g : Nat) (w W : World) : Prop where
  out : W.heap.size = w.heap.size ∧ (∀ b, b ≠ g → W.heap[b]? = w.heap[b]?) ∧ W.os = w.os ∧ W.tape = w.tape ∧ W.output = w.output
theorem GoMapK.alloc {W : World} {g : Nat} {L : List M9} (h : GoMapK W g L) (ob : Obj) : GoMapK (W.alloc ob) g L := h.blk ((bal (Below.refl _ _) ob : Below W.heap.size W (W.alloc ob)).block _ h.lt)
theorem GoMapK.new (W : World) : GoMapK (W.alloc (.map #[] 0)) W.heap.size [] := ⟨#[], 0, heap_alloc_new _ _, rfl, by simp⟩
theorem GoMapK.set {W : World} {g b : Nat} {U : Array Value} {L : List M9} (h : GoMapK W g L) (hne : g ≠ b) : GoMapK (W.setRow b U) g L := h.blk (setRow_other _ _ _ _ hne)
theorem GoMapK.grew {w W : World} {u : Value} {g B n sz : Nat} {T : TypeId} {xs : List Value} {L : List M9} (hg : Grew w u W) (hO : OwnK w B T sz u n xs) (h : GoMapK w g L) : GoMapK W g L := by
  refine h.blk (hg.out.block g h.lt (fun e => ?_))
  obtain ⟨es, cl, h1, -⟩ := h.out
  rcases hO.out.2 with ⟨rfl, _⟩ | ⟨g2, cap, cur, rfl, _, h2, _⟩
  · simp [Value.ownBlock] at e
  · simp [Value.ownBlock] at e
    subst e
    rw [h1] at h2; cases h2
section
variable {ops : Array Oper} {rest : List Oper} {o : Oper} {a : Act} {w : World} {Q : Exit → Act → World → Prop} {x y z : Operand} {g : Nat} {L : List M9} {t : M9}
end
theorem getD_set_ne2 {S : Array Bool} {i j : Nat} (hij : i ≠ j) : (S.setIfInBounds i true).getD j false = S.getD j false := by
  rw [Array.getD_eq_getD_getElem?, Array.getD_eq_getD_getElem?, Array.getElem?_setIfInBounds_ne hij]
/-- An operation is done, is not done. -/
structure On (S : Array Bool) (j : Nat) : Prop where
  out : S.getD j false = true
structure Of (S : Array Bool) (j : Nat) : Prop where
  out : S.getD j false = false
theorem On.back {S : Array Bool} {i j : Nat} (hij : i ≠ j) (h : On (S.setIfInBounds i true) j) : On S j := ⟨by have := h.out; rwa [getD_set_ne2 hij] at this⟩
theorem On.on {S : Array Bool} {i j : Nat} (h : On S j) : On (S.setIfInBounds i true) j := by
  refine ⟨?_⟩
  by_cases e : i = j
  · subst e
    by_cases hi : i < S.size
    · rw [getD_set _ _ _ hi, if_pos rfl]
    · rw [Array.setIfInBounds_eq_of_size_le (by omega)]; exact h.out
  · rw [getD_set_ne2 e]; exact h.out
theorem Of.no {S : Array Bool} {i n : Nat} (hS : S.size = n) (hi : i < n) (h : Of (S.setIfInBounds i true) i) : False := by
  have := h.out
  rw [getD_set _ _ _ (by omega), if_pos rfl] at this; cases this
theorem On.of {S : Array Bool} {j : Nat} (h : On S j) (h2 : Of S j) : False := by
  have h1 := h.out
  rw [h2.out] at h1; cases h1
theorem On.none {n j : Nat} (h : On (Array.replicate n false) j) : False := by
  have := h.out
  rw [rep_false] at this; cases this
end Go.Proofs.YtaocnklolgdkfaaGreat
/- Go maps keyed by points, with numbers: looked up and written. -/
namespace Go.Proofs.YtaocnklolgdkfaaGreat
open Go.RowKit
set_option linter.unusedVariables false
set_option linter.unusedSimpArgs false
def entP (L : List Pt) (s : Nat) : List (Value × Value) := (L.zipIdx s).map fun t => (pV t.1, .int .i64 (t.2 : Int))
/-- A Go map from points to their places. -/
structure GoMapP (W : World) (g : Nat) (L : List Pt) : Prop where
  out : ∃ es clock, W.heap[g]? = some (.map es clock) ∧ es.toList.map (fun e => (e.key, e.val)) = entP L 0
theorem GoMapP.lt {W : World} {g : Nat} {L : List Pt} (h : GoMapP W g L) : g < W.heap.size := by
  obtain ⟨es, cl, h1, -⟩ := h.out
  exact (Array.getElem?_eq_some_iff.1 h1).1
theorem GoMapP.blk {W W' : World} {g : Nat} {L : List Pt} (h : GoMapP W g L) (e : W'.heap[g]? = W.heap[g]?) : GoMapP W' g L := by
  obtain ⟨es, cl, h1, h2⟩ := h.out
  exact ⟨es, cl, e.trans h1, h2⟩
theorem GoMapP.link {W W' : World} {g : Nat} {L : List Pt} (l : Link W W') (h : GoMapP W g L) : GoMapP W' g L := h.blk (l.out.block _ h.lt)
theorem GoMapP.alloc {W : World} {g : Nat} {L : List Pt} (h : GoMapP W g L) (ob : Obj) : GoMapP (W.alloc ob) g L := h.blk ((bal (Below.refl _ _) ob : Below W.heap.size W (W.alloc ob)).block _ h.lt)
theorem GoMapP.drew {W : World} {g : Nat} {L : List Pt} (h : GoMapP W g L) : GoMapP W.drew g L := h.blk rfl
theorem GoMapP.new (W : World) : GoMapP (W.alloc (.map #[] 0)) W.heap.size [] := ⟨#[], 0, heap_alloc_new _ _, rfl⟩
theorem GoMapP.set {W : World} {g b : Nat} {U : Array Value} {L : List Pt} (hne : g ≠ b) (h : GoMapP W g L) : GoMapP (W.setRow b U) g L := h.blk (setRow_other _ _ _ _ hne)
theorem GoMapP.off {w : World} {g B n sz : Nat} {T : TypeId} {v : Value} {xs : List Value} {L : List Pt} (hO : OwnK w B T sz v n xs) (h : GoMapP w g L) : v.ownBlock ≠ some g := fun e => by
  obtain ⟨es, cl, h1, -⟩ := h.out
  rcases hO.out.2 with ⟨rfl, _⟩ | ⟨g2, cap, cur, rfl, _, h2, _⟩
  · simp [Value.ownBlock] at e
  · simp [Value.ownBlock] at e
    subst e
    rw [h1] at h2; cases h2
theorem GoMapP.grew {w W : World} {u : Value} {g B n sz : Nat} {T : TypeId} {xs : List Value} {L : List Pt} (hg : Grew w u W) (hO : OwnK w B T sz u n xs) (h : GoMapP w g L) : GoMapP W g L :=
  h.blk (hg.out.block g h.lt (fun e => h.off hO e.symm))
section
variable {ops : Array Oper} {rest : List Oper} {o : Oper} {a : Act} {w : World} {Q : Exit → Act → World → Prop} {x y z : Operand} {g : Nat} {L : List Pt} {t : Pt}
end
end Go.Proofs.YtaocnklolgdkfaaGreat
/- Plain: the image of a normal point under an invertible map is normal; different points have different images. -/
namespace Go.Proofs.YtaocnklolgdkfaaGreat
open Go.RowKit
set_option linter.unusedVariables false
set_option linter.unusedSimpArgs false
def mvP (m : M9) (a : Pt) : Pt := (dotI m.1 a, dotI m.2.1 a, dotI m.2.2 a)
theorem img_nrm (p : Int) (m : M9) (a : Pt) : imgP p m a = nrm3 p (mvP m a).1 (mvP m a).2.1 (mvP m a).2.2 := by
  unfold imgP nrm3 facL mvP
  simp [dotP, dotI, Int.emod_emod_of_dvd]
theorem crs_mv1 (a b c d : Pt) : dotI a c * dotI b d - dotI b c * dotI a d = dotI (crs a b) (crs c d) := by
  unfold dotI crs; grind
theorem det_mv1 (a b c x : Pt) : dotI (crs b c) (1, 0, 0) * dotI a x + dotI (crs c a) (1, 0, 0) * dotI b x + dotI (crs a b) (1, 0, 0) * dotI c x = detZ a b c * x.1 := by
  unfold dotI crs detZ; grind
theorem det_mv2 (a b c x : Pt) : dotI (crs b c) (0, 1, 0) * dotI a x + dotI (crs c a) (0, 1, 0) * dotI b x + dotI (crs a b) (0, 1, 0) * dotI c x = detZ a b c * x.2.1 := by
  unfold dotI crs detZ; grind
theorem det_mv3 (a b c x : Pt) : dotI (crs b c) (0, 0, 1) * dotI a x + dotI (crs c a) (0, 0, 1) * dotI b x + dotI (crs a b) (0, 0, 1) * dotI c x = detZ a b c * x.2.2 := by
  unfold dotI crs detZ; grind
theorem det_cv1 (a b c v : Pt) : a.1 * dotI (crs b c) v + b.1 * dotI (crs c a) v + c.1 * dotI (crs a b) v = detZ a b c * v.1 := by
  unfold dotI crs detZ; grind
theorem det_cv2 (a b c v : Pt) : a.2.1 * dotI (crs b c) v + b.2.1 * dotI (crs c a) v + c.2.1 * dotI (crs a b) v = detZ a b c * v.2.1 := by
  unfold dotI crs detZ; grind
theorem det_cv3 (a b c v : Pt) : a.2.2 * dotI (crs b c) v + b.2.2 * dotI (crs c a) v + c.2.2 * dotI (crs a b) v = detZ a b c * v.2.2 := by
  unfold dotI crs detZ; grind
theorem dvd3 {p x y z a b c d : Int} (hx : p ∣ x) (hy : p ∣ y) (hz : p ∣ z) (h : a * x + b * y + c * z = d) : p ∣ d := by
  obtain ⟨i, rfl⟩ := hx
  obtain ⟨j, rfl⟩ := hy
  obtain ⟨k, rfl⟩ := hz
  exact ⟨a * i + b * j + c * k, by rw [← h]; grind⟩
theorem det_nd {p : Int} {m : M9} (h : okM p m = true) : prB p = true ∧ ¬ p ∣ detZ m.1 m.2.1 m.2.2 := by
  unfold okM mapB at h
  simp only [Bool.and_eq_true, bne_iff_ne, ne_eq] at h
  refine ⟨h.1, fun hd => h.2.2 (Int.emod_eq_zero_of_dvd hd)⟩
theorem nd_one {p : Int} (hp : prB p = true) : ¬ p ∣ 1 := fun h => by
  have := Int.le_of_dvd (by decide) h
  have := prB_bd hp
  omega
theorem pt_nz {p : Int} {a : Pt} (h : ptB p a.1 a.2.1 a.2.2 = true) : nzV p a := by
  obtain ⟨hp, -, -, -, hd⟩ := pt_facts h
  rintro ⟨h1, h2, h3⟩
  rcases hd with e | ⟨-, e⟩ | ⟨-, -, e⟩
  · exact nd_one hp (e ▸ h1)
  · exact nd_one hp (e ▸ h2)
  · exact nd_one hp (e ▸ h3)
theorem nzV_nzB {p : Int} {v : Pt} (h : nzV p v) : nzB p [v.1, v.2.1, v.2.2] = true := by
  unfold nzB zerosB
  rw [Bool.not_eq_true']
  rw [Bool.eq_false_iff]
  intro hz
  simp at hz
  exact h ⟨Int.dvd_of_emod_eq_zero hz.1, Int.dvd_of_emod_eq_zero hz.2.1, Int.dvd_of_emod_eq_zero hz.2.2⟩
theorem mv_nz {p : Int} {m : M9} {a : Pt} (hm : okM p m = true) (ha : ptB p a.1 a.2.1 a.2.2 = true) : nzV p (mvP m a) := by
  obtain ⟨hp, hd⟩ := det_nd hm
  rintro ⟨h1, h2, h3⟩
  exact pt_nz ha ⟨mul_dvd hp (dvd3 h1 h2 h3 (det_mv1 m.1 m.2.1 m.2.2 a)) hd, mul_dvd hp (dvd3 h1 h2 h3 (det_mv2 m.1 m.2.1 m.2.2 a)) hd, mul_dvd hp (dvd3 h1 h2 h3 (det_mv3 m.1 m.2.1 m.2.2 a)) hd⟩
theorem img_pt {p : Int} {m : M9} {a : Pt} (hm : okM p m = true) (ha : ptB p a.1 a.2.1 a.2.2 = true) : ptB p (imgP p m a).1 (imgP p m a).2.1 (imgP p m a).2.2 = true := by
  rw [img_nrm]
  exact nrm3_pt (det_nd hm).1 (nzV_nzB (mv_nz hm ha))
theorem crs_self (c : Pt) : crs c c = (0, 0, 0) := by unfold crs; simp [Int.mul_comm]
theorem img_inj {n : Nat} {m : M9} {a b : Pt} (hm : okM (n : Int) m = true) (ha : ptB (n : Int) a.1 a.2.1 a.2.2 = true) (hb : ptB (n : Int) b.1 b.2.1 b.2.2 = true) (h : imgP (n : Int) m a = imgP (n : Int) m b) : a = b := by
  obtain ⟨hp, hd⟩ := det_nd hm
  obtain ⟨p, hpn⟩ : ∃ p : Int, (n : Int) = p := ⟨_, rfl⟩
  have c1 := cg_nrm hp (mvP m a)
  have c2 := cg_nrm hp (mvP m b)
  have f1 := fac_nd hp (mv_nz hm ha)
  have f2 := fac_nd hp (mv_nz hm hb)
  rw [← img_nrm] at c1 c2
  rw [← h] at c2
  have c3 := cg_crs c1 c2
  rw [crs_self] at c3
  generalize facL (n : Int) [(mvP m a).1, (mvP m a).2.1, (mvP m a).2.2] = F1 at *
  generalize facL (n : Int) [(mvP m b).1, (mvP m b).2.1, (mvP m b).2.2] = F2 at *
  have f3 := mul_nd hp f1 f2
  obtain ⟨k1, k2, k3⟩ := c3
  have d : ∀ x : Int, (n : Int) ∣ 0 - F1 * F2 * x → (n : Int) ∣ x := fun x hx => mul_dvd hp (by obtain ⟨q, hq⟩ := hx; exact ⟨-q, by rw [Int.mul_neg]; omega⟩) f3
  have d1 := d _ k1
  have d2 := d _ k2
  have d3 := d _ k3
  have e1 : (crs (mvP m a) (mvP m b)).1 = dotI (crs m.2.1 m.2.2) (crs a b) := by rw [← crs_mv1]; unfold crs mvP; grind
  have e2 : (crs (mvP m a) (mvP m b)).2.1 = dotI (crs m.2.2 m.1) (crs a b) := by rw [← crs_mv1]; unfold crs mvP; grind
  have e3 : (crs (mvP m a) (mvP m b)).2.2 = dotI (crs m.1 m.2.1) (crs a b) := by rw [← crs_mv1]; unfold crs mvP; grind
  rw [e1] at d1
  rw [e2] at d2
  rw [e3] at d3
  have g1 := mul_dvd hp (dvd3 d1 d2 d3 (det_cv1 m.1 m.2.1 m.2.2 (crs a b))) hd
  have g2 := mul_dvd hp (dvd3 d1 d2 d3 (det_cv2 m.1 m.2.1 m.2.2 (crs a b))) hd
  have g3 := mul_dvd hp (dvd3 d1 d2 d3 (det_cv3 m.1 m.2.1 m.2.2 (crs a b))) hd
  have h1 := List.all_eq_true.1 (List.all_eq_true.1 (crsChk_of hp) _ (mem_allP ha)) _ (mem_allP hb)
  rw [Bool.or_eq_true] at h1
  rcases h1 with h1 | h1
  · exact eqP_iff.1 h1
  · exfalso
    unfold crsNz at h1
    simp only [Bool.or_eq_true, bne_iff_ne, ne_eq] at h1
    rcases h1 with h1 | h1 | h1
    · exact h1 (Int.emod_eq_zero_of_dvd g1)
    · exact h1 (Int.emod_eq_zero_of_dvd g2)
    · exact h1 (Int.emod_eq_zero_of_dvd g3)
end Go.Proofs.YtaocnklolgdkfaaGreat
/- Plain: the list of all points that some functions reach from a point; it is a class when the functions are one to one. -/
namespace Go.Proofs.YtaocnklolgdkfaaGreat
set_option linter.unusedVariables false
set_option linter.unusedSimpArgs false
set_option linter.unusedSectionVars false
section
variable {α : Type} [DecidableEq α]
theorem nodup_len : ∀ {l1 l2 : List α}, l1.Nodup → (∀ x ∈ l1, x ∈ l2) → l1.length ≤ l2.length
  | [], _, _, _ => Nat.zero_le _
  | x :: l1, l2, hn, hs => by
    have hx := hs x (List.mem_cons_self)
    have hn2 := List.nodup_cons.1 hn
    have h1 : l1.length ≤ (l2.erase x).length := nodup_len hn2.2 (fun y hy => (List.mem_erase_of_ne (fun (e : y = x) => hn2.1 (e ▸ hy))).2 (hs y (List.mem_cons_of_mem _ hy)))
    have h2 := List.length_erase_of_mem hx
    have h3 : 0 < l2.length := List.length_pos_of_mem hx
    simp only [List.length_cons]
    omega
theorem nodup_onto {l1 l2 : List α} (hn : l1.Nodup) (hs : ∀ x ∈ l1, x ∈ l2) (hl : l2.length ≤ l1.length) : ∀ x ∈ l2, x ∈ l1 := by
  intro x hx
  apply Classical.byContradiction
  intro hx1
  have h1 : l1.length ≤ (l2.erase x).length := nodup_len hn (fun y hy => (List.mem_erase_of_ne (fun (e : y = x) => hx1 (e ▸ hy))).2 (hs y hy))
  have h2 := List.length_erase_of_mem hx
  have h3 : 0 < l2.length := List.length_pos_of_mem hx
  omega
variable (f : Nat → α → α) (n : Nat) (d : α)
def stepO (A : List α) (y : α) : List α := if y ∈ A then A else A ++ [y]
def innO (A : List α) (x : α) : Nat → List α
  | 0 => A
  | k + 1 => stepO (innO A x k) (f k x)
def seqO (a : α) : Nat → List α
  | 0 => [a]
  | i + 1 => innO f (seqO a i) ((seqO a i).getD i d) n
theorem stepO_pre (A : List α) (y : α) : A <+: stepO A y := by
  unfold stepO; split
  · exact List.prefix_refl _
  · exact List.prefix_append _ _
theorem stepO_mem (A : List α) (y : α) : y ∈ stepO A y := by
  unfold stepO; split
  · assumption
  · simp
theorem innO_pre (A : List α) (x : α) : ∀ k, A <+: innO f A x k
  | 0 => List.prefix_refl _
  | k + 1 => (innO_pre A x k).trans (stepO_pre _ _)
theorem innO_mono (A : List α) (x : α) {j : Nat} : ∀ k, j ≤ k → innO f A x j <+: innO f A x k
  | 0, h => by obtain rfl : j = 0 := by omega
               exact List.prefix_refl _
  | k + 1, h => by
    by_cases e : j = k + 1
    · subst e; exact List.prefix_refl _
    · exact (innO_mono A x k (by omega)).trans (stepO_pre _ _)
theorem innO_mem (A : List α) (x : α) {j k : Nat} (h : j < k) : f j x ∈ innO f A x k :=
  (innO_mono f A x k (j := j + 1) h).subset (stepO_mem _ _)
theorem stepO_nodup {A : List α} {y : α} (h : A.Nodup) : (stepO A y).Nodup := by
  unfold stepO; split
  · exact h
  · rename_i hy
    rw [List.nodup_append]
    exact ⟨h, by simp, fun a ha b hb => by rw [List.mem_singleton.1 hb]; exact fun e => hy (e ▸ ha)⟩
theorem innO_nodup {A : List α} {x : α} (h : A.Nodup) : ∀ k, (innO f A x k).Nodup
  | 0 => h
  | k + 1 => stepO_nodup (innO_nodup h k)
theorem seqO_nodup (a : α) : ∀ i, (seqO f n d a i).Nodup
  | 0 => by simp [seqO]
  | i + 1 => innO_nodup f (seqO_nodup a i) n
theorem seqO_mono (a : α) {i : Nat} : ∀ j, i ≤ j → seqO f n d a i <+: seqO f n d a j
  | 0, h => by obtain rfl : i = 0 := by omega
               exact List.prefix_refl _
  | j + 1, h => by
    by_cases e : i = j + 1
    · subst e; exact List.prefix_refl _
    · exact (seqO_mono a j (by omega)).trans (innO_pre _ _ _ _)
theorem preO_at {A B : List α} (h : A <+: B) {i : Nat} (hi : i < A.length) : B.getD i d = A.getD i d := by
  obtain ⟨t, rfl⟩ := h
  simp [List.getD, List.getElem?_append_left hi]
theorem getO_mem {A : List α} {i : Nat} (hi : i < A.length) : A.getD i d ∈ A := by
  rw [List.getD_eq_getElem?_getD, List.getElem?_eq_getElem hi]; exact List.getElem_mem _
theorem memO_at {A : List α} {x : α} (h : x ∈ A) : ∃ i, i < A.length ∧ A.getD i d = x := by
  obtain ⟨q, hq, e⟩ := List.mem_iff_getElem.1 h
  exact ⟨q, hq, by rw [List.getD_eq_getElem?_getD, List.getElem?_eq_getElem hq]; exact e⟩
variable {f n d}
theorem stepO_all {P : α → Prop} {A : List α} {y : α} (h : ∀ x ∈ A, P x) (hy : P y) : ∀ x ∈ stepO A y, P x := by
  unfold stepO; split
  · exact h
  · intro x hx
    rcases List.mem_append.1 hx with hx | hx
    · exact h x hx
    · rw [List.mem_singleton.1 hx]; exact hy
theorem innO_all {P : α → Prop} {A : List α} {x : α} (h : ∀ x ∈ A, P x) (hf : ∀ k, k < n → P (f k x)) : ∀ k, k ≤ n → ∀ y ∈ innO f A x k, P y
  | 0, _ => h
  | k + 1, hk => stepO_all (innO_all h hf k (by omega)) (hf k hk)
theorem seqO_all {P : α → Prop} {a : α} (ha : P a) (hf : ∀ x, P x → ∀ k, k < n → P (f k x)) : ∀ i, (i = 0 ∨ i - 1 < (seqO f n d a (i - 1)).length) → (∀ j, j < i → j < (seqO f n d a j).length) → ∀ x ∈ seqO f n d a i, P x
  | 0, _, _ => fun x hx => by rw [List.mem_singleton.1 hx]; exact ha
  | i + 1, _, hg => by
    have ih := seqO_all ha hf i (by rcases Nat.eq_zero_or_pos i with h | h; (· exact .inl h); (· exact .inr (hg (i - 1) (by omega)))) (fun j hj => hg j (by omega))
    exact innO_all ih (hf _ (ih _ (getO_mem d (hg i (by omega))))) n (Nat.le_refl _)
/-- The list is whole behind round K. -/
structure WholeO (f : Nat → α → α) (n : Nat) (d a : α) (K : Nat) : Prop where
  run : ∀ i, i < K → i < (seqO f n d a i).length
  fin : (seqO f n d a K).length = K
theorem WholeO.all {P : α → Prop} {a : α} {K : Nat} (h : WholeO f n d a K) (ha : P a) (hf : ∀ x, P x → ∀ k, k < n → P (f k x)) : ∀ x ∈ seqO f n d a K, P x :=
  seqO_all ha hf K (by rcases Nat.eq_zero_or_pos K with h2 | h2; (· exact .inl h2); (· exact .inr (h.run (K - 1) (by omega)))) h.run
theorem WholeO.closed {a x : α} {K k : Nat} (h : WholeO f n d a K) (hx : x ∈ seqO f n d a K) (hk : k < n) : f k x ∈ seqO f n d a K := by
  obtain ⟨i, hi, rfl⟩ := memO_at d hx
  rw [h.fin] at hi
  have hp := seqO_mono f n d a K (i := i) (by omega)
  rw [preO_at d hp (h.run i hi)]
  exact (seqO_mono f n d a K (i := i + 1) hi).subset (innO_mem f _ _ hk)
theorem WholeO.uniq {a : α} {K J : Nat} (h : WholeO f n d a K) (h2 : WholeO f n d a J) : K = J := by
  rcases Nat.lt_trichotomy K J with e | e | e
  · have := h2.run K e; have := h.fin; omega
  · exact e
  · have := h.run J e; have := h2.fin; omega
/-- One to one on all: closed under preimages. -/
theorem WholeO.back {a x : α} {K k : Nat} {P : α → Prop} (h : WholeO f n d a K) (ha : P a) (hf : ∀ x, P x → ∀ k, k < n → P (f k x)) (hi : ∀ x y, P x → P y → ∀ k, k < n → f k x = f k y → x = y) (hx : P x) (hk : k < n) (hy : f k x ∈ seqO f n d a K) : x ∈ seqO f n d a K := by
  have hall := h.all ha hf
  have hnd : ((seqO f n d a K).map (f k)).Nodup := by
    have h0 := seqO_nodup f n d a K
    generalize seqO f n d a K = S at *
    clear hy h
    induction S with
    | nil => simp
    | cons y S ih =>
      rw [List.map_cons, List.nodup_cons]
      have h1 := List.nodup_cons.1 h0
      refine ⟨fun hm => ?_, ih (fun z hz => hall z (List.mem_cons_of_mem _ hz)) h1.2⟩
      obtain ⟨z, hz, e⟩ := List.mem_map.1 hm
      have := hi z y (hall z (List.mem_cons_of_mem _ hz)) (hall y List.mem_cons_self) k hk e
      exact h1.1 (this ▸ hz)
  have hon := nodup_onto hnd (fun y hy => by
    obtain ⟨z, hz, e⟩ := List.mem_map.1 hy
    rw [← e]; exact h.closed hz hk) (by simp) _ hy
  obtain ⟨z, hz, e⟩ := List.mem_map.1 hon
  have := hi z x (hall z hz) hx k hk e
  exact this ▸ hz
/-- Reached: in the whole list. -/
def Reach0 (f : Nat → α → α) (n : Nat) (d : α) (x y : α) : Prop := ∃ K, WholeO f n d x K ∧ y ∈ seqO f n d x K
theorem Reach0.least {x y : α} (h : Reach0 f n d x y) {T : α → Prop} (hx : T x) (hT : ∀ z, T z → ∀ k, k < n → T (f k z)) : T y := by
  obtain ⟨K, hK, hy⟩ := h
  exact hK.all hx hT y hy
variable {all : List α}
end
end Go.Proofs.YtaocnklolgdkfaaGreat

