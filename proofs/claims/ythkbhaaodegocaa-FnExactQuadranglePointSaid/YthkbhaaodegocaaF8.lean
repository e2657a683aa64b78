/- Contracts: the fourth harmonic point: the program, walked. (Printed by genquad.py, a program of this session.) -/
import Derived.Test.YthkbhaaodegocaaF7
import Derived.Test.YthkbhaaodegocaaRegT
namespace Go.Proofs.Ythkbhaaodegocaa
open Go.RowKit
set_option linter.unusedVariables false
set_option linter.unusedSimpArgs false
theorem pts_head {W : World} {g n : Nat} {L : List Pt} (h : PtsAt W g 0 n L) (hn : 0 < n) : W.cell? ⟨g, 0, none⟩ = some (.int .i64 (headP L).1) ∧ W.cell? ⟨g, 1, none⟩ = some (.int .i64 (headP L).2.1) ∧ W.cell? ⟨g, 2, none⟩ = some (.int .i64 (headP L).2.2) := by
  have e : L.getD 0 (0, 0, 0) = headP L := by cases L <;> rfl
  obtain ⟨c0, c1, c2⟩ := h 0 hn
  rw [e] at c0 c1 c2
  exact ⟨by simpa using c0, by simpa using c1, by simpa using c2⟩
set_option maxRecDepth 10000 in
theorem QuadranglePoint_impl_no (p x0 y0 z0 x1 y1 z1 x2 y2 z2 : Int) (w : World) (hz : codeOf p (ptsB p [(x0, y0, z0), (x1, y1, z1), (x2, y2, z2)]) ≠ 0) :
    Calls Try.prog 42 #[.int .i64 p, ptV x0 y0 z0, ptV x1 y1 z1, ptV x2 y2 z2] w (Ret w (.tuple #[ptV 0 0 0, .int .i64 (codeOf p (ptsB p [(x0, y0, z0), (x1, y1, z1), (x2, y2, z2)]))])) := by
  have HC := Lib.hid (fun (b : Nat) (W : World) hc => pointsCode_any p b 0 3 3 [(x0, y0, z0), (x1, y1, z1), (x2, y2, z2)] W rfl (by omega) hc)
  have hz' := codeOf_ne hz
  generalize codeOf p (ptsB p [(x0, y0, z0), (x1, y1, z1), (x2, y2, z2)]) = c at *
  clear hz
  go_enter Try.func42, Try.ntmps42
  go_wp2_with (go_at_call 99; (with_reducible refine (HC.out _ _ (at3 _ _ _ _ _ _ _ _ _ _ _ _ (by simp))).mono ?_); rintro e w1_ ⟨rfl, hb1⟩; obtain ⟨hcb1, hfb1, hlb1⟩ := bcell hb1; have hsz1 := hb1.size; (try simp at hsz1); have HB1 := Lib.hid hb1; clear hb1; (try (have hl01 : w.heap.size < w1_.heap.size := by omega)); (try (have hl11 : w.heap.size + 1 < w1_.heap.size := by omega)); (try (have hl21 : w.heap.size + 1 + 1 < w1_.heap.size := by omega)); (try (have hl31 : w.heap.size + 1 + 1 + 1 < w1_.heap.size := by omega)); (try (have hl41 : w.heap.size + 1 + 1 + 1 + 1 < w1_.heap.size := by omega)))
  exact bodyPost_ret (v := .tuple #[ptV 0 0 0, .int .i64 c]) (by simp [results, Try.results42, go_sem, hcb1, hl01, hl11, hl21, hl31, hl41]) rfl ⟨rfl, (by repeat (first | exact Below.refl _ _ | refine bset ?_ _ _ (by omega) _ | refine bal ?_ _ | refine bdrN ?_ _ | refine bdr ?_ | refine below_tr' ?_ HB1.out))⟩
set_option maxRecDepth 10000 in
theorem QuadranglePoint_impl_three (p x0 y0 z0 x1 y1 z1 x2 y2 z2 : Int) (w : World) (hz : codeOf p (ptsB p [(x0, y0, z0), (x1, y1, z1), (x2, y2, z2)]) = 0) (h3 : threeB p (x0, y0, z0) (x1, y1, z1) (x2, y2, z2) = false) :
    Calls Try.prog 42 #[.int .i64 p, ptV x0 y0 z0, ptV x1 y1 z1, ptV x2 y2 z2] w (Ret w (.tuple #[ptV 0 0 0, .int .i64 5])) := by
  have HC := Lib.hid (fun (b : Nat) (W : World) hc => pointsCode_any p b 0 3 3 [(x0, y0, z0), (x1, y1, z1), (x2, y2, z2)] W rfl (by omega) hc)
  obtain ⟨hp, hpts⟩ := code_zero hz
  simp only [ptsB, List.all_cons, List.all_nil, Bool.and_true, Bool.and_eq_true] at hpts
  obtain ⟨qa, qb, qc⟩ := hpts
  have HT := Lib.hid (fun (W : World) => areThree_any p x0 y0 z0 x1 y1 z1 x2 y2 z2 W hp (in13' qa) (in13' qb) (in13' qc))
  rw [hz] at HC
  rw [h3] at HT
  clear hz hp qa qb qc h3
  go_enter Try.func42, Try.ntmps42
  go_wp2_with (first
    | (go_at_call 99; (with_reducible refine (HC.out _ _ (at3 _ _ _ _ _ _ _ _ _ _ _ _ (by simp))).mono ?_); rintro e w1_ ⟨rfl, hb1⟩; obtain ⟨hcb1, hfb1, hlb1⟩ := bcell hb1; have hsz1 := hb1.size; (try simp at hsz1); have HB1 := Lib.hid hb1; clear hb1; (try (have hl01 : w.heap.size < w1_.heap.size := by omega)); (try (have hl11 : w.heap.size + 1 < w1_.heap.size := by omega)); (try (have hl21 : w.heap.size + 1 + 1 < w1_.heap.size := by omega)); (try (have hl31 : w.heap.size + 1 + 1 + 1 < w1_.heap.size := by omega)); (try (have hl41 : w.heap.size + 1 + 1 + 1 + 1 < w1_.heap.size := by omega)))
    | (go_at_call 100; (with_reducible refine (HT.out _).mono ?_); rintro e w2_ ⟨rfl, hb2⟩; obtain ⟨hcb2, hfb2, hlb2⟩ := bcell hb2; have hsz2 := hb2.size; (try simp at hsz2); have HB2 := Lib.hid hb2; clear hb2; (try (have hl02 : w.heap.size < w2_.heap.size := by omega)); (try (have hl12 : w.heap.size + 1 < w2_.heap.size := by omega)); (try (have hl22 : w.heap.size + 1 + 1 < w2_.heap.size := by omega)); (try (have hl32 : w.heap.size + 1 + 1 + 1 < w2_.heap.size := by omega)); (try (have hl42 : w.heap.size + 1 + 1 + 1 + 1 < w2_.heap.size := by omega))))
  exact bodyPost_ret (v := .tuple #[ptV 0 0 0, .int .i64 5]) (by simp [results, Try.results42, go_sem, hcb1, hl01, hl11, hl21, hl31, hl41, hcb2, hl02, hl12, hl22, hl32, hl42]) rfl ⟨rfl, (by repeat (first | exact Below.refl _ _ | refine bset ?_ _ _ (by omega) _ | refine bal ?_ _ | refine bdrN ?_ _ | refine bdr ?_ | refine below_tr' ?_ HB2.out | refine below_tr' ?_ HB1.out))⟩
set_option maxRecDepth 10000 in
set_option maxHeartbeats 4000000 in
theorem QuadranglePoint_impl_main (n : Nat) (x0 y0 z0 x1 y1 z1 x2 y2 z2 : Int) (L R S s V1 V2 t V3 V4 u V5 o : Pt) (w : World) (hz : codeOf n (ptsB n [(x0, y0, z0), (x1, y1, z1), (x2, y2, z2)]) = 0) (h3 : threeB n (x0, y0, z0) (x1, y1, z1) (x2, y2, z2) = true)
    (Q : QuadAt n (x0, y0, z0) (x1, y1, z1) (x2, y2, z2) L R S s V1 V2 t V3 V4 u V5 o) :
    Calls Try.prog 42 #[.int .i64 (n : Int), ptV x0 y0 z0, ptV x1 y1 z1, ptV x2 y2 z2] w (Ret w (.tuple #[ptV o.1 o.2.1 o.2.2, .int .i64 0])) := by
  have HC := Lib.hid (fun (b : Nat) (W : World) hc => pointsCode_any n b 0 3 3 [(x0, y0, z0), (x1, y1, z1), (x2, y2, z2)] W rfl (by omega) hc)
  have HT := Lib.hid (fun (W : World) => areThree_any n x0 y0 z0 x1 y1 z1 x2 y2 z2 W Q.hp Q.iA Q.iB Q.iC)
  rw [hz] at HC
  rw [h3] at HT
  clear hz h3
  obtain ⟨L0, L1, L2⟩ := L
  obtain ⟨R0, R1, R2⟩ := R
  obtain ⟨S0, S1, S2⟩ := S
  obtain ⟨s0, s1, s2⟩ := s
  obtain ⟨a0, a1, a2⟩ := V1
  obtain ⟨b0, b1, b2⟩ := V2
  obtain ⟨t0, t1, t2⟩ := t
  obtain ⟨c0, c1, c2⟩ := V3
  obtain ⟨d0, d1, d2⟩ := V4
  obtain ⟨u0, u1, u2⟩ := u
  obtain ⟨e0, e1, e2⟩ := V5
  obtain ⟨o0, o1, o2⟩ := o
  have HIn := Lib.hid (allP_in (n := n) Q.n3.2)
  have HJ3 := Lib.hid (fun (W : World) => join_any n x0 y0 z0 x1 y1 z1 W Q.hp Q.iA Q.iB)
  have HT4 := Lib.hid (fun (W : World) (g0 g1 : Nat) (h0 : W.heap[g0]? = some (.cells #[.int .i64 n] 2 (0, 0))) (h1 : W.heap[g1]? = some (.cells #[.int .i64 L0, .int .i64 L1, .int .i64 L2] 24 (0, 0))) =>
    that1_any n (fun x => !onB (n : Int) x (L0, L1, L2)) (.pointer (some ⟨g0, 0, none⟩)) (.pointer (some ⟨g1, 0, none⟩)) W Q.n3 (fun W' x y z hW' hm =>
      quad1_any n x y z L0 L1 L2 g0 g1 _ _ W' Q.hp (HIn.out _ hm) Q.iL (by rw [hW'.block _ (Array.getElem?_eq_some_iff.1 h0).1]; exact h0) (by rw [hW'.block _ (Array.getElem?_eq_some_iff.1 h1).1]; exact h1)))
  have HJ5 := Lib.hid (fun (W : World) => join_any n x0 y0 z0 R0 R1 R2 W Q.hp Q.iA Q.iR)
  have HT6 := Lib.hid (fun (W : World) (g0 g1 g2 g3 : Nat) (h0 : W.heap[g0]? = some (.cells #[.int .i64 n] 2 (0, 0))) (h1 : W.heap[g1]? = some (.cells #[.int .i64 S0, .int .i64 S1, .int .i64 S2] 24 (0, 0))) (h2 : W.heap[g2]? = some (.cells #[.int .i64 x0, .int .i64 y0, .int .i64 z0] 23 (0, 0))) (h3 : W.heap[g3]? = some (.cells #[.int .i64 R0, .int .i64 R1, .int .i64 R2] 23 (0, 0))) =>
    that2_any n (fun x => onB (n : Int) x (S0, S1, S2) && (!eqP x (x0, y0, z0) && !eqP x (R0, R1, R2))) (.pointer (some ⟨g0, 0, none⟩)) (.pointer (some ⟨g1, 0, none⟩)) (.pointer (some ⟨g2, 0, none⟩)) (.pointer (some ⟨g3, 0, none⟩)) W Q.n3 (fun W' x y z hW' hm =>
      quad2_any n x y z S0 S1 S2 x0 y0 z0 R0 R1 R2 g0 g1 g2 g3 _ _ _ _ W' Q.hp (HIn.out _ hm) Q.iS (by rw [hW'.block _ (Array.getElem?_eq_some_iff.1 h0).1]; exact h0) (by rw [hW'.block _ (Array.getElem?_eq_some_iff.1 h1).1]; exact h1) (by rw [hW'.block _ (Array.getElem?_eq_some_iff.1 h2).1]; exact h2) (by rw [hW'.block _ (Array.getElem?_eq_some_iff.1 h3).1]; exact h3)))
  have HJ7 := Lib.hid (fun (W : World) => join_any n x1 y1 z1 s0 s1 s2 W Q.hp Q.iB Q.is)
  have HJ8 := Lib.hid (fun (W : World) => join_any n x2 y2 z2 R0 R1 R2 W Q.hp Q.iC Q.iR)
  have HX9 := Lib.hid (fun (W : World) => meet_any n a0 a1 a2 b0 b1 b2 W Q.hp Q.i1 Q.i2)
  have HJ10 := Lib.hid (fun (W : World) => join_any n x1 y1 z1 R0 R1 R2 W Q.hp Q.iB Q.iR)
  have HJ11 := Lib.hid (fun (W : World) => join_any n x0 y0 z0 t0 t1 t2 W Q.hp Q.iA Q.it)
  have HX12 := Lib.hid (fun (W : World) => meet_any n c0 c1 c2 d0 d1 d2 W Q.hp Q.i3 Q.i4)
  have HJ13 := Lib.hid (fun (W : World) => join_any n s0 s1 s2 u0 u1 u2 W Q.hp Q.is Q.iu)
  have HX14 := Lib.hid (fun (W : World) => meet_any n L0 L1 L2 e0 e1 e2 W Q.hp Q.iL Q.i5)
  rw [Q.eL] at HJ3
  rw [Q.eS] at HJ5
  rw [Q.e1] at HJ7
  rw [Q.e2] at HJ8
  rw [Q.et] at HX9
  rw [Q.e3] at HJ10
  rw [Q.e4] at HJ11
  rw [Q.eu] at HX12
  rw [Q.e5] at HJ13
  rw [Q.eo] at HX14
  simp only at HJ3 HJ5 HJ7 HJ8 HX9 HJ10 HJ11 HX12 HJ13 HX14
  have P1 : 0 < ((allP n).filter (fun x => !onB (n : Int) x (L0, L1, L2))).length := by
    obtain ⟨q, hq, h1⟩ := Q.offL
    exact List.length_pos_of_mem (List.mem_filter.2 ⟨hq, by rw [h1]; rfl⟩)
  have P2 : 0 < ((allP n).filter (fun x => onB (n : Int) x (S0, S1, S2) && (!eqP x (x0, y0, z0) && !eqP x (R0, R1, R2)))).length := by
    obtain ⟨q, hq, h1, h2, h3⟩ := Q.onS
    have e2 : eqP q (x0, y0, z0) = false := by cases e : eqP q (x0, y0, z0) with | false => rfl | true => exact (h2 (eqP_iff.1 e)).elim
    have e3 : eqP q (R0, R1, R2) = false := by cases e : eqP q (R0, R1, R2) with | false => rfl | true => exact (h3 (eqP_iff.1 e)).elim
    exact List.length_pos_of_mem (List.mem_filter.2 ⟨hq, by rw [h1, e2, e3]; rfl⟩)
  have E1 := Lib.hid Q.eR
  have E2 := Lib.hid Q.es
  clear Q
  generalize (allP n).filter (fun x => !onB (n : Int) x (L0, L1, L2)) = F1 at *
  generalize (allP n).filter (fun x => onB (n : Int) x (S0, S1, S2) && (!eqP x (x0, y0, z0) && !eqP x (R0, R1, R2))) = F2 at *
  go_enter Try.func42, Try.ntmps42
  go_wp2_with (first
    | (go_at_call 99; (with_reducible refine (HC.out _ _ (at3 _ _ _ _ _ _ _ _ _ _ _ _ (by simp))).mono ?_); rintro e w1_ ⟨rfl, hb1⟩; obtain ⟨hcb1, hfb1, hlb1⟩ := bcell hb1; have hsz1 := hb1.size; (try simp at hsz1); have HB1 := Lib.hid hb1; clear hb1; (try (have hl01 : w.heap.size < w1_.heap.size := by omega)); (try (have hl11 : w.heap.size + 1 < w1_.heap.size := by omega)); (try (have hl21 : w.heap.size + 1 + 1 < w1_.heap.size := by omega)); (try (have hl31 : w.heap.size + 1 + 1 + 1 < w1_.heap.size := by omega)); (try (have hl41 : w.heap.size + 1 + 1 + 1 + 1 < w1_.heap.size := by omega)))
    | (go_at_call 100; (with_reducible refine (HT.out _).mono ?_); rintro e w2_ ⟨rfl, hb2⟩; obtain ⟨hcb2, hfb2, hlb2⟩ := bcell hb2; have hsz2 := hb2.size; (try simp at hsz2); have HB2 := Lib.hid hb2; clear hb2; (try (have hl02 : w.heap.size < w2_.heap.size := by omega)); (try (have hl12 : w.heap.size + 1 < w2_.heap.size := by omega)); (try (have hl22 : w.heap.size + 1 + 1 < w2_.heap.size := by omega)); (try (have hl32 : w.heap.size + 1 + 1 + 1 < w2_.heap.size := by omega)); (try (have hl42 : w.heap.size + 1 + 1 + 1 + 1 < w2_.heap.size := by omega)))
    | (go_at_call 101; (with_reducible refine (HJ3.out _).mono ?_); rintro e w3_ ⟨rfl, hb3⟩; obtain ⟨hcb3, hfb3, hlb3⟩ := bcell hb3; have hsz3 := hb3.size; (try simp at hsz3); have HB3 := Lib.hid hb3; clear hb3; (try (have hl03 : w.heap.size < w3_.heap.size := by omega)); (try (have hl13 : w.heap.size + 1 < w3_.heap.size := by omega)); (try (have hl23 : w.heap.size + 1 + 1 < w3_.heap.size := by omega)); (try (have hl33 : w.heap.size + 1 + 1 + 1 < w3_.heap.size := by omega)); (try (have hl43 : w.heap.size + 1 + 1 + 1 + 1 < w3_.heap.size := by omega)))
    | (go_at_call 102; (with_reducible refine (HT4.out _ _ _ (by rw [hn_past' _ _ _ (by first | omega | (simp; done) | (simp; omega)), HB3.out.block _ (by first | omega | (simp; done) | (simp; omega)), HB2.out.block _ (by first | omega | (simp; done) | (simp; omega)), HB1.out.block _ (by first | omega | (simp; done) | (simp; omega)), hn_past' _ _ _ (by first | omega | (simp; done) | (simp; omega)), hn_past' _ _ _ (by first | omega | (simp; done) | (simp; omega)), hn_past' _ _ _ (by first | omega | (simp; done) | (simp; omega)), hn_past' _ _ _ (by first | omega | (simp; done) | (simp; omega)), hn_past' _ _ _ (by first | omega | (simp; done) | (simp; omega)), hn_at' _ _ _ (by simp)]) (by rw [hn_at' _ _ _ (by simp)])).mono ?_); rintro e w4_ ⟨v, rfl, ho, hb⟩; obtain ⟨g1, cap1, rfl, hg10, hg11, hpt1⟩ := ownPts ho rfl P1; obtain ⟨q0, q1, q2⟩ := pts_head hpt1 P1; rw [E1.out] at q0 q1 q2; simp only at q0 q1 q2; obtain ⟨hcb4, hfb4, hlb4⟩ := bcell hb; have hsz4 := hb.size; (try simp at hsz4); have HB4 := Lib.hid hb; clear hb ho hpt1; have hl04 : w.heap.size < w4_.heap.size := (by omega); have hl14 : w.heap.size + 1 < w4_.heap.size := (by omega))
    | (go_at_call 101; (with_reducible refine (HJ5.out _).mono ?_); rintro e w5_ ⟨rfl, hb5⟩; obtain ⟨hcb5, hfb5, hlb5⟩ := bcell hb5; have hsz5 := hb5.size; (try simp at hsz5); have HB5 := Lib.hid hb5; clear hb5; (try (have hl05 : w.heap.size < w5_.heap.size := by omega)); (try (have hl15 : w.heap.size + 1 < w5_.heap.size := by omega)); (try (have hl25 : w.heap.size + 1 + 1 < w5_.heap.size := by omega)); (try (have hl35 : w.heap.size + 1 + 1 + 1 < w5_.heap.size := by omega)); (try (have hl45 : w.heap.size + 1 + 1 + 1 + 1 < w5_.heap.size := by omega)); (try (have hl05_1 : w3_.heap.size < w5_.heap.size := by omega)); (try (have hl05_2 : w4_.heap.size < w5_.heap.size := by omega)))
    | (go_at_call 102; (with_reducible refine (HT6.out _ _ _ _ _ (by rw [hn_past' _ _ _ (by first | omega | (simp; done) | (simp; omega)), HB5.out.block _ (by first | omega | (simp; done) | (simp; omega)), hn_past' _ _ _ (by first | omega | (simp; done) | (simp; omega)), HB4.out.block _ (by first | omega | (simp; done) | (simp; omega)), hn_past' _ _ _ (by first | omega | (simp; done) | (simp; omega)), HB3.out.block _ (by first | omega | (simp; done) | (simp; omega)), HB2.out.block _ (by first | omega | (simp; done) | (simp; omega)), HB1.out.block _ (by first | omega | (simp; done) | (simp; omega)), hn_past' _ _ _ (by first | omega | (simp; done) | (simp; omega)), hn_past' _ _ _ (by first | omega | (simp; done) | (simp; omega)), hn_past' _ _ _ (by first | omega | (simp; done) | (simp; omega)), hn_past' _ _ _ (by first | omega | (simp; done) | (simp; omega)), hn_past' _ _ _ (by first | omega | (simp; done) | (simp; omega)), hn_at' _ _ _ (by simp)]) (by rw [hn_at' _ _ _ (by simp)]) (by rw [hn_past' _ _ _ (by first | omega | (simp; done) | (simp; omega)), HB5.out.block _ (by first | omega | (simp; done) | (simp; omega)), hn_past' _ _ _ (by first | omega | (simp; done) | (simp; omega)), HB4.out.block _ (by first | omega | (simp; done) | (simp; omega)), hn_past' _ _ _ (by first | omega | (simp; done) | (simp; omega)), HB3.out.block _ (by first | omega | (simp; done) | (simp; omega)), HB2.out.block _ (by first | omega | (simp; done) | (simp; omega)), HB1.out.block _ (by first | omega | (simp; done) | (simp; omega)), hn_past' _ _ _ (by first | omega | (simp; done) | (simp; omega)), hn_past' _ _ _ (by first | omega | (simp; done) | (simp; omega)), hn_past' _ _ _ (by first | omega | (simp; done) | (simp; omega)), hn_past' _ _ _ (by first | omega | (simp; done) | (simp; omega)), hn_at' _ _ _ (by simp)]) (by rw [hn_past' _ _ _ (by first | omega | (simp; done) | (simp; omega)), HB5.out.block _ (by first | omega | (simp; done) | (simp; omega)), hn_at' _ _ _ (by simp)])).mono ?_); rintro e w6_ ⟨v, rfl, ho, hb⟩; obtain ⟨g2, cap2, rfl, hg20, hg21, hpt2⟩ := ownPts ho rfl P2; obtain ⟨r0, r1, r2⟩ := pts_head hpt2 P2; rw [E2.out] at r0 r1 r2; simp only at r0 r1 r2; have hsz6 := hb.size; (try simp at hsz6); have HB6 := Lib.hid hb; clear hb ho hpt2))
  have bP : w6_.heap[w.heap.size]? = some (.cells #[.int .i64 n] 2 (0, 0)) := (by rw [HB6.out.block _ (by first | omega | (simp; done) | (simp; omega)), hn_past' _ _ _ (by first | omega | (simp; done) | (simp; omega)), HB5.out.block _ (by first | omega | (simp; done) | (simp; omega)), hn_past' _ _ _ (by first | omega | (simp; done) | (simp; omega)), HB4.out.block _ (by first | omega | (simp; done) | (simp; omega)), hn_past' _ _ _ (by first | omega | (simp; done) | (simp; omega)), HB3.out.block _ (by first | omega | (simp; done) | (simp; omega)), HB2.out.block _ (by first | omega | (simp; done) | (simp; omega)), HB1.out.block _ (by first | omega | (simp; done) | (simp; omega)), hn_past' _ _ _ (by first | omega | (simp; done) | (simp; omega)), hn_past' _ _ _ (by first | omega | (simp; done) | (simp; omega)), hn_past' _ _ _ (by first | omega | (simp; done) | (simp; omega)), hn_past' _ _ _ (by first | omega | (simp; done) | (simp; omega)), hn_past' _ _ _ (by first | omega | (simp; done) | (simp; omega)), hn_at' _ _ _ (by simp)])
  have lP := (Array.getElem?_eq_some_iff.1 bP).1
  have bA : w6_.heap[w.heap.size + 1]? = some (.cells #[.int .i64 x0, .int .i64 y0, .int .i64 z0] 23 (0, 0)) := (by rw [HB6.out.block _ (by first | omega | (simp; done) | (simp; omega)), hn_past' _ _ _ (by first | omega | (simp; done) | (simp; omega)), HB5.out.block _ (by first | omega | (simp; done) | (simp; omega)), hn_past' _ _ _ (by first | omega | (simp; done) | (simp; omega)), HB4.out.block _ (by first | omega | (simp; done) | (simp; omega)), hn_past' _ _ _ (by first | omega | (simp; done) | (simp; omega)), HB3.out.block _ (by first | omega | (simp; done) | (simp; omega)), HB2.out.block _ (by first | omega | (simp; done) | (simp; omega)), HB1.out.block _ (by first | omega | (simp; done) | (simp; omega)), hn_past' _ _ _ (by first | omega | (simp; done) | (simp; omega)), hn_past' _ _ _ (by first | omega | (simp; done) | (simp; omega)), hn_past' _ _ _ (by first | omega | (simp; done) | (simp; omega)), hn_past' _ _ _ (by first | omega | (simp; done) | (simp; omega)), hn_at' _ _ _ (by simp)])
  have lA := (Array.getElem?_eq_some_iff.1 bA).1
  have bB : w6_.heap[w.heap.size + 1 + 1]? = some (.cells #[.int .i64 x1, .int .i64 y1, .int .i64 z1] 23 (0, 0)) := (by rw [HB6.out.block _ (by first | omega | (simp; done) | (simp; omega)), hn_past' _ _ _ (by first | omega | (simp; done) | (simp; omega)), HB5.out.block _ (by first | omega | (simp; done) | (simp; omega)), hn_past' _ _ _ (by first | omega | (simp; done) | (simp; omega)), HB4.out.block _ (by first | omega | (simp; done) | (simp; omega)), hn_past' _ _ _ (by first | omega | (simp; done) | (simp; omega)), HB3.out.block _ (by first | omega | (simp; done) | (simp; omega)), HB2.out.block _ (by first | omega | (simp; done) | (simp; omega)), HB1.out.block _ (by first | omega | (simp; done) | (simp; omega)), hn_past' _ _ _ (by first | omega | (simp; done) | (simp; omega)), hn_past' _ _ _ (by first | omega | (simp; done) | (simp; omega)), hn_past' _ _ _ (by first | omega | (simp; done) | (simp; omega)), hn_at' _ _ _ (by simp)])
  have lB := (Array.getElem?_eq_some_iff.1 bB).1
  have bC : w6_.heap[w.heap.size + 1 + 1 + 1]? = some (.cells #[.int .i64 x2, .int .i64 y2, .int .i64 z2] 23 (0, 0)) := (by rw [HB6.out.block _ (by first | omega | (simp; done) | (simp; omega)), hn_past' _ _ _ (by first | omega | (simp; done) | (simp; omega)), HB5.out.block _ (by first | omega | (simp; done) | (simp; omega)), hn_past' _ _ _ (by first | omega | (simp; done) | (simp; omega)), HB4.out.block _ (by first | omega | (simp; done) | (simp; omega)), hn_past' _ _ _ (by first | omega | (simp; done) | (simp; omega)), HB3.out.block _ (by first | omega | (simp; done) | (simp; omega)), HB2.out.block _ (by first | omega | (simp; done) | (simp; omega)), HB1.out.block _ (by first | omega | (simp; done) | (simp; omega)), hn_past' _ _ _ (by first | omega | (simp; done) | (simp; omega)), hn_past' _ _ _ (by first | omega | (simp; done) | (simp; omega)), hn_at' _ _ _ (by simp)])
  have lC := (Array.getElem?_eq_some_iff.1 bC).1
  have bZ : w6_.heap[w.heap.size + 1 + 1 + 1 + 1]? = some (.cells #[.int .i64 0, .int .i64 0, .int .i64 0] 23 (0, 0)) := (by rw [HB6.out.block _ (by first | omega | (simp; done) | (simp; omega)), hn_past' _ _ _ (by first | omega | (simp; done) | (simp; omega)), HB5.out.block _ (by first | omega | (simp; done) | (simp; omega)), hn_past' _ _ _ (by first | omega | (simp; done) | (simp; omega)), HB4.out.block _ (by first | omega | (simp; done) | (simp; omega)), hn_past' _ _ _ (by first | omega | (simp; done) | (simp; omega)), HB3.out.block _ (by first | omega | (simp; done) | (simp; omega)), HB2.out.block _ (by first | omega | (simp; done) | (simp; omega)), HB1.out.block _ (by first | omega | (simp; done) | (simp; omega)), hn_past' _ _ _ (by first | omega | (simp; done) | (simp; omega)), hn_at' _ _ _ (by simp)])
  have lZ := (Array.getElem?_eq_some_iff.1 bZ).1
  have bL : w6_.heap[w3_.heap.size]? = some (.cells #[.int .i64 L0, .int .i64 L1, .int .i64 L2] 24 (0, 0)) := (by rw [HB6.out.block _ (by first | omega | (simp; done) | (simp; omega)), hn_past' _ _ _ (by first | omega | (simp; done) | (simp; omega)), HB5.out.block _ (by first | omega | (simp; done) | (simp; omega)), hn_past' _ _ _ (by first | omega | (simp; done) | (simp; omega)), HB4.out.block _ (by first | omega | (simp; done) | (simp; omega)), hn_at' _ _ _ (by simp)])
  have lL := (Array.getElem?_eq_some_iff.1 bL).1
  have bR : w6_.heap[w4_.heap.size]? = some (.cells #[.int .i64 R0, .int .i64 R1, .int .i64 R2] 23 (0, 0)) := (by rw [HB6.out.block _ (by first | omega | (simp; done) | (simp; omega)), hn_past' _ _ _ (by first | omega | (simp; done) | (simp; omega)), HB5.out.block _ (by first | omega | (simp; done) | (simp; omega)), hn_at' _ _ _ (by simp)])
  have lR := (Array.getElem?_eq_some_iff.1 bR).1
  have HBv : Below w.heap.size w w6_ := (by repeat (first | exact Below.refl _ _ | refine bset ?_ _ _ (by omega) _ | refine bal ?_ _ | refine bdrN ?_ _ | refine bdr ?_ | refine below_tr' ?_ HB6.out | refine below_tr' ?_ HB5.out | refine below_tr' ?_ HB4.out | refine below_tr' ?_ HB3.out | refine below_tr' ?_ HB2.out | refine below_tr' ?_ HB1.out))
  clear hcb1 hfb1 hlb1 hcb2 hfb2 hlb2 hcb3 hfb3 hlb3 hcb4 hfb4 hlb4 hcb5 hfb5 hlb5 HB1 HB2 HB3 HB4 HB5 HB6 HC HT HJ3 HT4 HJ5 HT6 q0 q1 q2 r0 r1 r2
  have hWc : ∃ Wc, Wc = w6_.alloc (.cells #[.int .i64 s0, .int .i64 s1, .int .i64 s2] 23) := ⟨_, rfl⟩
  obtain ⟨Wc, hWc⟩ := hWc
  have HBc : Below w.heap.size w Wc := by rw [hWc]; exact bal HBv _
  have mP : Wc.heap[w.heap.size]? = some (.cells #[.int .i64 n] 2 (0, 0)) := by rw [hWc, hn_past' _ _ _ lP]; exact bP
  have mA : Wc.heap[w.heap.size + 1]? = some (.cells #[.int .i64 x0, .int .i64 y0, .int .i64 z0] 23 (0, 0)) := by rw [hWc, hn_past' _ _ _ lA]; exact bA
  have mB : Wc.heap[w.heap.size + 1 + 1]? = some (.cells #[.int .i64 x1, .int .i64 y1, .int .i64 z1] 23 (0, 0)) := by rw [hWc, hn_past' _ _ _ lB]; exact bB
  have mC : Wc.heap[w.heap.size + 1 + 1 + 1]? = some (.cells #[.int .i64 x2, .int .i64 y2, .int .i64 z2] 23 (0, 0)) := by rw [hWc, hn_past' _ _ _ lC]; exact bC
  have mZ : Wc.heap[w.heap.size + 1 + 1 + 1 + 1]? = some (.cells #[.int .i64 0, .int .i64 0, .int .i64 0] 23 (0, 0)) := by rw [hWc, hn_past' _ _ _ lZ]; exact bZ
  have mL : Wc.heap[w3_.heap.size]? = some (.cells #[.int .i64 L0, .int .i64 L1, .int .i64 L2] 24 (0, 0)) := by rw [hWc, hn_past' _ _ _ lL]; exact bL
  have mR : Wc.heap[w4_.heap.size]? = some (.cells #[.int .i64 R0, .int .i64 R1, .int .i64 R2] 23 (0, 0)) := by rw [hWc, hn_past' _ _ _ lR]; exact bR
  have ms : Wc.heap[w6_.heap.size]? = some (.cells #[.int .i64 s0, .int .i64 s1, .int .i64 s2] 23 (0, 0)) := by rw [hWc, hn_at' _ _ _ (by simp)]
  have jP := (Array.getElem?_eq_some_iff.1 mP).1
  have jA := (Array.getElem?_eq_some_iff.1 mA).1
  have jB := (Array.getElem?_eq_some_iff.1 mB).1
  have jC := (Array.getElem?_eq_some_iff.1 mC).1
  have jZ := (Array.getElem?_eq_some_iff.1 mZ).1
  have jL := (Array.getElem?_eq_some_iff.1 mL).1
  have jR := (Array.getElem?_eq_some_iff.1 mR).1
  have js := (Array.getElem?_eq_some_iff.1 ms).1
  clear bP lP bA lA bB lB bC lC bZ lZ bL lL bR lR
  simp only [← hWc]
  clear hWc
  refine region_box (m := 10) (s := 11) (d := 15) (n := 3) (T := 23)
    [(52, .int .i64 n), (53, .int .i64 n), (54, ptV x1 y1 z1), (55, ptV s0 s1 s2), (56, ptV a0 a1 a2), (57, .int .i64 n), (58, ptV x2 y2 z2), (59, ptV R0 R1 R2), (60, ptV b0 b1 b2), (61, ptV t0 t1 t2)] #[.int .i64 t0, .int .i64 t1, .int .i64 t2] #[.int .i64 0, .int .i64 0, .int .i64 0]
    (by kernel_rfl) rfl rfl (by decide) (by kernel_rfl) (by simp) (by kernel_rfl) rfl rfl (fun ρ W => by kernel_rfl) (fun aE hpe => ?_)
  simp only [puts, Act.put, List.setIfInBounds_toArray, List.set_cons_zero, List.set_cons_succ] at hpe
  subst hpe
  refine ⟨?_, ?_, ?_⟩
  · intro ρ g W cs hp hv hg hn
    refine run_store_row (U := #[.int .i64 t0, .int .i64 t1, .int .i64 t2]) 23 (.tmp 15) (.tmp 61) rfl hp ?_ hg hn Try.sizeOf23 (by simp [Value.oneCell'])
    exact hv 61 (by simp [readsOf, Op.operands]) (by decide)
  · refine ⟨.inr (.inr ?_), .inr (.inr ?_), .inr (.inr ?_), .inr (.inr ?_), .inr (.inr ?_), .inr (.inr ?_), .inr (.inr ?_), .inr (.inr ?_), .inr (.inr ?_), .inr (.inr ?_), .inl rfl, .inr (.inl rfl), trivial⟩
    · exact Calm.mk 52 (.int .i64 n) rfl rfl (fun W hW => calm_run (by have hc : W.cell? ⟨w.heap.size, 0, none⟩ = some (.int .i64 n) := (by rw [cell_of_row W _ 0 _ _ _ (by rw [hW.block _ jP]; exact mP)]; rfl); simp [execOp, Act.eval, go_sem, hc]))
    · exact Calm.mk 53 (.int .i64 n) rfl rfl (fun W hW => calm_run (by have hc : W.cell? ⟨w.heap.size, 0, none⟩ = some (.int .i64 n) := (by rw [cell_of_row W _ 0 _ _ _ (by rw [hW.block _ jP]; exact mP)]; rfl); simp [execOp, Act.eval, go_sem, hc]))
    · exact Calm.mk 54 (ptV x1 y1 z1) rfl rfl (fun W hW => calm_load (cs := #[.int .i64 x1, .int .i64 y1, .int .i64 z1]) (g := w.heap.size + 1 + 1) (T := 23) (fr := (0, 0)) 23 (.tmp 6) rfl rfl (by rw [hW.block _ jB]; exact mB) 3 rfl Try.sizeOf23 Try.isAgg23)
    · exact Calm.mk 55 (ptV s0 s1 s2) rfl rfl (fun W hW => calm_load (cs := #[.int .i64 s0, .int .i64 s1, .int .i64 s2]) (g := w6_.heap.size) (T := 23) (fr := (0, 0)) 23 (.tmp 14) rfl rfl (by rw [hW.block _ js]; exact ms) 3 rfl Try.sizeOf23 Try.isAgg23)
    · exact Calm.mk 56 (ptV a0 a1 a2) rfl rfl (fun W hW => calm_call 101 _ #[.int .i64 n, ptV x1 y1 z1, ptV s0 s1 s2] rfl rfl rfl (by simp [Act.eval]) (Try.call101 _ _) (HJ7.out W))
    · exact Calm.mk 57 (.int .i64 n) rfl rfl (fun W hW => calm_run (by have hc : W.cell? ⟨w.heap.size, 0, none⟩ = some (.int .i64 n) := (by rw [cell_of_row W _ 0 _ _ _ (by rw [hW.block _ jP]; exact mP)]; rfl); simp [execOp, Act.eval, go_sem, hc]))
    · exact Calm.mk 58 (ptV x2 y2 z2) rfl rfl (fun W hW => calm_load (cs := #[.int .i64 x2, .int .i64 y2, .int .i64 z2]) (g := w.heap.size + 1 + 1 + 1) (T := 23) (fr := (0, 0)) 23 (.tmp 7) rfl rfl (by rw [hW.block _ jC]; exact mC) 3 rfl Try.sizeOf23 Try.isAgg23)
    · exact Calm.mk 59 (ptV R0 R1 R2) rfl rfl (fun W hW => calm_load (cs := #[.int .i64 R0, .int .i64 R1, .int .i64 R2]) (g := w4_.heap.size) (T := 23) (fr := (0, 0)) 23 (.tmp 12) rfl rfl (by rw [hW.block _ jR]; exact mR) 3 rfl Try.sizeOf23 Try.isAgg23)
    · exact Calm.mk 60 (ptV b0 b1 b2) rfl rfl (fun W hW => calm_call 101 _ #[.int .i64 n, ptV x2 y2 z2, ptV R0 R1 R2] rfl rfl rfl (by simp [Act.eval]) (Try.call101 _ _) (HJ8.out W))
    · exact Calm.mk 61 (ptV t0 t1 t2) rfl rfl (fun W hW => calm_call 105 _ #[.int .i64 n, ptV a0 a1 a2, ptV b0 b1 b2] rfl rfl rfl (by simp [Act.eval]) (Try.call105 _ _) (HX9.out W))
  intro gt Wt hW hg hrow
  simp only [Act.put, List.setIfInBounds_toArray, List.set_cons_zero, List.set_cons_succ]
  have zt : w.heap.size + 1 + 1 + 1 + 1 ≠ gt := by omega
  replace mP : Wt.heap[w.heap.size]? = some (.cells #[.int .i64 n] 2 (0, 0)) := by rw [hW.block _ jP]; exact mP
  replace mA : Wt.heap[w.heap.size + 1]? = some (.cells #[.int .i64 x0, .int .i64 y0, .int .i64 z0] 23 (0, 0)) := by rw [hW.block _ jA]; exact mA
  replace mB : Wt.heap[w.heap.size + 1 + 1]? = some (.cells #[.int .i64 x1, .int .i64 y1, .int .i64 z1] 23 (0, 0)) := by rw [hW.block _ jB]; exact mB
  replace mC : Wt.heap[w.heap.size + 1 + 1 + 1]? = some (.cells #[.int .i64 x2, .int .i64 y2, .int .i64 z2] 23 (0, 0)) := by rw [hW.block _ jC]; exact mC
  replace mZ : Wt.heap[w.heap.size + 1 + 1 + 1 + 1]? = some (.cells #[.int .i64 0, .int .i64 0, .int .i64 0] 23 (0, 0)) := by rw [hW.block _ jZ]; exact mZ
  replace mL : Wt.heap[w3_.heap.size]? = some (.cells #[.int .i64 L0, .int .i64 L1, .int .i64 L2] 24 (0, 0)) := by rw [hW.block _ jL]; exact mL
  replace mR : Wt.heap[w4_.heap.size]? = some (.cells #[.int .i64 R0, .int .i64 R1, .int .i64 R2] 23 (0, 0)) := by rw [hW.block _ jR]; exact mR
  replace ms : Wt.heap[w6_.heap.size]? = some (.cells #[.int .i64 s0, .int .i64 s1, .int .i64 s2] 23 (0, 0)) := by rw [hW.block _ js]; exact ms
  replace jP := (Array.getElem?_eq_some_iff.1 mP).1
  replace jA := (Array.getElem?_eq_some_iff.1 mA).1
  replace jB := (Array.getElem?_eq_some_iff.1 mB).1
  replace jC := (Array.getElem?_eq_some_iff.1 mC).1
  replace jZ := (Array.getElem?_eq_some_iff.1 mZ).1
  replace jL := (Array.getElem?_eq_some_iff.1 mL).1
  replace jR := (Array.getElem?_eq_some_iff.1 mR).1
  replace js := (Array.getElem?_eq_some_iff.1 ms).1
  have mt := hrow
  have jt := (Array.getElem?_eq_some_iff.1 mt).1
  replace HBc : Below w.heap.size w Wt := below_tr' HBc hW
  clear hrow hg hW
  go_wp2
  refine region_box (m := 10) (s := 11) (d := 16) (n := 3) (T := 23)
    [(62, .int .i64 n), (63, .int .i64 n), (64, ptV x1 y1 z1), (65, ptV R0 R1 R2), (66, ptV c0 c1 c2), (67, .int .i64 n), (68, ptV x0 y0 z0), (69, ptV t0 t1 t2), (70, ptV d0 d1 d2), (71, ptV u0 u1 u2)] #[.int .i64 u0, .int .i64 u1, .int .i64 u2] #[.int .i64 0, .int .i64 0, .int .i64 0]
    (by kernel_rfl) rfl rfl (by decide) (by kernel_rfl) (by simp) (by kernel_rfl) rfl rfl (fun ρ W => by kernel_rfl) (fun aE hpe => ?_)
  simp only [puts, Act.put, List.setIfInBounds_toArray, List.set_cons_zero, List.set_cons_succ] at hpe
  subst hpe
  refine ⟨?_, ?_, ?_⟩
  · intro ρ g W cs hp hv hg hn
    refine run_store_row (U := #[.int .i64 u0, .int .i64 u1, .int .i64 u2]) 23 (.tmp 16) (.tmp 71) rfl hp ?_ hg hn Try.sizeOf23 (by simp [Value.oneCell'])
    exact hv 71 (by simp [readsOf, Op.operands]) (by decide)
  · refine ⟨.inr (.inr ?_), .inr (.inr ?_), .inr (.inr ?_), .inr (.inr ?_), .inr (.inr ?_), .inr (.inr ?_), .inr (.inr ?_), .inr (.inr ?_), .inr (.inr ?_), .inr (.inr ?_), .inl rfl, .inr (.inl rfl), trivial⟩
    · exact Calm.mk 62 (.int .i64 n) rfl rfl (fun W hW => calm_run (by have hc : W.cell? ⟨w.heap.size, 0, none⟩ = some (.int .i64 n) := (by rw [cell_of_row W _ 0 _ _ _ (by rw [hW.block _ jP]; exact mP)]; rfl); simp [execOp, Act.eval, go_sem, hc]))
    · exact Calm.mk 63 (.int .i64 n) rfl rfl (fun W hW => calm_run (by have hc : W.cell? ⟨w.heap.size, 0, none⟩ = some (.int .i64 n) := (by rw [cell_of_row W _ 0 _ _ _ (by rw [hW.block _ jP]; exact mP)]; rfl); simp [execOp, Act.eval, go_sem, hc]))
    · exact Calm.mk 64 (ptV x1 y1 z1) rfl rfl (fun W hW => calm_load (cs := #[.int .i64 x1, .int .i64 y1, .int .i64 z1]) (g := w.heap.size + 1 + 1) (T := 23) (fr := (0, 0)) 23 (.tmp 6) rfl rfl (by rw [hW.block _ jB]; exact mB) 3 rfl Try.sizeOf23 Try.isAgg23)
    · exact Calm.mk 65 (ptV R0 R1 R2) rfl rfl (fun W hW => calm_load (cs := #[.int .i64 R0, .int .i64 R1, .int .i64 R2]) (g := w4_.heap.size) (T := 23) (fr := (0, 0)) 23 (.tmp 12) rfl rfl (by rw [hW.block _ jR]; exact mR) 3 rfl Try.sizeOf23 Try.isAgg23)
    · exact Calm.mk 66 (ptV c0 c1 c2) rfl rfl (fun W hW => calm_call 101 _ #[.int .i64 n, ptV x1 y1 z1, ptV R0 R1 R2] rfl rfl rfl (by simp [Act.eval]) (Try.call101 _ _) (HJ10.out W))
    · exact Calm.mk 67 (.int .i64 n) rfl rfl (fun W hW => calm_run (by have hc : W.cell? ⟨w.heap.size, 0, none⟩ = some (.int .i64 n) := (by rw [cell_of_row W _ 0 _ _ _ (by rw [hW.block _ jP]; exact mP)]; rfl); simp [execOp, Act.eval, go_sem, hc]))
    · exact Calm.mk 68 (ptV x0 y0 z0) rfl rfl (fun W hW => calm_load (cs := #[.int .i64 x0, .int .i64 y0, .int .i64 z0]) (g := w.heap.size + 1) (T := 23) (fr := (0, 0)) 23 (.tmp 5) rfl rfl (by rw [hW.block _ jA]; exact mA) 3 rfl Try.sizeOf23 Try.isAgg23)
    · exact Calm.mk 69 (ptV t0 t1 t2) rfl rfl (fun W hW => calm_load (cs := #[.int .i64 t0, .int .i64 t1, .int .i64 t2]) (g := gt) (T := 23) (fr := (0, 0)) 23 (.tmp 15) rfl rfl (by rw [hW.block _ jt]; exact mt) 3 rfl Try.sizeOf23 Try.isAgg23)
    · exact Calm.mk 70 (ptV d0 d1 d2) rfl rfl (fun W hW => calm_call 101 _ #[.int .i64 n, ptV x0 y0 z0, ptV t0 t1 t2] rfl rfl rfl (by simp [Act.eval]) (Try.call101 _ _) (HJ11.out W))
    · exact Calm.mk 71 (ptV u0 u1 u2) rfl rfl (fun W hW => calm_call 105 _ #[.int .i64 n, ptV c0 c1 c2, ptV d0 d1 d2] rfl rfl rfl (by simp [Act.eval]) (Try.call105 _ _) (HX12.out W))
  intro gu Wu hW hg hrow
  simp only [Act.put, List.setIfInBounds_toArray, List.set_cons_zero, List.set_cons_succ]
  have zu : w.heap.size + 1 + 1 + 1 + 1 ≠ gu := by omega
  replace mP : Wu.heap[w.heap.size]? = some (.cells #[.int .i64 n] 2 (0, 0)) := by rw [hW.block _ jP]; exact mP
  replace mA : Wu.heap[w.heap.size + 1]? = some (.cells #[.int .i64 x0, .int .i64 y0, .int .i64 z0] 23 (0, 0)) := by rw [hW.block _ jA]; exact mA
  replace mB : Wu.heap[w.heap.size + 1 + 1]? = some (.cells #[.int .i64 x1, .int .i64 y1, .int .i64 z1] 23 (0, 0)) := by rw [hW.block _ jB]; exact mB
  replace mC : Wu.heap[w.heap.size + 1 + 1 + 1]? = some (.cells #[.int .i64 x2, .int .i64 y2, .int .i64 z2] 23 (0, 0)) := by rw [hW.block _ jC]; exact mC
  replace mZ : Wu.heap[w.heap.size + 1 + 1 + 1 + 1]? = some (.cells #[.int .i64 0, .int .i64 0, .int .i64 0] 23 (0, 0)) := by rw [hW.block _ jZ]; exact mZ
  replace mL : Wu.heap[w3_.heap.size]? = some (.cells #[.int .i64 L0, .int .i64 L1, .int .i64 L2] 24 (0, 0)) := by rw [hW.block _ jL]; exact mL
  replace mR : Wu.heap[w4_.heap.size]? = some (.cells #[.int .i64 R0, .int .i64 R1, .int .i64 R2] 23 (0, 0)) := by rw [hW.block _ jR]; exact mR
  replace ms : Wu.heap[w6_.heap.size]? = some (.cells #[.int .i64 s0, .int .i64 s1, .int .i64 s2] 23 (0, 0)) := by rw [hW.block _ js]; exact ms
  replace jP := (Array.getElem?_eq_some_iff.1 mP).1
  replace jA := (Array.getElem?_eq_some_iff.1 mA).1
  replace jB := (Array.getElem?_eq_some_iff.1 mB).1
  replace jC := (Array.getElem?_eq_some_iff.1 mC).1
  replace jZ := (Array.getElem?_eq_some_iff.1 mZ).1
  replace jL := (Array.getElem?_eq_some_iff.1 mL).1
  replace jR := (Array.getElem?_eq_some_iff.1 mR).1
  replace js := (Array.getElem?_eq_some_iff.1 ms).1
  have mu := hrow
  have ju := (Array.getElem?_eq_some_iff.1 mu).1
  replace HBc : Below w.heap.size w Wu := below_tr' HBc hW
  clear hrow hg hW
  go_wp2
  refine region_storeT (w.heap.size + 1 + 1 + 1 + 1) 7 3 23 #[.int .i64 o0, .int .i64 o1, .int .i64 o2] [(72, .int .i64 n), (73, ptV L0 L1 L2), (74, .int .i64 n), (75, ptV s0 s1 s2), (76, ptV u0 u1 u2), (77, ptV e0 e1 e2), (78, ptV o0 o1 o2), (9, .int .i64 0)] (by kernel_rfl) rfl (by kernel_rfl) (by kernel_rfl) ⟨_, mZ, rfl⟩ rfl (fun aE hpe => ?_)
  simp only [puts, Act.put, List.setIfInBounds_toArray, List.set_cons_zero, List.set_cons_succ] at hpe
  subst hpe
  refine ⟨?_, ⟨.inr (.inr ?_), .inr (.inr ?_), .inr (.inr ?_), .inr (.inr ?_), .inr (.inr ?_), .inr (.inr ?_), .inr (.inr ?_), .inl rfl, .inr (.inr ?_), trivial⟩, ?_⟩
  · intro ρ W cs hv hg hn
    refine run_store_row (U := #[.int .i64 o0, .int .i64 o1, .int .i64 o2]) 23 (.tmp 8) (.tmp 78) rfl ?_ ?_ hg hn Try.sizeOf23 (by simp [Value.oneCell'])
    · exact hv 8 (by simp [readsOf, Op.operands])
    · exact hv 78 (by simp [readsOf, Op.operands])
  · exact CalmT.mk 72 (.int .i64 n) rfl rfl rfl (fun W hW => calm_run (by have hc : W.cell? ⟨w.heap.size, 0, none⟩ = some (.int .i64 n) := (by rw [cell_of_row W _ 0 _ _ _ (by rw [hW.block _ jP (by omega)]; exact mP)]; rfl); simp [execOp, Act.eval, go_sem, hc]))
  · exact CalmT.mk 73 (ptV L0 L1 L2) rfl rfl rfl (fun W hW => calm_load (cs := #[.int .i64 L0, .int .i64 L1, .int .i64 L2]) (g := w3_.heap.size) (T := 24) (fr := (0, 0)) 24 (.tmp 11) rfl rfl (by rw [hW.block _ jL (by omega)]; exact mL) 3 rfl Try.sizeOf24 Try.isAgg24)
  · exact CalmT.mk 74 (.int .i64 n) rfl rfl rfl (fun W hW => calm_run (by have hc : W.cell? ⟨w.heap.size, 0, none⟩ = some (.int .i64 n) := (by rw [cell_of_row W _ 0 _ _ _ (by rw [hW.block _ jP (by omega)]; exact mP)]; rfl); simp [execOp, Act.eval, go_sem, hc]))
  · exact CalmT.mk 75 (ptV s0 s1 s2) rfl rfl rfl (fun W hW => calm_load (cs := #[.int .i64 s0, .int .i64 s1, .int .i64 s2]) (g := w6_.heap.size) (T := 23) (fr := (0, 0)) 23 (.tmp 14) rfl rfl (by rw [hW.block _ js (by omega)]; exact ms) 3 rfl Try.sizeOf23 Try.isAgg23)
  · exact CalmT.mk 76 (ptV u0 u1 u2) rfl rfl rfl (fun W hW => calm_load (cs := #[.int .i64 u0, .int .i64 u1, .int .i64 u2]) (g := gu) (T := 23) (fr := (0, 0)) 23 (.tmp 16) rfl rfl (by rw [hW.block _ ju (by omega)]; exact mu) 3 rfl Try.sizeOf23 Try.isAgg23)
  · exact CalmT.mk 77 (ptV e0 e1 e2) rfl rfl rfl (fun W hW => calm_call 101 _ #[.int .i64 n, ptV s0 s1 s2, ptV u0 u1 u2] rfl rfl rfl (by simp [Act.eval]) (Try.call101 _ _) (HJ13.out W))
  · exact CalmT.mk 78 (ptV o0 o1 o2) rfl rfl rfl (fun W hW => calm_call 105 _ #[.int .i64 n, ptV L0 L1 L2, ptV e0 e1 e2] rfl rfl rfl (by simp [Act.eval]) (Try.call105 _ _) (HX14.out W))
  · exact CalmT.mk 9 (.int .i64 0) rfl rfl rfl (fun W hW => calm_assign (.const (.int .i64 0)) rfl rfl)
  intro W4 hW4 hrow
  have f0 : W4.cell? ⟨w.heap.size + 1 + 1 + 1 + 1, 0, none⟩ = some (.int .i64 o0) := by rw [cell_of_row W4 _ 0 _ _ _ hrow]; rfl
  have f1 : W4.cell? ⟨w.heap.size + 1 + 1 + 1 + 1, 1, none⟩ = some (.int .i64 o1) := by rw [cell_of_row W4 _ 1 _ _ _ hrow]; rfl
  have f2 : W4.cell? ⟨w.heap.size + 1 + 1 + 1 + 1, 2, none⟩ = some (.int .i64 o2) := by rw [cell_of_row W4 _ 2 _ _ _ hrow]; rfl
  have HBf := hW4.below HBc (by omega) (by omega)
  go_wp2
  exact bodyPost_ret (v := .tuple #[ptV o0 o1 o2, .int .i64 0]) (by simp [results, Try.results42, go_sem, f0, f1, f2]) rfl ⟨rfl, HBf⟩
theorem QuadranglePoint_impl (p x0 y0 z0 x1 y1 z1 x2 y2 z2 : Int) (w : World) :
    Calls Try.prog 42 #[.int .i64 p, ptV x0 y0 z0, ptV x1 y1 z1, ptV x2 y2 z2] w (Ret w (.tuple #[ptV (quadR p (x0, y0, z0) (x1, y1, z1) (x2, y2, z2)).1.1 (quadR p (x0, y0, z0) (x1, y1, z1) (x2, y2, z2)).1.2.1 (quadR p (x0, y0, z0) (x1, y1, z1) (x2, y2, z2)).1.2.2, .int .i64 (quadR p (x0, y0, z0) (x1, y1, z1) (x2, y2, z2)).2])) := by
  by_cases hz : codeOf p (ptsB p [(x0, y0, z0), (x1, y1, z1), (x2, y2, z2)]) = 0
  · cases h3 : threeB p (x0, y0, z0) (x1, y1, z1) (x2, y2, z2) with
    | false => rw [quadR_three hz h3]; exact QuadranglePoint_impl_three p x0 y0 z0 x1 y1 z1 x2 y2 z2 w hz h3
    | true =>
      obtain ⟨n, rfl, L, R, S, s, V1, V2, t, V3, V4, u, V5, o, Q⟩ := quad_at hz h3
      rw [Q.eq]
      exact QuadranglePoint_impl_main n x0 y0 z0 x1 y1 z1 x2 y2 z2 L R S s V1 V2 t V3 V4 u V5 o w hz h3 Q
  · rw [quadR_no hz]; exact QuadranglePoint_impl_no p x0 y0 z0 x1 y1 z1 x2 y2 z2 w hz
end Go.Proofs.Ythkbhaaodegocaa
