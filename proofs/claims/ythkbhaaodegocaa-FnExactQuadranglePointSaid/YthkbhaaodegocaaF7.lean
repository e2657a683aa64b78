/- Contracts: the fourth harmonic point: the reference, walked. -/
import Derived.Test.YthkbhaaodegocaaF6
namespace Go.Proofs.Ythkbhaaodegocaa
open Go.RowKit
set_option linter.unusedVariables false
set_option linter.unusedSimpArgs false
set_option maxRecDepth 10000 in
theorem QuadranglePoint_spec_no (p x0 y0 z0 x1 y1 z1 x2 y2 z2 : Int) (w : World) (hz : codeOf p (ptsB p [(x0, y0, z0), (x1, y1, z1), (x2, y2, z2)]) ≠ 0) :
    Calls Try.prog 40 #[.int .i64 p, ptV x0 y0 z0, ptV x1 y1 z1, ptV x2 y2 z2] w (Ret w (.tuple #[ptV 0 0 0, .int .i64 (codeOf p (ptsB p [(x0, y0, z0), (x1, y1, z1), (x2, y2, z2)]))])) := by
  have HC := Lib.hid (fun (b : Nat) (W : World) hc => l01Code_any p b 0 3 3 [(x0, y0, z0), (x1, y1, z1), (x2, y2, z2)] W rfl (by omega) hc)
  have hz' := codeOf_ne hz
  generalize codeOf p (ptsB p [(x0, y0, z0), (x1, y1, z1), (x2, y2, z2)]) = c at *
  clear hz
  go_enter Try.func40, Try.ntmps40
  go_wp2_with (go_at_call 94; (with_reducible refine (HC.out _ _ (at3 _ _ _ _ _ _ _ _ _ _ _ _ (by simp))).mono ?_); rintro e w1_ ⟨rfl, hb1⟩; obtain ⟨hcb1, hfb1, hlb1⟩ := bcell hb1; have hsz1 := hb1.size; (try simp at hsz1); have HB1 := Lib.hid hb1; clear hb1; (try (have hl01 : w.heap.size < w1_.heap.size := by omega)); (try (have hl11 : w.heap.size + 1 < w1_.heap.size := by omega)); (try (have hl21 : w.heap.size + 1 + 1 < w1_.heap.size := by omega)); (try (have hl31 : w.heap.size + 1 + 1 + 1 < w1_.heap.size := by omega)))
  exact bodyPost_ret (v := .tuple #[ptV 0 0 0, .int .i64 c]) (by simp [results, Try.results40, go_sem, hcb1, hl01, hl11, hl21, hl31]) rfl ⟨rfl, (by repeat (first | exact Below.refl _ _ | refine bset ?_ _ _ (by omega) _ | refine bal ?_ _ | refine bdrN ?_ _ | refine bdr ?_ | refine below_tr' ?_ HB1.out))⟩
set_option maxRecDepth 10000 in
theorem QuadranglePoint_spec_three (p x0 y0 z0 x1 y1 z1 x2 y2 z2 : Int) (w : World) (hz : codeOf p (ptsB p [(x0, y0, z0), (x1, y1, z1), (x2, y2, z2)]) = 0) (h3 : threeB p (x0, y0, z0) (x1, y1, z1) (x2, y2, z2) = false) :
    Calls Try.prog 40 #[.int .i64 p, ptV x0 y0 z0, ptV x1 y1 z1, ptV x2 y2 z2] w (Ret w (.tuple #[ptV 0 0 0, .int .i64 5])) := by
  have HC := Lib.hid (fun (b : Nat) (W : World) hc => l01Code_any p b 0 3 3 [(x0, y0, z0), (x1, y1, z1), (x2, y2, z2)] W rfl (by omega) hc)
  obtain ⟨hp, hpts⟩ := code_zero hz
  simp only [ptsB, List.all_cons, List.all_nil, Bool.and_true, Bool.and_eq_true] at hpts
  obtain ⟨qa, qb, qc⟩ := hpts
  have HT := Lib.hid (fun (W : World) => l01Three_any p x0 y0 z0 x1 y1 z1 x2 y2 z2 W hp (in13' qa) (in13' qb) (in13' qc))
  rw [hz] at HC
  rw [h3] at HT
  clear hz hp qa qb qc h3
  go_enter Try.func40, Try.ntmps40
  go_wp2_with (first
    | (go_at_call 94; (with_reducible refine (HC.out _ _ (at3 _ _ _ _ _ _ _ _ _ _ _ _ (by simp))).mono ?_); rintro e w1_ ⟨rfl, hb1⟩; obtain ⟨hcb1, hfb1, hlb1⟩ := bcell hb1; have hsz1 := hb1.size; (try simp at hsz1); have HB1 := Lib.hid hb1; clear hb1; (try (have hl01 : w.heap.size < w1_.heap.size := by omega)); (try (have hl11 : w.heap.size + 1 < w1_.heap.size := by omega)); (try (have hl21 : w.heap.size + 1 + 1 < w1_.heap.size := by omega)); (try (have hl31 : w.heap.size + 1 + 1 + 1 < w1_.heap.size := by omega)))
    | (go_at_call 95; (with_reducible refine (HT.out _).mono ?_); rintro e w2_ ⟨rfl, hb2⟩; obtain ⟨hcb2, hfb2, hlb2⟩ := bcell hb2; have hsz2 := hb2.size; (try simp at hsz2); have HB2 := Lib.hid hb2; clear hb2; (try (have hl02 : w.heap.size < w2_.heap.size := by omega)); (try (have hl12 : w.heap.size + 1 < w2_.heap.size := by omega)); (try (have hl22 : w.heap.size + 1 + 1 < w2_.heap.size := by omega)); (try (have hl32 : w.heap.size + 1 + 1 + 1 < w2_.heap.size := by omega))))
  exact bodyPost_ret (v := .tuple #[ptV 0 0 0, .int .i64 5]) (by simp [results, Try.results40, go_sem, hcb1, hl01, hl11, hl21, hl31, hcb2, hl02, hl12, hl22, hl32]) rfl ⟨rfl, (by repeat (first | exact Below.refl _ _ | refine bset ?_ _ _ (by omega) _ | refine bal ?_ _ | refine bdrN ?_ _ | refine bdr ?_ | refine below_tr' ?_ HB2.out | refine below_tr' ?_ HB1.out))⟩
set_option maxRecDepth 10000 in
set_option maxHeartbeats 4000000 in
theorem QuadranglePoint_spec_main (n : Nat) (x0 y0 z0 x1 y1 z1 x2 y2 z2 : Int) (L R S s V1 V2 t V3 V4 u V5 o : Pt) (w : World) (hz : codeOf n (ptsB n [(x0, y0, z0), (x1, y1, z1), (x2, y2, z2)]) = 0) (h3 : threeB n (x0, y0, z0) (x1, y1, z1) (x2, y2, z2) = true)
    (Q : QuadAt n (x0, y0, z0) (x1, y1, z1) (x2, y2, z2) L R S s V1 V2 t V3 V4 u V5 o) :
    Calls Try.prog 40 #[.int .i64 (n : Int), ptV x0 y0 z0, ptV x1 y1 z1, ptV x2 y2 z2] w (Ret w (.tuple #[ptV o.1 o.2.1 o.2.2, .int .i64 0])) := by
  have HC := Lib.hid (fun (b : Nat) (W : World) hc => l01Code_any n b 0 3 3 [(x0, y0, z0), (x1, y1, z1), (x2, y2, z2)] W rfl (by omega) hc)
  have HT := Lib.hid (fun (W : World) => l01Three_any n x0 y0 z0 x1 y1 z1 x2 y2 z2 W Q.hp Q.iA Q.iB Q.iC)
  rw [hz] at HC
  rw [h3] at HT
  clear hz h3
  obtain ⟨L0, L1, L2⟩ := L
  obtain ⟨R0, R1, R2⟩ := R
  obtain ⟨S0, S1, S2⟩ := S
  obtain ⟨s0, s1, s2⟩ := s
  obtain ⟨a0, a1, a2⟩ := V1
  obtain ⟨b0, b1, b2⟩ := V2
  obtain ⟨t0, t1, t2⟩ := t
  obtain ⟨c0, c1, c2⟩ := V3
  obtain ⟨d0, d1, d2⟩ := V4
  obtain ⟨u0, u1, u2⟩ := u
  obtain ⟨e0, e1, e2⟩ := V5
  obtain ⟨o0, o1, o2⟩ := o
  have HJ3 := Lib.hid (fun (W : World) => l01Join_crs n x0 y0 z0 x1 y1 z1 W Q.hp Q.iA Q.iB)
  have HP4 := Lib.hid (fun (W : World) => l01Points_any n W Q.n3)
  have HO := Lib.hid (fun (x y z : Int) (W : World) (ha : In13 (x, y, z)) => l01On_any n x y z L0 L1 L2 W Q.hp ha Q.iL)
  have HJ5 := Lib.hid (fun (W : World) => l01Join_crs n x0 y0 z0 R0 R1 R2 W Q.hp Q.iA Q.iR)
  have HP6 := Lib.hid (fun (W : World) => l01PointsOn_any n S0 S1 S2 W Q.hp Q.iS)
  have HJ7 := Lib.hid (fun (W : World) => l01Join_crs n x1 y1 z1 s0 s1 s2 W Q.hp Q.iB Q.is)
  have HJ8 := Lib.hid (fun (W : World) => l01Join_crs n x2 y2 z2 R0 R1 R2 W Q.hp Q.iC Q.iR)
  have HX9 := Lib.hid (fun (W : World) => l01Meet_crs n a0 a1 a2 b0 b1 b2 W Q.hp Q.i1 Q.i2)
  have HJ10 := Lib.hid (fun (W : World) => l01Join_crs n x1 y1 z1 R0 R1 R2 W Q.hp Q.iB Q.iR)
  have HJ11 := Lib.hid (fun (W : World) => l01Join_crs n x0 y0 z0 t0 t1 t2 W Q.hp Q.iA Q.it)
  have HX12 := Lib.hid (fun (W : World) => l01Meet_crs n c0 c1 c2 d0 d1 d2 W Q.hp Q.i3 Q.i4)
  have HJ13 := Lib.hid (fun (W : World) => l01Join_crs n s0 s1 s2 u0 u1 u2 W Q.hp Q.is Q.iu)
  have HX14 := Lib.hid (fun (W : World) => l01Meet_crs n L0 L1 L2 e0 e1 e2 W Q.hp Q.iL Q.i5)
  have HQ := Lib.hid Q
  rw [Q.eL] at HJ3
  rw [Q.eS] at HJ5
  rw [Q.e1] at HJ7
  rw [Q.e2] at HJ8
  rw [Q.et] at HX9
  rw [Q.e3] at HJ10
  rw [Q.e4] at HJ11
  rw [Q.eu] at HX12
  rw [Q.e5] at HJ13
  rw [Q.eo] at HX14
  simp only at HJ3 HJ5 HJ7 HJ8 HX9 HJ10 HJ11 HX12 HJ13 HX14
  clear Q
  generalize okC (n : Int) _ _ = k3 at HJ3
  generalize okC (n : Int) _ _ = k5 at HJ5
  generalize okC (n : Int) _ _ = k7 at HJ7
  generalize okC (n : Int) _ _ = k8 at HJ8
  generalize okC (n : Int) _ _ = k9 at HX9
  generalize okC (n : Int) _ _ = k10 at HJ10
  generalize okC (n : Int) _ _ = k11 at HJ11
  generalize okC (n : Int) _ _ = k12 at HX12
  generalize okC (n : Int) _ _ = k13 at HJ13
  generalize okC (n : Int) _ _ = k14 at HX14
  have HIn := Lib.hid (allP_in (n := n) HQ.out.n3.2)
  have HLen : (allP n).length ≤ 183 := by rw [allP_length]; have : n * n ≤ 13 * 13 := Nat.mul_le_mul HQ.out.n3.2 HQ.out.n3.2; have := HQ.out.n3.2; omega
  have HPos : 0 < (allP n).length := by rw [allP_length]; omega
  go_enter Try.func40, Try.ntmps40
  go_wp2_with (first
    | (go_at_call 94; (with_reducible refine (HC.out _ _ (at3 _ _ _ _ _ _ _ _ _ _ _ _ (by simp))).mono ?_); rintro e w1_ ⟨rfl, hb1⟩; obtain ⟨hcb1, hfb1, hlb1⟩ := bcell hb1; have hsz1 := hb1.size; (try simp at hsz1); have HB1 := Lib.hid hb1; clear hb1; (try (have hl01 : w.heap.size < w1_.heap.size := by omega)); (try (have hl11 : w.heap.size + 1 < w1_.heap.size := by omega)); (try (have hl21 : w.heap.size + 1 + 1 < w1_.heap.size := by omega)); (try (have hl31 : w.heap.size + 1 + 1 + 1 < w1_.heap.size := by omega)))
    | (go_at_call 95; (with_reducible refine (HT.out _).mono ?_); rintro e w2_ ⟨rfl, hb2⟩; obtain ⟨hcb2, hfb2, hlb2⟩ := bcell hb2; have hsz2 := hb2.size; (try simp at hsz2); have HB2 := Lib.hid hb2; clear hb2; (try (have hl02 : w.heap.size < w2_.heap.size := by omega)); (try (have hl12 : w.heap.size + 1 < w2_.heap.size := by omega)); (try (have hl22 : w.heap.size + 1 + 1 < w2_.heap.size := by omega)); (try (have hl32 : w.heap.size + 1 + 1 + 1 < w2_.heap.size := by omega)))
    | (go_at_call 96; (with_reducible refine (HJ3.out _).mono ?_); rintro e w3_ ⟨rfl, hb3⟩; obtain ⟨hcb3, hfb3, hlb3⟩ := bcell hb3; have hsz3 := hb3.size; (try simp at hsz3); have HB3 := Lib.hid hb3; clear hb3; (try (have hl03 : w.heap.size < w3_.heap.size := by omega)); (try (have hl13 : w.heap.size + 1 < w3_.heap.size := by omega)); (try (have hl23 : w.heap.size + 1 + 1 < w3_.heap.size := by omega)); (try (have hl33 : w.heap.size + 1 + 1 + 1 < w3_.heap.size := by omega)))
    | (go_at_call 69; refine (HP4.out _).mono ?_; rintro e w4_ ⟨v, rfl, ho, hb⟩; obtain ⟨g, cap, rfl, hg0, hg1, hpt⟩ := ownPts ho rfl HPos; have HB4 := Lib.hid hb; have HP4b := Lib.hid hpt; have hsz4 := hb.size; (try simp at hsz4); clear hb hpt ho))
  have bA : w4_.heap[w.heap.size]? = some (.cells #[.int .i64 x0, .int .i64 y0, .int .i64 z0] 23 (0, 0)) := by rw [HB4.out.block _ (by first | omega | (simp; done) | (simp; omega)), hn_past' _ _ _ (by first | omega | (simp; done) | (simp; omega)), HB3.out.block _ (by first | omega | (simp; done) | (simp; omega)), HB2.out.block _ (by first | omega | (simp; done) | (simp; omega)), HB1.out.block _ (by first | omega | (simp; done) | (simp; omega)), hn_past' _ _ _ (by first | omega | (simp; done) | (simp; omega)), hn_past' _ _ _ (by first | omega | (simp; done) | (simp; omega)), hn_past' _ _ _ (by first | omega | (simp; done) | (simp; omega)), hn_past' _ _ _ (by first | omega | (simp; done) | (simp; omega)), hn_at' _ _ _ (by simp)]
  have bB : w4_.heap[w.heap.size + 1]? = some (.cells #[.int .i64 x1, .int .i64 y1, .int .i64 z1] 23 (0, 0)) := by rw [HB4.out.block _ (by first | omega | (simp; done) | (simp; omega)), hn_past' _ _ _ (by first | omega | (simp; done) | (simp; omega)), HB3.out.block _ (by first | omega | (simp; done) | (simp; omega)), HB2.out.block _ (by first | omega | (simp; done) | (simp; omega)), HB1.out.block _ (by first | omega | (simp; done) | (simp; omega)), hn_past' _ _ _ (by first | omega | (simp; done) | (simp; omega)), hn_past' _ _ _ (by first | omega | (simp; done) | (simp; omega)), hn_past' _ _ _ (by first | omega | (simp; done) | (simp; omega)), hn_at' _ _ _ (by simp)]
  have bC : w4_.heap[w.heap.size + 1 + 1]? = some (.cells #[.int .i64 x2, .int .i64 y2, .int .i64 z2] 23 (0, 0)) := by rw [HB4.out.block _ (by first | omega | (simp; done) | (simp; omega)), hn_past' _ _ _ (by first | omega | (simp; done) | (simp; omega)), HB3.out.block _ (by first | omega | (simp; done) | (simp; omega)), HB2.out.block _ (by first | omega | (simp; done) | (simp; omega)), HB1.out.block _ (by first | omega | (simp; done) | (simp; omega)), hn_past' _ _ _ (by first | omega | (simp; done) | (simp; omega)), hn_past' _ _ _ (by first | omega | (simp; done) | (simp; omega)), hn_at' _ _ _ (by simp)]
  have bZ : w4_.heap[w.heap.size + 1 + 1 + 1]? = some (.cells #[.int .i64 0, .int .i64 0, .int .i64 0] 23 (0, 0)) := by rw [HB4.out.block _ (by first | omega | (simp; done) | (simp; omega)), hn_past' _ _ _ (by first | omega | (simp; done) | (simp; omega)), HB3.out.block _ (by first | omega | (simp; done) | (simp; omega)), HB2.out.block _ (by first | omega | (simp; done) | (simp; omega)), HB1.out.block _ (by first | omega | (simp; done) | (simp; omega)), hn_past' _ _ _ (by first | omega | (simp; done) | (simp; omega)), hn_at' _ _ _ (by simp)]
  have bL : w4_.heap[w3_.heap.size]? = some (.cells #[.int .i64 L0, .int .i64 L1, .int .i64 L2] 24 (0, 0)) := by rw [HB4.out.block _ (by first | omega | (simp; done) | (simp; omega)), hn_at' _ _ _ (by simp)]
  have HBw : Below w.heap.size w w4_ := (by repeat (first | exact Below.refl _ _ | refine bset ?_ _ _ (by omega) _ | refine bal ?_ _ | refine bdrN ?_ _ | refine bdr ?_ | refine below_tr' ?_ HB4.out | refine below_tr' ?_ HB3.out | refine below_tr' ?_ HB2.out | refine below_tr' ?_ HB1.out))
  have lA := (Array.getElem?_eq_some_iff.1 bA).1
  have lB := (Array.getElem?_eq_some_iff.1 bB).1
  have lC := (Array.getElem?_eq_some_iff.1 bC).1
  have lZ := (Array.getElem?_eq_some_iff.1 bZ).1
  have lL := (Array.getElem?_eq_some_iff.1 bL).1
  have hg1w : w.heap.size ≤ g := by have := HB3.out.size; have := HB2.out.size; have := HB1.out.size; simp at *; omega
  clear hcb1 hfb1 hlb1 hcb2 hfb2 hlb2 hcb3 hfb3 hlb3 HB4 HB3 HB2 HB1 HC HT HJ3 HP4
  have HPa := HP4b
  clear HP4b
  go_loopw [14] (fun i wr => ∃ k : Nat, k ≤ (allP n).length ∧ i = .int .i64 k ∧ Hid (∀ a ∈ (allP n).take k, (!onB (n : Int) a (L0, L1, L2)) = false) ∧ Hid (Below w4_.heap.size w4_ wr)) (fun i wr => (allP n).length - (intOf i).toNat)
  case atStart => exact ⟨0, Nat.zero_le _, rfl, Lib.hid (by simp), Lib.hid (Below.refl _ _)⟩
  case round =>
    obtain ⟨k, hk, rfl, HT, HB⟩ := hrel
    have hlt : k < (allP n).length := by
      rcases Nat.lt_or_ge k (allP n).length with h | h
      · exact h
      · exfalso
        obtain ⟨x, hx, h2⟩ := HQ.out.offL
        have := HT.out x (by rw [List.take_of_length_le h]; exact hx)
        rw [h2] at this; cases this
    have HPk := HPa.out k hlt
    have hmem : (allP n).getD k (0, 0, 0) ∈ allP n := by simp [List.getD, hlt]
    have HInk : In13 ((allP n).getD k (0, 0, 0)) := HIn.out _ hmem
    have hHd := Lib.hid (fun h => head_at (f := fun a => !onB (n : Int) a (L0, L1, L2)) HT.out hlt h)
    have hNx := Lib.hid (take_snoc' (allP n) (0, 0, 0) k hlt)
    generalize hall : (allP n).length = N at *
    generalize (allP n).getD k (0, 0, 0) = a at *
    obtain ⟨x, y, z⟩ := a
    obtain ⟨q0, q1, q2⟩ := HPk
    simp only [Nat.zero_add] at q0 q1 q2
    have HOk := Lib.hid (fun (W : World) => HO.out x y z W HInk)
    go_wp2
    refine region_calm [(62, .int .i64 n), (63, .slice (some ⟨g, 0, none⟩) N cap), (64, .int .i64 k), (65, .pointer (some ⟨g, k * 3, none⟩)), (66, ptV x y z), (67, ptV L0 L1 L2), (68, .bool (onB n (x, y, z) (L0, L1, L2)))] (by kernel_rfl) (by kernel_rfl) (by kernel_rfl) (fun aE hpe => ?_)
    simp only [puts, Act.put, List.setIfInBounds_toArray, List.set_cons_zero, List.set_cons_succ] at hpe
    subst hpe
    refine ⟨⟨.inr (.inr ?_), .inr (.inr ?_), .inr (.inr ?_), .inr (.inr ?_), .inr (.inr ?_), .inr (.inr ?_), .inr (.inr ?_), trivial⟩, ?_⟩
    · exact Calm.mk 62 (.int .i64 n) rfl rfl (fun W _ => calm_move (.tmp 0) rfl rfl)
    · exact Calm.mk 63 (.slice (some ⟨g, 0, none⟩) N cap) rfl rfl (fun W _ => calm_move (.tmp 13) rfl rfl)
    · exact Calm.mk 64 (.int .i64 k) rfl rfl (fun W _ => calm_move (.tmp 14) rfl rfl)
    · exact Calm.mk 65 (.pointer (some ⟨g, k * 3, none⟩)) rfl rfl (fun W _ => calm_run (by simp [execOp, Act.eval, go_sem, hlt]))
    · exact Calm.mk 66 (ptV x y z) rfl rfl (fun W hW => calm_loadPt 23 (.tmp 65) rfl rfl (cell_below hW (cell_below HB.out q0)) (cell_below hW (cell_below HB.out q1)) (cell_below hW (cell_below HB.out q2)) Try.sizeOf23 Try.isAgg23)
    · exact Calm.mk 67 (ptV L0 L1 L2) rfl rfl (fun W hW => calm_load (cs := #[.int .i64 L0, .int .i64 L1, .int .i64 L2]) (g := w3_.heap.size) (T := 24) (fr := (0, 0)) 24 (.tmp 11) rfl rfl (by rw [hW.block _ (Nat.lt_of_lt_of_le lL HB.out.size), HB.out.block _ lL]; exact bL) 3 rfl Try.sizeOf24 Try.isAgg24)
    · exact Calm.mk 68 (.bool (onB n (x, y, z) (L0, L1, L2))) rfl rfl (fun W hW => calm_call 70 _ #[.int .i64 n, ptV x y z, ptV L0 L1 L2] rfl rfl rfl (by simp [Act.eval]) (Try.call70 _ _) (HOk.out W))
    intro W2 hW2
    have HB2 := Lib.hid (low_tr' HB.out hW2 HB.out.size)
    cases hb : onB (n : Int) (x, y, z) (L0, L1, L2) with
    | true =>
      have HT2 : Hid (∀ a ∈ (allP n).take (k + 1), (!onB (n : Int) a (L0, L1, L2)) = false) := Lib.hid (by
        rw [hNx.out]
        intro a ha
        rcases List.mem_append.1 ha with h | h
        · exact HT.out a h
        · rw [List.mem_singleton.1 h, hb]; rfl)
      clear HT hNx hHd hW2 HB hmem hb
      go_wp2
      go_roundw
      case rel => exact ⟨k + 1, by omega, by go_num, HT2, HB2⟩
      case measure => simp [intOf]; omega
    | false =>
      have hR := hHd.out (by rw [hb]; rfl)
      rw [HQ.out.eR] at hR
      obtain ⟨rfl, rfl, rfl⟩ : x = R0 ∧ y = R1 ∧ z = R2 := by simpa using hR.symm
      have mA : W2.heap[w.heap.size]? = some (.cells #[.int .i64 x0, .int .i64 y0, .int .i64 z0] 23 (0, 0)) := by rw [HB2.out.block _ lA]; exact bA
      have mB : W2.heap[w.heap.size + 1]? = some (.cells #[.int .i64 x1, .int .i64 y1, .int .i64 z1] 23 (0, 0)) := by rw [HB2.out.block _ lB]; exact bB
      have mC : W2.heap[w.heap.size + 1 + 1]? = some (.cells #[.int .i64 x2, .int .i64 y2, .int .i64 z2] 23 (0, 0)) := by rw [HB2.out.block _ lC]; exact bC
      have mZ : W2.heap[w.heap.size + 1 + 1 + 1]? = some (.cells #[.int .i64 0, .int .i64 0, .int .i64 0] 23 (0, 0)) := by rw [HB2.out.block _ lZ]; exact bZ
      have mL : W2.heap[w3_.heap.size]? = some (.cells #[.int .i64 L0, .int .i64 L1, .int .i64 L2] 24 (0, 0)) := by rw [HB2.out.block _ lL]; exact bL
      obtain ⟨nA0, nA1, nA2, nAl, nAf0, nAf1, nAf2⟩ := rows3 mA
      obtain ⟨nB0, nB1, nB2, nBl, nBf0, nBf1, nBf2⟩ := rows3 mB
      obtain ⟨nC0, nC1, nC2, nCl, nCf0, nCf1, nCf2⟩ := rows3 mC
      obtain ⟨nZ0, nZ1, nZ2, nZl, nZf0, nZf1, nZf2⟩ := rows3 mZ
      obtain ⟨nL0, nL1, nL2, nLl, nLf0, nLf1, nLf2⟩ := rows3 mL
      have p0 := cell_below hW2 (cell_below HB.out q0)
      have p1 := cell_below hW2 (cell_below HB.out q1)
      have p2 := cell_below hW2 (cell_below HB.out q2)
      have gl2 : g < W2.heap.size := Nat.lt_of_lt_of_le hg1 HB2.out.size
      have HLen2 : 0 < ((allP n).filter (fun a => onB (n : Int) a (S0, S1, S2))).length := by
        obtain ⟨q, hq, h1, _⟩ := HQ.out.onS
        exact List.length_pos_of_mem (List.mem_filter.2 ⟨hq, h1⟩)
      have HLe2 : ((allP n).filter (fun a => onB (n : Int) a (S0, S1, S2))).length ≤ N := by rw [← hall]; exact List.length_filter_le _ _
      have HRi : In13 (x, y, z) := HInk
      clear HT hNx hHd hW2 HB HOk HO hmem hb hR q0 q1 q2 bA bB bC bZ bL lA lB lC lZ lL hg0 hg1 HPa HInk
      go_wp2_with (first
        | (go_at_call 96; (with_reducible refine (HJ5.out _).mono ?_); rintro e w5_ ⟨rfl, hb5⟩; obtain ⟨hcb5, hfb5, hlb5⟩ := bcell hb5; have hsz5 := hb5.size; (try simp at hsz5); have HB5 := Lib.hid hb5; clear hb5; (try (have hl05 : w.heap.size < w5_.heap.size := by omega)); (try (have hl15 : w.heap.size + 1 < w5_.heap.size := by omega)); (try (have hl25 : w.heap.size + 1 + 1 < w5_.heap.size := by omega)); (try (have hl35 : w.heap.size + 1 + 1 + 1 < w5_.heap.size := by omega)); (try (have hl05_1 : w3_.heap.size < w5_.heap.size := by omega)))
        | (go_at_call 97; refine (HP6.out _).mono ?_; rintro e w6_ ⟨v, rfl, ho, hb⟩; obtain ⟨g2, cap2, rfl, hg2, hg3, hpt2⟩ := ownPts ho rfl HLen2; have HB6 := Lib.hid hb; have HP6b := Lib.hid hpt2; have hsz6 := hb.size; (try simp at hsz6); clear hb hpt2 ho))
      have bA : w6_.heap[w.heap.size]? = some (.cells #[.int .i64 x0, .int .i64 y0, .int .i64 z0] 23 (0, 0)) := by rw [HB6.out.block _ (by first | omega | (simp; done) | (simp; omega)), hn_past' _ _ _ (by first | omega | (simp; done) | (simp; omega)), HB5.out.block _ (by first | omega | (simp; done) | (simp; omega)), hn_past' _ _ _ (by first | omega | (simp; done) | (simp; omega))]; exact mA
      have bB : w6_.heap[w.heap.size + 1]? = some (.cells #[.int .i64 x1, .int .i64 y1, .int .i64 z1] 23 (0, 0)) := by rw [HB6.out.block _ (by first | omega | (simp; done) | (simp; omega)), hn_past' _ _ _ (by first | omega | (simp; done) | (simp; omega)), HB5.out.block _ (by first | omega | (simp; done) | (simp; omega)), hn_past' _ _ _ (by first | omega | (simp; done) | (simp; omega))]; exact mB
      have bC : w6_.heap[w.heap.size + 1 + 1]? = some (.cells #[.int .i64 x2, .int .i64 y2, .int .i64 z2] 23 (0, 0)) := by rw [HB6.out.block _ (by first | omega | (simp; done) | (simp; omega)), hn_past' _ _ _ (by first | omega | (simp; done) | (simp; omega)), HB5.out.block _ (by first | omega | (simp; done) | (simp; omega)), hn_past' _ _ _ (by first | omega | (simp; done) | (simp; omega))]; exact mC
      have bZ : w6_.heap[w.heap.size + 1 + 1 + 1]? = some (.cells #[.int .i64 0, .int .i64 0, .int .i64 0] 23 (0, 0)) := by rw [HB6.out.block _ (by first | omega | (simp; done) | (simp; omega)), hn_past' _ _ _ (by first | omega | (simp; done) | (simp; omega)), HB5.out.block _ (by first | omega | (simp; done) | (simp; omega)), hn_past' _ _ _ (by first | omega | (simp; done) | (simp; omega))]; exact mZ
      have bL : w6_.heap[w3_.heap.size]? = some (.cells #[.int .i64 L0, .int .i64 L1, .int .i64 L2] 24 (0, 0)) := by rw [HB6.out.block _ (by first | omega | (simp; done) | (simp; omega)), hn_past' _ _ _ (by first | omega | (simp; done) | (simp; omega)), HB5.out.block _ (by first | omega | (simp; done) | (simp; omega)), hn_past' _ _ _ (by first | omega | (simp; done) | (simp; omega))]; exact mL
      have bR : w6_.heap[W2.heap.size]? = some (.cells #[.int .i64 x, .int .i64 y, .int .i64 z] 23 (0, 0)) := by rw [HB6.out.block _ (by first | omega | (simp; done) | (simp; omega)), hn_past' _ _ _ (by first | omega | (simp; done) | (simp; omega)), HB5.out.block _ (by first | omega | (simp; done) | (simp; omega)), hn_at' _ _ _ (by simp)]
      have lA := (Array.getElem?_eq_some_iff.1 bA).1
      have lB := (Array.getElem?_eq_some_iff.1 bB).1
      have lC := (Array.getElem?_eq_some_iff.1 bC).1
      have lZ := (Array.getElem?_eq_some_iff.1 bZ).1
      have lL := (Array.getElem?_eq_some_iff.1 bL).1
      have lR := (Array.getElem?_eq_some_iff.1 bR).1
      have HBa : Below W2.heap.size W2 w6_ := (by repeat (first | exact Below.refl _ _ | refine bset ?_ _ _ (by omega) _ | refine bal ?_ _ | refine bdrN ?_ _ | refine bdr ?_ | refine below_tr' ?_ HB6.out | refine below_tr' ?_ HB5.out))
      have HBv : Below w.heap.size w w6_ := low_tr' (low_tr' HBw HB2.out (by omega)) HBa (by omega)
      clear hcb5 hfb5 hlb5 HB5 HB6 HB2 HBw HBa HJ5 HP6 mA nA0 nA1 nA2 nAl nAf0 nAf1 nAf2 mB nB0 nB1 nB2 nBl nBf0 nBf1 nBf2 mC nC0 nC1 nC2 nCl nCf0 nCf1 nCf2 mZ nZ0 nZ1 nZ2 nZl nZf0 nZf1 nZf2 mL nL0 nL1 nL2 nLl nLf0 nLf1 nLf2 p0 p1 p2
      have HE2 := Lib.hid (head_two HQ.out.es)
      have HOn := Lib.hid (show ∃ q ∈ (allP n).filter (fun a => onB (n : Int) a (S0, S1, S2)), q ≠ (x0, y0, z0) ∧ q ≠ (x, y, z) by
        obtain ⟨q, hq, h1, h2⟩ := HQ.out.onS
        exact ⟨q, List.mem_filter.2 ⟨hq, h1⟩, h2⟩)
      have hFi : ∀ a ∈ (allP n).filter (fun a => onB (n : Int) a (S0, S1, S2)), In13 a := fun a ha => HIn.out a (List.mem_filter.1 ha).1
      have HFi := Lib.hid hFi
      clear hFi
      generalize (allP n).filter (fun a => onB (n : Int) a (S0, S1, S2)) = F at *
      go_loopw [14] (fun i wr => ∃ k : Nat, k ≤ F.length ∧ i = .int .i64 k ∧ Hid (∀ a ∈ F.take k, (!eqP a (x0, y0, z0) && !eqP a (x, y, z)) = false) ∧ Hid (Below w6_.heap.size w6_ wr)) (fun i wr => F.length - (intOf i).toNat)
      case atStart => exact ⟨0, Nat.zero_le _, rfl, Lib.hid (by simp), Lib.hid (Below.refl _ _)⟩
      case round =>
        clear hk hlt
        obtain ⟨k2, hk, rfl, HT, HB⟩ := hrel
        have hlt : k2 < F.length := by
          rcases Nat.lt_or_ge k2 F.length with h | h
          · exact h
          · exfalso
            obtain ⟨q, hq, h2, h3⟩ := HOn.out
            have := HT.out q (by rw [List.take_of_length_le h]; exact hq)
            have e2 : eqP q (x0, y0, z0) = false := by cases e : eqP q (x0, y0, z0) with | false => rfl | true => exact (h2 (eqP_iff.1 e)).elim
            have e3 : eqP q (x, y, z) = false := by cases e : eqP q (x, y, z) with | false => rfl | true => exact (h3 (eqP_iff.1 e)).elim
            rw [e2, e3] at this; cases this
        have HPk := HP6b.out k2 hlt
        have hmem : F.getD k2 (0, 0, 0) ∈ F := by simp [List.getD, hlt]
        have HInk : In13 (F.getD k2 (0, 0, 0)) := HFi.out _ hmem
        have hHd := Lib.hid (fun h => head_at (f := fun a => !eqP a (x0, y0, z0) && !eqP a (x, y, z)) HT.out hlt h)
        have hNx := Lib.hid (take_snoc' F (0, 0, 0) k2 hlt)
        generalize hN2 : F.length = N2 at *
        generalize F.getD k2 (0, 0, 0) = a at *
        obtain ⟨xs, ys, zs⟩ := a
        obtain ⟨q0, q1, q2⟩ := HPk
        simp only [Nat.zero_add] at q0 q1 q2
        go_wp2
        cases h1 : eqP (xs, ys, zs) (x0, y0, z0) with
        | true =>
          refine region_calmG [(85, .slice (some ⟨g2, 0, none⟩) N2 cap2), (86, .int .i64 k2), (87, .pointer (some ⟨g2, k2 * 3, none⟩)), (88, ptV xs ys zs), (89, ptV x0 y0 z0), (90, .bool true), (91, .bool true), (92, undef), (93, undef), (94, undef), (95, undef), (96, undef), (97, undef), (98, .bool true)] (by kernel_rfl) (by kernel_rfl) (by kernel_rfl) (fun aE hpe => ?_)
          simp only [puts, Act.put, List.setIfInBounds_toArray, List.set_cons_zero, List.set_cons_succ] at hpe
          subst hpe
          refine ⟨⟨.inr (.inr ?_), .inr (.inr ?_), .inr (.inr ?_), .inr (.inr ?_), .inr (.inr ?_), .inr (.inr ?_), .inr (.inr ?_), .inr (.inr ?_), .inr (.inr ?_), .inr (.inr ?_), .inr (.inr ?_), .inr (.inr ?_), .inr (.inr ?_), .inr (.inr ?_), trivial⟩, ?_⟩
          · exact CalmG.mk 85 (.slice (some ⟨g2, 0, none⟩) N2 cap2) rfl rfl rfl (fun W hW => calm_move (.tmp 18) rfl rfl)
          · exact CalmG.mk 86 (.int .i64 k2) rfl rfl rfl (fun W hW => calm_move (.tmp 14) rfl rfl)
          · exact CalmG.mk 87 (.pointer (some ⟨g2, k2 * 3, none⟩)) rfl rfl rfl (fun W hW => calm_run (by simp [execOp, Act.eval, go_sem, hlt]))
          · exact CalmG.mk 88 (ptV xs ys zs) rfl rfl rfl (fun W hW => calm_loadPt 23 (.tmp 87) rfl rfl (cell_below hW (cell_below HB.out q0)) (cell_below hW (cell_below HB.out q1)) (cell_below hW (cell_below HB.out q2)) Try.sizeOf23 Try.isAgg23)
          · exact CalmG.mk 89 (ptV x0 y0 z0) rfl rfl rfl (fun W hW => calm_load (cs := #[.int .i64 x0, .int .i64 y0, .int .i64 z0]) (g := w.heap.size) (T := 23) (fr := (0, 0)) 23 (.tmp 5) rfl rfl (by rw [hW.block _ (Nat.lt_of_lt_of_le lA HB.out.size), HB.out.block _ lA]; exact bA) 3 rfl Try.sizeOf23 Try.isAgg23)
          · exact CalmG.mk 90 (.bool true) rfl rfl rfl (fun W hW => calm_eqPo (.tmp 88) (.tmp 89) rfl rfl rfl h1)
          · exact CalmG.mk 91 (.bool true) rfl rfl rfl (fun W hW => calm_move (.tmp 90) rfl rfl)
          · exact CalmG.out 92 rfl rfl rfl
          · exact CalmG.out 93 rfl rfl rfl
          · exact CalmG.out 94 rfl rfl rfl
          · exact CalmG.out 95 rfl rfl rfl
          · exact CalmG.out 96 rfl rfl rfl
          · exact CalmG.out 97 rfl rfl rfl
          · exact CalmG.mk 98 (.bool true) rfl rfl rfl (fun W hW => calm_pick' (.tmp 91) (.const (.bool true)) (.tmp 97) rfl rfl rfl)
          intro W3 hW3
          have HB3 := Lib.hid (low_tr' HB.out hW3 HB.out.size)
          have HT2 : Hid (∀ a ∈ F.take (k2 + 1), (!eqP a (x0, y0, z0) && !eqP a (x, y, z)) = false) := Lib.hid (by
            rw [hNx.out]
            intro a ha
            rcases List.mem_append.1 ha with h | h
            · exact HT.out a h
            · rw [List.mem_singleton.1 h, h1]; rfl)
          clear HT hNx hHd hW3 HB hmem h1
          go_wp2
          go_roundw
          case rel => exact ⟨k2 + 1, by omega, by go_num, HT2, HB3⟩
          case measure => simp [intOf]; omega
        | false =>
          cases h2 : eqP (xs, ys, zs) (x, y, z) with
          | true =>
            refine region_calmG [(85, .slice (some ⟨g2, 0, none⟩) N2 cap2), (86, .int .i64 k2), (87, .pointer (some ⟨g2, k2 * 3, none⟩)), (88, ptV xs ys zs), (89, ptV x0 y0 z0), (90, .bool false), (91, .bool false), (92, .slice (some ⟨g2, 0, none⟩) N2 cap2), (93, .int .i64 k2), (94, .pointer (some ⟨g2, k2 * 3, none⟩)), (95, ptV xs ys zs), (96, ptV x y z), (97, .bool true), (98, .bool true)] (by kernel_rfl) (by kernel_rfl) (by kernel_rfl) (fun aE hpe => ?_)
            simp only [puts, Act.put, List.setIfInBounds_toArray, List.set_cons_zero, List.set_cons_succ] at hpe
            subst hpe
            refine ⟨⟨.inr (.inr ?_), .inr (.inr ?_), .inr (.inr ?_), .inr (.inr ?_), .inr (.inr ?_), .inr (.inr ?_), .inr (.inr ?_), .inr (.inr ?_), .inr (.inr ?_), .inr (.inr ?_), .inr (.inr ?_), .inr (.inr ?_), .inr (.inr ?_), .inr (.inr ?_), trivial⟩, ?_⟩
            · exact CalmG.mk 85 (.slice (some ⟨g2, 0, none⟩) N2 cap2) rfl rfl rfl (fun W hW => calm_move (.tmp 18) rfl rfl)
            · exact CalmG.mk 86 (.int .i64 k2) rfl rfl rfl (fun W hW => calm_move (.tmp 14) rfl rfl)
            · exact CalmG.mk 87 (.pointer (some ⟨g2, k2 * 3, none⟩)) rfl rfl rfl (fun W hW => calm_run (by simp [execOp, Act.eval, go_sem, hlt]))
            · exact CalmG.mk 88 (ptV xs ys zs) rfl rfl rfl (fun W hW => calm_loadPt 23 (.tmp 87) rfl rfl (cell_below hW (cell_below HB.out q0)) (cell_below hW (cell_below HB.out q1)) (cell_below hW (cell_below HB.out q2)) Try.sizeOf23 Try.isAgg23)
            · exact CalmG.mk 89 (ptV x0 y0 z0) rfl rfl rfl (fun W hW => calm_load (cs := #[.int .i64 x0, .int .i64 y0, .int .i64 z0]) (g := w.heap.size) (T := 23) (fr := (0, 0)) 23 (.tmp 5) rfl rfl (by rw [hW.block _ (Nat.lt_of_lt_of_le lA HB.out.size), HB.out.block _ lA]; exact bA) 3 rfl Try.sizeOf23 Try.isAgg23)
            · exact CalmG.mk 90 (.bool false) rfl rfl rfl (fun W hW => calm_eqPo (.tmp 88) (.tmp 89) rfl rfl rfl h1)
            · exact CalmG.mk 91 (.bool false) rfl rfl rfl (fun W hW => calm_move (.tmp 90) rfl rfl)
            · exact CalmG.mk 92 (.slice (some ⟨g2, 0, none⟩) N2 cap2) rfl rfl rfl (fun W hW => calm_move (.tmp 18) rfl rfl)
            · exact CalmG.mk 93 (.int .i64 k2) rfl rfl rfl (fun W hW => calm_move (.tmp 14) rfl rfl)
            · exact CalmG.mk 94 (.pointer (some ⟨g2, k2 * 3, none⟩)) rfl rfl rfl (fun W hW => calm_run (by simp [execOp, Act.eval, go_sem, hlt]))
            · exact CalmG.mk 95 (ptV xs ys zs) rfl rfl rfl (fun W hW => calm_loadPt 23 (.tmp 94) rfl rfl (cell_below hW (cell_below HB.out q0)) (cell_below hW (cell_below HB.out q1)) (cell_below hW (cell_below HB.out q2)) Try.sizeOf23 Try.isAgg23)
            · exact CalmG.mk 96 (ptV x y z) rfl rfl rfl (fun W hW => calm_load (cs := #[.int .i64 x, .int .i64 y, .int .i64 z]) (g := W2.heap.size) (T := 23) (fr := (0, 0)) 23 (.tmp 15) rfl rfl (by rw [hW.block _ (Nat.lt_of_lt_of_le lR HB.out.size), HB.out.block _ lR]; exact bR) 3 rfl Try.sizeOf23 Try.isAgg23)
            · exact CalmG.mk 97 (.bool true) rfl rfl rfl (fun W hW => calm_eqPo (.tmp 95) (.tmp 96) rfl rfl rfl h2)
            · exact CalmG.mk 98 (.bool true) rfl rfl rfl (fun W hW => calm_pick' (.tmp 91) (.const (.bool true)) (.tmp 97) rfl rfl rfl)
            intro W3 hW3
            have HB3 := Lib.hid (low_tr' HB.out hW3 HB.out.size)
            have HT2 : Hid (∀ a ∈ F.take (k2 + 1), (!eqP a (x0, y0, z0) && !eqP a (x, y, z)) = false) := Lib.hid (by
              rw [hNx.out]
              intro a ha
              rcases List.mem_append.1 ha with h | h
              · exact HT.out a h
              · rw [List.mem_singleton.1 h, h1, h2]; rfl)
            clear HT hNx hHd hW3 HB hmem h1 h2
            go_wp2
            go_roundw
            case rel => exact ⟨k2 + 1, by omega, by go_num, HT2, HB3⟩
            case measure => simp [intOf]; omega
          | false =>
            refine region_calmG [(85, .slice (some ⟨g2, 0, none⟩) N2 cap2), (86, .int .i64 k2), (87, .pointer (some ⟨g2, k2 * 3, none⟩)), (88, ptV xs ys zs), (89, ptV x0 y0 z0), (90, .bool false), (91, .bool false), (92, .slice (some ⟨g2, 0, none⟩) N2 cap2), (93, .int .i64 k2), (94, .pointer (some ⟨g2, k2 * 3, none⟩)), (95, ptV xs ys zs), (96, ptV x y z), (97, .bool false), (98, .bool false)] (by kernel_rfl) (by kernel_rfl) (by kernel_rfl) (fun aE hpe => ?_)
            simp only [puts, Act.put, List.setIfInBounds_toArray, List.set_cons_zero, List.set_cons_succ] at hpe
            subst hpe
            refine ⟨⟨.inr (.inr ?_), .inr (.inr ?_), .inr (.inr ?_), .inr (.inr ?_), .inr (.inr ?_), .inr (.inr ?_), .inr (.inr ?_), .inr (.inr ?_), .inr (.inr ?_), .inr (.inr ?_), .inr (.inr ?_), .inr (.inr ?_), .inr (.inr ?_), .inr (.inr ?_), trivial⟩, ?_⟩
            · exact CalmG.mk 85 (.slice (some ⟨g2, 0, none⟩) N2 cap2) rfl rfl rfl (fun W hW => calm_move (.tmp 18) rfl rfl)
            · exact CalmG.mk 86 (.int .i64 k2) rfl rfl rfl (fun W hW => calm_move (.tmp 14) rfl rfl)
            · exact CalmG.mk 87 (.pointer (some ⟨g2, k2 * 3, none⟩)) rfl rfl rfl (fun W hW => calm_run (by simp [execOp, Act.eval, go_sem, hlt]))
            · exact CalmG.mk 88 (ptV xs ys zs) rfl rfl rfl (fun W hW => calm_loadPt 23 (.tmp 87) rfl rfl (cell_below hW (cell_below HB.out q0)) (cell_below hW (cell_below HB.out q1)) (cell_below hW (cell_below HB.out q2)) Try.sizeOf23 Try.isAgg23)
            · exact CalmG.mk 89 (ptV x0 y0 z0) rfl rfl rfl (fun W hW => calm_load (cs := #[.int .i64 x0, .int .i64 y0, .int .i64 z0]) (g := w.heap.size) (T := 23) (fr := (0, 0)) 23 (.tmp 5) rfl rfl (by rw [hW.block _ (Nat.lt_of_lt_of_le lA HB.out.size), HB.out.block _ lA]; exact bA) 3 rfl Try.sizeOf23 Try.isAgg23)
            · exact CalmG.mk 90 (.bool false) rfl rfl rfl (fun W hW => calm_eqPo (.tmp 88) (.tmp 89) rfl rfl rfl h1)
            · exact CalmG.mk 91 (.bool false) rfl rfl rfl (fun W hW => calm_move (.tmp 90) rfl rfl)
            · exact CalmG.mk 92 (.slice (some ⟨g2, 0, none⟩) N2 cap2) rfl rfl rfl (fun W hW => calm_move (.tmp 18) rfl rfl)
            · exact CalmG.mk 93 (.int .i64 k2) rfl rfl rfl (fun W hW => calm_move (.tmp 14) rfl rfl)
            · exact CalmG.mk 94 (.pointer (some ⟨g2, k2 * 3, none⟩)) rfl rfl rfl (fun W hW => calm_run (by simp [execOp, Act.eval, go_sem, hlt]))
            · exact CalmG.mk 95 (ptV xs ys zs) rfl rfl rfl (fun W hW => calm_loadPt 23 (.tmp 94) rfl rfl (cell_below hW (cell_below HB.out q0)) (cell_below hW (cell_below HB.out q1)) (cell_below hW (cell_below HB.out q2)) Try.sizeOf23 Try.isAgg23)
            · exact CalmG.mk 96 (ptV x y z) rfl rfl rfl (fun W hW => calm_load (cs := #[.int .i64 x, .int .i64 y, .int .i64 z]) (g := W2.heap.size) (T := 23) (fr := (0, 0)) 23 (.tmp 15) rfl rfl (by rw [hW.block _ (Nat.lt_of_lt_of_le lR HB.out.size), HB.out.block _ lR]; exact bR) 3 rfl Try.sizeOf23 Try.isAgg23)
            · exact CalmG.mk 97 (.bool false) rfl rfl rfl (fun W hW => calm_eqPo (.tmp 95) (.tmp 96) rfl rfl rfl h2)
            · exact CalmG.mk 98 (.bool false) rfl rfl rfl (fun W hW => calm_pick' (.tmp 91) (.const (.bool true)) (.tmp 97) rfl rfl rfl)
            intro W3 hW3
            have HB3 := Lib.hid (low_tr' HB.out hW3 HB.out.size)
            have hS := hHd.out (by rw [h1, h2]; rfl)
            rw [HE2.out] at hS
            obtain ⟨rfl, rfl, rfl⟩ : xs = s0 ∧ ys = s1 ∧ zs = s2 := by simpa using hS.symm
            have mA : W3.heap[w.heap.size]? = some (.cells #[.int .i64 x0, .int .i64 y0, .int .i64 z0] 23 (0, 0)) := by rw [HB3.out.block _ lA]; exact bA
            have mB : W3.heap[w.heap.size + 1]? = some (.cells #[.int .i64 x1, .int .i64 y1, .int .i64 z1] 23 (0, 0)) := by rw [HB3.out.block _ lB]; exact bB
            have mC : W3.heap[w.heap.size + 1 + 1]? = some (.cells #[.int .i64 x2, .int .i64 y2, .int .i64 z2] 23 (0, 0)) := by rw [HB3.out.block _ lC]; exact bC
            have mZ : W3.heap[w.heap.size + 1 + 1 + 1]? = some (.cells #[.int .i64 0, .int .i64 0, .int .i64 0] 23 (0, 0)) := by rw [HB3.out.block _ lZ]; exact bZ
            have mL : W3.heap[w3_.heap.size]? = some (.cells #[.int .i64 L0, .int .i64 L1, .int .i64 L2] 24 (0, 0)) := by rw [HB3.out.block _ lL]; exact bL
            have mR : W3.heap[W2.heap.size]? = some (.cells #[.int .i64 x, .int .i64 y, .int .i64 z] 23 (0, 0)) := by rw [HB3.out.block _ lR]; exact bR
            obtain ⟨nA0, nA1, nA2, nAl, nAf0, nAf1, nAf2⟩ := rows3 mA
            obtain ⟨nB0, nB1, nB2, nBl, nBf0, nBf1, nBf2⟩ := rows3 mB
            obtain ⟨nC0, nC1, nC2, nCl, nCf0, nCf1, nCf2⟩ := rows3 mC
            obtain ⟨nZ0, nZ1, nZ2, nZl, nZf0, nZf1, nZf2⟩ := rows3 mZ
            obtain ⟨nL0, nL1, nL2, nLl, nLf0, nLf1, nLf2⟩ := rows3 mL
            obtain ⟨nR0, nR1, nR2, nRl, nRf0, nRf1, nRf2⟩ := rows3 mR
            have p0 := cell_below hW3 (cell_below HB.out q0)
            have p1 := cell_below hW3 (cell_below HB.out q1)
            have p2 := cell_below hW3 (cell_below HB.out q2)
            have gl3 : g2 < W3.heap.size := Nat.lt_of_lt_of_le hg3 HB3.out.size
            have HBw3 : Below w.heap.size w W3 := low_tr' HBv HB3.out (by omega)
            clear HT hNx hHd hW3 HB hmem h1 h2 hS q0 q1 q2 HB3 HBv mA mB mC mZ mL mR bA bB bC bZ bL bR lA lB lC lZ lL lR HP6b HInk
            go_wp2_with (first
    | (go_at_call 96; (with_reducible refine (HJ7.out _).mono ?_); rintro e w7_ ⟨rfl, hb7⟩; obtain ⟨hcb7, hfb7, hlb7⟩ := bcell hb7; have hsz7 := hb7.size; (try simp at hsz7); have HB7 := Lib.hid hb7; clear hb7; (try (have hl07 : w.heap.size < w7_.heap.size := by omega)); (try (have hl17 : w.heap.size + 1 < w7_.heap.size := by omega)); (try (have hl27 : w.heap.size + 1 + 1 < w7_.heap.size := by omega)); (try (have hl37 : w.heap.size + 1 + 1 + 1 < w7_.heap.size := by omega)); (try (have hl07_1 : w3_.heap.size < w7_.heap.size := by omega)); (try (have hl07_2 : W2.heap.size < w7_.heap.size := by omega)); (try (have hl07_3 : W3.heap.size < w7_.heap.size := by omega)))
    | (go_at_call 96; (with_reducible refine (HJ8.out _).mono ?_); rintro e w8_ ⟨rfl, hb8⟩; obtain ⟨hcb8, hfb8, hlb8⟩ := bcell hb8; have hsz8 := hb8.size; (try simp at hsz8); have HB8 := Lib.hid hb8; clear hb8; (try (have hl08 : w.heap.size < w8_.heap.size := by omega)); (try (have hl18 : w.heap.size + 1 < w8_.heap.size := by omega)); (try (have hl28 : w.heap.size + 1 + 1 < w8_.heap.size := by omega)); (try (have hl38 : w.heap.size + 1 + 1 + 1 < w8_.heap.size := by omega)); (try (have hl08_1 : w3_.heap.size < w8_.heap.size := by omega)); (try (have hl08_2 : W2.heap.size < w8_.heap.size := by omega)); (try (have hl08_3 : W3.heap.size < w8_.heap.size := by omega)); (try (have hl08_4 : w7_.heap.size < w8_.heap.size := by omega)))
    | (go_at_call 98; (with_reducible refine (HX9.out _).mono ?_); rintro e w9_ ⟨rfl, hb9⟩; obtain ⟨hcb9, hfb9, hlb9⟩ := bcell hb9; have hsz9 := hb9.size; (try simp at hsz9); have HB9 := Lib.hid hb9; clear hb9; (try (have hl09 : w.heap.size < w9_.heap.size := by omega)); (try (have hl19 : w.heap.size + 1 < w9_.heap.size := by omega)); (try (have hl29 : w.heap.size + 1 + 1 < w9_.heap.size := by omega)); (try (have hl39 : w.heap.size + 1 + 1 + 1 < w9_.heap.size := by omega)); (try (have hl09_1 : w3_.heap.size < w9_.heap.size := by omega)); (try (have hl09_2 : W2.heap.size < w9_.heap.size := by omega)); (try (have hl09_3 : W3.heap.size < w9_.heap.size := by omega)))
    | (go_at_call 96; (with_reducible refine (HJ10.out _).mono ?_); rintro e w10_ ⟨rfl, hb10⟩; obtain ⟨hcb10, hfb10, hlb10⟩ := bcell hb10; have hsz10 := hb10.size; (try simp at hsz10); have HB10 := Lib.hid hb10; clear hb10; (try (have hl010 : w.heap.size < w10_.heap.size := by omega)); (try (have hl110 : w.heap.size + 1 < w10_.heap.size := by omega)); (try (have hl210 : w.heap.size + 1 + 1 < w10_.heap.size := by omega)); (try (have hl310 : w.heap.size + 1 + 1 + 1 < w10_.heap.size := by omega)); (try (have hl010_1 : w3_.heap.size < w10_.heap.size := by omega)); (try (have hl010_2 : W2.heap.size < w10_.heap.size := by omega)); (try (have hl010_3 : W3.heap.size < w10_.heap.size := by omega)); (try (have hl010_4 : w9_.heap.size < w10_.heap.size := by omega)))
    | (go_at_call 96; (with_reducible refine (HJ11.out _).mono ?_); rintro e w11_ ⟨rfl, hb11⟩; obtain ⟨hcb11, hfb11, hlb11⟩ := bcell hb11; have hsz11 := hb11.size; (try simp at hsz11); have HB11 := Lib.hid hb11; clear hb11; (try (have hl011 : w.heap.size < w11_.heap.size := by omega)); (try (have hl111 : w.heap.size + 1 < w11_.heap.size := by omega)); (try (have hl211 : w.heap.size + 1 + 1 < w11_.heap.size := by omega)); (try (have hl311 : w.heap.size + 1 + 1 + 1 < w11_.heap.size := by omega)); (try (have hl011_1 : w3_.heap.size < w11_.heap.size := by omega)); (try (have hl011_2 : W2.heap.size < w11_.heap.size := by omega)); (try (have hl011_3 : W3.heap.size < w11_.heap.size := by omega)); (try (have hl011_4 : w10_.heap.size < w11_.heap.size := by omega)))
    | (go_at_call 98; (with_reducible refine (HX12.out _).mono ?_); rintro e w12_ ⟨rfl, hb12⟩; obtain ⟨hcb12, hfb12, hlb12⟩ := bcell hb12; have hsz12 := hb12.size; (try simp at hsz12); have HB12 := Lib.hid hb12; clear hb12; (try (have hl012 : w.heap.size < w12_.heap.size := by omega)); (try (have hl112 : w.heap.size + 1 < w12_.heap.size := by omega)); (try (have hl212 : w.heap.size + 1 + 1 < w12_.heap.size := by omega)); (try (have hl312 : w.heap.size + 1 + 1 + 1 < w12_.heap.size := by omega)); (try (have hl012_1 : w3_.heap.size < w12_.heap.size := by omega)); (try (have hl012_2 : W2.heap.size < w12_.heap.size := by omega)); (try (have hl012_3 : W3.heap.size < w12_.heap.size := by omega)))
    | (go_at_call 96; (with_reducible refine (HJ13.out _).mono ?_); rintro e w13_ ⟨rfl, hb13⟩; obtain ⟨hcb13, hfb13, hlb13⟩ := bcell hb13; have hsz13 := hb13.size; (try simp at hsz13); have HB13 := Lib.hid hb13; clear hb13; (try (have hl013 : w.heap.size < w13_.heap.size := by omega)); (try (have hl113 : w.heap.size + 1 < w13_.heap.size := by omega)); (try (have hl213 : w.heap.size + 1 + 1 < w13_.heap.size := by omega)); (try (have hl313 : w.heap.size + 1 + 1 + 1 < w13_.heap.size := by omega)); (try (have hl013_1 : w3_.heap.size < w13_.heap.size := by omega)))
    | (go_at_call 98; (with_reducible refine (HX14.out _).mono ?_); rintro e w14_ ⟨rfl, hb14⟩; obtain ⟨hcb14, hfb14, hlb14⟩ := bcell hb14; have hsz14 := hb14.size; (try simp at hsz14); have HB14 := Lib.hid hb14; clear hb14; (try (have hl014 : w.heap.size < w14_.heap.size := by omega)); (try (have hl114 : w.heap.size + 1 < w14_.heap.size := by omega)); (try (have hl214 : w.heap.size + 1 + 1 < w14_.heap.size := by omega)); (try (have hl314 : w.heap.size + 1 + 1 + 1 < w14_.heap.size := by omega))))
            have HBa : Below W3.heap.size W3 w14_ := (by repeat (first | exact Below.refl _ _ | refine bset ?_ _ _ (by omega) _ | refine bal ?_ _ | refine bdrN ?_ _ | refine bdr ?_ | refine below_tr' ?_ HB14.out | refine below_tr' ?_ HB13.out | refine below_tr' ?_ HB12.out | refine below_tr' ?_ HB11.out | refine below_tr' ?_ HB10.out | refine below_tr' ?_ HB9.out | refine below_tr' ?_ HB8.out | refine below_tr' ?_ HB7.out))
            obtain ⟨rr0, rr1, rr2⟩ := rd3 (.int .i64 o0) (.int .i64 o1) (.int .i64 o2) (cell_below HBa nZ0) (cell_below HBa nZ1) (cell_below HBa nZ2)
            have HBh := Lib.hid HBw3
            exact bodyPost_ret (v := .tuple #[ptV o0 o1 o2, .int .i64 0]) (by simp [results, Try.results40, go_sem, rr0, rr1, rr2, hl314]) rfl ⟨rfl, (by repeat (first | exact Below.refl _ _ | refine bset ?_ _ _ (by omega) _ | refine bal ?_ _ | refine bdrN ?_ _ | refine bdr ?_ | refine below_tr' ?_ HB14.out | refine below_tr' ?_ HB13.out | refine below_tr' ?_ HB12.out | refine below_tr' ?_ HB11.out | refine below_tr' ?_ HB10.out | refine below_tr' ?_ HB9.out | refine below_tr' ?_ HB8.out | refine below_tr' ?_ HB7.out | refine below_tr' ?_ HBh.out))⟩
theorem QuadranglePoint_spec (p x0 y0 z0 x1 y1 z1 x2 y2 z2 : Int) (w : World) :
    Calls Try.prog 40 #[.int .i64 p, ptV x0 y0 z0, ptV x1 y1 z1, ptV x2 y2 z2] w (Ret w (.tuple #[ptV (quadR p (x0, y0, z0) (x1, y1, z1) (x2, y2, z2)).1.1 (quadR p (x0, y0, z0) (x1, y1, z1) (x2, y2, z2)).1.2.1 (quadR p (x0, y0, z0) (x1, y1, z1) (x2, y2, z2)).1.2.2, .int .i64 (quadR p (x0, y0, z0) (x1, y1, z1) (x2, y2, z2)).2])) := by
  by_cases hz : codeOf p (ptsB p [(x0, y0, z0), (x1, y1, z1), (x2, y2, z2)]) = 0
  · cases h3 : threeB p (x0, y0, z0) (x1, y1, z1) (x2, y2, z2) with
    | false => rw [quadR_three hz h3]; exact QuadranglePoint_spec_three p x0 y0 z0 x1 y1 z1 x2 y2 z2 w hz h3
    | true =>
      obtain ⟨n, rfl, L, R, S, s, V1, V2, t, V3, V4, u, V5, o, Q⟩ := quad_at hz h3
      rw [Q.eq]
      exact QuadranglePoint_spec_main n x0 y0 z0 x1 y1 z1 x2 y2 z2 L R S s V1 V2 t V3 V4 u V5 o w hz h3 Q
  · rw [quadR_no hz]; exact QuadranglePoint_spec_no p x0 y0 z0 x1 y1 z1 x2 y2 z2 w hz
end Go.Proofs.Ythkbhaaodegocaa
