/- Contracts: points on lines, determinants, three points of a line. -/
import Derived.Test.YthkbhaaodegocaaB1
namespace Go.Proofs.Ythkbhaaodegocaa
open Go.RowKit
set_option linter.unusedVariables false
set_option linter.unusedSimpArgs false
theorem mul_sb {a d : Int} (h0 : 0 ≤ a) (h1 : a ≤ 12) (g0 : -144 ≤ d) (g1 : d ≤ 144) : -1728 ≤ a * d ∧ a * d ≤ 1728 := by
  have u1 := Int.mul_le_mul_of_nonneg_left g1 h0
  have u2 := Int.mul_le_mul_of_nonneg_left g0 h0
  omega
/-- Whole numbers' determinant of three points. -/
def detZ (a b c : Pt) : Int := a.1 * (b.2.1 * c.2.2 - b.2.2 * c.2.1) + a.2.1 * (b.2.2 * c.1 - b.1 * c.2.2) + a.2.2 * (b.1 * c.2.1 - b.2.1 * c.1)
theorem l01On_any (p a0 a1 a2 b0 b1 b2 : Int) (w : World) (hp : prB p = true) (ha : In13 (a0, a1, a2)) (hb : In13 (b0, b1, b2)) :
    Calls Try.prog 70 #[.int .i64 p, ptV a0 a1 a2, ptV b0 b1 b2] w (Ret w (.bool (onB p (a0, a1, a2) (b0, b1, b2)))) := by
  obtain ⟨⟨p0, p1⟩, ⟨p2, p3⟩, ⟨p4, p5⟩⟩ := ha
  obtain ⟨⟨q0, q1⟩, ⟨q2, q3⟩, ⟨q4, q5⟩⟩ := hb
  simp only at p0 p1 p2 p3 p4 p5 q0 q1 q2 q3 q4 q5
  obtain ⟨m1, n1⟩ := mul_bd p0 p1 q0 q1
  obtain ⟨m2, n2⟩ := mul_bd p2 p3 q2 q3
  obtain ⟨m3, n3⟩ := mul_bd p4 p5 q4 q5
  obtain ⟨h1, h2⟩ := prB_bd hp
  have hpz : (p == 0) = false := beqf (by omega)
  have HE : Hid (onB p (a0, a1, a2) (b0, b1, b2) = ((a0 * b0 + a1 * b1 + a2 * b2) % p == 0)) := Lib.hid rfl
  clear hp
  go_enter Try.func70, Try.ntmps70
  go_wp2
  go_ret
  exact ⟨ret_bool HE.out.symm, (by repeat (first | exact Below.refl _ _ | refine bset ?_ _ _ (by omega) _ | refine bal ?_ _ | refine bdrN ?_ _ | refine bdr ?_))⟩
set_option maxHeartbeats 1000000 in
theorem l01Det_any (p a0 a1 a2 b0 b1 b2 c0 c1 c2 : Int) (w : World) (hp : prB p = true) (ha : In13 (a0, a1, a2)) (hb : In13 (b0, b1, b2)) (hc : In13 (c0, c1, c2)) :
    Calls Try.prog 120 #[.int .i64 p, ptV a0 a1 a2, ptV b0 b1 b2, ptV c0 c1 c2] w (Ret w (.int .i64 (detZ (a0, a1, a2) (b0, b1, b2) (c0, c1, c2) % p))) := by
  obtain ⟨⟨⟨m1, n1⟩, m2, n2⟩, ⟨⟨m3, n3⟩, m4, n4⟩, ⟨m5, n5⟩, m6, n6⟩ := crs_bd (p := p) hb hc
  obtain ⟨⟨p0, p1⟩, ⟨p2, p3⟩, ⟨p4, p5⟩⟩ := ha
  simp only at p0 p1 p2 p3 p4 p5
  obtain ⟨s1, t1⟩ := mul_sb (d := b1 * c2 - b2 * c1) p0 p1 (by omega) (by omega)
  obtain ⟨s2, t2⟩ := mul_sb (d := b2 * c0 - b0 * c2) p2 p3 (by omega) (by omega)
  obtain ⟨s3, t3⟩ := mul_sb (d := b0 * c1 - b1 * c0) p4 p5 (by omega) (by omega)
  have HM := Lib.hid (fun (W : World) => l01Mod_any p (a0 * (b1 * c2 - b2 * c1) + a1 * (b2 * c0 - b0 * c2) + a2 * (b0 * c1 - b1 * c0)) W (by have := prB_bd hp; omega) (by have := prB_bd hp; omega) (by omega) (by omega))
  have HE : Hid (detZ (a0, a1, a2) (b0, b1, b2) (c0, c1, c2) = a0 * (b1 * c2 - b2 * c1) + a1 * (b2 * c0 - b0 * c2) + a2 * (b0 * c1 - b1 * c0)) := Lib.hid rfl
  clear hp hb hc
  rw [HE.out]
  go_enter Try.func120, Try.ntmps120
  go_wp2_with (go_at_call 72; (with_reducible refine (HM.out _).mono ?_); rintro e w' ⟨rfl, rfl⟩)
  go_ret
  exact ⟨rfl, (by repeat (first | exact Below.refl _ _ | refine bset ?_ _ _ (by omega) _ | refine bal ?_ _ | refine bdrN ?_ _ | refine bdr ?_))⟩
set_option maxHeartbeats 1000000 in
theorem determinant_any (p a0 a1 a2 b0 b1 b2 c0 c1 c2 : Int) (w : World) (hp : prB p = true) (ha : In13 (a0, a1, a2)) (hb : In13 (b0, b1, b2)) (hc : In13 (c0, c1, c2)) :
    Calls Try.prog 123 #[.int .i64 p, ptV a0 a1 a2, ptV b0 b1 b2, ptV c0 c1 c2] w (Ret w (.int .i64 (detZ (a0, a1, a2) (b0, b1, b2) (c0, c1, c2) % p))) := by
  obtain ⟨⟨⟨m1, n1⟩, m2, n2⟩, ⟨⟨m3, n3⟩, m4, n4⟩, ⟨m5, n5⟩, m6, n6⟩ := crs_bd (p := p) hb hc
  obtain ⟨⟨p0, p1⟩, ⟨p2, p3⟩, ⟨p4, p5⟩⟩ := ha
  simp only at p0 p1 p2 p3 p4 p5
  obtain ⟨s1, t1⟩ := mul_sb (d := b1 * c2 - b2 * c1) p0 p1 (by omega) (by omega)
  obtain ⟨s2, t2⟩ := mul_sb (d := b0 * c2 - b2 * c0) p2 p3 (by omega) (by omega)
  obtain ⟨s3, t3⟩ := mul_sb (d := b0 * c1 - b1 * c0) p4 p5 (by omega) (by omega)
  have HE : Hid (detZ (a0, a1, a2) (b0, b1, b2) (c0, c1, c2) = a0 * (b1 * c2 - b2 * c1) - a1 * (b0 * c2 - b2 * c0) + a2 * (b0 * c1 - b1 * c0)) := Lib.hid (by
    show a0 * (b1 * c2 - b2 * c1) + a1 * (b2 * c0 - b0 * c2) + a2 * (b0 * c1 - b1 * c0) = _
    rw [show b2 * c0 - b0 * c2 = -(b0 * c2 - b2 * c0) by omega, Int.mul_neg]
    omega)
  have hpb := prB_bd hp
  rw [HE.out]
  have HM := Lib.hid (fun (W : World) => mod_any (a0 * (b1 * c2 - b2 * c1) - a1 * (b0 * c2 - b2 * c0) + a2 * (b0 * c1 - b1 * c0)) p W (by omega) (by omega) (by omega) (by omega))
  clear hp hb hc
  go_enter Try.func123, Try.ntmps123
  go_wp2_with (go_at_call 65; (with_reducible refine (HM.out _).mono ?_); rintro e w' ⟨rfl, rfl⟩)
  go_ret
  exact ⟨rfl, (by repeat (first | exact Below.refl _ _ | refine bset ?_ _ _ (by omega) _ | refine bal ?_ _ | refine bdrN ?_ _ | refine bdr ?_))⟩
theorem collinear_any (p a0 a1 a2 b0 b1 b2 c0 c1 c2 : Int) (w : World) (hp : prB p = true) (ha : In13 (a0, a1, a2)) (hb : In13 (b0, b1, b2)) (hc : In13 (c0, c1, c2)) :
    Calls Try.prog 121 #[.int .i64 p, ptV a0 a1 a2, ptV b0 b1 b2, ptV c0 c1 c2] w (Ret w (.bool (detZ (a0, a1, a2) (b0, b1, b2) (c0, c1, c2) % p == 0))) := by
  have HC := Lib.hid (fun (W : World) => determinant_any p a0 a1 a2 b0 b1 b2 c0 c1 c2 W hp ha hb hc)
  generalize detZ (a0, a1, a2) (b0, b1, b2) (c0, c1, c2) % p = d at *
  clear hp ha hb hc
  go_enter Try.func121, Try.ntmps121
  go_wp2_with (go_at_call 123; (with_reducible refine (HC.out _).mono ?_); rintro e w1_ ⟨rfl, hb1⟩; obtain ⟨hcb1, hfb1, hlb1⟩ := bcell hb1; have hsz1 := hb1.size; (try simp at hsz1); have HB1 := Lib.hid hb1; clear hb1; (try (have hl01 : w.heap.size < w1_.heap.size := by omega)); (try (have hl11 : w.heap.size + 1 < w1_.heap.size := by omega)); (try (have hl21 : w.heap.size + 1 + 1 < w1_.heap.size := by omega)))
  go_ret
  exact ⟨ret_bool rfl, (by repeat (first | exact Below.refl _ _ | refine bset ?_ _ _ (by omega) _ | refine bal ?_ _ | refine bdrN ?_ _ | refine bdr ?_ | refine below_tr' ?_ HB1.out))⟩
end Go.Proofs.Ythkbhaaodegocaa
