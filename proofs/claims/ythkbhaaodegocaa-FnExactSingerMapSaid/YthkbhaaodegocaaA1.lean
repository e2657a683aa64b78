/- Contracts: crossing of lines in the reference; far lines. -/
import Derived.Test.YthkbhaaodegocaaW9
import Derived.Test.YthkbhaaodegocaaPts
import Derived.Test.YthkbhaaodegocaaArr
namespace Go.Proofs.Ythkbhaaodegocaa
open Go.RowKit
set_option linter.unusedVariables false
set_option linter.unusedSimpArgs false
theorem crs_bd {p a0 a1 a2 b0 b1 b2 : Int} (ha : In13 (a0, a1, a2)) (hb : In13 (b0, b1, b2)) :
    ((0 ≤ a1 * b2 ∧ a1 * b2 ≤ 144) ∧ (0 ≤ a2 * b1 ∧ a2 * b1 ≤ 144)) ∧ ((0 ≤ a2 * b0 ∧ a2 * b0 ≤ 144) ∧ (0 ≤ a0 * b2 ∧ a0 * b2 ≤ 144)) ∧ ((0 ≤ a0 * b1 ∧ a0 * b1 ≤ 144) ∧ (0 ≤ a1 * b0 ∧ a1 * b0 ≤ 144)) := by
  obtain ⟨⟨p0, p1⟩, ⟨p2, p3⟩, ⟨p4, p5⟩⟩ := ha
  obtain ⟨⟨q0, q1⟩, ⟨q2, q3⟩, ⟨q4, q5⟩⟩ := hb
  exact ⟨⟨mul_bd p2 p3 q4 q5, mul_bd p4 p5 q2 q3⟩, ⟨mul_bd p4 p5 q0 q1, mul_bd p0 p1 q4 q5⟩, mul_bd p0 p1 q2 q3, mul_bd p2 p3 q0 q1⟩
/-- The reference's crossing: the point, and whether there is one. -/
def madeC (p : Int) (a b : Pt) : Pt × Bool := made p (crs a b).1 (crs a b).2.1 (crs a b).2.2
set_option maxHeartbeats 1000000 in
theorem l01Cross_any (p a0 a1 a2 b0 b1 b2 : Int) (w : World) (hp : prB p = true) (ha : In13 (a0, a1, a2)) (hb : In13 (b0, b1, b2)) :
    Calls Try.prog 142 #[.int .i64 p, ptV a0 a1 a2, ptV b0 b1 b2] w (Ret w (.tuple #[ptV (madeC p (a0, a1, a2) (b0, b1, b2)).1.1 (madeC p (a0, a1, a2) (b0, b1, b2)).1.2.1 (madeC p (a0, a1, a2) (b0, b1, b2)).1.2.2, .bool (madeC p (a0, a1, a2) (b0, b1, b2)).2])) := by
  obtain ⟨⟨⟨m1, n1⟩, m2, n2⟩, ⟨⟨m3, n3⟩, m4, n4⟩, ⟨m5, n5⟩, m6, n6⟩ := crs_bd (p := p) ha hb
  have HC := Lib.hid (fun (W : World) => l01Made_any p (a1 * b2 - a2 * b1) (a2 * b0 - a0 * b2) (a0 * b1 - a1 * b0) W hp (by omega) (by omega) (by omega))
  have HE : Hid (madeC p (a0, a1, a2) (b0, b1, b2) = made p (a1 * b2 - a2 * b1) (a2 * b0 - a0 * b2) (a0 * b1 - a1 * b0)) := Lib.hid rfl
  clear hp ha hb
  generalize made p (a1 * b2 - a2 * b1) (a2 * b0 - a0 * b2) (a0 * b1 - a1 * b0) = r at *
  obtain ⟨⟨u0, u1, u2⟩, c⟩ := r
  rw [HE.out]
  go_enter Try.func142, Try.ntmps142
  go_wp2_with (go_at_call 172; refine (HC.out _).mono ?_; rintro e w_ ⟨rfl, hb⟩; obtain ⟨hcb, hfb, hlb⟩ := bcell hb; have hsz := hb.size; try simp at hsz; have HB := Lib.hid hb; clear hb; try (have hl0 : w.heap.size < w_.heap.size := by omega); try (have hl1 : w.heap.size + 1 < w_.heap.size := by omega); try (have hl2 : w.heap.size + 1 + 1 < w_.heap.size := by omega))
  exact bodyPost_ret (v := .tuple #[ptV u0 u1 u2, .bool c]) (by simp [results, Try.results142, go_sem, hcb, hl0, hl1, hl2]) rfl ⟨rfl, (by repeat (first | exact Below.refl _ _ | refine bset ?_ _ _ (by omega) _ | refine bal ?_ _ | refine bdrN ?_ _ | refine bdr ?_ | refine below_tr' ?_ HB.out))⟩
theorem l01Meet_any (p a0 a1 a2 b0 b1 b2 : Int) (w : World) (hp : prB p = true) (ha : In13 (a0, a1, a2)) (hb : In13 (b0, b1, b2)) :
    Calls Try.prog 98 #[.int .i64 p, ptV a0 a1 a2, ptV b0 b1 b2] w (Ret w (.tuple #[ptV (madeC p (a0, a1, a2) (b0, b1, b2)).1.1 (madeC p (a0, a1, a2) (b0, b1, b2)).1.2.1 (madeC p (a0, a1, a2) (b0, b1, b2)).1.2.2, .bool (madeC p (a0, a1, a2) (b0, b1, b2)).2])) := by
  have HC := Lib.hid (fun (W : World) => l01Cross_any p a0 a1 a2 b0 b1 b2 W hp ha hb)
  generalize madeC p (a0, a1, a2) (b0, b1, b2) = r at *
  obtain ⟨⟨u0, u1, u2⟩, c⟩ := r
  clear hp ha hb
  go_enter Try.func98, Try.ntmps98
  go_wp2_with (go_at_call 142; refine (HC.out _).mono ?_; rintro e w_ ⟨rfl, hb⟩; obtain ⟨hcb, hfb, hlb⟩ := bcell hb; have hsz := hb.size; try simp at hsz; have HB := Lib.hid hb; clear hb; try (have hl0 : w.heap.size < w_.heap.size := by omega); try (have hl1 : w.heap.size + 1 < w_.heap.size := by omega); try (have hl2 : w.heap.size + 1 + 1 < w_.heap.size := by omega))
  exact bodyPost_ret (v := .tuple #[ptV u0 u1 u2, .bool c]) (by simp [results, Try.results98, go_sem, hcb, hl0, hl1, hl2]) rfl ⟨rfl, (by repeat (first | exact Below.refl _ _ | refine bset ?_ _ _ (by omega) _ | refine bal ?_ _ | refine bdrN ?_ _ | refine bdr ?_ | refine below_tr' ?_ HB.out))⟩
def farB (a : Pt) : Bool := eqP a (1, 0, 0)
end Go.Proofs.Ythkbhaaodegocaa
