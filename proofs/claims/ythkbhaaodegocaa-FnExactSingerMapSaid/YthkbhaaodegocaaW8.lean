/- Contracts: crossed numbers, joins and meets of the program. -/
import Derived.Test.YthkbhaaodegocaaW3
namespace Go.Proofs.Ythkbhaaodegocaa
open Go.RowKit
set_option linter.unusedVariables false
set_option linter.unusedSimpArgs false
/-- Three numbers made normal. -/
def nrm3 (p x y z : Int) : Pt := (x % p * facL p [x, y, z] % p, y % p * facL p [x, y, z] % p, z % p * facL p [x, y, z] % p)
theorem normL3 (p x y z : Int) : normL p [x, y, z] = [(nrm3 p x y z).1, (nrm3 p x y z).2.1, (nrm3 p x y z).2.2] := rfl
theorem pointOf_any (p x y z : Int) (w : World) (hp : prB p = true) (hx : -4611686018427387904 ≤ x ∧ x ≤ 4611686018427387904) (hy : -4611686018427387904 ≤ y ∧ y ≤ 4611686018427387904) (hz : -4611686018427387904 ≤ z ∧ z ≤ 4611686018427387904) :
    Calls Try.prog 173 #[.int .i64 p, .int .i64 x, .int .i64 y, .int .i64 z] w (Ret w (ptV (nrm3 p x y z).1 (nrm3 p x y z).2.1 (nrm3 p x y z).2.2)) := by
  have HN := Lib.hid (normL3 p x y z)
  have HP := Lib.hid hp; clear hp
  generalize nrm3 p x y z = r at *
  obtain ⟨u0, u1, u2⟩ := r
  go_enter Try.func173, Try.ntmps173
  go_wp2_with (go_at_call 183; refine (normal_any p _ 0 3 3 [x, y, z] _ HP.out rfl (by omega) (by intro i hi; match i, hi with | 0, _ => simp [go_sem] | 1, _ => simp [go_sem] | 2, _ => simp [go_sem]) (by intro i hi; match i, hi with | 0, _ => simp [go_sem] | 1, _ => simp [go_sem] | 2, _ => simp [go_sem]) (by intro i hi; match i, hi with | 0, _ => (simp; omega) | 1, _ => (simp; omega) | 2, _ => (simp; omega))).mono ?_; rintro e w' ⟨rfl, rfl⟩; rw [HN.out, setInts3])
  exact bodyPost_ret (v := ptV u0 u1 u2) (by simp [results, Try.results173, go_sem]) rfl ⟨rfl, (by repeat (first | exact Below.refl _ _ | refine bset ?_ _ _ (by omega) _ | refine bal ?_ _ | refine bdrN ?_ _ | refine bdr ?_))⟩
/-- The raw cross product. -/
def crs (a b : Pt) : Pt := (a.2.1 * b.2.2 - a.2.2 * b.2.1, a.2.2 * b.1 - a.1 * b.2.2, a.1 * b.2.1 - a.2.1 * b.1)
def crsN (p : Int) (a b : Pt) : Pt := nrm3 p (crs a b).1 (crs a b).2.1 (crs a b).2.2
def In13 (a : Pt) : Prop := (0 ≤ a.1 ∧ a.1 ≤ 12) ∧ (0 ≤ a.2.1 ∧ a.2.1 ≤ 12) ∧ (0 ≤ a.2.2 ∧ a.2.2 ≤ 12)
set_option maxHeartbeats 800000 in
theorem cross_any (p a0 a1 a2 b0 b1 b2 : Int) (w : World) (hp : prB p = true) (ha : In13 (a0, a1, a2)) (hb : In13 (b0, b1, b2)) :
    Calls Try.prog 146 #[.int .i64 p, ptV a0 a1 a2, ptV b0 b1 b2] w (Ret w (ptV (crsN p (a0, a1, a2) (b0, b1, b2)).1 (crsN p (a0, a1, a2) (b0, b1, b2)).2.1 (crsN p (a0, a1, a2) (b0, b1, b2)).2.2)) := by
  obtain ⟨⟨p0, p1⟩, ⟨p2, p3⟩, ⟨p4, p5⟩⟩ := ha
  obtain ⟨⟨q0, q1⟩, ⟨q2, q3⟩, ⟨q4, q5⟩⟩ := hb
  simp only at p0 p1 p2 p3 p4 p5 q0 q1 q2 q3 q4 q5
  obtain ⟨m1, n1⟩ := mul_bd p2 p3 q4 q5
  obtain ⟨m2, n2⟩ := mul_bd p4 p5 q2 q3
  obtain ⟨m3, n3⟩ := mul_bd p4 p5 q0 q1
  obtain ⟨m4, n4⟩ := mul_bd p0 p1 q4 q5
  obtain ⟨m5, n5⟩ := mul_bd p0 p1 q2 q3
  obtain ⟨m6, n6⟩ := mul_bd p2 p3 q0 q1
  have HC := Lib.hid (fun (W : World) => pointOf_any p (a1 * b2 - a2 * b1) (a2 * b0 - a0 * b2) (a0 * b1 - a1 * b0) W hp (by omega) (by omega) (by omega))
  have HE : Hid (crsN p (a0, a1, a2) (b0, b1, b2) = nrm3 p (a1 * b2 - a2 * b1) (a2 * b0 - a0 * b2) (a0 * b1 - a1 * b0)) := Lib.hid rfl
  clear hp
  generalize nrm3 p (a1 * b2 - a2 * b1) (a2 * b0 - a0 * b2) (a0 * b1 - a1 * b0) = r at *
  obtain ⟨u0, u1, u2⟩ := r
  rw [HE.out]
  go_enter Try.func146, Try.ntmps146
  go_wp2_with (go_at_call 173; refine (HC.out _).mono ?_; rintro e w_ ⟨rfl, hb⟩; obtain ⟨hcb, hfb, hlb⟩ := bcell hb; have hsz := hb.size; try simp at hsz; have HB := Lib.hid hb; clear hb; try (have hl0 : w.heap.size < w_.heap.size := by omega); try (have hl1 : w.heap.size + 1 < w_.heap.size := by omega); try (have hl2 : w.heap.size + 1 + 1 < w_.heap.size := by omega))
  exact bodyPost_ret (v := ptV u0 u1 u2) (by simp [results, Try.results146, go_sem, hcb, hl0, hl1, hl2]) rfl ⟨rfl, (by repeat (first | exact Below.refl _ _ | refine bset ?_ _ _ (by omega) _ | refine bal ?_ _ | refine bdrN ?_ _ | refine bdr ?_ | refine below_tr' ?_ HB.out))⟩
theorem meet_any (p a0 a1 a2 b0 b1 b2 : Int) (w : World) (hp : prB p = true) (ha : In13 (a0, a1, a2)) (hb : In13 (b0, b1, b2)) :
    Calls Try.prog 105 #[.int .i64 p, ptV a0 a1 a2, ptV b0 b1 b2] w (Ret w (ptV (crsN p (a0, a1, a2) (b0, b1, b2)).1 (crsN p (a0, a1, a2) (b0, b1, b2)).2.1 (crsN p (a0, a1, a2) (b0, b1, b2)).2.2)) := by
  have HC := Lib.hid (fun (W : World) => cross_any p a0 a1 a2 b0 b1 b2 W hp ha hb)
  generalize crsN p (a0, a1, a2) (b0, b1, b2) = r at *
  obtain ⟨u0, u1, u2⟩ := r
  clear hp ha hb
  go_enter Try.func105, Try.ntmps105
  go_wp2_with (go_at_call 146; refine (HC.out _).mono ?_; rintro e w_ ⟨rfl, hb⟩; obtain ⟨hcb, hfb, hlb⟩ := bcell hb; have hsz := hb.size; try simp at hsz; have HB := Lib.hid hb; clear hb; try (have hl0 : w.heap.size < w_.heap.size := by omega); try (have hl1 : w.heap.size + 1 < w_.heap.size := by omega); try (have hl2 : w.heap.size + 1 + 1 < w_.heap.size := by omega))
  exact bodyPost_ret (v := ptV u0 u1 u2) (by simp [results, Try.results105, go_sem, hcb, hl0, hl1, hl2]) rfl ⟨rfl, (by repeat (first | exact Below.refl _ _ | refine bset ?_ _ _ (by omega) _ | refine bal ?_ _ | refine bdrN ?_ _ | refine bdr ?_ | refine below_tr' ?_ HB.out))⟩
theorem far_any (w : World) : Calls Try.prog 93 #[] w (Ret w (ptV 1 0 0)) := by
  go_enter Try.func93, Try.ntmps93
  go_wp2
  exact bodyPost_ret (v := ptV 1 0 0) (by simp [results, Try.results93, go_sem]) rfl ⟨rfl, (by repeat (first | exact Below.refl _ _ | refine bset ?_ _ _ (by omega) _ | refine bal ?_ _ | refine bdrN ?_ _ | refine bdr ?_))⟩
/-- Whether a point is on a line. -/
def onB (p : Int) (a l : Pt) : Bool := (a.1 * l.1 + a.2.1 * l.2.1 + a.2.2 * l.2.2) % p == 0
theorem dot_any (p a0 a1 a2 b0 b1 b2 : Int) (w : World) (hp : prB p = true) (ha : In13 (a0, a1, a2)) (hb : In13 (b0, b1, b2)) :
    Calls Try.prog 128 #[.int .i64 p, ptV a0 a1 a2, ptV b0 b1 b2] w (Ret w (.int .i64 ((a0 * b0 + a1 * b1 + a2 * b2) % p))) := by
  obtain ⟨⟨p0, p1⟩, ⟨p2, p3⟩, ⟨p4, p5⟩⟩ := ha
  obtain ⟨⟨q0, q1⟩, ⟨q2, q3⟩, ⟨q4, q5⟩⟩ := hb
  simp only at p0 p1 p2 p3 p4 p5 q0 q1 q2 q3 q4 q5
  obtain ⟨m1, n1⟩ := mul_bd p0 p1 q0 q1
  obtain ⟨m2, n2⟩ := mul_bd p2 p3 q2 q3
  obtain ⟨m3, n3⟩ := mul_bd p4 p5 q4 q5
  obtain ⟨h1, h2⟩ := prB_bd hp
  clear hp
  go_enter Try.func128, Try.ntmps128
  go_wp2_with (go_at_call 65; refine (mod_any _ _ _ (by omega) (by omega) (by omega) (by omega)).mono ?_; rintro e w' ⟨rfl, rfl⟩)
  go_ret
  exact ⟨rfl, (by repeat (first | exact Below.refl _ _ | refine bset ?_ _ _ (by omega) _ | refine bal ?_ _ | refine bdrN ?_ _ | refine bdr ?_))⟩
theorem isOn_any (p a0 a1 a2 b0 b1 b2 : Int) (w : World) (hp : prB p = true) (ha : In13 (a0, a1, a2)) (hb : In13 (b0, b1, b2)) :
    Calls Try.prog 75 #[.int .i64 p, ptV a0 a1 a2, ptV b0 b1 b2] w (Ret w (.bool (onB p (a0, a1, a2) (b0, b1, b2)))) := by
  have HC := Lib.hid (fun (W : World) => dot_any p a0 a1 a2 b0 b1 b2 W hp ha hb)
  have HE : Hid (onB p (a0, a1, a2) (b0, b1, b2) = ((a0 * b0 + a1 * b1 + a2 * b2) % p == 0)) := Lib.hid rfl
  generalize (a0 * b0 + a1 * b1 + a2 * b2) % p = d at *
  clear hp ha hb
  go_enter Try.func75, Try.ntmps75
  go_wp2_with (go_at_call 128; refine (HC.out _).mono ?_; rintro e w_ ⟨rfl, hb⟩; obtain ⟨hcb, hfb, hlb⟩ := bcell hb; have hsz := hb.size; try simp at hsz; have HB := Lib.hid hb; clear hb; try (have hl0 : w.heap.size < w_.heap.size := by omega); try (have hl1 : w.heap.size + 1 < w_.heap.size := by omega))
  go_ret
  exact ⟨ret_bool HE.out.symm, (by repeat (first | exact Below.refl _ _ | refine bset ?_ _ _ (by omega) _ | refine bal ?_ _ | refine bdrN ?_ _ | refine bdr ?_ | refine below_tr' ?_ HB.out))⟩
end Go.Proofs.Ythkbhaaodegocaa
