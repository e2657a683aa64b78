/- Contracts: three points of a line. -/
import Derived.Test.YthkbhaaodegocaaC1
namespace Go.Proofs.Ythkbhaaodegocaa
open Go.RowKit
set_option linter.unusedVariables false
set_option linter.unusedSimpArgs false
/-- Three different points of one line. -/
def threeB (p : Int) (a b c : Pt) : Bool := !eqP a b && (!eqP a c && (!eqP b c && detZ a b c % p == 0))
set_option maxHeartbeats 1000000 in
theorem l01Three_any (p a0 a1 a2 b0 b1 b2 c0 c1 c2 : Int) (w : World) (hp : prB p = true) (ha : In13 (a0, a1, a2)) (hb : In13 (b0, b1, b2)) (hc : In13 (c0, c1, c2)) :
    Calls Try.prog 95 #[.int .i64 p, ptV a0 a1 a2, ptV b0 b1 b2, ptV c0 c1 c2] w (Ret w (.bool (threeB p (a0, a1, a2) (b0, b1, b2) (c0, c1, c2)))) := by
  have HC := Lib.hid (fun (W : World) => l01Det_any p a0 a1 a2 b0 b1 b2 c0 c1 c2 W hp ha hb hc)
  have HE0 : threeB p (a0, a1, a2) (b0, b1, b2) (c0, c1, c2) = (!eqP (a0, a1, a2) (b0, b1, b2) && (!eqP (a0, a1, a2) (c0, c1, c2) && (!eqP (b0, b1, b2) (c0, c1, c2) && detZ (a0, a1, a2) (b0, b1, b2) (c0, c1, c2) % p == 0))) := rfl
  generalize detZ (a0, a1, a2) (b0, b1, b2) (c0, c1, c2) % p = d at *
  clear hp ha hb hc
  cases e1 : eqP (a0, a1, a2) (b0, b1, b2) with
  | true =>
    have HE := Lib.hid (show threeB p (a0, a1, a2) (b0, b1, b2) (c0, c1, c2) = false by rw [HE0, e1]; rfl)
    clear HE0 HC
    go_enter Try.func95, Try.ntmps95
    go_wp2
    go_ret
    exact ⟨ret_bool HE.out.symm, (by repeat (first | exact Below.refl _ _ | refine bset ?_ _ _ (by omega) _ | refine bal ?_ _ | refine bdrN ?_ _ | refine bdr ?_))⟩
  | false =>
    cases e2 : eqP (a0, a1, a2) (c0, c1, c2) with
    | true =>
      have HE := Lib.hid (show threeB p (a0, a1, a2) (b0, b1, b2) (c0, c1, c2) = false by rw [HE0, e1, e2]; rfl)
      clear HE0 HC
      go_enter Try.func95, Try.ntmps95
      go_wp2
      go_ret
      exact ⟨ret_bool HE.out.symm, (by repeat (first | exact Below.refl _ _ | refine bset ?_ _ _ (by omega) _ | refine bal ?_ _ | refine bdrN ?_ _ | refine bdr ?_))⟩
    | false =>
      cases e3 : eqP (b0, b1, b2) (c0, c1, c2) with
      | true =>
        have HE := Lib.hid (show threeB p (a0, a1, a2) (b0, b1, b2) (c0, c1, c2) = false by rw [HE0, e1, e2, e3]; rfl)
        clear HE0 HC
        go_enter Try.func95, Try.ntmps95
        go_wp2
        go_ret
        exact ⟨ret_bool HE.out.symm, (by repeat (first | exact Below.refl _ _ | refine bset ?_ _ _ (by omega) _ | refine bal ?_ _ | refine bdrN ?_ _ | refine bdr ?_))⟩
      | false =>
        have HE := Lib.hid (show threeB p (a0, a1, a2) (b0, b1, b2) (c0, c1, c2) = (d == 0) by rw [HE0, e1, e2, e3]; rfl)
        clear HE0
        go_enter Try.func95, Try.ntmps95
        go_wp2_with (go_at_call 120; (with_reducible refine (HC.out _).mono ?_); rintro e w1_ ⟨rfl, hb1⟩; obtain ⟨hcb1, hfb1, hlb1⟩ := bcell hb1; have hsz1 := hb1.size; (try simp at hsz1); have HB1 := Lib.hid hb1; clear hb1; (try (have hl01 : w.heap.size < w1_.heap.size := by omega)); (try (have hl11 : w.heap.size + 1 < w1_.heap.size := by omega)); (try (have hl21 : w.heap.size + 1 + 1 < w1_.heap.size := by omega)))
        go_ret
        exact ⟨ret_bool HE.out.symm, (by repeat (first | exact Below.refl _ _ | refine bset ?_ _ _ (by omega) _ | refine bal ?_ _ | refine bdrN ?_ _ | refine bdr ?_ | refine below_tr' ?_ HB1.out))⟩
set_option maxHeartbeats 1000000 in
theorem areThree_any (p a0 a1 a2 b0 b1 b2 c0 c1 c2 : Int) (w : World) (hp : prB p = true) (ha : In13 (a0, a1, a2)) (hb : In13 (b0, b1, b2)) (hc : In13 (c0, c1, c2)) :
    Calls Try.prog 100 #[.int .i64 p, ptV a0 a1 a2, ptV b0 b1 b2, ptV c0 c1 c2] w (Ret w (.bool (threeB p (a0, a1, a2) (b0, b1, b2) (c0, c1, c2)))) := by
  have HC := Lib.hid (fun (W : World) => collinear_any p a0 a1 a2 b0 b1 b2 c0 c1 c2 W hp ha hb hc)
  have HE0 : threeB p (a0, a1, a2) (b0, b1, b2) (c0, c1, c2) = (!eqP (a0, a1, a2) (b0, b1, b2) && (!eqP (a0, a1, a2) (c0, c1, c2) && (!eqP (b0, b1, b2) (c0, c1, c2) && detZ (a0, a1, a2) (b0, b1, b2) (c0, c1, c2) % p == 0))) := rfl
  generalize detZ (a0, a1, a2) (b0, b1, b2) (c0, c1, c2) % p = d at *
  clear hp ha hb hc
  cases e1 : eqP (a0, a1, a2) (b0, b1, b2) with
  | true =>
    have HE := Lib.hid (show threeB p (a0, a1, a2) (b0, b1, b2) (c0, c1, c2) = false by rw [HE0, e1]; rfl)
    clear HE0 HC
    go_enter Try.func100, Try.ntmps100
    go_wp2
    go_ret
    exact ⟨ret_bool HE.out.symm, (by repeat (first | exact Below.refl _ _ | refine bset ?_ _ _ (by omega) _ | refine bal ?_ _ | refine bdrN ?_ _ | refine bdr ?_))⟩
  | false =>
    cases e2 : eqP (a0, a1, a2) (c0, c1, c2) with
    | true =>
      have HE := Lib.hid (show threeB p (a0, a1, a2) (b0, b1, b2) (c0, c1, c2) = false by rw [HE0, e1, e2]; rfl)
      clear HE0 HC
      go_enter Try.func100, Try.ntmps100
      go_wp2
      go_ret
      exact ⟨ret_bool HE.out.symm, (by repeat (first | exact Below.refl _ _ | refine bset ?_ _ _ (by omega) _ | refine bal ?_ _ | refine bdrN ?_ _ | refine bdr ?_))⟩
    | false =>
      cases e3 : eqP (b0, b1, b2) (c0, c1, c2) with
      | true =>
        have HE := Lib.hid (show threeB p (a0, a1, a2) (b0, b1, b2) (c0, c1, c2) = false by rw [HE0, e1, e2, e3]; rfl)
        clear HE0 HC
        go_enter Try.func100, Try.ntmps100
        go_wp2
        go_ret
        exact ⟨ret_bool HE.out.symm, (by repeat (first | exact Below.refl _ _ | refine bset ?_ _ _ (by omega) _ | refine bal ?_ _ | refine bdrN ?_ _ | refine bdr ?_))⟩
      | false =>
        have HE := Lib.hid (show threeB p (a0, a1, a2) (b0, b1, b2) (c0, c1, c2) = (d == 0) by rw [HE0, e1, e2, e3]; rfl)
        clear HE0
        go_enter Try.func100, Try.ntmps100
        go_wp2_with (go_at_call 121; (with_reducible refine (HC.out _).mono ?_); rintro e w1_ ⟨rfl, hb1⟩; obtain ⟨hcb1, hfb1, hlb1⟩ := bcell hb1; have hsz1 := hb1.size; (try simp at hsz1); have HB1 := Lib.hid hb1; clear hb1; (try (have hl01 : w.heap.size < w1_.heap.size := by omega)); (try (have hl11 : w.heap.size + 1 < w1_.heap.size := by omega)); (try (have hl21 : w.heap.size + 1 + 1 < w1_.heap.size := by omega)))
        go_ret
        exact ⟨ret_bool HE.out.symm, (by repeat (first | exact Below.refl _ _ | refine bset ?_ _ _ (by omega) _ | refine bal ?_ _ | refine bdrN ?_ _ | refine bdr ?_ | refine below_tr' ?_ HB1.out))⟩
end Go.Proofs.Ythkbhaaodegocaa
