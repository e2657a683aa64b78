/- Contracts: the two closures of QuadranglePoint. -/
import Derived.Test.YthkbhaaodegocaaF4
import Derived.Test.YthkbhaaodegocaaF3
namespace Go.Proofs.Ythkbhaaodegocaa
open Go.RowKit
set_option linter.unusedVariables false
set_option linter.unusedSimpArgs false
theorem quad1_any (p x y z l0 l1 l2 : Int) (g0 g1 : Nat) (T0 T1 : TypeId) (w : World) (hp : prB p = true) (ha : In13 (x, y, z)) (hl : In13 (l0, l1, l2))
    (h0 : w.heap[g0]? = some (.cells #[.int .i64 p] T0 (0, 0))) (h1 : w.heap[g1]? = some (.cells #[.int .i64 l0, .int .i64 l1, .int .i64 l2] T1 (0, 0))) :
    Calls Try.prog 103 #[ptV x y z, .pointer (some ⟨g0, 0, none⟩), .pointer (some ⟨g1, 0, none⟩)] w (Ret w (.bool (!onB p (x, y, z) (l0, l1, l2)))) := by
  have HO := Lib.hid (fun (W : World) => isOn_any p x y z l0 l1 l2 W hp ha hl)
  have a0 : w.cell? ⟨g0, 0, none⟩ = some (.int .i64 p) := by rw [cell_of_row w g0 0 _ _ _ h0]; rfl
  have b0 : w.cell? ⟨g1, 0, none⟩ = some (.int .i64 l0) := by rw [cell_of_row w g1 0 _ _ _ h1]; rfl
  have b1 : w.cell? ⟨g1, 1, none⟩ = some (.int .i64 l1) := by rw [cell_of_row w g1 1 _ _ _ h1]; rfl
  have b2 : w.cell? ⟨g1, 2, none⟩ = some (.int .i64 l2) := by rw [cell_of_row w g1 2 _ _ _ h1]; rfl
  have q0 : g0 < w.heap.size := (Array.getElem?_eq_some_iff.1 h0).1
  have q1 : g1 < w.heap.size := (Array.getElem?_eq_some_iff.1 h1).1
  clear hp ha hl h0 h1
  generalize onB p (x, y, z) (l0, l1, l2) = v at *
  go_enter Try.func103, Try.ntmps103
  go_wp2_with (go_at_call 75; (with_reducible refine (HO.out _).mono ?_); rintro e w1_ ⟨rfl, hb1⟩; obtain ⟨hcb1, hfb1, hlb1⟩ := bcell hb1; have hsz1 := hb1.size; (try simp at hsz1); have HB1 := Lib.hid hb1; clear hb1; (try (have hl01 : w.heap.size < w1_.heap.size := by omega)))
  go_ret
  exact ⟨rfl, (by repeat (first | exact Below.refl _ _ | refine bset ?_ _ _ (by omega) _ | refine bal ?_ _ | refine bdrN ?_ _ | refine bdr ?_ | refine below_tr' ?_ HB1.out))⟩
set_option maxHeartbeats 1000000 in
theorem quad2_any (p x y z l0 l1 l2 a0 a1 a2 r0 r1 r2 : Int) (g0 g1 g2 g3 : Nat) (T0 T1 T2 T3 : TypeId) (w : World) (hp : prB p = true) (ha : In13 (x, y, z)) (hl : In13 (l0, l1, l2))
    (h0 : w.heap[g0]? = some (.cells #[.int .i64 p] T0 (0, 0))) (h1 : w.heap[g1]? = some (.cells #[.int .i64 l0, .int .i64 l1, .int .i64 l2] T1 (0, 0)))
    (h2 : w.heap[g2]? = some (.cells #[.int .i64 a0, .int .i64 a1, .int .i64 a2] T2 (0, 0))) (h3 : w.heap[g3]? = some (.cells #[.int .i64 r0, .int .i64 r1, .int .i64 r2] T3 (0, 0))) :
    Calls Try.prog 104 #[ptV x y z, .pointer (some ⟨g0, 0, none⟩), .pointer (some ⟨g1, 0, none⟩), .pointer (some ⟨g2, 0, none⟩), .pointer (some ⟨g3, 0, none⟩)] w
      (Ret w (.bool (onB p (x, y, z) (l0, l1, l2) && (!eqP (x, y, z) (a0, a1, a2) && !eqP (x, y, z) (r0, r1, r2))))) := by
  have HO := Lib.hid (fun (W : World) => isOn_any p x y z l0 l1 l2 W hp ha hl)
  have c0 : w.cell? ⟨g0, 0, none⟩ = some (.int .i64 p) := by rw [cell_of_row w g0 0 _ _ _ h0]; rfl
  have b0 : w.cell? ⟨g1, 0, none⟩ = some (.int .i64 l0) := by rw [cell_of_row w g1 0 _ _ _ h1]; rfl
  have b1 : w.cell? ⟨g1, 1, none⟩ = some (.int .i64 l1) := by rw [cell_of_row w g1 1 _ _ _ h1]; rfl
  have b2 : w.cell? ⟨g1, 2, none⟩ = some (.int .i64 l2) := by rw [cell_of_row w g1 2 _ _ _ h1]; rfl
  have d0 : w.cell? ⟨g2, 0, none⟩ = some (.int .i64 a0) := by rw [cell_of_row w g2 0 _ _ _ h2]; rfl
  have d1 : w.cell? ⟨g2, 1, none⟩ = some (.int .i64 a1) := by rw [cell_of_row w g2 1 _ _ _ h2]; rfl
  have d2 : w.cell? ⟨g2, 2, none⟩ = some (.int .i64 a2) := by rw [cell_of_row w g2 2 _ _ _ h2]; rfl
  have e0 : w.cell? ⟨g3, 0, none⟩ = some (.int .i64 r0) := by rw [cell_of_row w g3 0 _ _ _ h3]; rfl
  have e1 : w.cell? ⟨g3, 1, none⟩ = some (.int .i64 r1) := by rw [cell_of_row w g3 1 _ _ _ h3]; rfl
  have e2 : w.cell? ⟨g3, 2, none⟩ = some (.int .i64 r2) := by rw [cell_of_row w g3 2 _ _ _ h3]; rfl
  have q0 : g0 < w.heap.size := (Array.getElem?_eq_some_iff.1 h0).1
  have q1 : g1 < w.heap.size := (Array.getElem?_eq_some_iff.1 h1).1
  have q2 : g2 < w.heap.size := (Array.getElem?_eq_some_iff.1 h2).1
  have q3 : g3 < w.heap.size := (Array.getElem?_eq_some_iff.1 h3).1
  clear hp ha hl h0 h1 h2 h3
  generalize onB p (x, y, z) (l0, l1, l2) = v at *
  generalize hA : eqP (x, y, z) (a0, a1, a2) = u
  generalize hR : eqP (x, y, z) (r0, r1, r2) = s
  cases v with
  | false =>
    go_enter Try.func104, Try.ntmps104
    go_wp2_with (go_at_call 75; (with_reducible refine (HO.out _).mono ?_); rintro e w1_ ⟨rfl, hb1⟩; obtain ⟨hcb1, hfb1, hlb1⟩ := bcell hb1; have hsz1 := hb1.size; (try simp at hsz1); have HB1 := Lib.hid hb1; clear hb1; (try (have hl01 : w.heap.size < w1_.heap.size := by omega)))
    go_ret
    exact ⟨rfl, (by repeat (first | exact Below.refl _ _ | refine bset ?_ _ _ (by omega) _ | refine bal ?_ _ | refine bdrN ?_ _ | refine bdr ?_ | refine below_tr' ?_ HB1.out))⟩
  | true =>
    cases u with
    | true =>
      go_enter Try.func104, Try.ntmps104
      go_wp2_with (go_at_call 75; (with_reducible refine (HO.out _).mono ?_); rintro e w1_ ⟨rfl, hb1⟩; obtain ⟨hcb1, hfb1, hlb1⟩ := bcell hb1; have hsz1 := hb1.size; (try simp at hsz1); have HB1 := Lib.hid hb1; clear hb1; (try (have hl01 : w.heap.size < w1_.heap.size := by omega)))
      go_ret
      exact ⟨rfl, (by repeat (first | exact Below.refl _ _ | refine bset ?_ _ _ (by omega) _ | refine bal ?_ _ | refine bdrN ?_ _ | refine bdr ?_ | refine below_tr' ?_ HB1.out))⟩
    | false =>
      cases s with
      | true =>
        go_enter Try.func104, Try.ntmps104
        go_wp2_with (go_at_call 75; (with_reducible refine (HO.out _).mono ?_); rintro e w1_ ⟨rfl, hb1⟩; obtain ⟨hcb1, hfb1, hlb1⟩ := bcell hb1; have hsz1 := hb1.size; (try simp at hsz1); have HB1 := Lib.hid hb1; clear hb1; (try (have hl01 : w.heap.size < w1_.heap.size := by omega)))
        go_ret
        exact ⟨rfl, (by repeat (first | exact Below.refl _ _ | refine bset ?_ _ _ (by omega) _ | refine bal ?_ _ | refine bdrN ?_ _ | refine bdr ?_ | refine below_tr' ?_ HB1.out))⟩
      | false =>
        go_enter Try.func104, Try.ntmps104
        go_wp2_with (go_at_call 75; (with_reducible refine (HO.out _).mono ?_); rintro e w1_ ⟨rfl, hb1⟩; obtain ⟨hcb1, hfb1, hlb1⟩ := bcell hb1; have hsz1 := hb1.size; (try simp at hsz1); have HB1 := Lib.hid hb1; clear hb1; (try (have hl01 : w.heap.size < w1_.heap.size := by omega)))
        go_ret
        exact ⟨rfl, (by repeat (first | exact Below.refl _ _ | refine bset ?_ _ _ (by omega) _ | refine bal ?_ _ | refine bdrN ?_ _ | refine bdr ?_ | refine below_tr' ?_ HB1.out))⟩
end Go.Proofs.Ythkbhaaodegocaa
