/- Contracts: joins; what is made of three numbers. -/
import Derived.Test.YthkbhaaodegocaaA1
import Derived.Test.YthkbhaaodegocaaRegS
namespace Go.Proofs.Ythkbhaaodegocaa
open Go.RowKit
set_option linter.unusedVariables false
set_option linter.unusedSimpArgs false
theorem nz3 {p x y z : Int} (h : nzB p [x, y, z] = false) : x % p = 0 ∧ y % p = 0 ∧ z % p = 0 := by
  unfold nzB zerosB at h
  simp at h
  exact h
theorem made_fst (p x y z : Int) : (made p x y z).1 = nrm3 p x y z := by
  unfold made
  cases h : nzB p [x, y, z] with
  | true => rfl
  | false =>
    obtain ⟨a, b, c⟩ := nz3 h
    unfold nrm3
    rw [a, b, c]
    simp
theorem crsN_in' {p : Int} {a b : Pt} (hp : prB p = true) : In13 ((crsN p a b).1, (crsN p a b).2.1, (crsN p a b).2.2) := by
  obtain ⟨h1, h2⟩ := prB_bd hp
  have k : ∀ x : Int, 0 ≤ x % p ∧ x % p ≤ 12 := fun x => ⟨Int.emod_nonneg _ (by omega), by have := Int.emod_lt_of_pos x (show 0 < p by omega); omega⟩
  exact ⟨k _, k _, k _⟩
theorem in13' {p x y z : Int} (h : ptB p x y z = true) : In13 (x, y, z) := by
  obtain ⟨hp, f1, f2, f3, _⟩ := pt_facts h
  obtain ⟨h1, h2⟩ := prB_bd hp
  exact ⟨⟨by simp only; omega, by simp only; omega⟩, ⟨by simp only; omega, by simp only; omega⟩, by simp only; omega, by simp only; omega⟩
theorem in13_far : In13 (1, 0, 0) := ⟨⟨by decide, by decide⟩, ⟨by decide, by decide⟩, by decide, by decide⟩
/-- Whether two points have a line, two lines a point. -/
def okC (p : Int) (a b : Pt) : Bool := (madeC p a b).2
theorem l01Meet_crs (p a0 a1 a2 b0 b1 b2 : Int) (w : World) (hp : prB p = true) (ha : In13 (a0, a1, a2)) (hb : In13 (b0, b1, b2)) :
    Calls Try.prog 98 #[.int .i64 p, ptV a0 a1 a2, ptV b0 b1 b2] w (Ret w (.tuple #[ptV (crsN p (a0, a1, a2) (b0, b1, b2)).1 (crsN p (a0, a1, a2) (b0, b1, b2)).2.1 (crsN p (a0, a1, a2) (b0, b1, b2)).2.2, .bool (okC p (a0, a1, a2) (b0, b1, b2))])) := by
  have h := l01Meet_any p a0 a1 a2 b0 b1 b2 w hp ha hb
  have e : (madeC p (a0, a1, a2) (b0, b1, b2)).1 = crsN p (a0, a1, a2) (b0, b1, b2) := made_fst _ _ _ _
  rw [e] at h
  exact h
theorem l01Join_any (p a0 a1 a2 b0 b1 b2 : Int) (w : World) (hp : prB p = true) (ha : In13 (a0, a1, a2)) (hb : In13 (b0, b1, b2)) :
    Calls Try.prog 96 #[.int .i64 p, ptV a0 a1 a2, ptV b0 b1 b2] w (Ret w (.tuple #[ptV (madeC p (a0, a1, a2) (b0, b1, b2)).1.1 (madeC p (a0, a1, a2) (b0, b1, b2)).1.2.1 (madeC p (a0, a1, a2) (b0, b1, b2)).1.2.2, .bool (madeC p (a0, a1, a2) (b0, b1, b2)).2])) := by
  have HC := Lib.hid (fun (W : World) => l01Cross_any p a0 a1 a2 b0 b1 b2 W hp ha hb)
  generalize madeC p (a0, a1, a2) (b0, b1, b2) = r at *
  obtain ⟨⟨u0, u1, u2⟩, c⟩ := r
  clear hp ha hb
  go_enter Try.func96, Try.ntmps96
  go_wp2_with (go_at_call 142; refine (HC.out _).mono ?_; rintro e w_ ⟨rfl, hb⟩; obtain ⟨hcb, hfb, hlb⟩ := bcell hb; have hsz := hb.size; try simp at hsz; have HB := Lib.hid hb; clear hb; try (have hl0 : w.heap.size < w_.heap.size := by omega); try (have hl1 : w.heap.size + 1 < w_.heap.size := by omega); try (have hl2 : w.heap.size + 1 + 1 < w_.heap.size := by omega))
  exact bodyPost_ret (v := .tuple #[ptV u0 u1 u2, .bool c]) (by simp [results, Try.results96, go_sem, hcb, hl0, hl1, hl2]) rfl ⟨rfl, (by repeat (first | exact Below.refl _ _ | refine bset ?_ _ _ (by omega) _ | refine bal ?_ _ | refine bdrN ?_ _ | refine bdr ?_ | refine below_tr' ?_ HB.out))⟩
theorem l01Join_crs (p a0 a1 a2 b0 b1 b2 : Int) (w : World) (hp : prB p = true) (ha : In13 (a0, a1, a2)) (hb : In13 (b0, b1, b2)) :
    Calls Try.prog 96 #[.int .i64 p, ptV a0 a1 a2, ptV b0 b1 b2] w (Ret w (.tuple #[ptV (crsN p (a0, a1, a2) (b0, b1, b2)).1 (crsN p (a0, a1, a2) (b0, b1, b2)).2.1 (crsN p (a0, a1, a2) (b0, b1, b2)).2.2, .bool (okC p (a0, a1, a2) (b0, b1, b2))])) := by
  have h := l01Join_any p a0 a1 a2 b0 b1 b2 w hp ha hb
  have e : (madeC p (a0, a1, a2) (b0, b1, b2)).1 = crsN p (a0, a1, a2) (b0, b1, b2) := made_fst _ _ _ _
  rw [e] at h
  exact h
theorem join_any (p a0 a1 a2 b0 b1 b2 : Int) (w : World) (hp : prB p = true) (ha : In13 (a0, a1, a2)) (hb : In13 (b0, b1, b2)) :
    Calls Try.prog 101 #[.int .i64 p, ptV a0 a1 a2, ptV b0 b1 b2] w (Ret w (ptV (crsN p (a0, a1, a2) (b0, b1, b2)).1 (crsN p (a0, a1, a2) (b0, b1, b2)).2.1 (crsN p (a0, a1, a2) (b0, b1, b2)).2.2)) := by
  have HC := Lib.hid (fun (W : World) => cross_any p a0 a1 a2 b0 b1 b2 W hp ha hb)
  generalize crsN p (a0, a1, a2) (b0, b1, b2) = r at *
  obtain ⟨u0, u1, u2⟩ := r
  clear hp ha hb
  go_enter Try.func101, Try.ntmps101
  go_wp2_with (go_at_call 146; refine (HC.out _).mono ?_; rintro e w_ ⟨rfl, hb⟩; obtain ⟨hcb, hfb, hlb⟩ := bcell hb; have hsz := hb.size; try simp at hsz; have HB := Lib.hid hb; clear hb; try (have hl0 : w.heap.size < w_.heap.size := by omega); try (have hl1 : w.heap.size + 1 < w_.heap.size := by omega); try (have hl2 : w.heap.size + 1 + 1 < w_.heap.size := by omega))
  exact bodyPost_ret (v := ptV u0 u1 u2) (by simp [results, Try.results101, go_sem, hcb, hl0, hl1, hl2]) rfl ⟨rfl, (by repeat (first | exact Below.refl _ _ | refine bset ?_ _ _ (by omega) _ | refine bal ?_ _ | refine bdrN ?_ _ | refine bdr ?_ | refine below_tr' ?_ HB.out))⟩
end Go.Proofs.Ythkbhaaodegocaa
