/- Contracts: comparisons of points and lines; lists that may be empty. -/
import Derived.Test.YthkbhaaodegocaaG2
import Derived.Test.YthkbhaaodegocaaG2L
namespace Go.Proofs.Ythkbhaaodegocaa
open Go.RowKit
set_option linter.unusedVariables false
set_option linter.unusedSimpArgs false
/-- Two numbers compared. -/
def cmpI (a b : Int) : Int := if a < b then -1 else if b < a then 1 else 0
def cmpP (a b : Pt) : Int := if cmpI a.1 b.1 = 0 then (if cmpI a.2.1 b.2.1 = 0 then cmpI a.2.2 b.2.2 else cmpI a.2.1 b.2.1) else cmpI a.1 b.1
def befB (a b : Pt) : Bool := if a.1 = b.1 then (if a.2.1 = b.2.1 then decide (a.2.2 < b.2.2) else decide (a.2.1 < b.2.1)) else decide (a.1 < b.1)
theorem cmpI_zero (a b : Int) : cmpI a b = 0 ↔ a = b := by unfold cmpI; constructor <;> intro h <;> repeat (first | omega | split at h | split)
theorem cmpI_neg (a b : Int) : cmpI a b < 0 ↔ a < b := by unfold cmpI; constructor <;> intro h <;> repeat (first | omega | split at h | split)
theorem cmpP_bef (a b : Pt) : decide (0 ≤ cmpP a b) = !befB a b := by
  have h : cmpP a b < 0 ↔ befB a b = true := by
    unfold cmpP befB
    simp only [cmpI_zero]
    repeat (first | (simp only [cmpI_neg, decide_eq_true_eq]) | split)
  cases hb : befB a b with
  | true => simp; exact h.2 hb
  | false => simp; exact Int.not_lt.1 (fun hc => by rw [h.1 hc] at hb; cases hb)
theorem cmpI_range (a b : Int) : -1 ≤ cmpI a b ∧ cmpI a b ≤ 1 := by unfold cmpI; repeat (first | omega | split)
theorem isNaN_any (x : Int) (w : World) : Calls Try.prog 187 #[.int .i64 x] w fun e w' => e = .returned (.bool false) ∧ w = w' := by
  go_enter Try.func187, Try.ntmps187
  go_wp2
  go_ret
  exact ⟨by simp, rfl⟩
theorem cmpCompare_any (x y : Int) (w : World) : Calls Try.prog 186 #[.int .i64 x, .int .i64 y] w fun e w' => e = .returned (.int .i64 (cmpI x y)) ∧ w = w' := by
  by_cases h1 : x < y
  · have HR : Hid (cmpI x y = -1) := Lib.hid (by unfold cmpI; rw [if_pos h1])
    go_enter Try.func186, Try.ntmps186
    go_wp2_with (go_at_call 187; refine (isNaN_any _ _).mono ?_; rintro e w' ⟨rfl, rfl⟩)
    go_ret
    exact ⟨ret_int HR.out.symm, rfl⟩
  · by_cases h2 : y < x
    · have HR : Hid (cmpI x y = 1) := Lib.hid (by unfold cmpI; rw [if_neg h1, if_pos h2])
      go_enter Try.func186, Try.ntmps186
      go_wp2_with (go_at_call 187; refine (isNaN_any _ _).mono ?_; rintro e w' ⟨rfl, rfl⟩)
      go_ret
      exact ⟨ret_int HR.out.symm, rfl⟩
    · have HR : Hid (cmpI x y = 0) := Lib.hid (by unfold cmpI; rw [if_neg h1, if_neg h2])
      go_enter Try.func186, Try.ntmps186
      go_wp2_with (go_at_call 187; refine (isNaN_any _ _).mono ?_; rintro e w' ⟨rfl, rfl⟩)
      go_ret
      exact ⟨ret_int HR.out.symm, rfl⟩
theorem slicesCompare_any (g1 g2 : Nat) (x0 x1 x2 y0 y1 y2 : Int) (w : World)
    (c0 : w.cell? ⟨g1, 0, none⟩ = some (.int .i64 x0)) (c1 : w.cell? ⟨g1, 1, none⟩ = some (.int .i64 x1)) (c2 : w.cell? ⟨g1, 2, none⟩ = some (.int .i64 x2))
    (e0 : w.cell? ⟨g2, 0, none⟩ = some (.int .i64 y0)) (e1 : w.cell? ⟨g2, 1, none⟩ = some (.int .i64 y1)) (e2 : w.cell? ⟨g2, 2, none⟩ = some (.int .i64 y2)) :
    Calls Try.prog 184 #[.slice (some ⟨g1, 0, none⟩) 3 3, .slice (some ⟨g2, 0, none⟩) 3 3] w fun e w' => e = .returned (.int .i64 (cmpP (x0, x1, x2) (y0, y1, y2))) ∧ w = w' := by
  have H0 := Lib.hid (fun (W : World) => cmpCompare_any x0 y0 W)
  have H1 := Lib.hid (fun (W : World) => cmpCompare_any x1 y1 W)
  have H2 := Lib.hid (fun (W : World) => cmpCompare_any x2 y2 W)
  have HR : Hid (cmpP (x0, x1, x2) (y0, y1, y2) = if cmpI x0 y0 = 0 then (if cmpI x1 y1 = 0 then cmpI x2 y2 else cmpI x1 y1) else cmpI x0 y0) := Lib.hid rfl
  generalize cmpP (x0, x1, x2) (y0, y1, y2) = r at *
  generalize cmpI x0 y0 = k0 at *
  generalize cmpI x1 y1 = k1 at *
  generalize cmpI x2 y2 = k2 at *
  by_cases h0 : k0 = 0
  · subst h0
    by_cases h1 : k1 = 0
    · subst h1
      have HR2 : Hid (r = k2) := Lib.hid (by have := HR.out; simpa using this)
      clear HR
      by_cases h2 : k2 = 0
      · subst h2
        go_enter Try.func184, Try.ntmps184
        go_wp2
        refine wp_loop_rounds 4 ?_
        iterate 4 (rw [rounds_succ]; go_wp2_with (first | (go_at_call 186; (with_reducible refine (H0.out _).mono ?_); rintro e w' ⟨rfl, rfl⟩) | (go_at_call 186; (with_reducible refine (H1.out _).mono ?_); rintro e w' ⟨rfl, rfl⟩) | (go_at_call 186; (with_reducible refine (H2.out _).mono ?_); rintro e w' ⟨rfl, rfl⟩)))
        go_ret
        exact ⟨ret_int HR2.out.symm, rfl⟩
      · go_enter Try.func184, Try.ntmps184
        go_wp2
        refine wp_loop_rounds 4 ?_
        iterate 3 (rw [rounds_succ]; go_wp2_with (first | (go_at_call 186; (with_reducible refine (H0.out _).mono ?_); rintro e w' ⟨rfl, rfl⟩) | (go_at_call 186; (with_reducible refine (H1.out _).mono ?_); rintro e w' ⟨rfl, rfl⟩) | (go_at_call 186; (with_reducible refine (H2.out _).mono ?_); rintro e w' ⟨rfl, rfl⟩)))
        go_ret
        exact ⟨ret_int HR2.out.symm, rfl⟩
    · have HR2 : Hid (r = k1) := Lib.hid (by have := HR.out; simpa [h1] using this)
      clear HR
      go_enter Try.func184, Try.ntmps184
      go_wp2
      refine wp_loop_rounds 4 ?_
      iterate 2 (rw [rounds_succ]; go_wp2_with (first | (go_at_call 186; (with_reducible refine (H0.out _).mono ?_); rintro e w' ⟨rfl, rfl⟩) | (go_at_call 186; (with_reducible refine (H1.out _).mono ?_); rintro e w' ⟨rfl, rfl⟩) | (go_at_call 186; (with_reducible refine (H2.out _).mono ?_); rintro e w' ⟨rfl, rfl⟩)))
      go_ret
      exact ⟨ret_int HR2.out.symm, rfl⟩
  · have HR2 : Hid (r = k0) := Lib.hid (by have := HR.out; simpa [h0] using this)
    clear HR
    go_enter Try.func184, Try.ntmps184
    go_wp2
    refine wp_loop_rounds 4 ?_
    iterate 1 (rw [rounds_succ]; go_wp2_with (first | (go_at_call 186; (with_reducible refine (H0.out _).mono ?_); rintro e w' ⟨rfl, rfl⟩) | (go_at_call 186; (with_reducible refine (H1.out _).mono ?_); rintro e w' ⟨rfl, rfl⟩) | (go_at_call 186; (with_reducible refine (H2.out _).mono ?_); rintro e w' ⟨rfl, rfl⟩)))
    go_ret
    exact ⟨ret_int HR2.out.symm, rfl⟩
theorem l07Before_any (x0 x1 x2 y0 y1 y2 : Int) (w : World) : Calls Try.prog 175 #[ptV x0 x1 x2, ptV y0 y1 y2] w (Ret w (.bool (befB (x0, x1, x2) (y0, y1, y2)))) := by
  by_cases h0 : x0 = y0
  · subst h0
    by_cases h1 : x1 = y1
    · subst h1
      by_cases h2 : x2 = y2
      · subst h2
        have HR : Hid (befB (x0, x1, x2) (x0, x1, x2) = false) := Lib.hid (by simp [befB])
        go_enter Try.func175, Try.ntmps175
        go_wp2
        refine wp_loop_rounds 4 ?_
        iterate 3 (rw [rounds_succ]; go_wp2; go_quiet (fail); go_wp2)
        rw [rounds_succ]; go_wp2
        go_ret
        exact ⟨ret_bool HR.out.symm, (by repeat (first | exact Below.refl _ _ | refine bset ?_ _ _ (by omega) _ | refine bal ?_ _ | refine bdrN ?_ _ | refine bdr ?_))⟩
      · have hne : (x2 == y2) = false := by simpa using h2
        have HR : Hid (befB (x0, x1, x2) (x0, x1, y2) = decide (x2 < y2)) := Lib.hid (by simp [befB])
        go_enter Try.func175, Try.ntmps175
        go_wp2
        refine wp_loop_rounds 4 ?_
        iterate 3 (rw [rounds_succ]; go_wp2; go_quiet (fail); go_wp2)
        go_quiet (fail)
        go_wp2
        go_ret
        exact ⟨ret_bool HR.out.symm, (by repeat (first | exact Below.refl _ _ | refine bset ?_ _ _ (by omega) _ | refine bal ?_ _ | refine bdrN ?_ _ | refine bdr ?_))⟩
    · have hne : (x1 == y1) = false := by simpa using h1
      have HR : Hid (befB (x0, x1, x2) (x0, y1, y2) = decide (x1 < y1)) := Lib.hid (by simp [befB, h1])
      go_enter Try.func175, Try.ntmps175
      go_wp2
      refine wp_loop_rounds 4 ?_
      iterate 2 (rw [rounds_succ]; go_wp2; go_quiet (fail); go_wp2)
      go_quiet (fail)
      go_wp2
      go_ret
      exact ⟨ret_bool HR.out.symm, (by repeat (first | exact Below.refl _ _ | refine bset ?_ _ _ (by omega) _ | refine bal ?_ _ | refine bdrN ?_ _ | refine bdr ?_))⟩
  · have hne : (x0 == y0) = false := by simpa using h0
    have HR : Hid (befB (x0, x1, x2) (y0, y1, y2) = decide (x0 < y0)) := Lib.hid (by simp [befB, h0])
    go_enter Try.func175, Try.ntmps175
    go_wp2
    refine wp_loop_rounds 4 ?_
    iterate 1 (rw [rounds_succ]; go_wp2; go_quiet (fail); go_wp2)
    go_quiet (fail)
    go_wp2
    go_ret
    exact ⟨ret_bool HR.out.symm, (by repeat (first | exact Below.refl _ _ | refine bset ?_ _ _ (by omega) _ | refine bal ?_ _ | refine bdrN ?_ _ | refine bdr ?_))⟩
end Go.Proofs.Ythkbhaaodegocaa
