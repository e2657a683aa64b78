/- Texts of the claim, in build order: K1, K2, K3, OpF. No condition. -/
import Derived.Test.YtidbikjdigemnaaZDegreesOfFigure4
/- Contracts: comparisons of points and lines; lists that may be empty. -/
namespace Go.Proofs.Ytidbikjdigemnaa
open Go.RowKit
set_option linter.unusedVariables false
set_option linter.unusedSimpArgs false
/-- Two numbers compared. -/
def cmpI (a b : Int) : Int := if a < b then -1 else if b < a then 1 else 0
def cmpP (a b : Pt) : Int := if cmpI a.1 b.1 = 0 then (if cmpI a.2.1 b.2.1 = 0 then cmpI a.2.2 b.2.2 else cmpI a.2.1 b.2.1) else cmpI a.1 b.1
def befB (a b : Pt) : Bool := if a.1 = b.1 then (if a.2.1 = b.2.1 then decide (a.2.2 < b.2.2) else decide (a.2.1 < b.2.1)) else decide (a.1 < b.1)
theorem cmpI_zero (a b : Int) : cmpI a b = 0 ↔ a = b := by unfold cmpI; constructor <;> intro h <;> repeat (first | omega | split at h | split)
theorem cmpI_neg (a b : Int) : cmpI a b < 0 ↔ a < b := by unfold cmpI; constructor <;> intro h <;> repeat (first | omega | split at h | split)
theorem cmpP_bef (a b : Pt) : decide (0 ≤ cmpP a b) = !befB a b := by
  have h : cmpP a b < 0 ↔ befB a b = true := by
    unfold cmpP befB
    simp only [cmpI_zero]
    repeat (first | (simp only [cmpI_neg, decide_eq_true_eq]) | split)
  cases hb : befB a b with
  | true => simp; exact h.2 hb
  | false => simp; exact Int.not_lt.1 (fun hc => by rw [h.1 hc] at hb; cases hb)
theorem cmpI_range (a b : Int) : -1 ≤ cmpI a b ∧ cmpI a b ≤ 1 := by unfold cmpI; repeat (first | omega | split)
theorem isNaN_any (x : Int) (w : World) : Calls Try.prog 79 #[.int .i64 x] w fun e w' => e = .returned (.bool false) ∧ w = w' := by
  go_enter Try.func79, Try.ntmps79
  go_wp2
  go_ret
  exact ⟨by simp, rfl⟩
theorem cmpCompare_any (x y : Int) (w : World) : Calls Try.prog 77 #[.int .i64 x, .int .i64 y] w fun e w' => e = .returned (.int .i64 (cmpI x y)) ∧ w = w' := by
  by_cases h1 : x < y
  · have HR : Hid (cmpI x y = -1) := Lib.hid (by unfold cmpI; rw [if_pos h1])
    go_enter Try.func77, Try.ntmps77
    go_wp2_with (go_at_call 79; refine (isNaN_any _ _).mono ?_; rintro e w' ⟨rfl, rfl⟩)
    go_ret
    exact ⟨ret_int HR.out.symm, rfl⟩
  · by_cases h2 : y < x
    · have HR : Hid (cmpI x y = 1) := Lib.hid (by unfold cmpI; rw [if_neg h1, if_pos h2])
      go_enter Try.func77, Try.ntmps77
      go_wp2_with (go_at_call 79; refine (isNaN_any _ _).mono ?_; rintro e w' ⟨rfl, rfl⟩)
      go_ret
      exact ⟨ret_int HR.out.symm, rfl⟩
    · have HR : Hid (cmpI x y = 0) := Lib.hid (by unfold cmpI; rw [if_neg h1, if_neg h2])
      go_enter Try.func77, Try.ntmps77
      go_wp2_with (go_at_call 79; refine (isNaN_any _ _).mono ?_; rintro e w' ⟨rfl, rfl⟩)
      go_ret
      exact ⟨ret_int HR.out.symm, rfl⟩
theorem slicesCompare_any (g1 g2 : Nat) (x0 x1 x2 y0 y1 y2 : Int) (w : World)
    (c0 : w.cell? ⟨g1, 0, none⟩ = some (.int .i64 x0)) (c1 : w.cell? ⟨g1, 1, none⟩ = some (.int .i64 x1)) (c2 : w.cell? ⟨g1, 2, none⟩ = some (.int .i64 x2))
    (e0 : w.cell? ⟨g2, 0, none⟩ = some (.int .i64 y0)) (e1 : w.cell? ⟨g2, 1, none⟩ = some (.int .i64 y1)) (e2 : w.cell? ⟨g2, 2, none⟩ = some (.int .i64 y2)) :
    Calls Try.prog 74 #[.slice (some ⟨g1, 0, none⟩) 3 3, .slice (some ⟨g2, 0, none⟩) 3 3] w fun e w' => e = .returned (.int .i64 (cmpP (x0, x1, x2) (y0, y1, y2))) ∧ w = w' := by
  have H0 := Lib.hid (fun (W : World) => cmpCompare_any x0 y0 W)
  have H1 := Lib.hid (fun (W : World) => cmpCompare_any x1 y1 W)
  have H2 := Lib.hid (fun (W : World) => cmpCompare_any x2 y2 W)
  have HR : Hid (cmpP (x0, x1, x2) (y0, y1, y2) = if cmpI x0 y0 = 0 then (if cmpI x1 y1 = 0 then cmpI x2 y2 else cmpI x1 y1) else cmpI x0 y0) := Lib.hid rfl
  generalize cmpP (x0, x1, x2) (y0, y1, y2) = r at *
  generalize cmpI x0 y0 = k0 at *
  generalize cmpI x1 y1 = k1 at *
  generalize cmpI x2 y2 = k2 at *
  by_cases h0 : k0 = 0
  · subst h0
    by_cases h1 : k1 = 0
    · subst h1
      have HR2 : Hid (r = k2) := Lib.hid (by have := HR.out; simpa using this)
      clear HR
      by_cases h2 : k2 = 0
      · subst h2
        go_enter Try.func74, Try.ntmps74
        go_wp2
        refine wp_loop_rounds 4 ?_
        iterate 4 (rw [rounds_succ]; go_wp2_with (first | (go_at_call 77; (with_reducible refine (H0.out _).mono ?_); rintro e w' ⟨rfl, rfl⟩) | (go_at_call 77; (with_reducible refine (H1.out _).mono ?_); rintro e w' ⟨rfl, rfl⟩) | (go_at_call 77; (with_reducible refine (H2.out _).mono ?_); rintro e w' ⟨rfl, rfl⟩)))
        go_ret
        exact ⟨ret_int HR2.out.symm, rfl⟩
      · go_enter Try.func74, Try.ntmps74
        go_wp2
        refine wp_loop_rounds 4 ?_
        iterate 3 (rw [rounds_succ]; go_wp2_with (first | (go_at_call 77; (with_reducible refine (H0.out _).mono ?_); rintro e w' ⟨rfl, rfl⟩) | (go_at_call 77; (with_reducible refine (H1.out _).mono ?_); rintro e w' ⟨rfl, rfl⟩) | (go_at_call 77; (with_reducible refine (H2.out _).mono ?_); rintro e w' ⟨rfl, rfl⟩)))
        go_ret
        exact ⟨ret_int HR2.out.symm, rfl⟩
    · have HR2 : Hid (r = k1) := Lib.hid (by have := HR.out; simpa [h1] using this)
      clear HR
      go_enter Try.func74, Try.ntmps74
      go_wp2
      refine wp_loop_rounds 4 ?_
      iterate 2 (rw [rounds_succ]; go_wp2_with (first | (go_at_call 77; (with_reducible refine (H0.out _).mono ?_); rintro e w' ⟨rfl, rfl⟩) | (go_at_call 77; (with_reducible refine (H1.out _).mono ?_); rintro e w' ⟨rfl, rfl⟩) | (go_at_call 77; (with_reducible refine (H2.out _).mono ?_); rintro e w' ⟨rfl, rfl⟩)))
      go_ret
      exact ⟨ret_int HR2.out.symm, rfl⟩
  · have HR2 : Hid (r = k0) := Lib.hid (by have := HR.out; simpa [h0] using this)
    clear HR
    go_enter Try.func74, Try.ntmps74
    go_wp2
    refine wp_loop_rounds 4 ?_
    iterate 1 (rw [rounds_succ]; go_wp2_with (first | (go_at_call 77; (with_reducible refine (H0.out _).mono ?_); rintro e w' ⟨rfl, rfl⟩) | (go_at_call 77; (with_reducible refine (H1.out _).mono ?_); rintro e w' ⟨rfl, rfl⟩) | (go_at_call 77; (with_reducible refine (H2.out _).mono ?_); rintro e w' ⟨rfl, rfl⟩)))
    go_ret
    exact ⟨ret_int HR2.out.symm, rfl⟩
theorem l07Before_any (x0 x1 x2 y0 y1 y2 : Int) (w : World) : Calls Try.prog 64 #[ptV x0 x1 x2, ptV y0 y1 y2] w (Ret w (.bool (befB (x0, x1, x2) (y0, y1, y2)))) := by
  by_cases h0 : x0 = y0
  · subst h0
    by_cases h1 : x1 = y1
    · subst h1
      by_cases h2 : x2 = y2
      · subst h2
        have HR : Hid (befB (x0, x1, x2) (x0, x1, x2) = false) := Lib.hid (by simp [befB])
        go_enter Try.func64, Try.ntmps64
        go_wp2
        refine wp_loop_rounds 4 ?_
        iterate 3 (rw [rounds_succ]; go_wp2; go_quiet (fail); go_wp2)
        rw [rounds_succ]; go_wp2
        go_ret
        exact ⟨ret_bool HR.out.symm, (by repeat (first | exact Below.refl _ _ | refine bset ?_ _ _ (by omega) _ | refine bal ?_ _ | refine bdrN ?_ _ | refine bdr ?_))⟩
      · have hne : (x2 == y2) = false := by simpa using h2
        have HR : Hid (befB (x0, x1, x2) (x0, x1, y2) = decide (x2 < y2)) := Lib.hid (by simp [befB])
        go_enter Try.func64, Try.ntmps64
        go_wp2
        refine wp_loop_rounds 4 ?_
        iterate 3 (rw [rounds_succ]; go_wp2; go_quiet (fail); go_wp2)
        go_quiet (fail)
        go_wp2
        go_ret
        exact ⟨ret_bool HR.out.symm, (by repeat (first | exact Below.refl _ _ | refine bset ?_ _ _ (by omega) _ | refine bal ?_ _ | refine bdrN ?_ _ | refine bdr ?_))⟩
    · have hne : (x1 == y1) = false := by simpa using h1
      have HR : Hid (befB (x0, x1, x2) (x0, y1, y2) = decide (x1 < y1)) := Lib.hid (by simp [befB, h1])
      go_enter Try.func64, Try.ntmps64
      go_wp2
      refine wp_loop_rounds 4 ?_
      iterate 2 (rw [rounds_succ]; go_wp2; go_quiet (fail); go_wp2)
      go_quiet (fail)
      go_wp2
      go_ret
      exact ⟨ret_bool HR.out.symm, (by repeat (first | exact Below.refl _ _ | refine bset ?_ _ _ (by omega) _ | refine bal ?_ _ | refine bdrN ?_ _ | refine bdr ?_))⟩
  · have hne : (x0 == y0) = false := by simpa using h0
    have HR : Hid (befB (x0, x1, x2) (y0, y1, y2) = decide (x0 < y0)) := Lib.hid (by simp [befB, h0])
    go_enter Try.func64, Try.ntmps64
    go_wp2
    refine wp_loop_rounds 4 ?_
    iterate 1 (rw [rounds_succ]; go_wp2; go_quiet (fail); go_wp2)
    go_quiet (fail)
    go_wp2
    go_ret
    exact ⟨ret_bool HR.out.symm, (by repeat (first | exact Below.refl _ _ | refine bset ?_ _ _ (by omega) _ | refine bal ?_ _ | refine bdrN ?_ _ | refine bdr ?_))⟩
end Go.Proofs.Ytidbikjdigemnaa
/- Contracts: triples compared; lists that ascend. (Printed by genk2.py, a program of this session.) -/
namespace Go.Proofs.Ytidbikjdigemnaa
open Go.RowKit
set_option linter.unusedVariables false
set_option linter.unusedSimpArgs false
theorem at_new (w : World) (o : Obj) (n : Nat) (h : n = w.heap.size) : (w.alloc o).heap[n]? = some o := by subst h; exact heap_alloc_new w o
theorem at_old (w : World) (o : Obj) (n : Nat) (h : n < w.heap.size) : (w.alloc o).heap[n]? = w.heap[n]? := by
  rw [heap_alloc_old]; exact h
theorem comparePoint_any (x0 x1 x2 y0 y1 y2 : Int) (w : World) : Calls Try.prog 68 #[ptV x0 x1 x2, ptV y0 y1 y2] w (Ret w (.int .i64 (cmpP (x0, x1, x2) (y0, y1, y2)))) := by
  have HS := Lib.hid (fun (W : World) c0 c1 c2 e0 e1 e2 => (slicesCompare_any w.heap.size (w.heap.size + 1) x0 x1 x2 y0 y1 y2 W c0 c1 c2 e0 e1 e2).mono (fun e w' h => (⟨h.1, h.2 ▸ Below.refl _ _⟩ : Ret W (.int .i64 (cmpP (x0, x1, x2) (y0, y1, y2))) e w')))
  generalize cmpP (x0, x1, x2) (y0, y1, y2) = r at *
  go_enter Try.func68, Try.ntmps68
  go_wp2
  refine region_calm [(5, .slice (some ⟨w.heap.size, 0, none⟩) 3 3), (6, .slice (some ⟨w.heap.size + 1, 0, none⟩) 3 3), (7, .int .i64 r), (4, .int .i64 r)] (by kernel_rfl) (by kernel_rfl) (by kernel_rfl) (fun aE hpe => ?_)
  simp only [puts, Act.put, List.setIfInBounds_toArray, List.set_cons_zero, List.set_cons_succ] at hpe
  subst hpe
  refine ⟨⟨.inr (.inr ?_), .inr (.inr ?_), .inr (.inr ?_), .inr (.inr ?_), trivial⟩, ?_⟩
  · exact Calm.mk 5 (.slice (some ⟨w.heap.size, 0, none⟩) 3 3) rfl rfl (fun W _ => calm_run (by simp [execOp, Act.eval, go_sem]))
  · exact Calm.mk 6 (.slice (some ⟨w.heap.size + 1, 0, none⟩) 3 3) rfl rfl (fun W _ => calm_run (by simp [execOp, Act.eval, go_sem]))
  · refine Calm.mk 7 (.int .i64 r) rfl rfl (fun W hW => ?_)
    have b1 : W.heap[w.heap.size]? = some (.cells #[.int .i64 x0, .int .i64 x1, .int .i64 x2] 49 (0, 0)) := by rw [hW.block _ (by simp; omega), at_old _ _ _ (by simp), at_new _ _ _ (by simp)]
    have b2 : W.heap[w.heap.size + 1]? = some (.cells #[.int .i64 y0, .int .i64 y1, .int .i64 y2] 49 (0, 0)) := by rw [hW.block _ (by simp), at_new _ _ _ (by simp)]
    exact calm_call 74 _ #[.slice (some ⟨w.heap.size, 0, none⟩) 3 3, .slice (some ⟨w.heap.size + 1, 0, none⟩) 3 3] rfl rfl rfl (by simp [Act.eval]) (Try.call74 _ _)
      (HS.out W (by rw [cell_of_row W _ 0 _ _ _ b1]; rfl) (by rw [cell_of_row W _ 1 _ _ _ b1]; rfl) (by rw [cell_of_row W _ 2 _ _ _ b1]; rfl) (by rw [cell_of_row W _ 0 _ _ _ b2]; rfl) (by rw [cell_of_row W _ 1 _ _ _ b2]; rfl) (by rw [cell_of_row W _ 2 _ _ _ b2]; rfl))
  · exact Calm.mk 4 (.int .i64 r) rfl rfl (fun W hW => calm_assign (.tmp 7) rfl rfl)
  intro W2 hW2
  have HB := Lib.hid (below_tr' (bal (bal (Below.refl w.heap.size w) (.cells #[.int .i64 x0, .int .i64 x1, .int .i64 x2] 49 (0, 0))) (.cells #[.int .i64 y0, .int .i64 y1, .int .i64 y2] 49 (0, 0))) hW2)
  go_wp2
  go_ret
  exact ⟨rfl, HB.out⟩
theorem compareLine_any (x0 x1 x2 y0 y1 y2 : Int) (w : World) : Calls Try.prog 69 #[ptV x0 x1 x2, ptV y0 y1 y2] w (Ret w (.int .i64 (cmpP (x0, x1, x2) (y0, y1, y2)))) := by
  have HS := Lib.hid (fun (W : World) c0 c1 c2 e0 e1 e2 => (slicesCompare_any w.heap.size (w.heap.size + 1) x0 x1 x2 y0 y1 y2 W c0 c1 c2 e0 e1 e2).mono (fun e w' h => (⟨h.1, h.2 ▸ Below.refl _ _⟩ : Ret W (.int .i64 (cmpP (x0, x1, x2) (y0, y1, y2))) e w')))
  generalize cmpP (x0, x1, x2) (y0, y1, y2) = r at *
  go_enter Try.func69, Try.ntmps69
  go_wp2
  refine region_calm [(5, .slice (some ⟨w.heap.size, 0, none⟩) 3 3), (6, .slice (some ⟨w.heap.size + 1, 0, none⟩) 3 3), (7, .int .i64 r), (4, .int .i64 r)] (by kernel_rfl) (by kernel_rfl) (by kernel_rfl) (fun aE hpe => ?_)
  simp only [puts, Act.put, List.setIfInBounds_toArray, List.set_cons_zero, List.set_cons_succ] at hpe
  subst hpe
  refine ⟨⟨.inr (.inr ?_), .inr (.inr ?_), .inr (.inr ?_), .inr (.inr ?_), trivial⟩, ?_⟩
  · exact Calm.mk 5 (.slice (some ⟨w.heap.size, 0, none⟩) 3 3) rfl rfl (fun W _ => calm_run (by simp [execOp, Act.eval, go_sem]))
  · exact Calm.mk 6 (.slice (some ⟨w.heap.size + 1, 0, none⟩) 3 3) rfl rfl (fun W _ => calm_run (by simp [execOp, Act.eval, go_sem]))
  · refine Calm.mk 7 (.int .i64 r) rfl rfl (fun W hW => ?_)
    have b1 : W.heap[w.heap.size]? = some (.cells #[.int .i64 x0, .int .i64 x1, .int .i64 x2] 50 (0, 0)) := by rw [hW.block _ (by simp; omega), at_old _ _ _ (by simp), at_new _ _ _ (by simp)]
    have b2 : W.heap[w.heap.size + 1]? = some (.cells #[.int .i64 y0, .int .i64 y1, .int .i64 y2] 50 (0, 0)) := by rw [hW.block _ (by simp), at_new _ _ _ (by simp)]
    exact calm_call 74 _ #[.slice (some ⟨w.heap.size, 0, none⟩) 3 3, .slice (some ⟨w.heap.size + 1, 0, none⟩) 3 3] rfl rfl rfl (by simp [Act.eval]) (Try.call74 _ _)
      (HS.out W (by rw [cell_of_row W _ 0 _ _ _ b1]; rfl) (by rw [cell_of_row W _ 1 _ _ _ b1]; rfl) (by rw [cell_of_row W _ 2 _ _ _ b1]; rfl) (by rw [cell_of_row W _ 0 _ _ _ b2]; rfl) (by rw [cell_of_row W _ 1 _ _ _ b2]; rfl) (by rw [cell_of_row W _ 2 _ _ _ b2]; rfl))
  · exact Calm.mk 4 (.int .i64 r) rfl rfl (fun W hW => calm_assign (.tmp 7) rfl rfl)
  intro W2 hW2
  have HB := Lib.hid (below_tr' (bal (bal (Below.refl w.heap.size w) (.cells #[.int .i64 x0, .int .i64 x1, .int .i64 x2] 50 (0, 0))) (.cells #[.int .i64 y0, .int .i64 y1, .int .i64 y2] 50 (0, 0))) hW2)
  go_wp2
  go_ret
  exact ⟨rfl, HB.out⟩
/-- A list ascends strictly. -/
def ascB (l : List Pt) : Bool := (List.range (l.length - 1)).all (fun i => befB (l.getD i (0, 0, 0)) (l.getD (i + 1) (0, 0, 0)))
theorem ascB_true {l : List Pt} (h : ∀ i, i + 1 < l.length → befB (l.getD i (0, 0, 0)) (l.getD (i + 1) (0, 0, 0)) = true) : ascB l = true := by
  unfold ascB
  rw [List.all_eq_true]
  intro i hi
  exact h i (by have := List.mem_range.1 hi; omega)
theorem ascB_false {l : List Pt} {i : Nat} (hi : i + 1 < l.length) (h : befB (l.getD i (0, 0, 0)) (l.getD (i + 1) (0, 0, 0)) = false) : ascB l = false := by
  unfold ascB
  rw [List.all_eq_false]
  exact ⟨i, List.mem_range.2 (by omega), by rw [h]; decide⟩
set_option maxHeartbeats 1000000 in
theorem ascendsP_any (b0 : Option Addr) (n cap : Nat) (l : List Pt) (w : World) (hn : n ≤ 1000000) (h : ListP w b0 n l) :
    Calls Try.prog 59 #[.slice b0 n cap] w (Ret w (.bool (ascB l && decide (n ≤ 16)))) := by
  have HL := Lib.hid h
  clear h
  go_enter Try.func59, Try.ntmps59
  go_wp2
  go_loopw [3] (fun i wr => ∃ k : Nat, 1 ≤ k ∧ (k ≤ n ∨ k = 1) ∧ i = .int .i64 k ∧ Hid (∀ j, j + 1 < k → befB (l.getD j (0, 0, 0)) (l.getD (j + 1) (0, 0, 0)) = true) ∧ Hid (Below w.heap.size w wr)) (fun i wr => n - (intOf i).toNat)
  case atStart => exact ⟨1, Nat.le_refl _, .inr rfl, rfl, Lib.hid (fun j hj => absurd hj (by omega)), Lib.hid (Below.refl _ _)⟩
  case round =>
    obtain ⟨k, hk1, hk, rfl, HI, HB⟩ := hrel
    by_cases hlt : k < n
    · obtain ⟨g, o, rfl, hp⟩ := HL.out.2 (by omega)
      obtain ⟨j, rfl⟩ : ∃ j, k = j + 1 := ⟨k - 1, by omega⟩
      obtain ⟨c0, c1, c2⟩ := hp j (by omega)
      obtain ⟨e0, e1, e2⟩ := hp (j + 1) hlt
      have HF := Lib.hid (fun h => ascB_false (l := l) (i := j) (by have := HL.out.1; omega) h)
      have HI2 := Lib.hid (fun (h : befB (l.getD j (0, 0, 0)) (l.getD (j + 1) (0, 0, 0)) = true) (i : Nat) (hi : i + 1 < j + 1 + 1) => if e : i = j then e ▸ h else HI.out i (by omega))
      clear hp HI
      have hwj : IntKind.wrap .i64 (j : Int) = (j : Int) := by simp [IntKind.wrap, IntKind.signed, IntKind.bits]; omega
      obtain ⟨x, hx⟩ : ∃ x, l.getD j (0, 0, 0) = x := ⟨_, rfl⟩
      obtain ⟨y, hy⟩ : ∃ y, l.getD (j + 1) (0, 0, 0) = y := ⟨_, rfl⟩
      rw [hx] at c0 c1 c2
      rw [hy] at e0 e1 e2
      rw [hx, hy] at HF HI2
      obtain ⟨x0, x1, x2⟩ := x
      obtain ⟨y0, y1, y2⟩ := y
      dsimp only at c0 c1 c2 e0 e1 e2
      have HCC := Lib.hid (fun (W : World) => comparePoint_any x0 x1 x2 y0 y1 y2 W)
      have HE := Lib.hid (cmpP_bef (x0, x1, x2) (y0, y1, y2))
      generalize befB (x0, x1, x2) (y0, y1, y2) = b at *
      generalize cmpP (x0, x1, x2) (y0, y1, y2) = r at *
      go_wp2
      refine region_calm [(10, .slice (some ⟨g, o, none⟩) n cap), (11, .int .i64 (j + 1 : Nat)), (12, .int .i64 j), (13, .pointer (some ⟨g, o + j * 3, none⟩)), (14, ptV x0 x1 x2), (15, .slice (some ⟨g, o, none⟩) n cap), (16, .int .i64 (j + 1 : Nat)), (17, .pointer (some ⟨g, o + (j + 1) * 3, none⟩)), (18, ptV y0 y1 y2), (19, (.int .i64 r)), (20, .bool (!b))] (by kernel_rfl) (by kernel_rfl) (by kernel_rfl) (fun aE hpe => ?_)
      simp only [puts, Act.put, List.setIfInBounds_toArray, List.set_cons_zero, List.set_cons_succ] at hpe
      subst hpe
      refine ⟨⟨.inr (.inr ?_), .inr (.inr ?_), .inr (.inr ?_), .inr (.inr ?_), .inr (.inr ?_), .inr (.inr ?_), .inr (.inr ?_), .inr (.inr ?_), .inr (.inr ?_), .inr (.inr ?_), .inr (.inr ?_), trivial⟩, ?_⟩
      · exact Calm.mk 10 (.slice (some ⟨g, o, none⟩) n cap) rfl rfl (fun W _ => calm_move (.tmp 0) rfl rfl)
      · exact Calm.mk 11 (.int .i64 (j + 1 : Nat)) rfl rfl (fun W _ => calm_move (.tmp 3) rfl rfl)
      · exact Calm.mk 12 (.int .i64 j) rfl rfl (fun W _ => calm_run (by simp [execOp, Act.eval, go_sem, hwj]))
      · exact Calm.mk 13 (.pointer (some ⟨g, o + j * 3, none⟩)) rfl rfl (fun W _ => calm_run (by simp [execOp, Act.eval, go_sem, (show j < n by omega)]))
      · exact Calm.mk 14 (ptV x0 x1 x2) rfl rfl (fun W hW => calm_loadPt 49 (.tmp 13) rfl rfl (cell_below hW (cell_below HB.out c0)) (cell_below hW (cell_below HB.out c1)) (cell_below hW (cell_below HB.out c2)) Try.sizeOf49 Try.isAgg49)
      · exact Calm.mk 15 (.slice (some ⟨g, o, none⟩) n cap) rfl rfl (fun W _ => calm_move (.tmp 0) rfl rfl)
      · exact Calm.mk 16 (.int .i64 (j + 1 : Nat)) rfl rfl (fun W _ => calm_move (.tmp 3) rfl rfl)
      · exact Calm.mk 17 (.pointer (some ⟨g, o + (j + 1) * 3, none⟩)) rfl rfl (fun W _ => calm_run (by have hb0 : 0 ≤ ((j + 1 : Nat) : Int) := by omega
                                                                                                       have hb1 : ((j + 1 : Nat) : Int).toNat = j + 1 := by omega
                                                                                                       simp only [Int.natCast_add] at hb0 hb1 ⊢
                                                                                                       simp [execOp, Act.eval, go_sem, hlt, hb0, hb1]; try omega))
      · exact Calm.mk 18 (ptV y0 y1 y2) rfl rfl (fun W hW => calm_loadPt 49 (.tmp 17) rfl rfl (cell_below hW (cell_below HB.out e0)) (cell_below hW (cell_below HB.out e1)) (cell_below hW (cell_below HB.out e2)) Try.sizeOf49 Try.isAgg49)
      · exact Calm.mk 19 (.int .i64 r) rfl rfl (fun W hW => calm_call 68 _ #[ptV x0 x1 x2, ptV y0 y1 y2] rfl rfl rfl (by simp [Act.eval]) (Try.call68 _ _) (HCC.out W))
      · exact Calm.mk 20 (.bool (!b)) rfl rfl (fun W hW => calm_run (by simp [execOp, Act.eval, go_sem, HE.out]))
      intro W2 hW2
      have HB2 := Lib.hid (low_tr' HB.out hW2 HB.out.size)
      clear HB hW2
      cases b with
      | true =>
        go_wp2
        go_roundw
        case rel => exact ⟨j + 1 + 1, by omega, .inl (by omega), by go_num, Lib.hid (HI2.out (by simp)), HB2⟩
        case measure => simp [intOf]; omega
      | false =>
        go_wp2
        go_ret
        exact ⟨ret_bool (by rw [HF.out (by simp)]; rfl), HB2.out⟩
    · have HR : Hid (ascB l = true) := Lib.hid (ascB_true (fun i hi => HI.out i (by have := HL.out.1; omega)))
      go_wp2
      go_ret
      exact ⟨ret_bool (by rw [HR.out, Bool.true_and]; exact decide_eq_decide.2 (by omega)), HB.out⟩
set_option maxHeartbeats 1000000 in
theorem ascendsL_any (b0 : Option Addr) (n cap : Nat) (l : List Pt) (w : World) (hn : n ≤ 1000000) (h : ListP w b0 n l) :
    Calls Try.prog 60 #[.slice b0 n cap] w (Ret w (.bool (ascB l && decide (n ≤ 16)))) := by
  have HL := Lib.hid h
  clear h
  go_enter Try.func60, Try.ntmps60
  go_wp2
  go_loopw [3] (fun i wr => ∃ k : Nat, 1 ≤ k ∧ (k ≤ n ∨ k = 1) ∧ i = .int .i64 k ∧ Hid (∀ j, j + 1 < k → befB (l.getD j (0, 0, 0)) (l.getD (j + 1) (0, 0, 0)) = true) ∧ Hid (Below w.heap.size w wr)) (fun i wr => n - (intOf i).toNat)
  case atStart => exact ⟨1, Nat.le_refl _, .inr rfl, rfl, Lib.hid (fun j hj => absurd hj (by omega)), Lib.hid (Below.refl _ _)⟩
  case round =>
    obtain ⟨k, hk1, hk, rfl, HI, HB⟩ := hrel
    by_cases hlt : k < n
    · obtain ⟨g, o, rfl, hp⟩ := HL.out.2 (by omega)
      obtain ⟨j, rfl⟩ : ∃ j, k = j + 1 := ⟨k - 1, by omega⟩
      obtain ⟨c0, c1, c2⟩ := hp j (by omega)
      obtain ⟨e0, e1, e2⟩ := hp (j + 1) hlt
      have HF := Lib.hid (fun h => ascB_false (l := l) (i := j) (by have := HL.out.1; omega) h)
      have HI2 := Lib.hid (fun (h : befB (l.getD j (0, 0, 0)) (l.getD (j + 1) (0, 0, 0)) = true) (i : Nat) (hi : i + 1 < j + 1 + 1) => if e : i = j then e ▸ h else HI.out i (by omega))
      clear hp HI
      have hwj : IntKind.wrap .i64 (j : Int) = (j : Int) := by simp [IntKind.wrap, IntKind.signed, IntKind.bits]; omega
      obtain ⟨x, hx⟩ : ∃ x, l.getD j (0, 0, 0) = x := ⟨_, rfl⟩
      obtain ⟨y, hy⟩ : ∃ y, l.getD (j + 1) (0, 0, 0) = y := ⟨_, rfl⟩
      rw [hx] at c0 c1 c2
      rw [hy] at e0 e1 e2
      rw [hx, hy] at HF HI2
      obtain ⟨x0, x1, x2⟩ := x
      obtain ⟨y0, y1, y2⟩ := y
      dsimp only at c0 c1 c2 e0 e1 e2
      have HCC := Lib.hid (fun (W : World) => compareLine_any x0 x1 x2 y0 y1 y2 W)
      have HE := Lib.hid (cmpP_bef (x0, x1, x2) (y0, y1, y2))
      generalize befB (x0, x1, x2) (y0, y1, y2) = b at *
      generalize cmpP (x0, x1, x2) (y0, y1, y2) = r at *
      go_wp2
      refine region_calm [(10, .slice (some ⟨g, o, none⟩) n cap), (11, .int .i64 (j + 1 : Nat)), (12, .int .i64 j), (13, .pointer (some ⟨g, o + j * 3, none⟩)), (14, ptV x0 x1 x2), (15, .slice (some ⟨g, o, none⟩) n cap), (16, .int .i64 (j + 1 : Nat)), (17, .pointer (some ⟨g, o + (j + 1) * 3, none⟩)), (18, ptV y0 y1 y2), (19, (.int .i64 r)), (20, .bool (!b))] (by kernel_rfl) (by kernel_rfl) (by kernel_rfl) (fun aE hpe => ?_)
      simp only [puts, Act.put, List.setIfInBounds_toArray, List.set_cons_zero, List.set_cons_succ] at hpe
      subst hpe
      refine ⟨⟨.inr (.inr ?_), .inr (.inr ?_), .inr (.inr ?_), .inr (.inr ?_), .inr (.inr ?_), .inr (.inr ?_), .inr (.inr ?_), .inr (.inr ?_), .inr (.inr ?_), .inr (.inr ?_), .inr (.inr ?_), trivial⟩, ?_⟩
      · exact Calm.mk 10 (.slice (some ⟨g, o, none⟩) n cap) rfl rfl (fun W _ => calm_move (.tmp 0) rfl rfl)
      · exact Calm.mk 11 (.int .i64 (j + 1 : Nat)) rfl rfl (fun W _ => calm_move (.tmp 3) rfl rfl)
      · exact Calm.mk 12 (.int .i64 j) rfl rfl (fun W _ => calm_run (by simp [execOp, Act.eval, go_sem, hwj]))
      · exact Calm.mk 13 (.pointer (some ⟨g, o + j * 3, none⟩)) rfl rfl (fun W _ => calm_run (by simp [execOp, Act.eval, go_sem, (show j < n by omega)]))
      · exact Calm.mk 14 (ptV x0 x1 x2) rfl rfl (fun W hW => calm_loadPt 50 (.tmp 13) rfl rfl (cell_below hW (cell_below HB.out c0)) (cell_below hW (cell_below HB.out c1)) (cell_below hW (cell_below HB.out c2)) Try.sizeOf50 Try.isAgg50)
      · exact Calm.mk 15 (.slice (some ⟨g, o, none⟩) n cap) rfl rfl (fun W _ => calm_move (.tmp 0) rfl rfl)
      · exact Calm.mk 16 (.int .i64 (j + 1 : Nat)) rfl rfl (fun W _ => calm_move (.tmp 3) rfl rfl)
      · exact Calm.mk 17 (.pointer (some ⟨g, o + (j + 1) * 3, none⟩)) rfl rfl (fun W _ => calm_run (by have hb0 : 0 ≤ ((j + 1 : Nat) : Int) := by omega
                                                                                                       have hb1 : ((j + 1 : Nat) : Int).toNat = j + 1 := by omega
                                                                                                       simp only [Int.natCast_add] at hb0 hb1 ⊢
                                                                                                       simp [execOp, Act.eval, go_sem, hlt, hb0, hb1]; try omega))
      · exact Calm.mk 18 (ptV y0 y1 y2) rfl rfl (fun W hW => calm_loadPt 50 (.tmp 17) rfl rfl (cell_below hW (cell_below HB.out e0)) (cell_below hW (cell_below HB.out e1)) (cell_below hW (cell_below HB.out e2)) Try.sizeOf50 Try.isAgg50)
      · exact Calm.mk 19 (.int .i64 r) rfl rfl (fun W hW => calm_call 69 _ #[ptV x0 x1 x2, ptV y0 y1 y2] rfl rfl rfl (by simp [Act.eval]) (Try.call69 _ _) (HCC.out W))
      · exact Calm.mk 20 (.bool (!b)) rfl rfl (fun W hW => calm_run (by simp [execOp, Act.eval, go_sem, HE.out]))
      intro W2 hW2
      have HB2 := Lib.hid (low_tr' HB.out hW2 HB.out.size)
      clear HB hW2
      cases b with
      | true =>
        go_wp2
        go_roundw
        case rel => exact ⟨j + 1 + 1, by omega, .inl (by omega), by go_num, Lib.hid (HI2.out (by simp)), HB2⟩
        case measure => simp [intOf]; omega
      | false =>
        go_wp2
        go_ret
        exact ⟨ret_bool (by rw [HF.out (by simp)]; rfl), HB2.out⟩
    · have HR : Hid (ascB l = true) := Lib.hid (ascB_true (fun i hi => HI.out i (by have := HL.out.1; omega)))
      go_wp2
      go_ret
      exact ⟨ret_bool (by rw [HR.out, Bool.true_and]; exact decide_eq_decide.2 (by omega)), HB.out⟩
set_option maxHeartbeats 1000000 in
theorem l07Is_any (b0 : Option Addr) (n cap : Nat) (l : List Pt) (w : World) (hn : n ≤ 1000000) (h : ListP w b0 n l) :
    Calls Try.prog 53 #[.slice b0 n cap] w (Ret w (.bool (ascB l && decide (n ≤ 60)))) := by
  have HL := Lib.hid h
  clear h
  go_enter Try.func53, Try.ntmps53
  go_wp2
  go_loopw [3] (fun i wr => ∃ k : Nat, 1 ≤ k ∧ (k ≤ n ∨ k = 1) ∧ i = .int .i64 k ∧ Hid (∀ j, j + 1 < k → befB (l.getD j (0, 0, 0)) (l.getD (j + 1) (0, 0, 0)) = true) ∧ Hid (Below w.heap.size w wr)) (fun i wr => n - (intOf i).toNat)
  case atStart => exact ⟨1, Nat.le_refl _, .inr rfl, rfl, Lib.hid (fun j hj => absurd hj (by omega)), Lib.hid (Below.refl _ _)⟩
  case round =>
    obtain ⟨k, hk1, hk, rfl, HI, HB⟩ := hrel
    by_cases hlt : k < n
    · obtain ⟨g, o, rfl, hp⟩ := HL.out.2 (by omega)
      obtain ⟨j, rfl⟩ : ∃ j, k = j + 1 := ⟨k - 1, by omega⟩
      obtain ⟨c0, c1, c2⟩ := hp j (by omega)
      obtain ⟨e0, e1, e2⟩ := hp (j + 1) hlt
      have HF := Lib.hid (fun h => ascB_false (l := l) (i := j) (by have := HL.out.1; omega) h)
      have HI2 := Lib.hid (fun (h : befB (l.getD j (0, 0, 0)) (l.getD (j + 1) (0, 0, 0)) = true) (i : Nat) (hi : i + 1 < j + 1 + 1) => if e : i = j then e ▸ h else HI.out i (by omega))
      clear hp HI
      have hwj : IntKind.wrap .i64 (j : Int) = (j : Int) := by simp [IntKind.wrap, IntKind.signed, IntKind.bits]; omega
      obtain ⟨x, hx⟩ : ∃ x, l.getD j (0, 0, 0) = x := ⟨_, rfl⟩
      obtain ⟨y, hy⟩ : ∃ y, l.getD (j + 1) (0, 0, 0) = y := ⟨_, rfl⟩
      rw [hx] at c0 c1 c2
      rw [hy] at e0 e1 e2
      rw [hx, hy] at HF HI2
      obtain ⟨x0, x1, x2⟩ := x
      obtain ⟨y0, y1, y2⟩ := y
      dsimp only at c0 c1 c2 e0 e1 e2
      have HCC := Lib.hid (fun (W : World) => l07Before_any x0 x1 x2 y0 y1 y2 W)
      have HE := Lib.hid (cmpP_bef (x0, x1, x2) (y0, y1, y2))
      generalize befB (x0, x1, x2) (y0, y1, y2) = b at *
      go_wp2
      refine region_calm [(10, .slice (some ⟨g, o, none⟩) n cap), (11, .int .i64 (j + 1 : Nat)), (12, .int .i64 j), (13, .pointer (some ⟨g, o + j * 3, none⟩)), (14, ptV x0 x1 x2), (15, .slice (some ⟨g, o, none⟩) n cap), (16, .int .i64 (j + 1 : Nat)), (17, .pointer (some ⟨g, o + (j + 1) * 3, none⟩)), (18, ptV y0 y1 y2), (19, (.bool b)), (20, .bool (!b))] (by kernel_rfl) (by kernel_rfl) (by kernel_rfl) (fun aE hpe => ?_)
      simp only [puts, Act.put, List.setIfInBounds_toArray, List.set_cons_zero, List.set_cons_succ] at hpe
      subst hpe
      refine ⟨⟨.inr (.inr ?_), .inr (.inr ?_), .inr (.inr ?_), .inr (.inr ?_), .inr (.inr ?_), .inr (.inr ?_), .inr (.inr ?_), .inr (.inr ?_), .inr (.inr ?_), .inr (.inr ?_), .inr (.inr ?_), trivial⟩, ?_⟩
      · exact Calm.mk 10 (.slice (some ⟨g, o, none⟩) n cap) rfl rfl (fun W _ => calm_move (.tmp 0) rfl rfl)
      · exact Calm.mk 11 (.int .i64 (j + 1 : Nat)) rfl rfl (fun W _ => calm_move (.tmp 3) rfl rfl)
      · exact Calm.mk 12 (.int .i64 j) rfl rfl (fun W _ => calm_run (by simp [execOp, Act.eval, go_sem, hwj]))
      · exact Calm.mk 13 (.pointer (some ⟨g, o + j * 3, none⟩)) rfl rfl (fun W _ => calm_run (by simp [execOp, Act.eval, go_sem, (show j < n by omega)]))
      · exact Calm.mk 14 (ptV x0 x1 x2) rfl rfl (fun W hW => calm_loadPt 49 (.tmp 13) rfl rfl (cell_below hW (cell_below HB.out c0)) (cell_below hW (cell_below HB.out c1)) (cell_below hW (cell_below HB.out c2)) Try.sizeOf49 Try.isAgg49)
      · exact Calm.mk 15 (.slice (some ⟨g, o, none⟩) n cap) rfl rfl (fun W _ => calm_move (.tmp 0) rfl rfl)
      · exact Calm.mk 16 (.int .i64 (j + 1 : Nat)) rfl rfl (fun W _ => calm_move (.tmp 3) rfl rfl)
      · exact Calm.mk 17 (.pointer (some ⟨g, o + (j + 1) * 3, none⟩)) rfl rfl (fun W _ => calm_run (by have hb0 : 0 ≤ ((j + 1 : Nat) : Int) := by omega
                                                                                                       have hb1 : ((j + 1 : Nat) : Int).toNat = j + 1 := by omega
                                                                                                       simp only [Int.natCast_add] at hb0 hb1 ⊢
                                                                                                       simp [execOp, Act.eval, go_sem, hlt, hb0, hb1]; try omega))
      · exact Calm.mk 18 (ptV y0 y1 y2) rfl rfl (fun W hW => calm_loadPt 49 (.tmp 17) rfl rfl (cell_below hW (cell_below HB.out e0)) (cell_below hW (cell_below HB.out e1)) (cell_below hW (cell_below HB.out e2)) Try.sizeOf49 Try.isAgg49)
      · exact Calm.mk 19 (.bool b) rfl rfl (fun W hW => calm_call 64 _ #[ptV x0 x1 x2, ptV y0 y1 y2] rfl rfl rfl (by simp [Act.eval]) (Try.call64 _ _) (HCC.out W))
      · exact Calm.mk 20 (.bool (!b)) rfl rfl (fun W hW => calm_run (by simp [execOp, Act.eval, go_sem]))
      intro W2 hW2
      have HB2 := Lib.hid (low_tr' HB.out hW2 HB.out.size)
      clear HB hW2
      cases b with
      | true =>
        go_wp2
        go_roundw
        case rel => exact ⟨j + 1 + 1, by omega, .inl (by omega), by go_num, Lib.hid (HI2.out (by simp)), HB2⟩
        case measure => simp [intOf]; omega
      | false =>
        go_wp2
        go_ret
        exact ⟨ret_bool (by rw [HF.out (by simp)]; rfl), HB2.out⟩
    · have HR : Hid (ascB l = true) := Lib.hid (ascB_true (fun i hi => HI.out i (by have := HL.out.1; omega)))
      go_wp2
      go_ret
      exact ⟨ret_bool (by rw [HR.out, Bool.true_and]; exact decide_eq_decide.2 (by omega)), HB.out⟩
set_option maxHeartbeats 1000000 in
theorem l09Listed_any (b0 : Option Addr) (n cap : Nat) (l : List Pt) (w : World) (hn : n ≤ 1000000) (h : ListP w b0 n l) :
    Calls Try.prog 54 #[.slice b0 n cap] w (Ret w (.bool (ascB l && decide (n ≤ 16)))) := by
  have HL := Lib.hid h
  clear h
  go_enter Try.func54, Try.ntmps54
  go_wp2
  go_loopw [3] (fun i wr => ∃ k : Nat, 1 ≤ k ∧ (k ≤ n ∨ k = 1) ∧ i = .int .i64 k ∧ Hid (∀ j, j + 1 < k → befB (l.getD j (0, 0, 0)) (l.getD (j + 1) (0, 0, 0)) = true) ∧ Hid (Below w.heap.size w wr)) (fun i wr => n - (intOf i).toNat)
  case atStart => exact ⟨1, Nat.le_refl _, .inr rfl, rfl, Lib.hid (fun j hj => absurd hj (by omega)), Lib.hid (Below.refl _ _)⟩
  case round =>
    obtain ⟨k, hk1, hk, rfl, HI, HB⟩ := hrel
    by_cases hlt : k < n
    · obtain ⟨g, o, rfl, hp⟩ := HL.out.2 (by omega)
      obtain ⟨j, rfl⟩ : ∃ j, k = j + 1 := ⟨k - 1, by omega⟩
      obtain ⟨c0, c1, c2⟩ := hp j (by omega)
      obtain ⟨e0, e1, e2⟩ := hp (j + 1) hlt
      have HF := Lib.hid (fun h => ascB_false (l := l) (i := j) (by have := HL.out.1; omega) h)
      have HI2 := Lib.hid (fun (h : befB (l.getD j (0, 0, 0)) (l.getD (j + 1) (0, 0, 0)) = true) (i : Nat) (hi : i + 1 < j + 1 + 1) => if e : i = j then e ▸ h else HI.out i (by omega))
      clear hp HI
      have hwj : IntKind.wrap .i64 (j : Int) = (j : Int) := by simp [IntKind.wrap, IntKind.signed, IntKind.bits]; omega
      obtain ⟨x, hx⟩ : ∃ x, l.getD j (0, 0, 0) = x := ⟨_, rfl⟩
      obtain ⟨y, hy⟩ : ∃ y, l.getD (j + 1) (0, 0, 0) = y := ⟨_, rfl⟩
      rw [hx] at c0 c1 c2
      rw [hy] at e0 e1 e2
      rw [hx, hy] at HF HI2
      obtain ⟨x0, x1, x2⟩ := x
      obtain ⟨y0, y1, y2⟩ := y
      dsimp only at c0 c1 c2 e0 e1 e2
      have HCC := Lib.hid (fun (W : World) => l07Before_any x0 x1 x2 y0 y1 y2 W)
      have HE := Lib.hid (cmpP_bef (x0, x1, x2) (y0, y1, y2))
      generalize befB (x0, x1, x2) (y0, y1, y2) = b at *
      go_wp2
      refine region_calm [(10, .slice (some ⟨g, o, none⟩) n cap), (11, .int .i64 (j + 1 : Nat)), (12, .int .i64 j), (13, .pointer (some ⟨g, o + j * 3, none⟩)), (14, ptV x0 x1 x2), (15, .slice (some ⟨g, o, none⟩) n cap), (16, .int .i64 (j + 1 : Nat)), (17, .pointer (some ⟨g, o + (j + 1) * 3, none⟩)), (18, ptV y0 y1 y2), (19, (.bool b)), (20, .bool (!b))] (by kernel_rfl) (by kernel_rfl) (by kernel_rfl) (fun aE hpe => ?_)
      simp only [puts, Act.put, List.setIfInBounds_toArray, List.set_cons_zero, List.set_cons_succ] at hpe
      subst hpe
      refine ⟨⟨.inr (.inr ?_), .inr (.inr ?_), .inr (.inr ?_), .inr (.inr ?_), .inr (.inr ?_), .inr (.inr ?_), .inr (.inr ?_), .inr (.inr ?_), .inr (.inr ?_), .inr (.inr ?_), .inr (.inr ?_), trivial⟩, ?_⟩
      · exact Calm.mk 10 (.slice (some ⟨g, o, none⟩) n cap) rfl rfl (fun W _ => calm_move (.tmp 0) rfl rfl)
      · exact Calm.mk 11 (.int .i64 (j + 1 : Nat)) rfl rfl (fun W _ => calm_move (.tmp 3) rfl rfl)
      · exact Calm.mk 12 (.int .i64 j) rfl rfl (fun W _ => calm_run (by simp [execOp, Act.eval, go_sem, hwj]))
      · exact Calm.mk 13 (.pointer (some ⟨g, o + j * 3, none⟩)) rfl rfl (fun W _ => calm_run (by simp [execOp, Act.eval, go_sem, (show j < n by omega)]))
      · exact Calm.mk 14 (ptV x0 x1 x2) rfl rfl (fun W hW => calm_loadPt 50 (.tmp 13) rfl rfl (cell_below hW (cell_below HB.out c0)) (cell_below hW (cell_below HB.out c1)) (cell_below hW (cell_below HB.out c2)) Try.sizeOf50 Try.isAgg50)
      · exact Calm.mk 15 (.slice (some ⟨g, o, none⟩) n cap) rfl rfl (fun W _ => calm_move (.tmp 0) rfl rfl)
      · exact Calm.mk 16 (.int .i64 (j + 1 : Nat)) rfl rfl (fun W _ => calm_move (.tmp 3) rfl rfl)
      · exact Calm.mk 17 (.pointer (some ⟨g, o + (j + 1) * 3, none⟩)) rfl rfl (fun W _ => calm_run (by have hb0 : 0 ≤ ((j + 1 : Nat) : Int) := by omega
                                                                                                       have hb1 : ((j + 1 : Nat) : Int).toNat = j + 1 := by omega
                                                                                                       simp only [Int.natCast_add] at hb0 hb1 ⊢
                                                                                                       simp [execOp, Act.eval, go_sem, hlt, hb0, hb1]; try omega))
      · exact Calm.mk 18 (ptV y0 y1 y2) rfl rfl (fun W hW => calm_loadPt 50 (.tmp 17) rfl rfl (cell_below hW (cell_below HB.out e0)) (cell_below hW (cell_below HB.out e1)) (cell_below hW (cell_below HB.out e2)) Try.sizeOf50 Try.isAgg50)
      · exact Calm.mk 19 (.bool b) rfl rfl (fun W hW => calm_call 64 _ #[ptV x0 x1 x2, ptV y0 y1 y2] rfl rfl rfl (by simp [Act.eval]) (Try.call64 _ _) (HCC.out W))
      · exact Calm.mk 20 (.bool (!b)) rfl rfl (fun W hW => calm_run (by simp [execOp, Act.eval, go_sem]))
      intro W2 hW2
      have HB2 := Lib.hid (low_tr' HB.out hW2 HB.out.size)
      clear HB hW2
      cases b with
      | true =>
        go_wp2
        go_roundw
        case rel => exact ⟨j + 1 + 1, by omega, .inl (by omega), by go_num, Lib.hid (HI2.out (by simp)), HB2⟩
        case measure => simp [intOf]; omega
      | false =>
        go_wp2
        go_ret
        exact ⟨ret_bool (by rw [HF.out (by simp)]; rfl), HB2.out⟩
    · have HR : Hid (ascB l = true) := Lib.hid (ascB_true (fun i hi => HI.out i (by have := HL.out.1; omega)))
      go_wp2
      go_ret
      exact ⟨ret_bool (by rw [HR.out, Bool.true_and]; exact decide_eq_decide.2 (by omega)), HB.out⟩
end Go.Proofs.Ytidbikjdigemnaa
/- Contracts: figures: points and lines, as the program and as the reference take them. -/
namespace Go.Proofs.Ytidbikjdigemnaa
open Go.RowKit
set_option linter.unusedVariables false
set_option linter.unusedSimpArgs false
theorem arePoints_zero (p : Int) (b : Option Addr) (cap : Nat) (w : World) : Calls Try.prog 57 #[.int .i64 p, .slice b 0 cap] w (Ret w (.bool true)) := by
  go_enter Try.func57, Try.ntmps57
  go_wp2
  refine wp_loop_rounds 1 ?_
  rw [rounds_succ]; go_wp2
  go_ret
  exact ⟨rfl, Below.refl _ _⟩
theorem areLines_zero (p : Int) (b : Option Addr) (cap : Nat) (w : World) : Calls Try.prog 58 #[.int .i64 p, .slice b 0 cap] w (Ret w (.bool true)) := by
  go_enter Try.func58, Try.ntmps58
  go_wp2
  refine wp_loop_rounds 1 ?_
  rw [rounds_succ]; go_wp2
  go_ret
  exact ⟨rfl, Below.refl _ _⟩
theorem l01Code_zero (p : Int) (b : Option Addr) (cap : Nat) (w : World) : Calls Try.prog 51 #[.int .i64 p, .slice b 0 cap] w (Ret w (.int .i64 (codeOf p true))) := by
  cases hp : prB p with
  | false =>
    have HP := Lib.hid hp; clear hp
    go_enter Try.func51, Try.ntmps51
    go_wp2_with (go_at_call 62; refine (l01Prime_no _ _ HP.out).mono ?_; rintro e w' ⟨rfl, rfl⟩)
    go_ret
    exact ⟨ret_int (codeOf_no _ HP.out).symm, Below.refl _ _⟩
  | true =>
    have HP := Lib.hid hp; clear hp
    go_enter Try.func51, Try.ntmps51
    go_wp2_with (go_at_call 62; refine (l01Prime_yes _ _ HP.out).mono ?_; rintro e w' ⟨rfl, rfl⟩)
    refine wp_loop_rounds 1 ?_
    rw [rounds_succ]; go_wp2
    go_ret
    exact ⟨ret_int (codeOf_t HP.out).symm, Below.refl _ _⟩
theorem list_cases {w : World} {b : Option Addr} {n : Nat} {l : List Pt} (h : ListP w b n l) : (n = 0 ∧ l = []) ∨ ∃ g o, b = some ⟨g, o, none⟩ ∧ PtsAt w g o n l := by
  rcases Nat.eq_zero_or_pos n with e | e
  · exact .inl ⟨e, List.length_eq_zero_iff.1 (h.1.trans e)⟩
  · exact .inr (h.2 e)
theorem arePoints_list (p : Int) (b : Option Addr) (n cap : Nat) (l : List Pt) (w : World) (hn : n ≤ 1000000) (h : ListP w b n l) :
    Calls Try.prog 57 #[.int .i64 p, .slice b n cap] w (Ret w (.bool (ptsB p l))) := by
  rcases list_cases h with ⟨rfl, rfl⟩ | ⟨g, o, rfl, hp⟩
  · exact arePoints_zero p b cap w
  · exact arePoints_any p g o n cap l w h.1 (by omega) hp
theorem areLines_list (p : Int) (b : Option Addr) (n cap : Nat) (l : List Pt) (w : World) (hn : n ≤ 1000000) (h : ListP w b n l) :
    Calls Try.prog 58 #[.int .i64 p, .slice b n cap] w (Ret w (.bool (ptsB p l))) := by
  rcases list_cases h with ⟨rfl, rfl⟩ | ⟨g, o, rfl, hp⟩
  · exact areLines_zero p b cap w
  · exact areLines_any p g o n cap l w h.1 (by omega) hp
theorem l01Code_list (p : Int) (b : Option Addr) (n cap : Nat) (l : List Pt) (w : World) (hn : n ≤ 1000000) (h : ListP w b n l) :
    Calls Try.prog 51 #[.int .i64 p, .slice b n cap] w (Ret w (.int .i64 (codeOf p (ptsB p l)))) := by
  rcases list_cases h with ⟨rfl, rfl⟩ | ⟨g, o, rfl, hp⟩
  · exact l01Code_zero p b cap w
  · exact l01Code_any p g o n cap l w h.1 (by omega) hp
/-- A figure's value. -/
@[reducible] def figV (b1 : Option Addr) (n1 c1 : Nat) (b2 : Option Addr) (n2 c2 : Nat) : Value := .agg #[.slice b1 n1 c1, .slice b2 n2 c2]
theorem partsCode_any (p : Int) (b1 : Option Addr) (n1 c1 : Nat) (b2 : Option Addr) (n2 c2 : Nat) (l1 l2 : List Pt) (w : World) (hn1 : n1 ≤ 1000000) (hn2 : n2 ≤ 1000000) (h1 : ListP w b1 n1 l1) (h2 : ListP w b2 n2 l2) :
    Calls Try.prog 45 #[.int .i64 p, figV b1 n1 c1 b2 n2 c2] w (Ret w (.int .i64 (codeOf p (ptsB p l1 && ptsB p l2)))) := by
  have HA := Lib.hid (fun (W : World) (hW : Below w.heap.size w W) => arePoints_list p b1 n1 c1 l1 W hn1 (h1.below hW))
  have HL := Lib.hid (fun (W : World) (hW : Below w.heap.size w W) => areLines_list p b2 n2 c2 l2 W hn2 (h2.below hW))
  clear h1 h2
  cases hp : prB p with
  | false =>
    have HP := Lib.hid hp; clear hp
    go_enter Try.func45, Try.ntmps45
    go_wp2_with (go_at_call 55; refine (planeCode_no _ _ _ HP.out).mono ?_; rintro e w' ⟨rfl, rfl⟩)
    go_ret
    exact ⟨ret_int (codeOf_no _ HP.out).symm, (by repeat (first | exact Below.refl _ _ | refine bset ?_ _ _ (by omega) _ | refine bal ?_ _ | refine bdrN ?_ _ | refine bdr ?_))⟩
  | true =>
    have HP := Lib.hid hp; clear hp
    cases hv : ptsB p l1 with
    | false =>
      have HV := Lib.hid (codeOf_f HP.out)
      rw [hv] at HA
      clear hv
      go_enter Try.func45, Try.ntmps45
      go_wp2_with (first
        | (go_at_call 65; refine (isPrime_yes _ _ HP.out).mono ?_; rintro e w' ⟨rfl, rfl⟩)
        | (go_at_call 55; go_in)
        | (go_at_call 56; go_in)
        | (go_at_call 57; (with_reducible refine (HA.out _ (by repeat (first | exact Below.refl _ _ | refine bset ?_ _ _ (by omega) _ | refine bal ?_ _ | refine bdrN ?_ _ | refine bdr ?_))).mono ?_); rintro e w1_ ⟨rfl, hb1⟩; obtain ⟨hcb1, hfb1, hlb1⟩ := bcell hb1; have hsz1 := hb1.size; (try simp at hsz1); have HB1 := Lib.hid hb1; clear hb1; (try (have hl01 : w.heap.size < w1_.heap.size := by omega)); (try (have hl11 : w.heap.size + 1 < w1_.heap.size := by omega))))
      go_ret
      exact ⟨ret_int (by rw [Bool.false_and]; exact HV.out.symm), (by repeat (first | exact Below.refl _ _ | refine bset ?_ _ _ (by omega) _ | refine bal ?_ _ | refine bdrN ?_ _ | refine bdr ?_ | refine below_tr' ?_ HB1.out))⟩
    | true =>
      rw [hv] at HA
      clear hv
      rw [Bool.true_and]
      cases hv2 : ptsB p l2 with
      | false =>
        rw [hv2] at HL
        go_enter Try.func45, Try.ntmps45
        go_wp2_with (first
          | (go_at_call 65; refine (isPrime_yes _ _ HP.out).mono ?_; rintro e w' ⟨rfl, rfl⟩)
          | (go_at_call 55; go_in)
          | (go_at_call 56; go_in)
          | (go_at_call 57; (with_reducible refine (HA.out _ (by repeat (first | exact Below.refl _ _ | refine bset ?_ _ _ (by omega) _ | refine bal ?_ _ | refine bdrN ?_ _ | refine bdr ?_))).mono ?_); rintro e w1_ ⟨rfl, hb1⟩; obtain ⟨hcb1, hfb1, hlb1⟩ := bcell hb1; have hsz1 := hb1.size; (try simp at hsz1); have HB1 := Lib.hid hb1; clear hb1; (try (have hl01 : w.heap.size < w1_.heap.size := by omega)); (try (have hl11 : w.heap.size + 1 < w1_.heap.size := by omega)))
          | (go_at_call 58; (with_reducible refine (HL.out _ (by repeat (first | exact Below.refl _ _ | refine bset ?_ _ _ (by omega) _ | refine bal ?_ _ | refine bdrN ?_ _ | refine bdr ?_ | refine below_tr' ?_ HB1.out))).mono ?_); rintro e w2_ ⟨rfl, hb2⟩; obtain ⟨hcb2, hfb2, hlb2⟩ := bcell hb2; have hsz2 := hb2.size; (try simp at hsz2); have HB2 := Lib.hid hb2; clear hb2; (try (have hl02 : w.heap.size < w2_.heap.size := by omega)); (try (have hl12 : w.heap.size + 1 < w2_.heap.size := by omega))))
        go_ret
        exact ⟨ret_int (codeOf_f HP.out).symm, (by repeat (first | exact Below.refl _ _ | refine bset ?_ _ _ (by omega) _ | refine bal ?_ _ | refine bdrN ?_ _ | refine bdr ?_ | refine below_tr' ?_ HB2.out | refine below_tr' ?_ HB1.out))⟩
      | true =>
        rw [hv2] at HL
        go_enter Try.func45, Try.ntmps45
        go_wp2_with (first
          | (go_at_call 65; refine (isPrime_yes _ _ HP.out).mono ?_; rintro e w' ⟨rfl, rfl⟩)
          | (go_at_call 55; go_in)
          | (go_at_call 56; go_in)
          | (go_at_call 57; (with_reducible refine (HA.out _ (by repeat (first | exact Below.refl _ _ | refine bset ?_ _ _ (by omega) _ | refine bal ?_ _ | refine bdrN ?_ _ | refine bdr ?_))).mono ?_); rintro e w1_ ⟨rfl, hb1⟩; obtain ⟨hcb1, hfb1, hlb1⟩ := bcell hb1; have hsz1 := hb1.size; (try simp at hsz1); have HB1 := Lib.hid hb1; clear hb1; (try (have hl01 : w.heap.size < w1_.heap.size := by omega)); (try (have hl11 : w.heap.size + 1 < w1_.heap.size := by omega)))
          | (go_at_call 58; (with_reducible refine (HL.out _ (by repeat (first | exact Below.refl _ _ | refine bset ?_ _ _ (by omega) _ | refine bal ?_ _ | refine bdrN ?_ _ | refine bdr ?_ | refine below_tr' ?_ HB1.out))).mono ?_); rintro e w2_ ⟨rfl, hb2⟩; obtain ⟨hcb2, hfb2, hlb2⟩ := bcell hb2; have hsz2 := hb2.size; (try simp at hsz2); have HB2 := Lib.hid hb2; clear hb2; (try (have hl02 : w.heap.size < w2_.heap.size := by omega)); (try (have hl12 : w.heap.size + 1 < w2_.heap.size := by omega))))
        go_ret
        exact ⟨ret_int (codeOf_t HP.out).symm, (by repeat (first | exact Below.refl _ _ | refine bset ?_ _ _ (by omega) _ | refine bal ?_ _ | refine bdrN ?_ _ | refine bdr ?_ | refine below_tr' ?_ HB2.out | refine below_tr' ?_ HB1.out))⟩
/-- A figure: both lists ascend, and none is too long. -/
def figB (n1 n2 : Nat) (l1 l2 : List Pt) : Bool := (ascB l1 && decide (n1 ≤ 16)) && (ascB l2 && decide (n2 ≤ 16))
theorem isFigure_any (b1 : Option Addr) (n1 c1 : Nat) (b2 : Option Addr) (n2 c2 : Nat) (l1 l2 : List Pt) (w : World) (hn1 : n1 ≤ 1000000) (hn2 : n2 ≤ 1000000) (h1 : ListP w b1 n1 l1) (h2 : ListP w b2 n2 l2) :
    Calls Try.prog 46 #[figV b1 n1 c1 b2 n2 c2] w (Ret w (.bool (figB n1 n2 l1 l2))) := by
  have HA := Lib.hid (fun (W : World) (hW : Below w.heap.size w W) => ascendsP_any b1 n1 c1 l1 W hn1 (h1.below hW))
  have HL := Lib.hid (fun (W : World) (hW : Below w.heap.size w W) => ascendsL_any b2 n2 c2 l2 W hn2 (h2.below hW))
  have HR : Hid (figB n1 n2 l1 l2 = ((ascB l1 && decide (n1 ≤ 16)) && (ascB l2 && decide (n2 ≤ 16)))) := Lib.hid rfl
  clear h1 h2
  generalize figB n1 n2 l1 l2 = r at *
  generalize (ascB l1 && decide (n1 ≤ 16)) = u1 at *
  generalize (ascB l2 && decide (n2 ≤ 16)) = u2 at *
  cases u1 with
  | false =>
    go_enter Try.func46, Try.ntmps46
    go_wp2_with (go_at_call 59; (with_reducible refine (HA.out _ (by repeat (first | exact Below.refl _ _ | refine bset ?_ _ _ (by omega) _ | refine bal ?_ _ | refine bdrN ?_ _ | refine bdr ?_))).mono ?_); rintro e w1_ ⟨rfl, hb1⟩; obtain ⟨hcb1, hfb1, hlb1⟩ := bcell hb1; have hsz1 := hb1.size; (try simp at hsz1); have HB1 := Lib.hid hb1; clear hb1; (try (have hl01 : w.heap.size < w1_.heap.size := by omega)))
    go_ret
    exact ⟨ret_bool (by rw [HR.out]; rfl), (by repeat (first | exact Below.refl _ _ | refine bset ?_ _ _ (by omega) _ | refine bal ?_ _ | refine bdrN ?_ _ | refine bdr ?_ | refine below_tr' ?_ HB1.out))⟩
  | true =>
    go_enter Try.func46, Try.ntmps46
    go_wp2_with (first
      | (go_at_call 59; (with_reducible refine (HA.out _ (by repeat (first | exact Below.refl _ _ | refine bset ?_ _ _ (by omega) _ | refine bal ?_ _ | refine bdrN ?_ _ | refine bdr ?_))).mono ?_); rintro e w1_ ⟨rfl, hb1⟩; obtain ⟨hcb1, hfb1, hlb1⟩ := bcell hb1; have hsz1 := hb1.size; (try simp at hsz1); have HB1 := Lib.hid hb1; clear hb1; (try (have hl01 : w.heap.size < w1_.heap.size := by omega)))
      | (go_at_call 60; (with_reducible refine (HL.out _ (by repeat (first | exact Below.refl _ _ | refine bset ?_ _ _ (by omega) _ | refine bal ?_ _ | refine bdrN ?_ _ | refine bdr ?_ | refine below_tr' ?_ HB1.out))).mono ?_); rintro e w2_ ⟨rfl, hb2⟩; obtain ⟨hcb2, hfb2, hlb2⟩ := bcell hb2; have hsz2 := hb2.size; (try simp at hsz2); have HB2 := Lib.hid hb2; clear hb2; (try (have hl02 : w.heap.size < w2_.heap.size := by omega))))
    go_ret
    exact ⟨ret_bool (by rw [HR.out]; rfl), (by repeat (first | exact Below.refl _ _ | refine bset ?_ _ _ (by omega) _ | refine bal ?_ _ | refine bdrN ?_ _ | refine bdr ?_ | refine below_tr' ?_ HB2.out | refine below_tr' ?_ HB1.out))⟩
theorem l09Is_any (b1 : Option Addr) (n1 c1 : Nat) (b2 : Option Addr) (n2 c2 : Nat) (l1 l2 : List Pt) (w : World) (hn1 : n1 ≤ 1000000) (hn2 : n2 ≤ 1000000) (h1 : ListP w b1 n1 l1) (h2 : ListP w b2 n2 l2) :
    Calls Try.prog 41 #[figV b1 n1 c1 b2 n2 c2] w (Ret w (.bool (figB n1 n2 l1 l2))) := by
  have HA := Lib.hid (fun (W : World) (hW : Below w.heap.size w W) => l07Is_any b1 n1 c1 l1 W hn1 (h1.below hW))
  have HL := Lib.hid (fun (W : World) (hW : Below w.heap.size w W) => l09Listed_any b2 n2 c2 l2 W hn2 (h2.below hW))
  by_cases hc : n1 ≤ 16
  · have HR : Hid (figB n1 n2 l1 l2 = ((ascB l1 && decide (n1 ≤ 60)) && (ascB l2 && decide (n2 ≤ 16)))) := Lib.hid (by unfold figB; rw [decide_eq_true hc, decide_eq_true (show n1 ≤ 60 by omega)])
    clear h1 h2
    have hcz : (n1 : Int) ≤ 16 := by omega
    generalize figB n1 n2 l1 l2 = r at *
    generalize (ascB l1 && decide (n1 ≤ 60)) = u1 at *
    generalize (ascB l2 && decide (n2 ≤ 16)) = u2 at *
    cases u1 with
    | false =>
      go_enter Try.func41, Try.ntmps41
      go_wp2_with (go_at_call 53; (with_reducible refine (HA.out _ (by repeat (first | exact Below.refl _ _ | refine bset ?_ _ _ (by omega) _ | refine bal ?_ _ | refine bdrN ?_ _ | refine bdr ?_))).mono ?_); rintro e w1_ ⟨rfl, hb1⟩; obtain ⟨hcb1, hfb1, hlb1⟩ := bcell hb1; have hsz1 := hb1.size; (try simp at hsz1); have HB1 := Lib.hid hb1; clear hb1; (try (have hl01 : w.heap.size < w1_.heap.size := by omega)))
      go_ret
      exact ⟨ret_bool (by rw [HR.out]; rfl), (by repeat (first | exact Below.refl _ _ | refine bset ?_ _ _ (by omega) _ | refine bal ?_ _ | refine bdrN ?_ _ | refine bdr ?_ | refine below_tr' ?_ HB1.out))⟩
    | true =>
      go_enter Try.func41, Try.ntmps41
      go_wp2_with (first
        | (go_at_call 53; (with_reducible refine (HA.out _ (by repeat (first | exact Below.refl _ _ | refine bset ?_ _ _ (by omega) _ | refine bal ?_ _ | refine bdrN ?_ _ | refine bdr ?_))).mono ?_); rintro e w1_ ⟨rfl, hb1⟩; obtain ⟨hcb1, hfb1, hlb1⟩ := bcell hb1; have hsz1 := hb1.size; (try simp at hsz1); have HB1 := Lib.hid hb1; clear hb1; (try (have hl01 : w.heap.size < w1_.heap.size := by omega)))
        | (go_at_call 54; (with_reducible refine (HL.out _ (by repeat (first | exact Below.refl _ _ | refine bset ?_ _ _ (by omega) _ | refine bal ?_ _ | refine bdrN ?_ _ | refine bdr ?_ | refine below_tr' ?_ HB1.out))).mono ?_); rintro e w2_ ⟨rfl, hb2⟩; obtain ⟨hcb2, hfb2, hlb2⟩ := bcell hb2; have hsz2 := hb2.size; (try simp at hsz2); have HB2 := Lib.hid hb2; clear hb2; (try (have hl02 : w.heap.size < w2_.heap.size := by omega))))
      go_ret
      exact ⟨ret_bool (by rw [HR.out]; rfl), (by repeat (first | exact Below.refl _ _ | refine bset ?_ _ _ (by omega) _ | refine bal ?_ _ | refine bdrN ?_ _ | refine bdr ?_ | refine below_tr' ?_ HB2.out | refine below_tr' ?_ HB1.out))⟩
  · have HR : Hid (figB n1 n2 l1 l2 = false) := Lib.hid (by unfold figB; rw [decide_eq_false hc, Bool.and_false, Bool.false_and])
    clear h1 h2
    have hcz : ¬ (n1 : Int) ≤ 16 := by omega
    generalize figB n1 n2 l1 l2 = r at *
    generalize (ascB l1 && decide (n1 ≤ 60)) = u1 at *
    cases u1 with
    | false =>
      go_enter Try.func41, Try.ntmps41
      go_wp2_with (go_at_call 53; (with_reducible refine (HA.out _ (by repeat (first | exact Below.refl _ _ | refine bset ?_ _ _ (by omega) _ | refine bal ?_ _ | refine bdrN ?_ _ | refine bdr ?_))).mono ?_); rintro e w1_ ⟨rfl, hb1⟩; obtain ⟨hcb1, hfb1, hlb1⟩ := bcell hb1; have hsz1 := hb1.size; (try simp at hsz1); have HB1 := Lib.hid hb1; clear hb1; (try (have hl01 : w.heap.size < w1_.heap.size := by omega)))
      go_ret
      exact ⟨ret_bool (by rw [HR.out]), (by repeat (first | exact Below.refl _ _ | refine bset ?_ _ _ (by omega) _ | refine bal ?_ _ | refine bdrN ?_ _ | refine bdr ?_ | refine below_tr' ?_ HB1.out))⟩
    | true =>
      go_enter Try.func41, Try.ntmps41
      go_wp2_with (go_at_call 53; (with_reducible refine (HA.out _ (by repeat (first | exact Below.refl _ _ | refine bset ?_ _ _ (by omega) _ | refine bal ?_ _ | refine bdrN ?_ _ | refine bdr ?_))).mono ?_); rintro e w1_ ⟨rfl, hb1⟩; obtain ⟨hcb1, hfb1, hlb1⟩ := bcell hb1; have hsz1 := hb1.size; (try simp at hsz1); have HB1 := Lib.hid hb1; clear hb1; (try (have hl01 : w.heap.size < w1_.heap.size := by omega)))
      go_ret
      exact ⟨ret_bool (by rw [HR.out]), (by repeat (first | exact Below.refl _ _ | refine bset ?_ _ _ (by omega) _ | refine bal ?_ _ | refine bdrN ?_ _ | refine bdr ?_ | refine below_tr' ?_ HB1.out))⟩
end Go.Proofs.Ytidbikjdigemnaa
/- A figure as an argument: opened. -/
namespace Go.Proofs.Ytidbikjdigemnaa
open Go.ChangeShapes Go.WideShapes Go.ChangeAt Go.RowKit Go.Deep
set_option linter.unusedVariables false
section
variable {H : Type} {enc : TypeId × Value → H} {P : Program} {W : World} {b0 : Nat} {held : Bool} {fuel : Nat}
/-- The one cell of a list of points. -/
theorem open_cell_p {t e e1 : TypeId} {cs : List Value} {x : DataW H × List MemPlace} (ht : P.underlying t = some (.slice e)) (ha : P.underlying e = some (.array 3 e1)) (he : P.underlying e1 = some (.int .i64)) (hc1 : P.cellsOf e1 = 1) (hc : P.cellsOf e = 3)
    (hf : DataW.trod enc P W 0 (fun _ => true) held fuel t cs = some x) :
    ∃ (b : Option Addr) (k cap : Nat) (l : List Pt), cs = [.slice b k cap] ∧ k ≤ 9223372036854775807 ∧ ListP W b k l := by
  rcases open_slice ht hf with ⟨hcs, hx⟩ | ⟨a, len, cap, m, n, D, Pl, hcs, _, hl, hm, hz, hx, hcell⟩
  · exact ⟨none, 0, 0, [], hcs, Nat.zero_le _, listP_nil⟩
  · simp only [if_true] at hz
    have each : ∀ i, i < m → ∃ q : Pt, W.cell? (a.add (i * 3)) = some (.int .i64 q.1) ∧ W.cell? (a.add (i * 3 + 1)) = some (.int .i64 q.2.1) ∧ W.cell? (a.add (i * 3 + 2)) = some (.int .i64 q.2.2) := by
      intro i hi
      obtain ⟨cs', h1, h2⟩ := hcell i hi
      rw [hc] at h1
      obtain ⟨_, hlen, hcc⟩ := World.cells?_some h1
      match cs', hlen with
      | [c0, c1, c2], _ =>
        obtain ⟨y0, y1, y2, m', _, hy0, hy1, hy2⟩ := trod_array3 ha hc1 (show DataW.trod enc P W 0 (fun _ => true) held n e [c0, c1, c2] = some (D i, Pl i) from h2)
        obtain ⟨x0, e0, _, _⟩ := DataW.trod_int he hy0
        obtain ⟨x1, e1', _, _⟩ := DataW.trod_int he hy1
        obtain ⟨x2, e2, _, _⟩ := DataW.trod_int he hy2
        simp at e0 e1' e2
        subst e0 e1' e2
        have g0 := hcc 0 (by omega)
        have g1 := hcc 1 (by omega)
        have g2 := hcc 2 (by omega)
        rw [add_add] at g0 g1 g2
        exact ⟨(x0, x1, x2), by simpa using g0, by simpa using g1, by simpa using g2⟩
    obtain ⟨q, hq⟩ := choose_lt each
    refine ⟨some a, len, cap, (List.range len).map q, hcs, by unfold maxLen at hm; omega, by simp, fun hk => ?_⟩
    obtain ⟨b, off, spot⟩ := a
    have hspot : spot = none := by simpa [Addr.add] using World.cell?_spot (hq 0 (by omega)).1
    subst hspot
    refine ⟨b, off, rfl, fun i hi => ?_⟩
    obtain ⟨h0, h1, h2⟩ := hq i (by omega)
    rw [add_plain] at h0 h1 h2
    have hd : ((List.range len).map q).getD i (0, 0, 0) = q i := by simp [List.getD, hi]
    rw [hd]
    exact ⟨h0, by rw [Nat.add_assoc]; exact h1, by rw [Nat.add_assoc]; exact h2⟩
end
theorem cellsF : Try.prog.cellsOf 24 = 2 := by kernel_rfl
theorem cellsSl : Try.prog.cellsOf 22 = 1 := by kernel_rfl
theorem cells3F : Try.prog.cellsOf 48 = 3 := by kernel_rfl
theorem cells1F : Try.prog.cellsOf 2 = 1 := by kernel_rfl
set_option maxRecDepth 20000 in
theorem open_figure {H : Type} {enc : TypeId × Value → H} {W : World} {b0 : Nat} {held : Bool} {r : Reach} {v : Value} {d : DataW H} {p : List MemPlace}
    (hv : Value.okWide Try.prog W r b0 24 v) (h : DataW.Trod enc Try.prog W 0 (fun _ => true) held 24 v d p) :
    ∃ (b1 : Option Addr) (n1 c1 : Nat) (l1 : List Pt) (b2 : Option Addr) (n2 c2 : Nat) (l2 : List Pt), v = figV b1 n1 c1 b2 n2 c2 ∧ n1 ≤ 9223372036854775807 ∧ n2 ≤ 9223372036854775807 ∧ ListP W b1 n1 l1 ∧ ListP W b2 n2 l2 := by
  obtain ⟨cs, rfl, hsz, _⟩ : ∃ cs, v = .agg cs ∧ cs.size = Try.prog.cellsOf 24 ∧ Row.okWide Try.prog W r b0 24 cs := by
    simpa [Value.okWide, Try.underlying24] using hv
  rw [cellsF] at hsz
  obtain ⟨fuel, hf⟩ := h
  obtain ⟨l⟩ := cs
  simp only [Value.cells] at hf
  obtain ⟨xs, n, _, _, hlen, hxs, hfs⟩ := DataW.trod_struct Try.underlying24 hf
  have g : ∀ k (hk : k < 2), ∃ y, xs[k]? = some y := fun k hk => ⟨xs[k]'(by rw [hxs]; exact hk), List.getElem?_eq_getElem _⟩
  obtain ⟨y0, hy0⟩ := g 0 (by omega)
  obtain ⟨y1, hy1⟩ := g 1 (by omega)
  have h0 := hfs 0 _ rfl
  have h1 := hfs 1 _ rfl
  rw [hy0] at h0
  rw [hy1] at h1
  obtain ⟨b1, n1, c1, l1, e1, m1, i1⟩ := open_cell_p (t := 22) Try.underlying22 Try.underlying48 Try.underlying2 cells1F cells3F h0
  obtain ⟨b2, n2, c2, l2, e2, m2, i2⟩ := open_cell_p (t := 22) Try.underlying22 Try.underlying48 Try.underlying2 cells1F cells3F h1
  refine ⟨b1, n1, c1, l1, b2, n2, c2, l2, ?_, m1, m2, i1, i2⟩
  replace e1 : (l.drop 0).take (Try.prog.cellsOf 22) = [.slice b1 n1 c1] := e1
  replace e2 : (l.drop 1).take (Try.prog.cellsOf 22) = [.slice b2 n2 c2] := e2
  rw [cellsSl] at e1 e2
  match l, hsz with
  | [x, y], _ =>
    simp at e1 e2
    rw [e1, e2]
end Go.Proofs.Ytidbikjdigemnaa
