/- Contracts: whether a list is a set of numbers. -/
import Derived.Test.YthkbhaaodegocaaH2
namespace Go.Proofs.Ythkbhaaodegocaa
open Go.RowKit
set_option linter.unusedVariables false
set_option linter.unusedSimpArgs false
/-- A list of numbers as an argument: there where it is not empty. -/
def ArgI (w : World) (b : Option Addr) (n : Nat) (l : List Int) : Prop := 0 < n → ∃ g off, b = some ⟨g, off, none⟩ ∧ IntsAt w g off n l
theorem ArgI.below {w w1 : World} {b : Option Addr} {n : Nat} {l : List Int} (h : ArgI w b n l) (hb : Below w.heap.size w w1) : ArgI w1 b n l := fun hn => by
  obtain ⟨g, off, e, hp⟩ := h hn; exact ⟨g, off, e, hp.below hb⟩
theorem calm_pickI {P : Program} {o : Oper} {ρ : Operand → Value} {W : World} (x y z : Operand) {c : Bool} {v : Value} (ho : o.op = .pick x y z) (hx : ρ x = .bool c) (hv : (if c = true then ρ y else ρ z) = v) : calmAt P o ρ W v := by
  refine calm_run ?_
  unfold execOp
  subst hv
  simp only [ho, hx, asBool, Sem.run_bind, Sem.run_pure, Result.andThen_ok]
def codeS (n : Int) (l : List Int) : Int := if setB n l = true then 0 else 2
theorem setB_n {n : Int} {l : List Int} (h : n < 2 ∨ 1000 < n) : setB n l = false := by
  unfold setB
  have : decide (2 ≤ n ∧ n ≤ 1000) = false := by simp; omega
  rw [this]; rfl
theorem setB_len {n : Int} {l : List Int} (h : 60 < l.length) : setB n l = false := by
  unfold setB
  have : decide (l.length ≤ 60) = false := by simp; omega
  rw [this]; simp
theorem setB_ok {n : Int} {l : List Int} (h1 : 2 ≤ n) (h2 : n ≤ 1000) (h : l.length ≤ 60) : setB n l = okB n l := by
  unfold setB
  have e1 : decide (2 ≤ n ∧ n ≤ 1000) = true := by simp; omega
  have e2 : decide (l.length ≤ 60) = true := by simp; omega
  rw [e1, e2]; rfl
theorem okI_out {n : Int} {l : List Int} {i : Nat} {x : Int} (hx : l.getD i 0 = x) (h : x < 0 ∨ n - 1 < x) : okI n l i = false := by
  unfold okI
  have : decide (0 ≤ l.getD i 0 ∧ l.getD i 0 ≤ n - 1) = false := by rw [hx]; simp; omega
  rw [this]; rfl
theorem okI_zero {n : Int} {l : List Int} {x : Int} (hx : l.getD 0 0 = x) (h0 : 0 ≤ x) (h1 : x ≤ n - 1) : okI n l 0 = true := by
  unfold okI
  have : decide (0 ≤ l.getD 0 0 ∧ l.getD 0 0 ≤ n - 1) = true := by rw [hx]; simp; omega
  rw [this]; rfl
theorem okI_pos {n : Int} {l : List Int} {i : Nat} {x y : Int} (hi : 0 < i) (hx : l.getD i 0 = x) (hy : l.getD (i - 1) 0 = y) (h0 : 0 ≤ x) (h1 : x ≤ n - 1) : okI n l i = decide (y < x) := by
  unfold okI
  have : decide (0 ≤ l.getD i 0 ∧ l.getD i 0 ≤ n - 1) = true := by rw [hx]; simp; omega
  have hz : (i == 0) = false := by simp; omega
  rw [this, hz, hx, hy]; rfl
theorem in_yes (n a b : Int) (w : World) (h : a ≤ n) (h' : n ≤ b) : Calls Try.prog 125 #[.int .i64 n, .int .i64 a, .int .i64 b] w (Ret w (.bool true)) :=
  (l01In_yes n a b w h h').mono fun e w' ⟨he, hw⟩ => ⟨he, hw ▸ Below.refl _ _⟩
theorem in_no (n a b : Int) (w : World) (h : n < a ∨ b < n) : Calls Try.prog 125 #[.int .i64 n, .int .i64 a, .int .i64 b] w (Ret w (.bool false)) :=
  (l01In_no n a b w h).mono fun e w' ⟨he, hw⟩ => ⟨he, hw ▸ Below.refl _ _⟩
set_option maxHeartbeats 2000000 in
theorem l10Set_any (n : Int) (b : Option Addr) (k cap : Nat) (l : List Int) (w : World) (hl : l.length = k) (hk : k ≤ 1000000) (hc : ArgI w b k l) :
    Calls Try.prog 62 #[.int .i64 n, .slice b k cap] w (Ret w (.int .i64 (codeS n l))) := by
  by_cases hn : 2 ≤ n ∧ n ≤ 1000
  · obtain ⟨n2, n1000⟩ := hn
    by_cases h60 : 60 < k
    · have HE := Lib.hid (show codeS n l = 2 by unfold codeS; rw [setB_len (by omega)]; rfl)
      have h60z : (60 : Int) < (k : Int) := by omega
      clear hc
      go_enter Try.func62, Try.ntmps62
      go_wp2_with (go_at_call 125; refine (l01In_yes _ _ _ _ n2 n1000).mono ?_; rintro e w' ⟨rfl, rfl⟩)
      go_ret
      exact ⟨ret_int HE.out.symm, Below.refl _ _⟩
    · have h60' : k ≤ 60 := by omega
      have h60z : ¬ (60 : Int) < (k : Int) := by omega
      have HL := Lib.hid hl
      have HE := Lib.hid (setB_ok n2 n1000 (show l.length ≤ 60 by omega))
      have HC := Lib.hid hc
      clear hl hc
      go_enter Try.func62, Try.ntmps62
      go_wp2_with (go_at_call 125; refine (l01In_yes _ _ _ _ n2 n1000).mono ?_; rintro e w' ⟨rfl, rfl⟩)
      go_loopw [5] (fun i wr => ∃ j : Nat, j ≤ k ∧ i = .int .i64 j ∧ Hid (∀ q, q < j → okI n l q = true) ∧ Hid (Below w.heap.size w wr)) (fun i wr => k - (intOf i).toNat)
      case atStart => exact ⟨0, Nat.zero_le _, rfl, Lib.hid (fun q hq => absurd hq (Nat.not_lt_zero _)), Lib.hid (Below.refl _ _)⟩
      case round =>
        obtain ⟨j, hj, rfl, HD, HB⟩ := hrel
        by_cases hlt : j < k
        · obtain ⟨g, off, rfl, hp⟩ := HC.out (by omega)
          have c0 := (hp.below HB.out) j hlt
          have c1' := fun h : 0 < j => (hp.below HB.out) (j - 1) (by omega)
          generalize hx : l.getD j 0 = x at c0
          generalize hy : l.getD (j - 1) 0 = y at c1'
          have HX := Lib.hid hx
          have HY := Lib.hid hy
          have hjl : j < l.length := by have := HL.out; omega
          have HNo := Lib.hid (fun h : okI n l j = false => show codeS n l = 2 by unfold codeS; rw [HE.out, okB_bad hjl h]; rfl)
          have HYes : Hid (okI n l j = true → ∀ q, q < j + 1 → okI n l q = true) := Lib.hid (fun h q hq => by
            rcases Nat.lt_or_ge q j with h2 | h2
            · exact HD.out q h2
            · rw [show q = j by omega]; exact h)
          clear hx hy hp hjl
          by_cases hr' : 0 ≤ x ∧ x ≤ n - 1
          · obtain ⟨r0, r1⟩ := hr'
            by_cases hj0 : j = 0
            · subst hj0
              have HY2 := Lib.hid (HYes.out (okI_zero HX.out r0 r1))
              simp only [Nat.add_zero] at c0
              clear HYes HNo c1'
              go_wp2
              refine region_calmG [(20, .slice (some ⟨g, off, none⟩) k cap), (21, .int .i64 0), (22, .pointer (some ⟨g, off, none⟩)), (23, .int .i64 x), (24, .int .i64 n), (25, .int .i64 (n - 1)), (26, .bool true), (27, .bool false), (28, .bool false), (29, .int .i64 0), (30, .bool false), (31, .bool false), (32, undef), (33, undef), (34, undef), (35, undef), (36, undef), (37, undef), (38, undef), (39, undef), (40, undef), (41, undef), (42, .bool false), (43, .bool false)] (by kernel_rfl) (by kernel_rfl) (by kernel_rfl) (fun aE hpe => ?_)
              simp only [puts, Act.put, List.setIfInBounds_toArray, List.set_cons_zero, List.set_cons_succ] at hpe
              subst hpe
              refine ⟨⟨.inr (.inr ?_), .inr (.inr ?_), .inr (.inr ?_), .inr (.inr ?_), .inr (.inr ?_), .inr (.inr ?_), .inr (.inr ?_), .inr (.inr ?_), .inr (.inr ?_), .inr (.inr ?_), .inr (.inr ?_), .inr (.inr ?_), .inr (.inr ?_), .inr (.inr ?_), .inr (.inr ?_), .inr (.inr ?_), .inr (.inr ?_), .inr (.inr ?_), .inr (.inr ?_), .inr (.inr ?_), .inr (.inr ?_), .inr (.inr ?_), .inr (.inr ?_), .inr (.inr ?_), trivial⟩, ?_⟩
              · exact CalmG.mk 20 (.slice (some ⟨g, off, none⟩) k cap) rfl rfl rfl (fun W hW => calm_move (.tmp 1) rfl rfl)
              · exact CalmG.mk 21 (.int .i64 0) rfl rfl rfl (fun W hW => calm_move (.tmp 5) rfl rfl)
              · exact CalmG.mk 22 (.pointer (some ⟨g, off, none⟩)) rfl rfl rfl (fun W hW => calm_run (by simp [execOp, Act.eval, go_sem, hlt]))
              · exact CalmG.mk 23 (.int .i64 x) rfl rfl rfl (fun W hW => calm_run (by have hc : W.cell? ⟨g, off, none⟩ = some (.int .i64 x) := cell_below hW c0; simp [execOp, Act.eval, go_sem, hc]))
              · exact CalmG.mk 24 (.int .i64 n) rfl rfl rfl (fun W hW => calm_move (.tmp 0) rfl rfl)
              · exact CalmG.mk 25 (.int .i64 (n - 1)) rfl rfl rfl (fun W hW => calm_run (by have e : IntKind.i64.wrap (n - 1) = n - 1 := (by rw [IntKind.wrap_i64]; omega); simp [execOp, Act.eval, go_sem, e]))
              · exact CalmG.mk 26 (.bool true) rfl rfl rfl (fun W hW => calm_call 125 _ #[.int .i64 x, .int .i64 0, .int .i64 (n - 1)] rfl rfl rfl (by simp [Act.eval]) (Try.call125 _ _) (in_yes x 0 (n - 1) W r0 r1))
              · exact CalmG.mk 27 (.bool false) rfl rfl rfl (fun W hW => calm_run (by simp [execOp, Act.eval, go_sem]))
              · exact CalmG.mk 28 (.bool false) rfl rfl rfl (fun W hW => calm_move (.tmp 27) rfl rfl)
              · exact CalmG.mk 29 (.int .i64 0) rfl rfl rfl (fun W hW => calm_move (.tmp 5) rfl rfl)
              · exact CalmG.mk 30 (.bool false) rfl rfl rfl (fun W hW => calm_run (by simp [execOp, Act.eval, go_sem]))
              · exact CalmG.mk 31 (.bool false) rfl rfl rfl (fun W hW => calm_move (.tmp 30) rfl rfl)
              · exact CalmG.out 32 rfl rfl rfl
              · exact CalmG.out 33 rfl rfl rfl
              · exact CalmG.out 34 rfl rfl rfl
              · exact CalmG.out 35 rfl rfl rfl
              · exact CalmG.out 36 rfl rfl rfl
              · exact CalmG.out 37 rfl rfl rfl
              · exact CalmG.out 38 rfl rfl rfl
              · exact CalmG.out 39 rfl rfl rfl
              · exact CalmG.out 40 rfl rfl rfl
              · exact CalmG.out 41 rfl rfl rfl
              · exact CalmG.mk 42 (.bool false) rfl rfl rfl (fun W hW => calm_pickI (.tmp 31) (.tmp 41) (.const (.bool false)) rfl rfl rfl)
              · exact CalmG.mk 43 (.bool false) rfl rfl rfl (fun W hW => calm_pickI (.tmp 28) (.const (.bool true)) (.tmp 42) rfl rfl rfl)
              intro W2 hW2
              have HB2 := Lib.hid (low_tr' HB.out hW2 HB.out.size)
              clear hW2 HB
              go_wp2
              go_roundw
              case rel => exact ⟨1, by omega, by go_num, HY2, HB2⟩
              case measure => simp [intOf]; omega
            · have hjp : 0 < j := by omega
              have hjz : (0 : Int) < (j : Int) := by omega
              have c1 := c1' hjp
              clear c1'
              by_cases hyx : y < x
              · have HY2 := Lib.hid (HYes.out (by rw [okI_pos hjp HX.out HY.out r0 r1]; simpa using hyx))
                have hle : ¬ x ≤ y := by omega
                clear HYes HNo
                go_wp2
                refine region_calmG [(20, .slice (some ⟨g, off, none⟩) k cap), (21, .int .i64 j), (22, .pointer (some ⟨g, off + j, none⟩)), (23, .int .i64 x), (24, .int .i64 n), (25, .int .i64 (n - 1)), (26, .bool true), (27, .bool false), (28, .bool false), (29, .int .i64 j), (30, .bool true), (31, .bool true), (32, .slice (some ⟨g, off, none⟩) k cap), (33, .int .i64 j), (34, .pointer (some ⟨g, off + j, none⟩)), (35, .int .i64 x), (36, .slice (some ⟨g, off, none⟩) k cap), (37, .int .i64 j), (38, .int .i64 ((j : Int) - 1)), (39, .pointer (some ⟨g, off + (j - 1), none⟩)), (40, .int .i64 y), (41, .bool false), (42, .bool false), (43, .bool false)] (by kernel_rfl) (by kernel_rfl) (by kernel_rfl) (fun aE hpe => ?_)
                simp only [puts, Act.put, List.setIfInBounds_toArray, List.set_cons_zero, List.set_cons_succ] at hpe
                subst hpe
                refine ⟨⟨.inr (.inr ?_), .inr (.inr ?_), .inr (.inr ?_), .inr (.inr ?_), .inr (.inr ?_), .inr (.inr ?_), .inr (.inr ?_), .inr (.inr ?_), .inr (.inr ?_), .inr (.inr ?_), .inr (.inr ?_), .inr (.inr ?_), .inr (.inr ?_), .inr (.inr ?_), .inr (.inr ?_), .inr (.inr ?_), .inr (.inr ?_), .inr (.inr ?_), .inr (.inr ?_), .inr (.inr ?_), .inr (.inr ?_), .inr (.inr ?_), .inr (.inr ?_), .inr (.inr ?_), trivial⟩, ?_⟩
                · exact CalmG.mk 20 (.slice (some ⟨g, off, none⟩) k cap) rfl rfl rfl (fun W hW => calm_move (.tmp 1) rfl rfl)
                · exact CalmG.mk 21 (.int .i64 j) rfl rfl rfl (fun W hW => calm_move (.tmp 5) rfl rfl)
                · exact CalmG.mk 22 (.pointer (some ⟨g, off + j, none⟩)) rfl rfl rfl (fun W hW => calm_run (by simp [execOp, Act.eval, go_sem, hlt]))
                · exact CalmG.mk 23 (.int .i64 x) rfl rfl rfl (fun W hW => calm_run (by have hc : W.cell? ⟨g, off + j, none⟩ = some (.int .i64 x) := cell_below hW c0; simp [execOp, Act.eval, go_sem, hc]))
                · exact CalmG.mk 24 (.int .i64 n) rfl rfl rfl (fun W hW => calm_move (.tmp 0) rfl rfl)
                · exact CalmG.mk 25 (.int .i64 (n - 1)) rfl rfl rfl (fun W hW => calm_run (by have e : IntKind.i64.wrap (n - 1) = n - 1 := (by rw [IntKind.wrap_i64]; omega); simp [execOp, Act.eval, go_sem, e]))
                · exact CalmG.mk 26 (.bool true) rfl rfl rfl (fun W hW => calm_call 125 _ #[.int .i64 x, .int .i64 0, .int .i64 (n - 1)] rfl rfl rfl (by simp [Act.eval]) (Try.call125 _ _) (in_yes x 0 (n - 1) W r0 r1))
                · exact CalmG.mk 27 (.bool false) rfl rfl rfl (fun W hW => calm_run (by simp [execOp, Act.eval, go_sem]))
                · exact CalmG.mk 28 (.bool false) rfl rfl rfl (fun W hW => calm_move (.tmp 27) rfl rfl)
                · exact CalmG.mk 29 (.int .i64 j) rfl rfl rfl (fun W hW => calm_move (.tmp 5) rfl rfl)
                · exact CalmG.mk 30 (.bool true) rfl rfl rfl (fun W hW => calm_run (by simp [execOp, Act.eval, go_sem, hjp]))
                · exact CalmG.mk 31 (.bool true) rfl rfl rfl (fun W hW => calm_move (.tmp 30) rfl rfl)
                · exact CalmG.mk 32 (.slice (some ⟨g, off, none⟩) k cap) rfl rfl rfl (fun W hW => calm_move (.tmp 1) rfl rfl)
                · exact CalmG.mk 33 (.int .i64 j) rfl rfl rfl (fun W hW => calm_move (.tmp 5) rfl rfl)
                · exact CalmG.mk 34 (.pointer (some ⟨g, off + j, none⟩)) rfl rfl rfl (fun W hW => calm_run (by simp [execOp, Act.eval, go_sem, hlt]))
                · exact CalmG.mk 35 (.int .i64 x) rfl rfl rfl (fun W hW => calm_run (by have hc : W.cell? ⟨g, off + j, none⟩ = some (.int .i64 x) := cell_below hW c0; simp [execOp, Act.eval, go_sem, hc]))
                · exact CalmG.mk 36 (.slice (some ⟨g, off, none⟩) k cap) rfl rfl rfl (fun W hW => calm_move (.tmp 1) rfl rfl)
                · exact CalmG.mk 37 (.int .i64 j) rfl rfl rfl (fun W hW => calm_move (.tmp 5) rfl rfl)
                · exact CalmG.mk 38 (.int .i64 ((j : Int) - 1)) rfl rfl rfl (fun W hW => calm_run (by have e : IntKind.i64.wrap ((j : Int) - 1) = (j : Int) - 1 := (by rw [IntKind.wrap_i64]; omega); simp [execOp, Act.eval, go_sem, e]))
                · exact CalmG.mk 39 (.pointer (some ⟨g, off + (j - 1), none⟩)) rfl rfl rfl (fun W hW => calm_run (by have e1 : ((j : Int) - 1).toNat = j - 1 := (by omega); have e2 : j - 1 < k := (by omega); have e3 : ¬ (j : Int) - 1 < 0 := (by omega); have e4 : (j : Int) - 1 < (k : Int) := (by omega); have e5 : 0 ≤ (j : Int) - 1 := (by omega); have e6 : ¬ (k : Int) ≤ (j : Int) - 1 := (by omega); have e7 : ¬ (j : Int) < 1 := (by omega); simp [execOp, Act.eval, go_sem, e1, e2, e3, e4, e5, e6, e7]))
                · exact CalmG.mk 40 (.int .i64 y) rfl rfl rfl (fun W hW => calm_run (by have hc : W.cell? ⟨g, off + (j - 1), none⟩ = some (.int .i64 y) := cell_below hW c1; simp [execOp, Act.eval, go_sem, hc]))
                · exact CalmG.mk 41 (.bool false) rfl rfl rfl (fun W hW => calm_run (by simp [execOp, Act.eval, go_sem, hle]))
                · exact CalmG.mk 42 (.bool false) rfl rfl rfl (fun W hW => calm_pickI (.tmp 31) (.tmp 41) (.const (.bool false)) rfl rfl rfl)
                · exact CalmG.mk 43 (.bool false) rfl rfl rfl (fun W hW => calm_pickI (.tmp 28) (.const (.bool true)) (.tmp 42) rfl rfl rfl)
                intro W2 hW2
                have HB2 := Lib.hid (low_tr' HB.out hW2 HB.out.size)
                clear hW2 HB
                go_wp2
                go_roundw
                case rel => exact ⟨j + 1, by omega, by go_num, HY2, HB2⟩
                case measure => simp [intOf]; omega
              · have HY2 := Lib.hid (HNo.out (by rw [okI_pos hjp HX.out HY.out r0 r1]; simpa using hyx))
                have hle : x ≤ y := by omega
                clear HYes HNo
                go_wp2
                refine region_calmG [(20, .slice (some ⟨g, off, none⟩) k cap), (21, .int .i64 j), (22, .pointer (some ⟨g, off + j, none⟩)), (23, .int .i64 x), (24, .int .i64 n), (25, .int .i64 (n - 1)), (26, .bool true), (27, .bool false), (28, .bool false), (29, .int .i64 j), (30, .bool true), (31, .bool true), (32, .slice (some ⟨g, off, none⟩) k cap), (33, .int .i64 j), (34, .pointer (some ⟨g, off + j, none⟩)), (35, .int .i64 x), (36, .slice (some ⟨g, off, none⟩) k cap), (37, .int .i64 j), (38, .int .i64 ((j : Int) - 1)), (39, .pointer (some ⟨g, off + (j - 1), none⟩)), (40, .int .i64 y), (41, .bool true), (42, .bool true), (43, .bool true)] (by kernel_rfl) (by kernel_rfl) (by kernel_rfl) (fun aE hpe => ?_)
                simp only [puts, Act.put, List.setIfInBounds_toArray, List.set_cons_zero, List.set_cons_succ] at hpe
                subst hpe
                refine ⟨⟨.inr (.inr ?_), .inr (.inr ?_), .inr (.inr ?_), .inr (.inr ?_), .inr (.inr ?_), .inr (.inr ?_), .inr (.inr ?_), .inr (.inr ?_), .inr (.inr ?_), .inr (.inr ?_), .inr (.inr ?_), .inr (.inr ?_), .inr (.inr ?_), .inr (.inr ?_), .inr (.inr ?_), .inr (.inr ?_), .inr (.inr ?_), .inr (.inr ?_), .inr (.inr ?_), .inr (.inr ?_), .inr (.inr ?_), .inr (.inr ?_), .inr (.inr ?_), .inr (.inr ?_), trivial⟩, ?_⟩
                · exact CalmG.mk 20 (.slice (some ⟨g, off, none⟩) k cap) rfl rfl rfl (fun W hW => calm_move (.tmp 1) rfl rfl)
                · exact CalmG.mk 21 (.int .i64 j) rfl rfl rfl (fun W hW => calm_move (.tmp 5) rfl rfl)
                · exact CalmG.mk 22 (.pointer (some ⟨g, off + j, none⟩)) rfl rfl rfl (fun W hW => calm_run (by simp [execOp, Act.eval, go_sem, hlt]))
                · exact CalmG.mk 23 (.int .i64 x) rfl rfl rfl (fun W hW => calm_run (by have hc : W.cell? ⟨g, off + j, none⟩ = some (.int .i64 x) := cell_below hW c0; simp [execOp, Act.eval, go_sem, hc]))
                · exact CalmG.mk 24 (.int .i64 n) rfl rfl rfl (fun W hW => calm_move (.tmp 0) rfl rfl)
                · exact CalmG.mk 25 (.int .i64 (n - 1)) rfl rfl rfl (fun W hW => calm_run (by have e : IntKind.i64.wrap (n - 1) = n - 1 := (by rw [IntKind.wrap_i64]; omega); simp [execOp, Act.eval, go_sem, e]))
                · exact CalmG.mk 26 (.bool true) rfl rfl rfl (fun W hW => calm_call 125 _ #[.int .i64 x, .int .i64 0, .int .i64 (n - 1)] rfl rfl rfl (by simp [Act.eval]) (Try.call125 _ _) (in_yes x 0 (n - 1) W r0 r1))
                · exact CalmG.mk 27 (.bool false) rfl rfl rfl (fun W hW => calm_run (by simp [execOp, Act.eval, go_sem]))
                · exact CalmG.mk 28 (.bool false) rfl rfl rfl (fun W hW => calm_move (.tmp 27) rfl rfl)
                · exact CalmG.mk 29 (.int .i64 j) rfl rfl rfl (fun W hW => calm_move (.tmp 5) rfl rfl)
                · exact CalmG.mk 30 (.bool true) rfl rfl rfl (fun W hW => calm_run (by simp [execOp, Act.eval, go_sem, hjp]))
                · exact CalmG.mk 31 (.bool true) rfl rfl rfl (fun W hW => calm_move (.tmp 30) rfl rfl)
                · exact CalmG.mk 32 (.slice (some ⟨g, off, none⟩) k cap) rfl rfl rfl (fun W hW => calm_move (.tmp 1) rfl rfl)
                · exact CalmG.mk 33 (.int .i64 j) rfl rfl rfl (fun W hW => calm_move (.tmp 5) rfl rfl)
                · exact CalmG.mk 34 (.pointer (some ⟨g, off + j, none⟩)) rfl rfl rfl (fun W hW => calm_run (by simp [execOp, Act.eval, go_sem, hlt]))
                · exact CalmG.mk 35 (.int .i64 x) rfl rfl rfl (fun W hW => calm_run (by have hc : W.cell? ⟨g, off + j, none⟩ = some (.int .i64 x) := cell_below hW c0; simp [execOp, Act.eval, go_sem, hc]))
                · exact CalmG.mk 36 (.slice (some ⟨g, off, none⟩) k cap) rfl rfl rfl (fun W hW => calm_move (.tmp 1) rfl rfl)
                · exact CalmG.mk 37 (.int .i64 j) rfl rfl rfl (fun W hW => calm_move (.tmp 5) rfl rfl)
                · exact CalmG.mk 38 (.int .i64 ((j : Int) - 1)) rfl rfl rfl (fun W hW => calm_run (by have e : IntKind.i64.wrap ((j : Int) - 1) = (j : Int) - 1 := (by rw [IntKind.wrap_i64]; omega); simp [execOp, Act.eval, go_sem, e]))
                · exact CalmG.mk 39 (.pointer (some ⟨g, off + (j - 1), none⟩)) rfl rfl rfl (fun W hW => calm_run (by have e1 : ((j : Int) - 1).toNat = j - 1 := (by omega); have e2 : j - 1 < k := (by omega); have e3 : ¬ (j : Int) - 1 < 0 := (by omega); have e4 : (j : Int) - 1 < (k : Int) := (by omega); have e5 : 0 ≤ (j : Int) - 1 := (by omega); have e6 : ¬ (k : Int) ≤ (j : Int) - 1 := (by omega); have e7 : ¬ (j : Int) < 1 := (by omega); simp [execOp, Act.eval, go_sem, e1, e2, e3, e4, e5, e6, e7]))
                · exact CalmG.mk 40 (.int .i64 y) rfl rfl rfl (fun W hW => calm_run (by have hc : W.cell? ⟨g, off + (j - 1), none⟩ = some (.int .i64 y) := cell_below hW c1; simp [execOp, Act.eval, go_sem, hc]))
                · exact CalmG.mk 41 (.bool true) rfl rfl rfl (fun W hW => calm_run (by simp [execOp, Act.eval, go_sem, hle]))
                · exact CalmG.mk 42 (.bool true) rfl rfl rfl (fun W hW => calm_pickI (.tmp 31) (.tmp 41) (.const (.bool false)) rfl rfl rfl)
                · exact CalmG.mk 43 (.bool true) rfl rfl rfl (fun W hW => calm_pickI (.tmp 28) (.const (.bool true)) (.tmp 42) rfl rfl rfl)
                intro W2 hW2
                have HB2 := Lib.hid (low_tr' HB.out hW2 HB.out.size)
                clear hW2 HB
                go_wp2
                go_ret
                exact ⟨ret_int HY2.out.symm, HB2.out⟩
          · have hr : x < 0 ∨ n - 1 < x := by omega
            have HY2 := Lib.hid (HNo.out (okI_out HX.out hr))
            clear HYes HNo c1'
            go_wp2
            refine region_calmG [(20, .slice (some ⟨g, off, none⟩) k cap), (21, .int .i64 j), (22, .pointer (some ⟨g, off + j, none⟩)), (23, .int .i64 x), (24, .int .i64 n), (25, .int .i64 (n - 1)), (26, .bool false), (27, .bool true), (28, .bool true), (29, undef), (30, undef), (31, undef), (32, undef), (33, undef), (34, undef), (35, undef), (36, undef), (37, undef), (38, undef), (39, undef), (40, undef), (41, undef), (42, undef), (43, .bool true)] (by kernel_rfl) (by kernel_rfl) (by kernel_rfl) (fun aE hpe => ?_)
            simp only [puts, Act.put, List.setIfInBounds_toArray, List.set_cons_zero, List.set_cons_succ] at hpe
            subst hpe
            refine ⟨⟨.inr (.inr ?_), .inr (.inr ?_), .inr (.inr ?_), .inr (.inr ?_), .inr (.inr ?_), .inr (.inr ?_), .inr (.inr ?_), .inr (.inr ?_), .inr (.inr ?_), .inr (.inr ?_), .inr (.inr ?_), .inr (.inr ?_), .inr (.inr ?_), .inr (.inr ?_), .inr (.inr ?_), .inr (.inr ?_), .inr (.inr ?_), .inr (.inr ?_), .inr (.inr ?_), .inr (.inr ?_), .inr (.inr ?_), .inr (.inr ?_), .inr (.inr ?_), .inr (.inr ?_), trivial⟩, ?_⟩
            · exact CalmG.mk 20 (.slice (some ⟨g, off, none⟩) k cap) rfl rfl rfl (fun W hW => calm_move (.tmp 1) rfl rfl)
            · exact CalmG.mk 21 (.int .i64 j) rfl rfl rfl (fun W hW => calm_move (.tmp 5) rfl rfl)
            · exact CalmG.mk 22 (.pointer (some ⟨g, off + j, none⟩)) rfl rfl rfl (fun W hW => calm_run (by simp [execOp, Act.eval, go_sem, hlt]))
            · exact CalmG.mk 23 (.int .i64 x) rfl rfl rfl (fun W hW => calm_run (by have hc : W.cell? ⟨g, off + j, none⟩ = some (.int .i64 x) := cell_below hW c0; simp [execOp, Act.eval, go_sem, hc]))
            · exact CalmG.mk 24 (.int .i64 n) rfl rfl rfl (fun W hW => calm_move (.tmp 0) rfl rfl)
            · exact CalmG.mk 25 (.int .i64 (n - 1)) rfl rfl rfl (fun W hW => calm_run (by have e : IntKind.i64.wrap (n - 1) = n - 1 := (by rw [IntKind.wrap_i64]; omega); simp [execOp, Act.eval, go_sem, e]))
            · exact CalmG.mk 26 (.bool false) rfl rfl rfl (fun W hW => calm_call 125 _ #[.int .i64 x, .int .i64 0, .int .i64 (n - 1)] rfl rfl rfl (by simp [Act.eval]) (Try.call125 _ _) (in_no x 0 (n - 1) W hr))
            · exact CalmG.mk 27 (.bool true) rfl rfl rfl (fun W hW => calm_run (by simp [execOp, Act.eval, go_sem]))
            · exact CalmG.mk 28 (.bool true) rfl rfl rfl (fun W hW => calm_move (.tmp 27) rfl rfl)
            · exact CalmG.out 29 rfl rfl rfl
            · exact CalmG.out 30 rfl rfl rfl
            · exact CalmG.out 31 rfl rfl rfl
            · exact CalmG.out 32 rfl rfl rfl
            · exact CalmG.out 33 rfl rfl rfl
            · exact CalmG.out 34 rfl rfl rfl
            · exact CalmG.out 35 rfl rfl rfl
            · exact CalmG.out 36 rfl rfl rfl
            · exact CalmG.out 37 rfl rfl rfl
            · exact CalmG.out 38 rfl rfl rfl
            · exact CalmG.out 39 rfl rfl rfl
            · exact CalmG.out 40 rfl rfl rfl
            · exact CalmG.out 41 rfl rfl rfl
            · exact CalmG.out 42 rfl rfl rfl
            · exact CalmG.mk 43 (.bool true) rfl rfl rfl (fun W hW => calm_pickI (.tmp 28) (.const (.bool true)) (.tmp 42) rfl rfl rfl)
            intro W2 hW2
            have HB2 := Lib.hid (low_tr' HB.out hW2 HB.out.size)
            clear hW2 HB
            go_wp2
            go_ret
            exact ⟨ret_int HY2.out.symm, HB2.out⟩
        · have hjk : j = k := by omega
          have HY2 := Lib.hid (show codeS n l = 0 by unfold codeS; rw [HE.out, okB_all (fun i hi => HD.out i (by have := HL.out; omega))]; rfl)
          go_wp2
          go_ret
          exact ⟨ret_int HY2.out.symm, HB.out⟩
  · have hn' : n < 2 ∨ 1000 < n := by omega
    have HE := Lib.hid (show codeS n l = 2 by unfold codeS; rw [setB_n hn']; rfl)
    clear hc hn
    go_enter Try.func62, Try.ntmps62
    go_wp2_with (go_at_call 125; refine (l01In_no _ _ _ _ hn').mono ?_; rintro e w' ⟨rfl, rfl⟩)
    go_ret
    exact ⟨ret_int HE.out.symm, Below.refl _ _⟩
end Go.Proofs.Ythkbhaaodegocaa
