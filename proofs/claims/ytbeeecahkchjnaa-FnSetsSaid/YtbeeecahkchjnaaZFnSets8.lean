/- Texts of the claim, in build order: H3, H4, S7, T4, T6, U1, U2, U3, U4, U5, RegT, G4, T5, T7, DS1, DS2, U6, U7. No condition. -/
import Derived.Sort.OwnSortedInts
import Derived.Deep.DeepCutAuto
import Derived.Test.YtbeeecahkchjnaaZFnSets7
/- Contracts: whether a list is a set of numbers. -/
namespace Go.Proofs.Ytbeeecahkchjnaa
open Go.RowKit
set_option linter.unusedVariables false
set_option linter.unusedSimpArgs false
/-- A list of numbers as an argument: there where it is not empty. -/
def ArgI (w : World) (b : Option Addr) (n : Nat) (l : List Int) : Prop := 0 < n → ∃ g off, b = some ⟨g, off, none⟩ ∧ IntsAt w g off n l
theorem ArgI.below {w w1 : World} {b : Option Addr} {n : Nat} {l : List Int} (h : ArgI w b n l) (hb : Below w.heap.size w w1) : ArgI w1 b n l := fun hn => by
  obtain ⟨g, off, e, hp⟩ := h hn; exact ⟨g, off, e, hp.below hb⟩
theorem calm_pickH {P : Program} {o : Oper} {ρ : Operand → Value} {W : World} (x y z : Operand) {c : Bool} {v : Value} (ho : o.op = .pick x y z) (hx : ρ x = .bool c) (hv : (if c = true then ρ y else ρ z) = v) : calmAt P o ρ W v := by
  refine calm_run ?_
  unfold execOp
  subst hv
  simp only [ho, hx, asBool, Sem.run_bind, Sem.run_pure, Result.andThen_ok]
def codeS (n : Int) (l : List Int) : Int := if setB n l = true then 0 else 2
theorem setB_n {n : Int} {l : List Int} (h : n < 2 ∨ 1000 < n) : setB n l = false := by
  unfold setB
  have : decide (2 ≤ n ∧ n ≤ 1000) = false := by simp; omega
  rw [this]; rfl
theorem setB_len {n : Int} {l : List Int} (h : 60 < l.length) : setB n l = false := by
  unfold setB
  have : decide (l.length ≤ 60) = false := by simp; omega
  rw [this]; simp
theorem setB_ok {n : Int} {l : List Int} (h1 : 2 ≤ n) (h2 : n ≤ 1000) (h : l.length ≤ 60) : setB n l = okB n l := by
  unfold setB
  have e1 : decide (2 ≤ n ∧ n ≤ 1000) = true := by simp; omega
  have e2 : decide (l.length ≤ 60) = true := by simp; omega
  rw [e1, e2]; rfl
theorem okI_out {n : Int} {l : List Int} {i : Nat} {x : Int} (hx : l.getD i 0 = x) (h : x < 0 ∨ n - 1 < x) : okI n l i = false := by
  unfold okI
  have : decide (0 ≤ l.getD i 0 ∧ l.getD i 0 ≤ n - 1) = false := by rw [hx]; simp; omega
  rw [this]; rfl
theorem okI_zero {n : Int} {l : List Int} {x : Int} (hx : l.getD 0 0 = x) (h0 : 0 ≤ x) (h1 : x ≤ n - 1) : okI n l 0 = true := by
  unfold okI
  have : decide (0 ≤ l.getD 0 0 ∧ l.getD 0 0 ≤ n - 1) = true := by rw [hx]; simp; omega
  rw [this]; rfl
theorem okI_pos {n : Int} {l : List Int} {i : Nat} {x y : Int} (hi : 0 < i) (hx : l.getD i 0 = x) (hy : l.getD (i - 1) 0 = y) (h0 : 0 ≤ x) (h1 : x ≤ n - 1) : okI n l i = decide (y < x) := by
  unfold okI
  have : decide (0 ≤ l.getD i 0 ∧ l.getD i 0 ≤ n - 1) = true := by rw [hx]; simp; omega
  have hz : (i == 0) = false := by simp; omega
  rw [this, hz, hx, hy]; rfl
theorem in_yes (n a b : Int) (w : World) (h : a ≤ n) (h' : n ≤ b) : Calls Try.prog 31 #[.int .i64 n, .int .i64 a, .int .i64 b] w (Ret w (.bool true)) :=
  (l01In_yes n a b w h h').mono fun e w' ⟨he, hw⟩ => ⟨he, hw ▸ Below.refl _ _⟩
theorem in_no (n a b : Int) (w : World) (h : n < a ∨ b < n) : Calls Try.prog 31 #[.int .i64 n, .int .i64 a, .int .i64 b] w (Ret w (.bool false)) :=
  (l01In_no n a b w h).mono fun e w' ⟨he, hw⟩ => ⟨he, hw ▸ Below.refl _ _⟩
set_option maxHeartbeats 2000000 in
theorem l10Set_any (n : Int) (b : Option Addr) (k cap : Nat) (l : List Int) (w : World) (hl : l.length = k) (hk : k ≤ 1000000) (hc : ArgI w b k l) :
    Calls Try.prog 27 #[.int .i64 n, .slice b k cap] w (Ret w (.int .i64 (codeS n l))) := by
  by_cases hn : 2 ≤ n ∧ n ≤ 1000
  · obtain ⟨n2, n1000⟩ := hn
    by_cases h60 : 60 < k
    · have HE := Lib.hid (show codeS n l = 2 by unfold codeS; rw [setB_len (by omega)]; rfl)
      have h60z : (60 : Int) < (k : Int) := by omega
      clear hc
      go_enter Try.func27, Try.ntmps27
      go_wp2_with (go_at_call 31; refine (l01In_yes _ _ _ _ n2 n1000).mono ?_; rintro e w' ⟨rfl, rfl⟩)
      go_ret
      exact ⟨ret_int HE.out.symm, Below.refl _ _⟩
    · have h60' : k ≤ 60 := by omega
      have h60z : ¬ (60 : Int) < (k : Int) := by omega
      have HL := Lib.hid hl
      have HE := Lib.hid (setB_ok n2 n1000 (show l.length ≤ 60 by omega))
      have HC := Lib.hid hc
      clear hl hc
      go_enter Try.func27, Try.ntmps27
      go_wp2_with (go_at_call 31; refine (l01In_yes _ _ _ _ n2 n1000).mono ?_; rintro e w' ⟨rfl, rfl⟩)
      go_loopw [5] (fun i wr => ∃ j : Nat, j ≤ k ∧ i = .int .i64 j ∧ Hid (∀ q, q < j → okI n l q = true) ∧ Hid (Below w.heap.size w wr)) (fun i wr => k - (intOf i).toNat)
      case atStart => exact ⟨0, Nat.zero_le _, rfl, Lib.hid (fun q hq => absurd hq (Nat.not_lt_zero _)), Lib.hid (Below.refl _ _)⟩
      case round =>
        obtain ⟨j, hj, rfl, HD, HB⟩ := hrel
        by_cases hlt : j < k
        · obtain ⟨g, off, rfl, hp⟩ := HC.out (by omega)
          have c0 := (hp.below HB.out) j hlt
          have c1' := fun h : 0 < j => (hp.below HB.out) (j - 1) (by omega)
          generalize hx : l.getD j 0 = x at c0
          generalize hy : l.getD (j - 1) 0 = y at c1'
          have HX := Lib.hid hx
          have HY := Lib.hid hy
          have hjl : j < l.length := by have := HL.out; omega
          have HNo := Lib.hid (fun h : okI n l j = false => show codeS n l = 2 by unfold codeS; rw [HE.out, okB_bad hjl h]; rfl)
          have HYes : Hid (okI n l j = true → ∀ q, q < j + 1 → okI n l q = true) := Lib.hid (fun h q hq => by
            rcases Nat.lt_or_ge q j with h2 | h2
            · exact HD.out q h2
            · rw [show q = j by omega]; exact h)
          clear hx hy hp hjl
          by_cases hr' : 0 ≤ x ∧ x ≤ n - 1
          · obtain ⟨r0, r1⟩ := hr'
            by_cases hj0 : j = 0
            · subst hj0
              have HY2 := Lib.hid (HYes.out (okI_zero HX.out r0 r1))
              simp only [Nat.add_zero] at c0
              clear HYes HNo c1'
              go_wp2
              refine region_calmG [(20, .slice (some ⟨g, off, none⟩) k cap), (21, .int .i64 0), (22, .pointer (some ⟨g, off, none⟩)), (23, .int .i64 x), (24, .int .i64 n), (25, .int .i64 (n - 1)), (26, .bool true), (27, .bool false), (28, .bool false), (29, .int .i64 0), (30, .bool false), (31, .bool false), (32, undef), (33, undef), (34, undef), (35, undef), (36, undef), (37, undef), (38, undef), (39, undef), (40, undef), (41, undef), (42, .bool false), (43, .bool false)] (by kernel_rfl) (by kernel_rfl) (by kernel_rfl) (fun aE hpe => ?_)
              simp only [puts, Act.put, List.setIfInBounds_toArray, List.set_cons_zero, List.set_cons_succ] at hpe
              subst hpe
              refine ⟨⟨.inr (.inr ?_), .inr (.inr ?_), .inr (.inr ?_), .inr (.inr ?_), .inr (.inr ?_), .inr (.inr ?_), .inr (.inr ?_), .inr (.inr ?_), .inr (.inr ?_), .inr (.inr ?_), .inr (.inr ?_), .inr (.inr ?_), .inr (.inr ?_), .inr (.inr ?_), .inr (.inr ?_), .inr (.inr ?_), .inr (.inr ?_), .inr (.inr ?_), .inr (.inr ?_), .inr (.inr ?_), .inr (.inr ?_), .inr (.inr ?_), .inr (.inr ?_), .inr (.inr ?_), trivial⟩, ?_⟩
              · exact CalmG.mk 20 (.slice (some ⟨g, off, none⟩) k cap) rfl rfl rfl (fun W hW => calm_move (.tmp 1) rfl rfl)
              · exact CalmG.mk 21 (.int .i64 0) rfl rfl rfl (fun W hW => calm_move (.tmp 5) rfl rfl)
              · exact CalmG.mk 22 (.pointer (some ⟨g, off, none⟩)) rfl rfl rfl (fun W hW => calm_run (by simp [execOp, Act.eval, go_sem, hlt]))
              · exact CalmG.mk 23 (.int .i64 x) rfl rfl rfl (fun W hW => calm_run (by have hc : W.cell? ⟨g, off, none⟩ = some (.int .i64 x) := cell_below hW c0; simp [execOp, Act.eval, go_sem, hc]))
              · exact CalmG.mk 24 (.int .i64 n) rfl rfl rfl (fun W hW => calm_move (.tmp 0) rfl rfl)
              · exact CalmG.mk 25 (.int .i64 (n - 1)) rfl rfl rfl (fun W hW => calm_run (by have e : IntKind.i64.wrap (n - 1) = n - 1 := (by rw [IntKind.wrap_i64]; omega); simp [execOp, Act.eval, go_sem, e]))
              · exact CalmG.mk 26 (.bool true) rfl rfl rfl (fun W hW => calm_call 31 _ #[.int .i64 x, .int .i64 0, .int .i64 (n - 1)] rfl rfl rfl (by simp [Act.eval]) (Try.call31 _ _) (in_yes x 0 (n - 1) W r0 r1))
              · exact CalmG.mk 27 (.bool false) rfl rfl rfl (fun W hW => calm_run (by simp [execOp, Act.eval, go_sem]))
              · exact CalmG.mk 28 (.bool false) rfl rfl rfl (fun W hW => calm_move (.tmp 27) rfl rfl)
              · exact CalmG.mk 29 (.int .i64 0) rfl rfl rfl (fun W hW => calm_move (.tmp 5) rfl rfl)
              · exact CalmG.mk 30 (.bool false) rfl rfl rfl (fun W hW => calm_run (by simp [execOp, Act.eval, go_sem]))
              · exact CalmG.mk 31 (.bool false) rfl rfl rfl (fun W hW => calm_move (.tmp 30) rfl rfl)
              · exact CalmG.out 32 rfl rfl rfl
              · exact CalmG.out 33 rfl rfl rfl
              · exact CalmG.out 34 rfl rfl rfl
              · exact CalmG.out 35 rfl rfl rfl
              · exact CalmG.out 36 rfl rfl rfl
              · exact CalmG.out 37 rfl rfl rfl
              · exact CalmG.out 38 rfl rfl rfl
              · exact CalmG.out 39 rfl rfl rfl
              · exact CalmG.out 40 rfl rfl rfl
              · exact CalmG.out 41 rfl rfl rfl
              · exact CalmG.mk 42 (.bool false) rfl rfl rfl (fun W hW => calm_pickH (.tmp 31) (.tmp 41) (.const (.bool false)) rfl rfl rfl)
              · exact CalmG.mk 43 (.bool false) rfl rfl rfl (fun W hW => calm_pickH (.tmp 28) (.const (.bool true)) (.tmp 42) rfl rfl rfl)
              intro W2 hW2
              have HB2 := Lib.hid (low_tr' HB.out hW2 HB.out.size)
              clear hW2 HB
              go_wp2
              go_roundw
              case rel => exact ⟨1, by omega, by go_num, HY2, HB2⟩
              case measure => simp [intOf]; omega
            · have hjp : 0 < j := by omega
              have hjz : (0 : Int) < (j : Int) := by omega
              have c1 := c1' hjp
              clear c1'
              by_cases hyx : y < x
              · have HY2 := Lib.hid (HYes.out (by rw [okI_pos hjp HX.out HY.out r0 r1]; simpa using hyx))
                have hle : ¬ x ≤ y := by omega
                clear HYes HNo
                go_wp2
                refine region_calmG [(20, .slice (some ⟨g, off, none⟩) k cap), (21, .int .i64 j), (22, .pointer (some ⟨g, off + j, none⟩)), (23, .int .i64 x), (24, .int .i64 n), (25, .int .i64 (n - 1)), (26, .bool true), (27, .bool false), (28, .bool false), (29, .int .i64 j), (30, .bool true), (31, .bool true), (32, .slice (some ⟨g, off, none⟩) k cap), (33, .int .i64 j), (34, .pointer (some ⟨g, off + j, none⟩)), (35, .int .i64 x), (36, .slice (some ⟨g, off, none⟩) k cap), (37, .int .i64 j), (38, .int .i64 ((j : Int) - 1)), (39, .pointer (some ⟨g, off + (j - 1), none⟩)), (40, .int .i64 y), (41, .bool false), (42, .bool false), (43, .bool false)] (by kernel_rfl) (by kernel_rfl) (by kernel_rfl) (fun aE hpe => ?_)
                simp only [puts, Act.put, List.setIfInBounds_toArray, List.set_cons_zero, List.set_cons_succ] at hpe
                subst hpe
                refine ⟨⟨.inr (.inr ?_), .inr (.inr ?_), .inr (.inr ?_), .inr (.inr ?_), .inr (.inr ?_), .inr (.inr ?_), .inr (.inr ?_), .inr (.inr ?_), .inr (.inr ?_), .inr (.inr ?_), .inr (.inr ?_), .inr (.inr ?_), .inr (.inr ?_), .inr (.inr ?_), .inr (.inr ?_), .inr (.inr ?_), .inr (.inr ?_), .inr (.inr ?_), .inr (.inr ?_), .inr (.inr ?_), .inr (.inr ?_), .inr (.inr ?_), .inr (.inr ?_), .inr (.inr ?_), trivial⟩, ?_⟩
                · exact CalmG.mk 20 (.slice (some ⟨g, off, none⟩) k cap) rfl rfl rfl (fun W hW => calm_move (.tmp 1) rfl rfl)
                · exact CalmG.mk 21 (.int .i64 j) rfl rfl rfl (fun W hW => calm_move (.tmp 5) rfl rfl)
                · exact CalmG.mk 22 (.pointer (some ⟨g, off + j, none⟩)) rfl rfl rfl (fun W hW => calm_run (by simp [execOp, Act.eval, go_sem, hlt]))
                · exact CalmG.mk 23 (.int .i64 x) rfl rfl rfl (fun W hW => calm_run (by have hc : W.cell? ⟨g, off + j, none⟩ = some (.int .i64 x) := cell_below hW c0; simp [execOp, Act.eval, go_sem, hc]))
                · exact CalmG.mk 24 (.int .i64 n) rfl rfl rfl (fun W hW => calm_move (.tmp 0) rfl rfl)
                · exact CalmG.mk 25 (.int .i64 (n - 1)) rfl rfl rfl (fun W hW => calm_run (by have e : IntKind.i64.wrap (n - 1) = n - 1 := (by rw [IntKind.wrap_i64]; omega); simp [execOp, Act.eval, go_sem, e]))
                · exact CalmG.mk 26 (.bool true) rfl rfl rfl (fun W hW => calm_call 31 _ #[.int .i64 x, .int .i64 0, .int .i64 (n - 1)] rfl rfl rfl (by simp [Act.eval]) (Try.call31 _ _) (in_yes x 0 (n - 1) W r0 r1))
                · exact CalmG.mk 27 (.bool false) rfl rfl rfl (fun W hW => calm_run (by simp [execOp, Act.eval, go_sem]))
                · exact CalmG.mk 28 (.bool false) rfl rfl rfl (fun W hW => calm_move (.tmp 27) rfl rfl)
                · exact CalmG.mk 29 (.int .i64 j) rfl rfl rfl (fun W hW => calm_move (.tmp 5) rfl rfl)
                · exact CalmG.mk 30 (.bool true) rfl rfl rfl (fun W hW => calm_run (by simp [execOp, Act.eval, go_sem, hjp]))
                · exact CalmG.mk 31 (.bool true) rfl rfl rfl (fun W hW => calm_move (.tmp 30) rfl rfl)
                · exact CalmG.mk 32 (.slice (some ⟨g, off, none⟩) k cap) rfl rfl rfl (fun W hW => calm_move (.tmp 1) rfl rfl)
                · exact CalmG.mk 33 (.int .i64 j) rfl rfl rfl (fun W hW => calm_move (.tmp 5) rfl rfl)
                · exact CalmG.mk 34 (.pointer (some ⟨g, off + j, none⟩)) rfl rfl rfl (fun W hW => calm_run (by simp [execOp, Act.eval, go_sem, hlt]))
                · exact CalmG.mk 35 (.int .i64 x) rfl rfl rfl (fun W hW => calm_run (by have hc : W.cell? ⟨g, off + j, none⟩ = some (.int .i64 x) := cell_below hW c0; simp [execOp, Act.eval, go_sem, hc]))
                · exact CalmG.mk 36 (.slice (some ⟨g, off, none⟩) k cap) rfl rfl rfl (fun W hW => calm_move (.tmp 1) rfl rfl)
                · exact CalmG.mk 37 (.int .i64 j) rfl rfl rfl (fun W hW => calm_move (.tmp 5) rfl rfl)
                · exact CalmG.mk 38 (.int .i64 ((j : Int) - 1)) rfl rfl rfl (fun W hW => calm_run (by have e : IntKind.i64.wrap ((j : Int) - 1) = (j : Int) - 1 := (by rw [IntKind.wrap_i64]; omega); simp [execOp, Act.eval, go_sem, e]))
                · exact CalmG.mk 39 (.pointer (some ⟨g, off + (j - 1), none⟩)) rfl rfl rfl (fun W hW => calm_run (by have e1 : ((j : Int) - 1).toNat = j - 1 := (by omega); have e2 : j - 1 < k := (by omega); have e3 : ¬ (j : Int) - 1 < 0 := (by omega); have e4 : (j : Int) - 1 < (k : Int) := (by omega); have e5 : 0 ≤ (j : Int) - 1 := (by omega); have e6 : ¬ (k : Int) ≤ (j : Int) - 1 := (by omega); have e7 : ¬ (j : Int) < 1 := (by omega); simp [execOp, Act.eval, go_sem, e1, e2, e3, e4, e5, e6, e7]))
                · exact CalmG.mk 40 (.int .i64 y) rfl rfl rfl (fun W hW => calm_run (by have hc : W.cell? ⟨g, off + (j - 1), none⟩ = some (.int .i64 y) := cell_below hW c1; simp [execOp, Act.eval, go_sem, hc]))
                · exact CalmG.mk 41 (.bool false) rfl rfl rfl (fun W hW => calm_run (by simp [execOp, Act.eval, go_sem, hle]))
                · exact CalmG.mk 42 (.bool false) rfl rfl rfl (fun W hW => calm_pickH (.tmp 31) (.tmp 41) (.const (.bool false)) rfl rfl rfl)
                · exact CalmG.mk 43 (.bool false) rfl rfl rfl (fun W hW => calm_pickH (.tmp 28) (.const (.bool true)) (.tmp 42) rfl rfl rfl)
                intro W2 hW2
                have HB2 := Lib.hid (low_tr' HB.out hW2 HB.out.size)
                clear hW2 HB
                go_wp2
                go_roundw
                case rel => exact ⟨j + 1, by omega, by go_num, HY2, HB2⟩
                case measure => simp [intOf]; omega
              · have HY2 := Lib.hid (HNo.out (by rw [okI_pos hjp HX.out HY.out r0 r1]; simpa using hyx))
                have hle : x ≤ y := by omega
                clear HYes HNo
                go_wp2
                refine region_calmG [(20, .slice (some ⟨g, off, none⟩) k cap), (21, .int .i64 j), (22, .pointer (some ⟨g, off + j, none⟩)), (23, .int .i64 x), (24, .int .i64 n), (25, .int .i64 (n - 1)), (26, .bool true), (27, .bool false), (28, .bool false), (29, .int .i64 j), (30, .bool true), (31, .bool true), (32, .slice (some ⟨g, off, none⟩) k cap), (33, .int .i64 j), (34, .pointer (some ⟨g, off + j, none⟩)), (35, .int .i64 x), (36, .slice (some ⟨g, off, none⟩) k cap), (37, .int .i64 j), (38, .int .i64 ((j : Int) - 1)), (39, .pointer (some ⟨g, off + (j - 1), none⟩)), (40, .int .i64 y), (41, .bool true), (42, .bool true), (43, .bool true)] (by kernel_rfl) (by kernel_rfl) (by kernel_rfl) (fun aE hpe => ?_)
                simp only [puts, Act.put, List.setIfInBounds_toArray, List.set_cons_zero, List.set_cons_succ] at hpe
                subst hpe
                refine ⟨⟨.inr (.inr ?_), .inr (.inr ?_), .inr (.inr ?_), .inr (.inr ?_), .inr (.inr ?_), .inr (.inr ?_), .inr (.inr ?_), .inr (.inr ?_), .inr (.inr ?_), .inr (.inr ?_), .inr (.inr ?_), .inr (.inr ?_), .inr (.inr ?_), .inr (.inr ?_), .inr (.inr ?_), .inr (.inr ?_), .inr (.inr ?_), .inr (.inr ?_), .inr (.inr ?_), .inr (.inr ?_), .inr (.inr ?_), .inr (.inr ?_), .inr (.inr ?_), .inr (.inr ?_), trivial⟩, ?_⟩
                · exact CalmG.mk 20 (.slice (some ⟨g, off, none⟩) k cap) rfl rfl rfl (fun W hW => calm_move (.tmp 1) rfl rfl)
                · exact CalmG.mk 21 (.int .i64 j) rfl rfl rfl (fun W hW => calm_move (.tmp 5) rfl rfl)
                · exact CalmG.mk 22 (.pointer (some ⟨g, off + j, none⟩)) rfl rfl rfl (fun W hW => calm_run (by simp [execOp, Act.eval, go_sem, hlt]))
                · exact CalmG.mk 23 (.int .i64 x) rfl rfl rfl (fun W hW => calm_run (by have hc : W.cell? ⟨g, off + j, none⟩ = some (.int .i64 x) := cell_below hW c0; simp [execOp, Act.eval, go_sem, hc]))
                · exact CalmG.mk 24 (.int .i64 n) rfl rfl rfl (fun W hW => calm_move (.tmp 0) rfl rfl)
                · exact CalmG.mk 25 (.int .i64 (n - 1)) rfl rfl rfl (fun W hW => calm_run (by have e : IntKind.i64.wrap (n - 1) = n - 1 := (by rw [IntKind.wrap_i64]; omega); simp [execOp, Act.eval, go_sem, e]))
                · exact CalmG.mk 26 (.bool true) rfl rfl rfl (fun W hW => calm_call 31 _ #[.int .i64 x, .int .i64 0, .int .i64 (n - 1)] rfl rfl rfl (by simp [Act.eval]) (Try.call31 _ _) (in_yes x 0 (n - 1) W r0 r1))
                · exact CalmG.mk 27 (.bool false) rfl rfl rfl (fun W hW => calm_run (by simp [execOp, Act.eval, go_sem]))
                · exact CalmG.mk 28 (.bool false) rfl rfl rfl (fun W hW => calm_move (.tmp 27) rfl rfl)
                · exact CalmG.mk 29 (.int .i64 j) rfl rfl rfl (fun W hW => calm_move (.tmp 5) rfl rfl)
                · exact CalmG.mk 30 (.bool true) rfl rfl rfl (fun W hW => calm_run (by simp [execOp, Act.eval, go_sem, hjp]))
                · exact CalmG.mk 31 (.bool true) rfl rfl rfl (fun W hW => calm_move (.tmp 30) rfl rfl)
                · exact CalmG.mk 32 (.slice (some ⟨g, off, none⟩) k cap) rfl rfl rfl (fun W hW => calm_move (.tmp 1) rfl rfl)
                · exact CalmG.mk 33 (.int .i64 j) rfl rfl rfl (fun W hW => calm_move (.tmp 5) rfl rfl)
                · exact CalmG.mk 34 (.pointer (some ⟨g, off + j, none⟩)) rfl rfl rfl (fun W hW => calm_run (by simp [execOp, Act.eval, go_sem, hlt]))
                · exact CalmG.mk 35 (.int .i64 x) rfl rfl rfl (fun W hW => calm_run (by have hc : W.cell? ⟨g, off + j, none⟩ = some (.int .i64 x) := cell_below hW c0; simp [execOp, Act.eval, go_sem, hc]))
                · exact CalmG.mk 36 (.slice (some ⟨g, off, none⟩) k cap) rfl rfl rfl (fun W hW => calm_move (.tmp 1) rfl rfl)
                · exact CalmG.mk 37 (.int .i64 j) rfl rfl rfl (fun W hW => calm_move (.tmp 5) rfl rfl)
                · exact CalmG.mk 38 (.int .i64 ((j : Int) - 1)) rfl rfl rfl (fun W hW => calm_run (by have e : IntKind.i64.wrap ((j : Int) - 1) = (j : Int) - 1 := (by rw [IntKind.wrap_i64]; omega); simp [execOp, Act.eval, go_sem, e]))
                · exact CalmG.mk 39 (.pointer (some ⟨g, off + (j - 1), none⟩)) rfl rfl rfl (fun W hW => calm_run (by have e1 : ((j : Int) - 1).toNat = j - 1 := (by omega); have e2 : j - 1 < k := (by omega); have e3 : ¬ (j : Int) - 1 < 0 := (by omega); have e4 : (j : Int) - 1 < (k : Int) := (by omega); have e5 : 0 ≤ (j : Int) - 1 := (by omega); have e6 : ¬ (k : Int) ≤ (j : Int) - 1 := (by omega); have e7 : ¬ (j : Int) < 1 := (by omega); simp [execOp, Act.eval, go_sem, e1, e2, e3, e4, e5, e6, e7]))
                · exact CalmG.mk 40 (.int .i64 y) rfl rfl rfl (fun W hW => calm_run (by have hc : W.cell? ⟨g, off + (j - 1), none⟩ = some (.int .i64 y) := cell_below hW c1; simp [execOp, Act.eval, go_sem, hc]))
                · exact CalmG.mk 41 (.bool true) rfl rfl rfl (fun W hW => calm_run (by simp [execOp, Act.eval, go_sem, hle]))
                · exact CalmG.mk 42 (.bool true) rfl rfl rfl (fun W hW => calm_pickH (.tmp 31) (.tmp 41) (.const (.bool false)) rfl rfl rfl)
                · exact CalmG.mk 43 (.bool true) rfl rfl rfl (fun W hW => calm_pickH (.tmp 28) (.const (.bool true)) (.tmp 42) rfl rfl rfl)
                intro W2 hW2
                have HB2 := Lib.hid (low_tr' HB.out hW2 HB.out.size)
                clear hW2 HB
                go_wp2
                go_ret
                exact ⟨ret_int HY2.out.symm, HB2.out⟩
          · have hr : x < 0 ∨ n - 1 < x := by omega
            have HY2 := Lib.hid (HNo.out (okI_out HX.out hr))
            clear HYes HNo c1'
            go_wp2
            refine region_calmG [(20, .slice (some ⟨g, off, none⟩) k cap), (21, .int .i64 j), (22, .pointer (some ⟨g, off + j, none⟩)), (23, .int .i64 x), (24, .int .i64 n), (25, .int .i64 (n - 1)), (26, .bool false), (27, .bool true), (28, .bool true), (29, undef), (30, undef), (31, undef), (32, undef), (33, undef), (34, undef), (35, undef), (36, undef), (37, undef), (38, undef), (39, undef), (40, undef), (41, undef), (42, undef), (43, .bool true)] (by kernel_rfl) (by kernel_rfl) (by kernel_rfl) (fun aE hpe => ?_)
            simp only [puts, Act.put, List.setIfInBounds_toArray, List.set_cons_zero, List.set_cons_succ] at hpe
            subst hpe
            refine ⟨⟨.inr (.inr ?_), .inr (.inr ?_), .inr (.inr ?_), .inr (.inr ?_), .inr (.inr ?_), .inr (.inr ?_), .inr (.inr ?_), .inr (.inr ?_), .inr (.inr ?_), .inr (.inr ?_), .inr (.inr ?_), .inr (.inr ?_), .inr (.inr ?_), .inr (.inr ?_), .inr (.inr ?_), .inr (.inr ?_), .inr (.inr ?_), .inr (.inr ?_), .inr (.inr ?_), .inr (.inr ?_), .inr (.inr ?_), .inr (.inr ?_), .inr (.inr ?_), .inr (.inr ?_), trivial⟩, ?_⟩
            · exact CalmG.mk 20 (.slice (some ⟨g, off, none⟩) k cap) rfl rfl rfl (fun W hW => calm_move (.tmp 1) rfl rfl)
            · exact CalmG.mk 21 (.int .i64 j) rfl rfl rfl (fun W hW => calm_move (.tmp 5) rfl rfl)
            · exact CalmG.mk 22 (.pointer (some ⟨g, off + j, none⟩)) rfl rfl rfl (fun W hW => calm_run (by simp [execOp, Act.eval, go_sem, hlt]))
            · exact CalmG.mk 23 (.int .i64 x) rfl rfl rfl (fun W hW => calm_run (by have hc : W.cell? ⟨g, off + j, none⟩ = some (.int .i64 x) := cell_below hW c0; simp [execOp, Act.eval, go_sem, hc]))
            · exact CalmG.mk 24 (.int .i64 n) rfl rfl rfl (fun W hW => calm_move (.tmp 0) rfl rfl)
            · exact CalmG.mk 25 (.int .i64 (n - 1)) rfl rfl rfl (fun W hW => calm_run (by have e : IntKind.i64.wrap (n - 1) = n - 1 := (by rw [IntKind.wrap_i64]; omega); simp [execOp, Act.eval, go_sem, e]))
            · exact CalmG.mk 26 (.bool false) rfl rfl rfl (fun W hW => calm_call 31 _ #[.int .i64 x, .int .i64 0, .int .i64 (n - 1)] rfl rfl rfl (by simp [Act.eval]) (Try.call31 _ _) (in_no x 0 (n - 1) W hr))
            · exact CalmG.mk 27 (.bool true) rfl rfl rfl (fun W hW => calm_run (by simp [execOp, Act.eval, go_sem]))
            · exact CalmG.mk 28 (.bool true) rfl rfl rfl (fun W hW => calm_move (.tmp 27) rfl rfl)
            · exact CalmG.out 29 rfl rfl rfl
            · exact CalmG.out 30 rfl rfl rfl
            · exact CalmG.out 31 rfl rfl rfl
            · exact CalmG.out 32 rfl rfl rfl
            · exact CalmG.out 33 rfl rfl rfl
            · exact CalmG.out 34 rfl rfl rfl
            · exact CalmG.out 35 rfl rfl rfl
            · exact CalmG.out 36 rfl rfl rfl
            · exact CalmG.out 37 rfl rfl rfl
            · exact CalmG.out 38 rfl rfl rfl
            · exact CalmG.out 39 rfl rfl rfl
            · exact CalmG.out 40 rfl rfl rfl
            · exact CalmG.out 41 rfl rfl rfl
            · exact CalmG.out 42 rfl rfl rfl
            · exact CalmG.mk 43 (.bool true) rfl rfl rfl (fun W hW => calm_pickH (.tmp 28) (.const (.bool true)) (.tmp 42) rfl rfl rfl)
            intro W2 hW2
            have HB2 := Lib.hid (low_tr' HB.out hW2 HB.out.size)
            clear hW2 HB
            go_wp2
            go_ret
            exact ⟨ret_int HY2.out.symm, HB2.out⟩
        · have hjk : j = k := by omega
          have HY2 := Lib.hid (show codeS n l = 0 by unfold codeS; rw [HE.out, okB_all (fun i hi => HD.out i (by have := HL.out; omega))]; rfl)
          go_wp2
          go_ret
          exact ⟨ret_int HY2.out.symm, HB.out⟩
  · have hn' : n < 2 ∨ 1000 < n := by omega
    have HE := Lib.hid (show codeS n l = 2 by unfold codeS; rw [setB_n hn']; rfl)
    clear hc hn
    go_enter Try.func27, Try.ntmps27
    go_wp2_with (go_at_call 31; refine (l01In_no _ _ _ _ hn').mono ?_; rintro e w' ⟨rfl, rfl⟩)
    go_ret
    exact ⟨ret_int HE.out.symm, Below.refl _ _⟩
end Go.Proofs.Ytbeeecahkchjnaa
/- Contracts: whether a list is a set of numbers: the program. -/
namespace Go.Proofs.Ytbeeecahkchjnaa
open Go.RowKit
set_option linter.unusedVariables false
set_option linter.unusedSimpArgs false
theorem within_b (n a b : Int) (v : Bool) (w : World) (h : decide (a ≤ n ∧ n ≤ b) = v) : Calls Try.prog 29 #[.int .i64 n, .int .i64 a, .int .i64 b] w fun e w' => e = .returned (.bool v) ∧ w = w' := by
  cases v with
  | true =>
    have h2 : a ≤ n ∧ n ≤ b := by simpa using h
    exact within_yes n a b w h2.1 h2.2
  | false =>
    have h2 : ¬ (a ≤ n ∧ n ≤ b) := by simpa using h
    exact within_no n a b w (by omega)
set_option maxHeartbeats 2000000 in
theorem isNumberSet_bad (n : Int) (b : Option Addr) (k cap : Nat) (l : List Int) (w : World) (hk : k ≤ 1000000) (hc : ArgI w b k l) (hn : n < 2 ∨ 1000 < n) :
    Calls Try.prog 23 #[.int .i64 n, .slice b k cap] w (Ret w (.bool false)) := by
  have HC := Lib.hid hc
  clear hc
  go_enter Try.func23, Try.ntmps23
  go_wp2
  go_loop [9] (fun i => ∃ j : Nat, j ≤ k ∧ i = .int .i64 j) (fun i => k - (intOf i).toNat)
  case atStart => exact ⟨0, Nat.zero_le _, rfl⟩
  case round =>
    obtain ⟨j, hj, rfl⟩ := hrel
    by_cases hlt : j < k
    · obtain ⟨g, off, rfl, hp⟩ := HC.out (by omega)
      have c0 := hp j hlt
      have c1 := fun h : 0 < j => hp (j - 1) (by omega)
      generalize l.getD j 0 = x at c0
      generalize l.getD (j - 1) 0 = y at c1
      clear hp
      by_cases hj0 : j = 0
      · subst hj0
        simp only [Nat.add_zero] at c0
        clear c1
        go_wp2_with (go_at_call 29; refine (within_b _ _ _ _ _ rfl).mono ?_; rintro e w' ⟨rfl, rfl⟩)
        all_goals first
          | (go_round
             case rel => exact ⟨1, by omega, rfl⟩
             case measure => simp [intOf]; omega)
          | (go_ret; exact ⟨rfl, Below.refl _ _⟩)
      · obtain ⟨i, rfl⟩ : ∃ i, j = i + 1 := ⟨j - 1, by omega⟩
        have c1 := c1 (by omega)
        simp only [Nat.add_sub_cancel] at c1
        have hik : i < k := by omega
        have hip : (0 : Int) < (i : Int) + 1 := by omega
        go_wp2_with (go_at_call 29; refine (within_b _ _ _ _ _ rfl).mono ?_; rintro e w' ⟨rfl, rfl⟩)
        all_goals first
          | (go_round
             case rel => exact ⟨i + 1 + 1, by omega, by go_num⟩
             case measure => simp [intOf]; omega)
          | (go_ret; exact ⟨rfl, Below.refl _ _⟩)
    · have hjk : j = k := by omega
      go_wp2_with (go_at_call 29; refine (within_no _ _ _ _ hn).mono ?_; rintro e w' ⟨rfl, rfl⟩)
      go_ret
      exact ⟨rfl, Below.refl _ _⟩

theorem setB_bad {n : Int} {l : List Int} (h : okB n l = false) : setB n l = false := by unfold setB; rw [h]; simp
theorem setB_end {n : Int} {l : List Int} {k : Nat} (h1 : 2 ≤ n) (h2 : n ≤ 1000) (hl : l.length = k) (h : okB n l = true) : setB n l = decide (k ≤ 60) := by
  unfold setB
  have e1 : decide (2 ≤ n ∧ n ≤ 1000) = true := by simp; omega
  rw [e1, h, hl]; simp
set_option maxHeartbeats 2000000 in
theorem isNumberSet_good (n : Int) (b : Option Addr) (k cap : Nat) (l : List Int) (w : World) (hl : l.length = k) (hk : k ≤ 1000000) (hc : ArgI w b k l) (n2 : 2 ≤ n) (n1000 : n ≤ 1000) :
    Calls Try.prog 23 #[.int .i64 n, .slice b k cap] w (Ret w (.bool (setB n l))) := by
  have HC := Lib.hid hc
  have HL := Lib.hid hl
  clear hc hl
  go_enter Try.func23, Try.ntmps23
  go_wp2
  go_loop [9] (fun i => ∃ j : Nat, j ≤ k ∧ i = .int .i64 j ∧ Hid (∀ q, q < j → okI n l q = true)) (fun i => k - (intOf i).toNat)
  case atStart => exact ⟨0, Nat.zero_le _, rfl, Lib.hid (fun q hq => absurd hq (Nat.not_lt_zero _))⟩
  case round =>
    obtain ⟨j, hj, rfl, HD⟩ := hrel
    by_cases hlt : j < k
    · obtain ⟨g, off, rfl, hp⟩ := HC.out (by omega)
      have c0 := hp j hlt
      have c1 := fun h : 0 < j => hp (j - 1) (by omega)
      generalize hx : l.getD j 0 = x at c0
      generalize hy : l.getD (j - 1) 0 = y at c1
      have HX := Lib.hid hx
      have HY := Lib.hid hy
      have hjl : j < l.length := by have := HL.out; omega
      have HNo := Lib.hid (fun h : okI n l j = false => setB_bad (okB_bad hjl h))
      have HYes : Hid (okI n l j = true → ∀ q, q < j + 1 → okI n l q = true) := Lib.hid (fun h q hq => by
        rcases Nat.lt_or_ge q j with h2 | h2
        · exact HD.out q h2
        · rw [show q = j by omega]; exact h)
      clear hx hy hp hjl
      by_cases hr' : 0 ≤ x ∧ x ≤ n - 1
      · obtain ⟨r0, r1⟩ := hr'
        by_cases hj0 : j = 0
        · subst hj0
          simp only [Nat.add_zero] at c0
          have HY2 := Lib.hid (HYes.out (okI_zero HX.out r0 r1))
          clear c1 HYes HNo
          go_wp2_with (go_at_call 29; refine (within_yes _ _ _ _ r0 r1).mono ?_; rintro e w' ⟨rfl, rfl⟩)
          go_round
          case rel => exact ⟨1, by omega, rfl, HY2⟩
          case measure => simp [intOf]; omega
        · obtain ⟨i, rfl⟩ : ∃ i, j = i + 1 := ⟨j - 1, by omega⟩
          have c1' := c1 (by omega)
          simp only [Nat.add_sub_cancel] at c1'
          have hik : i < k := by omega
          have hip : (0 : Int) < (i : Int) + 1 := by omega
          clear c1
          by_cases hyx : y < x
          · have HY2 := Lib.hid (HYes.out (by rw [okI_pos (by omega) HX.out HY.out r0 r1]; simpa using hyx))
            have hle : ¬ x ≤ y := by omega
            clear HYes HNo
            go_wp2_with (go_at_call 29; refine (within_yes _ _ _ _ r0 r1).mono ?_; rintro e w' ⟨rfl, rfl⟩)
            go_round
            case rel => exact ⟨i + 1 + 1, by omega, by go_num, HY2⟩
            case measure => simp [intOf]; omega
          · have HY2 := Lib.hid (HNo.out (by rw [okI_pos (by omega) HX.out HY.out r0 r1]; simpa using hyx))
            have hle : x ≤ y := by omega
            clear HYes HNo
            go_wp2_with (go_at_call 29; refine (within_yes _ _ _ _ r0 r1).mono ?_; rintro e w' ⟨rfl, rfl⟩)
            go_ret
            exact ⟨ret_bool HY2.out.symm, Below.refl _ _⟩
      · have hr : x < 0 ∨ n - 1 < x := by omega
        have HY2 := Lib.hid (HNo.out (okI_out HX.out hr))
        clear c1 HYes HNo
        go_wp2_with (go_at_call 29; refine (within_no _ _ _ _ hr).mono ?_; rintro e w' ⟨rfl, rfl⟩)
        go_ret
        exact ⟨ret_bool HY2.out.symm, Below.refl _ _⟩
    · have hjk : j = k := by omega
      have HY2 := Lib.hid (setB_end n2 n1000 HL.out (okB_all (fun i hi => HD.out i (by have := HL.out; omega))))
      by_cases h60 : k ≤ 60
      · have h60z : (k : Int) ≤ 60 := by omega
        go_wp2_with (go_at_call 29; refine (within_yes _ _ _ _ n2 n1000).mono ?_; rintro e w' ⟨rfl, rfl⟩)
        go_ret
        exact ⟨ret_bool (by rw [HY2.out]; simp; omega), Below.refl _ _⟩
      · have h60z : ¬ (k : Int) ≤ 60 := by omega
        go_wp2_with (go_at_call 29; refine (within_yes _ _ _ _ n2 n1000).mono ?_; rintro e w' ⟨rfl, rfl⟩)
        go_ret
        exact ⟨ret_bool (by rw [HY2.out]; simp; omega), Below.refl _ _⟩
theorem isNumberSet_any (n : Int) (b : Option Addr) (k cap : Nat) (l : List Int) (w : World) (hl : l.length = k) (hk : k ≤ 1000000) (hc : ArgI w b k l) :
    Calls Try.prog 23 #[.int .i64 n, .slice b k cap] w (Ret w (.bool (setB n l))) := by
  by_cases hn : n < 2 ∨ 1000 < n
  · rw [setB_n hn]; exact isNumberSet_bad n b k cap l w hk hc hn
  · exact isNumberSet_good n b k cap l w hl hk hc (by omega) (by omega)
end Go.Proofs.Ytbeeecahkchjnaa
/- Contracts: the Singer map, as the reference finds it; SingerMap. (Printed by gens7.py, a program of this session.) -/
namespace Go.Proofs.Ytbeeecahkchjnaa
open Go.RowKit
set_option linter.unusedVariables false
set_option linter.unusedSimpArgs false
set_option maxRecDepth 20000 in
set_option maxHeartbeats 8000000 in
theorem l10Singer_any (n : Nat) (w : World) (hC : Codes n) :
    Calls Try.prog 56 #[.int .i64 (n : Int)] w (Ret w (.agg (cellsM9 (compM n (firstC n))))) := by
  have HC := Lib.hid hC
  obtain ⟨hn3, hn13⟩ := prB_bd hC.pr
  have hlt := hC.lt
  obtain ⟨M, hM⟩ : ∃ M : Int, (n : Int) * (n : Int) = M := ⟨_, rfl⟩
  obtain ⟨N3, hN3⟩ : ∃ N3 : Int, M * (n : Int) = N3 := ⟨_, rfl⟩
  have h2le : n * n ≤ 13 * 13 := Nat.mul_le_mul (by omega) (by omega)
  have h3le : n * n * n ≤ 13 * 13 * 13 := Nat.mul_le_mul h2le (by omega)
  have h2pos : 0 < n * n := Nat.mul_pos (by omega) (by omega)
  have hMv : M = ((n * n : Nat) : Int) := by rw [← hM]; simp
  have hNv : N3 = ((n * n * n : Nat) : Int) := by rw [← hN3, hMv]; simp
  obtain ⟨N2, hN2⟩ : ∃ N2 : Nat, n * n = N2 := ⟨_, rfl⟩
  obtain ⟨N4, hN4⟩ : ∃ N4 : Nat, N2 * n = N4 := ⟨_, rfl⟩
  rw [hN2] at hMv hNv h2le h3le h2pos hlt
  rw [hN4] at hNv h3le hlt
  have w1 : IntKind.wrap .i64 M = M := wrap_small (by omega)
  have w2 : IntKind.wrap .i64 N3 = N3 := wrap_small (by omega)
  have HN2 := Lib.hid hN2
  have HMv := Lib.hid hMv
  obtain ⟨F, hF⟩ : ∃ F : Nat, firstC n = F := ⟨_, rfl⟩
  have HF := Lib.hid hF
  rw [hF] at hlt
  have hltz : (F : Int) < N3 := by omega
  have hF2 : F < 2197 := by omega
  have HlN := Lib.hid hlt
  have hM0 : 0 < M := by omega
  have HN4 := Lib.hid hN4
  clear hN2 hN4 hMv hNv hF h2le h3le h2pos hlt
  obtain ⟨Q, hQ⟩ : ∃ Q : Nat, n * n + n + 1 = Q := ⟨_, rfl⟩
  have hQv : M + (n : Int) + 1 = (Q : Int) := by rw [HMv.out, ← hQ, HN2.out]; simp
  have hM169 : M ≤ 169 := by rw [← hM]; exact Int.le_trans (Int.mul_le_mul (by omega) (by omega) (by omega) (by omega : (0 : Int) ≤ 13)) (by decide : (13 : Int) * 13 ≤ 169)
  have hQ1 : Q ≤ 1000 := by omega
  have w3 : IntKind.wrap .i64 (M + (n : Int)) = M + (n : Int) := wrap_small (by omega)
  have w4 : IntKind.wrap .i64 (M + (n : Int) + 1) = (Q : Int) := by rw [hQv]; exact wrap_small (by omega)
  have HQ := Lib.hid hQ
  have HQv := Lib.hid hQv
  clear hQ hQv
  go_enter Try.func56, Try.ntmps56
  go_wp2
  go_loopw [4] (fun q wr => ∃ c : Nat, c ≤ F ∧ q = .int .i64 (c : Int) ∧ Hid (wr.heap[w.heap.size]? = some (.cells #[.int .i64 0, .int .i64 0, .int .i64 0, .int .i64 0, .int .i64 0, .int .i64 0, .int .i64 0, .int .i64 0, .int .i64 0] 77 (0, 0))) ∧ Hid (Below w.heap.size w wr)) (fun q wr => F + 1 - (intOf q).toNat)
  case atStart => exact ⟨0, Nat.zero_le _, rfl, Lib.hid (by rw [hn_atN _ _ _ (by simp)]), Lib.hid (by repeat (first | exact Below.refl _ _ | refine bset ?_ _ _ (by omega) _ | refine bal ?_ _ | refine bdrN ?_ _ | refine bdr ?_))⟩
  case round =>
    obtain ⟨c, hc, rfl, HR, HB⟩ := hrel
    have hc2 : c < 2197 := by omega
    obtain ⟨a, ha⟩ : ∃ a : Int, (c : Int) % (n : Int) = a := ⟨_, rfl⟩
    obtain ⟨d0, hd0⟩ : ∃ d0 : Int, (c : Int) / (n : Int) = d0 := ⟨_, rfl⟩
    obtain ⟨b, hb⟩ : ∃ b : Int, d0 % (n : Int) = b := ⟨_, rfl⟩
    obtain ⟨d, hd⟩ : ∃ d : Int, (c : Int) / M = d := ⟨_, rfl⟩
    obtain ⟨dv, hdv⟩ : ∃ dv : Nat, c % n = dv := ⟨_, rfl⟩
    have nz : ¬ n = 0 := by omega
    have nz2 : ¬ M = 0 := by omega
    have e17 : Int.tmod (c : Int) (n : Int) = a := by rw [← ha]; exact Int.tmod_eq_emod_of_nonneg (by omega)
    have w17 : IntKind.wrap .i64 a = a := by rw [← ha]; exact wrap_small (modb (by omega))
    have b20 : 0 ≤ d0 ∧ d0 ≤ 1000000 := by rw [← hd0]; exact ⟨Int.ediv_nonneg (by omega) (by omega), Int.le_trans (Int.ediv_le_self _ (by omega)) (by omega)⟩
    have e20 : Int.tdiv (c : Int) (n : Int) = d0 := by rw [← hd0]; exact Int.tdiv_eq_ediv_of_nonneg (by omega)
    have w20 : IntKind.wrap .i64 d0 = d0 := wrap_small b20
    have e22 : Int.tmod d0 (n : Int) = b := by rw [← hb]; exact Int.tmod_eq_emod_of_nonneg b20.1
    have w22 : IntKind.wrap .i64 b = b := by rw [← hb]; exact wrap_small (modb (by omega))
    have e27 : Int.tdiv (c : Int) M = d := by rw [← hd]; exact Int.tdiv_eq_ediv_of_nonneg (by omega)
    have w27 : IntKind.wrap .i64 d = d := by rw [← hd]; exact wrap_small ⟨Int.ediv_nonneg (by omega) (by omega), Int.le_trans (Int.ediv_le_self _ (by omega)) (by omega)⟩
    have hcell : cellsM9 (compM n c) = #[.int .i64 0, .int .i64 1, .int .i64 0, .int .i64 0, .int .i64 0, .int .i64 1, .int .i64 a, .int .i64 b, .int .i64 d] := by rw [comp_cells, ha, hM, hd, hd0, hb]
    have hin : InM (compM n c) := inM_comp HC.out.pr (by rw [HN2.out, HN4.out]; have := HlN.out; omega)
    have hdz : (dv : Int) = a := by rw [← ha, ← hdv]; simp
    have hHB := HB.out.size
    have lr0 := (Array.getElem?_eq_some_iff.1 HR.out).1
    have HKeep := Lib.hid (show True ∧ c % n = dv ∧ cellsM9 (compM n c) = #[.int .i64 0, .int .i64 1, .int .i64 0, .int .i64 0, .int .i64 0, .int .i64 1, .int .i64 a, .int .i64 b, .int .i64 d] ∧ InM (compM n c) from ⟨trivial, hdv, hcell, hin⟩)
    clear ha hd0 hb hd hdv hcell hin
    go_wp2
    refine region_calm [(17, .int .i64 (c : Int)), (18, .int .i64 (n : Int)), (19, .int .i64 (n : Int)), (20, .int .i64 M), (21, .int .i64 d), (22, .int .i64 (c : Int)), (23, .int .i64 (n : Int)), (24, .int .i64 d0), (25, .int .i64 (n : Int)), (26, .int .i64 b), (27, .int .i64 (c : Int)), (28, .int .i64 (n : Int)), (29, .int .i64 a), (5, .int .i64 d), (6, .int .i64 b), (7, .int .i64 a)] (by kernel_rfl) (by kernel_rfl) (by kernel_rfl) (fun aE hpe => ?_)
    simp only [puts, Act.put, List.setIfInBounds_toArray, List.set_cons_zero, List.set_cons_succ] at hpe
    subst hpe
    refine ⟨⟨.inr (.inr ?_), .inr (.inr ?_), .inr (.inr ?_), .inr (.inr ?_), .inr (.inr ?_), .inr (.inr ?_), .inr (.inr ?_), .inr (.inr ?_), .inr (.inr ?_), .inr (.inr ?_), .inr (.inr ?_), .inr (.inr ?_), .inr (.inr ?_), .inr (.inr ?_), .inr (.inr ?_), .inr (.inr ?_), trivial⟩, ?_⟩
    · exact Calm.mk 17 (.int .i64 (c : Int)) rfl rfl (fun W hW => calm_move (.tmp 4) rfl rfl)
    · exact Calm.mk 18 (.int .i64 (n : Int)) rfl rfl (fun W hW => calm_move (.tmp 0) rfl rfl)
    · exact Calm.mk 19 (.int .i64 (n : Int)) rfl rfl (fun W hW => calm_move (.tmp 0) rfl rfl)
    · exact Calm.mk 20 (.int .i64 M) rfl rfl (fun W hW => calm_run (by simp [execOp, Act.eval, go_sem, hM, w1]))
    · exact Calm.mk 21 (.int .i64 d) rfl rfl (fun W hW => calm_run (by simp [execOp, Act.eval, go_sem, nz2, e27, w27]))
    · exact Calm.mk 22 (.int .i64 (c : Int)) rfl rfl (fun W hW => calm_move (.tmp 4) rfl rfl)
    · exact Calm.mk 23 (.int .i64 (n : Int)) rfl rfl (fun W hW => calm_move (.tmp 0) rfl rfl)
    · exact Calm.mk 24 (.int .i64 d0) rfl rfl (fun W hW => calm_run (by simp [execOp, Act.eval, go_sem, nz, e20, w20]))
    · exact Calm.mk 25 (.int .i64 (n : Int)) rfl rfl (fun W hW => calm_move (.tmp 0) rfl rfl)
    · exact Calm.mk 26 (.int .i64 b) rfl rfl (fun W hW => calm_run (by simp [execOp, Act.eval, go_sem, nz, e22, w22]))
    · exact Calm.mk 27 (.int .i64 (c : Int)) rfl rfl (fun W hW => calm_move (.tmp 4) rfl rfl)
    · exact Calm.mk 28 (.int .i64 (n : Int)) rfl rfl (fun W hW => calm_move (.tmp 0) rfl rfl)
    · exact Calm.mk 29 (.int .i64 a) rfl rfl (fun W hW => calm_run (by simp [execOp, Act.eval, go_sem, nz, e17, w17]))
    · exact Calm.mk 5 (.int .i64 d) rfl rfl (fun W hW => calm_assign (.tmp 21) rfl rfl)
    · exact Calm.mk 6 (.int .i64 b) rfl rfl (fun W hW => calm_assign (.tmp 26) rfl rfl)
    · exact Calm.mk 7 (.int .i64 a) rfl rfl (fun W hW => calm_assign (.tmp 29) rfl rfl)
    intro W2 hW2
    have kr := (hW2.block _ lr0).trans HR.out
    have lr := (Array.getElem?_eq_some_iff.1 kr).1
    have HB2 := Lib.hid (low_tr' HB.out hW2 hHB)
    have hs2 := HB2.out.size
    clear hW2 HB HR lr0 hHB e17 w17 b20 e20 w20 e22 w22 e27 w27 nz2
    obtain ⟨_, hdv, hcell, hin⟩ := HKeep.out
    have HOr := Lib.hid (fun (W : World) (K : Nat) (h1 : ordM n (compM n c) = K) (h2 : K ≠ 0) => (by have h3 := l10Order_any n (compM n c) K Q W HC.out.pr hin h1 h2 hQ1; rw [hcell] at h3; exact h3 : Calls Try.prog 69 #[.int .i64 (n : Int), .agg #[.int .i64 0, .int .i64 1, .int .i64 0, .int .i64 0, .int .i64 0, .int .i64 1, .int .i64 a, .int .i64 b, .int .i64 d], .int .i64 (Q : Int)] W (Ret W (.int .i64 (ordT K Q)))))
    have HCs := Lib.hid HC.out.no
    have HCy := Lib.hid HC.out.yes
    rw [HF.out, HQ.out] at HCy
    rw [HF.out, HQ.out] at HCs
    have HCell := Lib.hid hcell
    have HDv := Lib.hid hdv
    have HDz := Lib.hid hdz
    clear hdv hcell hin HKeep hdz
    by_cases hcF : c = F
    · subst hcF
      have hK : ordM n (compM n c) = Q := HCy.out.2
      have hQ0 : Q ≠ 0 := by have h1 := HC.out.yes.2; rw [HF.out, hK] at h1; have := HQ.out; omega
      have HO := Lib.hid (fun (W : World) => HOr.out W Q hK hQ0)
      rw [show ordT Q Q = (Q : Int) by unfold ordT; rw [if_pos (Nat.le_refl _)]] at HO
      have hzn : ¬ a = 0 := by have := HCy.out.1; rw [HDv.out] at this; have := HDz.out; omega
      clear HCs HCy HOr hK hQ0
      go_wp2_with (first
        | (go_at_call 69; (with_reducible refine (HO.out _).mono ?_); rintro e w4_ ⟨rfl, hb4⟩; obtain ⟨hcb4, hfb4, hlb4⟩ := bcell hb4; have hsz4 := hb4.size; (try simp at hsz4); have HB4 := Lib.hid hb4; clear hb4; (try (have hl04 : W2.heap.size < w4_.heap.size := by omega)))
        | (refine wpList_store_row _ rfl 77 _ _ rfl rfl (g := w.heap.size) (T := 77) (cs := #[.int .i64 0, .int .i64 0, .int .i64 0, .int .i64 0, .int .i64 0, .int .i64 0, .int .i64 0, .int .i64 0, .int .i64 0]) (U := #[.int .i64 0, .int .i64 1, .int .i64 0, .int .i64 0, .int .i64 0, .int .i64 1, .int .i64 a, .int .i64 b, .int .i64 d]) rfl rfl (by rw [HB4.out.block _ (by simp; omega), hn_pastN _ _ _ (by omega)]; exact kr) rfl Try.sizeOf77 (by simp [Value.oneCell']) ?_))
      exact bodyPost_ret (v := .agg #[.int .i64 0, .int .i64 1, .int .i64 0, .int .i64 0, .int .i64 0, .int .i64 1, .int .i64 a, .int .i64 b, .int .i64 d]) (results_row Try.results56 rfl (setRow_heap _ _ #[.int .i64 0, .int .i64 0, .int .i64 0, .int .i64 0, .int .i64 0, .int .i64 0, .int .i64 0, .int .i64 0, .int .i64 0] _ _ _ (by rw [HB4.out.block _ (by simp; omega), hn_pastN _ _ _ (by omega)]; exact kr)) 9 rfl Try.sizeOf77 Try.isAgg77) rfl ⟨by rw [HF.out, HCell.out], below_setRowN (low_tr' (bal HB2.out _) HB4.out (by simp; omega)) (by omega) _⟩
    · have hclt : c < F := by omega
      rcases HCs.out c hclt with h0 | ⟨h0, h1, h2⟩
      · have h00 : a = 0 := by rw [HDv.out] at h0; have := HDz.out; omega
        subst h00
        clear HCs HCy HOr h0
        go_wp2
        go_roundw
        case rel => exact ⟨c + 1, by omega, numW (by omega), Lib.hid (by rw [hn_pastN _ _ _ (by omega)]; exact kr), Lib.hid (bal HB2.out _)⟩
        case measure => simp [intOf]; omega
      · obtain ⟨K, hK⟩ : ∃ K, ordM n (compM n c) = K := ⟨_, rfl⟩
        rw [hK] at h1 h2
        have HO := Lib.hid (fun (W : World) => HOr.out W K hK h1)
        have hQp : 0 < Q := by have := HQv.out; omega
        have hv : ¬ ordT K Q = (Q : Int) := by unfold ordT; split <;> omega
        generalize ordT K Q = v at *
        have hvb : (v == (Q : Int)) = false := by simpa using hv
        have hzn : ¬ a = 0 := by rw [HDv.out] at h0; have := HDz.out; omega
        clear HCs HCy HOr h0 h1 h2 hK
        go_wp2_with (go_at_call 69; (with_reducible refine (HO.out _).mono ?_); rintro e w4_ ⟨rfl, hb4⟩; obtain ⟨hcb4, hfb4, hlb4⟩ := bcell hb4; have hsz4 := hb4.size; (try simp at hsz4); have HB4 := Lib.hid hb4; clear hb4; (try (have hl04 : W2.heap.size < w4_.heap.size := by omega)))
        go_roundw
        case rel => exact ⟨c + 1, by omega, numW (by omega), Lib.hid (by rw [HB4.out.block _ (by simp; omega), hn_pastN _ _ _ (by omega)]; exact kr), Lib.hid (low_tr' (bal HB2.out _) HB4.out (by simp; omega))⟩
        case measure => simp [intOf]; omega
end Go.Proofs.Ytbeeecahkchjnaa
/- Contracts: the Singer order of a prime; SingerOrder, the program's and the reference's. -/
namespace Go.Proofs.Ytbeeecahkchjnaa
open Go.RowKit
set_option linter.unusedVariables false
set_option linter.unusedSimpArgs false
theorem l10Points_any (n : Nat) (w : World) (hp : prB (n : Int) = true) : Calls Try.prog 52 #[.int .i64 (n : Int)] w (PtsPost w (singL n)) := by
  have HS := Lib.hid (fun (W : World) => l10Singer_any n W (codes_of hp))
  have HO : Hid (∀ W, Calls Try.prog 55 #[.int .i64 (n : Int), .agg (cellsM9 (compM n (firstC n))), ptV 0 0 1] W (PtsPost W (singL n))) := Lib.hid (fun W => l02Orbit_any _ _ (0, 0, 1) _ W (orb_of hp))
  generalize singL n = L at *
  generalize compM n (firstC n) = m at *
  clear hp
  go_enter Try.func52, Try.ntmps52
  go_wp2_with (first
    | (go_at_call 56; (with_reducible refine (HS.out _).mono ?_); rintro e w1_ ⟨rfl, hb1⟩; obtain ⟨hcb1, hfb1, hlb1⟩ := bcell hb1; have hsz1 := hb1.size; (try simp at hsz1); have HB1 := Lib.hid hb1; clear hb1)
    | (go_at_call 55; refine (HO.out _).mono ?_; rintro e w2 ⟨v, rfl, ho, hb⟩; have HO2 := Lib.hid ho; have HB2 := Lib.hid hb; clear ho hb))
  go_ret
  exact ⟨_, rfl, own_low HO2.out (by have := HB1.out.size; omega), (by repeat (first | exact Below.refl _ _ | refine bset ?_ _ _ (by omega) _ | refine bal ?_ _ | refine bdrN ?_ _ | refine bdr ?_ | refine below_tr' ?_ HB2.out | refine below_tr' ?_ HB1.out))⟩
/-- A new list of points, and no error. -/
structure PtsPost2 (w : World) (l : List Pt) (e : Ending) (w' : World) : Prop where
  out : ∃ v, e = .returned (.tuple #[v, .int .i64 0]) ∧ w'.ownsRow w.heap.size 61 3 v l.length (ptCs l) ∧ Below w.heap.size w w'
end Go.Proofs.Ytbeeecahkchjnaa
/- Contracts: which points of a list are on a line, as numbers; DifferenceSetOf, the program's and the reference's. (Printed by gent6.py, a program of this session.) -/
namespace Go.Proofs.Ytbeeecahkchjnaa
open Go.RowKit
set_option linter.unusedVariables false
set_option linter.unusedSimpArgs false
/-- The numbers below k of which f holds. -/
def numU (f : Nat → Bool) (k : Nat) : List Int := ((List.range k).filter f).map (fun i : Nat => (i : Int))
theorem numU_succ (f : Nat → Bool) (k : Nat) : numU f (k + 1) = numU f k ++ (if f k then [(k : Int)] else []) := by
  unfold numU
  rw [List.range_succ, List.filter_append, List.map_append]
  cases h : f k <;> simp [h]
theorem numU_length (f : Nat → Bool) (k : Nat) : (numU f k).length ≤ k := by
  unfold numU
  rw [List.length_map]
  exact Nat.le_trans (List.length_filter_le _ _) (by simp)
theorem newI (wr : World) (x : Value) (T : TypeId) : ∀ (j : Nat) (u : Value), [x][j]? = some u → (wr.alloc (.cells #[x] T)).cell? ((⟨wr.heap.size, 0, none⟩ : Addr).add j) = some u := by
  intro j u hj
  have e : (wr.alloc (.cells #[x] T)).cell? ((⟨wr.heap.size, 0, none⟩ : Addr).add j) = #[x][j]? := by
    have hadd : (⟨wr.heap.size, 0, none⟩ : Addr).add j = ⟨wr.heap.size, j, none⟩ := by unfold Addr.add; split <;> simp_all
    rw [hadd, World.cell?_alloc_at _ _ _ _ rfl]
  rw [e]; simpa using hj
/-- A new list of numbers. -/
structure IntsPost (w : World) (l : List Int) (e : Ending) (w' : World) : Prop where
  out : ∃ v, e = .returned v ∧ w'.ownsRow w.heap.size 2 1 v l.length (ints l) ∧ Below w.heap.size w w'
def onN (n : Int) (L : List Pt) (l : Pt) : Nat → Bool := fun i => onB n (L.getD i (0, 0, 0)) l
set_option maxHeartbeats 4000000 in
theorem l10Numbers_any (n : Nat) (l0 l1 l2 : Int) (w : World) (hp : prB (n : Int) = true) (hl : In13 (l0, l1, l2)) :
    Calls Try.prog 45 #[.int .i64 (n : Int), ptV l0 l1 l2] w (IntsPost w (numU (onN (n : Int) (singL n) (l0, l1, l2)) (singL n).length)) := by
  obtain ⟨b1, b2⟩ := prB_bd hp
  obtain ⟨i0, hi, hz0, hz1, hz2⟩ := info_parts info64
  have HI0 := Lib.hid hi; have HZ0 := Lib.hid hz0; have HZ1 := Lib.hid hz1; have HZ2 := Lib.hid hz2
  clear hi hz0 hz1 hz2
  have HA := Lib.hid (fun (W : World) => l10Points_any n W hp)
  have HO := Lib.hid (fun (x y z : Int) (W : World) (h : In13 (x, y, z)) => l01On_any (n : Int) x y z l0 l1 l2 W hp h hl)
  have HIn := Lib.hid (singL_in hp)
  have hLen : (singL n).length ≤ 183 ∧ 0 < (singL n).length := by
    rw [singL_length]
    have : n * n ≤ 13 * 13 := Nat.mul_le_mul (by omega) (by omega)
    omega
  obtain ⟨hLen, HPos⟩ := hLen
  generalize singL n = all at *
  have HF := Lib.hid (show ∀ i, onN (n : Int) all (l0, l1, l2) i = onB n (all.getD i (0, 0, 0)) (l0, l1, l2) from fun _ => rfl)
  generalize onN (n : Int) all (l0, l1, l2) = f at *
  clear hp hl
  go_enter Try.func45, Try.ntmps45
  go_wp2_with (go_at_call 52; refine (HA.out _).mono ?_; rintro e w1 ⟨v, rfl, ho, hb⟩; obtain ⟨g, cap, rfl, hg0, hg1, hpt⟩ := ownPts ho rfl HPos; have HB1 := Lib.hid hb; have HP1 := Lib.hid hpt; have hsz1 := hb.size; (try simp at hsz1); clear hb hpt ho)
  have hbl : w1.heap[w.heap.size]? = some (.cells #[.int .i64 l0, .int .i64 l1, .int .i64 l2] 63 (0, 0)) := by rw [HB1.out.block _ (by first | omega | (simp; done) | (simp; omega)), hn_at' _ _ _ (by simp)]
  have hll : w.heap.size < w1.heap.size := (Array.getElem?_eq_some_iff.1 hbl).1
  go_loopw [6, 7] (fun v i wr => ∃ k : Nat, k ≤ all.length ∧ i = .int .i64 k ∧ Hid (wr.ownsRow w1.heap.size 2 1 v (numU f k).length (ints (numU f k))) ∧ Hid (Below w1.heap.size w1 wr)) (fun _ i wr => all.length - (intOf i).toNat)
  case atStart =>
    refine ⟨0, Nat.zero_le _, rfl, Lib.hid ?_, Lib.hid (by repeat (first | exact Below.refl _ _ | refine bset ?_ _ _ (by omega) _ | refine bal ?_ _ | refine bdrN ?_ _ | refine bdr ?_))⟩
    refine ⟨rfl, .inr ⟨w1.heap.size, 0, #[], rfl, Nat.le_refl _, heap_alloc_new _ _, Nat.le_refl _, by unfold maxLen; omega, rfl, rfl⟩⟩
  case round =>
    obtain ⟨k, hk, rfl, HR, HB⟩ := hrel
    by_cases hlt : k < all.length
    · have HPk := HP1.out k hlt
      have HInk : In13 (all.getD k (0, 0, 0)) := HIn.out _ (by simp [List.getD, hlt])
      have hkl := numU_length f k
      have HFk := Lib.hid (HF.out k)
      have HS := Lib.hid (numU_succ f k)
      generalize all.getD k (0, 0, 0) = a at *
      obtain ⟨x, y, z⟩ := a
      have HC := Lib.hid (fun (W : World) => HO.out x y z W HInk)
      obtain ⟨c0, c1, c2⟩ := HPk
      simp only [Nat.zero_add] at c0 c1 c2
      go_wp2
      refine region_calm [(17, .int .i64 n), (18, .slice (some ⟨g, 0, none⟩) all.length cap), (19, .int .i64 k), (20, .pointer (some ⟨g, k * 3, none⟩)), (21, ptV x y z), (22, ptV l0 l1 l2), (23, .bool (onB n (x, y, z) (l0, l1, l2)))] (by kernel_rfl) (by kernel_rfl) (by kernel_rfl) (fun aE hpe => ?_)
      simp only [puts, Act.put, List.setIfInBounds_toArray, List.set_cons_zero, List.set_cons_succ] at hpe
      subst hpe
      refine ⟨⟨.inr (.inr ?_), .inr (.inr ?_), .inr (.inr ?_), .inr (.inr ?_), .inr (.inr ?_), .inr (.inr ?_), .inr (.inr ?_), trivial⟩, ?_⟩
      · exact Calm.mk 17 (.int .i64 n) rfl rfl (fun W _ => calm_move (.tmp 0) rfl rfl)
      · exact Calm.mk 18 (.slice (some ⟨g, 0, none⟩) all.length cap) rfl rfl (fun W _ => calm_move (.tmp 5) rfl rfl)
      · exact Calm.mk 19 (.int .i64 k) rfl rfl (fun W _ => calm_move (.tmp 7) rfl rfl)
      · exact Calm.mk 20 (.pointer (some ⟨g, k * 3, none⟩)) rfl rfl (fun W _ => calm_run (by simp [execOp, Act.eval, go_sem, hlt]))
      · exact Calm.mk 21 (ptV x y z) rfl rfl (fun W hW => calm_loadPt 61 (.tmp 20) rfl rfl (cell_below hW (cell_below HB.out c0)) (cell_below hW (cell_below HB.out c1)) (cell_below hW (cell_below HB.out c2)) Try.sizeOf61 Try.isAgg61)
      · exact Calm.mk 22 (ptV l0 l1 l2) rfl rfl (fun W hW => calm_load (cs := #[.int .i64 l0, .int .i64 l1, .int .i64 l2]) (g := w.heap.size) (T := 63) (fr := (0, 0)) 63 (.tmp 3) rfl rfl (by rw [hW.block _ (Nat.lt_of_lt_of_le hll HB.out.size), HB.out.block _ hll]; exact hbl) 3 rfl Try.sizeOf63 Try.isAgg63)
      · exact Calm.mk 23 (.bool (onB n (x, y, z) (l0, l1, l2))) rfl rfl (fun W hW => calm_call 42 _ #[.int .i64 n, ptV x y z, ptV l0 l1 l2] rfl rfl rfl (by simp [Act.eval]) (Try.call42 _ _) (HC.out W))
      intro W2 hW2
      have HR2 := Lib.hid (own_below HR.out hW2)
      have HB2 := Lib.hid (low_tr' HB.out hW2 HB.out.size)
      clear hW2 HR HB c0 c1 c2 HC
      generalize numU f k = F at *
      cases hb : onB (n : Int) (x, y, z) (l0, l1, l2) with
      | true =>
        have HS2 : Hid (numU f (k + 1) = F ++ [(k : Int)]) := Lib.hid (by rw [HS.out, HFk.out, hb]; rfl)
        clear HS
        go_wp2_with (at_builtin; refine wpList_append_own _ rfl _ _ 24 rfl w1.heap.size 2 i0 (.int .i64 0) 1 8 Try.underlying24 HI0.out HZ0.out HZ1.out HZ2.out rfl (by decide) _ _ _ rfl (HR2.out.alloc _) ⟨W2.heap.size, 0, none⟩ 1 1 [.int .i64 (k : Int)] rfl rfl (newI _ _ _) (oneA _) (by unfold maxLen; omega) (by omega) (by have := HB2.out.size; first | omega | (simp; done) | (simp; omega)) ?_; intro v2 w2 hown hgrow _; have HO2 := Lib.hid hown; have HG := Lib.hid hgrow; clear hown hgrow)
        go_roundw
        case rel => exact ⟨k + 1, by omega, by go_num, Lib.hid (by rw [HS2.out, ints_app, List.length_append]; exact HO2.out), Lib.hid ((bal HB2.out _).grown HG.out (by have := HB2.out.size; first | omega | (simp; done) | (simp; omega)) (fun k' hk' => own_base' HR2.out k' hk'))⟩
        case measure => simp [intOf]; omega
      | false =>
        have HS2 : Hid (numU f (k + 1) = F) := Lib.hid (by rw [HS.out, HFk.out, hb]; simp)
        clear HS
        go_wp2
        go_roundw
        case rel => exact ⟨k + 1, by omega, by go_num, Lib.hid (by rw [HS2.out]; exact HR2.out), HB2⟩
        case measure => simp [intOf]; omega
    · have hT : k = all.length := by omega
      subst hT
      go_wp2
      go_ret
      have HB0 : Below w.heap.size w w1 := (by repeat (first | exact Below.refl _ _ | refine bset ?_ _ _ (by omega) _ | refine bal ?_ _ | refine bdrN ?_ _ | refine bdr ?_ | refine below_tr' ?_ HB1.out))
      exact ⟨u6, rfl, own_low HR.out HB0.size, low_tr' HB0 HB.out HB0.size⟩
end Go.Proofs.Ytbeeecahkchjnaa
/- Own lists of numbers, read and sorted; the program's moved. -/
namespace Go.Proofs.Ytbeeecahkchjnaa
open Go.RowKit
set_option linter.unusedVariables false
set_option linter.unusedSimpArgs false
/-- A list of numbers as an argument. -/
structure ArgK (w : World) (b : Option Addr) (n : Nat) (l : List Int) : Prop where
  out : 0 < n → ∃ g, b = some ⟨g, 0, none⟩ ∧ IntsK w g 0 n l
theorem ArgK.link {w W : World} {b : Option Addr} {n : Nat} {l : List Int} (l1 : Link w W) (h : ArgK w b n l) : ArgK W b n l := ⟨fun h0 => by obtain ⟨g, e, h1⟩ := h.out h0; exact ⟨g, e, h1.link l1⟩⟩
theorem ArgK.alloc {w : World} {b : Option Addr} {n : Nat} {l : List Int} (h : ArgK w b n l) (o : Obj) : ArgK (w.alloc o) b n l := ⟨fun h0 => by obtain ⟨g, e, h1⟩ := h.out h0; exact ⟨g, e, h1.alloc o⟩⟩
theorem ArgK.lt {w : World} {g n : Nat} {l : List Int} (h : ArgK w (some ⟨g, 0, none⟩) n l) (h0 : 0 < n) : g < w.heap.size := by
  obtain ⟨g', e, h1⟩ := h.out h0
  injection e with e; injection e with e; subst e
  exact h1.lt h0
theorem OwnK.arg {W : World} {B : Nat} {T : TypeId} {v : Value} {n : Nat} {l : List Int} (h : OwnK W B T 1 v n (Go.Proofs.Ytbeeecahkchjnaa.ints l)) (hl : l.length = n) : ∃ b c, v = .slice b n c ∧ ArgK W b n l := by
  rcases h.out.2 with ⟨rfl, rfl⟩ | ⟨g, cap, cur, rfl, hb, hg, hle, hm, hsz, htk⟩
  · exact ⟨none, 0, rfl, ⟨fun h => absurd h (Nat.lt_irrefl _)⟩⟩
  · refine ⟨_, cap, rfl, ⟨fun h0 => ?_⟩⟩
    obtain ⟨g', cap', e, h2, h3, h4⟩ := h.ints hl h0
    injection e with e1 e2 e3
    injection e1 with e1
    injection e1 with e1
    subst e1
    exact ⟨g, rfl, h4⟩
/-- The numbers of a set, m times each, and t, modulo n. -/
def movN (n m t : Int) (l : List Int) : List Int := l.map fun k => (m * k + t) % n
def sortN (l : List Int) : List Int := l.mergeSort fun x y => decide (x ≤ y)
theorem sortN_length (l : List Int) : (sortN l).length = l.length := by unfold sortN; exact List.length_mergeSort _
theorem movN_length (n m t : Int) (l : List Int) : (movN n m t l).length = l.length := by unfold movN; simp
theorem movN_snoc (n m t : Int) (l : List Int) (x : Int) : movN n m t (l ++ [x]) = movN n m t l ++ [(m * x + t) % n] := by unfold movN; simp
/-- An own list of numbers, sorted by the library. -/
theorem Sort_own {v : Value} {B k : Nat} {l : List Int} (w : World) (hO : OwnK w B 2 1 v k (ints l)) (hl : l.length = k) (hk : k ≤ 1000000) :
    Calls Try.prog 47 #[v] w fun e w' => e = .returned (.tuple #[]) ∧ OwnK w' B 2 1 v k (ints (sortN l)) ∧ Grew w v w' := by
  rcases hO.out.2 with ⟨rfl, h0⟩ | ⟨g, cap, cur, rfl, hb, hg, hle, hm, hsz, htk⟩
  · subst h0
    obtain rfl := List.length_eq_zero_iff.1 hl
    refine (slices_Sort_int_none none 0 w).mono ?_
    rintro e w' ⟨rfl, rfl⟩
    exact ⟨rfl, by unfold sortN; simpa using hO, ⟨⟨rfl, rfl, rfl, Nat.le_refl _, fun _ _ _ => rfl⟩⟩⟩
  · subst hl
    have ht : cur.toList.take l.length = l.map (Value.int .i64) := by have := htk; rw [Nat.mul_one] at this; exact this
    refine (slices_Sort_int g 0 cap l w (Go.holds_of_blockI hg ht) (Array.getElem?_eq_some_iff.1 hg).1 (by omega)).mono ?_
    rintro e w' ⟨rfl, n, os, rfl⟩
    refine ⟨rfl, ⟨?_⟩, ⟨?_⟩⟩
    · have := Go.ownsRow_sortedI (w := w) (base := B) (g := g) (cap := cap) (n := n) (e := 2) (os := os) (cur := cur) (ss := l) (ts := sortN l) (sortN_length l) hb hg (by first | exact hle | omega) (by first | exact hm | omega) (by first | simpa using hsz | exact hsz)
      first | exact this | (unfold Go.Proofs.Ytbeeecahkchjnaa.ints; exact this)
    · have := Go.grownBy_sortedI (w := w) (g := g) (n := n) (os := os) ((l.mergeSort fun x y => decide (x ≤ y)).toArray)
      exact this
end Go.Proofs.Ytbeeecahkchjnaa
/- Contracts: the program's moved: a set, m times, moved by t, sorted. -- numbers -/
namespace Go.Proofs.Ytbeeecahkchjnaa
open Go.RowKit
set_option linter.unusedVariables false
set_option linter.unusedSimpArgs false
/-- An own list of numbers is handed back. -/
structure NewI (w : World) (l : List Int) (e : Ending) (w' : World) : Prop where
  out : ∃ v, e = .returned v ∧ OwnK w' w.heap.size 2 1 v l.length (ints l) ∧ Below w.heap.size w w'
theorem mov_bd {n m t k : Int} (n2 : 2 ≤ n) (n1 : n ≤ 1000) (m0 : 0 ≤ m) (m1 : m < n) (t0 : 0 ≤ t) (t1 : t < n) (k0 : 0 ≤ k) (k1 : k < n) : 0 ≤ m * k ∧ m * k ≤ 1000000 ∧ 0 ≤ m * k + t ∧ m * k + t ≤ 1001000 := by
  have h1 : 0 ≤ m * k := Int.mul_nonneg m0 k0
  have h2 : m * k ≤ 1000 * 1000 := Int.mul_le_mul (by omega) (by omega) k0 (by omega)
  omega
set_option maxRecDepth 20000 in
set_option maxHeartbeats 4000000 in
theorem moved_any (n m t : Int) (b : Option Addr) (c : Nat) (l : List Int) (w : World) (n2 : 2 ≤ n) (n1 : n ≤ 1000) (m0 : 0 ≤ m) (m1 : m < n) (t0 : 0 ≤ t) (t1 : t < n) (hb : ∀ k ∈ l, 0 ≤ k ∧ k < n) (hl : l.length ≤ 1000) (hP : ArgK w b l.length l) :
    Calls Try.prog 30 #[.int .i64 n, .slice b l.length c, .int .i64 m, .int .i64 t] w (NewI w (sortN (movN n m t l))) := by
  have HB := Lib.hid (fun k (h : k ∈ l) => mov_bd (k := k) n2 n1 m0 m1 t0 t1 (hb k h).1 (hb k h).2)
  clear hb
  go_enter Try.func30, Try.ntmps30
  go_wp2_with (first | (refine wl_load ?_) | (refine wl_store ?_) | (refine wl_build ?_) | (refine wl_slice ?_) | (refine wl_append ?_; intro v' w' ho hg hb; have hs := hg.size; (try simp at hs); (try rw [ptCs_end] at ho); (try rw [ints_end] at ho); (try simp only [Nat.zero_add, Nat.reduceAdd, List.nil_append, List.cons_append] at ho)))
  go_loopw [9, 15] (fun v i wr => ∃ k : Nat, k ≤ l.length ∧ i = .int .i64 (k : Int) ∧ OwnK wr w.heap.size 2 1 v k (ints (movN n m t (l.take k))) ∧ LowK w wr ∧ ArgK wr b l.length l) (fun _ i wr => l.length - (intOf i).toNat)
  case atStart => exact ⟨0, Nat.zero_le _, rfl, OwnK.empty findRow (Nat.le_refl _), findLow, ⟨fun h0 => by obtain ⟨g, e, h1⟩ := hP.out h0; exact ⟨g, e, findInts⟩⟩⟩
  case round =>
    obtain ⟨k, hk, rfl, hO, hV, hA⟩ := hrel
    have hsz := hV.size
    by_cases hlt : k < l.length
    · obtain ⟨g, rfl, hI⟩ := hA.out (by omega)
      have hg0 := hP.lt (by omega)
      obtain ⟨x, hx⟩ : ∃ x, l.getD k 0 = x := ⟨_, rfl⟩
      have hmem : x ∈ l := by rw [← hx, List.getD_eq_getElem?_getD, List.getElem?_eq_getElem hlt]; exact List.getElem_mem hlt
      obtain ⟨b1, b2, b3, b4⟩ := HB.out x hmem
      have HS := Lib.hid (take_snoc' l 0 k hlt)
      rw [hx] at HS
      go_wp2_with (first | (refine wl_load ?_) | (refine wl_store ?_) | (refine wl_build ?_) | (refine wl_slice ?_) | (refine wl_append ?_; intro v' w' ho hg hb; have hs := hg.size; (try simp at hs); (try rw [ptCs_end] at ho); (try rw [ints_end] at ho); (try simp only [Nat.zero_add, Nat.reduceAdd, List.nil_append, List.cons_append] at ho)))
      go_roundw
      case rel => exact ⟨k + 1, by omega, by go_num, by rw [HS.out, movN_snoc]; exact ho, findLow, ⟨fun _ => ⟨g, rfl, findInts⟩⟩⟩
      case measure => simp [intOf]; omega
    · obtain rfl : k = l.length := by omega
      rw [List.take_length] at hO
      have hl2 : (movN n m t l).length = l.length := movN_length n m t l
      go_wp2_with (first | (refine wl_load ?_) | (refine wl_store ?_) | (refine wl_build ?_) | (refine wl_slice ?_) | (refine wl_append ?_; intro v' w' ho hg hb; have hs := hg.size; (try simp at hs); (try rw [ptCs_end] at ho); (try rw [ints_end] at ho); (try simp only [Nat.zero_add, Nat.reduceAdd, List.nil_append, List.cons_append] at ho)) | (go_at_call 47; (with_reducible refine (Sort_own _ findOwn hl2 (by omega)).mono ?_); rintro e w' ⟨rfl, ho, hg⟩; have hs := hg.size))
      (apply ret_one Try.results30; (conv => lhs; whnf); exact rfl)
      refine ⟨_, rfl, ?_, LowK.out findLow⟩
      rw [sortN_length, hl2]
      exact findOwn
end Go.Proofs.Ytbeeecahkchjnaa
/- Own lists of numbers: parts of lists appended; the specification's l01Own. -- numbers -- appendI -/
namespace Go.Proofs.Ytbeeecahkchjnaa
open Go.RowKit
set_option linter.unusedVariables false
set_option linter.unusedSimpArgs false
theorem OwnK.one {w : World} {B g : Nat} {T : TypeId} {x : Value} (h : RowK w g #[x] T) (hB : B ≤ g) : OwnK w B T 1 (.slice (some ⟨g, 0, none⟩) 1 1) 1 [x] :=
  ⟨by simp, .inr ⟨g, 1, #[x], rfl, hB, h.out, Nat.le_refl _, by unfold maxLen; omega, by simp, by simp⟩⟩
section
variable {ops : Array Oper} {rest : List Oper} {o : Oper} {a : Act} {w : World} {Q : Exit → Act → World → Prop}
/-- An append of a part of a list of numbers. -/
theorem wl_append_I {s x : Operand} {t e : TypeId} {g q m c k B n : Nat} {v : Value} {xs : List Value} {S : List Int}
    (h : ∀ v' w', OwnK w' B e 1 v' (n + m) (xs ++ ints ((S.drop q).take m)) → Grew w v w' → (v'.ownBlock = v.ownBlock ∨ v'.ownBlock = some w.heap.size) → wpList Try.prog ops Q rest (a.put o.dst v') w')
    (hgd : o.guard = none := by exact rfl) (ho : o.op = .call { callee := .builtin .append, args := #[s, x], argTypes := #[t, t] } := by exact rfl) (he : EltK Try.prog t e 1 := by (first | exact eltPo | exact eltI64 | exact eltInt))
    (hs : a.eval s = v := by conv => lhs; whnf) (hx : a.eval x = .slice (some ⟨g, q, none⟩) m c := by exact rfl) (hown : OwnK w B e 1 v n xs := by first | exact findOwn | exact OwnK.one findRow (Nat.le_refl _) | exact OwnK.empty findRow (Nat.le_refl _)) (hS : IntsK w g 0 k S := by exact findInts) (hk : S.length = k := by first | assumption | exact rfl)
    (hq : q + m ≤ k := by omega) (h63 : n + m ≤ 1000000 := by omega) (hbase : B ≤ w.heap.size := by first | omega | (simp; done) | (simp; omega)) : wpList Try.prog ops Q (o :: rest) a w := by
  obtain ⟨hu, i, z, hi, hz, hsz, hzs, hpos, hle, hby⟩ := he.out
  refine wpList_append_own_at w hgd s x t ho B e i z 1 i.bytes hu hi hz hsz rfl hzs hpos v n xs hs hown.out ⟨g, q, none⟩ m c (ints ((S.drop q).take m)) hx (by simp [ints]; omega) (fun j u hj => ?_) (fun u hu => ?_) (by unfold maxLen; omega) ?_ hbase (fun v' w' h2 h3 h4 h5 => h v' w' ⟨h2⟩ ⟨h3⟩ h5)
  · have hadd : (⟨g, q, none⟩ : Addr).add j = ⟨g, q + j, none⟩ := by unfold Addr.add; split <;> simp_all
    rw [hadd]
    have hjm : j < m := by
      rcases Nat.lt_or_ge j m with h1 | h1
      · exact h1
      · rw [List.getElem?_eq_none (by simp [ints]; omega)] at hj; exact absurd hj (by simp)
    have := hS.out (q + j) (by omega)
    rw [Nat.zero_add] at this
    rw [this, ← hj]
    have hjl : q + j < S.length := by omega
    simp [ints, List.getElem?_take_of_lt hjm, List.getElem?_drop, List.getD, hjl]
  · simp only [Go.Proofs.Ytbeeecahkchjnaa.ints, List.mem_map] at hu
    obtain ⟨y, -, rfl⟩ := hu
    rfl
  · exact Nat.le_trans (Nat.mul_le_mul h63 hby) (by decide)
end
/-- The specification's copy of a list. -/
theorem l01Own_any (g c n k : Nat) (S : List Int) (w : World) (hP : IntsK w g 0 k S) (hk : S.length = k) (hn : n ≤ k) (hk1 : k ≤ 1000000) :
    Calls Try.prog 48 #[.slice (some ⟨g, 0, none⟩) n c] w fun e w' => ∃ v, e = .returned v ∧ OwnK w' w.heap.size 2 1 v n (ints (S.take n)) ∧ LowK w w' := by
  go_enter Try.func48, Try.ntmps48
  go_wp2_with (first | (refine wl_load ?_) | (refine wl_store ?_) | (refine wl_build ?_) | (refine wl_slice ?_) | ((refine wl_append_I ?_); intro v' w' ho hg hb; have hs := hg.size; (try simp at hs)) | (refine wl_append ?_; intro v' w' ho hg hb; have hs := hg.size; (try simp at hs); (try rw [ptCs_end] at ho); (try rw [ints_end] at ho); (try simp only [Nat.zero_add, Nat.reduceAdd, List.nil_append, List.cons_append] at ho)))
  simp only [List.drop_zero, Nat.zero_add, List.nil_append] at ho
  (apply ret_one Try.results48; (conv => lhs; whnf); exact rfl)
  exact ⟨_, rfl, ho, LowK.grew hg (fun b h => by simp [Value.ownBlock] at h; omega) findLow⟩
end Go.Proofs.Ytbeeecahkchjnaa
/- Contracts: the specification's l10Moved: numbers put in where they belong. -- numbers -- appendI -/
namespace Go.Proofs.Ytbeeecahkchjnaa
open Go.RowKit
set_option linter.unusedVariables false
set_option linter.unusedSimpArgs false
theorem sortN_pair (l : List Int) : (sortN l).Pairwise (fun x y => x ≤ y) := by
  have := List.pairwise_mergeSort (le := fun x y : Int => decide (x ≤ y)) (by intro a b c; simp; omega) (by intro a b; simp; omega) l
  unfold sortN
  exact this.imp (by intro a b h; simpa using h)
theorem sortN_perm (l : List Int) : (sortN l).Perm l := by unfold sortN; exact List.mergeSort_perm _ _
/-- What is sorted, with a number put in where it belongs, is sorted. -/
theorem sortN_put {P : List Int} {x : Int} {a : Nat} (ha : a ≤ (sortN P).length) (h1 : ∀ j, a ≤ j → j < (sortN P).length → x < (sortN P).getD j 0) (h2 : 0 < a → (sortN P).getD (a - 1) 0 ≤ x) :
    sortN (P ++ [x]) = (sortN P).take a ++ ([x] ++ (sortN P).drop a) := by
  have hS := sortN_pair P
  have hp := sortN_perm P
  generalize sortN P = S at *
  refine List.Perm.eq_of_pairwise (le := fun x y : Int => x ≤ y) (fun a b _ _ h1 h2 => Int.le_antisymm h1 h2) (sortN_pair _) ?_ ?_
  · rw [List.pairwise_append]
    have hd := List.take_append_drop a S
    have hS' : (S.take a ++ S.drop a).Pairwise (fun x y => x ≤ y) := by rw [hd]; exact hS
    rw [List.pairwise_append] at hS'
    obtain ⟨s1, s2, s3⟩ := hS'
    refine ⟨s1, ?_, ?_⟩
    · refine List.pairwise_cons.2 ⟨fun y hy => ?_, s2⟩
      have hy' : y ∈ S.drop a := by simpa using hy
      clear hy
      obtain ⟨j, hj, rfl⟩ := List.mem_iff_getElem.1 hy'
      have hj' : a + j < S.length := by simp at hj; omega
      have := h1 (a + j) (by omega) hj'
      rw [List.getElem_drop]
      simp [List.getD, hj'] at this
      omega
    · intro y hy z hz
      rcases List.mem_append.1 hz with h | h
      · obtain rfl := List.mem_singleton.1 h
        obtain ⟨j, hj, rfl⟩ := List.mem_iff_getElem.1 hy
        have hj' : j < a := by simp at hj; omega
        have hz := h2 (by omega)
        have hjS : j < S.length := by omega
        have ha1 : a - 1 < S.length := by omega
        simp [List.getD, ha1] at hz
        rw [List.getElem_take]
        rcases Nat.lt_or_ge j (a - 1) with hlt | hge
        · have := List.pairwise_iff_getElem.1 hS j (a - 1) hjS ha1 hlt
          omega
        · have : j = a - 1 := by omega
          subst this; exact hz
      · exact s3 y hy z h
  · refine (sortN_perm _).trans ?_
    refine ((hp.symm.append_right [x])).trans ?_
    have : S ++ [x] = S.take a ++ S.drop a ++ [x] := by rw [List.take_append_drop]
    rw [this, List.append_assoc]
    exact List.Perm.append_left _ List.perm_append_comm
theorem OwnK.rebase {W : World} {B B' : Nat} {T : TypeId} {sz : Nat} {v : Value} {n : Nat} {xs : List Value} (h : OwnK W B T sz v n xs) (hb : B' ≤ B) : OwnK W B' T sz v n xs := by
  obtain ⟨h1, h2⟩ := h.out
  refine ⟨h1, ?_⟩
  rcases h2 with h2 | ⟨g, cap, cur, e, hg, h3⟩
  · exact .inl h2
  · exact .inr ⟨g, cap, cur, e, by omega, h3⟩
theorem rest_eq {S : List Int} {q m k a : Nat} (hk : S.length = k) (hm : m = k - a) (hq : q = a ∨ m = 0) : (S.drop q).take m = S.drop a := by
  rcases hq with rfl | h0
  · exact List.take_of_length_le (by simp; omega)
  · rw [h0, List.take_zero, List.drop_of_length_le (by omega)]
theorem own_rest {W : World} {B q m N : Nat} {T : TypeId} {v : Value} {k a : Nat} {y : Int} {S : List Int} (h : OwnK W B T 1 v N ([.int .i64 y] ++ ints ((S.drop q).take m))) (hk : S.length = k) (hm : m = k - a) (hq : q = a ∨ m = 0) (hN : N = 1 + (k - a)) :
    ∃ g cap, v = .slice (some ⟨g, 0, none⟩) (1 + (k - a)) cap ∧ B ≤ g ∧ g < W.heap.size ∧ IntsK W g 0 (1 + (k - a)) ([y] ++ S.drop a) ∧ ([y] ++ S.drop a).length = 1 + (k - a) := by
  subst hN
  have e : [Value.int .i64 y] ++ ints ((S.drop q).take m) = ints ([y] ++ S.drop a) := by
    rw [rest_eq hk hm hq]; simp [ints]
  rw [e] at h
  have hL : ([y] ++ S.drop a).length = 1 + (k - a) := by simp; omega
  obtain ⟨g, cap, h1, h2, h3, h4⟩ := h.ints hL (by omega)
  exact ⟨g, cap, h1, h2, h3, h4, hL⟩
theorem OwnK.cap {W : World} {B g n c : Nat} {T : TypeId} {xs : List Value} (h : OwnK W B T 1 (.slice (some ⟨g, 0, none⟩) n c) n xs) : n ≤ c := by
  rcases h.out.2 with ⟨h1, h2⟩ | ⟨g', cap, cur, e, hb, hg, hle, hm, hsz, htk⟩
  · exact absurd h1 (by simp)
  · injection e with e1 e2 e3; omega
theorem own_full {W : World} {B B' N q M : Nat} {T : TypeId} {v : Value} {k a : Nat} {y : Int} {S : List Int} (h : OwnK W B T 1 v N (ints (S.take a) ++ ints ((([y] ++ S.drop a).drop q).take M))) (hk : S.length = k) (ha : a ≤ k) (hb : B' ≤ B) (hq : q = 0) (hM : M = 1 + (k - a)) (hN : N = k + 1) :
    ∃ g cap, v = .slice (some ⟨g, 0, none⟩) (k + 1) cap ∧ OwnK W B' T 1 v (k + 1) (ints (S.take a ++ ([y] ++ S.drop a))) ∧ IntsK W g 0 (k + 1) (S.take a ++ ([y] ++ S.drop a)) ∧ (S.take a ++ ([y] ++ S.drop a)).length = k + 1 := by
  subst hq hM hN
  have e : ints (S.take a) ++ ints ((([y] ++ S.drop a).drop 0).take (1 + (k - a))) = ints (S.take a ++ ([y] ++ S.drop a)) := by
    rw [List.drop_zero, List.take_of_length_le (l := [y] ++ S.drop a) (by simp; omega)]; simp [ints]
  rw [e] at h
  have hL : (S.take a ++ ([y] ++ S.drop a)).length = k + 1 := by simp; omega
  obtain ⟨g, cap, h1, h2, h3, h4⟩ := h.ints hL (by omega)
  exact ⟨g, cap, h1, h.rebase hb, h4, hL⟩
/-- Where a number belongs: from here on all are larger. -/
structure PutK (S : List Int) (x : Int) (k a : Nat) : Prop where
  out : ∀ j, a ≤ j → j < k → x < S.getD j 0
theorem Off.at {g h n c : Nat} (ne : g ≠ h) : Off (.slice (some ⟨g, 0, none⟩) n c) h := ⟨fun e => by simp [Value.ownBlock] at e; omega⟩
end Go.Proofs.Ytbeeecahkchjnaa
/- Contracts: the specification's l10Moved: numbers put in where they belong; walked. -- numbers -- appendI -/
namespace Go.Proofs.Ytbeeecahkchjnaa
open Go.RowKit
set_option linter.unusedVariables false
set_option linter.unusedSimpArgs false
set_option maxRecDepth 20000 in
set_option maxHeartbeats 4000000 in
theorem l10Moved_any (n m t : Int) (b : Option Addr) (c : Nat) (l : List Int) (w : World) (n2 : 2 ≤ n) (n1 : n ≤ 1000) (m0 : 0 ≤ m) (m1 : m < n) (t0 : 0 ≤ t) (t1 : t < n) (hb : ∀ k ∈ l, 0 ≤ k ∧ k < n) (hl : l.length ≤ 1000) (hP : ArgK w b l.length l) :
    Calls Try.prog 32 #[.int .i64 n, .slice b l.length c, .int .i64 m, .int .i64 t] w (NewI w (sortN (movN n m t l))) := by
  have HB := Lib.hid (fun k (h : k ∈ l) => mov_bd (k := k) n2 n1 m0 m1 t0 t1 (hb k h).1 (hb k h).2)
  clear hb
  go_enter Try.func32, Try.ntmps32
  go_wp2_with (first | (refine wl_load ?_) | (refine wl_store ?_) | (refine wl_build ?_) | (refine wl_slice ?_) | ((refine wl_append_I ?_); intro v' w' ho hg hb; have hs := hg.size; (try simp at hs)) | (refine wl_append ?_; intro v' w' ho hg hb; have hs := hg.size; (try simp at hs); (try rw [ptCs_end] at ho); (try rw [ints_end] at ho); (try simp only [Nat.zero_add, Nat.reduceAdd, List.nil_append, List.cons_append] at ho)))
  go_loopw [9, 10] (fun v i wr => ∃ (k g cap : Nat) (S : List Int), k ≤ l.length ∧ i = .int .i64 (k : Int) ∧ v = .slice (some ⟨g, 0, none⟩) k cap ∧ sortN (movN n m t (l.take k)) = S ∧ S.length = k ∧ OwnK wr w.heap.size 2 1 v k (ints S) ∧ IntsK wr g 0 k S ∧ LowK w wr ∧ ArgK wr b l.length l) (fun _ i wr => l.length - (intOf i).toNat)
  case atStart => exact ⟨0, w.heap.size, 0, [], Nat.zero_le _, rfl, rfl, by simp [movN, sortN], rfl, OwnK.empty findRow (Nat.le_refl _), ⟨fun i hi => absurd hi (Nat.not_lt_zero _)⟩, findLow, ⟨fun h0 => by obtain ⟨g, e, h1⟩ := hP.out h0; exact ⟨g, e, findInts⟩⟩⟩
  case round =>
    obtain ⟨k, g2, cap, S, hk, rfl, rfl, hS, hSl, hO, hI2, hV, hA⟩ := hrel
    have hsz := hV.size
    by_cases hlt : k < l.length
    · obtain ⟨g, rfl, hI⟩ := hA.out (by omega)
      have hg0 := hI.lt (by omega)
      obtain ⟨x, hx⟩ : ∃ x, l.getD k 0 = x := ⟨_, rfl⟩
      have hmem : x ∈ l := by rw [← hx, List.getD_eq_getElem?_getD, List.getElem?_eq_getElem hlt]; exact List.getElem_mem hlt
      obtain ⟨b1, b2, b3, b4⟩ := HB.out x hmem
      have HS := Lib.hid (take_snoc' l 0 k hlt)
      rw [hx] at HS
      go_wp2_with (first | (refine wl_load ?_) | (refine wl_store ?_) | (refine wl_build ?_) | (refine wl_slice ?_) | ((refine wl_append_I ?_); intro v' w' ho hg hb; have hs := hg.size; (try simp at hs)) | (refine wl_append ?_; intro v' w' ho hg hb; have hs := hg.size; (try simp at hs); (try rw [ptCs_end] at ho); (try rw [ints_end] at ho); (try simp only [Nat.zero_add, Nat.reduceAdd, List.nil_append, List.cons_append] at ho)))
      have hg2 : g2 < wr.heap.size := hO.lt g2 rfl
      have hcap := hO.cap
      have of1 : Off (.slice (some ⟨wr.heap.size, 0, none⟩) 1 1) g2 := Off.at (by omega)
      have of2 : Off (.slice (some ⟨wr.heap.size, 0, none⟩) 1 1) g := Off.at (by omega)
      go_loopw [12] (fun i wx => ∃ a : Nat, a ≤ k ∧ i = .int .i64 (a : Int) ∧ PutK S ((m * x + t) % n) k a ∧ wx = wr) (fun i wx => (intOf i).toNat)
      case atStart => exact ⟨k, Nat.le_refl _, rfl, ⟨fun j h1 h2 => by omega⟩, rfl⟩
      case round =>
        obtain ⟨a, ha, rfl, hPu, rfl⟩ := hrel
        generalize hy : (m * x + t) % n = y at hPu ⊢
        by_cases a0 : a = 0
        · subst a0
          go_wp2_with (with_reducible refine hold (p := wpList _ _ _ ({ dst := _, op := .call { callee := .builtin .append, args := _, argTypes := _ }, type := _, pos := _, after := _, guard := _ } :: _) _ _) ?_)
          all_goals
            unfold Hold
            go_wp2_with (first | (refine wl_load ?_) | (refine wl_store ?_) | (refine wl_build ?_) | (refine wl_slice ?_) | ((refine wl_append_I ?_); intro v' w' ho hg hb; have hs := hg.size; (try simp at hs)) | (refine wl_append ?_; intro v' w' ho hg hb; have hs := hg.size; (try simp at hs); (try rw [ptCs_end] at ho); (try rw [ints_end] at ho); (try simp only [Nat.zero_add, Nat.reduceAdd, List.nil_append, List.cons_append] at ho)) | (go_at_call 48; (with_reducible refine (l01Own_any g2 _ 0 k S _ findInts hSl ha (by omega)).mono ?_); (rintro e w' ⟨v2, rfl, ho2, hV2⟩; have hs2 := hV2.size; obtain ⟨g3, cap3, rfl, hb3, hl3, hI3, hL3⟩ := own_rest (a := 0) ho hSl (by omega) (by omega) (by omega); have hV1 := LowK.grew hg (fun b h => by simp [Value.ownBlock] at h; omega) (LowK.alloc hV _); have hl := LowK.lnk hV2; have hA1 := IntsK.grew hg of2 (IntsK.alloc hI _); clear hg hb ho)))
            obtain ⟨g4, cap4, rfl, ho4, hI4, hL4⟩ := own_full (B' := w.heap.size) ho hSl ha (by omega) (by omega) (by omega) (by omega)
            have hsp := sortN_put (P := movN n m t (l.take k)) (x := y) (a := 0) (by rw [hS]; omega) (by rw [hS, hSl]; exact hPu.out) (by rw [hS]; intro hh; omega)
            go_roundw
            case rel => exact ⟨k + 1, g4, cap4, _, by omega, by go_num, rfl, (by rw [HS.out, movN_snoc, hy, hsp, hS]), hL4, ho4, hI4, findLow, ⟨fun _ => ⟨g, rfl, findInts⟩⟩⟩
            case measure => (simp [intOf]; try omega)
        · obtain ⟨e, rfl⟩ : ∃ e, a = e + 1 := ⟨a - 1, by omega⟩
          have c0 := hI2.out e (by omega)
          obtain ⟨z, hz⟩ : ∃ z, S.getD e 0 = z := ⟨_, rfl⟩
          rw [Nat.zero_add, hz] at c0
          have hip : (0 : Int) < (e : Int) + 1 := by omega
          by_cases hyz : y < z
          · go_wp2_with (first | (refine wl_load ?_) | (refine wl_store ?_) | (refine wl_build ?_) | (refine wl_slice ?_) | ((refine wl_append_I ?_); intro v' w' ho hg hb; have hs := hg.size; (try simp at hs)) | (refine wl_append ?_; intro v' w' ho hg hb; have hs := hg.size; (try simp at hs); (try rw [ptCs_end] at ho); (try rw [ints_end] at ho); (try simp only [Nat.zero_add, Nat.reduceAdd, List.nil_append, List.cons_append] at ho)))
            go_roundw
            case rel => exact ⟨e, by omega, by go_num, ⟨fun j h1 h2 => by
              rcases Nat.lt_or_ge e j with h | h
              · exact hPu.out j (by omega) h2
              · obtain rfl : j = e := by omega
                rw [hz]; exact hyz⟩, (by first | trivial | rfl)⟩
            case measure => (simp [intOf]; try omega)
          · have hzy : z ≤ y := by omega
            go_wp2_with (with_reducible refine hold (p := wpList _ _ _ ({ dst := _, op := .call { callee := .builtin .append, args := _, argTypes := _ }, type := _, pos := _, after := _, guard := _ } :: _) _ _) ?_)
            all_goals
              unfold Hold
              go_wp2_with (first | (refine wl_load ?_) | (refine wl_store ?_) | (refine wl_build ?_) | (refine wl_slice ?_) | ((refine wl_append_I ?_); intro v' w' ho hg hb; have hs := hg.size; (try simp at hs)) | (refine wl_append ?_; intro v' w' ho hg hb; have hs := hg.size; (try simp at hs); (try rw [ptCs_end] at ho); (try rw [ints_end] at ho); (try simp only [Nat.zero_add, Nat.reduceAdd, List.nil_append, List.cons_append] at ho)) | (go_at_call 48; (with_reducible refine (l01Own_any g2 _ (e + 1) k S _ findInts hSl ha (by omega)).mono ?_); (rintro e w' ⟨v2, rfl, ho2, hV2⟩; have hs2 := hV2.size; obtain ⟨g3, cap3, rfl, hb3, hl3, hI3, hL3⟩ := own_rest (a := e + 1) ho hSl (by omega) (by omega) (by omega); have hV1 := LowK.grew hg (fun b h => by simp [Value.ownBlock] at h; omega) (LowK.alloc hV _); have hl := LowK.lnk hV2; have hA1 := IntsK.grew hg of2 (IntsK.alloc hI _); clear hg hb ho)))
              obtain ⟨g4, cap4, rfl, ho4, hI4, hL4⟩ := own_full (B' := w.heap.size) ho hSl ha (by omega) (by omega) (by omega) (by omega)
              have hsp := sortN_put (P := movN n m t (l.take k)) (x := y) (a := e + 1) (by rw [hS]; omega) (by rw [hS, hSl]; exact hPu.out) (by rw [hS]; intro hh; rw [Nat.add_sub_cancel, hz]; exact hzy)
              go_roundw
              case rel => exact ⟨k + 1, g4, cap4, _, by omega, by go_num, rfl, (by rw [HS.out, movN_snoc, hy, hsp, hS]), hL4, ho4, hI4, findLow, ⟨fun _ => ⟨g, rfl, findInts⟩⟩⟩
              case measure => (simp [intOf]; try omega)
    · obtain rfl : k = l.length := by omega
      rw [List.take_length] at hS
      go_wp2_with (first | (refine wl_load ?_) | (refine wl_store ?_) | (refine wl_build ?_) | (refine wl_slice ?_) | ((refine wl_append_I ?_); intro v' w' ho hg hb; have hs := hg.size; (try simp at hs)) | (refine wl_append ?_; intro v' w' ho hg hb; have hs := hg.size; (try simp at hs); (try rw [ptCs_end] at ho); (try rw [ints_end] at ho); (try simp only [Nat.zero_add, Nat.reduceAdd, List.nil_append, List.cons_append] at ho)))
      (apply ret_one Try.results32; (conv => lhs; whnf); exact rfl)
      refine ⟨_, rfl, ?_, LowK.out findLow⟩
      rw [hS, hSl]
      exact findOwn
end Go.Proofs.Ytbeeecahkchjnaa
/- A region that draws its order and stores once into a block that is there: all other blocks are as they were. -/
namespace Go.Proofs.Ytbeeecahkchjnaa
open Go.RowKit
set_option linter.unusedVariables false
set_option linter.unusedSimpArgs false
/-- All blocks but one are as they were. -/
structure Save (g0 : Nat) (w W : World) : Prop where
  os : W.os = w.os
  tape : W.tape = w.tape
  output : W.output = w.output
  size : w.heap.size ≤ W.heap.size
  block : ∀ k, k < w.heap.size → k ≠ g0 → W.heap[k]? = w.heap[k]?
theorem Save.tr {g0 : Nat} {w W W' : World} (h : Save g0 w W) (hb : Below W.heap.size W W') : Save g0 w W' :=
  ⟨hb.os.trans h.os, hb.tape.trans h.tape, hb.output.trans h.output, Nat.le_trans h.size hb.size, fun k hk hne => (hb.block k (Nat.lt_of_lt_of_le hk h.size)).trans (h.block k hk hne)⟩
theorem Save.setRow {g0 : Nat} {w W : World} (h : Save g0 w W) (cs : Array Value) : Save g0 w (W.setRow g0 cs) :=
  ⟨h.os, h.tape, h.output, by simpa [World.setRow] using h.size, fun k hk hne => (setRow_other W g0 k cs hne).trans (h.block k hk hne)⟩
theorem Save.below {g0 b : Nat} {w W W' : World} (h : Save g0 W W') (hb : Below b w W) (hg : b ≤ g0) (hs : b ≤ W.heap.size) : Below b w W' :=
  ⟨h.os.trans hb.os, h.tape.trans hb.tape, h.output.trans hb.output, Nat.le_trans hb.size h.size, fun k hk => (h.block k (by omega) (by omega)).trans (hb.block k hk)⟩
structure RInvT (l : List Oper) (a0 aE : Act) (w0 : World) (g0 s n : Nat) (T : TypeId) (U : Array Value) (listed : Array Bool) (a : Act) (w : World) : Prop where
  df : a.defers = aE.defers
  sz : a.tmps.size = aE.tmps.size
  len : listed.size = l.length
  fr1 : ∀ (j : Nat) (o : Oper) (t : Nat), l[j]? = some o → o.dst = some t → listed.getD j false = true → a.tmps.getD t undef = aE.tmps.getD t undef
  fr0 : ∀ t : Nat, (∀ (j : Nat) (o : Oper), l[j]? = some o → o.dst = some t → listed.getD j false = false) → a.tmps.getD t undef = a0.tmps.getD t undef
  bl : Save g0 w0 w
  box : ∃ cs, w.heap[g0]? = some (.cells cs T (0, 0)) ∧ cs.size = n ∧ (listed.getD s false = true → cs = U)
section
variable {P : Program} {Q : Exit → Act → World → Prop} {l : List Oper} {a0 : Act} {w : World} {vs : List (Nat × Value)} {g0 s n : Nat} {T : TypeId} {U : Array Value} {os : Oper}
/-- What the law asks of one operation that is not the store. -/
def CalmT (P : Program) (aE : Act) (w : World) (g0 : Nat) (l : List Oper) (o : Oper) : Prop := ∀ t, o.dst = some t →
  (Region.wanted o (yielded l.toArray aE.tmps) = true ∧ ∀ W, Save g0 w W → calmAt P o aE.eval W (aE.tmps.getD t undef)) ∨ (Region.wanted o (yielded l.toArray aE.tmps) = false ∧ aE.tmps.getD t undef = undef)
theorem CalmT.mk {P : Program} {aE : Act} {w : World} {g0 : Nat} {l : List Oper} {o : Oper} (t : Nat) (v : Value) (hd : o.dst = some t) (hv : aE.tmps.getD t undef = v) (hw : Region.wanted o (yielded l.toArray aE.tmps) = true) (h : ∀ W, Save g0 w W → calmAt P o aE.eval W v) : CalmT P aE w g0 l o := by
  intro t' hd'
  rw [hd] at hd'
  obtain rfl := Option.some.inj hd'
  exact .inl ⟨hw, fun W hW => by rw [hv]; exact h W hW⟩
end
end Go.Proofs.Ytbeeecahkchjnaa
/- Contracts: the laws' marks on lists of points (and lines). (Printed by geng4.py, a program of this session.) -/
namespace Go.Proofs.Ytbeeecahkchjnaa
open Go.RowKit
set_option linter.unusedVariables false
set_option linter.unusedSimpArgs false
def markP (k i : Nat) : Pt := (((k + 3 * i : Nat) : Int), ((k + 3 * i + 1 : Nat) : Int), ((k + 3 * i + 2 : Nat) : Int))
def markL (k n : Nat) : List Pt := (List.range n).map (markP k)
theorem Save.refl (g : Nat) (w : World) : Save g w w := ⟨rfl, rfl, rfl, Nat.le_refl _, fun _ _ _ => rfl⟩
theorem Save.setCell {g0 : Nat} {w W : World} (h : Save g0 w W) (i : Nat) (v : Value) : Save g0 w (W.setCell ⟨g0, i, none⟩ v) :=
  ⟨h.os, h.tape, h.output, by simpa [World.setCell] using h.size, fun k hk hne => by
    have : (W.setCell ⟨g0, i, none⟩ v).heap[k]? = W.heap[k]? := by simp [World.setCell, Array.getElem?_modify, Ne.symm hne]
    rw [this]; exact h.block k hk hne⟩
/-- What marks leave. -/
structure MarkPost (g n k cap : Nat) (T : TypeId) (w : World) (e : Ending) (w' : World) : Prop where
  out : e = .returned (.int .i64 ((k + 3 * n : Nat) : Int)) ∧ Save g w w' ∧ RoomP w' g cap T ∧ PtsAt w' g 0 n (markL k n)
end Go.Proofs.Ytbeeecahkchjnaa
/- The law FnExactSingerOrder, walked. -/
namespace Go.Proofs.Ytbeeecahkchjnaa
open Go.RowKit
set_option linter.unusedVariables false
set_option linter.unusedSimpArgs false
end Go.Proofs.Ytbeeecahkchjnaa
/- Contracts: the laws' marks on lists of numbers; DifferenceSetOf, the program's and the reference's. -/
namespace Go.Proofs.Ytbeeecahkchjnaa
open Go.RowKit
set_option linter.unusedVariables false
set_option linter.unusedSimpArgs false
def markI (k n : Nat) : List Int := (List.range n).map (fun i : Nat => ((k + i : Nat) : Int))
/-- What marks leave. -/
structure MarkPostI (g n k cap : Nat) (T : TypeId) (w : World) (e : Ending) (w' : World) : Prop where
  out : e = .returned (.int .i64 ((k + n : Nat) : Int)) ∧ Save g w w' ∧ RoomI w' g cap T ∧ IntsAt w' g 0 n (markI k n)
/-- A new list of numbers, and no error. -/
structure IntsPost2 (w : World) (l : List Int) (e : Ending) (w' : World) : Prop where
  out : ∃ v, e = .returned (.tuple #[v, .int .i64 0]) ∧ w'.ownsRow w.heap.size 2 1 v l.length (ints l) ∧ Below w.heap.size w w'
/-- The difference set of a prime. -/
def diffL (n : Nat) : List Int := numU (onN (n : Int) (singL n) (1, 0, 0)) (singL n).length
theorem diffL_bd {n : Nat} (hp : prB (n : Int) = true) : 0 < (diffL n).length ∧ (diffL n).length ≤ 1000 := by
  have hb := prB_bd hp
  have h1 := numU_length (onN (n : Int) (singL n) (1, 0, 0)) (singL n).length
  have h2 : n * n ≤ 13 * 13 := Nat.mul_le_mul (by omega) (by omega)
  have h3 := singL_length n
  have h4 : (0 : Int) ∈ diffL n := by
    unfold diffL numU
    refine List.mem_map.2 ⟨0, List.mem_filter.2 ⟨List.mem_range.2 (by omega), ?_⟩, rfl⟩
    unfold onN singL
    rw [orbL_at _ _ _ _ _ (by omega)]
    unfold onB orbA
    simp
  refine ⟨List.length_pos_of_mem h4, ?_⟩
  unfold diffL
  omega
end Go.Proofs.Ytbeeecahkchjnaa
/- Contracts: a number drawn from a list; sets that are drawn. -- draws -- own lists -- numbers -/
namespace Go.Proofs.Ytbeeecahkchjnaa
open Go.RowKit
set_option linter.unusedVariables false
set_option linter.unusedSimpArgs false
/-- Numbers of a kind in a block of their own. -/
structure NumQ (Pn : Int → Prop) (W : World) (gl k : Nat) : Prop where
  out : ∃ cs, RowK W gl cs 2 ∧ cs.size = k ∧ ∀ i, i < k → ∃ r : Int, cs[i]? = some (.int .i64 r) ∧ Pn r
theorem NumQ.link {Pn : Int → Prop} {W W' : World} {gl k : Nat} (l : Link W W') (h : NumQ Pn W gl k) : NumQ Pn W' gl k := by
  obtain ⟨cs, h1, h2⟩ := h.out
  exact ⟨cs, h1.link l, h2⟩
theorem NumQ.but {Pn : Int → Prop} {g : Nat} {W W' : World} {gl k : Nat} (hB : ButK g W W') (hne : gl ≠ g) (h : NumQ Pn W gl k) : NumQ Pn W' gl k := by
  obtain ⟨cs, h1, h2⟩ := h.out
  exact ⟨cs, h1.but hB hne, h2⟩
theorem NumQ.ne {Pn : Int → Prop} {W : World} {g gl k n c : Nat} {b : Option Addr} (h : NumQ Pn W gl k) (hS : SrcK W g b n c) : gl ≠ g := by
  obtain ⟨cs, h1, -⟩ := h.out
  exact hS.rowNe h1 (by decide)
theorem NumQ.ofL {W : World} {gl k : Nat} {l : List Int} (h : RowK W gl (l.map (Value.int .i64)).toArray 2) (hk : l.length = k) : NumQ (· ∈ l) W gl k :=
  ⟨_, h, by simp [hk], fun i hi => ⟨l[i]'(by omega), by simp [show i < l.length by omega], List.getElem_mem _⟩⟩
/-- A number of a kind, and the source drawn from. -/
def NumR (Pn : Int → Prop) (g : Nat) (b : Option Addr) (n c : Nat) (w : World) : Ending → World → Prop := fun e W => ∃ r : Int, e = .returned (.int .i64 r) ∧ Pn r ∧ Drew g b n c w W
set_option maxRecDepth 20000 in
set_option maxHeartbeats 8000000 in
theorem Pick_Q (Pn : Int → Prop) (g : Nat) (b : Option Addr) (n c : Nat) (gl k cp : Nat) (w : World) (hS : SrcK w g b n c) (hR : NumQ Pn w gl k) (h0 : 0 < k) (hk : k ≤ 1000) :
    Calls Try.prog 35 #[.pointer (some ⟨g, 0, none⟩), .slice (some ⟨gl, 0, none⟩) k cp] w (NumR Pn g b n c w) := by
  have hne := hR.ne hS
  go_enter Try.func35, Try.ntmps35
  go_wp2_with (first | (refine wl_loadS ?_) | (go_at_call 28; (with_reducible refine (Next_S g b n c (k : Int) _ hS (by omega)).mono ?_); rintro e w' ⟨r, rfl, hr, hS', hB⟩; have hrk : r < k := (by omega); obtain ⟨cs, h1, h2, h3⟩ := (NumQ.but hB hne hR).out; obtain ⟨x, hx, hpx⟩ := h3 r hrk; have c1 := h1.cellAt hx; have HX := Lib.hid hx; have HP := Lib.hid hpx; clear hx hpx h3 h2))
  (apply ret_one Try.results35; (conv => lhs; whnf); exact rfl)
  exact ⟨x, rfl, HP.out, hS', hB⟩
theorem numU_bd {f : Nat → Bool} {N : Nat} {k : Int} (h : k ∈ numU f N) : 0 ≤ k ∧ k < (N : Int) := by
  unfold numU at h
  obtain ⟨i, hi, rfl⟩ := List.mem_map.1 h
  have := List.mem_range.1 (List.mem_filter.1 hi).1
  exact ⟨by omega, by omega⟩
theorem diffL_in {n : Nat} {k : Int} (h : k ∈ diffL n) : 0 ≤ k ∧ k < ((n * n + n + 1 : Nat) : Int) := by
  have := numU_bd h
  rwa [singL_length] at this
set_option pp.deepTerms false
set_option pp.deepTerms.threshold 10
set_option maxRecDepth 20000 in
set_option maxHeartbeats 16000000 in
theorem DrawSet_E (g : Nat) (b : Option Addr) (n c : Nat) (w : World) (hS : SrcK w g b n c) (hb : ∀ a, b = some a → a.block < w.heap.size) :
    Calls Try.prog 21 #[.pointer (some ⟨g, 0, none⟩)] w (fun e W => ∃ (x : Int) (v : Value) (L : List Int), e = .returned (.tuple #[.int .i64 x, v]) ∧ OwnK W w.heap.size 2 1 v L.length (ints L) ∧ L.length ≤ 1000 ∧ 1 ≤ x ∧ x ≤ 1001 ∧ Drew g b n c w W) := by
  have hgl := hS.lt
  obtain ⟨L3, hL3⟩ : ∃ L, diffL 3 = L := ⟨_, rfl⟩
  obtain ⟨L5, hL5⟩ : ∃ L, diffL 5 = L := ⟨_, rfl⟩
  have b3 := diffL_bd (n := 3) rfl
  have b5 := diffL_bd (n := 5) rfl
  have HN3 : ∀ W, Calls Try.prog 45 #[.int .i64 3, .agg #[.int .i64 1, .int .i64 0, .int .i64 0]] W (IntsPost W (diffL 3)) := fun W => l10Numbers_any 3 1 0 0 W rfl ⟨by decide, by decide, by decide⟩
  have HN5 : ∀ W, Calls Try.prog 45 #[.int .i64 5, .agg #[.int .i64 1, .int .i64 0, .int .i64 0]] W (IntsPost W (diffL 5)) := fun W => l10Numbers_any 5 1 0 0 W rfl ⟨by decide, by decide, by decide⟩
  have i3 := Lib.hid (fun k (h : k ∈ diffL 3) => diffL_in h)
  have i5 := Lib.hid (fun k (h : k ∈ diffL 5) => diffL_in h)
  rw [hL3] at b3 HN3 i3
  rw [hL5] at b5 HN5 i5
  clear hL3 hL5
  go_enter Try.func21, Try.ntmps21
  go_wp2_with (first | (go_at_call 28; (with_reducible refine (Next_S g b n c 6 _ hS (by decide)).mono ?_); rintro e w1 ⟨k0, rfl, hk0, hD1⟩; have hgl1 := hD1.src.lt; have hsz1 := hD1.but.size) | (go_at_call 45; (with_reducible refine (HN3 _).mono ?_); rintro e w2 ⟨v, rfl, ho, hb2⟩; have hl2 := Link.mk hb2; have hO : OwnK w2 _ 2 1 v L3.length (ints L3) := ⟨ho⟩; have hsz2 := hb2.size; have hLw2 : LowK w1 w2 := ⟨hb2⟩; clear ho hb2) | (go_at_call 45; (with_reducible refine (HN5 _).mono ?_); rintro e w2 ⟨v, rfl, ho, hb2⟩; have hl2 := Link.mk hb2; have hO : OwnK w2 _ 2 1 v L5.length (ints L5) := ⟨ho⟩; have hsz2 := hb2.size; have hLw2 : LowK w1 w2 := ⟨hb2⟩; clear ho hb2) | (go_at_call 28; (with_reducible refine (Next_S g b n c 13 _ (hD1.src.link hl2) (by decide)).mono ?_); rintro e w3 ⟨r, rfl, hr, hD3⟩; have hO3 := OwnK.but hO hD3.but hgl1; obtain ⟨bb, cc, rfl, hA⟩ := OwnK.arg hO3 rfl; have hD4 := (hD1.low hLw2).tr hD3; have hsz3 := hD4.but.size; clear hO hO3 hD3) | (go_at_call 28; (with_reducible refine (Next_S g b n c 30 _ (hD1.src.link hl2) (by decide)).mono ?_); rintro e w3 ⟨r, rfl, hr, hD3⟩; have hO3 := OwnK.but hO hD3.but hgl1; have hD4 := (hD1.low hLw2).tr hD3; have hr30 : r < 30 := (by omega); clear hO hD3) | (go_at_call 28; (with_reducible refine (Next_S g b n c 31 _ hD4.src (by decide)).mono ?_); rintro e w4 ⟨r2, rfl, hr2, hD5⟩; have hO4 := OwnK.but hO3 hD5.but hgl1; obtain ⟨bb, cc, rfl, hA⟩ := OwnK.arg hO4 rfl; have hD6 := hD4.tr hD5; have hsz6 := hD6.but.size; clear hO3 hO4 hD5) | (go_at_call 32; (with_reducible refine (l10Moved_any 13 1 (r : Int) bb cc L3 _ (by decide) (by decide) (by decide) (by decide) (by omega) (by omega) (fun k hk => ⟨(i3.out k hk).1, by have := (i3.out k hk).2; omega⟩) (by omega) hA).mono ?_); rintro e w5 ⟨v5, rfl, hO5, hb5⟩; have hD7 := hD4.low ⟨hb5⟩) | (go_at_call 32; (with_reducible refine (l10Moved_any 31 (1 + (r : Int)) (r2 : Int) bb cc L5 _ (by decide) (by decide) (by omega) (by omega) (by omega) (by omega) (fun k hk => ⟨(i5.out k hk).1, by have := (i5.out k hk).2; omega⟩) (by omega) hA).mono ?_); rintro e w5 ⟨v5, rfl, hO5, hb5⟩; have hD7 := hD6.low ⟨hb5⟩) | (go_at_call 28; (with_reducible refine (Next_S g b n c 40 _ hD1.src (by decide)).mono ?_); rintro e w2 ⟨r, rfl, hr, hD2⟩; have hr40 : r < 40 := (by omega); have hD3 := hD1.tr hD2; clear hD2) | (go_at_call 35; have rw6 : RowK (w2.alloc (.cells #[.int .i64 2, .int .i64 3, .int .i64 7, .int .i64 13, .int .i64 21, .int .i64 (1 + (r : Int))] 2)) w2.heap.size #[.int .i64 2, .int .i64 3, .int .i64 7, .int .i64 13, .int .i64 21, .int .i64 (1 + (r : Int))] 2 := findRow; have hlw6 : LowK w2 (w2.alloc (.cells #[.int .i64 2, .int .i64 3, .int .i64 7, .int .i64 13, .int .i64 21, .int .i64 (1 + (r : Int))] 2)) := findLow; have hD4 := hD3.low hlw6; (with_reducible refine (Pick_Q (· ∈ [2, 3, 7, 13, 21, 1 + (r : Int)]) g b n c _ 6 _ _ hD4.src (NumQ.ofL rw6 rfl) (by decide) (by decide)).mono ?_); rintro e w3 ⟨x, rfl, hx, hD5⟩; have hD6 := hD4.tr hD5; have hsz6 := hD6.but.size; clear rw6 hlw6 hD3 hD4 hD5))
  · (apply ret_two Try.results21; (conv => lhs; whnf); (conv => lhs; whnf); exact rfl)
    have hr : RowK (w1.alloc (.cells #[.int .i64 0, .int .i64 1, .int .i64 3] 2)) w1.heap.size #[.int .i64 0, .int .i64 1, .int .i64 3] 2 := findRow
    exact ⟨7, _, [0, 1, 3], rfl, ⟨rfl, .inr ⟨_, 3, _, rfl, by omega, hr.out, by decide, by decide, rfl, rfl⟩⟩, by decide, by decide, by decide, hD1.low findLow⟩
  · (apply ret_two Try.results21; (conv => lhs; whnf); (conv => lhs; whnf); exact rfl)
    exact ⟨13, v5, _, rfl, OwnK.weak hO5 (by omega), by (rw [sortN_length, movN_length]; omega), by decide, by decide, hD7⟩
  · (apply ret_two Try.results21; (conv => lhs; whnf); (conv => lhs; whnf); exact rfl)
    exact ⟨31, v5, _, rfl, OwnK.weak hO5 (by omega), by (rw [sortN_length, movN_length]; omega), by decide, by decide, hD7⟩
  · have hx1 : 1 ≤ x ∧ x ≤ 41 := by
      simp at hx
      rcases hx with rfl | rfl | rfl | rfl | rfl | rfl <;> omega
    obtain ⟨X, rfl⟩ : ∃ X : Nat, x = (X : Int) := ⟨x.toNat, by omega⟩
    have r0 : RowK (w3.alloc (.cells #[] 2)) w3.heap.size #[] 2 := findRow
    have hO : OwnK (w3.alloc (.cells #[] 2)) w.heap.size 2 1 (.slice (some ⟨w3.heap.size, 0, none⟩) 0 0) 0 (ints []) := OwnK.empty r0 hsz6
    have hD7 : Drew g b n c w (w3.alloc (.cells #[] 2)) := hD6.low findLow
    generalize w3.alloc (.cells #[] 2) = W at *
    generalize (Value.slice (some ⟨w3.heap.size, 0, none⟩) 0 0) = v0 at *
    clear r0 hD6 hsz6 hx HN3 HN5 i3 i5 b3 b5 hgl1 hsz1 hr40
    go_loopw [7, 8] (fun sv kv wr => ∃ (k : Nat) (L : List Int), k ≤ X ∧ L.length ≤ k ∧ kv = .int .i64 (k : Int) ∧ OwnK wr w.heap.size 2 1 sv L.length (ints L) ∧ Drew g b n c w wr) (fun sv kv wr => X - (intOf kv).toNat)
    case atStart => exact ⟨0, [], Nat.zero_le _, Nat.le_refl _, rfl, hO, hD7⟩
    case round =>
      clear hO hD7
      obtain ⟨k, L, hkX, hLk, rfl, hO, hD⟩ := hrel
      have hsz := hD.but.size
      have hlen : ((L.length : Nat) : Int) ≤ 41 := by omega
      by_cases hk : k < X
      · go_wp2_with (first | (go_at_call 28; (with_reducible refine (Next_S g b n c 4 _ hD.src (by decide)).mono ?_); rintro e w5 ⟨r2, rfl, hr2, hD2⟩; have hO2 := OwnK.but hO hD2.but hgl; have hD3 := hD.tr hD2; have hsz3 := hD3.but.size) | (refine wl_append (he := eltI64) (hown := OwnK.alloc hO2 (.cells #[.int .i64 (k : Int)] 2)) (hbase := by (simp; omega)) (fun v' w' hO' hg' hb' => ?_); rw [ints_end] at hO'; have hD4 : Drew g b n c w (w5.alloc (.cells #[.int .i64 (k : Int)] 2)) := hD3.low findLow; have hD5 : Drew g b n c w w' := ⟨SrcK.grew hD4.src hg' (Off.under hO2 hgl) (fun a ha => Off.under hO2 (hb a ha)), ButK.grew hD4.but hg' (fun b hb => hO2.base b hb)⟩))
        · go_roundw
          case rel => exact ⟨k + 1, L ++ [(k : Int)], by omega, by simp; omega, by go_num, (by rw [List.length_append]; exact hO'), hD5⟩
          case measure => (simp [intOf]; try omega)
        · go_roundw
          case rel => exact ⟨k + 1, L, by omega, by omega, by go_num, hO2, hD3⟩
          case measure => (simp [intOf]; try omega)
      · obtain rfl : X = k := by omega
        have app : ∀ (y : Int) (w5 w' : World) (v' : Value), OwnK w5 w.heap.size 2 1 u7 L.length (ints L) → Drew g b n c w w5 → Grew (w5.alloc (.cells #[.int .i64 y] 2)) u7 w' → Drew g b n c w w' := fun y w5 w' v' hO2 hD3 hg' => by
          have hD4 : Drew g b n c w (w5.alloc (.cells #[.int .i64 y] 2)) := hD3.low findLow
          exact ⟨SrcK.grew hD4.src hg' (Off.under hO2 hgl) (fun a ha => Off.under hO2 (hb a ha)), ButK.grew hD4.but hg' (fun b hb => hO2.base b hb)⟩
        go_wp2_with (first | (go_at_call 28; (with_reducible refine (Next_S g b n c 24 _ hD.src (by decide)).mono ?_); rintro e w5 ⟨r2, rfl, hr2, hD2⟩; have hO2 := OwnK.but hO hD2.but hgl; have hD3 := hD.tr hD2; have hsz3 := hD3.but.size) | (refine wl_append (he := eltI64) (hown := OwnK.alloc hO2 (.cells #[.int .i64 (X : Int)] 2)) (hbase := by (simp; omega)) (fun v' w' hO' hg' hb' => ?_); rw [ints_end] at hO'; have hD5 := app _ _ _ v' hO2 hD3 hg') | (refine wl_append (he := eltI64) (hown := OwnK.alloc hO2 (.cells #[.int .i64 0] 2)) (hbase := by (simp; omega)) (fun v' w' hO' hg' hb' => ?_); rw [ints_end] at hO'; have hD5 := app _ _ _ v' hO2 hD3 hg') | (go_at_call 35; have rw6 : RowK (w5.alloc (.cells #[.int .i64 1, .int .i64 1001, .int .i64 201] 2)) w5.heap.size #[.int .i64 1, .int .i64 1001, .int .i64 201] 2 := findRow; have hlw6 : LowK w5 (w5.alloc (.cells #[.int .i64 1, .int .i64 1001, .int .i64 201] 2)) := findLow; have hD4 := hD3.low hlw6; (with_reducible refine (Pick_Q (· ∈ [1, 1001, 201]) g b n c _ 3 _ _ hD4.src (NumQ.ofL rw6 rfl) (by decide) (by decide)).mono ?_); rintro e w6 ⟨x, rfl, hx, hD5⟩; have hO3 := OwnK.but (OwnK.alloc hO2 _) hD5.but hgl; have hD6 := hD4.tr hD5))
        · (apply ret_two Try.results21; (conv => lhs; whnf); (conv => lhs; whnf); exact rfl)
          exact ⟨X, v', L ++ [(X : Int)], rfl, (by rw [List.length_append]; exact hO'), by simp; omega, hx1.1, by omega, hD5⟩
        · (apply ret_two Try.results21; (conv => lhs; whnf); (conv => lhs; whnf); exact rfl)
          exact ⟨x, u7, L, rfl, hO3, by omega, by simp at hx; omega, by simp at hx; omega, hD6⟩
        · (apply ret_two Try.results21; (conv => lhs; whnf); (conv => lhs; whnf); exact rfl)
          exact ⟨X, v', L ++ [0], rfl, (by rw [List.length_append]; exact hO'), by simp; omega, hx1.1, by omega, hD5⟩
        · (apply ret_two Try.results21; (conv => lhs; whnf); (conv => lhs; whnf); exact rfl)
          exact ⟨X, u7, L, rfl, hO2, by omega, hx1.1, by omega, hD3⟩
end Go.Proofs.Ytbeeecahkchjnaa
/- Contracts: the draws of the law FnSets. -- draws -- own lists -- numbers -/
namespace Go.Proofs.Ytbeeecahkchjnaa
open Go.RowKit
set_option linter.unusedVariables false
set_option linter.unusedSimpArgs false
set_option pp.deepTerms false
set_option pp.deepTerms.threshold 10
set_option maxRecDepth 20000 in
set_option maxHeartbeats 16000000 in
theorem DrawIsDifferenceSet_E (b : Option Addr) (n c : Nat) (w : World) (hC : CodeK w b n) (hn : n ≤ 4096) (hb : ∀ a, b = some a → a.block < w.heap.size) :
    Calls Try.prog 5 #[.slice b n c] w (fun e W => ∃ (x : Int) (v : Value) (L : List Int), e = .returned (.tuple #[.int .i64 x, v]) ∧ OwnK W w.heap.size 2 1 v L.length (ints L) ∧ L.length ≤ 1000 ∧ LowK w W) := by
  go_enter Try.func5, Try.ntmps5
  go_wp2_with (first | (go_at_call 22; (with_reducible refine (From_S b n c _ hC hn hb).mono ?_); rintro e w1 ⟨g, rfl, hg, hS, hl1⟩; have hz := LowK.size hl1) | (go_at_call 21; (with_reducible refine (DrawSet_E g b n c _ hS (fun a ha => by have := hb a ha; omega)).mono ?_); rintro e w2 ⟨x, v, L, rfl, hO, hL, hx1, hx2, hD⟩; have hl2 := LowK.but hD.but hg hl1; have hO2 := OwnK.weak hO hz))
  (apply ret_two Try.results5; (conv => lhs; whnf); (conv => lhs; whnf); exact rfl)
  exact ⟨x, v, L, rfl, hO2, hL, hl2⟩
/-- What a draw of a set and a number leaves. -/
def DrewSet (w : World) (e : Ending) (W : World) : Prop := ∃ (x : Int) (v : Value) (L : List Int) (t : Int), e = .returned (.tuple #[.int .i64 x, v, .int .i64 t]) ∧ OwnK W w.heap.size 2 1 v L.length (ints L) ∧ L.length ≤ 1000 ∧ LowK w W
set_option maxRecDepth 20000 in
set_option maxHeartbeats 16000000 in
theorem DrawTranslateSet_E (b : Option Addr) (n c : Nat) (w : World) (hC : CodeK w b n) (hn : n ≤ 4096) (hb : ∀ a, b = some a → a.block < w.heap.size) :
    Calls Try.prog 8 #[.slice b n c] w (DrewSet w) := by
  have tok : True := trivial
  go_enter Try.func8, Try.ntmps8
  go_wp2_with (first | (go_at_call 22; (with_reducible refine (From_S b n c _ hC hn hb).mono ?_); rintro e w1 ⟨g, rfl, hg, hS, hl1⟩; have hz := LowK.size hl1; have hgl := hS.lt) | (go_at_call 21; (with_reducible refine (DrawSet_E g b n c _ hS (fun a ha => by have := hb a ha; omega)).mono ?_); rintro e w2 ⟨x, v, L, rfl, hO, hL, hx1, hx2, hD⟩) | (have _t := tok; go_at_call 28; (with_reducible refine (Next_S g b n c 16 _ hD.src (by decide)).mono ?_); rintro e w3 ⟨r, rfl, hr, hD2⟩; have hr16 : r < 16 := (by omega); have hD3 := hD.tr hD2; have hO3 := OwnK.but hO hD2.but hgl; clear tok) | (go_at_call 28; (with_reducible refine (Next_S g b n c _ _ hD3.src (by omega)).mono ?_); rintro e w4 ⟨t, rfl, ht, hD4⟩; have hD5 := hD3.tr hD4; have hO5 := OwnK.weak (OwnK.but hO3 hD4.but hgl) hz; have hl5 := LowK.but hD5.but hg hl1))
  (apply ret_three Try.results8; (conv => lhs; whnf); (conv => lhs; whnf); (conv => lhs; whnf); exact rfl)
  exact ⟨x, v, L, t, rfl, hO5, hL, hl5⟩
set_option maxRecDepth 20000 in
set_option maxHeartbeats 16000000 in
theorem DrawTranslateOf_E (b : Option Addr) (n c : Nat) (w : World) (hC : CodeK w b n) (hn : n ≤ 4096) (hb : ∀ a, b = some a → a.block < w.heap.size) :
    Calls Try.prog 12 #[.slice b n c] w (DrewSet w) := by
  have tok : True := trivial
  go_enter Try.func12, Try.ntmps12
  go_wp2_with (first | (go_at_call 22; (with_reducible refine (From_S b n c _ hC hn hb).mono ?_); rintro e w1 ⟨g, rfl, hg, hS, hl1⟩; have hz := LowK.size hl1; have hgl := hS.lt) | (go_at_call 21; (with_reducible refine (DrawSet_E g b n c _ hS (fun a ha => by have := hb a ha; omega)).mono ?_); rintro e w2 ⟨x, v, L, rfl, hO, hL, hx1, hx2, hD⟩) | (have _t := tok; go_at_call 28; (with_reducible refine (Next_S g b n c _ _ hD.src (by omega)).mono ?_); rintro e w3 ⟨r, rfl, hr, hD2⟩; have hD3 := hD.tr hD2; have hO3 := OwnK.but hO hD2.but hgl; clear tok) | (go_at_call 28; (with_reducible refine (Next_S g b n c 2 _ hD3.src (by decide)).mono ?_); rintro e w4 ⟨t, rfl, ht, hD4⟩; have hD5 := hD3.tr hD4; have hO5 := OwnK.weak (OwnK.but hO3 hD4.but hgl) hz; have hl5 := LowK.but hD5.but hg hl1))
  (apply ret_three Try.results12; (conv => lhs; whnf); (conv => lhs; whnf); (conv => lhs; whnf); exact rfl)
  exact ⟨x, v, L, _, rfl, hO5, hL, hl5⟩
set_option maxRecDepth 20000 in
set_option maxHeartbeats 16000000 in
theorem DrawIncidenceRank_E (b : Option Addr) (n c : Nat) (w : World) (hC : CodeK w b n) (hn : n ≤ 4096) (hb : ∀ a, b = some a → a.block < w.heap.size) :
    Calls Try.prog 17 #[.slice b n c] w (fun e W => ∃ p q : Int, e = .returned (.tuple #[.int .i64 p, .int .i64 q]) ∧ p ∈ [3, 3, 5, 4] ∧ q ∈ [3, 5, 7, 13, 2] ∧ LowK w W) := by
  have tok : True := trivial
  go_enter Try.func17, Try.ntmps17
  go_wp2_with (first | (go_at_call 22; (with_reducible refine (From_S b n c _ hC hn hb).mono ?_); rintro e w1 ⟨g, rfl, hg, hS, hl1⟩; have hz := LowK.size hl1; have hgl := hS.lt) | (have _t := tok; go_at_call 35; have rw6 : RowK (w1.alloc (.cells #[.int .i64 3, .int .i64 3, .int .i64 5, .int .i64 4] 2)) w1.heap.size #[.int .i64 3, .int .i64 3, .int .i64 5, .int .i64 4] 2 := findRow; have hlw6 : LowK w1 (w1.alloc (.cells #[.int .i64 3, .int .i64 3, .int .i64 5, .int .i64 4] 2)) := findLow; have hD4 := (Drew.refl hS).low hlw6; (with_reducible refine (Pick_Q (· ∈ [3, 3, 5, 4]) g b n c _ 4 _ _ hD4.src (NumQ.ofL rw6 rfl) (by decide) (by decide)).mono ?_); rintro e w2 ⟨p, rfl, hp, hD5⟩; have hD6 := hD4.tr hD5; clear tok rw6 hlw6 hD5 hD4) | (go_at_call 35; have rw6 : RowK (w2.alloc (.cells #[.int .i64 3, .int .i64 5, .int .i64 7, .int .i64 13, .int .i64 2] 2)) w2.heap.size #[.int .i64 3, .int .i64 5, .int .i64 7, .int .i64 13, .int .i64 2] 2 := findRow; have hlw6 : LowK w2 (w2.alloc (.cells #[.int .i64 3, .int .i64 5, .int .i64 7, .int .i64 13, .int .i64 2] 2)) := findLow; have hD7 := hD6.low hlw6; (with_reducible refine (Pick_Q (· ∈ [3, 5, 7, 13, 2]) g b n c _ 5 _ _ hD7.src (NumQ.ofL rw6 rfl) (by decide) (by decide)).mono ?_); rintro e w3 ⟨q, rfl, hq, hD8⟩; have hD9 := hD7.tr hD8; have hl9 := LowK.but hD9.but hg hl1))
  (apply ret_two Try.results17; (conv => lhs; whnf); (conv => lhs; whnf); exact rfl)
  exact ⟨p, q, rfl, hp, hq, hl9⟩
end Go.Proofs.Ytbeeecahkchjnaa
/- Contracts: two lists of numbers compared: the library's Equal, the specification's l10Same. -- numbers -/
namespace Go.Proofs.Ytbeeecahkchjnaa
open Go.RowKit
set_option linter.unusedVariables false
set_option linter.unusedSimpArgs false
/-- The lists agree as far as this. -/
structure AgreeK (S1 S2 : List Int) (k : Nat) : Prop where
  out : ∀ j, j < k → S1.getD j 0 = S2.getD j 0
theorem AgreeK.next {S1 S2 : List Int} {k : Nat} (h : AgreeK S1 S2 k) (e : S1.getD k 0 = S2.getD k 0) : AgreeK S1 S2 (k + 1) := ⟨fun j hj => by
  rcases Nat.lt_or_ge j k with h1 | h1
  · exact h.out j h1
  · rw [show j = k by omega]; exact e⟩
theorem AgreeK.all {S1 S2 : List Int} {n : Nat} (h : AgreeK S1 S2 n) (h1 : S1.length = n) (h2 : S2.length = n) : S1 = S2 := by
  refine List.ext_getElem (by omega) fun i hi1 hi2 => ?_
  have := h.out i (by omega)
  simpa [List.getD, hi1, hi2] using this
theorem getD_ne {S1 S2 : List Int} {k : Nat} (h : S1.getD k 0 ≠ S2.getD k 0) : S1 ≠ S2 := fun e => h (by rw [e])
set_option maxHeartbeats 4000000 in
theorem Equal_any (b1 b2 : Option Addr) (n1 n2 c1 c2 : Nat) (S1 S2 : List Int) (w : World) (h1 : S1.length = n1) (h2 : S2.length = n2) (hm : n1 ≤ 1000000) (hm2 : n2 ≤ 1000000) (hA1 : ArgK w b1 n1 S1) (hA2 : ArgK w b2 n2 S2) :
    Calls Try.prog 49 #[.slice b1 n1 c1, .slice b2 n2 c2] w (Ret w (.bool (decide (S1 = S2)))) := by
  by_cases hn : n1 = n2
  · subst hn
    go_enter Try.func49, Try.ntmps49
    go_wp2_with (first | (refine wl_load ?_) | (refine wl_store ?_) | (refine wl_build ?_) | (refine wl_slice ?_) | (refine wl_append ?_; intro v' w' ho hg hb; have hs := hg.size; (try simp at hs); (try rw [ptCs_end] at ho); (try rw [ints_end] at ho); (try simp only [Nat.zero_add, Nat.reduceAdd, List.nil_append, List.cons_append] at ho)) | ((with_reducible apply region_gd (id := 6)); refine region_QA (id := 6) 9 ?_; apply Exists.intro; refine ⟨fun G => ?_, fun W hl => ?_⟩; (· (simp only [List.take_succ_cons, List.take_zero]; (repeat (first | go_big_quiet_skip | (go_big_quiet_want; first | (refine q_load ?_; simp only [Act.put, List.setIfInBounds_toArray, List.set_cons_zero, List.set_cons_succ]; go_big_quiet_on) | (go_big_quiet_op; first | go_big_quiet_on)))); exact rfl)); have hs := hl.out.size; (try simp at hs); simp only [List.drop_succ_cons, List.drop_zero]))
    go_loopw [13] (fun i wr => ∃ k : Nat, k ≤ n1 ∧ i = .int .i64 (k : Int) ∧ AgreeK S1 S2 k ∧ LowK w wr ∧ ArgK wr b1 n1 S1 ∧ ArgK wr b2 n1 S2) (fun i wr => n1 - (intOf i).toNat)
    case atStart => exact ⟨0, Nat.zero_le _, rfl, ⟨fun j hj => absurd hj (Nat.not_lt_zero _)⟩, LowK.refl _, hA1, hA2⟩
    case round =>
      obtain ⟨k, hk, rfl, hD, hV, hB1, hB2⟩ := hrel
      by_cases hlt : k < n1
      · obtain ⟨g1, rfl, hI1⟩ := hB1.out (by omega)
        obtain ⟨g2, rfl, hI2⟩ := hB2.out (by omega)
        obtain ⟨x, hx⟩ : ∃ x, S1.getD k 0 = x := ⟨_, rfl⟩
        obtain ⟨y, hy⟩ : ∃ y, S2.getD k 0 = y := ⟨_, rfl⟩
        by_cases hxy : x = y
        · subst hxy
          have hD2 := hD.next (hx.trans hy.symm)
          go_wp2_with (first | (refine wl_load ?_) | (refine wl_store ?_) | (refine wl_build ?_) | (refine wl_slice ?_) | (refine wl_append ?_; intro v' w' ho hg hb; have hs := hg.size; (try simp at hs); (try rw [ptCs_end] at ho); (try rw [ints_end] at ho); (try simp only [Nat.zero_add, Nat.reduceAdd, List.nil_append, List.cons_append] at ho)) | ((with_reducible apply region_gd (id := 6)); refine region_QA (id := 6) 9 ?_; apply Exists.intro; refine ⟨fun G => ?_, fun W hl => ?_⟩; (· (simp only [List.take_succ_cons, List.take_zero]; (repeat (first | go_big_quiet_skip | (go_big_quiet_want; first | (refine q_load ?_; simp only [Act.put, List.setIfInBounds_toArray, List.set_cons_zero, List.set_cons_succ]; go_big_quiet_on) | (go_big_quiet_op; first | go_big_quiet_on)))); exact rfl)); have hs := hl.out.size; (try simp at hs); simp only [List.drop_succ_cons, List.drop_zero]))
          go_roundw
          case rel => exact ⟨k + 1, by omega, by go_num, hD2, findLow, ⟨fun _ => ⟨g1, rfl, findInts⟩⟩, ⟨fun _ => ⟨g2, rfl, findInts⟩⟩⟩
          case measure => (simp [intOf]; try omega)
        · have hne : S1 ≠ S2 := getD_ne (k := k) (by rw [hx, hy]; exact hxy)
          have hb : (x != y) = true := by simpa using hxy
          go_wp2_with (first | (refine wl_load ?_) | (refine wl_store ?_) | (refine wl_build ?_) | (refine wl_slice ?_) | (refine wl_append ?_; intro v' w' ho hg hb; have hs := hg.size; (try simp at hs); (try rw [ptCs_end] at ho); (try rw [ints_end] at ho); (try simp only [Nat.zero_add, Nat.reduceAdd, List.nil_append, List.cons_append] at ho)) | ((with_reducible apply region_gd (id := 6)); refine region_QA (id := 6) 9 ?_; apply Exists.intro; refine ⟨fun G => ?_, fun W hl => ?_⟩; (· (simp only [List.take_succ_cons, List.take_zero]; (repeat (first | go_big_quiet_skip | (go_big_quiet_want; first | (refine q_load ?_; simp only [Act.put, List.setIfInBounds_toArray, List.set_cons_zero, List.set_cons_succ]; go_big_quiet_on) | (go_big_quiet_op; first | go_big_quiet_on)))); exact rfl)); have hs := hl.out.size; (try simp at hs); simp only [List.drop_succ_cons, List.drop_zero]))
          (first | (go_ret; refine ⟨?_, LowK.out findLow⟩; first | exact rfl | skip) | (apply ret_rowT Try.results49; exact rfl; exact rfl; (exact findRow); exact rfl; (first | exact Try.sizeOf61 | exact Try.sizeOf63 | exact Try.sizeOf77); (first | exact Try.isAgg61 | exact Try.isAgg63 | exact Try.isAgg77); exact rfl; refine ret_ret ?_ findLow; first | exact rfl | skip) | (apply ret_row Try.results49; exact rfl; (exact findRow); exact rfl; (first | exact Try.sizeOf61 | exact Try.sizeOf63 | exact Try.sizeOf77); (first | exact Try.isAgg61 | exact Try.isAgg63 | exact Try.isAgg77); exact rfl; refine ret_ret ?_ findLow; first | exact rfl | skip))
          simp [hne]
      · obtain rfl : k = n1 := by omega
        have he := hD.all h1 h2
        go_wp2_with (first | (refine wl_load ?_) | (refine wl_store ?_) | (refine wl_build ?_) | (refine wl_slice ?_) | (refine wl_append ?_; intro v' w' ho hg hb; have hs := hg.size; (try simp at hs); (try rw [ptCs_end] at ho); (try rw [ints_end] at ho); (try simp only [Nat.zero_add, Nat.reduceAdd, List.nil_append, List.cons_append] at ho)) | ((with_reducible apply region_gd (id := 6)); refine region_QA (id := 6) 9 ?_; apply Exists.intro; refine ⟨fun G => ?_, fun W hl => ?_⟩; (· (simp only [List.take_succ_cons, List.take_zero]; (repeat (first | go_big_quiet_skip | (go_big_quiet_want; first | (refine q_load ?_; simp only [Act.put, List.setIfInBounds_toArray, List.set_cons_zero, List.set_cons_succ]; go_big_quiet_on) | (go_big_quiet_op; first | go_big_quiet_on)))); exact rfl)); have hs := hl.out.size; (try simp at hs); simp only [List.drop_succ_cons, List.drop_zero]))
        (first | (go_ret; refine ⟨?_, LowK.out findLow⟩; first | exact rfl | skip) | (apply ret_rowT Try.results49; exact rfl; exact rfl; (exact findRow); exact rfl; (first | exact Try.sizeOf61 | exact Try.sizeOf63 | exact Try.sizeOf77); (first | exact Try.isAgg61 | exact Try.isAgg63 | exact Try.isAgg77); exact rfl; refine ret_ret ?_ findLow; first | exact rfl | skip) | (apply ret_row Try.results49; exact rfl; (exact findRow); exact rfl; (first | exact Try.sizeOf61 | exact Try.sizeOf63 | exact Try.sizeOf77); (first | exact Try.isAgg61 | exact Try.isAgg63 | exact Try.isAgg77); exact rfl; refine ret_ret ?_ findLow; first | exact rfl | skip))
        simp [he]
  · have hne : S1 ≠ S2 := fun e => hn (by rw [← h1, ← h2, e])
    have hz : ¬ (n1 : Int) = n2 := by omega
    go_enter Try.func49, Try.ntmps49
    go_wp2_with (first | (refine wl_load ?_) | (refine wl_store ?_) | (refine wl_build ?_) | (refine wl_slice ?_) | (refine wl_append ?_; intro v' w' ho hg hb; have hs := hg.size; (try simp at hs); (try rw [ptCs_end] at ho); (try rw [ints_end] at ho); (try simp only [Nat.zero_add, Nat.reduceAdd, List.nil_append, List.cons_append] at ho)) | ((with_reducible apply region_gd (id := 6)); refine region_QA (id := 6) 9 ?_; apply Exists.intro; refine ⟨fun G => ?_, fun W hl => ?_⟩; (· (simp only [List.take_succ_cons, List.take_zero]; (repeat (first | go_big_quiet_skip | (go_big_quiet_want; first | (refine q_load ?_; simp only [Act.put, List.setIfInBounds_toArray, List.set_cons_zero, List.set_cons_succ]; go_big_quiet_on) | (go_big_quiet_op; first | go_big_quiet_on)))); exact rfl)); have hs := hl.out.size; (try simp at hs); simp only [List.drop_succ_cons, List.drop_zero]))
    (first | (go_ret; refine ⟨?_, LowK.out findLow⟩; first | exact rfl | skip) | (apply ret_rowT Try.results49; exact rfl; exact rfl; (exact findRow); exact rfl; (first | exact Try.sizeOf61 | exact Try.sizeOf63 | exact Try.sizeOf77); (first | exact Try.isAgg61 | exact Try.isAgg63 | exact Try.isAgg77); exact rfl; refine ret_ret ?_ findLow; first | exact rfl | skip) | (apply ret_row Try.results49; exact rfl; (exact findRow); exact rfl; (first | exact Try.sizeOf61 | exact Try.sizeOf63 | exact Try.sizeOf77); (first | exact Try.isAgg61 | exact Try.isAgg63 | exact Try.isAgg77); exact rfl; refine ret_ret ?_ findLow; first | exact rfl | skip))
    simp [hne]
set_option maxHeartbeats 4000000 in
theorem l10Same_any (b1 b2 : Option Addr) (n1 n2 c1 c2 : Nat) (S1 S2 : List Int) (w : World) (h1 : S1.length = n1) (h2 : S2.length = n2) (hm : n1 ≤ 1000000) (hm2 : n2 ≤ 1000000) (hA1 : ArgK w b1 n1 S1) (hA2 : ArgK w b2 n2 S2) :
    Calls Try.prog 50 #[.slice b1 n1 c1, .slice b2 n2 c2] w (Ret w (.bool (decide (S1 = S2)))) := by
  by_cases hn : n1 = n2
  · subst hn
    go_enter Try.func50, Try.ntmps50
    go_wp2_with (first | (refine wl_load ?_) | (refine wl_store ?_) | (refine wl_build ?_) | (refine wl_slice ?_) | (refine wl_append ?_; intro v' w' ho hg hb; have hs := hg.size; (try simp at hs); (try rw [ptCs_end] at ho); (try rw [ints_end] at ho); (try simp only [Nat.zero_add, Nat.reduceAdd, List.nil_append, List.cons_append] at ho)) | ((with_reducible apply region_gd (id := 4)); refine region_QA (id := 4) 9 ?_; apply Exists.intro; refine ⟨fun G => ?_, fun W hl => ?_⟩; (· (simp only [List.take_succ_cons, List.take_zero]; (repeat (first | go_big_quiet_skip | (go_big_quiet_want; first | (refine q_load ?_; simp only [Act.put, List.setIfInBounds_toArray, List.set_cons_zero, List.set_cons_succ]; go_big_quiet_on) | (go_big_quiet_op; first | go_big_quiet_on)))); exact rfl)); have hs := hl.out.size; (try simp at hs); simp only [List.drop_succ_cons, List.drop_zero]))
    go_loopw [5] (fun i wr => ∃ k : Nat, k ≤ n1 ∧ i = .int .i64 (k : Int) ∧ AgreeK S1 S2 k ∧ LowK w wr ∧ ArgK wr b1 n1 S1 ∧ ArgK wr b2 n1 S2) (fun i wr => n1 - (intOf i).toNat)
    case atStart => exact ⟨0, Nat.zero_le _, rfl, ⟨fun j hj => absurd hj (Nat.not_lt_zero _)⟩, LowK.refl _, hA1, hA2⟩
    case round =>
      obtain ⟨k, hk, rfl, hD, hV, hB1, hB2⟩ := hrel
      by_cases hlt : k < n1
      · obtain ⟨g1, rfl, hI1⟩ := hB1.out (by omega)
        obtain ⟨g2, rfl, hI2⟩ := hB2.out (by omega)
        obtain ⟨x, hx⟩ : ∃ x, S1.getD k 0 = x := ⟨_, rfl⟩
        obtain ⟨y, hy⟩ : ∃ y, S2.getD k 0 = y := ⟨_, rfl⟩
        by_cases hxy : x = y
        · subst hxy
          have hD2 := hD.next (hx.trans hy.symm)
          go_wp2_with (first | (refine wl_load ?_) | (refine wl_store ?_) | (refine wl_build ?_) | (refine wl_slice ?_) | (refine wl_append ?_; intro v' w' ho hg hb; have hs := hg.size; (try simp at hs); (try rw [ptCs_end] at ho); (try rw [ints_end] at ho); (try simp only [Nat.zero_add, Nat.reduceAdd, List.nil_append, List.cons_append] at ho)) | ((with_reducible apply region_gd (id := 4)); refine region_QA (id := 4) 9 ?_; apply Exists.intro; refine ⟨fun G => ?_, fun W hl => ?_⟩; (· (simp only [List.take_succ_cons, List.take_zero]; (repeat (first | go_big_quiet_skip | (go_big_quiet_want; first | (refine q_load ?_; simp only [Act.put, List.setIfInBounds_toArray, List.set_cons_zero, List.set_cons_succ]; go_big_quiet_on) | (go_big_quiet_op; first | go_big_quiet_on)))); exact rfl)); have hs := hl.out.size; (try simp at hs); simp only [List.drop_succ_cons, List.drop_zero]))
          go_roundw
          case rel => exact ⟨k + 1, by omega, by go_num, hD2, findLow, ⟨fun _ => ⟨g1, rfl, findInts⟩⟩, ⟨fun _ => ⟨g2, rfl, findInts⟩⟩⟩
          case measure => (simp [intOf]; try omega)
        · have hne : S1 ≠ S2 := getD_ne (k := k) (by rw [hx, hy]; exact hxy)
          have hb : (x != y) = true := by simpa using hxy
          go_wp2_with (first | (refine wl_load ?_) | (refine wl_store ?_) | (refine wl_build ?_) | (refine wl_slice ?_) | (refine wl_append ?_; intro v' w' ho hg hb; have hs := hg.size; (try simp at hs); (try rw [ptCs_end] at ho); (try rw [ints_end] at ho); (try simp only [Nat.zero_add, Nat.reduceAdd, List.nil_append, List.cons_append] at ho)) | ((with_reducible apply region_gd (id := 4)); refine region_QA (id := 4) 9 ?_; apply Exists.intro; refine ⟨fun G => ?_, fun W hl => ?_⟩; (· (simp only [List.take_succ_cons, List.take_zero]; (repeat (first | go_big_quiet_skip | (go_big_quiet_want; first | (refine q_load ?_; simp only [Act.put, List.setIfInBounds_toArray, List.set_cons_zero, List.set_cons_succ]; go_big_quiet_on) | (go_big_quiet_op; first | go_big_quiet_on)))); exact rfl)); have hs := hl.out.size; (try simp at hs); simp only [List.drop_succ_cons, List.drop_zero]))
          (first | (go_ret; refine ⟨?_, LowK.out findLow⟩; first | exact rfl | skip) | (apply ret_rowT Try.results50; exact rfl; exact rfl; (exact findRow); exact rfl; (first | exact Try.sizeOf61 | exact Try.sizeOf63 | exact Try.sizeOf77); (first | exact Try.isAgg61 | exact Try.isAgg63 | exact Try.isAgg77); exact rfl; refine ret_ret ?_ findLow; first | exact rfl | skip) | (apply ret_row Try.results50; exact rfl; (exact findRow); exact rfl; (first | exact Try.sizeOf61 | exact Try.sizeOf63 | exact Try.sizeOf77); (first | exact Try.isAgg61 | exact Try.isAgg63 | exact Try.isAgg77); exact rfl; refine ret_ret ?_ findLow; first | exact rfl | skip))
          simp [hne]
      · obtain rfl : k = n1 := by omega
        have he := hD.all h1 h2
        go_wp2_with (first | (refine wl_load ?_) | (refine wl_store ?_) | (refine wl_build ?_) | (refine wl_slice ?_) | (refine wl_append ?_; intro v' w' ho hg hb; have hs := hg.size; (try simp at hs); (try rw [ptCs_end] at ho); (try rw [ints_end] at ho); (try simp only [Nat.zero_add, Nat.reduceAdd, List.nil_append, List.cons_append] at ho)) | ((with_reducible apply region_gd (id := 4)); refine region_QA (id := 4) 9 ?_; apply Exists.intro; refine ⟨fun G => ?_, fun W hl => ?_⟩; (· (simp only [List.take_succ_cons, List.take_zero]; (repeat (first | go_big_quiet_skip | (go_big_quiet_want; first | (refine q_load ?_; simp only [Act.put, List.setIfInBounds_toArray, List.set_cons_zero, List.set_cons_succ]; go_big_quiet_on) | (go_big_quiet_op; first | go_big_quiet_on)))); exact rfl)); have hs := hl.out.size; (try simp at hs); simp only [List.drop_succ_cons, List.drop_zero]))
        (first | (go_ret; refine ⟨?_, LowK.out findLow⟩; first | exact rfl | skip) | (apply ret_rowT Try.results50; exact rfl; exact rfl; (exact findRow); exact rfl; (first | exact Try.sizeOf61 | exact Try.sizeOf63 | exact Try.sizeOf77); (first | exact Try.isAgg61 | exact Try.isAgg63 | exact Try.isAgg77); exact rfl; refine ret_ret ?_ findLow; first | exact rfl | skip) | (apply ret_row Try.results50; exact rfl; (exact findRow); exact rfl; (first | exact Try.sizeOf61 | exact Try.sizeOf63 | exact Try.sizeOf77); (first | exact Try.isAgg61 | exact Try.isAgg63 | exact Try.isAgg77); exact rfl; refine ret_ret ?_ findLow; first | exact rfl | skip))
        simp [he]
  · have hne : S1 ≠ S2 := fun e => hn (by rw [← h1, ← h2, e])
    have hz : ¬ (n1 : Int) = n2 := by omega
    go_enter Try.func50, Try.ntmps50
    go_wp2_with (first | (refine wl_load ?_) | (refine wl_store ?_) | (refine wl_build ?_) | (refine wl_slice ?_) | (refine wl_append ?_; intro v' w' ho hg hb; have hs := hg.size; (try simp at hs); (try rw [ptCs_end] at ho); (try rw [ints_end] at ho); (try simp only [Nat.zero_add, Nat.reduceAdd, List.nil_append, List.cons_append] at ho)) | ((with_reducible apply region_gd (id := 4)); refine region_QA (id := 4) 9 ?_; apply Exists.intro; refine ⟨fun G => ?_, fun W hl => ?_⟩; (· (simp only [List.take_succ_cons, List.take_zero]; (repeat (first | go_big_quiet_skip | (go_big_quiet_want; first | (refine q_load ?_; simp only [Act.put, List.setIfInBounds_toArray, List.set_cons_zero, List.set_cons_succ]; go_big_quiet_on) | (go_big_quiet_op; first | go_big_quiet_on)))); exact rfl)); have hs := hl.out.size; (try simp at hs); simp only [List.drop_succ_cons, List.drop_zero]))
    go_loopw [5] (fun i wr => i = .int .i64 0 ∧ LowK w wr) (fun i wr => 0)
    case atStart => exact ⟨rfl, LowK.refl _⟩
    case round =>
      obtain ⟨rfl, hV⟩ := hrel
      by_cases h0 : 0 < n1
      · have h0z : (0 : Int) < n1 := by omega
        go_wp2_with (first | (refine wl_load ?_) | (refine wl_store ?_) | (refine wl_build ?_) | (refine wl_slice ?_) | (refine wl_append ?_; intro v' w' ho hg hb; have hs := hg.size; (try simp at hs); (try rw [ptCs_end] at ho); (try rw [ints_end] at ho); (try simp only [Nat.zero_add, Nat.reduceAdd, List.nil_append, List.cons_append] at ho)) | ((with_reducible apply region_gd (id := 4)); refine region_QA (id := 4) 9 ?_; apply Exists.intro; refine ⟨fun G => ?_, fun W hl => ?_⟩; (· (simp only [List.take_succ_cons, List.take_zero]; (repeat (first | go_big_quiet_skip | (go_big_quiet_want; first | (refine q_load ?_; simp only [Act.put, List.setIfInBounds_toArray, List.set_cons_zero, List.set_cons_succ]; go_big_quiet_on) | (go_big_quiet_op; first | go_big_quiet_on)))); exact rfl)); have hs := hl.out.size; (try simp at hs); simp only [List.drop_succ_cons, List.drop_zero]))
        (first | (go_ret; refine ⟨?_, LowK.out findLow⟩; first | exact rfl | skip) | (apply ret_rowT Try.results50; exact rfl; exact rfl; (exact findRow); exact rfl; (first | exact Try.sizeOf61 | exact Try.sizeOf63 | exact Try.sizeOf77); (first | exact Try.isAgg61 | exact Try.isAgg63 | exact Try.isAgg77); exact rfl; refine ret_ret ?_ findLow; first | exact rfl | skip) | (apply ret_row Try.results50; exact rfl; (exact findRow); exact rfl; (first | exact Try.sizeOf61 | exact Try.sizeOf63 | exact Try.sizeOf77); (first | exact Try.isAgg61 | exact Try.isAgg63 | exact Try.isAgg77); exact rfl; refine ret_ret ?_ findLow; first | exact rfl | skip))
        simp [hne, hn]
      · obtain rfl : n1 = 0 := by omega
        go_wp2_with (first | (refine wl_load ?_) | (refine wl_store ?_) | (refine wl_build ?_) | (refine wl_slice ?_) | (refine wl_append ?_; intro v' w' ho hg hb; have hs := hg.size; (try simp at hs); (try rw [ptCs_end] at ho); (try rw [ints_end] at ho); (try simp only [Nat.zero_add, Nat.reduceAdd, List.nil_append, List.cons_append] at ho)) | ((with_reducible apply region_gd (id := 4)); refine region_QA (id := 4) 9 ?_; apply Exists.intro; refine ⟨fun G => ?_, fun W hl => ?_⟩; (· (simp only [List.take_succ_cons, List.take_zero]; (repeat (first | go_big_quiet_skip | (go_big_quiet_want; first | (refine q_load ?_; simp only [Act.put, List.setIfInBounds_toArray, List.set_cons_zero, List.set_cons_succ]; go_big_quiet_on) | (go_big_quiet_op; first | go_big_quiet_on)))); exact rfl)); have hs := hl.out.size; (try simp at hs); simp only [List.drop_succ_cons, List.drop_zero]))
        (first | (go_ret; refine ⟨?_, LowK.out findLow⟩; first | exact rfl | skip) | (apply ret_rowT Try.results50; exact rfl; exact rfl; (exact findRow); exact rfl; (first | exact Try.sizeOf61 | exact Try.sizeOf63 | exact Try.sizeOf77); (first | exact Try.isAgg61 | exact Try.isAgg63 | exact Try.isAgg77); exact rfl; refine ret_ret ?_ findLow; first | exact rfl | skip) | (apply ret_row Try.results50; exact rfl; (exact findRow); exact rfl; (first | exact Try.sizeOf61 | exact Try.sizeOf63 | exact Try.sizeOf77); (first | exact Try.isAgg61 | exact Try.isAgg63 | exact Try.isAgg77); exact rfl; refine ret_ret ?_ findLow; first | exact rfl | skip))
        simp [hne]; omega
theorem Equal_b (b1 b2 : Option Addr) (n1 n2 c1 c2 : Nat) (S1 S2 : List Int) (w : World) (v : Bool) (hv : decide (S1 = S2) = v) (h1 : S1.length = n1) (h2 : S2.length = n2) (hm : n1 ≤ 1000000) (hm2 : n2 ≤ 1000000) (hA1 : ArgK w b1 n1 S1) (hA2 : ArgK w b2 n2 S2) :
    Calls Try.prog 49 #[.slice b1 n1 c1, .slice b2 n2 c2] w (Ret w (.bool v)) := by
  rw [← hv]; exact Equal_any b1 b2 n1 n2 c1 c2 S1 S2 w h1 h2 hm hm2 hA1 hA2
theorem l10Same_b (b1 b2 : Option Addr) (n1 n2 c1 c2 : Nat) (S1 S2 : List Int) (w : World) (v : Bool) (hv : decide (S1 = S2) = v) (h1 : S1.length = n1) (h2 : S2.length = n2) (hm : n1 ≤ 1000000) (hm2 : n2 ≤ 1000000) (hA1 : ArgK w b1 n1 S1) (hA2 : ArgK w b2 n2 S2) :
    Calls Try.prog 50 #[.slice b1 n1 c1, .slice b2 n2 c2] w (Ret w (.bool v)) := by
  rw [← hv]; exact l10Same_any b1 b2 n1 n2 c1 c2 S1 S2 w h1 h2 hm hm2 hA1 hA2
theorem findArg {W : World} {b : Option Addr} {n : Nat} {l : List Int} (h : ArgK W b n l := by repeat (first | with_reducible assumption | (apply ArgK.link; (· with_reducible assumption)) | with_reducible apply ArgK.alloc)) : ArgK W b n l := h
end Go.Proofs.Ytbeeecahkchjnaa
/- Contracts: the least translate that a multiple of a set is. -- numbers -/
namespace Go.Proofs.Ytbeeecahkchjnaa
open Go.RowKit
set_option linter.unusedVariables false
set_option linter.unusedSimpArgs false
def hitB (n m : Int) (l : List Int) (t : Nat) : Bool := decide (sortN (movN n 1 t l) = sortN (movN n m 0 l))
def shiftI (n m : Int) (l : List Int) : Int := match (List.range n.toNat).find? (hitB n m l) with | some t => (t : Int) | none => -1
structure MissK (n m : Int) (l : List Int) (k : Nat) : Prop where
  out : ∀ j, j < k → hitB n m l j = false
theorem shiftI_at {n m : Int} {l : List Int} {k : Nat} (h : MissK n m l k) (hk : (k : Int) < n) (hh : hitB n m l k = true) : shiftI n m l = k := by
  have : (List.range n.toNat).find? (hitB n m l) = some k := by
    rw [List.find?_range_eq_some]
    exact ⟨hh, by simp; omega, fun j hj => by simp [h.out j hj]⟩
  unfold shiftI; rw [this]
theorem shiftI_no {n m : Int} {l : List Int} {k : Nat} (h : MissK n m l k) (hk : (k : Int) = n) : shiftI n m l = -1 := by
  have : (List.range n.toNat).find? (hitB n m l) = none := by
    rw [List.find?_eq_none]
    intro j hj
    simp at hj
    simp [h.out j (by omega)]
  unfold shiftI; rw [this]
theorem sml (n m t : Int) (l : List Int) : (sortN (movN n m t l)).length = l.length := by rw [sortN_length, movN_length]
set_option maxRecDepth 20000 in
set_option maxHeartbeats 4000000 in
theorem translateOf_any (n m : Int) (b : Option Addr) (c : Nat) (l : List Int) (w : World) (n2 : 2 ≤ n) (n1 : n ≤ 1000) (m0 : 0 ≤ m) (m1 : m < n) (hb : ∀ k ∈ l, 0 ≤ k ∧ k < n) (hl : l.length ≤ 1000) (hP : ArgK w b l.length l) :
    Calls Try.prog 33 #[.int .i64 n, .slice b l.length c, .int .i64 m] w (Ret w (.int .i64 (shiftI n m l))) := by
  have HB := Lib.hid hb
  clear hb
  go_enter Try.func33, Try.ntmps33
  go_wp2_with (first | (refine wl_load ?_) | (refine wl_store ?_) | (refine wl_build ?_) | (refine wl_slice ?_) | (refine wl_append ?_; intro v' w' ho hg hb; have hs := hg.size; (try simp at hs); (try rw [ptCs_end] at ho); (try rw [ints_end] at ho); (try simp only [Nat.zero_add, Nat.reduceAdd, List.nil_append, List.cons_append] at ho)) | (go_at_call 30; (with_reducible refine (moved_any n m 0 b c l _ n2 n1 m0 m1 (by omega) (by omega) HB.out hl findArg).mono ?_); rintro e w' ⟨v, rfl, hO, hb⟩; obtain ⟨b2, c2, rfl, hG⟩ := hO.arg rfl; rw [sml] at hG hO; (simp only [sml]); have hl2 := Link.mk hb; have hs := hb.size; clear hb))
  go_loopw [14] (fun i wr => ∃ k : Nat, (k : Int) ≤ n ∧ i = .int .i64 (k : Int) ∧ MissK n m l k ∧ LowK w wr ∧ ArgK wr b l.length l ∧ ArgK wr b2 l.length (sortN (movN n m 0 l))) (fun i wr => n.toNat - (intOf i).toNat)
  case atStart => exact ⟨0, by omega, rfl, ⟨fun j hj => absurd hj (Nat.not_lt_zero _)⟩, findLow, findArg, findArg⟩
  case round =>
    obtain ⟨k, hk, rfl, hM, hV, hA, hB2⟩ := hrel
    have hsz := hV.size
    by_cases hlt : (k : Int) < n
    · have hkz : (0 : Int) ≤ k := by omega
      rcases hh : hitB n m l k with _ | _
      · have hh2 : decide (sortN (movN n 1 k l) = sortN (movN n m 0 l)) = false := hh
        go_wp2_with (first | (refine wl_load ?_) | (refine wl_store ?_) | (refine wl_build ?_) | (refine wl_slice ?_) | (refine wl_append ?_; intro v' w' ho hg hb; have hs := hg.size; (try simp at hs); (try rw [ptCs_end] at ho); (try rw [ints_end] at ho); (try simp only [Nat.zero_add, Nat.reduceAdd, List.nil_append, List.cons_append] at ho)) | (go_at_call 30; (with_reducible refine (moved_any n 1 k b c l _ n2 n1 (by omega) (by omega) (by omega) (by omega) HB.out hl findArg).mono ?_); rintro e w' ⟨v, rfl, hO, hb⟩; obtain ⟨b3, c3, rfl, hG3⟩ := hO.arg rfl; rw [sml] at hG3 hO; (simp only [sml]); have hl2 := Link.mk hb; have hs := hb.size; clear hb hO) | (go_at_call 49; (with_reducible refine (Equal_b _ _ _ _ _ _ _ _ _ false hh2 (sml _ _ _ _) (sml _ _ _ _) (by omega) (by omega) findArg findArg).mono ?_); rintro e w' ⟨rfl, hb⟩; have hl := Link.mk hb; have hs := hb.size; (try simp at hs); clear hb))
        go_roundw
        case rel => exact ⟨k + 1, by omega, by go_num, ⟨fun j hj => by
          rcases Nat.lt_or_ge j k with h1 | h1
          · exact hM.out j h1
          · rw [show j = k by omega]; exact hh⟩, findLow, findArg, findArg⟩
        case measure => (simp [intOf]; try omega)
      · have hh2 : decide (sortN (movN n 1 k l) = sortN (movN n m 0 l)) = true := hh
        go_wp2_with (first | (refine wl_load ?_) | (refine wl_store ?_) | (refine wl_build ?_) | (refine wl_slice ?_) | (refine wl_append ?_; intro v' w' ho hg hb; have hs := hg.size; (try simp at hs); (try rw [ptCs_end] at ho); (try rw [ints_end] at ho); (try simp only [Nat.zero_add, Nat.reduceAdd, List.nil_append, List.cons_append] at ho)) | (go_at_call 30; (with_reducible refine (moved_any n 1 k b c l _ n2 n1 (by omega) (by omega) (by omega) (by omega) HB.out hl findArg).mono ?_); rintro e w' ⟨v, rfl, hO, hb⟩; obtain ⟨b3, c3, rfl, hG3⟩ := hO.arg rfl; rw [sml] at hG3 hO; (simp only [sml]); have hl2 := Link.mk hb; have hs := hb.size; clear hb hO) | (go_at_call 49; (with_reducible refine (Equal_b _ _ _ _ _ _ _ _ _ true hh2 (sml _ _ _ _) (sml _ _ _ _) (by omega) (by omega) findArg findArg).mono ?_); rintro e w' ⟨rfl, hb⟩; have hl := Link.mk hb; have hs := hb.size; (try simp at hs); clear hb))
        (first | (go_ret; refine ⟨?_, LowK.out findLow⟩; first | exact rfl | skip) | (apply ret_rowT Try.results33; exact rfl; exact rfl; (exact findRow); exact rfl; (first | exact Try.sizeOf61 | exact Try.sizeOf63 | exact Try.sizeOf77); (first | exact Try.isAgg61 | exact Try.isAgg63 | exact Try.isAgg77); exact rfl; refine ret_ret ?_ findLow; first | exact rfl | skip) | (apply ret_row Try.results33; exact rfl; (exact findRow); exact rfl; (first | exact Try.sizeOf61 | exact Try.sizeOf63 | exact Try.sizeOf77); (first | exact Try.isAgg61 | exact Try.isAgg63 | exact Try.isAgg77); exact rfl; refine ret_ret ?_ findLow; first | exact rfl | skip))
        rw [shiftI_at hM hlt hh]; rfl
    · have hkn : (k : Int) = n := by omega
      go_wp2_with (first | (refine wl_load ?_) | (refine wl_store ?_) | (refine wl_build ?_) | (refine wl_slice ?_) | (refine wl_append ?_; intro v' w' ho hg hb; have hs := hg.size; (try simp at hs); (try rw [ptCs_end] at ho); (try rw [ints_end] at ho); (try simp only [Nat.zero_add, Nat.reduceAdd, List.nil_append, List.cons_append] at ho)))
      (first | (go_ret; refine ⟨?_, LowK.out findLow⟩; first | exact rfl | skip) | (apply ret_rowT Try.results33; exact rfl; exact rfl; (exact findRow); exact rfl; (first | exact Try.sizeOf61 | exact Try.sizeOf63 | exact Try.sizeOf77); (first | exact Try.isAgg61 | exact Try.isAgg63 | exact Try.isAgg77); exact rfl; refine ret_ret ?_ findLow; first | exact rfl | skip) | (apply ret_row Try.results33; exact rfl; (exact findRow); exact rfl; (first | exact Try.sizeOf61 | exact Try.sizeOf63 | exact Try.sizeOf77); (first | exact Try.isAgg61 | exact Try.isAgg63 | exact Try.isAgg77); exact rfl; refine ret_ret ?_ findLow; first | exact rfl | skip))
      rw [shiftI_no hM hkn]; rfl
/-- The specification's pair: the shift, and whether there is one. -/
def shiftV (n m : Int) (l : List Int) : Value := if 0 ≤ shiftI n m l then .tuple #[.int .i64 (shiftI n m l), .bool true] else .tuple #[.int .i64 0, .bool false]
set_option maxRecDepth 20000 in
set_option maxHeartbeats 4000000 in
theorem l10Shift_any (n m : Int) (b : Option Addr) (c : Nat) (l : List Int) (w : World) (n2 : 2 ≤ n) (n1 : n ≤ 1000) (m0 : 0 ≤ m) (m1 : m < n) (hb : ∀ k ∈ l, 0 ≤ k ∧ k < n) (hl : l.length ≤ 1000) (hP : ArgK w b l.length l) :
    Calls Try.prog 34 #[.int .i64 n, .slice b l.length c, .int .i64 m] w (Ret w (shiftV n m l)) := by
  have HB := Lib.hid hb
  clear hb
  go_enter Try.func34, Try.ntmps34
  go_wp2_with (first | (refine wl_load ?_) | (refine wl_store ?_) | (refine wl_build ?_) | (refine wl_slice ?_) | (refine wl_append ?_; intro v' w' ho hg hb; have hs := hg.size; (try simp at hs); (try rw [ptCs_end] at ho); (try rw [ints_end] at ho); (try simp only [Nat.zero_add, Nat.reduceAdd, List.nil_append, List.cons_append] at ho)) | (go_at_call 32; (with_reducible refine (l10Moved_any n m 0 b c l _ n2 n1 m0 m1 (by omega) (by omega) HB.out hl findArg).mono ?_); rintro e w' ⟨v, rfl, hO, hb⟩; obtain ⟨b2, c2, rfl, hG⟩ := hO.arg rfl; rw [sml] at hG hO; (simp only [sml]); have hl2 := Link.mk hb; have hs := hb.size; clear hb))
  go_loopw [9] (fun i wr => ∃ k : Nat, (k : Int) ≤ n ∧ i = .int .i64 (k : Int) ∧ MissK n m l k ∧ LowK w wr ∧ ArgK wr b l.length l ∧ ArgK wr b2 l.length (sortN (movN n m 0 l))) (fun i wr => n.toNat - (intOf i).toNat)
  case atStart => exact ⟨0, by omega, rfl, ⟨fun j hj => absurd hj (Nat.not_lt_zero _)⟩, findLow, findArg, findArg⟩
  case round =>
    obtain ⟨k, hk, rfl, hM, hV, hA, hB2⟩ := hrel
    have hsz := hV.size
    by_cases hlt : (k : Int) < n
    · have hkz : (0 : Int) ≤ k := by omega
      rcases hh : hitB n m l k with _ | _
      · have hh2 : decide (sortN (movN n 1 k l) = sortN (movN n m 0 l)) = false := hh
        go_wp2_with (first | (refine wl_load ?_) | (refine wl_store ?_) | (refine wl_build ?_) | (refine wl_slice ?_) | (refine wl_append ?_; intro v' w' ho hg hb; have hs := hg.size; (try simp at hs); (try rw [ptCs_end] at ho); (try rw [ints_end] at ho); (try simp only [Nat.zero_add, Nat.reduceAdd, List.nil_append, List.cons_append] at ho)) | (go_at_call 32; (with_reducible refine (l10Moved_any n 1 k b c l _ n2 n1 (by omega) (by omega) (by omega) (by omega) HB.out hl findArg).mono ?_); rintro e w' ⟨v, rfl, hO, hb⟩; obtain ⟨b3, c3, rfl, hG3⟩ := hO.arg rfl; rw [sml] at hG3 hO; (simp only [sml]); have hl2 := Link.mk hb; have hs := hb.size; clear hb hO) | (go_at_call 50; (with_reducible refine (l10Same_b _ _ _ _ _ _ _ _ _ false hh2 (sml _ _ _ _) (sml _ _ _ _) (by omega) (by omega) findArg findArg).mono ?_); rintro e w' ⟨rfl, hb⟩; have hl := Link.mk hb; have hs := hb.size; (try simp at hs); clear hb))
        go_roundw
        case rel => exact ⟨k + 1, by omega, by go_num, ⟨fun j hj => by
          rcases Nat.lt_or_ge j k with h1 | h1
          · exact hM.out j h1
          · rw [show j = k by omega]; exact hh⟩, findLow, findArg, findArg⟩
        case measure => (simp [intOf]; try omega)
      · have hh2 : decide (sortN (movN n 1 k l) = sortN (movN n m 0 l)) = true := hh
        go_wp2_with (first | (refine wl_load ?_) | (refine wl_store ?_) | (refine wl_build ?_) | (refine wl_slice ?_) | (refine wl_append ?_; intro v' w' ho hg hb; have hs := hg.size; (try simp at hs); (try rw [ptCs_end] at ho); (try rw [ints_end] at ho); (try simp only [Nat.zero_add, Nat.reduceAdd, List.nil_append, List.cons_append] at ho)) | (go_at_call 32; (with_reducible refine (l10Moved_any n 1 k b c l _ n2 n1 (by omega) (by omega) (by omega) (by omega) HB.out hl findArg).mono ?_); rintro e w' ⟨v, rfl, hO, hb⟩; obtain ⟨b3, c3, rfl, hG3⟩ := hO.arg rfl; rw [sml] at hG3 hO; (simp only [sml]); have hl2 := Link.mk hb; have hs := hb.size; clear hb hO) | (go_at_call 50; (with_reducible refine (l10Same_b _ _ _ _ _ _ _ _ _ true hh2 (sml _ _ _ _) (sml _ _ _ _) (by omega) (by omega) findArg findArg).mono ?_); rintro e w' ⟨rfl, hb⟩; have hl := Link.mk hb; have hs := hb.size; (try simp at hs); clear hb))
        have hv : shiftV n m l = .tuple #[.int .i64 (k : Int), .bool true] := by unfold shiftV; rw [shiftI_at hM hlt hh]; simp
        rw [hv]
        (apply ret_two Try.results34; (conv => lhs; whnf); (conv => lhs; whnf); exact rfl)
        exact ret_ret rfl findLow
    · have hkn : (k : Int) = n := by omega
      go_wp2_with (first | (refine wl_load ?_) | (refine wl_store ?_) | (refine wl_build ?_) | (refine wl_slice ?_) | (refine wl_append ?_; intro v' w' ho hg hb; have hs := hg.size; (try simp at hs); (try rw [ptCs_end] at ho); (try rw [ints_end] at ho); (try simp only [Nat.zero_add, Nat.reduceAdd, List.nil_append, List.cons_append] at ho)))
      have hv : shiftV n m l = .tuple #[.int .i64 0, .bool false] := by unfold shiftV; rw [shiftI_no hM hkn]; simp
      rw [hv]
      (apply ret_two Try.results34; (conv => lhs; whnf); (conv => lhs; whnf); exact rfl)
      exact ret_ret rfl findLow
end Go.Proofs.Ytbeeecahkchjnaa

