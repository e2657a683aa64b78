/- Contracts: the laws' lists of numbers are intact. -/
import Derived.Test.YthkbhaaodegocaaH1
import Derived.Test.YthkbhaaodegocaaRegG
namespace Go.Proofs.Ythkbhaaodegocaa
open Go.RowKit
set_option linter.unusedVariables false
set_option linter.unusedSimpArgs false
theorem intactInt64S_same (g g2 n : Nat) (l : List Int) (w : World) (hn : n ≤ 1000000) (h1 : IntsAt w g 0 (n + roomN n) l) (h2 : IntsAt w g2 0 (n + roomN n) l) :
    Calls Try.prog 21 #[.slice (some ⟨g, 0, none⟩) n (n + roomN n), .slice (some ⟨g2, 0, none⟩) n (n + roomN n)] w (Ret w (.bool true)) := by
  have hr0 := roomN_le n
  have HR := Lib.hid (fun (W : World) => roomBehind_any n W hn)
  have HE := Lib.hid (fun (W : World) (hW : Below w.heap.size w W) => eqInt64S_same g g2 (n + roomN n) (n + roomN n) (n + roomN n) l W (by omega) (h1.below hW) (h2.below hW))
  clear h1 h2
  generalize roomN n = r at *
  generalize hm : n + r = m at *
  have hnm : n ≤ m := by omega
  have hm2 : m ≤ 2 * n + 1 := by omega
  have hmz : (n : Int) + (r : Int) = m := by omega
  go_enter Try.func21, Try.ntmps21
  go_wp2_with (go_at_call 63; refine (HR.out _).mono ?_; rintro e w' ⟨rfl, rfl⟩)
  refine region_calmG [(12, .slice (some ⟨g, 0, none⟩) n m), (13, .int .i64 n), (14, .slice (some ⟨g2, 0, none⟩) n m), (15, .int .i64 n), (16, .bool true), (17, .bool true), (18, .slice (some ⟨g, 0, none⟩) n m), (19, .int .i64 m), (20, .slice (some ⟨g, 0, none⟩) m m), (21, .slice (some ⟨g2, 0, none⟩) n m), (22, .int .i64 m), (23, .slice (some ⟨g2, 0, none⟩) m m), (24, .bool true), (25, .bool true), (4, .bool true)] (by kernel_rfl) (by kernel_rfl) (by kernel_rfl) (fun aE hpe => ?_)
  simp only [puts, Act.put, List.setIfInBounds_toArray, List.set_cons_zero, List.set_cons_succ] at hpe
  subst hpe
  refine ⟨⟨.inr (.inr ?_), .inr (.inr ?_), .inr (.inr ?_), .inr (.inr ?_), .inr (.inr ?_), .inr (.inr ?_), .inr (.inr ?_), .inr (.inr ?_), .inr (.inr ?_), .inr (.inr ?_), .inr (.inr ?_), .inr (.inr ?_), .inr (.inr ?_), .inr (.inr ?_), .inr (.inr ?_), trivial⟩, ?_⟩
  · exact CalmG.mk 12 (.slice (some ⟨g, 0, none⟩) n m) rfl rfl rfl (fun W _ => calm_move (.tmp 0) rfl rfl)
  · exact CalmG.mk 13 (.int .i64 n) rfl rfl rfl (fun W _ => calm_run (by simp [execOp, Act.eval, go_sem]))
  · exact CalmG.mk 14 (.slice (some ⟨g2, 0, none⟩) n m) rfl rfl rfl (fun W _ => calm_move (.tmp 1) rfl rfl)
  · exact CalmG.mk 15 (.int .i64 n) rfl rfl rfl (fun W _ => calm_run (by simp [execOp, Act.eval, go_sem]))
  · exact CalmG.mk 16 (.bool true) rfl rfl rfl (fun W _ => calm_run (by simp [execOp, Act.eval, go_sem]))
  · exact CalmG.mk 17 (.bool true) rfl rfl rfl (fun W _ => calm_move (.tmp 16) rfl rfl)
  · exact CalmG.mk 18 (.slice (some ⟨g, 0, none⟩) n m) rfl rfl rfl (fun W _ => calm_move (.tmp 0) rfl rfl)
  · exact CalmG.mk 19 (.int .i64 m) rfl rfl rfl (fun W _ => calm_move (.tmp 5) rfl (by show Value.int .i64 _ = _; first | rfl | rw [hmz]))
  · exact CalmG.mk 20 (.slice (some ⟨g, 0, none⟩) m m) rfl rfl rfl (fun W _ => calm_run (by simp [execOp, Act.eval, go_sem]))
  · exact CalmG.mk 21 (.slice (some ⟨g2, 0, none⟩) n m) rfl rfl rfl (fun W _ => calm_move (.tmp 1) rfl rfl)
  · exact CalmG.mk 22 (.int .i64 m) rfl rfl rfl (fun W _ => calm_move (.tmp 5) rfl (by show Value.int .i64 _ = _; first | rfl | rw [hmz]))
  · exact CalmG.mk 23 (.slice (some ⟨g2, 0, none⟩) m m) rfl rfl rfl (fun W _ => calm_run (by simp [execOp, Act.eval, go_sem]))
  · exact CalmG.mk 24 (.bool true) rfl rfl rfl (fun W hW => calm_call 37 _ #[.slice (some ⟨g, 0, none⟩) m m, .slice (some ⟨g2, 0, none⟩) m m] rfl rfl rfl (by simp [Act.eval]) (Try.call37 _ _) (HE.out W hW))
  · exact CalmG.mk 25 (.bool true) rfl rfl rfl (fun W hW => calm_run (by simp [execOp, Act.eval, go_sem]))
  · exact CalmG.mk 4 (.bool true) rfl rfl rfl (fun W hW => calm_assign (.tmp 25) rfl rfl)
  intro W2 hW2
  have HB := Lib.hid hW2
  go_wp2
  go_ret
  exact ⟨rfl, HB.out⟩
end Go.Proofs.Ythkbhaaodegocaa
