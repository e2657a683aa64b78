/- Contracts: the laws' own lists of points: compared, intact. (Printed by geng1.py, a program of this session.) -/
import Derived.Test.YthkbhaaodegocaaG1
import Derived.Test.YthkbhaaodegocaaRegG
namespace Go.Proofs.Ythkbhaaodegocaa
open Go.RowKit
set_option linter.unusedVariables false
set_option linter.unusedSimpArgs false
/-- A list of points in memory, somewhere; it may be empty. -/
def ListP (w : World) (b : Option Addr) (n : Nat) (l : List Pt) : Prop := l.length = n ∧ (0 < n → ∃ g off, b = some ⟨g, off, none⟩ ∧ PtsAt w g off n l)
theorem ListP.below {w w1 : World} {b : Option Addr} {n : Nat} {l : List Pt} (h : ListP w b n l) (hb : Below w.heap.size w w1) : ListP w1 b n l :=
  ⟨h.1, fun hn => by obtain ⟨g, off, e, hp⟩ := h.2 hn; exact ⟨g, off, e, hp.below hb⟩⟩
theorem listP_mk {w : World} {g off n : Nat} {l : List Pt} (hl : l.length = n) (h : PtsAt w g off n l) : ListP w (some ⟨g, off, none⟩) n l := ⟨hl, fun _ => ⟨g, off, rfl, h⟩⟩
theorem listP_nil {w : World} {b : Option Addr} : ListP w b 0 [] := ⟨rfl, fun h => absurd h (Nat.lt_irrefl _)⟩
theorem eqPointS_same (b b2 : Option Addr) (n cap cap2 : Nat) (l : List Pt) (w : World) (hn : n ≤ 4611686018427387904) (h1 : ListP w b n l) (h2 : ListP w b2 n l) :
    Calls Try.prog 32 #[.slice b n cap, .slice b2 n cap2] w (Ret w (.bool true)) := by
  have H1 := Lib.hid h1
  have H2 := Lib.hid h2
  clear h1 h2
  go_enter Try.func32, Try.ntmps32
  go_wp2
  go_loopw [5] (fun i wr => ∃ k : Nat, k ≤ n ∧ i = .int .i64 k ∧ Hid (Below w.heap.size w wr)) (fun i wr => n - (intOf i).toNat)
  case atStart => exact ⟨0, Nat.zero_le _, rfl, Lib.hid (Below.refl _ _)⟩
  case round =>
    obtain ⟨k, hk, rfl, HB⟩ := hrel
    by_cases hlt : k < n
    · obtain ⟨g1, o1, rfl, hp1⟩ := H1.out.2 (by omega)
      obtain ⟨g2, o2, rfl, hp2⟩ := H2.out.2 (by omega)
      obtain ⟨c0, c1, c2⟩ := hp1 k hlt
      obtain ⟨e0, e1, e2⟩ := hp2 k hlt
      clear hp1 hp2 H1 H2
      generalize l.getD k (0, 0, 0) = a at *
      obtain ⟨x, y, z⟩ := a
      go_wp2
      refine region_calm [(17, .slice (some ⟨g1, o1, none⟩) n cap), (18, .int .i64 k), (19, .pointer (some ⟨g1, o1 + k * 3, none⟩)), (20, ptV x y z), (21, .slice (some ⟨g2, o2, none⟩) n cap2), (22, .int .i64 k), (23, .pointer (some ⟨g2, o2 + k * 3, none⟩)), (24, ptV x y z), (25, .bool true), (26, .bool false)] (by kernel_rfl) (by kernel_rfl) (by kernel_rfl) (fun aE hpe => ?_)
      simp only [puts, Act.put, List.setIfInBounds_toArray, List.set_cons_zero, List.set_cons_succ] at hpe
      subst hpe
      refine ⟨⟨.inr (.inr ?_), .inr (.inr ?_), .inr (.inr ?_), .inr (.inr ?_), .inr (.inr ?_), .inr (.inr ?_), .inr (.inr ?_), .inr (.inr ?_), .inr (.inr ?_), .inr (.inr ?_), trivial⟩, ?_⟩
      · exact Calm.mk 17 (.slice (some ⟨g1, o1, none⟩) n cap) rfl rfl (fun W _ => calm_move (.tmp 0) rfl rfl)
      · exact Calm.mk 18 (.int .i64 k) rfl rfl (fun W _ => calm_move (.tmp 5) rfl rfl)
      · exact Calm.mk 19 (.pointer (some ⟨g1, o1 + k * 3, none⟩)) rfl rfl (fun W _ => calm_run (by simp [execOp, Act.eval, go_sem, hlt]))
      · exact Calm.mk 20 (ptV x y z) rfl rfl (fun W hW => calm_loadPt 23 (.tmp 19) rfl rfl (cell_below hW (cell_below HB.out c0)) (cell_below hW (cell_below HB.out c1)) (cell_below hW (cell_below HB.out c2)) Try.sizeOf23 Try.isAgg23)
      · exact Calm.mk 21 (.slice (some ⟨g2, o2, none⟩) n cap2) rfl rfl (fun W _ => calm_move (.tmp 1) rfl rfl)
      · exact Calm.mk 22 (.int .i64 k) rfl rfl (fun W _ => calm_move (.tmp 5) rfl rfl)
      · exact Calm.mk 23 (.pointer (some ⟨g2, o2 + k * 3, none⟩)) rfl rfl (fun W _ => calm_run (by simp [execOp, Act.eval, go_sem, hlt]))
      · exact Calm.mk 24 (ptV x y z) rfl rfl (fun W hW => calm_loadPt 23 (.tmp 23) rfl rfl (cell_below hW (cell_below HB.out e0)) (cell_below hW (cell_below HB.out e1)) (cell_below hW (cell_below HB.out e2)) Try.sizeOf23 Try.isAgg23)
      · exact Calm.mk 25 (.bool true) rfl rfl (fun W hW => calm_call 43 _ #[ptV x y z, ptV x y z] rfl rfl rfl (by simp [Act.eval]) (Try.call43 _ _) (eqPoint_same x y z W))
      · exact Calm.mk 26 (.bool false) rfl rfl (fun W hW => calm_run (by simp [execOp, Act.eval, go_sem]))
      intro W2 hW2
      have HB2 := Lib.hid (low_tr' HB.out hW2 HB.out.size)
      clear HB hW2
      go_wp2
      go_roundw
      case rel => exact ⟨k + 1, by omega, by go_num, HB2⟩
      case measure => simp [intOf]; omega
    · go_wp2
      go_ret
      exact ⟨rfl, HB.out⟩
theorem intactPointS_same (g g2 n : Nat) (l : List Pt) (w : World) (hn : n ≤ 1000000) (hl : l.length = n + roomN n) (h1 : PtsAt w g 0 (n + roomN n) l) (h2 : PtsAt w g2 0 (n + roomN n) l) :
    Calls Try.prog 48 #[.slice (some ⟨g, 0, none⟩) n (n + roomN n), .slice (some ⟨g2, 0, none⟩) n (n + roomN n)] w (Ret w (.bool true)) := by
  have hr0 := roomN_le n
  have HR := Lib.hid (fun (W : World) => roomBehind_any n W hn)
  have HE := Lib.hid (fun (W : World) (hW : Below w.heap.size w W) => eqPointS_same (some ⟨g, 0, none⟩) (some ⟨g2, 0, none⟩) (n + roomN n) (n + roomN n) (n + roomN n) l W (by omega) (listP_mk hl (h1.below hW)) (listP_mk hl (h2.below hW)))
  clear h1 h2 hl
  generalize roomN n = r at *
  generalize hm : n + r = m at *
  have hnm : n ≤ m := by omega
  have hm2 : m ≤ 2 * n + 1 := by omega
  have hmz : (n : Int) + (r : Int) = m := by omega
  go_enter Try.func48, Try.ntmps48
  go_wp2_with (go_at_call 63; refine (HR.out _).mono ?_; rintro e w' ⟨rfl, rfl⟩)
  refine region_calmG [(12, .slice (some ⟨g, 0, none⟩) n m), (13, .int .i64 n), (14, .slice (some ⟨g2, 0, none⟩) n m), (15, .int .i64 n), (16, .bool true), (17, .bool true), (18, .slice (some ⟨g, 0, none⟩) n m), (19, .int .i64 m), (20, .slice (some ⟨g, 0, none⟩) m m), (21, .slice (some ⟨g2, 0, none⟩) n m), (22, .int .i64 m), (23, .slice (some ⟨g2, 0, none⟩) m m), (24, .bool true), (25, .bool true), (4, .bool true)] (by kernel_rfl) (by kernel_rfl) (by kernel_rfl) (fun aE hpe => ?_)
  simp only [puts, Act.put, List.setIfInBounds_toArray, List.set_cons_zero, List.set_cons_succ] at hpe
  subst hpe
  refine ⟨⟨.inr (.inr ?_), .inr (.inr ?_), .inr (.inr ?_), .inr (.inr ?_), .inr (.inr ?_), .inr (.inr ?_), .inr (.inr ?_), .inr (.inr ?_), .inr (.inr ?_), .inr (.inr ?_), .inr (.inr ?_), .inr (.inr ?_), .inr (.inr ?_), .inr (.inr ?_), .inr (.inr ?_), trivial⟩, ?_⟩
  · exact CalmG.mk 12 (.slice (some ⟨g, 0, none⟩) n m) rfl rfl rfl (fun W _ => calm_move (.tmp 0) rfl rfl)
  · exact CalmG.mk 13 (.int .i64 n) rfl rfl rfl (fun W _ => calm_run (by simp [execOp, Act.eval, go_sem]))
  · exact CalmG.mk 14 (.slice (some ⟨g2, 0, none⟩) n m) rfl rfl rfl (fun W _ => calm_move (.tmp 1) rfl rfl)
  · exact CalmG.mk 15 (.int .i64 n) rfl rfl rfl (fun W _ => calm_run (by simp [execOp, Act.eval, go_sem]))
  · exact CalmG.mk 16 (.bool true) rfl rfl rfl (fun W _ => calm_run (by simp [execOp, Act.eval, go_sem]))
  · exact CalmG.mk 17 (.bool true) rfl rfl rfl (fun W _ => calm_move (.tmp 16) rfl rfl)
  · exact CalmG.mk 18 (.slice (some ⟨g, 0, none⟩) n m) rfl rfl rfl (fun W _ => calm_move (.tmp 0) rfl rfl)
  · exact CalmG.mk 19 (.int .i64 m) rfl rfl rfl (fun W _ => calm_move (.tmp 5) rfl (by show Value.int .i64 _ = _; first | rfl | rw [hmz]))
  · exact CalmG.mk 20 (.slice (some ⟨g, 0, none⟩) m m) rfl rfl rfl (fun W _ => calm_run (by simp [execOp, Act.eval, go_sem]))
  · exact CalmG.mk 21 (.slice (some ⟨g2, 0, none⟩) n m) rfl rfl rfl (fun W _ => calm_move (.tmp 1) rfl rfl)
  · exact CalmG.mk 22 (.int .i64 m) rfl rfl rfl (fun W _ => calm_move (.tmp 5) rfl (by show Value.int .i64 _ = _; first | rfl | rw [hmz]))
  · exact CalmG.mk 23 (.slice (some ⟨g2, 0, none⟩) m m) rfl rfl rfl (fun W _ => calm_run (by simp [execOp, Act.eval, go_sem]))
  · exact CalmG.mk 24 (.bool true) rfl rfl rfl (fun W hW => calm_call 32 _ #[.slice (some ⟨g, 0, none⟩) m m, .slice (some ⟨g2, 0, none⟩) m m] rfl rfl rfl (by simp [Act.eval]) (Try.call32 _ _) (HE.out W hW))
  · exact CalmG.mk 25 (.bool true) rfl rfl rfl (fun W hW => calm_run (by simp [execOp, Act.eval, go_sem]))
  · exact CalmG.mk 4 (.bool true) rfl rfl rfl (fun W hW => calm_assign (.tmp 25) rfl rfl)
  intro W2 hW2
  have HB := Lib.hid hW2
  go_wp2
  go_ret
  exact ⟨rfl, HB.out⟩
end Go.Proofs.Ythkbhaaodegocaa
