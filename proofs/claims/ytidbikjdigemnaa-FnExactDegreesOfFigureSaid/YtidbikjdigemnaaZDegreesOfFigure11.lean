/- Texts of the claim, in build order: I3, I4, RegX. No condition. -/
import Derived.Test.YtidbikjdigemnaaZDegreesOfFigure10
/- Contracts: the laws' tables of numbers: compared, marked, held. -/
namespace Go.Proofs.Ytidbikjdigemnaa
open Go.RowKit
set_option linter.unusedVariables false
set_option linter.unusedSimpArgs false
/-- Where a table's rows stand. -/
def OutIn (W : World) (lo : Nat) (b : Option Addr) (n2 : Nat) (gs : List (Nat × Nat)) : Prop := (b = none ∧ gs = []) ∨
  ∃ g, b = some ⟨g, 0, none⟩ ∧ (lo ≤ g ∧ g < W.heap.size) ∧ (∀ i, i < gs.length → W.cell? ⟨g, i, none⟩ = some (rowQ n2 (gs.getD i (0, 0)))) ∧ ∀ i, i < gs.length → (gs.getD i (0, 0)).1 ≠ g
theorem out_below {W W' : World} {lo n2 : Nat} {b : Option Addr} {gs : List (Nat × Nat)} (h : OutIn W lo b n2 gs) (hb : Below W.heap.size W W') : OutIn W' lo b n2 gs := by
  rcases h with h0 | ⟨g, h1, h2, h3, h4⟩
  · exact .inl h0
  · exact .inr ⟨g, h1, ⟨h2.1, Nat.lt_of_lt_of_le h2.2 hb.size⟩, fun i hi => cell_below hb (h3 i hi), h4⟩
theorem out_at {W : World} {lo n2 : Nat} {b : Option Addr} {gs : List (Nat × Nat)} (h : OutIn W lo b n2 gs) {k : Nat} (hk : k < gs.length) : ∃ g, b = some ⟨g, 0, none⟩ ∧ (lo ≤ g ∧ g < W.heap.size) ∧ W.cell? ⟨g, k, none⟩ = some (rowQ n2 (gs.getD k (0, 0))) ∧ (gs.getD k (0, 0)).1 ≠ g := by
  rcases h with ⟨_, h0⟩ | ⟨g, h1, h2, h3, h4⟩
  · subst h0; simp at hk
  · exact ⟨g, h1, h2, h3 k hk, h4 k hk⟩
/-- A table handed back: a list of rows. -/
theorem tab_open {W : World} {base n1 n2 : Nat} {tbl : Nat → List Int} {v : Value} {gs : List (Nat × Nat)} (h : W.ownsRow base 36 1 v n1 (gs.map (rowQ n2))) (hl : gs.length = n1) (ht : TabAt W base n2 tbl gs) : ∃ b c, v = .slice b n1 c ∧ OutIn W base b n2 gs := by
  rcases h.2 with ⟨rfl, h0⟩ | ⟨g, cap, cur, e, hb, hg, hle, _, hsz, htk⟩
  · subst h0
    exact ⟨none, 0, rfl, .inl ⟨rfl, List.length_eq_zero_iff.1 hl⟩⟩
  · refine ⟨_, _, e, .inr ⟨g, rfl, ⟨hb, (Array.getElem?_eq_some_iff.1 hg).1⟩, fun i hi => ?_, fun i hi => ?_⟩⟩
    · rw [cell_of_row W g i _ _ _ hg]
      have h1 : (cur.toList.take (n1 * 1))[i]? = (gs.map (rowQ n2))[i]? := by rw [htk]
      rw [List.getElem?_take_of_lt (by omega)] at h1
      rw [← Array.getElem?_toList, h1]
      simp [List.getD, hi]
    · intro e2
      obtain ⟨_, _, _, ⟨cur2, h4, _⟩, _⟩ := ht i hi
      rw [e2, hg] at h4
      cases h4
set_option maxHeartbeats 2000000 in
theorem eqInt64SS_same (b b' : Option Addr) (c c' m n2 lo lo' : Nat) (gs gs' : List (Nat × Nat)) (tbl : Nat → List Int) (w : World) (hm : gs.length = m) (hm' : gs'.length = m) (hm1 : m ≤ 1000000) (hn : n2 ≤ 1000000) (o : OutIn w lo b n2 gs) (o' : OutIn w lo' b' n2 gs') (t : TabAt w lo n2 tbl gs) (t' : TabAt w lo' n2 tbl gs') :
    Calls Try.prog 21 #[.slice b m c, .slice b' m c'] w (Ret w (.bool true)) := by
  have HO := Lib.hid o
  have HO' := Lib.hid o'
  have HT := Lib.hid t
  have HT' := Lib.hid t'
  clear o o' t t'
  go_enter Try.func21, Try.ntmps21
  go_wp2
  go_loopw [5] (fun i wr => ∃ k : Nat, k ≤ m ∧ i = .int .i64 k ∧ Hid (Below w.heap.size w wr)) (fun i wr => m - (intOf i).toNat)
  case atStart => exact ⟨0, Nat.zero_le _, rfl, Lib.hid (Below.refl _ _)⟩
  case round =>
    obtain ⟨k, hk, rfl, HB⟩ := hrel
    by_cases hlt : k < m
    · obtain ⟨g, rfl, _, x1, _⟩ := out_at HO.out (k := k) (by omega)
      obtain ⟨g', rfl, _, y1, _⟩ := out_at HO'.out (k := k) (by omega)
      obtain ⟨_, _, _, _, r1, _⟩ := HT.out k (by omega)
      obtain ⟨_, _, _, _, r2, _⟩ := HT'.out k (by omega)
      have R1 := Lib.hid r1
      have R2 := Lib.hid r2
      clear r1 r2
      generalize gs.getD k (0, 0) = q at *
      generalize gs'.getD k (0, 0) = q' at *
      obtain ⟨qa, qb⟩ := q
      obtain ⟨qa', qb'⟩ := q'
      have x1' := cell_below HB.out x1
      have y1' := cell_below HB.out y1
      clear x1 y1
      have HE := Lib.hid (fun (W : World) (hW : Below wr.heap.size wr W) => eqInt64S_same qa qa' n2 qb qb' (tbl k) W (by omega) ((R1.out.below HB.out).below hW) ((R2.out.below HB.out).below hW))
      go_wp2
      refine region_calm [(17, .slice (some ⟨g, 0, none⟩) m c), (18, .int .i64 k), (19, .pointer (some ⟨g, k, none⟩)), (20, rowQ n2 (qa, qb)), (21, .slice (some ⟨g', 0, none⟩) m c'), (22, .int .i64 k), (23, .pointer (some ⟨g', k, none⟩)), (24, rowQ n2 (qa', qb')), (25, .bool true), (26, .bool false)] (by kernel_rfl) (by kernel_rfl) (by kernel_rfl) (fun aE hpe => ?_)
      simp only [puts, Act.put, List.setIfInBounds_toArray, List.set_cons_zero, List.set_cons_succ] at hpe
      subst hpe
      refine ⟨⟨.inr (.inr ?_), .inr (.inr ?_), .inr (.inr ?_), .inr (.inr ?_), .inr (.inr ?_), .inr (.inr ?_), .inr (.inr ?_), .inr (.inr ?_), .inr (.inr ?_), .inr (.inr ?_), trivial⟩, ?_⟩
      · exact Calm.mk 17 (.slice (some ⟨g, 0, none⟩) m c) rfl rfl (fun W _ => calm_move (.tmp 0) rfl rfl)
      · exact Calm.mk 18 (.int .i64 k) rfl rfl (fun W _ => calm_move (.tmp 5) rfl rfl)
      · exact Calm.mk 19 (.pointer (some ⟨g, k, none⟩)) rfl rfl (fun W _ => calm_run (by simp [execOp, Act.eval, go_sem, hlt]))
      · exact Calm.mk 20 (rowQ n2 (qa, qb)) rfl rfl (fun W hW => calm_run (by have hc := cell_below hW x1'; simp [execOp, Act.eval, go_sem, hc]))
      · exact Calm.mk 21 (.slice (some ⟨g', 0, none⟩) m c') rfl rfl (fun W _ => calm_move (.tmp 1) rfl rfl)
      · exact Calm.mk 22 (.int .i64 k) rfl rfl (fun W _ => calm_move (.tmp 5) rfl rfl)
      · exact Calm.mk 23 (.pointer (some ⟨g', k, none⟩)) rfl rfl (fun W _ => calm_run (by simp [execOp, Act.eval, go_sem, hlt]))
      · exact Calm.mk 24 (rowQ n2 (qa', qb')) rfl rfl (fun W hW => calm_run (by have hc := cell_below hW y1'; simp [execOp, Act.eval, go_sem, hc]))
      · exact Calm.mk 25 (.bool true) rfl rfl (fun W hW => calm_call 16 _ #[rowQ n2 (qa, qb), rowQ n2 (qa', qb')] rfl rfl rfl (by simp [Act.eval]) (Try.call16 _ _) (HE.out W hW))
      · exact Calm.mk 26 (.bool false) rfl rfl (fun W hW => calm_run (by simp [execOp, Act.eval, go_sem]))
      intro W2 hW2
      have HB2 := Lib.hid (low_tr' HB.out hW2 HB.out.size)
      clear HB hW2 HE x1' y1'
      go_wp2
      go_roundw
      case rel => exact ⟨k + 1, by omega, by go_num, HB2⟩
      case measure => simp [intOf]; omega
    · go_wp2
      go_ret
      exact ⟨rfl, HB.out⟩
/-- All blocks but the rows' are as they were. -/
structure SaveS (gs : List (Nat × Nat)) (w W : World) : Prop where
  os : W.os = w.os
  tape : W.tape = w.tape
  output : W.output = w.output
  size : w.heap.size ≤ W.heap.size
  block : ∀ k, k < w.heap.size → (∀ i, i < gs.length → (gs.getD i (0, 0)).1 ≠ k) → W.heap[k]? = w.heap[k]?
theorem SaveS.below {gs : List (Nat × Nat)} {B : Nat} {w W W' : World} (h : SaveS gs W W') (hb : Below B w W) (hg : ∀ i, i < gs.length → B ≤ (gs.getD i (0, 0)).1) (hs : B ≤ W.heap.size) : Below B w W' :=
  ⟨h.os.trans hb.os, h.tape.trans hb.tape, h.output.trans hb.output, Nat.le_trans hb.size h.size, fun k hk => (h.block k (by omega) (fun i hi => by have := hg i hi; omega)).trans (hb.block k hk)⟩
theorem out_saveS {gs : List (Nat × Nat)} {w W : World} {lo n2 : Nat} {b : Option Addr} (h : OutIn w lo b n2 gs) (hs : SaveS gs w W) : OutIn W lo b n2 gs := by
  rcases h with h0 | ⟨g, h1, h2, h3, h4⟩
  · exact .inl h0
  · refine .inr ⟨g, h1, ⟨h2.1, Nat.lt_of_lt_of_le h2.2 hs.size⟩, fun i hi => ?_, h4⟩
    have hc : W.cell? ⟨g, i, none⟩ = w.cell? ⟨g, i, none⟩ := by unfold World.cell?; rw [hs.block g h2.2 h4]
    rw [hc]; exact h3 i hi
/-- The rows marked one behind the other. -/
def MkdS (W : World) (n2 : Nat) (gs : List (Nat × Nat)) : Prop := ∀ i, i < gs.length → IntsAt W (gs.getD i (0, 0)).1 0 n2 (markI (101 + n2 * i) n2)
def RoomsS (W : World) (n2 : Nat) (gs : List (Nat × Nat)) : Prop := ∀ i, i < gs.length → n2 ≤ (gs.getD i (0, 0)).2 ∧ RoomI W (gs.getD i (0, 0)).1 (gs.getD i (0, 0)).2 2
set_option maxHeartbeats 2000000 in
theorem markInt64SS_any (b : Option Addr) (c m n2 lo : Nat) (gs : List (Nat × Nat)) (tbl : Nat → List Int) (w : World) (hm : gs.length = m) (hm1 : m ≤ 16) (hn : n2 ≤ 16) (o : OutIn w lo b n2 gs) (t : TabAt w lo n2 tbl gs) :
    Calls Try.prog 22 #[.slice b m c, .int .i64 101] w (fun e W => e = .returned (.int .i64 ((101 + n2 * m : Nat) : Int)) ∧ SaveS gs w W ∧ MkdS W n2 gs) := by
  have HO := Lib.hid o
  have HLt := Lib.hid (fun i (hi : i < gs.length) => (t i hi).2.1)
  have HDi := Lib.hid (fun i j (hi : i < gs.length) (hj : j < i) => (t i hi).2.2.2.2.2 j hj)
  have HR0 := Lib.hid (show RoomsS w n2 gs from fun i hi => ⟨(t i hi).2.2.1, (t i hi).2.2.2.1⟩)
  clear o t
  go_enter Try.func22, Try.ntmps22
  go_wp2
  go_loopw [1, 5] (fun q i wr => ∃ k : Nat, k ≤ m ∧ i = .int .i64 k ∧ q = .int .i64 ((101 + n2 * k : Nat) : Int) ∧ Hid (SaveS gs w wr) ∧ Hid (RoomsS wr n2 gs) ∧ Hid (∀ i, i < k → IntsAt wr (gs.getD i (0, 0)).1 0 n2 (markI (101 + n2 * i) n2))) (fun _ i wr => m - (intOf i).toNat)
  case atStart => exact ⟨0, Nat.zero_le _, rfl, rfl, Lib.hid ⟨rfl, rfl, rfl, Nat.le_refl _, fun _ _ _ => rfl⟩, HR0, Lib.hid (fun i hi => absurd hi (by omega))⟩
  case round =>
    clear HR0
    obtain ⟨k, hk, rfl, rfl, HS, HR, HM⟩ := hrel
    by_cases hlt : k < m
    · obtain ⟨g, rfl, _, x1, _⟩ := out_at (out_saveS HO.out HS.out) (k := k) (by omega)
      obtain ⟨r1, r2⟩ := HR.out k (by omega)
      have hkb : n2 * k ≤ 16 * 16 := Nat.mul_le_mul hn (by omega)
      have HC := Lib.hid (markInt64S_any (gs.getD k (0, 0)).1 n2 (gs.getD k (0, 0)).2 (101 + n2 * k) (gs.getD k (0, 0)).2 _ wr r2 r1 (by omega) (by omega))
      have hgk := HLt.out k (by omega)
      have hne : ∀ i, i < gs.length → i ≠ k → (gs.getD i (0, 0)).1 ≠ (gs.getD k (0, 0)).1 := fun i hi hik => by
        rcases Nat.lt_or_gt_of_ne hik with h | h
        · have := HDi.out k i (by omega) h; omega
        · have := HDi.out i k hi h; omega
      have HNe := Lib.hid hne
      have HL := Lib.hid HLt.out
      have Hgk := Lib.hid (show True ∧ (gs.getD k (0, 0)) = gs.getD k (0, 0) from ⟨trivial, rfl⟩)
      clear r1 r2 hne Hgk
      obtain ⟨q, hq⟩ : ∃ q, gs.getD k (0, 0) = q := ⟨_, rfl⟩
      rw [hq] at x1 HC
      have Hq := Lib.hid hq
      clear hq
      obtain ⟨qa, qb⟩ := q
      have hms : ((101 + n2 * k : Nat) : Int) + 0 = ((101 + n2 * k : Nat) : Int) := by omega
      clear hms
      obtain ⟨M, hM⟩ : ∃ M : Nat, 101 + n2 * k = M := ⟨_, rfl⟩
      rw [hM] at HC
      have HMn := Lib.hid hM
      rw [hM]
      clear hM
      go_wp2_with (go_at_call 17; refine HC.out.mono ?_; rintro e w2_ ⟨⟨rfl, hs, hr, hm2⟩⟩; have HS2 := Lib.hid hs; have HR2 := Lib.hid hr; have HM2 := Lib.hid hm2; clear hs hr hm2)
      have hq1 : (gs.getD k (0, 0)).1 = qa := by rw [Hq.out]
      have hq2 : (gs.getD k (0, 0)).2 = qb := by rw [Hq.out]
      have ssz := HS.out.size
      have S3 : SaveS gs w w2_ := ⟨HS2.out.os.trans HS.out.os, HS2.out.tape.trans HS.out.tape, HS2.out.output.trans HS.out.output, Nat.le_trans HS.out.size HS2.out.size, fun z hz hz2 => (HS2.out.block z (by omega) (fun e => hz2 k (by omega) (by rw [hq1, e]))).trans (HS.out.block z hz hz2)⟩
      have R3 : RoomsS w2_ n2 gs := fun i hi => by
        by_cases hik : i = k
        · subst hik
          obtain ⟨h1, _⟩ := HR.out i hi
          refine ⟨h1, ?_⟩
          rw [hq1, hq2]; exact HR2.out
        · obtain ⟨h1, cur, h2, h3⟩ := HR.out i hi
          refine ⟨h1, cur, ?_, h3⟩
          rw [HS2.out.block _ (by have := HL.out i hi; omega) (by rw [← hq1]; exact HNe.out i hi hik)]
          exact h2
      have M3 : ∀ i, i < k + 1 → IntsAt w2_ (gs.getD i (0, 0)).1 0 n2 (markI (101 + n2 * i) n2) := fun i hi => by
        by_cases hik : i = k
        · subst hik
          rw [hq1, HMn.out]; exact HM2.out
        · exact ints_block (HM.out i (by omega)) (HS2.out.block _ (by have := HL.out i (by omega); omega) (by rw [← hq1]; exact HNe.out i (by omega) hik))
      go_roundw
      case rel => exact ⟨k + 1, by omega, by go_num, ret_num (by have := HMn.out; rw [Nat.mul_succ]; omega), Lib.hid S3, Lib.hid R3, Lib.hid M3⟩
      case measure => simp [intOf]; omega
    · have hkm : k = m := by omega
      subst hkm
      go_wp2
      go_ret
      exact ⟨rfl, HS.out, fun i hi => HM.out i (by omega)⟩
set_option maxHeartbeats 2000000 in
theorem heldInt64SS_any (b : Option Addr) (c m n2 lo : Nat) (gs : List (Nat × Nat)) (w : World) (hm : gs.length = m) (hm1 : m ≤ 16) (hn : n2 ≤ 16) (o : OutIn w lo b n2 gs) (t : MkdS w n2 gs) :
    Calls Try.prog 23 #[.slice b m c, .int .i64 101] w (Ret w (.int .i64 ((101 + n2 * m : Nat) : Int))) := by
  have HO := Lib.hid o
  have HT := Lib.hid t
  clear o t
  go_enter Try.func23, Try.ntmps23
  go_wp2
  go_loopw [1, 5] (fun q i wr => ∃ k : Nat, k ≤ m ∧ i = .int .i64 k ∧ q = .int .i64 ((101 + n2 * k : Nat) : Int) ∧ Hid (Below w.heap.size w wr)) (fun _ i wr => m - (intOf i).toNat)
  case atStart => exact ⟨0, Nat.zero_le _, rfl, rfl, Lib.hid (Below.refl _ _)⟩
  case round =>
    obtain ⟨k, hk, rfl, rfl, HB⟩ := hrel
    by_cases hlt : k < m
    · obtain ⟨g, rfl, _, x1, _⟩ := out_at (out_below HO.out HB.out) (k := k) (by omega)
      have hkb : n2 * k ≤ 16 * 16 := Nat.mul_le_mul hn (by omega)
      have HC := Lib.hid (heldInt64S_any (gs.getD k (0, 0)).1 n2 (gs.getD k (0, 0)).2 (101 + n2 * k) wr (by omega) (by omega) ((HT.out k (by omega)).below HB.out))
      generalize gs.getD k (0, 0) = q at *
      obtain ⟨qa, qb⟩ := q
      obtain ⟨M, hM⟩ : ∃ M : Nat, 101 + n2 * k = M := ⟨_, rfl⟩
      rw [hM] at HC
      have HMn := Lib.hid hM
      rw [hM]
      clear hM
      have hneg : ¬ ((M + n2 : Nat) : Int) < 0 := by omega
      go_wp2_with (go_at_call 18; (with_reducible refine (HC.out).mono ?_); rintro e w2_ ⟨rfl, hb2⟩; obtain ⟨hcb2, hfb2, hlb2⟩ := bcell hb2; have hsz2 := hb2.size; (try simp at hsz2); have HB2 := Lib.hid hb2; clear hb2)
      go_roundw
      case rel => exact ⟨k + 1, by omega, by go_num, ret_num (by have := HMn.out; rw [Nat.mul_succ]; omega), Lib.hid (low_tr' HB.out HB2.out HB.out.size)⟩
      case measure => simp [intOf]; omega
    · have hkm : k = m := by omega
      subst hkm
      go_wp2
      go_ret
      exact ⟨rfl, HB.out⟩
end Go.Proofs.Ytidbikjdigemnaa
/- IncidenceTable, the program's and the reference's. -/
namespace Go.Proofs.Ytidbikjdigemnaa
open Go.RowKit
set_option linter.unusedVariables false
set_option linter.unusedSimpArgs false
theorem figC_pts {p : Int} {n1 n2 : Nat} {l1 l2 : List Pt} (h : figC p n1 n2 l1 l2 = 0) : (∀ a ∈ l1, In13 a) ∧ ∀ a ∈ l2, In13 a := by
  unfold figC at h
  by_cases hk : codeOf p (ptsB p l1 && ptsB p l2) = 0
  · obtain ⟨_, h2⟩ := code_zero hk
    simp only [Bool.and_eq_true] at h2
    exact ⟨fun a ha => in13' (List.all_eq_true.1 h2.1 a ha), fun a ha => in13' (List.all_eq_true.1 h2.2 a ha)⟩
  · rw [if_pos hk] at h; exact (hk h).elim
/-- A new table, and a code. -/
structure TabAny (m n2 : Nat) (tbl : Nat → List Int) (k : Int) (w : World) (e : Ending) (w' : World) : Prop where
  out : ∃ b c gs, e = .returned (.tuple #[.slice b m c, .int .i64 k]) ∧ gs.length = m ∧ OutIn w' w.heap.size b n2 gs ∧ TabAt w' w.heap.size n2 tbl gs ∧ Below w.heap.size w w'
set_option maxHeartbeats 2000000 in
theorem IncidenceTable_impl_good (p : Int) (b1 : Option Addr) (n1 c1 : Nat) (b2 : Option Addr) (n2 c2 : Nat) (l1 l2 : List Pt) (w : World) (hn1 : n1 ≤ 1000000) (hn2 : n2 ≤ 1000000) (h1 : ListP w b1 n1 l1) (h2 : ListP w b2 n2 l2) (hk : figC p n1 n2 l1 l2 = 0) :
    Calls Try.prog 20 #[.int .i64 p, figV b1 n1 c1 b2 n2 c2] w (TabAny n1 n2 (tblR p l1 l2 n2) 0 w) := by
  obtain ⟨hp, m1, m2⟩ := figC_zero hk
  obtain ⟨q1, q2⟩ := figC_pts hk
  have HC := Lib.hid (fun (W : World) (hW : Below w.heap.size w W) => figureCode_any p b1 n1 c1 b2 n2 c2 l1 l2 W hn1 hn2 (h1.below hW) (h2.below hW))
  rw [hk] at HC
  have HT := Lib.hid (fun (W : World) (hW : Below w.heap.size w W) => incidences_any p b1 n1 c1 b2 n2 c2 l1 l2 W hp m1 m2 (h1.below hW) (h2.below hW) q1 q2)
  clear h1 h2 hk hp q1 q2
  go_enter Try.func20, Try.ntmps20
  go_wp2_with (first
    | (go_at_call 29; (with_reducible refine (HC.out _ (by repeat (first | exact Below.refl _ _ | refine bset ?_ _ _ (by omega) _ | refine bal ?_ _ | refine bdrN ?_ _ | refine bdr ?_))).mono ?_); rintro e w1_ ⟨rfl, hb1⟩; obtain ⟨hcb1, hfb1, hlb1⟩ := bcell hb1; have hsz1 := hb1.size; (try simp at hsz1); have HB1 := Lib.hid hb1; clear hb1; (try (have hl01 : w.heap.size < w1_.heap.size := by omega)))
    | (go_at_call 39; (with_reducible refine (HT.out _ (by repeat (first | exact Below.refl _ _ | refine bset ?_ _ _ (by omega) _ | refine bal ?_ _ | refine bdrN ?_ _ | refine bdr ?_ | refine below_tr' ?_ HB1.out))).mono ?_); rintro e w2_ ⟨v, gs, rfl, hg, ho, ht, hb⟩; have HO2 := Lib.hid ho; have HT2 := Lib.hid ht; have HB2 := Lib.hid hb; clear ho ht hb))
  obtain ⟨b, c, rfl, hout⟩ := tab_open HO2.out hg HT2.out
  have hs1 := HB1.out.size
  try simp at hs1
  refine bodyPost_ret (v := .tuple #[.slice b n1 c, .int .i64 0]) (by simp [results, Try.results20, go_sem]) rfl ⟨b, c, gs, rfl, hg, ?_, tab_low HT2.out (by omega), (by repeat (first | exact Below.refl _ _ | refine bset ?_ _ _ (by omega) _ | refine bal ?_ _ | refine bdrN ?_ _ | refine bdr ?_ | refine below_tr' ?_ HB2.out | refine below_tr' ?_ HB1.out))⟩
  rcases hout with h0 | ⟨g, h1, h2, h3, h4⟩
  · exact .inl h0
  · exact .inr ⟨g, h1, ⟨by omega, h2.2⟩, h3, h4⟩
set_option maxHeartbeats 2000000 in
theorem IncidenceTable_impl_code (p : Int) (b1 : Option Addr) (n1 c1 : Nat) (b2 : Option Addr) (n2 c2 : Nat) (l1 l2 : List Pt) (w : World) (hn1 : n1 ≤ 1000000) (hn2 : n2 ≤ 1000000) (h1 : ListP w b1 n1 l1) (h2 : ListP w b2 n2 l2) (k : Int) (hk : figC p n1 n2 l1 l2 = k) (h0 : k ≠ 0) :
    Calls Try.prog 20 #[.int .i64 p, figV b1 n1 c1 b2 n2 c2] w (TabAny 0 0 (tblR p l1 l2 n2) k w) := by
  have HC := Lib.hid (fun (W : World) (hW : Below w.heap.size w W) => figureCode_any p b1 n1 c1 b2 n2 c2 l1 l2 W hn1 hn2 (h1.below hW) (h2.below hW))
  rw [hk] at HC
  have hq : (k != 0) = true := bnet h0
  clear h1 h2 hk
  go_enter Try.func20, Try.ntmps20
  go_wp2_with (go_at_call 29; (with_reducible refine (HC.out _ (by repeat (first | exact Below.refl _ _ | refine bset ?_ _ _ (by omega) _ | refine bal ?_ _ | refine bdrN ?_ _ | refine bdr ?_))).mono ?_); rintro e w1_ ⟨rfl, hb1⟩; obtain ⟨hcb1, hfb1, hlb1⟩ := bcell hb1; have hsz1 := hb1.size; (try simp at hsz1); have HB1 := Lib.hid hb1; clear hb1; (try (have hl01 : w.heap.size < w1_.heap.size := by omega)))
  exact bodyPost_ret (v := .tuple #[.slice none 0 0, .int .i64 k]) (by simp [results, Try.results20, go_sem]) rfl ⟨none, 0, [], rfl, rfl, .inl ⟨rfl, rfl⟩, (fun i hi => absurd hi (by simp)), (by repeat (first | exact Below.refl _ _ | refine bset ?_ _ _ (by omega) _ | refine bal ?_ _ | refine bdrN ?_ _ | refine bdr ?_ | refine below_tr' ?_ HB1.out))⟩
theorem IncidenceTable_impl (p : Int) (b1 : Option Addr) (n1 c1 : Nat) (b2 : Option Addr) (n2 c2 : Nat) (l1 l2 : List Pt) (w : World) (hn1 : n1 ≤ 1000000) (hn2 : n2 ≤ 1000000) (h1 : ListP w b1 n1 l1) (h2 : ListP w b2 n2 l2) :
    Calls Try.prog 20 #[.int .i64 p, figV b1 n1 c1 b2 n2 c2] w (TabAny (dualM (figC p n1 n2 l1 l2) n1) (dualM (figC p n1 n2 l1 l2) n2) (tblR p l1 l2 n2) (figC p n1 n2 l1 l2) w) := by
  unfold dualM
  by_cases h0 : figC p n1 n2 l1 l2 = 0
  · rw [if_pos h0, if_pos h0, h0]
    exact IncidenceTable_impl_good p b1 n1 c1 b2 n2 c2 l1 l2 w hn1 hn2 h1 h2 h0
  · rw [if_neg h0, if_neg h0]
    exact IncidenceTable_impl_code p b1 n1 c1 b2 n2 c2 l1 l2 w hn1 hn2 h1 h2 _ rfl h0
set_option maxHeartbeats 2000000 in
theorem IncidenceTable_spec_good (p : Int) (b1 : Option Addr) (n1 c1 : Nat) (b2 : Option Addr) (n2 c2 : Nat) (l1 l2 : List Pt) (w : World) (hn1 : n1 ≤ 1000000) (hn2 : n2 ≤ 1000000) (h1 : ListP w b1 n1 l1) (h2 : ListP w b2 n2 l2) (hk : figC p n1 n2 l1 l2 = 0) :
    Calls Try.prog 19 #[.int .i64 p, figV b1 n1 c1 b2 n2 c2] w (TabAny n1 n2 (tblR p l1 l2 n2) 0 w) := by
  obtain ⟨hp, m1, m2⟩ := figC_zero hk
  obtain ⟨q1, q2⟩ := figC_pts hk
  have HC := Lib.hid (fun (W : World) (hW : Below w.heap.size w W) => l09Code_any p b1 n1 c1 b2 n2 c2 l1 l2 W hn1 hn2 (h1.below hW) (h2.below hW))
  rw [hk] at HC
  have HT := Lib.hid (fun (W : World) (hW : Below w.heap.size w W) => l09Table_any p b1 n1 c1 b2 n2 c2 l1 l2 W hp m1 m2 (h1.below hW) (h2.below hW) q1 q2)
  clear h1 h2 hk hp q1 q2
  go_enter Try.func19, Try.ntmps19
  go_wp2_with (first
    | (go_at_call 26; (with_reducible refine (HC.out _ (by repeat (first | exact Below.refl _ _ | refine bset ?_ _ _ (by omega) _ | refine bal ?_ _ | refine bdrN ?_ _ | refine bdr ?_))).mono ?_); rintro e w1_ ⟨rfl, hb1⟩; obtain ⟨hcb1, hfb1, hlb1⟩ := bcell hb1; have hsz1 := hb1.size; (try simp at hsz1); have HB1 := Lib.hid hb1; clear hb1; (try (have hl01 : w.heap.size < w1_.heap.size := by omega)))
    | (go_at_call 38; (with_reducible refine (HT.out _ (by repeat (first | exact Below.refl _ _ | refine bset ?_ _ _ (by omega) _ | refine bal ?_ _ | refine bdrN ?_ _ | refine bdr ?_ | refine below_tr' ?_ HB1.out))).mono ?_); rintro e w2_ ⟨v, gs, rfl, hg, ho, ht, hb⟩; have HO2 := Lib.hid ho; have HT2 := Lib.hid ht; have HB2 := Lib.hid hb; clear ho ht hb))
  obtain ⟨b, c, rfl, hout⟩ := tab_open HO2.out hg HT2.out
  have hs1 := HB1.out.size
  try simp at hs1
  refine bodyPost_ret (v := .tuple #[.slice b n1 c, .int .i64 0]) (by simp [results, Try.results19, go_sem]) rfl ⟨b, c, gs, rfl, hg, ?_, tab_low HT2.out (by omega), (by repeat (first | exact Below.refl _ _ | refine bset ?_ _ _ (by omega) _ | refine bal ?_ _ | refine bdrN ?_ _ | refine bdr ?_ | refine below_tr' ?_ HB2.out | refine below_tr' ?_ HB1.out))⟩
  rcases hout with h0 | ⟨g, h1, h2, h3, h4⟩
  · exact .inl h0
  · exact .inr ⟨g, h1, ⟨by omega, h2.2⟩, h3, h4⟩
set_option maxHeartbeats 2000000 in
theorem IncidenceTable_spec_code (p : Int) (b1 : Option Addr) (n1 c1 : Nat) (b2 : Option Addr) (n2 c2 : Nat) (l1 l2 : List Pt) (w : World) (hn1 : n1 ≤ 1000000) (hn2 : n2 ≤ 1000000) (h1 : ListP w b1 n1 l1) (h2 : ListP w b2 n2 l2) (k : Int) (hk : figC p n1 n2 l1 l2 = k) (h0 : k ≠ 0) :
    Calls Try.prog 19 #[.int .i64 p, figV b1 n1 c1 b2 n2 c2] w (TabAny 0 0 (tblR p l1 l2 n2) k w) := by
  have HC := Lib.hid (fun (W : World) (hW : Below w.heap.size w W) => l09Code_any p b1 n1 c1 b2 n2 c2 l1 l2 W hn1 hn2 (h1.below hW) (h2.below hW))
  rw [hk] at HC
  have hq : (k != 0) = true := bnet h0
  clear h1 h2 hk
  go_enter Try.func19, Try.ntmps19
  go_wp2_with (go_at_call 26; (with_reducible refine (HC.out _ (by repeat (first | exact Below.refl _ _ | refine bset ?_ _ _ (by omega) _ | refine bal ?_ _ | refine bdrN ?_ _ | refine bdr ?_))).mono ?_); rintro e w1_ ⟨rfl, hb1⟩; obtain ⟨hcb1, hfb1, hlb1⟩ := bcell hb1; have hsz1 := hb1.size; (try simp at hsz1); have HB1 := Lib.hid hb1; clear hb1; (try (have hl01 : w.heap.size < w1_.heap.size := by omega)))
  exact bodyPost_ret (v := .tuple #[.slice none 0 0, .int .i64 k]) (by simp [results, Try.results19, go_sem]) rfl ⟨none, 0, [], rfl, rfl, .inl ⟨rfl, rfl⟩, (fun i hi => absurd hi (by simp)), (by repeat (first | exact Below.refl _ _ | refine bset ?_ _ _ (by omega) _ | refine bal ?_ _ | refine bdrN ?_ _ | refine bdr ?_ | refine below_tr' ?_ HB1.out))⟩
theorem IncidenceTable_spec (p : Int) (b1 : Option Addr) (n1 c1 : Nat) (b2 : Option Addr) (n2 c2 : Nat) (l1 l2 : List Pt) (w : World) (hn1 : n1 ≤ 1000000) (hn2 : n2 ≤ 1000000) (h1 : ListP w b1 n1 l1) (h2 : ListP w b2 n2 l2) :
    Calls Try.prog 19 #[.int .i64 p, figV b1 n1 c1 b2 n2 c2] w (TabAny (dualM (figC p n1 n2 l1 l2) n1) (dualM (figC p n1 n2 l1 l2) n2) (tblR p l1 l2 n2) (figC p n1 n2 l1 l2) w) := by
  unfold dualM
  by_cases h0 : figC p n1 n2 l1 l2 = 0
  · rw [if_pos h0, if_pos h0, h0]
    exact IncidenceTable_spec_good p b1 n1 c1 b2 n2 c2 l1 l2 w hn1 hn2 h1 h2 h0
  · rw [if_neg h0, if_neg h0]
    exact IncidenceTable_spec_code p b1 n1 c1 b2 n2 c2 l1 l2 w hn1 hn2 h1 h2 _ rfl h0
theorem dualM_bd {p : Int} {n1 n2 : Nat} {l1 l2 : List Pt} : dualM (figC p n1 n2 l1 l2) n1 ≤ 16 ∧ dualM (figC p n1 n2 l1 l2) n2 ≤ 16 := by
  unfold dualM
  by_cases h0 : figC p n1 n2 l1 l2 = 0
  · obtain ⟨_, m1, m2⟩ := figC_zero h0
    rw [if_pos h0, if_pos h0]; exact ⟨m1, m2⟩
  · rw [if_neg h0, if_neg h0]; omega
/-- All of a table's blocks lie below. -/
def Bnd (b : Option Addr) (gs : List (Nat × Nat)) (hi : Nat) : Prop := (∀ a, b = some a → a.block < hi) ∧ ∀ i, i < gs.length → (gs.getD i (0, 0)).1 < hi
theorem bnd_of {W : World} {lo n2 : Nat} {b : Option Addr} {tbl : Nat → List Int} {gs : List (Nat × Nat)} (o : OutIn W lo b n2 gs) (t : TabAt W lo n2 tbl gs) : Bnd b gs W.heap.size := by
  refine ⟨fun a ha => ?_, fun i hi => (t i hi).2.1⟩
  rcases o with ⟨h0, _⟩ | ⟨g, h1, h2, _⟩
  · rw [h0] at ha; cases ha
  · rw [h1] at ha; cases ha; exact h2.2
theorem out_blocks {w W : World} {lo hi n2 : Nat} {b : Option Addr} {gs : List (Nat × Nat)} (o : OutIn w lo b n2 gs) (hb : Bnd b gs hi) (hs : w.heap.size ≤ W.heap.size) (hk : ∀ k, lo ≤ k → k < hi → W.heap[k]? = w.heap[k]?) : OutIn W lo b n2 gs := by
  rcases o with h0 | ⟨g, h1, h2, h3, h4⟩
  · exact .inl h0
  · refine .inr ⟨g, h1, ⟨h2.1, Nat.lt_of_lt_of_le h2.2 hs⟩, fun i hi => ?_, h4⟩
    have hc : W.cell? ⟨g, i, none⟩ = w.cell? ⟨g, i, none⟩ := by unfold World.cell?; rw [hk g h2.1 (hb.1 _ h1)]
    rw [hc]; exact h3 i hi
theorem tab_blocks {w W : World} {lo hi n2 : Nat} {b : Option Addr} {tbl : Nat → List Int} {gs : List (Nat × Nat)} (t : TabAt w lo n2 tbl gs) (hb : Bnd b gs hi) (hs : w.heap.size ≤ W.heap.size) (hk : ∀ k, lo ≤ k → k < hi → W.heap[k]? = w.heap[k]?) : TabAt W lo n2 tbl gs :=
  tab_same t hs (fun i hi => hk _ (t i hi).1 (hb.2 i hi))
end Go.Proofs.Ytidbikjdigemnaa
/- A region whose first m operations draw their order and yield values of which a relation is known (slot, value, world); the others come behind them, in the text's order. (Printed by genregx.py, a program of this session.) -/
namespace Go.Proofs.Ytidbikjdigemnaa
open Go.RowKit
set_option linter.unusedVariables false
set_option linter.unusedSimpArgs false
structure relAt (P : Program) (o : Oper) (a : Act) (W : World) (S : Value → World → Prop) (Q : Exit → Act → World → Prop) : Prop where
  out : o.wp P a W (fun a' W' => ∃ v, a' = a.put o.dst v ∧ Below W.heap.size W W' ∧ S v W') Q
theorem rel_calm {P : Program} {o : Oper} {a : Act} {W : World} {S : Value → World → Prop} {Q : Exit → Act → World → Prop} {v : Value} (h : calmAt P o a.eval W v) (hS : ∀ W', Below W.heap.size W W' → S v W') : relAt P o a W S Q :=
  ⟨wp_of_calm h fun W' hb => ⟨v, rfl, hb, hS W' hb⟩⟩
theorem rel_new {P : Program} {o : Oper} {a : Act} {W W' : World} {S : Value → World → Prop} {Q : Exit → Act → World → Prop} {v : Value} (h : (execOp a.eval o).run P W = .ok (.value v) W') (hb : Below W.heap.size W W') (hS : S v W') : relAt P o a W S Q := by
  refine ⟨?_⟩
  unfold Oper.wp
  rw [h]
  exact ⟨v, rfl, hb, hS⟩
/-- What a call leaves. -/
def RelPost (W : World) (S : Value → World → Prop) (e : Ending) (W' : World) : Prop := ∃ v, e = .returned v ∧ Below W.heap.size W W' ∧ S v W'
theorem rel_call {P : Program} {o : Oper} {a : Act} {W : World} {S : Value → World → Prop} {Q : Exit → Act → World → Prop} (f : Nat) (c : Call) (args : Array Value) (ho : o.op = .call c) (hc : c.callee = .value (.func f)) (ha : c.args.map a.eval = args)
    (hf : (callFunc f args).run P W = .ok (.enter f args) W) (h : Calls P f args W (RelPost W S)) : relAt P o a W S Q := by
  refine ⟨?_⟩
  have hr : (execOp a.eval o).run P W = .ok (.enter f args) W := by
    unfold execOp
    have hρ : a.eval (.func f) = .func (.func f) #[] #[] := rfl
    simp only [ho, resolve, hc, hρ, ha, Deferred.ofValue, Sem.run_bind, Sem.run_pure, Result.andThen_ok, invoke, Array.append_empty, Array.empty_append, hf]
  unfold Oper.wp
  rw [hr, Oper.upon_enter]
  exact h.mono fun e w'' ⟨v, he, hb, hS⟩ => by subst he; exact ⟨v, rfl, hb, hS⟩
structure RInvX (l : List Oper) (m : Nat) (Rel : Nat → Value → World → Prop) (a0 : Act) (w0 : World) (listed : Array Bool) (a : Act) (w : World) : Prop where
  df : a.defers = a0.defers
  sz : a.tmps.size = a0.tmps.size
  len : listed.size = l.length
  fr1 : ∀ (j : Nat) (o : Oper) (t : Nat), j < m → l[j]? = some o → o.dst = some t → listed.getD j false = true → Rel t (a.tmps.getD t undef) w
  fr0 : ∀ t : Nat, (∀ (j : Nat) (o : Oper), j < m → l[j]? = some o → o.dst = some t → listed.getD j false = false) → a.tmps.getD t undef = a0.tmps.getD t undef
  bl : Below w0.heap.size w0 w
  rest : ∀ j, m ≤ j → listed.getD j false = false
  dc : ∀ (i : Nat) (o : Oper), l[i]? = some o → listed.getD i false = true → ∀ e ∈ o.after, Region.binds .any e = true → listed.getD e.on false = true
/-- What an operation may take of the slots that it reads. -/
def Taken (ts : List Nat) (Rel : Nat → Value → World → Prop) (a0 a : Act) (W : World) (u : Nat) : Prop := (ts.contains u = true → Rel u (a.tmps.getD u undef) W) ∧ (ts.contains u = false → a.tmps.getD u undef = a0.tmps.getD u undef)
structure RelOk (P : Program) (ts : List Nat) (Rel : Nat → Value → World → Prop) (Q : Exit → Act → World → Prop) (a0 : Act) (w : World) (o : Oper) : Prop where
  out : o.guard = none ∧ ∀ t, o.dst = some t → ∀ (a : Act) (W : World), Below w.heap.size w W → (∀ u, (readsOf o).contains u = true → Taken ts Rel a0 a W u) → relAt P o a W (Rel t) Q
theorem RelOk.mk' {P : Program} {ts : List Nat} {Rel : Nat → Value → World → Prop} {Q : Exit → Act → World → Prop} {a0 : Act} {w : World} {o : Oper} (t : Nat) (hd : o.dst = some t) (hg : o.guard = none)
    (h : ∀ (a : Act) (W : World), Below w.heap.size w W → (∀ u, (readsOf o).contains u = true → Taken ts Rel a0 a W u) → relAt P o a W (Rel t) Q) : RelOk P ts Rel Q a0 w o :=
  ⟨hg, fun t' hd' => by rw [hd] at hd'; obtain rfl := Option.some.inj hd'; exact h⟩
def AllR (p : Oper → Prop) : List Oper → Prop
  | [] => True
  | o :: r => p o ∧ AllR p r
theorem AllR.spec {p : Oper → Prop} {l : List Oper} (h : AllR p l) : ∀ o, o ∈ l → p o := by
  induction l with
  | nil => intro o ho; cases ho
  | cons x r ih =>
    intro o ho
    rcases List.mem_cons.1 ho with e | e
    · rw [e]; exact h.1
    · exact ih h.2 o e
theorem puts_vals (v : Nat → Value) (t : Nat) : ∀ (ts : List Nat) (a : Act), t ∈ ts → t < a.tmps.size → (puts a (ts.map fun t => (t, v t))).tmps.getD t undef = v t
  | [], _, h, _ => by cases h
  | u :: r, a, h, hs => by
    show (puts (a.put (some u) (v u)) (r.map fun t => (t, v t))).tmps.getD t undef = v t
    by_cases hr : t ∈ r
    · exact puts_vals v t r _ hr (by rw [put_size]; exact hs)
    · rcases List.mem_cons.1 h with e | e
      · subst e
        rw [puts_other t _ _ (fun kv hkv e => hr (by obtain ⟨x, hx, rfl⟩ := List.mem_map.1 hkv; rw [← e]; exact hx)), put_get_same _ _ _ hs]
      · exact (hr e).elim
section
variable {P : Program} {Q : Exit → Act → World → Prop} {l : List Oper} {a0 : Act} {w : World} {m : Nat} {ts : List Nat} {Rel : Nat → Value → World → Prop}
theorem region_rel {id : Nat} (m : Nat) (ts : List Nat) (Rel : Nat → Value → World → Prop) (hm : P.follows .mixedOrders = true) (hml : m ≤ l.length)
    (chk : viaChk l m a0.tmps.size = true) (hts : (l.take m).filterMap (·.dst) = ts)
    (mono : ∀ t, ts.contains t = true → ∀ v W W', Rel t v W → Below W.heap.size W W' → Rel t v W')
    (hop : AllR (RelOk P ts Rel Q a0 w) (l.take m))
    (hQ : ∀ (v : Nat → Value) (W : World), Below w.heap.size w W → (∀ t, ts.contains t = true → Rel t (v t) W) → wpList P l.toArray Q (l.drop m) (puts a0 (ts.map fun t => (t, v t))) W) :
    (Code.region id l.toArray true).wp P Q a0 w := by
  have hopi : ∀ (i : Nat) (o : Oper), i < m → l[i]? = some o → RelOk P ts Rel Q a0 w o := fun i o him hi => AllR.spec hop o (List.mem_take_iff_getElem.2 ⟨i, by have := (List.getElem?_eq_some_iff.1 hi).1; omega, (List.getElem?_eq_some_iff.1 hi).2⟩)
  have hmem : ∀ t, ts.contains t = true ↔ ∃ (j : Nat) (o : Oper), j < m ∧ l[j]? = some o ∧ o.dst = some t := by
    intro t
    rw [List.contains_iff_mem, ← hts, List.mem_filterMap]
    constructor
    · rintro ⟨o, ho, hd⟩
      obtain ⟨j, hj, e⟩ := List.mem_take_iff_getElem.1 ho
      exact ⟨j, o, by omega, by rw [← e]; exact List.getElem?_eq_getElem (by omega), hd⟩
    · rintro ⟨j, o, hj, ho, hd⟩
      exact ⟨o, List.mem_take_iff_getElem.2 ⟨j, by have := (List.getElem?_eq_some_iff.1 ho).1; omega, (List.getElem?_eq_some_iff.1 ho).2⟩, hd⟩
  refine wp_region_any hm ?_
  have key : ∀ (fuel : Nat) (listed : Array Bool) (a : Act) (W : World), RInvX l m Rel a0 w listed a W →
      (List.range m).countP (fun i => !listed.getD i true) + (l.length - m) ≤ fuel → wpAny P .any l.toArray Q fuel listed a W := by
    intro fuel
    have fin : ∀ (fuel : Nat) (listed : Array Bool) (a : Act) (W : World), RInvX l m Rel a0 w listed a W → (∀ j, j < m → listed.getD j false = true) → l.length - m ≤ fuel → wpAny P .any l.toArray Q fuel listed a W := by
      intro fuel listed a W hI hall hf
      have ea : a = puts a0 (ts.map fun t => (t, a.tmps.getD t undef)) := by
        refine act_ext _ _ (by rw [puts_defers]; exact hI.df) (by rw [puts_size]; exact hI.sz) (fun t ht => ?_)
        by_cases htd : ts.contains t = true
        · rw [puts_vals (fun t => a.tmps.getD t undef) t ts a0 (List.contains_iff_mem.1 htd) (by rw [← hI.sz]; exact ht)]
        · rw [puts_other t _ _ (fun kv hkv e => htd (by obtain ⟨x, hx, rfl⟩ := List.mem_map.1 hkv; rw [← e]; exact List.contains_iff_mem.2 hx))]
          exact hI.fr0 t (fun j o hjm hj ho => (htd ((hmem t).2 ⟨j, o, hjm, hj, ho⟩)).elim)
      have hq := hQ (fun t => a.tmps.getD t undef) W hI.bl (fun t ht => by obtain ⟨j, o, hjm, hj, ho⟩ := (hmem t).1 ht; exact hI.fr1 j o t hjm hj ho (hall j hjm))
      rw [← ea] at hq
      refine any_tailV chk fuel m listed _ W (Nat.le_refl _) hml hI.len (fun j hj => ⟨fun h => ?_, fun h => hall j h⟩) hf hq
      rcases Nat.lt_or_ge j m with h2 | h2
      · exact h2
      · rw [hI.rest j h2] at h; cases h
    have look : ∀ (listed : Array Bool) (a : Act) (W : World), RInvX l m Rel a0 w listed a W → ∀ (i : Nat) (o : Oper), i < m → l[i]? = some o →
        (∀ e ∈ o.after, Region.binds .any e = true → listed.getD e.on false = true) → ∀ t, (readsOf o).contains t = true → Taken ts Rel a0 a W t := by
      intro listed a W hI i o him hi hall t ht
      have h := ((viaChk_at chk hi).2.2.1 him).2.2 t (List.contains_iff_mem.1 ht)
      constructor
      · intro hc
        obtain ⟨j, oj, hjm, hj, hjd⟩ := (hmem t).1 hc
        obtain ⟨e, he, hb, hon⟩ := bindsTo_spec (h j oj hjm hj hjd)
        exact hI.fr1 j oj t hjm hj hjd (by rw [← hon]; exact hall e he hb)
      · intro hc
        exact hI.fr0 t (fun j o hjm hj ho => by rw [(hmem t).2 ⟨j, o, hjm, hj, ho⟩] at hc; cases hc)
    induction fuel with
    | zero =>
      intro listed a W hI hc
      refine fin 0 listed a W hI (fun j hj => ?_) (by omega)
      have h0 : (List.range m).countP (fun i => !listed.getD i true) = 0 := by omega
      rw [List.countP_eq_zero] at h0
      have := h0 j (List.mem_range.2 hj)
      have hj' : j < listed.size := by rw [hI.len]; omega
      simpa [hj'] using this
    | succ fuel ih =>
      intro listed a W hI hc
      by_cases hall : ∀ j, j < m → listed.getD j false = true
      · exact fin _ listed a W hI hall (by omega)
      · have hno : ∀ i, i ∈ Region.ready .any l.toArray listed → i < m := by
          intro i hi
          rcases Nat.lt_or_ge i m with h | h
          · exact h
          · exfalso
            obtain ⟨o, hio, hil, hi0, ha⟩ := ready_mem hi hI.len
            rcases Nat.eq_or_lt_of_le h with h2 | h2
            · refine hall (fun j hj => ?_)
              exact reach_listed hI.dc _ i j o hio ha ((viaChk_at chk hio).2.2.2.1 h2.symm j hj)
            · obtain ⟨e, he, hb, hon⟩ := bindsTo_spec ((viaChk_at chk hio).2.2.2.2 h2)
              have h3 := ha e he hb
              rw [hon, hI.rest (i - 1) (by omega)] at h3; cases h3
        refine ⟨fun hr => ?_, fun i hi => ?_⟩
        · exfalso
          have all : ∀ i, i < l.length → listed.getD i false = true := by
            intro i
            induction i using Nat.strongRecOn with
            | _ i ih2 =>
              intro hi
              cases hb : listed.getD i false with
              | true => rfl
              | false =>
                exfalso
                have ho : l[i]? = some l[i] := List.getElem?_eq_getElem hi
                have hmem : i ∈ Region.ready .any l.toArray listed := by
                  rw [mem_ready]
                  refine ⟨?_, l[i], by simp, fun e he hbd => ?_⟩
                  · have : i < listed.size := by have := hI.len; omega
                    simp [this] at hb ⊢; exact hb
                  · exact ih2 e.on ((viaChk_at chk ho).2.1 e he hbd) (by have := (viaChk_at chk ho).2.1 e he hbd; omega)
                rw [hr] at hmem; cases hmem
          exact hall (fun j hj => all j (by omega))
        · have him := hno i hi
          obtain ⟨o, hio, hil, hi0, hal⟩ := ready_mem hi hI.len
          have hil' : i < listed.size := by rw [hI.len]; exact hil
          have ho : l.toArray[i]? = some o := by simpa using hio
          have hC := viaChk_at chk hio
          have hCm := hC.2.2.1 him
          obtain ⟨t, hdst, htN⟩ := hCm.2.1
          have hw : Region.wanted o (yielded l.toArray a.tmps) = true := by unfold Region.wanted; rw [(hopi i o him hio).out.1]
          have hcnt : (List.range m).countP (fun j => !(listed.setIfInBounds i true).getD j true) + (l.length - m) ≤ fuel := by
            have := count_lt (fun j => !listed.getD j true) (fun j => !(listed.setIfInBounds i true).getD j true) (fun j hj => by
                by_cases e : i = j
                · subst e; simp [hil'] at hj
                · rw [getD_set_ne true e] at hj; exact hj) i (by simpa [hil'] using hi0) (by simp [hil']) (List.range m) (List.mem_range.2 him)
            omega
          have dcS : ∀ (i2 : Nat) (o2 : Oper), l[i2]? = some o2 → (listed.setIfInBounds i true).getD i2 false = true → ∀ e ∈ o2.after, Region.binds .any e = true → (listed.setIfInBounds i true).getD e.on false = true := by
            intro j oj hj hl e he hb
            rw [getD_set _ _ _ hil']
            by_cases ei : i = e.on
            · rw [if_pos ei]
            · rw [if_neg ei]
              rw [getD_set _ _ _ hil'] at hl
              by_cases ej : i = j
              · subst ej; rw [hio] at hj; obtain rfl := Option.some.inj hj; exact hal e he hb
              · rw [if_neg ej] at hl; exact hI.dc j oj hj hl e he hb
          have hrel := ((hopi i o him hio).out.2 t hdst a W hI.bl (look listed a W hI i o him hio hal)).out
          unfold wpOp
          simp only [ho, hw, if_true]
          refine .inl (Oper.wp_mono (fun a' W' h => ?_) hrel)
          obtain ⟨v, rfl, hb, hS⟩ := h
          rw [hdst]
          refine ih _ _ _ ⟨by rw [put_defers]; exact hI.df, by rw [put_size]; exact hI.sz, by simpa using hI.len, ?_, ?_, below_tr' hI.bl hb, ?_, dcS⟩ hcnt
          · intro j oj u hjm hj hjd hl
            by_cases htu : t = u
            · subst htu; rw [put_get_same _ _ _ (by rw [hI.sz]; exact htN)]; exact hS
            · rw [put_get_ne _ _ _ _ htu]
              rw [getD_set _ _ _ hil'] at hl
              by_cases e : i = j
              · subst e; rw [hio] at hj; obtain rfl := Option.some.inj hj; rw [hdst] at hjd; exact (htu (Option.some.inj hjd)).elim
              · rw [if_neg e] at hl; exact mono u ((hmem u).2 ⟨j, oj, hjm, hj, hjd⟩) _ _ _ (hI.fr1 j oj u hjm hj hjd hl) hb
          · intro u hnu
            have htu : t ≠ u := fun e => by
              subst e
              have := hnu i o him hio hdst
              rw [getD_set _ _ _ hil', if_pos rfl] at this; cases this
            rw [put_get_ne _ _ _ _ htu]
            refine hI.fr0 u (fun j oj hjm hj hjd => ?_)
            have := hnu j oj hjm hj hjd
            rw [getD_set _ _ _ hil'] at this
            by_cases e : i = j
            · rw [if_pos e] at this; cases this
            · rw [if_neg e] at this; exact this
          · intro j hj
            rw [getD_set _ _ _ hil', if_neg (by omega)]; exact hI.rest j hj
  refine key _ _ _ _ ⟨rfl, rfl, by simp, ?_, ?_, ⟨rfl, rfl, rfl, Nat.le_refl _, fun _ _ => rfl⟩, ?_, ?_⟩ ?_
  · intro j o t _ hj hjd hl; rw [rep_false] at hl; cases hl
  · intro t _; rfl
  · intro j _; exact rep_false _ _
  · intro j o _ hl; rw [rep_false] at hl; cases hl
  · have : (List.range m).countP (fun i => !(Array.replicate l.toArray.size false).getD i true) ≤ m := Nat.le_trans List.countP_le_length (by simp)
    simp at this ⊢; omega
end
/-- Relations by slots. -/
def relOf : List (Nat × (Value → World → Prop)) → Nat → Value → World → Prop
  | [], _, _, _ => True
  | kv :: r, t, v, W => if kv.1 = t then kv.2 v W else relOf r t v W
structure Mono (R : Value → World → Prop) : Prop where
  out : ∀ v W W', R v W → Below W.heap.size W W' → R v W'
def AllM : List (Nat × (Value → World → Prop)) → Prop
  | [] => True
  | kv :: r => Mono kv.2 ∧ AllM r
theorem AllM.spec : ∀ (rs : List (Nat × (Value → World → Prop))), AllM rs → ∀ t v W W', relOf rs t v W → Below W.heap.size W W' → relOf rs t v W'
  | [], _, _, _, _, _, _, _ => trivial
  | kv :: r, h, t, v, W, W', hr, hb => by
    unfold relOf at hr ⊢
    split
    · rename_i e; rw [if_pos e] at hr; exact h.1.out v W W' hr hb
    · rename_i e; rw [if_neg e] at hr; exact AllM.spec r h.2 t v W W' hr hb
def isV (A : Value) : Value → World → Prop := fun v _ => v = A
theorem mono_is (A : Value) : Mono (isV A) := ⟨fun _ _ _ h _ => h⟩
theorem region_rels {P : Program} {Q : Exit → Act → World → Prop} {l : List Oper} {a0 : Act} {w : World} {id : Nat} (m : Nat) (rs : List (Nat × (Value → World → Prop))) (hm : P.follows .mixedOrders = true) (hml : m ≤ l.length)
    (chk : viaChk l m a0.tmps.size = true) (hts : (l.take m).filterMap (·.dst) = rs.map (·.1))
    (mono : AllM rs)
    (hop : AllR (RelOk P (rs.map (·.1)) (relOf rs) Q a0 w) (l.take m))
    (hQ : ∀ (v : Nat → Value) (W : World), Below w.heap.size w W → (∀ t, (rs.map (·.1)).contains t = true → relOf rs t (v t) W) → wpList P l.toArray Q (l.drop m) (puts a0 (rs.map fun kv => (kv.1, v kv.1))) W) :
    (Code.region id l.toArray true).wp P Q a0 w := by
  refine region_rel m (rs.map (·.1)) (relOf rs) hm hml chk hts (fun t _ v W W' hr hb => AllM.spec rs mono t v W W' hr hb) hop (fun v W hW hv => ?_)
  have := hQ v W hW hv
  rw [List.map_map]
  exact this
end Go.Proofs.Ytidbikjdigemnaa
