/- Contracts: the laws' own lists of lines: made with room behind, compared. (Printed by geng1.py, a program of this session.) -/
import Derived.Test.YthkbhaaodegocaaF2
import Derived.Test.YthkbhaaodegocaaG1
namespace Go.Proofs.Ythkbhaaodegocaa
open Go.RowKit
set_option linter.unusedVariables false
set_option linter.unusedSimpArgs false
set_option maxHeartbeats 2000000 in
theorem toLineS_any (b : Option Addr) (n cap : Nat) (bare : Bool) (l : List Pt) (w : World) (hl : l.length = n) (hn : n ≤ 1000000) (hb : bare = false ∨ 0 < n)
    (hc : 0 < n → ∃ g off, b = some ⟨g, off, none⟩ ∧ PtsAt w g off n l) :
    Calls Try.prog 112 #[.slice b n cap, .bool bare] w (LaidP 24 w l) := by
  obtain ⟨i0, hi, hz0, hz1, hz2⟩ := info_parts (show (Try.prog.info? 24).map (fun i => (i.zero, i.size, i.bytes)) = some (some (.agg #[.int .i64 0, .int .i64 0, .int .i64 0]), 3, 24) by kernel_rfl)
  have HR := Lib.hid (fun (W : World) => roomBehind_any n W hn)
  have HL := Lib.hid hl
  have HC := Lib.hid hc
  have HI0 := Lib.hid hi; have HZ0 := Lib.hid hz0; have HZ1 := Lib.hid hz1; have HZ2 := Lib.hid hz2
  have hr0 := roomN_le n
  have HT := Lib.hid (withRoomP_length l)
  have HF := Lib.hid (withRoomP_fill l)
  have HA := Lib.hid (withRoomP_at l)
  rw [hl] at HT HF HA
  have HG : Hid (∀ L : List Pt, L.length = n + roomN n → L.take (n + roomN n) = (withRoomP l).take (n + roomN n) → L = withRoomP l) := Lib.hid (fun L h1 h2 => by
    rw [List.take_of_length_le (by omega), List.take_of_length_le (by rw [HT.out]; omega)] at h2; exact h2)
  clear hi hz0 hz1 hz2 hl hc
  have fin : ∀ e w', (∃ g, e = .returned (.slice (some ⟨g, 0, none⟩) n (n + roomN n)) ∧ w.heap.size ≤ g ∧ RoomP w' g (n + roomN n) 24 ∧ PtsAt w' g 0 (n + roomN n) (withRoomP l) ∧ Below w.heap.size w w') → LaidP 24 w l e w' := by
    intro e w' h
    refine ⟨?_⟩
    rw [HL.out]; exact h
  have FIN := Lib.hid fin
  clear fin
  generalize hM : withRoomP l = M at *
  generalize hr : roomN n = r at *
  generalize hm : n + r = m at *
  have hnm : n ≤ m := by omega
  have hm2 : m ≤ 2 * n + 1 := by omega
  have hcond : (n : Int) = 0 → bare = false := by
    intro h
    rcases hb with h2 | h2
    · exact h2
    · omega
  clear hr hb hM
  have HMm := hm
  by_cases h0 : bare = true ∧ n = 0
  · exfalso
    have := hcond (by omega)
    rw [h0.1] at this; cases this
  clear hcond
  cases bare with
  | false =>
    clear h0
    go_enter Try.func112, Try.ntmps112
    go_wp2_with (first
      | (go_at_call 63; refine (HR.out _).mono ?_; rintro e w' ⟨rfl, rfl⟩)
      | (refine wpList_make_pts _ rfl _ _ 74 rfl 24 i0 Try.underlying74 HI0.out HZ0.out HZ1.out .i64 .i64 m _ (by omega) rfl rfl (by rw [HZ2.out]; omega) (by omega) ?_; intro w1 hb1 hr1 hp1 hl1; have HB1 := Lib.hid hb1; have HR1 := Lib.hid hr1; have HP1 := Lib.hid hp1; clear hb1 hr1 hp1))
    go_loopw [6] (fun i wr => ∃ (k : Nat) (L : List Pt), k ≤ n ∧ i = .int .i64 k ∧ Hid (L.length = m ∧ L.take k = M.take k) ∧ Hid (RoomP wr w.heap.size m 24) ∧ Hid (PtsAt wr w.heap.size 0 m L) ∧ Hid (Below w.heap.size w wr)) (fun i wr => n - (intOf i).toNat)
    case atStart => exact ⟨0, _, Nat.zero_le _, rfl, Lib.hid ⟨by simp, by simp⟩, HR1, HP1, HB1⟩
    case round =>
      obtain ⟨k, L, hk, rfl, HL1, HRo, HPt, HB⟩ := hrel
      by_cases hlt : k < n
      · obtain ⟨g, off, rfl, hpt⟩ := HC.out (by omega)
        obtain ⟨c0, c1, c2⟩ := hpt k hlt
        have hgl : g < w.heap.size := World.block_lt_of_cell? w _ c0
        have d0 : wr.cell? ⟨g, off + k * 3, none⟩ = some (.int .i64 (l.getD k (0, 0, 0)).1) := (HB.out.cell hgl).trans c0
        have d1 : wr.cell? ⟨g, off + k * 3 + 1, none⟩ = some (.int .i64 (l.getD k (0, 0, 0)).2.1) := (HB.out.cell hgl).trans c1
        have d2 : wr.cell? ⟨g, off + k * 3 + 2, none⟩ = some (.int .i64 (l.getD k (0, 0, 0)).2.2) := (HB.out.cell hgl).trans c2
        have HS := Lib.hid (take_setP HL1.out.2 (by have := HL1.out.1; omega) (by have := HT.out; omega) (HA.out k hlt))
        clear c0 c1 c2 hpt
        generalize l.getD k (0, 0, 0) = a at *
        obtain ⟨x, y, z⟩ := a
        dsimp only at d0 d1 d2
        obtain ⟨u0, s0⟩ := Option.isSome_iff_exists.1 (HRo.out.some (k * 3) (by omega))
        have r0 := HRo.out.frozen (k * 3)
        obtain ⟨u1, s1⟩ := Option.isSome_iff_exists.1 (HRo.out.some (k * 3 + 1) (by omega))
        have r1 := HRo.out.frozen (k * 3 + 1)
        obtain ⟨u2, s2⟩ := Option.isSome_iff_exists.1 (HRo.out.some (k * 3 + 2) (by omega))
        have r2 := HRo.out.frozen (k * 3 + 2)
        have hwl := HRo.out.lt
        go_wp2_with (go_at_call 78; (with_reducible refine (toLine_any x y z _).mono ?_); rintro e w2_ ⟨rfl, hb2⟩; obtain ⟨hcb2, hfb2, hlb2⟩ := bcell hb2; have hsz2 := hb2.size; (try simp at hsz2); have HB2 := Lib.hid hb2; clear hb2; (try (have hl02 : w.heap.size < w2_.heap.size := by omega)))
        have HR2 := HRo.out.below HB2.out
        have HC2 := HPt.out.below HB2.out
        have HBB := low_tr' HB.out HB2.out (by omega)
        go_roundw
        case rel => exact ⟨k + 1, L.set k (x, y, z), by omega, by go_num, Lib.hid ⟨by rw [List.length_set]; exact HL1.out.1, HS.out⟩, Lib.hid (((HR2.set _ _).set _ _).set _ _), Lib.hid (pts_set HR2 (Nat.le_refl _) HC2 HL1.out.1 k (by omega) x y z), Lib.hid (((HBB.setCell (Nat.le_refl _) _).setCell (Nat.le_refl _) _).setCell (Nat.le_refl _) _)⟩
        case measure => simp [intOf]; omega
      · have hkn : k = n := by omega
        subst hkn
        go_wp2
        go_loopw [7] (fun i wr => ∃ (j : Nat) (L : List Pt), k ≤ j ∧ j ≤ m ∧ i = .int .i64 j ∧ Hid (L.length = m ∧ L.take j = M.take j) ∧ Hid (RoomP wr w.heap.size m 24) ∧ Hid (PtsAt wr w.heap.size 0 m L) ∧ Hid (Below w.heap.size w wr)) (fun i wr => m - (intOf i).toNat)
        case atStart => exact ⟨k, L, Nat.le_refl _, by omega, rfl, HL1, HRo, HPt, HB⟩
        case round =>
          clear HL1 HRo HPt HB hlt hk
          obtain ⟨j, L, hkj, hj, rfl, HL1, HRo, HPt, HB⟩ := hrel
          by_cases hlt : j < m
          · have HS := Lib.hid (take_setP HL1.out.2 (by have := HL1.out.1; omega) (by have := HT.out; omega) (HF.out j hkj hlt))
            obtain ⟨u0, s0⟩ := Option.isSome_iff_exists.1 (HRo.out.some (j * 3) (by omega))
            have r0 := HRo.out.frozen (j * 3)
            obtain ⟨u1, s1⟩ := Option.isSome_iff_exists.1 (HRo.out.some (j * 3 + 1) (by omega))
            have r1 := HRo.out.frozen (j * 3 + 1)
            obtain ⟨u2, s2⟩ := Option.isSome_iff_exists.1 (HRo.out.some (j * 3 + 2) (by omega))
            have r2 := HRo.out.frozen (j * 3 + 2)
            have hwl := HRo.out.lt
            go_wp2
            go_roundw
            case rel => exact ⟨j + 1, L.set j fillP, by omega, by omega, by go_num, Lib.hid ⟨by rw [List.length_set]; exact HL1.out.1, HS.out⟩, Lib.hid (((HRo.out.set _ _).set _ _).set _ _), Lib.hid (pts_set HRo.out (Nat.le_refl _) HPt.out HL1.out.1 j (by omega) _ _ _), Lib.hid (((HB.out.setCell (Nat.le_refl _) _).setCell (Nat.le_refl _) _).setCell (Nat.le_refl _) _)⟩
            case measure => simp [intOf]; omega
          · have hjn : j = m := by omega
            subst hjn
            go_wp2
            go_ret
            have hE := HG.out L HL1.out.1 HL1.out.2
            exact FIN.out _ _ ⟨w.heap.size, rfl, Nat.le_refl _, HRo.out, by rw [← hE]; exact HPt.out, HB.out⟩
  | true =>
    have hn0 : 0 < n := by
      rcases Nat.eq_zero_or_pos n with h | h
      · exact (h0 ⟨rfl, h⟩).elim
      · exact h
    have hnz : ((n : Int) == 0) = false := by simp; omega
    clear h0
    go_enter Try.func112, Try.ntmps112
    go_wp2_with (first
      | (go_at_call 63; refine (HR.out _).mono ?_; rintro e w' ⟨rfl, rfl⟩)
      | (refine wpList_make_pts _ rfl _ _ 74 rfl 24 i0 Try.underlying74 HI0.out HZ0.out HZ1.out .i64 .i64 m _ (by omega) rfl rfl (by rw [HZ2.out]; omega) (by omega) ?_; intro w1 hb1 hr1 hp1 hl1; have HB1 := Lib.hid hb1; have HR1 := Lib.hid hr1; have HP1 := Lib.hid hp1; clear hb1 hr1 hp1))
    go_loopw [6] (fun i wr => ∃ (k : Nat) (L : List Pt), k ≤ n ∧ i = .int .i64 k ∧ Hid (L.length = m ∧ L.take k = M.take k) ∧ Hid (RoomP wr w.heap.size m 24) ∧ Hid (PtsAt wr w.heap.size 0 m L) ∧ Hid (Below w.heap.size w wr)) (fun i wr => n - (intOf i).toNat)
    case atStart => exact ⟨0, _, Nat.zero_le _, rfl, Lib.hid ⟨by simp, by simp⟩, HR1, HP1, HB1⟩
    case round =>
      obtain ⟨k, L, hk, rfl, HL1, HRo, HPt, HB⟩ := hrel
      by_cases hlt : k < n
      · obtain ⟨g, off, rfl, hpt⟩ := HC.out (by omega)
        obtain ⟨c0, c1, c2⟩ := hpt k hlt
        have hgl : g < w.heap.size := World.block_lt_of_cell? w _ c0
        have d0 : wr.cell? ⟨g, off + k * 3, none⟩ = some (.int .i64 (l.getD k (0, 0, 0)).1) := (HB.out.cell hgl).trans c0
        have d1 : wr.cell? ⟨g, off + k * 3 + 1, none⟩ = some (.int .i64 (l.getD k (0, 0, 0)).2.1) := (HB.out.cell hgl).trans c1
        have d2 : wr.cell? ⟨g, off + k * 3 + 2, none⟩ = some (.int .i64 (l.getD k (0, 0, 0)).2.2) := (HB.out.cell hgl).trans c2
        have HS := Lib.hid (take_setP HL1.out.2 (by have := HL1.out.1; omega) (by have := HT.out; omega) (HA.out k hlt))
        clear c0 c1 c2 hpt
        generalize l.getD k (0, 0, 0) = a at *
        obtain ⟨x, y, z⟩ := a
        dsimp only at d0 d1 d2
        obtain ⟨u0, s0⟩ := Option.isSome_iff_exists.1 (HRo.out.some (k * 3) (by omega))
        have r0 := HRo.out.frozen (k * 3)
        obtain ⟨u1, s1⟩ := Option.isSome_iff_exists.1 (HRo.out.some (k * 3 + 1) (by omega))
        have r1 := HRo.out.frozen (k * 3 + 1)
        obtain ⟨u2, s2⟩ := Option.isSome_iff_exists.1 (HRo.out.some (k * 3 + 2) (by omega))
        have r2 := HRo.out.frozen (k * 3 + 2)
        have hwl := HRo.out.lt
        go_wp2_with (go_at_call 78; (with_reducible refine (toLine_any x y z _).mono ?_); rintro e w2_ ⟨rfl, hb2⟩; obtain ⟨hcb2, hfb2, hlb2⟩ := bcell hb2; have hsz2 := hb2.size; (try simp at hsz2); have HB2 := Lib.hid hb2; clear hb2; (try (have hl02 : w.heap.size < w2_.heap.size := by omega)))
        have HR2 := HRo.out.below HB2.out
        have HC2 := HPt.out.below HB2.out
        have HBB := low_tr' HB.out HB2.out (by omega)
        go_roundw
        case rel => exact ⟨k + 1, L.set k (x, y, z), by omega, by go_num, Lib.hid ⟨by rw [List.length_set]; exact HL1.out.1, HS.out⟩, Lib.hid (((HR2.set _ _).set _ _).set _ _), Lib.hid (pts_set HR2 (Nat.le_refl _) HC2 HL1.out.1 k (by omega) x y z), Lib.hid (((HBB.setCell (Nat.le_refl _) _).setCell (Nat.le_refl _) _).setCell (Nat.le_refl _) _)⟩
        case measure => simp [intOf]; omega
      · have hkn : k = n := by omega
        subst hkn
        go_wp2
        go_loopw [7] (fun i wr => ∃ (j : Nat) (L : List Pt), k ≤ j ∧ j ≤ m ∧ i = .int .i64 j ∧ Hid (L.length = m ∧ L.take j = M.take j) ∧ Hid (RoomP wr w.heap.size m 24) ∧ Hid (PtsAt wr w.heap.size 0 m L) ∧ Hid (Below w.heap.size w wr)) (fun i wr => m - (intOf i).toNat)
        case atStart => exact ⟨k, L, Nat.le_refl _, by omega, rfl, HL1, HRo, HPt, HB⟩
        case round =>
          clear HL1 HRo HPt HB hlt hk
          obtain ⟨j, L, hkj, hj, rfl, HL1, HRo, HPt, HB⟩ := hrel
          by_cases hlt : j < m
          · have HS := Lib.hid (take_setP HL1.out.2 (by have := HL1.out.1; omega) (by have := HT.out; omega) (HF.out j hkj hlt))
            obtain ⟨u0, s0⟩ := Option.isSome_iff_exists.1 (HRo.out.some (j * 3) (by omega))
            have r0 := HRo.out.frozen (j * 3)
            obtain ⟨u1, s1⟩ := Option.isSome_iff_exists.1 (HRo.out.some (j * 3 + 1) (by omega))
            have r1 := HRo.out.frozen (j * 3 + 1)
            obtain ⟨u2, s2⟩ := Option.isSome_iff_exists.1 (HRo.out.some (j * 3 + 2) (by omega))
            have r2 := HRo.out.frozen (j * 3 + 2)
            have hwl := HRo.out.lt
            go_wp2
            go_roundw
            case rel => exact ⟨j + 1, L.set j fillP, by omega, by omega, by go_num, Lib.hid ⟨by rw [List.length_set]; exact HL1.out.1, HS.out⟩, Lib.hid (((HRo.out.set _ _).set _ _).set _ _), Lib.hid (pts_set HRo.out (Nat.le_refl _) HPt.out HL1.out.1 j (by omega) _ _ _), Lib.hid (((HB.out.setCell (Nat.le_refl _) _).setCell (Nat.le_refl _) _).setCell (Nat.le_refl _) _)⟩
            case measure => simp [intOf]; omega
          · have hjn : j = m := by omega
            subst hjn
            go_wp2
            go_ret
            have hE := HG.out L HL1.out.1 HL1.out.2
            exact FIN.out _ _ ⟨w.heap.size, rfl, Nat.le_refl _, HRo.out, by rw [← hE]; exact HPt.out, HB.out⟩
theorem toLineS_nil (cap : Nat) (b : Option Addr) (w : World) : Calls Try.prog 112 #[.slice b 0 cap, .bool true] w fun e w' => e = .returned (.slice none 0 0) ∧ w = w' := by
  go_enter Try.func112, Try.ntmps112
  go_wp2
  go_ret
  exact ⟨rfl, rfl⟩
end Go.Proofs.Ythkbhaaodegocaa
