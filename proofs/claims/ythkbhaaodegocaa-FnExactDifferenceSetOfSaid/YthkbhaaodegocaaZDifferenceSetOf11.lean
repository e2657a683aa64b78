/- Texts of the claim, in build order: H1, G1, G2, G1L, G2L, RegT, G4, T5. No condition. -/
import Derived.Laws.MakeOwn
import Derived.Laws.IdiomCopy
import Derived.Test.YthkbhaaodegocaaZDifferenceSetOf10
/- Contracts: the laws' own lists of numbers: made with room behind, compared. -/
namespace Go.Proofs.Ythkbhaaodegocaa
open Go.RowKit
set_option linter.unusedVariables false
set_option linter.unusedSimpArgs false
def IntsAt (w : World) (b o n : Nat) (l : List Int) : Prop := ∀ i, i < n → w.cell? ⟨b, o + i, none⟩ = some (.int .i64 (l.getD i 0))
theorem IntsAt.below {w w1 : World} {b o n : Nat} {l : List Int} (h : IntsAt w b o n l) (hb : Below w.heap.size w w1) : IntsAt w1 b o n l := fun i hi => cell_below hb (h i hi)
/-- A block of room for numbers. -/
def RoomI (W : World) (g cap : Nat) (T : TypeId) : Prop := ∃ cur, W.heap[g]? = some (.cells cur T (0, 0)) ∧ cur.size = cap
theorem RoomI.set {W : World} {g cap : Nat} {T : TypeId} (h : RoomI W g cap T) (j : Nat) (v : Value) : RoomI (W.setCell ⟨g, j, none⟩ v) g cap T := by
  obtain ⟨cur, hb, hs⟩ := h
  exact ⟨cur.setIfInBounds j v, by simp [World.setCell, Array.getElem?_modify, hb], by simpa using hs⟩
theorem RoomI.frozen {W : World} {g cap : Nat} {T : TypeId} (h : RoomI W g cap T) (j : Nat) : W.frozen? ⟨g, j, none⟩ = false := by
  obtain ⟨cur, hb, hs⟩ := h
  exact frozen_of_row W g j _ _ hb
theorem RoomI.some {W : World} {g cap : Nat} {T : TypeId} (h : RoomI W g cap T) (j : Nat) (hj : j < cap) : (W.cell? ⟨g, j, none⟩).isSome = true := by
  obtain ⟨cur, hb, hs⟩ := h
  rw [cell_of_row W g j _ _ _ hb]
  simp [hs, hj]
theorem RoomI.below {W W' : World} {g cap : Nat} {T : TypeId} (h : RoomI W g cap T) (hb : Below W.heap.size W W') : RoomI W' g cap T := by
  obtain ⟨cur, h1, hs⟩ := h
  exact ⟨cur, by rw [hb.block _ (Array.getElem?_eq_some_iff.1 h1).1]; exact h1, hs⟩
theorem RoomI.lt {W : World} {g cap : Nat} {T : TypeId} (h : RoomI W g cap T) : g < W.heap.size := by
  obtain ⟨cur, h1, hs⟩ := h
  exact (Array.getElem?_eq_some_iff.1 h1).1
theorem ints_set {W : World} {g cap n : Nat} {T : TypeId} {L : List Int} (hr : RoomI W g cap T) (hn : n ≤ cap) (h : IntsAt W g 0 n L) (hl : L.length = n) (i : Nat) (hi : i < n) (x : Int) :
    IntsAt (W.setCell ⟨g, i, none⟩ (.int .i64 x)) g 0 n (L.set i x) := by
  obtain ⟨u0, s0⟩ := Option.isSome_iff_exists.1 (hr.some i (by omega))
  intro j hj
  have c0 := h j hj
  simp only [Nat.zero_add] at c0 ⊢
  by_cases e : j = i
  · subst e
    have hd : (L.set j x).getD j 0 = x := by simp [List.getD, hl, hj]
    rw [hd, World.cell?_setCell_same _ _ _ s0]
  · have hd : (L.set i x).getD j 0 = L.getD j 0 := by simp [List.getD, List.getElem?_set_ne (Ne.symm e)]
    rw [hd, World.cell?_setCell_other _ _ _ _ (fun h => e (by cases h; rfl))]; exact c0
theorem ints_other {W : World} {b o n : Nat} {l : List Int} (h : IntsAt W b o n l) {g i : Nat} (hg : b ≠ g) (v : Value) : IntsAt (W.setCell ⟨g, i, none⟩ v) b o n l := fun j hj => by
  rw [World.cell?_setCell_other _ _ _ _ (fun h => hg (by cases h; rfl))]; exact h j hj
theorem madeI {m j : Nat} (h : j < m) : (madeCells #[.int .i64 0] m)[j]? = some (.int .i64 0) := by simp [madeCells, h, Nat.mod_one]
/-- 'make' of m numbers: a new block, all 0. -/
theorem wpList_make_ints {P : Program} (w : World) {ops : Array Oper} {rest : List Oper} {o : Oper} {a : Act} {Q : Exit → Act → World → Prop}
    (hg : o.guard = none) (l c : Operand) (t : TypeId) (hop : o.op = Op.makeSlice t l c)
    (e : TypeId) (i : TypeInfo) (ht : P.underlying t = some (.slice e)) (hi : P.info? e = some i) (hz : i.zero = some (.int .i64 0)) (hs : i.size = 1)
    (kl kc : IntKind) (m : Nat) (C : Int) (hC : C = (m : Int)) (hl : a.eval l = .int kl C) (hc : a.eval c = .int kc C) (hbytes : i.bytes * m ≤ 281474976710656) (h63 : m ≤ 9223372036854775807)
    (hK : ∀ W', Below w.heap.size w W' → RoomI W' w.heap.size m e → IntsAt W' w.heap.size 0 m (List.replicate m 0) → w.heap.size < W'.heap.size → wpList P ops Q rest (a.put o.dst (.slice (some ⟨w.heap.size, 0, none⟩) m m)) W') :
    wpList P ops Q (o :: rest) a w := by
  subst hC
  refine wpList_plain hg fun K hK' => ?_
  have hb' : (i.bytes : Int) * (m : Int) ≤ 281474976710656 := by
    have h : ((i.bytes * m : Nat) : Int) ≤ 281474976710656 := by omega
    rwa [Int.natCast_mul] at h
  have hr := run_make (P := P) w t e i _ ht hi hz kl kc m m (by omega) (Int.le_refl _) hb' (by omega)
  have hcl : (Value.int .i64 0).cells = #[.int .i64 0] := by rfl
  rw [hcl, hs, Int.toNat_natCast, Nat.mul_one] at hr
  unfold Oper.wp
  simp [execOp, hop, hl, hc, hr, Result.andThen]
  refine hK' _ _ (hK _ ((Below.refl _ _).alloc (Nat.le_refl _) _) ⟨_, heap_alloc_new _ _, by simp [madeCells]⟩ (fun j hj => ?_) (by simp))
  have hd : (List.replicate m (0 : Int)).getD j 0 = 0 := by simp [List.getD, hj]
  rw [hd, Nat.zero_add, World.cell?_alloc_at _ _ _ _ rfl]
  exact madeI hj
theorem infoI : (Try.prog.info? 2).map (fun i => (i.zero, i.size, i.bytes)) = some (some (.int .i64 0), 1, 8) := by kernel_rfl
def fillI : Int := -7000000000000000101
def withRoomI (l : List Int) : List Int := l ++ List.replicate (roomN l.length) fillI
structure LaidI (w : World) (l : List Int) (e : Ending) (w' : World) : Prop where
  out : ∃ g, e = .returned (.slice (some ⟨g, 0, none⟩) l.length (l.length + roomN l.length)) ∧ w.heap.size ≤ g ∧ RoomI w' g (l.length + roomN l.length) 2 ∧ IntsAt w' g 0 (l.length + roomN l.length) (withRoomI l) ∧ Below w.heap.size w w'
theorem roomN_le (n : Nat) : roomN n ≤ n + 1 := by
  unfold roomN
  split
  · omega
  · split <;> omega
theorem take_setI {L l : List Int} {k : Nat} {a : Int} (h : L.take k = l.take k) (hk : k < L.length) (hk' : k < l.length) (ha : l.getD k 0 = a) : (L.set k a).take (k + 1) = l.take (k + 1) := by
  rw [take_snoc' _ 0 k (by simpa using hk), take_snoc' l 0 k hk', List.take_set_of_le (Nat.le_refl _), h, ha]
  congr 1
  simp [List.getD, hk]
theorem withRoomI_length (l : List Int) : (withRoomI l).length = l.length + roomN l.length := by simp [withRoomI]
theorem withRoomI_take (l : List Int) : (withRoomI l).take l.length = l := by simp [withRoomI]
theorem withRoomI_fill (l : List Int) (k : Nat) (h : l.length ≤ k) (h2 : k < l.length + roomN l.length) : (withRoomI l).getD k 0 = fillI := by
  have hj : k - l.length < roomN l.length := by omega
  simp [withRoomI, List.getD, List.getElem?_append_right h, hj]
theorem withRoomI_at (l : List Int) (k : Nat) (h : k < l.length) : (withRoomI l).getD k 0 = l.getD k 0 := by
  simp [withRoomI, List.getD, List.getElem?_append_left h]
set_option maxHeartbeats 2000000 in
theorem toInt64S_any (b : Option Addr) (n cap : Nat) (bare : Bool) (l : List Int) (w : World) (hl : l.length = n) (hn : n ≤ 1000000) (hb : bare = false ∨ 0 < n)
    (hc : 0 < n → ∃ g off, b = some ⟨g, off, none⟩ ∧ IntsAt w g off n l) :
    Calls Try.prog 19 #[.slice b n cap, .bool bare] w (LaidI w l) := by
  obtain ⟨i0, hi, hz0, hz1, hz2⟩ := info_parts infoI
  have HR := Lib.hid (fun (W : World) => roomBehind_any n W hn)
  have HL := Lib.hid hl
  have HC := Lib.hid hc
  have HI0 := Lib.hid hi; have HZ0 := Lib.hid hz0; have HZ1 := Lib.hid hz1; have HZ2 := Lib.hid hz2
  have hr0 := roomN_le n
  have HT := Lib.hid (withRoomI_length l)
  have HF := Lib.hid (withRoomI_fill l)
  have HA := Lib.hid (withRoomI_at l)
  rw [hl] at HT HF HA
  have HG : Hid (∀ L : List Int, L.length = n + roomN n → L.take (n + roomN n) = (withRoomI l).take (n + roomN n) → L = withRoomI l) := Lib.hid (fun L h1 h2 => by
    rw [List.take_of_length_le (by omega), List.take_of_length_le (by rw [HT.out]; omega)] at h2; exact h2)
  clear hi hz0 hz1 hz2 hl hc
  have fin : ∀ e w', (∃ g, e = .returned (.slice (some ⟨g, 0, none⟩) n (n + roomN n)) ∧ w.heap.size ≤ g ∧ RoomI w' g (n + roomN n) 2 ∧ IntsAt w' g 0 (n + roomN n) (withRoomI l) ∧ Below w.heap.size w w') → LaidI w l e w' := by
    intro e w' h
    refine ⟨?_⟩
    rw [HL.out]; exact h
  have FIN := Lib.hid fin
  clear fin
  generalize hM : withRoomI l = M at *
  generalize hr : roomN n = r at *
  generalize hm : n + r = m at *
  have hnm : n ≤ m := by omega
  have hm2 : m ≤ 2 * n + 1 := by omega
  have hcond : (n : Int) = 0 → bare = false := by
    intro h
    rcases hb with h2 | h2
    · exact h2
    · omega
  clear hr hb hM
  have HMm := hm
  by_cases h0 : bare = true ∧ n = 0
  · exfalso
    have := hcond (by omega)
    rw [h0.1] at this; cases this
  clear hcond
  cases bare with
  | false =>
    clear h0
    go_enter Try.func19, Try.ntmps19
    go_wp2_with (first
      | (go_at_call 63; refine (HR.out _).mono ?_; rintro e w' ⟨rfl, rfl⟩)
      | (refine wpList_make_ints _ rfl _ _ 34 rfl 2 i0 Try.underlying34 HI0.out HZ0.out HZ1.out .i64 .i64 m _ (by omega) rfl rfl (by rw [HZ2.out]; omega) (by omega) ?_; intro w1 hb1 hr1 hp1 hl1; have HB1 := Lib.hid hb1; have HR1 := Lib.hid hr1; have HP1 := Lib.hid hp1; clear hb1 hr1 hp1))
    go_loopw [6] (fun i wr => ∃ (k : Nat) (L : List Int), k ≤ n ∧ i = .int .i64 k ∧ Hid (L.length = m ∧ L.take k = M.take k) ∧ Hid (RoomI wr w.heap.size m 2) ∧ Hid (IntsAt wr w.heap.size 0 m L) ∧ Hid (Below w.heap.size w wr)) (fun i wr => n - (intOf i).toNat)
    case atStart => exact ⟨0, _, Nat.zero_le _, rfl, Lib.hid ⟨by simp, by simp⟩, HR1, HP1, HB1⟩
    case round =>
      obtain ⟨k, L, hk, rfl, HL1, HRo, HPt, HB⟩ := hrel
      by_cases hlt : k < n
      · obtain ⟨g, off, rfl, hpt⟩ := HC.out (by omega)
        have c0 := hpt k hlt
        have hgl : g < w.heap.size := World.block_lt_of_cell? w _ c0
        have c0' : wr.cell? ⟨g, off + k, none⟩ = some (.int .i64 (l.getD k 0)) := (HB.out.cell hgl).trans c0
        have HS := Lib.hid (take_setI HL1.out.2 (by have := HL1.out.1; omega) (by have := HT.out; omega) (HA.out k hlt))
        generalize l.getD k 0 = x at *
        obtain ⟨u0, s0⟩ := Option.isSome_iff_exists.1 (HRo.out.some k (by omega))
        have f0 := HRo.out.frozen k
        have hwl := HRo.out.lt
        clear c0 hpt
        go_wp2
        go_roundw
        case rel => exact ⟨k + 1, L.set k x, by omega, by go_num, Lib.hid ⟨by rw [List.length_set]; exact HL1.out.1, HS.out⟩, Lib.hid (HRo.out.set _ _), Lib.hid (ints_set HRo.out (Nat.le_refl _) HPt.out HL1.out.1 k (by omega) x), Lib.hid (HB.out.setCell (Nat.le_refl _) _)⟩
        case measure => simp [intOf]; omega
      · have hkn : k = n := by omega
        subst hkn
        go_wp2
        go_loopw [7] (fun i wr => ∃ (j : Nat) (L : List Int), k ≤ j ∧ j ≤ m ∧ i = .int .i64 j ∧ Hid (L.length = m ∧ L.take j = M.take j) ∧ Hid (RoomI wr w.heap.size m 2) ∧ Hid (IntsAt wr w.heap.size 0 m L) ∧ Hid (Below w.heap.size w wr)) (fun i wr => m - (intOf i).toNat)
        case atStart => exact ⟨k, L, Nat.le_refl _, by omega, rfl, HL1, HRo, HPt, HB⟩
        case round =>
          clear HL1 HRo HPt HB hlt hk
          obtain ⟨j, L, hkj, hj, rfl, HL1, HRo, HPt, HB⟩ := hrel
          by_cases hlt : j < m
          · have HS := Lib.hid (take_setI HL1.out.2 (by have := HL1.out.1; omega) (by have := HT.out; omega) (HF.out j hkj hlt))
            obtain ⟨u0, s0⟩ := Option.isSome_iff_exists.1 (HRo.out.some j (by omega))
            have f0 := HRo.out.frozen j
            have hwl := HRo.out.lt
            go_wp2
            go_roundw
            case rel => exact ⟨j + 1, L.set j fillI, by omega, by omega, by go_num, Lib.hid ⟨by rw [List.length_set]; exact HL1.out.1, HS.out⟩, Lib.hid (HRo.out.set _ _), Lib.hid (ints_set HRo.out (Nat.le_refl _) HPt.out HL1.out.1 j (by omega) fillI), Lib.hid (HB.out.setCell (Nat.le_refl _) _)⟩
            case measure => simp [intOf]; omega
          · have hjn : j = m := by omega
            subst hjn
            go_wp2
            go_ret
            have hE := HG.out L HL1.out.1 HL1.out.2
            exact FIN.out _ _ ⟨w.heap.size, rfl, Nat.le_refl _, HRo.out, by rw [← hE]; exact HPt.out, HB.out⟩
  | true =>
    have hn0 : 0 < n := by
      rcases Nat.eq_zero_or_pos n with h | h
      · exact (h0 ⟨rfl, h⟩).elim
      · exact h
    have hnz : ((n : Int) == 0) = false := by simp; omega
    clear h0
    go_enter Try.func19, Try.ntmps19
    go_wp2_with (first
      | (go_at_call 63; refine (HR.out _).mono ?_; rintro e w' ⟨rfl, rfl⟩)
      | (refine wpList_make_ints _ rfl _ _ 34 rfl 2 i0 Try.underlying34 HI0.out HZ0.out HZ1.out .i64 .i64 m _ (by omega) rfl rfl (by rw [HZ2.out]; omega) (by omega) ?_; intro w1 hb1 hr1 hp1 hl1; have HB1 := Lib.hid hb1; have HR1 := Lib.hid hr1; have HP1 := Lib.hid hp1; clear hb1 hr1 hp1))
    go_loopw [6] (fun i wr => ∃ (k : Nat) (L : List Int), k ≤ n ∧ i = .int .i64 k ∧ Hid (L.length = m ∧ L.take k = M.take k) ∧ Hid (RoomI wr w.heap.size m 2) ∧ Hid (IntsAt wr w.heap.size 0 m L) ∧ Hid (Below w.heap.size w wr)) (fun i wr => n - (intOf i).toNat)
    case atStart => exact ⟨0, _, Nat.zero_le _, rfl, Lib.hid ⟨by simp, by simp⟩, HR1, HP1, HB1⟩
    case round =>
      obtain ⟨k, L, hk, rfl, HL1, HRo, HPt, HB⟩ := hrel
      by_cases hlt : k < n
      · obtain ⟨g, off, rfl, hpt⟩ := HC.out (by omega)
        have c0 := hpt k hlt
        have hgl : g < w.heap.size := World.block_lt_of_cell? w _ c0
        have c0' : wr.cell? ⟨g, off + k, none⟩ = some (.int .i64 (l.getD k 0)) := (HB.out.cell hgl).trans c0
        have HS := Lib.hid (take_setI HL1.out.2 (by have := HL1.out.1; omega) (by have := HT.out; omega) (HA.out k hlt))
        generalize l.getD k 0 = x at *
        obtain ⟨u0, s0⟩ := Option.isSome_iff_exists.1 (HRo.out.some k (by omega))
        have f0 := HRo.out.frozen k
        have hwl := HRo.out.lt
        clear c0 hpt
        go_wp2
        go_roundw
        case rel => exact ⟨k + 1, L.set k x, by omega, by go_num, Lib.hid ⟨by rw [List.length_set]; exact HL1.out.1, HS.out⟩, Lib.hid (HRo.out.set _ _), Lib.hid (ints_set HRo.out (Nat.le_refl _) HPt.out HL1.out.1 k (by omega) x), Lib.hid (HB.out.setCell (Nat.le_refl _) _)⟩
        case measure => simp [intOf]; omega
      · have hkn : k = n := by omega
        subst hkn
        go_wp2
        go_loopw [7] (fun i wr => ∃ (j : Nat) (L : List Int), k ≤ j ∧ j ≤ m ∧ i = .int .i64 j ∧ Hid (L.length = m ∧ L.take j = M.take j) ∧ Hid (RoomI wr w.heap.size m 2) ∧ Hid (IntsAt wr w.heap.size 0 m L) ∧ Hid (Below w.heap.size w wr)) (fun i wr => m - (intOf i).toNat)
        case atStart => exact ⟨k, L, Nat.le_refl _, by omega, rfl, HL1, HRo, HPt, HB⟩
        case round =>
          clear HL1 HRo HPt HB hlt hk
          obtain ⟨j, L, hkj, hj, rfl, HL1, HRo, HPt, HB⟩ := hrel
          by_cases hlt : j < m
          · have HS := Lib.hid (take_setI HL1.out.2 (by have := HL1.out.1; omega) (by have := HT.out; omega) (HF.out j hkj hlt))
            obtain ⟨u0, s0⟩ := Option.isSome_iff_exists.1 (HRo.out.some j (by omega))
            have f0 := HRo.out.frozen j
            have hwl := HRo.out.lt
            go_wp2
            go_roundw
            case rel => exact ⟨j + 1, L.set j fillI, by omega, by omega, by go_num, Lib.hid ⟨by rw [List.length_set]; exact HL1.out.1, HS.out⟩, Lib.hid (HRo.out.set _ _), Lib.hid (ints_set HRo.out (Nat.le_refl _) HPt.out HL1.out.1 j (by omega) fillI), Lib.hid (HB.out.setCell (Nat.le_refl _) _)⟩
            case measure => simp [intOf]; omega
          · have hjn : j = m := by omega
            subst hjn
            go_wp2
            go_ret
            have hE := HG.out L HL1.out.1 HL1.out.2
            exact FIN.out _ _ ⟨w.heap.size, rfl, Nat.le_refl _, HRo.out, by rw [← hE]; exact HPt.out, HB.out⟩
theorem toInt64S_nil (cap : Nat) (b : Option Addr) (w : World) : Calls Try.prog 19 #[.slice b 0 cap, .bool true] w fun e w' => e = .returned (.slice none 0 0) ∧ w = w' := by
  go_enter Try.func19, Try.ntmps19
  go_wp2
  go_ret
  exact ⟨rfl, rfl⟩
theorem eqInt64S_same (g g2 n cap cap2 : Nat) (l : List Int) (w : World) (hn : n ≤ 4611686018427387904) (h1 : IntsAt w g 0 n l) (h2 : IntsAt w g2 0 n l) :
    Calls Try.prog 37 #[.slice (some ⟨g, 0, none⟩) n cap, .slice (some ⟨g2, 0, none⟩) n cap2] w (Ret w (.bool true)) := by
  have H1 := Lib.hid h1
  have H2 := Lib.hid h2
  clear h1 h2
  go_enter Try.func37, Try.ntmps37
  go_wp2
  go_loopw [5] (fun i wr => ∃ k : Nat, k ≤ n ∧ i = .int .i64 k ∧ Hid (Below w.heap.size w wr)) (fun i wr => n - (intOf i).toNat)
  case atStart => exact ⟨0, Nat.zero_le _, rfl, Lib.hid (Below.refl _ _)⟩
  case round =>
    obtain ⟨k, hk, rfl, HB⟩ := hrel
    by_cases hlt : k < n
    · have c1 := (H1.out.below HB.out) k hlt
      have c2 := (H2.out.below HB.out) k hlt
      simp only [Nat.zero_add] at c1 c2
      generalize l.getD k 0 = x at *
      go_wp2
      go_quiet (fail)
      go_wp2
      go_roundw
      case rel => exact ⟨k + 1, by omega, by go_num, Lib.hid (by repeat (first | exact Below.refl _ _ | refine bset ?_ _ _ (by omega) _ | refine bal ?_ _ | refine bdrN ?_ _ | refine bdr ?_ | refine below_tr' ?_ HB.out))⟩
      case measure => simp [intOf]; omega
    · go_wp2
      go_ret
      exact ⟨rfl, HB.out⟩
end Go.Proofs.Ythkbhaaodegocaa
/- Contracts: the laws' own lists of points: made with room behind, compared. (Printed by geng1.py, a program of this session.) -/
namespace Go.Proofs.Ythkbhaaodegocaa
open Go.RowKit
set_option linter.unusedVariables false
set_option linter.unusedSimpArgs false
theorem made0 {m j : Nat} (h : j < m * 3) : (madeCells #[.int .i64 0, .int .i64 0, .int .i64 0] (m * 3))[j]? = some (.int .i64 0) := by
  have : j % 3 = 0 ∨ j % 3 = 1 ∨ j % 3 = 2 := by omega
  rcases this with e | e | e <;> simp [madeCells, h, e]
/-- 'make' of m points: a new block, all 0. -/
theorem wpList_make_pts {P : Program} (w : World) {ops : Array Oper} {rest : List Oper} {o : Oper} {a : Act} {Q : Exit → Act → World → Prop}
    (hg : o.guard = none) (l c : Operand) (t : TypeId) (hop : o.op = Op.makeSlice t l c)
    (e : TypeId) (i : TypeInfo) (ht : P.underlying t = some (.slice e)) (hi : P.info? e = some i) (hz : i.zero = some (.agg #[.int .i64 0, .int .i64 0, .int .i64 0])) (hs : i.size = 3)
    (kl kc : IntKind) (m : Nat) (C : Int) (hC : C = (m : Int)) (hl : a.eval l = .int kl C) (hc : a.eval c = .int kc C) (hbytes : i.bytes * m ≤ 281474976710656) (h63 : m ≤ 9223372036854775807)
    (hK : ∀ W', Below w.heap.size w W' → RoomP W' w.heap.size m e → PtsAt W' w.heap.size 0 m (List.replicate m (0, 0, 0)) → w.heap.size < W'.heap.size → wpList P ops Q rest (a.put o.dst (.slice (some ⟨w.heap.size, 0, none⟩) m m)) W') :
    wpList P ops Q (o :: rest) a w := by
  subst hC
  refine wpList_plain hg fun K hK' => ?_
  have hb' : (i.bytes : Int) * (m : Int) ≤ 281474976710656 := by
    have h : ((i.bytes * m : Nat) : Int) ≤ 281474976710656 := by omega
    rwa [Int.natCast_mul] at h
  have hr := run_make (P := P) w t e i _ ht hi hz kl kc m m (by omega) (Int.le_refl _) hb' (by omega)
  have hcl : (Value.agg #[.int .i64 0, .int .i64 0, .int .i64 0]).cells = #[.int .i64 0, .int .i64 0, .int .i64 0] := by rfl
  rw [hcl, hs, Int.toNat_natCast] at hr
  unfold Oper.wp
  simp [execOp, hop, hl, hc, hr, Result.andThen]
  refine hK' _ _ (hK _ ((Below.refl _ _).alloc (Nat.le_refl _) _) ⟨_, heap_alloc_new _ _, by simp [madeCells]⟩ (fun j hj => ?_) (by simp))
  have hd : (List.replicate m ((0, 0, 0) : Pt)).getD j (0, 0, 0) = (0, 0, 0) := by simp [List.getD, hj]
  rw [hd]
  simp only [Nat.zero_add]
  refine ⟨?_, ?_, ?_⟩
  · rw [World.cell?_alloc_at _ _ _ _ rfl]; exact made0 (by omega)
  · rw [World.cell?_alloc_at _ _ _ _ rfl]; exact made0 (by omega)
  · rw [World.cell?_alloc_at _ _ _ _ rfl]; exact made0 (by omega)
def fillP : Pt := (-7000000000000000101, 0, 0)
/-- What the laws lay for a list: a new block with the list and room behind it. -/
def withRoomP (l : List Pt) : List Pt := l ++ List.replicate (roomN l.length) fillP
structure LaidP (T : TypeId) (w : World) (l : List Pt) (e : Ending) (w' : World) : Prop where
  out : ∃ g, e = .returned (.slice (some ⟨g, 0, none⟩) l.length (l.length + roomN l.length)) ∧ w.heap.size ≤ g ∧ RoomP w' g (l.length + roomN l.length) T ∧ PtsAt w' g 0 (l.length + roomN l.length) (withRoomP l) ∧ Below w.heap.size w w'
theorem take_setP {L l : List Pt} {k : Nat} {a : Pt} (h : L.take k = l.take k) (hk : k < L.length) (hk' : k < l.length) (ha : l.getD k (0, 0, 0) = a) : (L.set k a).take (k + 1) = l.take (k + 1) := by
  rw [take_snoc' _ (0, 0, 0) k (by simpa using hk), take_snoc' l (0, 0, 0) k hk', List.take_set_of_le (Nat.le_refl _), h, ha]
  congr 1
  simp [List.getD, hk]
theorem withRoomP_length (l : List Pt) : (withRoomP l).length = l.length + roomN l.length := by simp [withRoomP]
theorem withRoomP_take (l : List Pt) : (withRoomP l).take l.length = l := by simp [withRoomP]
theorem withRoomP_fill (l : List Pt) (k : Nat) (h : l.length ≤ k) (h2 : k < l.length + roomN l.length) : (withRoomP l).getD k (0, 0, 0) = fillP := by
  have hj : k - l.length < roomN l.length := by omega
  simp [withRoomP, List.getD, List.getElem?_append_right h, hj]
theorem withRoomP_at (l : List Pt) (k : Nat) (h : k < l.length) : (withRoomP l).getD k (0, 0, 0) = l.getD k (0, 0, 0) := by
  simp [withRoomP, List.getD, List.getElem?_append_left h]
theorem pts_take {w : World} {b o n m : Nat} {l : List Pt} (h : PtsAt w b o n l) (hm : m ≤ n) : PtsAt w b o m (l.take m) := fun i hi => by
  have := h i (by omega)
  have hd : (l.take m).getD i (0, 0, 0) = l.getD i (0, 0, 0) := by simp [List.getD, List.getElem?_take_of_lt hi]
  rw [hd]; exact this
set_option maxHeartbeats 2000000 in
theorem toPointS_any (b : Option Addr) (n cap : Nat) (bare : Bool) (l : List Pt) (w : World) (hl : l.length = n) (hn : n ≤ 1000000) (hb : bare = false ∨ 0 < n)
    (hc : 0 < n → ∃ g off, b = some ⟨g, off, none⟩ ∧ PtsAt w g off n l) :
    Calls Try.prog 46 #[.slice b n cap, .bool bare] w (LaidP 23 w l) := by
  obtain ⟨i0, hi, hz0, hz1, hz2⟩ := info_parts (show (Try.prog.info? 23).map (fun i => (i.zero, i.size, i.bytes)) = some (some (.agg #[.int .i64 0, .int .i64 0, .int .i64 0]), 3, 24) by kernel_rfl)
  have HR := Lib.hid (fun (W : World) => roomBehind_any n W hn)
  have HL := Lib.hid hl
  have HC := Lib.hid hc
  have HI0 := Lib.hid hi; have HZ0 := Lib.hid hz0; have HZ1 := Lib.hid hz1; have HZ2 := Lib.hid hz2
  have hr0 := roomN_le n
  have HT := Lib.hid (withRoomP_length l)
  have HF := Lib.hid (withRoomP_fill l)
  have HA := Lib.hid (withRoomP_at l)
  rw [hl] at HT HF HA
  have HG : Hid (∀ L : List Pt, L.length = n + roomN n → L.take (n + roomN n) = (withRoomP l).take (n + roomN n) → L = withRoomP l) := Lib.hid (fun L h1 h2 => by
    rw [List.take_of_length_le (by omega), List.take_of_length_le (by rw [HT.out]; omega)] at h2; exact h2)
  clear hi hz0 hz1 hz2 hl hc
  have fin : ∀ e w', (∃ g, e = .returned (.slice (some ⟨g, 0, none⟩) n (n + roomN n)) ∧ w.heap.size ≤ g ∧ RoomP w' g (n + roomN n) 23 ∧ PtsAt w' g 0 (n + roomN n) (withRoomP l) ∧ Below w.heap.size w w') → LaidP 23 w l e w' := by
    intro e w' h
    refine ⟨?_⟩
    rw [HL.out]; exact h
  have FIN := Lib.hid fin
  clear fin
  generalize hM : withRoomP l = M at *
  generalize hr : roomN n = r at *
  generalize hm : n + r = m at *
  have hnm : n ≤ m := by omega
  have hm2 : m ≤ 2 * n + 1 := by omega
  have hcond : (n : Int) = 0 → bare = false := by
    intro h
    rcases hb with h2 | h2
    · exact h2
    · omega
  clear hr hb hM
  have HMm := hm
  by_cases h0 : bare = true ∧ n = 0
  · exfalso
    have := hcond (by omega)
    rw [h0.1] at this; cases this
  clear hcond
  cases bare with
  | false =>
    clear h0
    go_enter Try.func46, Try.ntmps46
    go_wp2_with (first
      | (go_at_call 63; refine (HR.out _).mono ?_; rintro e w' ⟨rfl, rfl⟩)
      | (refine wpList_make_pts _ rfl _ _ 52 rfl 23 i0 Try.underlying52 HI0.out HZ0.out HZ1.out .i64 .i64 m _ (by omega) rfl rfl (by rw [HZ2.out]; omega) (by omega) ?_; intro w1 hb1 hr1 hp1 hl1; have HB1 := Lib.hid hb1; have HR1 := Lib.hid hr1; have HP1 := Lib.hid hp1; clear hb1 hr1 hp1))
    go_loopw [6] (fun i wr => ∃ (k : Nat) (L : List Pt), k ≤ n ∧ i = .int .i64 k ∧ Hid (L.length = m ∧ L.take k = M.take k) ∧ Hid (RoomP wr w.heap.size m 23) ∧ Hid (PtsAt wr w.heap.size 0 m L) ∧ Hid (Below w.heap.size w wr)) (fun i wr => n - (intOf i).toNat)
    case atStart => exact ⟨0, _, Nat.zero_le _, rfl, Lib.hid ⟨by simp, by simp⟩, HR1, HP1, HB1⟩
    case round =>
      obtain ⟨k, L, hk, rfl, HL1, HRo, HPt, HB⟩ := hrel
      by_cases hlt : k < n
      · obtain ⟨g, off, rfl, hpt⟩ := HC.out (by omega)
        obtain ⟨c0, c1, c2⟩ := hpt k hlt
        have hgl : g < w.heap.size := World.block_lt_of_cell? w _ c0
        have d0 : wr.cell? ⟨g, off + k * 3, none⟩ = some (.int .i64 (l.getD k (0, 0, 0)).1) := (HB.out.cell hgl).trans c0
        have d1 : wr.cell? ⟨g, off + k * 3 + 1, none⟩ = some (.int .i64 (l.getD k (0, 0, 0)).2.1) := (HB.out.cell hgl).trans c1
        have d2 : wr.cell? ⟨g, off + k * 3 + 2, none⟩ = some (.int .i64 (l.getD k (0, 0, 0)).2.2) := (HB.out.cell hgl).trans c2
        have HS := Lib.hid (take_setP HL1.out.2 (by have := HL1.out.1; omega) (by have := HT.out; omega) (HA.out k hlt))
        clear c0 c1 c2 hpt
        generalize l.getD k (0, 0, 0) = a at *
        obtain ⟨x, y, z⟩ := a
        dsimp only at d0 d1 d2
        obtain ⟨u0, s0⟩ := Option.isSome_iff_exists.1 (HRo.out.some (k * 3) (by omega))
        have r0 := HRo.out.frozen (k * 3)
        obtain ⟨u1, s1⟩ := Option.isSome_iff_exists.1 (HRo.out.some (k * 3 + 1) (by omega))
        have r1 := HRo.out.frozen (k * 3 + 1)
        obtain ⟨u2, s2⟩ := Option.isSome_iff_exists.1 (HRo.out.some (k * 3 + 2) (by omega))
        have r2 := HRo.out.frozen (k * 3 + 2)
        have hwl := HRo.out.lt
        go_wp2_with (go_at_call 41; (with_reducible refine (toPoint_any x y z _).mono ?_); rintro e w2_ ⟨rfl, hb2⟩; obtain ⟨hcb2, hfb2, hlb2⟩ := bcell hb2; have hsz2 := hb2.size; (try simp at hsz2); have HB2 := Lib.hid hb2; clear hb2; (try (have hl02 : w.heap.size < w2_.heap.size := by omega)))
        have HR2 := HRo.out.below HB2.out
        have HC2 := HPt.out.below HB2.out
        have HBB := low_tr' HB.out HB2.out (by omega)
        go_roundw
        case rel => exact ⟨k + 1, L.set k (x, y, z), by omega, by go_num, Lib.hid ⟨by rw [List.length_set]; exact HL1.out.1, HS.out⟩, Lib.hid (((HR2.set _ _).set _ _).set _ _), Lib.hid (pts_set HR2 (Nat.le_refl _) HC2 HL1.out.1 k (by omega) x y z), Lib.hid (((HBB.setCell (Nat.le_refl _) _).setCell (Nat.le_refl _) _).setCell (Nat.le_refl _) _)⟩
        case measure => simp [intOf]; omega
      · have hkn : k = n := by omega
        subst hkn
        go_wp2
        go_loopw [7] (fun i wr => ∃ (j : Nat) (L : List Pt), k ≤ j ∧ j ≤ m ∧ i = .int .i64 j ∧ Hid (L.length = m ∧ L.take j = M.take j) ∧ Hid (RoomP wr w.heap.size m 23) ∧ Hid (PtsAt wr w.heap.size 0 m L) ∧ Hid (Below w.heap.size w wr)) (fun i wr => m - (intOf i).toNat)
        case atStart => exact ⟨k, L, Nat.le_refl _, by omega, rfl, HL1, HRo, HPt, HB⟩
        case round =>
          clear HL1 HRo HPt HB hlt hk
          obtain ⟨j, L, hkj, hj, rfl, HL1, HRo, HPt, HB⟩ := hrel
          by_cases hlt : j < m
          · have HS := Lib.hid (take_setP HL1.out.2 (by have := HL1.out.1; omega) (by have := HT.out; omega) (HF.out j hkj hlt))
            obtain ⟨u0, s0⟩ := Option.isSome_iff_exists.1 (HRo.out.some (j * 3) (by omega))
            have r0 := HRo.out.frozen (j * 3)
            obtain ⟨u1, s1⟩ := Option.isSome_iff_exists.1 (HRo.out.some (j * 3 + 1) (by omega))
            have r1 := HRo.out.frozen (j * 3 + 1)
            obtain ⟨u2, s2⟩ := Option.isSome_iff_exists.1 (HRo.out.some (j * 3 + 2) (by omega))
            have r2 := HRo.out.frozen (j * 3 + 2)
            have hwl := HRo.out.lt
            go_wp2
            go_roundw
            case rel => exact ⟨j + 1, L.set j fillP, by omega, by omega, by go_num, Lib.hid ⟨by rw [List.length_set]; exact HL1.out.1, HS.out⟩, Lib.hid (((HRo.out.set _ _).set _ _).set _ _), Lib.hid (pts_set HRo.out (Nat.le_refl _) HPt.out HL1.out.1 j (by omega) _ _ _), Lib.hid (((HB.out.setCell (Nat.le_refl _) _).setCell (Nat.le_refl _) _).setCell (Nat.le_refl _) _)⟩
            case measure => simp [intOf]; omega
          · have hjn : j = m := by omega
            subst hjn
            go_wp2
            go_ret
            have hE := HG.out L HL1.out.1 HL1.out.2
            exact FIN.out _ _ ⟨w.heap.size, rfl, Nat.le_refl _, HRo.out, by rw [← hE]; exact HPt.out, HB.out⟩
  | true =>
    have hn0 : 0 < n := by
      rcases Nat.eq_zero_or_pos n with h | h
      · exact (h0 ⟨rfl, h⟩).elim
      · exact h
    have hnz : ((n : Int) == 0) = false := by simp; omega
    clear h0
    go_enter Try.func46, Try.ntmps46
    go_wp2_with (first
      | (go_at_call 63; refine (HR.out _).mono ?_; rintro e w' ⟨rfl, rfl⟩)
      | (refine wpList_make_pts _ rfl _ _ 52 rfl 23 i0 Try.underlying52 HI0.out HZ0.out HZ1.out .i64 .i64 m _ (by omega) rfl rfl (by rw [HZ2.out]; omega) (by omega) ?_; intro w1 hb1 hr1 hp1 hl1; have HB1 := Lib.hid hb1; have HR1 := Lib.hid hr1; have HP1 := Lib.hid hp1; clear hb1 hr1 hp1))
    go_loopw [6] (fun i wr => ∃ (k : Nat) (L : List Pt), k ≤ n ∧ i = .int .i64 k ∧ Hid (L.length = m ∧ L.take k = M.take k) ∧ Hid (RoomP wr w.heap.size m 23) ∧ Hid (PtsAt wr w.heap.size 0 m L) ∧ Hid (Below w.heap.size w wr)) (fun i wr => n - (intOf i).toNat)
    case atStart => exact ⟨0, _, Nat.zero_le _, rfl, Lib.hid ⟨by simp, by simp⟩, HR1, HP1, HB1⟩
    case round =>
      obtain ⟨k, L, hk, rfl, HL1, HRo, HPt, HB⟩ := hrel
      by_cases hlt : k < n
      · obtain ⟨g, off, rfl, hpt⟩ := HC.out (by omega)
        obtain ⟨c0, c1, c2⟩ := hpt k hlt
        have hgl : g < w.heap.size := World.block_lt_of_cell? w _ c0
        have d0 : wr.cell? ⟨g, off + k * 3, none⟩ = some (.int .i64 (l.getD k (0, 0, 0)).1) := (HB.out.cell hgl).trans c0
        have d1 : wr.cell? ⟨g, off + k * 3 + 1, none⟩ = some (.int .i64 (l.getD k (0, 0, 0)).2.1) := (HB.out.cell hgl).trans c1
        have d2 : wr.cell? ⟨g, off + k * 3 + 2, none⟩ = some (.int .i64 (l.getD k (0, 0, 0)).2.2) := (HB.out.cell hgl).trans c2
        have HS := Lib.hid (take_setP HL1.out.2 (by have := HL1.out.1; omega) (by have := HT.out; omega) (HA.out k hlt))
        clear c0 c1 c2 hpt
        generalize l.getD k (0, 0, 0) = a at *
        obtain ⟨x, y, z⟩ := a
        dsimp only at d0 d1 d2
        obtain ⟨u0, s0⟩ := Option.isSome_iff_exists.1 (HRo.out.some (k * 3) (by omega))
        have r0 := HRo.out.frozen (k * 3)
        obtain ⟨u1, s1⟩ := Option.isSome_iff_exists.1 (HRo.out.some (k * 3 + 1) (by omega))
        have r1 := HRo.out.frozen (k * 3 + 1)
        obtain ⟨u2, s2⟩ := Option.isSome_iff_exists.1 (HRo.out.some (k * 3 + 2) (by omega))
        have r2 := HRo.out.frozen (k * 3 + 2)
        have hwl := HRo.out.lt
        go_wp2_with (go_at_call 41; (with_reducible refine (toPoint_any x y z _).mono ?_); rintro e w2_ ⟨rfl, hb2⟩; obtain ⟨hcb2, hfb2, hlb2⟩ := bcell hb2; have hsz2 := hb2.size; (try simp at hsz2); have HB2 := Lib.hid hb2; clear hb2; (try (have hl02 : w.heap.size < w2_.heap.size := by omega)))
        have HR2 := HRo.out.below HB2.out
        have HC2 := HPt.out.below HB2.out
        have HBB := low_tr' HB.out HB2.out (by omega)
        go_roundw
        case rel => exact ⟨k + 1, L.set k (x, y, z), by omega, by go_num, Lib.hid ⟨by rw [List.length_set]; exact HL1.out.1, HS.out⟩, Lib.hid (((HR2.set _ _).set _ _).set _ _), Lib.hid (pts_set HR2 (Nat.le_refl _) HC2 HL1.out.1 k (by omega) x y z), Lib.hid (((HBB.setCell (Nat.le_refl _) _).setCell (Nat.le_refl _) _).setCell (Nat.le_refl _) _)⟩
        case measure => simp [intOf]; omega
      · have hkn : k = n := by omega
        subst hkn
        go_wp2
        go_loopw [7] (fun i wr => ∃ (j : Nat) (L : List Pt), k ≤ j ∧ j ≤ m ∧ i = .int .i64 j ∧ Hid (L.length = m ∧ L.take j = M.take j) ∧ Hid (RoomP wr w.heap.size m 23) ∧ Hid (PtsAt wr w.heap.size 0 m L) ∧ Hid (Below w.heap.size w wr)) (fun i wr => m - (intOf i).toNat)
        case atStart => exact ⟨k, L, Nat.le_refl _, by omega, rfl, HL1, HRo, HPt, HB⟩
        case round =>
          clear HL1 HRo HPt HB hlt hk
          obtain ⟨j, L, hkj, hj, rfl, HL1, HRo, HPt, HB⟩ := hrel
          by_cases hlt : j < m
          · have HS := Lib.hid (take_setP HL1.out.2 (by have := HL1.out.1; omega) (by have := HT.out; omega) (HF.out j hkj hlt))
            obtain ⟨u0, s0⟩ := Option.isSome_iff_exists.1 (HRo.out.some (j * 3) (by omega))
            have r0 := HRo.out.frozen (j * 3)
            obtain ⟨u1, s1⟩ := Option.isSome_iff_exists.1 (HRo.out.some (j * 3 + 1) (by omega))
            have r1 := HRo.out.frozen (j * 3 + 1)
            obtain ⟨u2, s2⟩ := Option.isSome_iff_exists.1 (HRo.out.some (j * 3 + 2) (by omega))
            have r2 := HRo.out.frozen (j * 3 + 2)
            have hwl := HRo.out.lt
            go_wp2
            go_roundw
            case rel => exact ⟨j + 1, L.set j fillP, by omega, by omega, by go_num, Lib.hid ⟨by rw [List.length_set]; exact HL1.out.1, HS.out⟩, Lib.hid (((HRo.out.set _ _).set _ _).set _ _), Lib.hid (pts_set HRo.out (Nat.le_refl _) HPt.out HL1.out.1 j (by omega) _ _ _), Lib.hid (((HB.out.setCell (Nat.le_refl _) _).setCell (Nat.le_refl _) _).setCell (Nat.le_refl _) _)⟩
            case measure => simp [intOf]; omega
          · have hjn : j = m := by omega
            subst hjn
            go_wp2
            go_ret
            have hE := HG.out L HL1.out.1 HL1.out.2
            exact FIN.out _ _ ⟨w.heap.size, rfl, Nat.le_refl _, HRo.out, by rw [← hE]; exact HPt.out, HB.out⟩
theorem toPointS_nil (cap : Nat) (b : Option Addr) (w : World) : Calls Try.prog 46 #[.slice b 0 cap, .bool true] w fun e w' => e = .returned (.slice none 0 0) ∧ w = w' := by
  go_enter Try.func46, Try.ntmps46
  go_wp2
  go_ret
  exact ⟨rfl, rfl⟩
end Go.Proofs.Ythkbhaaodegocaa
/- Contracts: the laws' own lists of points: compared, intact. (Printed by geng1.py, a program of this session.) -/
namespace Go.Proofs.Ythkbhaaodegocaa
open Go.RowKit
set_option linter.unusedVariables false
set_option linter.unusedSimpArgs false
/-- A list of points in memory, somewhere; it may be empty. -/
def ListP (w : World) (b : Option Addr) (n : Nat) (l : List Pt) : Prop := l.length = n ∧ (0 < n → ∃ g off, b = some ⟨g, off, none⟩ ∧ PtsAt w g off n l)
theorem ListP.below {w w1 : World} {b : Option Addr} {n : Nat} {l : List Pt} (h : ListP w b n l) (hb : Below w.heap.size w w1) : ListP w1 b n l :=
  ⟨h.1, fun hn => by obtain ⟨g, off, e, hp⟩ := h.2 hn; exact ⟨g, off, e, hp.below hb⟩⟩
theorem listP_mk {w : World} {g off n : Nat} {l : List Pt} (hl : l.length = n) (h : PtsAt w g off n l) : ListP w (some ⟨g, off, none⟩) n l := ⟨hl, fun _ => ⟨g, off, rfl, h⟩⟩
theorem listP_nil {w : World} {b : Option Addr} : ListP w b 0 [] := ⟨rfl, fun h => absurd h (Nat.lt_irrefl _)⟩
theorem eqPointS_same (b b2 : Option Addr) (n cap cap2 : Nat) (l : List Pt) (w : World) (hn : n ≤ 4611686018427387904) (h1 : ListP w b n l) (h2 : ListP w b2 n l) :
    Calls Try.prog 32 #[.slice b n cap, .slice b2 n cap2] w (Ret w (.bool true)) := by
  have H1 := Lib.hid h1
  have H2 := Lib.hid h2
  clear h1 h2
  go_enter Try.func32, Try.ntmps32
  go_wp2
  go_loopw [5] (fun i wr => ∃ k : Nat, k ≤ n ∧ i = .int .i64 k ∧ Hid (Below w.heap.size w wr)) (fun i wr => n - (intOf i).toNat)
  case atStart => exact ⟨0, Nat.zero_le _, rfl, Lib.hid (Below.refl _ _)⟩
  case round =>
    obtain ⟨k, hk, rfl, HB⟩ := hrel
    by_cases hlt : k < n
    · obtain ⟨g1, o1, rfl, hp1⟩ := H1.out.2 (by omega)
      obtain ⟨g2, o2, rfl, hp2⟩ := H2.out.2 (by omega)
      obtain ⟨c0, c1, c2⟩ := hp1 k hlt
      obtain ⟨e0, e1, e2⟩ := hp2 k hlt
      clear hp1 hp2 H1 H2
      generalize l.getD k (0, 0, 0) = a at *
      obtain ⟨x, y, z⟩ := a
      go_wp2
      refine region_calm [(17, .slice (some ⟨g1, o1, none⟩) n cap), (18, .int .i64 k), (19, .pointer (some ⟨g1, o1 + k * 3, none⟩)), (20, ptV x y z), (21, .slice (some ⟨g2, o2, none⟩) n cap2), (22, .int .i64 k), (23, .pointer (some ⟨g2, o2 + k * 3, none⟩)), (24, ptV x y z), (25, .bool true), (26, .bool false)] (by kernel_rfl) (by kernel_rfl) (by kernel_rfl) (fun aE hpe => ?_)
      simp only [puts, Act.put, List.setIfInBounds_toArray, List.set_cons_zero, List.set_cons_succ] at hpe
      subst hpe
      refine ⟨⟨.inr (.inr ?_), .inr (.inr ?_), .inr (.inr ?_), .inr (.inr ?_), .inr (.inr ?_), .inr (.inr ?_), .inr (.inr ?_), .inr (.inr ?_), .inr (.inr ?_), .inr (.inr ?_), trivial⟩, ?_⟩
      · exact Calm.mk 17 (.slice (some ⟨g1, o1, none⟩) n cap) rfl rfl (fun W _ => calm_move (.tmp 0) rfl rfl)
      · exact Calm.mk 18 (.int .i64 k) rfl rfl (fun W _ => calm_move (.tmp 5) rfl rfl)
      · exact Calm.mk 19 (.pointer (some ⟨g1, o1 + k * 3, none⟩)) rfl rfl (fun W _ => calm_run (by simp [execOp, Act.eval, go_sem, hlt]))
      · exact Calm.mk 20 (ptV x y z) rfl rfl (fun W hW => calm_loadPt 23 (.tmp 19) rfl rfl (cell_below hW (cell_below HB.out c0)) (cell_below hW (cell_below HB.out c1)) (cell_below hW (cell_below HB.out c2)) Try.sizeOf23 Try.isAgg23)
      · exact Calm.mk 21 (.slice (some ⟨g2, o2, none⟩) n cap2) rfl rfl (fun W _ => calm_move (.tmp 1) rfl rfl)
      · exact Calm.mk 22 (.int .i64 k) rfl rfl (fun W _ => calm_move (.tmp 5) rfl rfl)
      · exact Calm.mk 23 (.pointer (some ⟨g2, o2 + k * 3, none⟩)) rfl rfl (fun W _ => calm_run (by simp [execOp, Act.eval, go_sem, hlt]))
      · exact Calm.mk 24 (ptV x y z) rfl rfl (fun W hW => calm_loadPt 23 (.tmp 23) rfl rfl (cell_below hW (cell_below HB.out e0)) (cell_below hW (cell_below HB.out e1)) (cell_below hW (cell_below HB.out e2)) Try.sizeOf23 Try.isAgg23)
      · exact Calm.mk 25 (.bool true) rfl rfl (fun W hW => calm_call 43 _ #[ptV x y z, ptV x y z] rfl rfl rfl (by simp [Act.eval]) (Try.call43 _ _) (eqPoint_same x y z W))
      · exact Calm.mk 26 (.bool false) rfl rfl (fun W hW => calm_run (by simp [execOp, Act.eval, go_sem]))
      intro W2 hW2
      have HB2 := Lib.hid (low_tr' HB.out hW2 HB.out.size)
      clear HB hW2
      go_wp2
      go_roundw
      case rel => exact ⟨k + 1, by omega, by go_num, HB2⟩
      case measure => simp [intOf]; omega
    · go_wp2
      go_ret
      exact ⟨rfl, HB.out⟩
theorem intactPointS_same (g g2 n : Nat) (l : List Pt) (w : World) (hn : n ≤ 1000000) (hl : l.length = n + roomN n) (h1 : PtsAt w g 0 (n + roomN n) l) (h2 : PtsAt w g2 0 (n + roomN n) l) :
    Calls Try.prog 48 #[.slice (some ⟨g, 0, none⟩) n (n + roomN n), .slice (some ⟨g2, 0, none⟩) n (n + roomN n)] w (Ret w (.bool true)) := by
  have hr0 := roomN_le n
  have HR := Lib.hid (fun (W : World) => roomBehind_any n W hn)
  have HE := Lib.hid (fun (W : World) (hW : Below w.heap.size w W) => eqPointS_same (some ⟨g, 0, none⟩) (some ⟨g2, 0, none⟩) (n + roomN n) (n + roomN n) (n + roomN n) l W (by omega) (listP_mk hl (h1.below hW)) (listP_mk hl (h2.below hW)))
  clear h1 h2 hl
  generalize roomN n = r at *
  generalize hm : n + r = m at *
  have hnm : n ≤ m := by omega
  have hm2 : m ≤ 2 * n + 1 := by omega
  have hmz : (n : Int) + (r : Int) = m := by omega
  go_enter Try.func48, Try.ntmps48
  go_wp2_with (go_at_call 63; refine (HR.out _).mono ?_; rintro e w' ⟨rfl, rfl⟩)
  refine region_calmG [(12, .slice (some ⟨g, 0, none⟩) n m), (13, .int .i64 n), (14, .slice (some ⟨g2, 0, none⟩) n m), (15, .int .i64 n), (16, .bool true), (17, .bool true), (18, .slice (some ⟨g, 0, none⟩) n m), (19, .int .i64 m), (20, .slice (some ⟨g, 0, none⟩) m m), (21, .slice (some ⟨g2, 0, none⟩) n m), (22, .int .i64 m), (23, .slice (some ⟨g2, 0, none⟩) m m), (24, .bool true), (25, .bool true), (4, .bool true)] (by kernel_rfl) (by kernel_rfl) (by kernel_rfl) (fun aE hpe => ?_)
  simp only [puts, Act.put, List.setIfInBounds_toArray, List.set_cons_zero, List.set_cons_succ] at hpe
  subst hpe
  refine ⟨⟨.inr (.inr ?_), .inr (.inr ?_), .inr (.inr ?_), .inr (.inr ?_), .inr (.inr ?_), .inr (.inr ?_), .inr (.inr ?_), .inr (.inr ?_), .inr (.inr ?_), .inr (.inr ?_), .inr (.inr ?_), .inr (.inr ?_), .inr (.inr ?_), .inr (.inr ?_), .inr (.inr ?_), trivial⟩, ?_⟩
  · exact CalmG.mk 12 (.slice (some ⟨g, 0, none⟩) n m) rfl rfl rfl (fun W _ => calm_move (.tmp 0) rfl rfl)
  · exact CalmG.mk 13 (.int .i64 n) rfl rfl rfl (fun W _ => calm_run (by simp [execOp, Act.eval, go_sem]))
  · exact CalmG.mk 14 (.slice (some ⟨g2, 0, none⟩) n m) rfl rfl rfl (fun W _ => calm_move (.tmp 1) rfl rfl)
  · exact CalmG.mk 15 (.int .i64 n) rfl rfl rfl (fun W _ => calm_run (by simp [execOp, Act.eval, go_sem]))
  · exact CalmG.mk 16 (.bool true) rfl rfl rfl (fun W _ => calm_run (by simp [execOp, Act.eval, go_sem]))
  · exact CalmG.mk 17 (.bool true) rfl rfl rfl (fun W _ => calm_move (.tmp 16) rfl rfl)
  · exact CalmG.mk 18 (.slice (some ⟨g, 0, none⟩) n m) rfl rfl rfl (fun W _ => calm_move (.tmp 0) rfl rfl)
  · exact CalmG.mk 19 (.int .i64 m) rfl rfl rfl (fun W _ => calm_move (.tmp 5) rfl (by show Value.int .i64 _ = _; first | rfl | rw [hmz]))
  · exact CalmG.mk 20 (.slice (some ⟨g, 0, none⟩) m m) rfl rfl rfl (fun W _ => calm_run (by simp [execOp, Act.eval, go_sem]))
  · exact CalmG.mk 21 (.slice (some ⟨g2, 0, none⟩) n m) rfl rfl rfl (fun W _ => calm_move (.tmp 1) rfl rfl)
  · exact CalmG.mk 22 (.int .i64 m) rfl rfl rfl (fun W _ => calm_move (.tmp 5) rfl (by show Value.int .i64 _ = _; first | rfl | rw [hmz]))
  · exact CalmG.mk 23 (.slice (some ⟨g2, 0, none⟩) m m) rfl rfl rfl (fun W _ => calm_run (by simp [execOp, Act.eval, go_sem]))
  · exact CalmG.mk 24 (.bool true) rfl rfl rfl (fun W hW => calm_call 32 _ #[.slice (some ⟨g, 0, none⟩) m m, .slice (some ⟨g2, 0, none⟩) m m] rfl rfl rfl (by simp [Act.eval]) (Try.call32 _ _) (HE.out W hW))
  · exact CalmG.mk 25 (.bool true) rfl rfl rfl (fun W hW => calm_run (by simp [execOp, Act.eval, go_sem]))
  · exact CalmG.mk 4 (.bool true) rfl rfl rfl (fun W hW => calm_assign (.tmp 25) rfl rfl)
  intro W2 hW2
  have HB := Lib.hid hW2
  go_wp2
  go_ret
  exact ⟨rfl, HB.out⟩
end Go.Proofs.Ythkbhaaodegocaa
/- Contracts: the laws' own lists of lines: made with room behind, compared. (Printed by geng1.py, a program of this session.) -/
namespace Go.Proofs.Ythkbhaaodegocaa
open Go.RowKit
set_option linter.unusedVariables false
set_option linter.unusedSimpArgs false
set_option maxHeartbeats 2000000 in
theorem toLineS_any (b : Option Addr) (n cap : Nat) (bare : Bool) (l : List Pt) (w : World) (hl : l.length = n) (hn : n ≤ 1000000) (hb : bare = false ∨ 0 < n)
    (hc : 0 < n → ∃ g off, b = some ⟨g, off, none⟩ ∧ PtsAt w g off n l) :
    Calls Try.prog 112 #[.slice b n cap, .bool bare] w (LaidP 24 w l) := by
  obtain ⟨i0, hi, hz0, hz1, hz2⟩ := info_parts (show (Try.prog.info? 24).map (fun i => (i.zero, i.size, i.bytes)) = some (some (.agg #[.int .i64 0, .int .i64 0, .int .i64 0]), 3, 24) by kernel_rfl)
  have HR := Lib.hid (fun (W : World) => roomBehind_any n W hn)
  have HL := Lib.hid hl
  have HC := Lib.hid hc
  have HI0 := Lib.hid hi; have HZ0 := Lib.hid hz0; have HZ1 := Lib.hid hz1; have HZ2 := Lib.hid hz2
  have hr0 := roomN_le n
  have HT := Lib.hid (withRoomP_length l)
  have HF := Lib.hid (withRoomP_fill l)
  have HA := Lib.hid (withRoomP_at l)
  rw [hl] at HT HF HA
  have HG : Hid (∀ L : List Pt, L.length = n + roomN n → L.take (n + roomN n) = (withRoomP l).take (n + roomN n) → L = withRoomP l) := Lib.hid (fun L h1 h2 => by
    rw [List.take_of_length_le (by omega), List.take_of_length_le (by rw [HT.out]; omega)] at h2; exact h2)
  clear hi hz0 hz1 hz2 hl hc
  have fin : ∀ e w', (∃ g, e = .returned (.slice (some ⟨g, 0, none⟩) n (n + roomN n)) ∧ w.heap.size ≤ g ∧ RoomP w' g (n + roomN n) 24 ∧ PtsAt w' g 0 (n + roomN n) (withRoomP l) ∧ Below w.heap.size w w') → LaidP 24 w l e w' := by
    intro e w' h
    refine ⟨?_⟩
    rw [HL.out]; exact h
  have FIN := Lib.hid fin
  clear fin
  generalize hM : withRoomP l = M at *
  generalize hr : roomN n = r at *
  generalize hm : n + r = m at *
  have hnm : n ≤ m := by omega
  have hm2 : m ≤ 2 * n + 1 := by omega
  have hcond : (n : Int) = 0 → bare = false := by
    intro h
    rcases hb with h2 | h2
    · exact h2
    · omega
  clear hr hb hM
  have HMm := hm
  by_cases h0 : bare = true ∧ n = 0
  · exfalso
    have := hcond (by omega)
    rw [h0.1] at this; cases this
  clear hcond
  cases bare with
  | false =>
    clear h0
    go_enter Try.func112, Try.ntmps112
    go_wp2_with (first
      | (go_at_call 63; refine (HR.out _).mono ?_; rintro e w' ⟨rfl, rfl⟩)
      | (refine wpList_make_pts _ rfl _ _ 74 rfl 24 i0 Try.underlying74 HI0.out HZ0.out HZ1.out .i64 .i64 m _ (by omega) rfl rfl (by rw [HZ2.out]; omega) (by omega) ?_; intro w1 hb1 hr1 hp1 hl1; have HB1 := Lib.hid hb1; have HR1 := Lib.hid hr1; have HP1 := Lib.hid hp1; clear hb1 hr1 hp1))
    go_loopw [6] (fun i wr => ∃ (k : Nat) (L : List Pt), k ≤ n ∧ i = .int .i64 k ∧ Hid (L.length = m ∧ L.take k = M.take k) ∧ Hid (RoomP wr w.heap.size m 24) ∧ Hid (PtsAt wr w.heap.size 0 m L) ∧ Hid (Below w.heap.size w wr)) (fun i wr => n - (intOf i).toNat)
    case atStart => exact ⟨0, _, Nat.zero_le _, rfl, Lib.hid ⟨by simp, by simp⟩, HR1, HP1, HB1⟩
    case round =>
      obtain ⟨k, L, hk, rfl, HL1, HRo, HPt, HB⟩ := hrel
      by_cases hlt : k < n
      · obtain ⟨g, off, rfl, hpt⟩ := HC.out (by omega)
        obtain ⟨c0, c1, c2⟩ := hpt k hlt
        have hgl : g < w.heap.size := World.block_lt_of_cell? w _ c0
        have d0 : wr.cell? ⟨g, off + k * 3, none⟩ = some (.int .i64 (l.getD k (0, 0, 0)).1) := (HB.out.cell hgl).trans c0
        have d1 : wr.cell? ⟨g, off + k * 3 + 1, none⟩ = some (.int .i64 (l.getD k (0, 0, 0)).2.1) := (HB.out.cell hgl).trans c1
        have d2 : wr.cell? ⟨g, off + k * 3 + 2, none⟩ = some (.int .i64 (l.getD k (0, 0, 0)).2.2) := (HB.out.cell hgl).trans c2
        have HS := Lib.hid (take_setP HL1.out.2 (by have := HL1.out.1; omega) (by have := HT.out; omega) (HA.out k hlt))
        clear c0 c1 c2 hpt
        generalize l.getD k (0, 0, 0) = a at *
        obtain ⟨x, y, z⟩ := a
        dsimp only at d0 d1 d2
        obtain ⟨u0, s0⟩ := Option.isSome_iff_exists.1 (HRo.out.some (k * 3) (by omega))
        have r0 := HRo.out.frozen (k * 3)
        obtain ⟨u1, s1⟩ := Option.isSome_iff_exists.1 (HRo.out.some (k * 3 + 1) (by omega))
        have r1 := HRo.out.frozen (k * 3 + 1)
        obtain ⟨u2, s2⟩ := Option.isSome_iff_exists.1 (HRo.out.some (k * 3 + 2) (by omega))
        have r2 := HRo.out.frozen (k * 3 + 2)
        have hwl := HRo.out.lt
        go_wp2_with (go_at_call 78; (with_reducible refine (toLine_any x y z _).mono ?_); rintro e w2_ ⟨rfl, hb2⟩; obtain ⟨hcb2, hfb2, hlb2⟩ := bcell hb2; have hsz2 := hb2.size; (try simp at hsz2); have HB2 := Lib.hid hb2; clear hb2; (try (have hl02 : w.heap.size < w2_.heap.size := by omega)))
        have HR2 := HRo.out.below HB2.out
        have HC2 := HPt.out.below HB2.out
        have HBB := low_tr' HB.out HB2.out (by omega)
        go_roundw
        case rel => exact ⟨k + 1, L.set k (x, y, z), by omega, by go_num, Lib.hid ⟨by rw [List.length_set]; exact HL1.out.1, HS.out⟩, Lib.hid (((HR2.set _ _).set _ _).set _ _), Lib.hid (pts_set HR2 (Nat.le_refl _) HC2 HL1.out.1 k (by omega) x y z), Lib.hid (((HBB.setCell (Nat.le_refl _) _).setCell (Nat.le_refl _) _).setCell (Nat.le_refl _) _)⟩
        case measure => simp [intOf]; omega
      · have hkn : k = n := by omega
        subst hkn
        go_wp2
        go_loopw [7] (fun i wr => ∃ (j : Nat) (L : List Pt), k ≤ j ∧ j ≤ m ∧ i = .int .i64 j ∧ Hid (L.length = m ∧ L.take j = M.take j) ∧ Hid (RoomP wr w.heap.size m 24) ∧ Hid (PtsAt wr w.heap.size 0 m L) ∧ Hid (Below w.heap.size w wr)) (fun i wr => m - (intOf i).toNat)
        case atStart => exact ⟨k, L, Nat.le_refl _, by omega, rfl, HL1, HRo, HPt, HB⟩
        case round =>
          clear HL1 HRo HPt HB hlt hk
          obtain ⟨j, L, hkj, hj, rfl, HL1, HRo, HPt, HB⟩ := hrel
          by_cases hlt : j < m
          · have HS := Lib.hid (take_setP HL1.out.2 (by have := HL1.out.1; omega) (by have := HT.out; omega) (HF.out j hkj hlt))
            obtain ⟨u0, s0⟩ := Option.isSome_iff_exists.1 (HRo.out.some (j * 3) (by omega))
            have r0 := HRo.out.frozen (j * 3)
            obtain ⟨u1, s1⟩ := Option.isSome_iff_exists.1 (HRo.out.some (j * 3 + 1) (by omega))
            have r1 := HRo.out.frozen (j * 3 + 1)
            obtain ⟨u2, s2⟩ := Option.isSome_iff_exists.1 (HRo.out.some (j * 3 + 2) (by omega))
            have r2 := HRo.out.frozen (j * 3 + 2)
            have hwl := HRo.out.lt
            go_wp2
            go_roundw
            case rel => exact ⟨j + 1, L.set j fillP, by omega, by omega, by go_num, Lib.hid ⟨by rw [List.length_set]; exact HL1.out.1, HS.out⟩, Lib.hid (((HRo.out.set _ _).set _ _).set _ _), Lib.hid (pts_set HRo.out (Nat.le_refl _) HPt.out HL1.out.1 j (by omega) _ _ _), Lib.hid (((HB.out.setCell (Nat.le_refl _) _).setCell (Nat.le_refl _) _).setCell (Nat.le_refl _) _)⟩
            case measure => simp [intOf]; omega
          · have hjn : j = m := by omega
            subst hjn
            go_wp2
            go_ret
            have hE := HG.out L HL1.out.1 HL1.out.2
            exact FIN.out _ _ ⟨w.heap.size, rfl, Nat.le_refl _, HRo.out, by rw [← hE]; exact HPt.out, HB.out⟩
  | true =>
    have hn0 : 0 < n := by
      rcases Nat.eq_zero_or_pos n with h | h
      · exact (h0 ⟨rfl, h⟩).elim
      · exact h
    have hnz : ((n : Int) == 0) = false := by simp; omega
    clear h0
    go_enter Try.func112, Try.ntmps112
    go_wp2_with (first
      | (go_at_call 63; refine (HR.out _).mono ?_; rintro e w' ⟨rfl, rfl⟩)
      | (refine wpList_make_pts _ rfl _ _ 74 rfl 24 i0 Try.underlying74 HI0.out HZ0.out HZ1.out .i64 .i64 m _ (by omega) rfl rfl (by rw [HZ2.out]; omega) (by omega) ?_; intro w1 hb1 hr1 hp1 hl1; have HB1 := Lib.hid hb1; have HR1 := Lib.hid hr1; have HP1 := Lib.hid hp1; clear hb1 hr1 hp1))
    go_loopw [6] (fun i wr => ∃ (k : Nat) (L : List Pt), k ≤ n ∧ i = .int .i64 k ∧ Hid (L.length = m ∧ L.take k = M.take k) ∧ Hid (RoomP wr w.heap.size m 24) ∧ Hid (PtsAt wr w.heap.size 0 m L) ∧ Hid (Below w.heap.size w wr)) (fun i wr => n - (intOf i).toNat)
    case atStart => exact ⟨0, _, Nat.zero_le _, rfl, Lib.hid ⟨by simp, by simp⟩, HR1, HP1, HB1⟩
    case round =>
      obtain ⟨k, L, hk, rfl, HL1, HRo, HPt, HB⟩ := hrel
      by_cases hlt : k < n
      · obtain ⟨g, off, rfl, hpt⟩ := HC.out (by omega)
        obtain ⟨c0, c1, c2⟩ := hpt k hlt
        have hgl : g < w.heap.size := World.block_lt_of_cell? w _ c0
        have d0 : wr.cell? ⟨g, off + k * 3, none⟩ = some (.int .i64 (l.getD k (0, 0, 0)).1) := (HB.out.cell hgl).trans c0
        have d1 : wr.cell? ⟨g, off + k * 3 + 1, none⟩ = some (.int .i64 (l.getD k (0, 0, 0)).2.1) := (HB.out.cell hgl).trans c1
        have d2 : wr.cell? ⟨g, off + k * 3 + 2, none⟩ = some (.int .i64 (l.getD k (0, 0, 0)).2.2) := (HB.out.cell hgl).trans c2
        have HS := Lib.hid (take_setP HL1.out.2 (by have := HL1.out.1; omega) (by have := HT.out; omega) (HA.out k hlt))
        clear c0 c1 c2 hpt
        generalize l.getD k (0, 0, 0) = a at *
        obtain ⟨x, y, z⟩ := a
        dsimp only at d0 d1 d2
        obtain ⟨u0, s0⟩ := Option.isSome_iff_exists.1 (HRo.out.some (k * 3) (by omega))
        have r0 := HRo.out.frozen (k * 3)
        obtain ⟨u1, s1⟩ := Option.isSome_iff_exists.1 (HRo.out.some (k * 3 + 1) (by omega))
        have r1 := HRo.out.frozen (k * 3 + 1)
        obtain ⟨u2, s2⟩ := Option.isSome_iff_exists.1 (HRo.out.some (k * 3 + 2) (by omega))
        have r2 := HRo.out.frozen (k * 3 + 2)
        have hwl := HRo.out.lt
        go_wp2_with (go_at_call 78; (with_reducible refine (toLine_any x y z _).mono ?_); rintro e w2_ ⟨rfl, hb2⟩; obtain ⟨hcb2, hfb2, hlb2⟩ := bcell hb2; have hsz2 := hb2.size; (try simp at hsz2); have HB2 := Lib.hid hb2; clear hb2; (try (have hl02 : w.heap.size < w2_.heap.size := by omega)))
        have HR2 := HRo.out.below HB2.out
        have HC2 := HPt.out.below HB2.out
        have HBB := low_tr' HB.out HB2.out (by omega)
        go_roundw
        case rel => exact ⟨k + 1, L.set k (x, y, z), by omega, by go_num, Lib.hid ⟨by rw [List.length_set]; exact HL1.out.1, HS.out⟩, Lib.hid (((HR2.set _ _).set _ _).set _ _), Lib.hid (pts_set HR2 (Nat.le_refl _) HC2 HL1.out.1 k (by omega) x y z), Lib.hid (((HBB.setCell (Nat.le_refl _) _).setCell (Nat.le_refl _) _).setCell (Nat.le_refl _) _)⟩
        case measure => simp [intOf]; omega
      · have hkn : k = n := by omega
        subst hkn
        go_wp2
        go_loopw [7] (fun i wr => ∃ (j : Nat) (L : List Pt), k ≤ j ∧ j ≤ m ∧ i = .int .i64 j ∧ Hid (L.length = m ∧ L.take j = M.take j) ∧ Hid (RoomP wr w.heap.size m 24) ∧ Hid (PtsAt wr w.heap.size 0 m L) ∧ Hid (Below w.heap.size w wr)) (fun i wr => m - (intOf i).toNat)
        case atStart => exact ⟨k, L, Nat.le_refl _, by omega, rfl, HL1, HRo, HPt, HB⟩
        case round =>
          clear HL1 HRo HPt HB hlt hk
          obtain ⟨j, L, hkj, hj, rfl, HL1, HRo, HPt, HB⟩ := hrel
          by_cases hlt : j < m
          · have HS := Lib.hid (take_setP HL1.out.2 (by have := HL1.out.1; omega) (by have := HT.out; omega) (HF.out j hkj hlt))
            obtain ⟨u0, s0⟩ := Option.isSome_iff_exists.1 (HRo.out.some (j * 3) (by omega))
            have r0 := HRo.out.frozen (j * 3)
            obtain ⟨u1, s1⟩ := Option.isSome_iff_exists.1 (HRo.out.some (j * 3 + 1) (by omega))
            have r1 := HRo.out.frozen (j * 3 + 1)
            obtain ⟨u2, s2⟩ := Option.isSome_iff_exists.1 (HRo.out.some (j * 3 + 2) (by omega))
            have r2 := HRo.out.frozen (j * 3 + 2)
            have hwl := HRo.out.lt
            go_wp2
            go_roundw
            case rel => exact ⟨j + 1, L.set j fillP, by omega, by omega, by go_num, Lib.hid ⟨by rw [List.length_set]; exact HL1.out.1, HS.out⟩, Lib.hid (((HRo.out.set _ _).set _ _).set _ _), Lib.hid (pts_set HRo.out (Nat.le_refl _) HPt.out HL1.out.1 j (by omega) _ _ _), Lib.hid (((HB.out.setCell (Nat.le_refl _) _).setCell (Nat.le_refl _) _).setCell (Nat.le_refl _) _)⟩
            case measure => simp [intOf]; omega
          · have hjn : j = m := by omega
            subst hjn
            go_wp2
            go_ret
            have hE := HG.out L HL1.out.1 HL1.out.2
            exact FIN.out _ _ ⟨w.heap.size, rfl, Nat.le_refl _, HRo.out, by rw [← hE]; exact HPt.out, HB.out⟩
theorem toLineS_nil (cap : Nat) (b : Option Addr) (w : World) : Calls Try.prog 112 #[.slice b 0 cap, .bool true] w fun e w' => e = .returned (.slice none 0 0) ∧ w = w' := by
  go_enter Try.func112, Try.ntmps112
  go_wp2
  go_ret
  exact ⟨rfl, rfl⟩
end Go.Proofs.Ythkbhaaodegocaa
/- Contracts: the laws' own lists of lines: compared, intact. (Printed by geng1.py, a program of this session.) -/
namespace Go.Proofs.Ythkbhaaodegocaa
open Go.RowKit
set_option linter.unusedVariables false
set_option linter.unusedSimpArgs false
theorem eqLineS_same (b b2 : Option Addr) (n cap cap2 : Nat) (l : List Pt) (w : World) (hn : n ≤ 4611686018427387904) (h1 : ListP w b n l) (h2 : ListP w b2 n l) :
    Calls Try.prog 157 #[.slice b n cap, .slice b2 n cap2] w (Ret w (.bool true)) := by
  have H1 := Lib.hid h1
  have H2 := Lib.hid h2
  clear h1 h2
  go_enter Try.func157, Try.ntmps157
  go_wp2
  go_loopw [5] (fun i wr => ∃ k : Nat, k ≤ n ∧ i = .int .i64 k ∧ Hid (Below w.heap.size w wr)) (fun i wr => n - (intOf i).toNat)
  case atStart => exact ⟨0, Nat.zero_le _, rfl, Lib.hid (Below.refl _ _)⟩
  case round =>
    obtain ⟨k, hk, rfl, HB⟩ := hrel
    by_cases hlt : k < n
    · obtain ⟨g1, o1, rfl, hp1⟩ := H1.out.2 (by omega)
      obtain ⟨g2, o2, rfl, hp2⟩ := H2.out.2 (by omega)
      obtain ⟨c0, c1, c2⟩ := hp1 k hlt
      obtain ⟨e0, e1, e2⟩ := hp2 k hlt
      clear hp1 hp2 H1 H2
      generalize l.getD k (0, 0, 0) = a at *
      obtain ⟨x, y, z⟩ := a
      go_wp2
      refine region_calm [(17, .slice (some ⟨g1, o1, none⟩) n cap), (18, .int .i64 k), (19, .pointer (some ⟨g1, o1 + k * 3, none⟩)), (20, ptV x y z), (21, .slice (some ⟨g2, o2, none⟩) n cap2), (22, .int .i64 k), (23, .pointer (some ⟨g2, o2 + k * 3, none⟩)), (24, ptV x y z), (25, .bool true), (26, .bool false)] (by kernel_rfl) (by kernel_rfl) (by kernel_rfl) (fun aE hpe => ?_)
      simp only [puts, Act.put, List.setIfInBounds_toArray, List.set_cons_zero, List.set_cons_succ] at hpe
      subst hpe
      refine ⟨⟨.inr (.inr ?_), .inr (.inr ?_), .inr (.inr ?_), .inr (.inr ?_), .inr (.inr ?_), .inr (.inr ?_), .inr (.inr ?_), .inr (.inr ?_), .inr (.inr ?_), .inr (.inr ?_), trivial⟩, ?_⟩
      · exact Calm.mk 17 (.slice (some ⟨g1, o1, none⟩) n cap) rfl rfl (fun W _ => calm_move (.tmp 0) rfl rfl)
      · exact Calm.mk 18 (.int .i64 k) rfl rfl (fun W _ => calm_move (.tmp 5) rfl rfl)
      · exact Calm.mk 19 (.pointer (some ⟨g1, o1 + k * 3, none⟩)) rfl rfl (fun W _ => calm_run (by simp [execOp, Act.eval, go_sem, hlt]))
      · exact Calm.mk 20 (ptV x y z) rfl rfl (fun W hW => calm_loadPt 24 (.tmp 19) rfl rfl (cell_below hW (cell_below HB.out c0)) (cell_below hW (cell_below HB.out c1)) (cell_below hW (cell_below HB.out c2)) Try.sizeOf24 Try.isAgg24)
      · exact Calm.mk 21 (.slice (some ⟨g2, o2, none⟩) n cap2) rfl rfl (fun W _ => calm_move (.tmp 1) rfl rfl)
      · exact Calm.mk 22 (.int .i64 k) rfl rfl (fun W _ => calm_move (.tmp 5) rfl rfl)
      · exact Calm.mk 23 (.pointer (some ⟨g2, o2 + k * 3, none⟩)) rfl rfl (fun W _ => calm_run (by simp [execOp, Act.eval, go_sem, hlt]))
      · exact Calm.mk 24 (ptV x y z) rfl rfl (fun W hW => calm_loadPt 24 (.tmp 23) rfl rfl (cell_below hW (cell_below HB.out e0)) (cell_below hW (cell_below HB.out e1)) (cell_below hW (cell_below HB.out e2)) Try.sizeOf24 Try.isAgg24)
      · exact Calm.mk 25 (.bool true) rfl rfl (fun W hW => calm_call 56 _ #[ptV x y z, ptV x y z] rfl rfl rfl (by simp [Act.eval]) (Try.call56 _ _) (eqLine_same x y z W))
      · exact Calm.mk 26 (.bool false) rfl rfl (fun W hW => calm_run (by simp [execOp, Act.eval, go_sem]))
      intro W2 hW2
      have HB2 := Lib.hid (low_tr' HB.out hW2 HB.out.size)
      clear HB hW2
      go_wp2
      go_roundw
      case rel => exact ⟨k + 1, by omega, by go_num, HB2⟩
      case measure => simp [intOf]; omega
    · go_wp2
      go_ret
      exact ⟨rfl, HB.out⟩
theorem intactLineS_same (g g2 n : Nat) (l : List Pt) (w : World) (hn : n ≤ 1000000) (hl : l.length = n + roomN n) (h1 : PtsAt w g 0 (n + roomN n) l) (h2 : PtsAt w g2 0 (n + roomN n) l) :
    Calls Try.prog 115 #[.slice (some ⟨g, 0, none⟩) n (n + roomN n), .slice (some ⟨g2, 0, none⟩) n (n + roomN n)] w (Ret w (.bool true)) := by
  have hr0 := roomN_le n
  have HR := Lib.hid (fun (W : World) => roomBehind_any n W hn)
  have HE := Lib.hid (fun (W : World) (hW : Below w.heap.size w W) => eqLineS_same (some ⟨g, 0, none⟩) (some ⟨g2, 0, none⟩) (n + roomN n) (n + roomN n) (n + roomN n) l W (by omega) (listP_mk hl (h1.below hW)) (listP_mk hl (h2.below hW)))
  clear h1 h2 hl
  generalize roomN n = r at *
  generalize hm : n + r = m at *
  have hnm : n ≤ m := by omega
  have hm2 : m ≤ 2 * n + 1 := by omega
  have hmz : (n : Int) + (r : Int) = m := by omega
  go_enter Try.func115, Try.ntmps115
  go_wp2_with (go_at_call 63; refine (HR.out _).mono ?_; rintro e w' ⟨rfl, rfl⟩)
  refine region_calmG [(12, .slice (some ⟨g, 0, none⟩) n m), (13, .int .i64 n), (14, .slice (some ⟨g2, 0, none⟩) n m), (15, .int .i64 n), (16, .bool true), (17, .bool true), (18, .slice (some ⟨g, 0, none⟩) n m), (19, .int .i64 m), (20, .slice (some ⟨g, 0, none⟩) m m), (21, .slice (some ⟨g2, 0, none⟩) n m), (22, .int .i64 m), (23, .slice (some ⟨g2, 0, none⟩) m m), (24, .bool true), (25, .bool true), (4, .bool true)] (by kernel_rfl) (by kernel_rfl) (by kernel_rfl) (fun aE hpe => ?_)
  simp only [puts, Act.put, List.setIfInBounds_toArray, List.set_cons_zero, List.set_cons_succ] at hpe
  subst hpe
  refine ⟨⟨.inr (.inr ?_), .inr (.inr ?_), .inr (.inr ?_), .inr (.inr ?_), .inr (.inr ?_), .inr (.inr ?_), .inr (.inr ?_), .inr (.inr ?_), .inr (.inr ?_), .inr (.inr ?_), .inr (.inr ?_), .inr (.inr ?_), .inr (.inr ?_), .inr (.inr ?_), .inr (.inr ?_), trivial⟩, ?_⟩
  · exact CalmG.mk 12 (.slice (some ⟨g, 0, none⟩) n m) rfl rfl rfl (fun W _ => calm_move (.tmp 0) rfl rfl)
  · exact CalmG.mk 13 (.int .i64 n) rfl rfl rfl (fun W _ => calm_run (by simp [execOp, Act.eval, go_sem]))
  · exact CalmG.mk 14 (.slice (some ⟨g2, 0, none⟩) n m) rfl rfl rfl (fun W _ => calm_move (.tmp 1) rfl rfl)
  · exact CalmG.mk 15 (.int .i64 n) rfl rfl rfl (fun W _ => calm_run (by simp [execOp, Act.eval, go_sem]))
  · exact CalmG.mk 16 (.bool true) rfl rfl rfl (fun W _ => calm_run (by simp [execOp, Act.eval, go_sem]))
  · exact CalmG.mk 17 (.bool true) rfl rfl rfl (fun W _ => calm_move (.tmp 16) rfl rfl)
  · exact CalmG.mk 18 (.slice (some ⟨g, 0, none⟩) n m) rfl rfl rfl (fun W _ => calm_move (.tmp 0) rfl rfl)
  · exact CalmG.mk 19 (.int .i64 m) rfl rfl rfl (fun W _ => calm_move (.tmp 5) rfl (by show Value.int .i64 _ = _; first | rfl | rw [hmz]))
  · exact CalmG.mk 20 (.slice (some ⟨g, 0, none⟩) m m) rfl rfl rfl (fun W _ => calm_run (by simp [execOp, Act.eval, go_sem]))
  · exact CalmG.mk 21 (.slice (some ⟨g2, 0, none⟩) n m) rfl rfl rfl (fun W _ => calm_move (.tmp 1) rfl rfl)
  · exact CalmG.mk 22 (.int .i64 m) rfl rfl rfl (fun W _ => calm_move (.tmp 5) rfl (by show Value.int .i64 _ = _; first | rfl | rw [hmz]))
  · exact CalmG.mk 23 (.slice (some ⟨g2, 0, none⟩) m m) rfl rfl rfl (fun W _ => calm_run (by simp [execOp, Act.eval, go_sem]))
  · exact CalmG.mk 24 (.bool true) rfl rfl rfl (fun W hW => calm_call 157 _ #[.slice (some ⟨g, 0, none⟩) m m, .slice (some ⟨g2, 0, none⟩) m m] rfl rfl rfl (by simp [Act.eval]) (Try.call157 _ _) (HE.out W hW))
  · exact CalmG.mk 25 (.bool true) rfl rfl rfl (fun W hW => calm_run (by simp [execOp, Act.eval, go_sem]))
  · exact CalmG.mk 4 (.bool true) rfl rfl rfl (fun W hW => calm_assign (.tmp 25) rfl rfl)
  intro W2 hW2
  have HB := Lib.hid hW2
  go_wp2
  go_ret
  exact ⟨rfl, HB.out⟩
end Go.Proofs.Ythkbhaaodegocaa
/- A region that draws its order and stores once into a block that is there: all other blocks are as they were. -/
namespace Go.Proofs.Ythkbhaaodegocaa
open Go.RowKit
set_option linter.unusedVariables false
set_option linter.unusedSimpArgs false
/-- All blocks but one are as they were. -/
structure Save (g0 : Nat) (w W : World) : Prop where
  os : W.os = w.os
  tape : W.tape = w.tape
  output : W.output = w.output
  size : w.heap.size ≤ W.heap.size
  block : ∀ k, k < w.heap.size → k ≠ g0 → W.heap[k]? = w.heap[k]?
theorem Save.tr {g0 : Nat} {w W W' : World} (h : Save g0 w W) (hb : Below W.heap.size W W') : Save g0 w W' :=
  ⟨hb.os.trans h.os, hb.tape.trans h.tape, hb.output.trans h.output, Nat.le_trans h.size hb.size, fun k hk hne => (hb.block k (Nat.lt_of_lt_of_le hk h.size)).trans (h.block k hk hne)⟩
theorem Save.setRow {g0 : Nat} {w W : World} (h : Save g0 w W) (cs : Array Value) : Save g0 w (W.setRow g0 cs) :=
  ⟨h.os, h.tape, h.output, by simpa [World.setRow] using h.size, fun k hk hne => (setRow_other W g0 k cs hne).trans (h.block k hk hne)⟩
theorem Save.below {g0 b : Nat} {w W W' : World} (h : Save g0 W W') (hb : Below b w W) (hg : b ≤ g0) (hs : b ≤ W.heap.size) : Below b w W' :=
  ⟨h.os.trans hb.os, h.tape.trans hb.tape, h.output.trans hb.output, Nat.le_trans hb.size h.size, fun k hk => (h.block k (by omega) (by omega)).trans (hb.block k hk)⟩
structure RInvT (l : List Oper) (a0 aE : Act) (w0 : World) (g0 s n : Nat) (T : TypeId) (U : Array Value) (listed : Array Bool) (a : Act) (w : World) : Prop where
  df : a.defers = aE.defers
  sz : a.tmps.size = aE.tmps.size
  len : listed.size = l.length
  fr1 : ∀ (j : Nat) (o : Oper) (t : Nat), l[j]? = some o → o.dst = some t → listed.getD j false = true → a.tmps.getD t undef = aE.tmps.getD t undef
  fr0 : ∀ t : Nat, (∀ (j : Nat) (o : Oper), l[j]? = some o → o.dst = some t → listed.getD j false = false) → a.tmps.getD t undef = a0.tmps.getD t undef
  bl : Save g0 w0 w
  box : ∃ cs, w.heap[g0]? = some (.cells cs T (0, 0)) ∧ cs.size = n ∧ (listed.getD s false = true → cs = U)
section
variable {P : Program} {Q : Exit → Act → World → Prop} {l : List Oper} {a0 : Act} {w : World} {vs : List (Nat × Value)} {g0 s n : Nat} {T : TypeId} {U : Array Value} {os : Oper}
theorem wp_region_storeT {id : Nat} (hm : P.follows .mixedOrders = true) (hsi : l[s]? = some os) (h0 : ∃ cs, w.heap[g0]? = some (.cells cs T (0, 0)) ∧ cs.size = n) (hU : U.size = n)
    (hst : ∀ (ρ : Operand → Value) (W : World) (cs : Array Value), (∀ t ∈ readsOf os, ρ (.tmp t) = (puts a0 vs).tmps.getD t undef) → W.heap[g0]? = some (.cells cs T (0, 0)) → cs.size = n → (execOp ρ os).run P W = .ok .skip (W.setRow g0 U)) 
    (chk : storeChk l s a0.tmps.size = true) (hkeys : vs.all (fun kv => l.any (·.dst == some kv.1)) = true)
    (hop : ∀ (i : Nat) (o : Oper) (t : Nat), l[i]? = some o → i ≠ s → o.dst = some t → (Region.wanted o (yielded l.toArray (puts a0 vs).tmps) = true ∧ ∀ W, Save g0 w W → calmAt P o (puts a0 vs).eval W ((puts a0 vs).tmps.getD t undef)) ∨ (Region.wanted o (yielded l.toArray (puts a0 vs).tmps) = false ∧ (puts a0 vs).tmps.getD t undef = undef))
    (hQ : ∀ W, Save g0 w W → W.heap[g0]? = some (.cells U T (0, 0)) → Q .normal (puts a0 vs) W) :
    (Code.region id l.toArray true).wp P Q a0 w := by
  have hE : ∀ t, (∀ (j : Nat) (o : Oper), l[j]? = some o → o.dst ≠ some t) → a0.tmps.getD t undef = (puts a0 vs).tmps.getD t undef := by
    intro t hno
    refine (puts_other t vs a0 (fun kv hkv e => ?_)).symm
    have := List.all_eq_true.1 hkeys kv hkv
    obtain ⟨o, ho, hod⟩ := List.any_eq_true.1 this
    obtain ⟨j, hj⟩ := List.getElem?_of_mem ho
    exact hno j o hj (by rw [← e]; simpa using hod)
  have hEs : (puts a0 vs).tmps.size = a0.tmps.size := puts_size _ _
  have hEd : (puts a0 vs).defers = a0.defers := puts_defers _ _
  generalize puts a0 vs = aE at *
  refine wp_region_any hm ?_
  have key : ∀ (fuel : Nat) (listed : Array Bool) (a : Act) (W : World), RInvT l a0 aE w g0 s n T U listed a W →
      (List.range l.length).countP (fun i => !listed.getD i true) ≤ fuel → wpAny P .any l.toArray Q fuel listed a W := by
    intro fuel
    have fin : ∀ (listed : Array Bool) (a : Act) (W : World), RInvT l a0 aE w g0 s n T U listed a W → Region.ready .any l.toArray listed = [] → Q .normal a W := by
      intro listed a W hI hr
      have hall := ready_allS chk hI.len hr
      have ea : a = aE := by
        refine act_ext _ _ hI.df hI.sz (fun t ht => ?_)
        · by_cases hw : ∃ (j : Nat) (o : Oper), l[j]? = some o ∧ o.dst = some t
          · obtain ⟨j, o, hj, ho⟩ := hw
            exact hI.fr1 j o t hj ho (hall j (List.getElem?_eq_some_iff.1 hj).1)
          · rw [hI.fr0 t (fun j o hj ho => (hw ⟨j, o, hj, ho⟩).elim)]
            exact hE t (fun j o hj ho => hw ⟨j, o, hj, ho⟩)
      obtain ⟨cs, hcs, _, he⟩ := hI.box
      have e := he (hall s (List.getElem?_eq_some_iff.1 hsi).1)
      subst e
      rw [ea]
      exact hQ W hI.bl hcs
    -- what an operation that may come up reads is at hand
    have look : ∀ (listed : Array Bool) (a : Act) (W : World), RInvT l a0 aE w g0 s n T U listed a W → ∀ (i : Nat) (o : Oper), l[i]? = some o →
        (∀ e ∈ o.after, Region.binds .any e = true → listed.getD e.on false = true) → ∀ t ∈ readsOf o, a.tmps.getD t undef = aE.tmps.getD t undef := by
      intro listed a W hI i o hi hall t ht
      have h := (storeChk_at chk hi).2.2.2.2.1 t ht
      · by_cases hw : ∃ (j : Nat) (oj : Oper), l[j]? = some oj ∧ oj.dst = some t
        · obtain ⟨j, oj, hj, hjd⟩ := hw
          obtain ⟨e, he, hb, hon⟩ := bindsTo_spec (h j oj hj hjd)
          exact hI.fr1 j oj t hj hjd (by rw [← hon]; exact hall e he hb)
        · rw [hI.fr0 t (fun j oj hj ho => (hw ⟨j, oj, hj, ho⟩).elim)]
          exact hE t (fun j oj hj ho => hw ⟨j, oj, hj, ho⟩)
    induction fuel with
    | zero =>
      intro listed a W hI hc
      have hr : Region.ready .any l.toArray listed = [] := by
        rw [List.eq_nil_iff_forall_not_mem]
        intro i hi
        obtain ⟨h0, o, ho, _⟩ := mem_ready.1 hi
        have hil : i < l.length := by simpa using (Array.getElem?_eq_some_iff.1 ho).1
        have : 0 < (List.range l.length).countP (fun i => !listed.getD i true) := List.countP_pos_iff.2 ⟨i, List.mem_range.2 hil, by rw [h0]; rfl⟩
        omega
      exact ⟨hr, fin listed a W hI hr⟩
    | succ fuel ih =>
      intro listed a W hI hc
      refine ⟨fin listed a W hI, fun i hi => ?_⟩
      obtain ⟨h0, o, ho, hall⟩ := mem_ready.1 hi
      have hio : l[i]? = some o := by simpa using ho
      have hil : i < l.length := (List.getElem?_eq_some_iff.1 hio).1
      have hil' : i < listed.size := by rw [hI.len]; exact hil
      have hi0 : listed.getD i false = false := by simpa [hil'] using h0
      have hC := storeChk_at chk hio
      have hwe : Region.wanted o (yielded l.toArray a.tmps) = Region.wanted o (yielded l.toArray aE.tmps) := by
        unfold Region.wanted
        cases hg : o.guard with
        | none => rfl
        | some kb =>
          obtain ⟨k, b⟩ := kb
          obtain ⟨e, he, hb, hon⟩ := bindsTo_spec (hC.1 k b hg).2
          have : yielded l.toArray a.tmps k = yielded l.toArray aE.tmps k := yielded_congr hI.sz (fun ok tk hk hd => hI.fr1 k ok tk (by simpa using hk) hd (by rw [← hon]; exact hall e he hb))
          simp only [this]
      have hcnt : (List.range l.length).countP (fun j => !(listed.setIfInBounds i true).getD j true) ≤ fuel := by
        have := count_lt (fun j => !listed.getD j true) (fun j => !(listed.setIfInBounds i true).getD j true) (fun j hj => by
            by_cases e : i = j
            · subst e; simp [hil'] at hj
            · rw [getD_set_ne true e] at hj; exact hj) i (by rw [h0]; rfl) (by simp [hil']) (List.range l.length) (List.mem_range.2 hil)
        omega
      by_cases his : i = s
      · -- the store
        subst his
        have eo : o = os := by rw [hsi] at hio; exact (Option.some.inj hio).symm
        subst eo
        have hdst := hC.2.2.2.2.2 rfl
        obtain ⟨cs, hcs, hn, _⟩ := hI.box
        have hrun := hst a.eval W cs (fun t ht => look listed a W hI i o hio hall t ht) hcs hn
        have hgu : o.guard = none := by
          cases hg : o.guard with
          | none => rfl
          | some kb => exact ((hC.1 kb.1 kb.2 hg).1 rfl).elim
        have hw : Region.wanted o (yielded l.toArray a.tmps) = true := by unfold Region.wanted; rw [hgu]
        unfold wpOp
        simp only [ho, hw, if_true]
        refine .inl ?_
        unfold Oper.wp
        rw [hrun]
        simp only [Oper.upon, hdst]
        have hp : a.put none undef = a := rfl
        rw [hp]
        refine ih _ _ _ ⟨hI.df, hI.sz, by simpa using hI.len, ?_, ?_, hI.bl.setRow _, ?_⟩ hcnt
        · intro j oj t hj hjd hl
          rw [getD_set _ _ _ hil'] at hl
          by_cases e : i = j
          · subst e; rw [hio] at hj; obtain rfl := Option.some.inj hj; rw [hdst] at hjd; cases hjd
          · rw [if_neg e] at hl; exact hI.fr1 j oj t hj hjd hl
        · intro t hno
          refine hI.fr0 t (fun j oj hj hjd => ?_)
          have := hno j oj hj hjd
          rw [getD_set _ _ _ hil'] at this
          by_cases e : i = j
          · rw [if_pos e] at this; cases this
          · rw [if_neg e] at this; exact this
        · exact ⟨U, setRow_heap W g0 cs U T (0, 0) hcs, hU, fun _ => rfl⟩
      · obtain ⟨t, hdst, htN⟩ := hC.2.2.2.1 his
        have step : ∀ W', Save g0 w W' → (∃ cs, W'.heap[g0]? = some (.cells cs T (0, 0)) ∧ cs.size = n ∧ (listed.getD s false = true → cs = U)) → wpAny P .any l.toArray Q fuel (listed.setIfInBounds i true) (a.put (some t) (aE.tmps.getD t undef)) W' := by
          intro W' hW' hbox
          refine ih _ _ _ ⟨by rw [put_defers]; exact hI.df, by rw [put_size]; exact hI.sz, by simpa using hI.len, ?_, ?_, hW', by rw [getD_set _ _ _ hil', if_neg his]; exact hbox⟩ hcnt
          · intro j oj u hj hjd hl
            by_cases htu : t = u
            · subst htu; rw [put_get_same _ _ _ (by rw [hI.sz, hEs]; exact htN)]
            · rw [put_get_ne _ _ _ _ htu]
              rw [getD_set _ _ _ hil'] at hl
              by_cases e : i = j
              · subst e; rw [hio] at hj; obtain rfl := Option.some.inj hj; rw [hdst] at hjd; exact (htu (Option.some.inj hjd)).elim
              · rw [if_neg e] at hl; exact hI.fr1 j oj u hj hjd hl
          · intro u hno
            have htu : t ≠ u := fun e => by
              subst e
              have := hno i o hio hdst
              rw [getD_set _ _ _ hil', if_pos rfl] at this; cases this
            rw [put_get_ne _ _ _ _ htu]
            refine hI.fr0 u (fun j oj hj hjd => ?_)
            have := hno j oj hj hjd
            rw [getD_set _ _ _ hil'] at this
            by_cases e : i = j
            · rw [if_pos e] at this; cases this
            · rw [if_neg e] at this; exact this
        unfold wpOp
        simp only [ho]
        rcases hop i o t hio his hdst with ⟨hw, hcalm⟩ | ⟨hw, hun⟩
        · rw [hwe, hw]
          simp only [if_true]
          refine .inl ?_
          have heq : execOp aE.eval o = execOp a.eval o := execOp_congr o hC.2.1 (fun x hx => by
              cases x with
              | tmp u =>
                have hu : u ∈ readsOf o := List.mem_filterMap.2 ⟨.tmp u, by simpa using hx, rfl⟩
                exact (look listed a W hI i o hio hall u hu).symm
              | _ => rfl)
          have hcalm' : calmAt P o a.eval W (aE.tmps.getD t undef) := by
              refine ⟨?_⟩; have hh := (hcalm W hI.bl).out; unfold calmRun at hh ⊢; rw [← heq]; exact hh
          refine wp_of_calm hcalm' (fun W' hb => ?_)
          rw [hdst]
          exact step W' (hI.bl.tr hb) (by obtain ⟨cs, hcs, hr⟩ := hI.box; exact ⟨cs, by rw [hb.block _ (Array.getElem?_eq_some_iff.1 hcs).1]; exact hcs, hr⟩)
        · rw [hwe, hw]
          simp only [Bool.false_eq_true, if_false, hdst]
          rw [hun] at step
          exact step W hI.bl hI.box
  refine key _ _ _ _ ⟨by rw [hEd], hEs.symm, by simp, ?_, ?_, ⟨rfl, rfl, rfl, Nat.le_refl _, fun _ _ _ => rfl⟩, by obtain ⟨cs, h1, h2⟩ := h0; exact ⟨cs, h1, h2, fun h => by rw [rep_false] at h; cases h⟩⟩ ?_
  · intro j o t hj hjd hl; rw [rep_false] at hl; cases hl
  · intro t _; rfl
  · exact Nat.le_trans List.countP_le_length (by simp)
/-- What the law asks of one operation that is not the store. -/
def CalmT (P : Program) (aE : Act) (w : World) (g0 : Nat) (l : List Oper) (o : Oper) : Prop := ∀ t, o.dst = some t →
  (Region.wanted o (yielded l.toArray aE.tmps) = true ∧ ∀ W, Save g0 w W → calmAt P o aE.eval W (aE.tmps.getD t undef)) ∨ (Region.wanted o (yielded l.toArray aE.tmps) = false ∧ aE.tmps.getD t undef = undef)
theorem CalmT.mk {P : Program} {aE : Act} {w : World} {g0 : Nat} {l : List Oper} {o : Oper} (t : Nat) (v : Value) (hd : o.dst = some t) (hv : aE.tmps.getD t undef = v) (hw : Region.wanted o (yielded l.toArray aE.tmps) = true) (h : ∀ W, Save g0 w W → calmAt P o aE.eval W v) : CalmT P aE w g0 l o := by
  intro t' hd'
  rw [hd] at hd'
  obtain rfl := Option.some.inj hd'
  exact .inl ⟨hw, fun W hW => by rw [hv]; exact h W hW⟩
theorem region_storeT {id : Nat} (g0 s n : Nat) (T : TypeId) (U : Array Value) (vs : List (Nat × Value)) (hm : P.follows .mixedOrders = true) (hsi : l[s]? = some os)
    (chk : storeChk l s a0.tmps.size = true) (hkeys : vs.all (fun kv => l.any (·.dst == some kv.1)) = true) (h0 : ∃ cs, w.heap[g0]? = some (.cells cs T (0, 0)) ∧ cs.size = n) (hU : U.size = n)
    (H : ∀ aE, puts a0 vs = aE → (∀ (ρ : Operand → Value) (W : World) (cs : Array Value), (∀ t ∈ readsOf os, ρ (.tmp t) = aE.tmps.getD t undef) → W.heap[g0]? = some (.cells cs T (0, 0)) → cs.size = n → (execOp ρ os).run P W = .ok .skip (W.setRow g0 U)) ∧
      AllBut (CalmT P aE w g0 l) s s 0 l ∧ ∀ W, Save g0 w W → W.heap[g0]? = some (.cells U T (0, 0)) → Q .normal aE W) :
    (Code.region id l.toArray true).wp P Q a0 w := by
  obtain ⟨h1, h2, h3⟩ := H _ rfl
  refine wp_region_storeT hm hsi h0 hU h1 chk hkeys (fun i o t hi his hd => ?_) h3
  exact AllBut.spec l 0 h2 i o hi (by omega) (by omega) t hd
end
end Go.Proofs.Ythkbhaaodegocaa
/- Contracts: the laws' marks on lists of points (and lines). (Printed by geng4.py, a program of this session.) -/
namespace Go.Proofs.Ythkbhaaodegocaa
open Go.RowKit
set_option linter.unusedVariables false
set_option linter.unusedSimpArgs false
def markP (k i : Nat) : Pt := (((k + 3 * i : Nat) : Int), ((k + 3 * i + 1 : Nat) : Int), ((k + 3 * i + 2 : Nat) : Int))
def markL (k n : Nat) : List Pt := (List.range n).map (markP k)
theorem markL_at (k n i : Nat) (h : i < n) : (markL k n).getD i (0, 0, 0) = markP k i := by simp [markL, List.getD, h]
theorem markL_length (k n : Nat) : (markL k n).length = n := by simp [markL]
theorem ret_num {a b : Int} (h : a = b) : Value.int .i64 a = Value.int .i64 b := by rw [h]
theorem mark_eq (k i : Nat) : markP k i = ((k : Int) + 3 * (i : Int), (k : Int) + 3 * (i : Int) + 1, (k : Int) + 3 * (i : Int) + 1 + 1) := by
  unfold markP
  refine Prod.ext ?_ (Prod.ext ?_ ?_) <;> simp <;> omega
theorem pts_grow {W : World} {g cap i : Nat} {T : TypeId} {M : List Pt} {x y z : Int} (hr : RoomP W g cap T) (hi : i < cap) (h : PtsAt W g 0 i M) (hM : M.getD i (0, 0, 0) = (x, y, z)) :
    PtsAt (((W.setCell ⟨g, i * 3, none⟩ (.int .i64 x)).setCell ⟨g, i * 3 + 1, none⟩ (.int .i64 y)).setCell ⟨g, i * 3 + 2, none⟩ (.int .i64 z)) g 0 (i + 1) M := by
  have ne : ∀ a b : Nat, a ≠ b → (⟨g, a, none⟩ : Addr) ≠ ⟨g, b, none⟩ := fun a b h e => h (by cases e; rfl)
  obtain ⟨u0, s0⟩ := Option.isSome_iff_exists.1 (hr.some (i * 3) (by omega))
  obtain ⟨u1, s1⟩ := Option.isSome_iff_exists.1 (hr.some (i * 3 + 1) (by omega))
  obtain ⟨u2, s2⟩ := Option.isSome_iff_exists.1 (hr.some (i * 3 + 2) (by omega))
  intro j hj
  simp only [Nat.zero_add]
  by_cases e : j = i
  · subst e
    rw [hM]
    refine ⟨?_, ?_, ?_⟩
    · rw [World.cell?_setCell_other _ _ _ _ (ne _ _ (by omega)), World.cell?_setCell_other _ _ _ _ (ne _ _ (by omega)), World.cell?_setCell_same _ _ _ s0]
    · rw [World.cell?_setCell_other _ _ _ _ (ne _ _ (by omega)), World.cell?_setCell_same (u := u1) _ _ _ (by rw [World.cell?_setCell_other _ _ _ _ (ne _ _ (by omega))]; exact s1)]
    · rw [World.cell?_setCell_same (u := u2) _ _ _ (by rw [World.cell?_setCell_other _ _ _ _ (ne _ _ (by omega)), World.cell?_setCell_other _ _ _ _ (ne _ _ (by omega))]; exact s2)]
  · obtain ⟨c0, c1, c2⟩ := h j (by omega)
    simp only [Nat.zero_add] at c0 c1 c2
    refine ⟨?_, ?_, ?_⟩
    · rw [World.cell?_setCell_other _ _ _ _ (ne _ _ (by omega)), World.cell?_setCell_other _ _ _ _ (ne _ _ (by omega)), World.cell?_setCell_other _ _ _ _ (ne _ _ (by omega))]; exact c0
    · rw [World.cell?_setCell_other _ _ _ _ (ne _ _ (by omega)), World.cell?_setCell_other _ _ _ _ (ne _ _ (by omega)), World.cell?_setCell_other _ _ _ _ (ne _ _ (by omega))]; exact c1
    · rw [World.cell?_setCell_other _ _ _ _ (ne _ _ (by omega)), World.cell?_setCell_other _ _ _ _ (ne _ _ (by omega)), World.cell?_setCell_other _ _ _ _ (ne _ _ (by omega))]; exact c2
theorem Save.refl (g : Nat) (w : World) : Save g w w := ⟨rfl, rfl, rfl, Nat.le_refl _, fun _ _ _ => rfl⟩
theorem Save.setCell {g0 : Nat} {w W : World} (h : Save g0 w W) (i : Nat) (v : Value) : Save g0 w (W.setCell ⟨g0, i, none⟩ v) :=
  ⟨h.os, h.tape, h.output, by simpa [World.setCell] using h.size, fun k hk hne => by
    have : (W.setCell ⟨g0, i, none⟩ v).heap[k]? = W.heap[k]? := by simp [World.setCell, Array.getElem?_modify, Ne.symm hne]
    rw [this]; exact h.block k hk hne⟩
/-- What marks leave. -/
structure MarkPost (g n k cap : Nat) (T : TypeId) (w : World) (e : Ending) (w' : World) : Prop where
  out : e = .returned (.int .i64 ((k + 3 * n : Nat) : Int)) ∧ Save g w w' ∧ RoomP w' g cap T ∧ PtsAt w' g 0 n (markL k n)
set_option maxHeartbeats 1000000 in
theorem markPointS_any (g n c k cap : Nat) (T : TypeId) (w : World) (hr : RoomP w g cap T) (hn : n ≤ cap) (hn1 : n ≤ 1000000) (hk : k ≤ 10000000) :
    Calls Try.prog 33 #[.slice (some ⟨g, 0, none⟩) n c, .int .i64 (k : Int)] w (MarkPost g n k cap T w) := by
  have HR0 := Lib.hid hr
  clear hr
  go_enter Try.func33, Try.ntmps33
  go_wp2
  go_loopw [1, 5, 6] (fun q i jj wr => ∃ ii : Nat, ii ≤ n ∧ i = .int .i64 ii ∧ q = .int .i64 ((k + 3 * ii : Nat) : Int) ∧ Hid (Save g w wr) ∧ Hid (RoomP wr g cap T) ∧ Hid (PtsAt wr g 0 ii (markL k n))) (fun _ i _ wr => n - (intOf i).toNat)
  case atStart => exact ⟨0, Nat.zero_le _, rfl, rfl, Lib.hid (Save.refl _ _), HR0, Lib.hid (fun j hj => absurd hj (by omega))⟩
  case round =>
    obtain ⟨ii, hi, rfl, rfl, HS, HR, HP⟩ := hrel
    by_cases hlt : ii < n
    · obtain ⟨u0, s0⟩ := Option.isSome_iff_exists.1 (HR.out.some (ii * 3) (by omega))
      have r0 := HR.out.frozen (ii * 3)
      obtain ⟨u1, s1⟩ := Option.isSome_iff_exists.1 (HR.out.some (ii * 3 + 1) (by omega))
      have r1 := HR.out.frozen (ii * 3 + 1)
      obtain ⟨u2, s2⟩ := Option.isSome_iff_exists.1 (HR.out.some (ii * 3 + 2) (by omega))
      have r2 := HR.out.frozen (ii * 3 + 2)
      go_wp2
      refine wp_loop_rounds 4 ?_
      iterate 4 (rw [rounds_succ]; go_wp2)
      go_roundw
      case rel => exact ⟨ii + 1, by omega, by go_num, ret_num (by omega), Lib.hid (((HS.out.setCell _ _).setCell _ _).setCell _ _), Lib.hid (((HR.out.set _ _).set _ _).set _ _), Lib.hid (pts_grow HR.out (by omega) HP.out (by rw [markL_at _ _ _ hlt]; exact mark_eq k ii))⟩
      case measure => simp [intOf]; omega
    · have : ii = n := by omega
      subst this
      go_wp2
      go_ret
      exact ⟨rfl, HS.out, HR.out, HP.out⟩
theorem heldPointS_any (g n c k : Nat) (w : World) (hn1 : n ≤ 1000000) (hk : k ≤ 10000000) (hp : PtsAt w g 0 n (markL k n)) :
    Calls Try.prog 34 #[.slice (some ⟨g, 0, none⟩) n c, .int .i64 (k : Int)] w (Ret w (.int .i64 ((k + 3 * n : Nat) : Int))) := by
  have HP := Lib.hid hp
  clear hp
  go_enter Try.func34, Try.ntmps34
  go_wp2
  go_loopw [1, 5, 6] (fun q i jj wr => ∃ ii : Nat, ii ≤ n ∧ i = .int .i64 ii ∧ q = .int .i64 ((k + 3 * ii : Nat) : Int) ∧ Hid (Below w.heap.size w wr)) (fun _ i _ wr => n - (intOf i).toNat)
  case atStart => exact ⟨0, Nat.zero_le _, rfl, rfl, Lib.hid (Below.refl _ _)⟩
  case round =>
    obtain ⟨ii, hi, rfl, rfl, HB⟩ := hrel
    by_cases hlt : ii < n
    · obtain ⟨c0, c1, c2⟩ := (HP.out.below HB.out) ii hlt
      rw [markL_at _ _ _ hlt, mark_eq] at c0 c1 c2
      simp only [Nat.zero_add] at c0 c1 c2
      go_wp2
      refine wp_loop_rounds 4 ?_
      iterate 4 (rw [rounds_succ]; go_wp2)
      go_roundw
      case rel => exact ⟨ii + 1, by omega, by go_num, ret_num (by omega), HB⟩
      case measure => simp [intOf]; omega
    · have : ii = n := by omega
      subst this
      go_wp2
      go_ret
      exact ⟨rfl, HB.out⟩
theorem markPointS_nil (b : Option Addr) (c : Nat) (k : Int) (w : World) : Calls Try.prog 33 #[.slice b 0 c, .int .i64 k] w fun e w' => e = .returned (.int .i64 k) ∧ w = w' := by
  go_enter Try.func33, Try.ntmps33
  go_wp2
  refine wp_loop_rounds 1 ?_
  rw [rounds_succ]; go_wp2
  go_ret
  exact ⟨rfl, rfl⟩
theorem heldPointS_nil (b : Option Addr) (c : Nat) (k : Int) (w : World) : Calls Try.prog 34 #[.slice b 0 c, .int .i64 k] w fun e w' => e = .returned (.int .i64 k) ∧ w = w' := by
  go_enter Try.func34, Try.ntmps34
  go_wp2
  refine wp_loop_rounds 1 ?_
  rw [rounds_succ]; go_wp2
  go_ret
  exact ⟨rfl, rfl⟩
end Go.Proofs.Ythkbhaaodegocaa
/- The law FnExactSingerOrder, walked. -/
namespace Go.Proofs.Ythkbhaaodegocaa
open Go.RowKit
set_option linter.unusedVariables false
set_option linter.unusedSimpArgs false
theorem own_room {W : World} {base : Nat} {T : TypeId} {v : Value} {l : List Pt} {n : Nat} (h : W.ownsRow base T 3 v n (ptCs l)) (hl : l.length = n) (hn : 0 < n) :
    ∃ g cap, v = .slice (some ⟨g, 0, none⟩) n cap ∧ base ≤ g ∧ g < W.heap.size ∧ n ≤ cap ∧ RoomP W g cap T ∧ PtsAt W g 0 n l := by
  obtain ⟨g, cap, e, hb, hg, hp⟩ := ownPts h hl hn
  rcases h.2 with ⟨_, h0⟩ | ⟨g', cap', cur, e', hb', hg', hle, _, hsz, htk⟩
  · omega
  · rw [e] at e'
    cases e'
    exact ⟨g, cap, e, hb, hg, hle, ⟨cur, hg', hsz⟩, hp⟩
theorem PtsAt.save {w W : World} {g0 b o n : Nat} {l : List Pt} (h : PtsAt w b o n l) (hs : Save g0 w W) (hne : b ≠ g0) (hlt : b < w.heap.size) : PtsAt W b o n l := by
  have hc : ∀ i, W.cell? ⟨b, i, none⟩ = w.cell? ⟨b, i, none⟩ := fun i => by
    unfold World.cell?
    rw [hs.block b hlt hne]
  intro i hi
  rw [hc, hc, hc]
  exact h i hi
theorem mark_101 (g Q c cap : Nat) (T : TypeId) (W : World) (hr : RoomP W g cap T) (hn : Q ≤ cap) (hQ : Q ≤ 1000000) (M : Int) (hM : ((101 + 3 * Q : Nat) : Int) = M) :
    Calls Try.prog 33 #[.slice (some ⟨g, 0, none⟩) Q c, .int .i64 101] W (fun e w' => e = .returned (.int .i64 M) ∧ Save g W w' ∧ PtsAt w' g 0 Q (markL 101 Q)) := by
  have h := markPointS_any g Q c 101 cap T W hr hn hQ (by omega)
  rw [← hM]
  exact h.mono fun e w' ⟨h1, h2, _, h4⟩ => ⟨h1, h2, h4⟩
theorem held_101 (g Q c : Nat) (W : World) (hQ : Q ≤ 1000000) (hp : PtsAt W g 0 Q (markL 101 Q)) (M : Int) (hM : ((101 + 3 * Q : Nat) : Int) = M) :
    Calls Try.prog 34 #[.slice (some ⟨g, 0, none⟩) Q c, .int .i64 101] W (Ret W (.int .i64 M)) := by
  rw [← hM]
  exact heldPointS_any g Q c 101 W hQ (by omega) hp
set_option maxHeartbeats 4000000 in
theorem FnExactSingerOrder_yes (n : Nat) (w : World) (hp : prB (n : Int) = true) : Calls Try.prog 8 #[.int .i64 (n : Int)] w (Ret w (.bool true)) := by
  have HS := Lib.hid (fun (W : World) => SingerOrder_spec_yes n W hp)
  have HI := Lib.hid (fun (W : World) => SingerOrder_impl_yes n W hp)
  obtain ⟨Q, hQ⟩ : ∃ Q, (singL n).length = Q := ⟨_, rfl⟩
  have hQ1 : Q ≤ 1000 ∧ 0 < Q := by
    have hb := prB_bd hp
    have : n * n ≤ 13 * 13 := Nat.mul_le_mul (by omega) (by omega)
    rw [singL_length] at hQ
    omega
  obtain ⟨hQ1, hQ0⟩ := hQ1
  obtain ⟨M, hM⟩ : ∃ M : Int, ((101 + 3 * Q : Nat) : Int) = M := ⟨_, rfl⟩
  have hM0 : ¬ M < 0 := by omega
  have HQ := Lib.hid hQ
  have HM := Lib.hid hM
  generalize singL n = L at *
  clear hp hM hQ
  have tok2 : True := trivial
  have tok3 : True := trivial
  have tok5 : True := trivial
  have tok6 : True := trivial
  have tok7 : True := trivial
  go_enter Try.func8, Try.ntmps8
  go_wp2_with (first
    | (go_at_call 30; refine (HS.out _).mono ?_; rintro e w1_ ⟨v1, rfl, ho, hb⟩; rw [HQ.out] at ho; obtain ⟨g1, c1, rfl, hg1, hg1', hc1, hr1, hp1⟩ := own_room ho HQ.out hQ0; have HP1 := Lib.hid hp1; have HB1 := Lib.hid hb; clear ho hb hp1 hr1)
    | (have _t := tok2; go_at_call 31; refine (HI.out _).mono ?_; rintro e w2_ ⟨v2, rfl, ho, hb⟩; rw [HQ.out] at ho; obtain ⟨g2, c2, rfl, hg2, hg2', hc2, hr2, hp2⟩ := own_room ho HQ.out hQ0; have HP2 := Lib.hid hp2; have HR2 := Lib.hid hr2; have HB2 := Lib.hid hb; clear ho hb hp2 hr2 tok2)
    | (have _t := tok3; (go_at_call 32; (with_reducible refine (eqPointS_same (some ⟨g2, 0, none⟩) (some ⟨g1, 0, none⟩) Q c2 c1 L w2_ (by omega) (listP_mk HQ.out HP2.out) (listP_mk HQ.out (HP1.out.below HB2.out))).mono ?_); rintro e w3_ ⟨rfl, hb3⟩; obtain ⟨hcb3, hfb3, hlb3⟩ := bcell hb3; have hsz3 := hb3.size; (try simp at hsz3); have HB3 := Lib.hid hb3; clear hb3); clear tok3)
    | (go_at_call 33; refine (mark_101 g2 Q c2 c2 _ _ (HR2.out.below HB3.out) hc2 (by omega) M HM.out).mono ?_; rintro e w4_ ⟨rfl, hs, hm⟩; have HS4 := Lib.hid hs; have HM4 := Lib.hid hm; clear hs hm)
    | (have _t := tok5; (go_at_call 34; (with_reducible refine (held_101 g2 Q c2 w4_ (by omega) HM4.out M HM.out).mono ?_); rintro e w5_ ⟨rfl, hb5⟩; obtain ⟨hcb5, hfb5, hlb5⟩ := bcell hb5; have hsz5 := hb5.size; (try simp at hsz5); have HB5 := Lib.hid hb5; clear hb5); clear tok5)
    | (have _t := tok6; go_at_call 31; refine (HI.out _).mono ?_; rintro e w6_ ⟨v6, rfl, ho, hb⟩; rw [HQ.out] at ho; obtain ⟨g6, c6, rfl, hg6, hg6', hc6, hr6, hp6⟩ := own_room ho HQ.out hQ0; have HP6 := Lib.hid hp6; have HB6 := Lib.hid hb; clear ho hb hp6 hr6 tok6)
    | (have _t := tok7; (go_at_call 32; (with_reducible refine (eqPointS_same (some ⟨g6, 0, none⟩) (some ⟨g1, 0, none⟩) Q c6 c1 L w6_ (by omega) (listP_mk HQ.out HP6.out) (listP_mk HQ.out ((((((HP1.out.below HB2.out).below HB3.out).save HS4.out (by omega) (by have := HB2.out.size; have := HB3.out.size; omega)).below HB5.out)).below HB6.out))).mono ?_); rintro e w7_ ⟨rfl, hb7⟩; obtain ⟨hcb7, hfb7, hlb7⟩ := bcell hb7; have hsz7 := hb7.size; (try simp at hsz7); have HB7 := Lib.hid hb7; clear hb7); clear tok7)
    | (go_at_call 34; (with_reducible refine (held_101 g2 Q c2 _ (by omega) (((HM4.out.below HB5.out).below HB6.out).below HB7.out) M HM.out).mono ?_); rintro e w8_ ⟨rfl, hb8⟩; obtain ⟨hcb8, hfb8, hlb8⟩ := bcell hb8; have hsz8 := hb8.size; (try simp at hsz8); have HB8 := Lib.hid hb8; clear hb8))
  go_ret
  have s1 := HB1.out.size
  have s2 := HB2.out.size
  have s3 := HB3.out.size
  have b3 : Below w.heap.size w w3_ := low_tr' (low_tr' HB1.out HB2.out s1) HB3.out (by omega)
  have b4 : Below w.heap.size w w4_ := HS4.out.below b3 (by omega) (by omega)
  have b5 := low_tr' b4 HB5.out b4.size
  have b6 := low_tr' b5 HB6.out b5.size
  have b7 := low_tr' b6 HB7.out b6.size
  exact ⟨rfl, low_tr' b7 HB8.out b7.size⟩
theorem FnExactSingerOrder_no (p : Int) (w : World) (hp : prB p = false) : Calls Try.prog 8 #[.int .i64 p] w (Ret w (.bool true)) := by
  have tok2 : True := trivial
  have tok3 : True := trivial
  have tok5 : True := trivial
  go_enter Try.func8, Try.ntmps8
  go_wp2_with (first
    | (go_at_call 30; refine (SingerOrder_spec_no _ _ hp).mono ?_; rintro e w1_ ⟨rfl, rfl⟩)
    | (go_at_call 31; refine (SingerOrder_impl_no _ _ hp).mono ?_; rintro e w2_ ⟨rfl, rfl⟩)
    | (have _t := tok3; (go_at_call 32; (with_reducible refine (eqPointS_same none none 0 0 0 [] _ (by omega) listP_nil listP_nil).mono ?_); rintro e w3_ ⟨rfl, hb3⟩; obtain ⟨hcb3, hfb3, hlb3⟩ := bcell hb3; have hsz3 := hb3.size; (try simp at hsz3); have HB3 := Lib.hid hb3; clear hb3); clear tok3)
    | (go_at_call 33; refine (markPointS_nil none 0 101 _).mono ?_; rintro e w4_ ⟨rfl, rfl⟩)
    | (go_at_call 34; refine (heldPointS_nil none 0 101 _).mono ?_; rintro e w4_ ⟨rfl, rfl⟩)
    | (go_at_call 32; (with_reducible refine (eqPointS_same none none 0 0 0 [] _ (by omega) listP_nil listP_nil).mono ?_); rintro e w7_ ⟨rfl, hb7⟩; obtain ⟨hcb7, hfb7, hlb7⟩ := bcell hb7; have hsz7 := hb7.size; (try simp at hsz7); have HB7 := Lib.hid hb7; clear hb7))
  go_ret
  exact ⟨rfl, (by repeat (first | exact Below.refl _ _ | refine bset ?_ _ _ (by omega) _ | refine bal ?_ _ | refine bdrN ?_ _ | refine bdr ?_ | refine below_tr' ?_ HB7.out | refine below_tr' ?_ HB3.out))⟩
theorem FnExactSingerOrder_walk (p : Int) (w : World) : Calls Try.prog 8 #[.int .i64 p] w (Ret w (.bool true)) := by
  cases hp : prB p with
  | false => exact FnExactSingerOrder_no p w hp
  | true =>
    obtain ⟨n, rfl⟩ : ∃ n : Nat, p = n := ⟨p.toNat, by have := prB_bd hp; omega⟩
    exact FnExactSingerOrder_yes n w hp
end Go.Proofs.Ythkbhaaodegocaa
