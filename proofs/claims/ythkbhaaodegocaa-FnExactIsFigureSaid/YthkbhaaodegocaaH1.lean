/- Contracts: the laws' own lists of numbers: made with room behind, compared. -/
import Derived.Test.YthkbhaaodegocaaH0
import Derived.Test.YthkbhaaodegocaaE1
import Derived.Laws.MakeOwn
import Derived.Laws.IdiomCopy
namespace Go.Proofs.Ythkbhaaodegocaa
open Go.RowKit
set_option linter.unusedVariables false
set_option linter.unusedSimpArgs false
def IntsAt (w : World) (b o n : Nat) (l : List Int) : Prop := ∀ i, i < n → w.cell? ⟨b, o + i, none⟩ = some (.int .i64 (l.getD i 0))
theorem IntsAt.below {w w1 : World} {b o n : Nat} {l : List Int} (h : IntsAt w b o n l) (hb : Below w.heap.size w w1) : IntsAt w1 b o n l := fun i hi => cell_below hb (h i hi)
/-- A block of room for numbers. -/
def RoomI (W : World) (g cap : Nat) (T : TypeId) : Prop := ∃ cur, W.heap[g]? = some (.cells cur T (0, 0)) ∧ cur.size = cap
theorem RoomI.set {W : World} {g cap : Nat} {T : TypeId} (h : RoomI W g cap T) (j : Nat) (v : Value) : RoomI (W.setCell ⟨g, j, none⟩ v) g cap T := by
  obtain ⟨cur, hb, hs⟩ := h
  exact ⟨cur.setIfInBounds j v, by simp [World.setCell, Array.getElem?_modify, hb], by simpa using hs⟩
theorem RoomI.frozen {W : World} {g cap : Nat} {T : TypeId} (h : RoomI W g cap T) (j : Nat) : W.frozen? ⟨g, j, none⟩ = false := by
  obtain ⟨cur, hb, hs⟩ := h
  exact frozen_of_row W g j _ _ hb
theorem RoomI.some {W : World} {g cap : Nat} {T : TypeId} (h : RoomI W g cap T) (j : Nat) (hj : j < cap) : (W.cell? ⟨g, j, none⟩).isSome = true := by
  obtain ⟨cur, hb, hs⟩ := h
  rw [cell_of_row W g j _ _ _ hb]
  simp [hs, hj]
theorem RoomI.below {W W' : World} {g cap : Nat} {T : TypeId} (h : RoomI W g cap T) (hb : Below W.heap.size W W') : RoomI W' g cap T := by
  obtain ⟨cur, h1, hs⟩ := h
  exact ⟨cur, by rw [hb.block _ (Array.getElem?_eq_some_iff.1 h1).1]; exact h1, hs⟩
theorem RoomI.lt {W : World} {g cap : Nat} {T : TypeId} (h : RoomI W g cap T) : g < W.heap.size := by
  obtain ⟨cur, h1, hs⟩ := h
  exact (Array.getElem?_eq_some_iff.1 h1).1
theorem ints_set {W : World} {g cap n : Nat} {T : TypeId} {L : List Int} (hr : RoomI W g cap T) (hn : n ≤ cap) (h : IntsAt W g 0 n L) (hl : L.length = n) (i : Nat) (hi : i < n) (x : Int) :
    IntsAt (W.setCell ⟨g, i, none⟩ (.int .i64 x)) g 0 n (L.set i x) := by
  obtain ⟨u0, s0⟩ := Option.isSome_iff_exists.1 (hr.some i (by omega))
  intro j hj
  have c0 := h j hj
  simp only [Nat.zero_add] at c0 ⊢
  by_cases e : j = i
  · subst e
    have hd : (L.set j x).getD j 0 = x := by simp [List.getD, hl, hj]
    rw [hd, World.cell?_setCell_same _ _ _ s0]
  · have hd : (L.set i x).getD j 0 = L.getD j 0 := by simp [List.getD, List.getElem?_set_ne (Ne.symm e)]
    rw [hd, World.cell?_setCell_other _ _ _ _ (fun h => e (by cases h; rfl))]; exact c0
theorem ints_other {W : World} {b o n : Nat} {l : List Int} (h : IntsAt W b o n l) {g i : Nat} (hg : b ≠ g) (v : Value) : IntsAt (W.setCell ⟨g, i, none⟩ v) b o n l := fun j hj => by
  rw [World.cell?_setCell_other _ _ _ _ (fun h => hg (by cases h; rfl))]; exact h j hj
theorem madeI {m j : Nat} (h : j < m) : (madeCells #[.int .i64 0] m)[j]? = some (.int .i64 0) := by simp [madeCells, h, Nat.mod_one]
/-- 'make' of m numbers: a new block, all 0. -/
theorem wpList_make_ints {P : Program} (w : World) {ops : Array Oper} {rest : List Oper} {o : Oper} {a : Act} {Q : Exit → Act → World → Prop}
    (hg : o.guard = none) (l c : Operand) (t : TypeId) (hop : o.op = Op.makeSlice t l c)
    (e : TypeId) (i : TypeInfo) (ht : P.underlying t = some (.slice e)) (hi : P.info? e = some i) (hz : i.zero = some (.int .i64 0)) (hs : i.size = 1)
    (kl kc : IntKind) (m : Nat) (C : Int) (hC : C = (m : Int)) (hl : a.eval l = .int kl C) (hc : a.eval c = .int kc C) (hbytes : i.bytes * m ≤ 281474976710656) (h63 : m ≤ 9223372036854775807)
    (hK : ∀ W', Below w.heap.size w W' → RoomI W' w.heap.size m e → IntsAt W' w.heap.size 0 m (List.replicate m 0) → w.heap.size < W'.heap.size → wpList P ops Q rest (a.put o.dst (.slice (some ⟨w.heap.size, 0, none⟩) m m)) W') :
    wpList P ops Q (o :: rest) a w := by
  subst hC
  refine wpList_plain hg fun K hK' => ?_
  have hb' : (i.bytes : Int) * (m : Int) ≤ 281474976710656 := by
    have h : ((i.bytes * m : Nat) : Int) ≤ 281474976710656 := by omega
    rwa [Int.natCast_mul] at h
  have hr := run_make (P := P) w t e i _ ht hi hz kl kc m m (by omega) (Int.le_refl _) hb' (by omega)
  have hcl : (Value.int .i64 0).cells = #[.int .i64 0] := by rfl
  rw [hcl, hs, Int.toNat_natCast, Nat.mul_one] at hr
  unfold Oper.wp
  simp [execOp, hop, hl, hc, hr, Result.andThen]
  refine hK' _ _ (hK _ ((Below.refl _ _).alloc (Nat.le_refl _) _) ⟨_, heap_alloc_new _ _, by simp [madeCells]⟩ (fun j hj => ?_) (by simp))
  have hd : (List.replicate m (0 : Int)).getD j 0 = 0 := by simp [List.getD, hj]
  rw [hd, Nat.zero_add, World.cell?_alloc_at _ _ _ _ rfl]
  exact madeI hj
theorem infoI : (Try.prog.info? 2).map (fun i => (i.zero, i.size, i.bytes)) = some (some (.int .i64 0), 1, 8) := by kernel_rfl
def fillI : Int := -7000000000000000101
def withRoomI (l : List Int) : List Int := l ++ List.replicate (roomN l.length) fillI
structure LaidI (w : World) (l : List Int) (e : Ending) (w' : World) : Prop where
  out : ∃ g, e = .returned (.slice (some ⟨g, 0, none⟩) l.length (l.length + roomN l.length)) ∧ w.heap.size ≤ g ∧ RoomI w' g (l.length + roomN l.length) 2 ∧ IntsAt w' g 0 (l.length + roomN l.length) (withRoomI l) ∧ Below w.heap.size w w'
theorem roomN_le (n : Nat) : roomN n ≤ n + 1 := by
  unfold roomN
  split
  · omega
  · split <;> omega
theorem take_setI {L l : List Int} {k : Nat} {a : Int} (h : L.take k = l.take k) (hk : k < L.length) (hk' : k < l.length) (ha : l.getD k 0 = a) : (L.set k a).take (k + 1) = l.take (k + 1) := by
  rw [take_snoc' _ 0 k (by simpa using hk), take_snoc' l 0 k hk', List.take_set_of_le (Nat.le_refl _), h, ha]
  congr 1
  simp [List.getD, hk]
theorem withRoomI_length (l : List Int) : (withRoomI l).length = l.length + roomN l.length := by simp [withRoomI]
theorem withRoomI_take (l : List Int) : (withRoomI l).take l.length = l := by simp [withRoomI]
theorem withRoomI_fill (l : List Int) (k : Nat) (h : l.length ≤ k) (h2 : k < l.length + roomN l.length) : (withRoomI l).getD k 0 = fillI := by
  have hj : k - l.length < roomN l.length := by omega
  simp [withRoomI, List.getD, List.getElem?_append_right h, hj]
theorem withRoomI_at (l : List Int) (k : Nat) (h : k < l.length) : (withRoomI l).getD k 0 = l.getD k 0 := by
  simp [withRoomI, List.getD, List.getElem?_append_left h]
set_option maxHeartbeats 2000000 in
theorem toInt64S_any (b : Option Addr) (n cap : Nat) (bare : Bool) (l : List Int) (w : World) (hl : l.length = n) (hn : n ≤ 1000000) (hb : bare = false ∨ 0 < n)
    (hc : 0 < n → ∃ g off, b = some ⟨g, off, none⟩ ∧ IntsAt w g off n l) :
    Calls Try.prog 19 #[.slice b n cap, .bool bare] w (LaidI w l) := by
  obtain ⟨i0, hi, hz0, hz1, hz2⟩ := info_parts infoI
  have HR := Lib.hid (fun (W : World) => roomBehind_any n W hn)
  have HL := Lib.hid hl
  have HC := Lib.hid hc
  have HI0 := Lib.hid hi; have HZ0 := Lib.hid hz0; have HZ1 := Lib.hid hz1; have HZ2 := Lib.hid hz2
  have hr0 := roomN_le n
  have HT := Lib.hid (withRoomI_length l)
  have HF := Lib.hid (withRoomI_fill l)
  have HA := Lib.hid (withRoomI_at l)
  rw [hl] at HT HF HA
  have HG : Hid (∀ L : List Int, L.length = n + roomN n → L.take (n + roomN n) = (withRoomI l).take (n + roomN n) → L = withRoomI l) := Lib.hid (fun L h1 h2 => by
    rw [List.take_of_length_le (by omega), List.take_of_length_le (by rw [HT.out]; omega)] at h2; exact h2)
  clear hi hz0 hz1 hz2 hl hc
  have fin : ∀ e w', (∃ g, e = .returned (.slice (some ⟨g, 0, none⟩) n (n + roomN n)) ∧ w.heap.size ≤ g ∧ RoomI w' g (n + roomN n) 2 ∧ IntsAt w' g 0 (n + roomN n) (withRoomI l) ∧ Below w.heap.size w w') → LaidI w l e w' := by
    intro e w' h
    refine ⟨?_⟩
    rw [HL.out]; exact h
  have FIN := Lib.hid fin
  clear fin
  generalize hM : withRoomI l = M at *
  generalize hr : roomN n = r at *
  generalize hm : n + r = m at *
  have hnm : n ≤ m := by omega
  have hm2 : m ≤ 2 * n + 1 := by omega
  have hcond : (n : Int) = 0 → bare = false := by
    intro h
    rcases hb with h2 | h2
    · exact h2
    · omega
  clear hr hb hM
  have HMm := hm
  by_cases h0 : bare = true ∧ n = 0
  · exfalso
    have := hcond (by omega)
    rw [h0.1] at this; cases this
  clear hcond
  cases bare with
  | false =>
    clear h0
    go_enter Try.func19, Try.ntmps19
    go_wp2_with (first
      | (go_at_call 63; refine (HR.out _).mono ?_; rintro e w' ⟨rfl, rfl⟩)
      | (refine wpList_make_ints _ rfl _ _ 34 rfl 2 i0 Try.underlying34 HI0.out HZ0.out HZ1.out .i64 .i64 m _ (by omega) rfl rfl (by rw [HZ2.out]; omega) (by omega) ?_; intro w1 hb1 hr1 hp1 hl1; have HB1 := Lib.hid hb1; have HR1 := Lib.hid hr1; have HP1 := Lib.hid hp1; clear hb1 hr1 hp1))
    go_loopw [6] (fun i wr => ∃ (k : Nat) (L : List Int), k ≤ n ∧ i = .int .i64 k ∧ Hid (L.length = m ∧ L.take k = M.take k) ∧ Hid (RoomI wr w.heap.size m 2) ∧ Hid (IntsAt wr w.heap.size 0 m L) ∧ Hid (Below w.heap.size w wr)) (fun i wr => n - (intOf i).toNat)
    case atStart => exact ⟨0, _, Nat.zero_le _, rfl, Lib.hid ⟨by simp, by simp⟩, HR1, HP1, HB1⟩
    case round =>
      obtain ⟨k, L, hk, rfl, HL1, HRo, HPt, HB⟩ := hrel
      by_cases hlt : k < n
      · obtain ⟨g, off, rfl, hpt⟩ := HC.out (by omega)
        have c0 := hpt k hlt
        have hgl : g < w.heap.size := World.block_lt_of_cell? w _ c0
        have c0' : wr.cell? ⟨g, off + k, none⟩ = some (.int .i64 (l.getD k 0)) := (HB.out.cell hgl).trans c0
        have HS := Lib.hid (take_setI HL1.out.2 (by have := HL1.out.1; omega) (by have := HT.out; omega) (HA.out k hlt))
        generalize l.getD k 0 = x at *
        obtain ⟨u0, s0⟩ := Option.isSome_iff_exists.1 (HRo.out.some k (by omega))
        have f0 := HRo.out.frozen k
        have hwl := HRo.out.lt
        clear c0 hpt
        go_wp2
        go_roundw
        case rel => exact ⟨k + 1, L.set k x, by omega, by go_num, Lib.hid ⟨by rw [List.length_set]; exact HL1.out.1, HS.out⟩, Lib.hid (HRo.out.set _ _), Lib.hid (ints_set HRo.out (Nat.le_refl _) HPt.out HL1.out.1 k (by omega) x), Lib.hid (HB.out.setCell (Nat.le_refl _) _)⟩
        case measure => simp [intOf]; omega
      · have hkn : k = n := by omega
        subst hkn
        go_wp2
        go_loopw [7] (fun i wr => ∃ (j : Nat) (L : List Int), k ≤ j ∧ j ≤ m ∧ i = .int .i64 j ∧ Hid (L.length = m ∧ L.take j = M.take j) ∧ Hid (RoomI wr w.heap.size m 2) ∧ Hid (IntsAt wr w.heap.size 0 m L) ∧ Hid (Below w.heap.size w wr)) (fun i wr => m - (intOf i).toNat)
        case atStart => exact ⟨k, L, Nat.le_refl _, by omega, rfl, HL1, HRo, HPt, HB⟩
        case round =>
          clear HL1 HRo HPt HB hlt hk
          obtain ⟨j, L, hkj, hj, rfl, HL1, HRo, HPt, HB⟩ := hrel
          by_cases hlt : j < m
          · have HS := Lib.hid (take_setI HL1.out.2 (by have := HL1.out.1; omega) (by have := HT.out; omega) (HF.out j hkj hlt))
            obtain ⟨u0, s0⟩ := Option.isSome_iff_exists.1 (HRo.out.some j (by omega))
            have f0 := HRo.out.frozen j
            have hwl := HRo.out.lt
            go_wp2
            go_roundw
            case rel => exact ⟨j + 1, L.set j fillI, by omega, by omega, by go_num, Lib.hid ⟨by rw [List.length_set]; exact HL1.out.1, HS.out⟩, Lib.hid (HRo.out.set _ _), Lib.hid (ints_set HRo.out (Nat.le_refl _) HPt.out HL1.out.1 j (by omega) fillI), Lib.hid (HB.out.setCell (Nat.le_refl _) _)⟩
            case measure => simp [intOf]; omega
          · have hjn : j = m := by omega
            subst hjn
            go_wp2
            go_ret
            have hE := HG.out L HL1.out.1 HL1.out.2
            exact FIN.out _ _ ⟨w.heap.size, rfl, Nat.le_refl _, HRo.out, by rw [← hE]; exact HPt.out, HB.out⟩
  | true =>
    have hn0 : 0 < n := by
      rcases Nat.eq_zero_or_pos n with h | h
      · exact (h0 ⟨rfl, h⟩).elim
      · exact h
    have hnz : ((n : Int) == 0) = false := by simp; omega
    clear h0
    go_enter Try.func19, Try.ntmps19
    go_wp2_with (first
      | (go_at_call 63; refine (HR.out _).mono ?_; rintro e w' ⟨rfl, rfl⟩)
      | (refine wpList_make_ints _ rfl _ _ 34 rfl 2 i0 Try.underlying34 HI0.out HZ0.out HZ1.out .i64 .i64 m _ (by omega) rfl rfl (by rw [HZ2.out]; omega) (by omega) ?_; intro w1 hb1 hr1 hp1 hl1; have HB1 := Lib.hid hb1; have HR1 := Lib.hid hr1; have HP1 := Lib.hid hp1; clear hb1 hr1 hp1))
    go_loopw [6] (fun i wr => ∃ (k : Nat) (L : List Int), k ≤ n ∧ i = .int .i64 k ∧ Hid (L.length = m ∧ L.take k = M.take k) ∧ Hid (RoomI wr w.heap.size m 2) ∧ Hid (IntsAt wr w.heap.size 0 m L) ∧ Hid (Below w.heap.size w wr)) (fun i wr => n - (intOf i).toNat)
    case atStart => exact ⟨0, _, Nat.zero_le _, rfl, Lib.hid ⟨by simp, by simp⟩, HR1, HP1, HB1⟩
    case round =>
      obtain ⟨k, L, hk, rfl, HL1, HRo, HPt, HB⟩ := hrel
      by_cases hlt : k < n
      · obtain ⟨g, off, rfl, hpt⟩ := HC.out (by omega)
        have c0 := hpt k hlt
        have hgl : g < w.heap.size := World.block_lt_of_cell? w _ c0
        have c0' : wr.cell? ⟨g, off + k, none⟩ = some (.int .i64 (l.getD k 0)) := (HB.out.cell hgl).trans c0
        have HS := Lib.hid (take_setI HL1.out.2 (by have := HL1.out.1; omega) (by have := HT.out; omega) (HA.out k hlt))
        generalize l.getD k 0 = x at *
        obtain ⟨u0, s0⟩ := Option.isSome_iff_exists.1 (HRo.out.some k (by omega))
        have f0 := HRo.out.frozen k
        have hwl := HRo.out.lt
        clear c0 hpt
        go_wp2
        go_roundw
        case rel => exact ⟨k + 1, L.set k x, by omega, by go_num, Lib.hid ⟨by rw [List.length_set]; exact HL1.out.1, HS.out⟩, Lib.hid (HRo.out.set _ _), Lib.hid (ints_set HRo.out (Nat.le_refl _) HPt.out HL1.out.1 k (by omega) x), Lib.hid (HB.out.setCell (Nat.le_refl _) _)⟩
        case measure => simp [intOf]; omega
      · have hkn : k = n := by omega
        subst hkn
        go_wp2
        go_loopw [7] (fun i wr => ∃ (j : Nat) (L : List Int), k ≤ j ∧ j ≤ m ∧ i = .int .i64 j ∧ Hid (L.length = m ∧ L.take j = M.take j) ∧ Hid (RoomI wr w.heap.size m 2) ∧ Hid (IntsAt wr w.heap.size 0 m L) ∧ Hid (Below w.heap.size w wr)) (fun i wr => m - (intOf i).toNat)
        case atStart => exact ⟨k, L, Nat.le_refl _, by omega, rfl, HL1, HRo, HPt, HB⟩
        case round =>
          clear HL1 HRo HPt HB hlt hk
          obtain ⟨j, L, hkj, hj, rfl, HL1, HRo, HPt, HB⟩ := hrel
          by_cases hlt : j < m
          · have HS := Lib.hid (take_setI HL1.out.2 (by have := HL1.out.1; omega) (by have := HT.out; omega) (HF.out j hkj hlt))
            obtain ⟨u0, s0⟩ := Option.isSome_iff_exists.1 (HRo.out.some j (by omega))
            have f0 := HRo.out.frozen j
            have hwl := HRo.out.lt
            go_wp2
            go_roundw
            case rel => exact ⟨j + 1, L.set j fillI, by omega, by omega, by go_num, Lib.hid ⟨by rw [List.length_set]; exact HL1.out.1, HS.out⟩, Lib.hid (HRo.out.set _ _), Lib.hid (ints_set HRo.out (Nat.le_refl _) HPt.out HL1.out.1 j (by omega) fillI), Lib.hid (HB.out.setCell (Nat.le_refl _) _)⟩
            case measure => simp [intOf]; omega
          · have hjn : j = m := by omega
            subst hjn
            go_wp2
            go_ret
            have hE := HG.out L HL1.out.1 HL1.out.2
            exact FIN.out _ _ ⟨w.heap.size, rfl, Nat.le_refl _, HRo.out, by rw [← hE]; exact HPt.out, HB.out⟩
theorem toInt64S_nil (cap : Nat) (b : Option Addr) (w : World) : Calls Try.prog 19 #[.slice b 0 cap, .bool true] w fun e w' => e = .returned (.slice none 0 0) ∧ w = w' := by
  go_enter Try.func19, Try.ntmps19
  go_wp2
  go_ret
  exact ⟨rfl, rfl⟩
theorem eqInt64S_same (g g2 n cap cap2 : Nat) (l : List Int) (w : World) (hn : n ≤ 4611686018427387904) (h1 : IntsAt w g 0 n l) (h2 : IntsAt w g2 0 n l) :
    Calls Try.prog 37 #[.slice (some ⟨g, 0, none⟩) n cap, .slice (some ⟨g2, 0, none⟩) n cap2] w (Ret w (.bool true)) := by
  have H1 := Lib.hid h1
  have H2 := Lib.hid h2
  clear h1 h2
  go_enter Try.func37, Try.ntmps37
  go_wp2
  go_loopw [5] (fun i wr => ∃ k : Nat, k ≤ n ∧ i = .int .i64 k ∧ Hid (Below w.heap.size w wr)) (fun i wr => n - (intOf i).toNat)
  case atStart => exact ⟨0, Nat.zero_le _, rfl, Lib.hid (Below.refl _ _)⟩
  case round =>
    obtain ⟨k, hk, rfl, HB⟩ := hrel
    by_cases hlt : k < n
    · have c1 := (H1.out.below HB.out) k hlt
      have c2 := (H2.out.below HB.out) k hlt
      simp only [Nat.zero_add] at c1 c2
      generalize l.getD k 0 = x at *
      go_wp2
      go_quiet (fail)
      go_wp2
      go_roundw
      case rel => exact ⟨k + 1, by omega, by go_num, Lib.hid (by repeat (first | exact Below.refl _ _ | refine bset ?_ _ _ (by omega) _ | refine bal ?_ _ | refine bdrN ?_ _ | refine bdr ?_ | refine below_tr' ?_ HB.out))⟩
      case measure => simp [intOf]; omega
    · go_wp2
      go_ret
      exact ⟨rfl, HB.out⟩
end Go.Proofs.Ythkbhaaodegocaa
