/- Texts of the claim, in build order: OpQ, M1, G3, P2, F3, P1, N1. No condition. -/
import Derived.Lib.AppendZeros
import Derived.Laws.AppendOwnNone
import Derived.Test.YthkbhaaodegocaaZPappusLine5
/- A row's opening of a slice of points: its list, and that it is no longer than memory. -/
namespace Go.Proofs.Ythkbhaaodegocaa
open Go.RowKit
open Go.ChangeShapes Go.WideShapes Go.ChangeAt Go.Deep
set_option linter.unusedVariables false
section
variable {H : Type} {enc : TypeId × Value → H} {P : Program} {W : World} {b0 : Nat} {held : Bool}
theorem open_sl_q {r : Reach} {t e e1 : TypeId} {v : Value} {d : DataW H} {p : List MemPlace} (ht : P.underlying t = some (.slice e)) (ha : P.underlying e = some (.array 3 e1)) (he : P.underlying e1 = some (.int .i64)) (hc1 : P.cellsOf e1 = 1) (hc : P.cellsOf e = 3)
    (hv : Value.okWide P W r b0 t v) (h : DataW.Trod enc P W 0 (fun _ => true) held t v d p) :
    ∃ (b : Option Addr) (k cap : Nat) (l : List Pt), v = .slice b k cap ∧ k ≤ 9223372036854775807 ∧ ListP W b k l := by
  obtain ⟨a0, len, cap, rfl⟩ := okWide_slice ht hv
  obtain ⟨fuel, hf⟩ := h
  obtain ⟨b, k, c, l, e, h1, h2⟩ := open_cell_p ht ha he hc1 hc hf
  refine ⟨b, k, c, l, ?_, h1, h2⟩
  simpa [Value.cells] using e
end
end Go.Proofs.Ythkbhaaodegocaa
/- Contracts: slices.Grow of no list; slices.Concat of the three rows of a map. -/
namespace Go.Proofs.Ythkbhaaodegocaa
open Go.RowKit
set_option linter.unusedVariables false
set_option linter.unusedSimpArgs false
structure OwnI (base : Nat) (w : World) (l : List Int) (e : Ending) (w' : World) : Prop where
  out : ∃ v, e = .returned v ∧ w'.ownsRow base 2 1 v l.length (ints l) ∧ Below base w w'
set_option maxRecDepth 100000 in
theorem grow64_nil (n : Nat) (w : World) (h0 : 0 < n) (hn : n ≤ 1000000) :
    Calls Try.prog 180 #[.slice none 0 0, .int .i64 (n : Int)] w (OwnI w.heap.size w []) := by
  obtain ⟨i0, hi, hz0, hz1, hz2⟩ := info_parts info64
  have HI0 := Lib.hid hi; have HZ0 := Lib.hid hz0; have HZ1 := Lib.hid hz1; have HZ2 := Lib.hid hz2
  clear hi hz0 hz1 hz2
  have hnz : (0 : Int) < (n : Int) := by omega
  go_enter Try.func180, Try.ntmps180
  go_wp2_with (at_builtin; refine Lib.wpList_append_run _ rfl _ _ 34 3 rfl _ _ rfl rfl _ _ (Lib.run_append_nil_zeros _ 34 3 _ 2 i0 (.int .i64 0) .i64 .i64 Try.underlying34 Try.underlying3 HI0.out HZ0.out n h0 (by rw [HZ1.out]; omega) (by omega) (by rw [HZ2.out]; omega)) ?_)
  go_ret
  have hge := grownCap_ge w n 0 2
  have hle := grownCap_le_maxLen w n 0 2 (by unfold maxLen; omega)
  refine ⟨_, rfl, ⟨rfl, .inr ⟨w.heap.size, _, _, rfl, Nat.le_refl _, heap_alloc_new _ _, Nat.zero_le _, hle, ?_, rfl⟩⟩, bal (bdr (Below.refl _ _)) _⟩
  simp [Builtin.zeroCells]
  omega
theorem take3 (l : List Int) (k : Nat) (h : k + 2 < l.length) : l.take (k + 3) = l.take k ++ [l.getD k 0, l.getD (k + 1) 0, l.getD (k + 2) 0] := by
  rw [take_snoc' l 0 (k + 2) h, take_snoc' l 0 (k + 1) (by omega), take_snoc' l 0 k (by omega)]
  simp
theorem ints_app (a b : List Int) : ints (a ++ b) = ints a ++ ints b := by simp [ints]
theorem src3 {W : World} {g o : Nat} {x y z : Int} (d0 : W.cell? ⟨g, o, none⟩ = some (.int .i64 x)) (d1 : W.cell? ⟨g, o + 1, none⟩ = some (.int .i64 y)) (d2 : W.cell? ⟨g, o + 2, none⟩ = some (.int .i64 z)) :
    ∀ (j : Nat) (u : Value), [Value.int .i64 x, .int .i64 y, .int .i64 z][j]? = some u → W.cell? ((⟨g, o, none⟩ : Addr).add j) = some u := by
  intro j u hj
  have hadd : ∀ j, (⟨g, o, none⟩ : Addr).add j = ⟨g, o + j, none⟩ := by intro j; unfold Addr.add; split <;> simp_all
  rw [hadd]
  match j, hj with
  | 0, hj => simpa using d0.trans (by simpa using hj)
  | 1, hj => exact d1.trans (by simpa using hj)
  | 2, hj => exact d2.trans (by simpa using hj)
  | j + 3, hj => simp at hj
set_option maxRecDepth 100000 in
set_option maxHeartbeats 2000000 in
theorem concat9 (h g k0 k1 k2 : Nat) (l : List Int) (w : World) (hl : l.length = 9) (hA : ∀ i, i < 9 → w.cell? ⟨g, 0 + i, none⟩ = some (.int .i64 (l.getD i 0)))
    (h0 : w.cell? ⟨h, 0, none⟩ = some (.slice (some ⟨g, 0, none⟩) 3 k0)) (h1 : w.cell? ⟨h, 1, none⟩ = some (.slice (some ⟨g, 3, none⟩) 3 k1)) (h2 : w.cell? ⟨h, 2, none⟩ = some (.slice (some ⟨g, 6, none⟩) 3 k2)) :
    Calls Try.prog 165 #[.slice (some ⟨h, 0, none⟩) 3 3] w (OwnI w.heap.size w l) := by
  obtain ⟨i0, hi, hz0, hz1, hz2⟩ := info_parts info64
  have HI0 := Lib.hid hi; have HZ0 := Lib.hid hz0; have HZ1 := Lib.hid hz1; have HZ2 := Lib.hid hz2
  have HA := Lib.hid hA
  have HL := Lib.hid hl
  have hgl : g < w.heap.size := World.block_lt_of_cell? w _ (hA 0 (by omega))
  have hhl : h < w.heap.size := World.block_lt_of_cell? w _ h0
  have HGr : Hid (∀ W : World, Calls Try.prog 180 #[.slice none 0 0, .int .i64 9] W (OwnI W.heap.size W [])) := Lib.hid (fun (W : World) => grow64_nil 9 W (by omega) (by omega))
  clear hi hz0 hz1 hz2 hA hl
  go_enter Try.func165, Try.ntmps165
  go_wp2
  go_loop [3, 11] (fun s i => ∃ k : Nat, k ≤ 3 ∧ i = .int .i64 k ∧ s = .int .i64 ((3 * k : Nat) : Int)) (fun _ i => 3 - (intOf i).toNat)
  case atStart => exact ⟨0, by omega, rfl, rfl⟩
  case round =>
    obtain ⟨k, hk, rfl, rfl⟩ := hrel
    rcases (show k = 0 ∨ k = 1 ∨ k = 2 ∨ k = 3 by omega) with rfl | rfl | rfl | rfl
    · go_wp2
      go_round
      case rel => exact ⟨1, by omega, rfl, rfl⟩
      case measure => simp [intOf]
    · go_wp2
      go_round
      case rel => exact ⟨2, by omega, rfl, rfl⟩
      case measure => simp [intOf]
    · go_wp2
      go_round
      case rel => exact ⟨3, by omega, rfl, rfl⟩
      case measure => simp [intOf]
    · go_wp2_with (go_at_call 180; (with_reducible refine (HGr.out _).mono ?_); rintro e w1 ⟨v1, rfl, ho, hb⟩; have HO1 := Lib.hid ho; have HB1 := Lib.hid hb; have hs1 := hb.size; clear ho hb)
      have e0 : w1.cell? ⟨h, 0, none⟩ = some (.slice (some ⟨g, 0, none⟩) 3 k0) := (HB1.out.cell hhl).trans h0
      go_loopw [6, 27] (fun v i wr => ∃ k : Nat, k ≤ 3 ∧ i = .int .i64 k ∧ Hid (wr.ownsRow w.heap.size 2 1 v (3 * k) (ints (l.take (3 * k)))) ∧ Hid (Below w.heap.size w wr)) (fun _ i wr => 3 - (intOf i).toNat)
      case atStart => exact ⟨0, by omega, rfl, HO1, HB1⟩
      case round =>
        clear HO1 HB1 hs1 e0
        obtain ⟨k, hk, rfl, HO, HB⟩ := hrel
        rcases (show k = 0 ∨ k = 1 ∨ k = 2 ∨ k = 3 by omega) with rfl | rfl | rfl | rfl
        · clear hk
          have c0 := HA.out 0 (by omega)
          have c1 := HA.out 1 (by omega)
          have c2 := HA.out 2 (by omega)
          simp only [Nat.zero_add] at c0 c1 c2
          have d0 : wr.cell? ⟨g, 0, none⟩ = some (.int .i64 (l.getD 0 0)) := (HB.out.cell hgl).trans c0
          have d1 : wr.cell? ⟨g, 1, none⟩ = some (.int .i64 (l.getD 1 0)) := (HB.out.cell hgl).trans c1
          have d2 : wr.cell? ⟨g, 2, none⟩ = some (.int .i64 (l.getD 2 0)) := (HB.out.cell hgl).trans c2
          have HS := Lib.hid (take3 l 0 (by have := HL.out; omega))
          have s0 : wr.cell? ⟨h, 0, none⟩ = some (.slice (some ⟨g, 0, none⟩) 3 k0) := (HB.out.cell hhl).trans h0
          generalize l.getD 0 0 = x at *
          generalize l.getD 1 0 = y at *
          generalize l.getD 2 0 = z at *
          clear c0 c1 c2
          go_wp2_with (at_builtin; refine wpList_append_own _ rfl _ _ 34 rfl w.heap.size 2 i0 (.int .i64 0) 1 8 Try.underlying34 HI0.out HZ0.out HZ1.out HZ2.out rfl (by decide) _ _ _ rfl HO.out ⟨g, 0, none⟩ 3 k0 [.int .i64 x, .int .i64 y, .int .i64 z] rfl rfl (src3 d0 d1 d2) (oneP _ _ _) (by unfold maxLen; omega) (by omega) HB.out.size ?_; intro v2 w2 hown hgrow _; have HO2 := Lib.hid hown; have HG := Lib.hid hgrow; clear hown hgrow)
          go_roundw
          case rel => exact ⟨1, by omega, rfl, Lib.hid (by rw [HS.out, ints_app]; exact HO2.out), Lib.hid (HB.out.grown HG.out HB.out.size (fun k' hk' => own_base' HO.out k' hk'))⟩
          case measure => simp [intOf]
        · clear hk
          have c0 := HA.out 3 (by omega)
          have c1 := HA.out 4 (by omega)
          have c2 := HA.out 5 (by omega)
          simp only [Nat.zero_add] at c0 c1 c2
          have d0 : wr.cell? ⟨g, 3, none⟩ = some (.int .i64 (l.getD 3 0)) := (HB.out.cell hgl).trans c0
          have d1 : wr.cell? ⟨g, 4, none⟩ = some (.int .i64 (l.getD 4 0)) := (HB.out.cell hgl).trans c1
          have d2 : wr.cell? ⟨g, 5, none⟩ = some (.int .i64 (l.getD 5 0)) := (HB.out.cell hgl).trans c2
          have HS := Lib.hid (take3 l 3 (by have := HL.out; omega))
          have s0 : wr.cell? ⟨h, 1, none⟩ = some (.slice (some ⟨g, 3, none⟩) 3 k1) := (HB.out.cell hhl).trans h1
          generalize l.getD 3 0 = x at *
          generalize l.getD 4 0 = y at *
          generalize l.getD 5 0 = z at *
          clear c0 c1 c2
          go_wp2_with (at_builtin; refine wpList_append_own _ rfl _ _ 34 rfl w.heap.size 2 i0 (.int .i64 0) 1 8 Try.underlying34 HI0.out HZ0.out HZ1.out HZ2.out rfl (by decide) _ _ _ rfl HO.out ⟨g, 3, none⟩ 3 k1 [.int .i64 x, .int .i64 y, .int .i64 z] rfl rfl (src3 d0 d1 d2) (oneP _ _ _) (by unfold maxLen; omega) (by omega) HB.out.size ?_; intro v2 w2 hown hgrow _; have HO2 := Lib.hid hown; have HG := Lib.hid hgrow; clear hown hgrow)
          go_roundw
          case rel => exact ⟨2, by omega, rfl, Lib.hid (by rw [HS.out, ints_app]; exact HO2.out), Lib.hid (HB.out.grown HG.out HB.out.size (fun k' hk' => own_base' HO.out k' hk'))⟩
          case measure => simp [intOf]
        · clear hk
          have c0 := HA.out 6 (by omega)
          have c1 := HA.out 7 (by omega)
          have c2 := HA.out 8 (by omega)
          simp only [Nat.zero_add] at c0 c1 c2
          have d0 : wr.cell? ⟨g, 6, none⟩ = some (.int .i64 (l.getD 6 0)) := (HB.out.cell hgl).trans c0
          have d1 : wr.cell? ⟨g, 7, none⟩ = some (.int .i64 (l.getD 7 0)) := (HB.out.cell hgl).trans c1
          have d2 : wr.cell? ⟨g, 8, none⟩ = some (.int .i64 (l.getD 8 0)) := (HB.out.cell hgl).trans c2
          have HS := Lib.hid (take3 l 6 (by have := HL.out; omega))
          have s0 : wr.cell? ⟨h, 2, none⟩ = some (.slice (some ⟨g, 6, none⟩) 3 k2) := (HB.out.cell hhl).trans h2
          generalize l.getD 6 0 = x at *
          generalize l.getD 7 0 = y at *
          generalize l.getD 8 0 = z at *
          clear c0 c1 c2
          go_wp2_with (at_builtin; refine wpList_append_own _ rfl _ _ 34 rfl w.heap.size 2 i0 (.int .i64 0) 1 8 Try.underlying34 HI0.out HZ0.out HZ1.out HZ2.out rfl (by decide) _ _ _ rfl HO.out ⟨g, 6, none⟩ 3 k2 [.int .i64 x, .int .i64 y, .int .i64 z] rfl rfl (src3 d0 d1 d2) (oneP _ _ _) (by unfold maxLen; omega) (by omega) HB.out.size ?_; intro v2 w2 hown hgrow _; have HO2 := Lib.hid hown; have HG := Lib.hid hgrow; clear hown hgrow)
          go_roundw
          case rel => exact ⟨3, by omega, rfl, Lib.hid (by rw [HS.out, ints_app]; exact HO2.out), Lib.hid (HB.out.grown HG.out HB.out.size (fun k' hk' => own_base' HO.out k' hk'))⟩
          case measure => simp [intOf]
        · have ht : l.take (3 * 3) = l := List.take_of_length_le (by have := HL.out; omega)
          have HO' := HO.out
          rw [ht] at HO'
          have hle := HL.out
          have HOh := Lib.hid HO'
          clear HO'
          go_wp2
          go_ret
          exact ⟨_, rfl, by rw [HL.out]; exact HOh.out, HB.out⟩
end Go.Proofs.Ythkbhaaodegocaa
/- Contracts: the laws' own lists of points and lines, in one word; the laws' own figures. -/
namespace Go.Proofs.Ythkbhaaodegocaa
open Go.RowKit
set_option linter.unusedVariables false
set_option linter.unusedSimpArgs false
/-- Laid with room behind. -/
structure LaidR (w : World) (n : Nat) (l : List Pt) (e : Ending) (w' : World) : Prop where
  out : ∃ g, e = .returned (.slice (some ⟨g, 0, none⟩) n (n + roomN n)) ∧ w.heap.size ≤ g ∧ g < w'.heap.size ∧ RoomP w' g (n + roomN n) 23 ∧ PtsAt w' g 0 (n + roomN n) (withRoomP l) ∧ Below w.heap.size w w'
structure LaidRL (w : World) (n : Nat) (l : List Pt) (e : Ending) (w' : World) : Prop where
  out : ∃ g, e = .returned (.slice (some ⟨g, 0, none⟩) n (n + roomN n)) ∧ w.heap.size ≤ g ∧ g < w'.heap.size ∧ RoomP w' g (n + roomN n) 24 ∧ PtsAt w' g 0 (n + roomN n) (withRoomP l) ∧ Below w.heap.size w w'
/-- Laid, or nil. -/
structure LaidB (w : World) (n : Nat) (l : List Pt) (e : Ending) (w' : World) : Prop where
  out : ∃ b c, e = .returned (.slice b n c) ∧ ListP w' b n l ∧ (∀ a o, b = some ⟨a, o, none⟩ → w.heap.size ≤ a) ∧ Below w.heap.size w w'
theorem laidR_list {w' : World} {g n : Nat} {l : List Pt} (hl : l.length = n) (h : PtsAt w' g 0 (n + roomN n) (withRoomP l)) : ListP w' (some ⟨g, 0, none⟩) n l := by
  subst hl
  exact listP_mk rfl (fun i hi => by have := h i (by omega); rwa [withRoomP_at l i hi] at this)
theorem toPointS_R (b : Option Addr) (n cap : Nat) (l : List Pt) (w : World) (hn : n ≤ 1000000) (h : ListP w b n l) :
    Calls Try.prog 46 #[.slice b n cap, .bool false] w (LaidR w n l) := by
  obtain ⟨rfl, hc⟩ := h
  exact (toPointS_any b l.length cap false l w rfl hn (.inl rfl) hc).mono fun e w' ⟨g, he, h1, h2, h3, h4⟩ => ⟨g, he, h1, h2.lt, h2, h3, h4⟩
theorem toLineS_R (b : Option Addr) (n cap : Nat) (l : List Pt) (w : World) (hn : n ≤ 1000000) (h : ListP w b n l) :
    Calls Try.prog 112 #[.slice b n cap, .bool false] w (LaidRL w n l) := by
  obtain ⟨rfl, hc⟩ := h
  exact (toLineS_any b l.length cap false l w rfl hn (.inl rfl) hc).mono fun e w' ⟨g, he, h1, h2, h3, h4⟩ => ⟨g, he, h1, h2.lt, h2, h3, h4⟩
theorem toPointS_B (b : Option Addr) (n cap : Nat) (l : List Pt) (w : World) (hn : n ≤ 1000000) (h : ListP w b n l) :
    Calls Try.prog 46 #[.slice b n cap, .bool true] w (LaidB w n l) := by
  rcases Nat.eq_zero_or_pos n with h0 | h0
  · subst h0
    obtain rfl := List.length_eq_zero_iff.1 h.1
    exact (toPointS_nil cap b w).mono fun e w' ⟨he, hw⟩ => ⟨none, 0, he, listP_nil, (fun _ _ h => by cases h), hw ▸ Below.refl _ _⟩
  · obtain ⟨rfl, hc⟩ := h
    exact (toPointS_any b l.length cap true l w rfl hn (.inr h0) hc).mono fun e w' ⟨g, he, h1, h2, h3, h4⟩ => ⟨_, _, he, laidR_list rfl h3, (fun _ _ h => by cases h; exact h1), h4⟩
theorem toLineS_B (b : Option Addr) (n cap : Nat) (l : List Pt) (w : World) (hn : n ≤ 1000000) (h : ListP w b n l) :
    Calls Try.prog 112 #[.slice b n cap, .bool true] w (LaidB w n l) := by
  rcases Nat.eq_zero_or_pos n with h0 | h0
  · subst h0
    obtain rfl := List.length_eq_zero_iff.1 h.1
    exact (toLineS_nil cap b w).mono fun e w' ⟨he, hw⟩ => ⟨none, 0, he, listP_nil, (fun _ _ h => by cases h), hw ▸ Below.refl _ _⟩
  · obtain ⟨rfl, hc⟩ := h
    exact (toLineS_any b l.length cap true l w rfl hn (.inr h0) hc).mono fun e w' ⟨g, he, h1, h2, h3, h4⟩ => ⟨_, _, he, laidR_list rfl h3, (fun _ _ h => by cases h; exact h1), h4⟩
theorem szLineS_any (b : Option Addr) (n cap : Nat) (left : Int) (w : World) (hl : left ≤ 1000000 ∧ 0 ≤ left) (hn : n ≤ 9223372036854775807) :
    Calls Try.prog 109 #[.slice b n cap, .int .i64 left] w fun e w' => e = .returned (.int .i64 (if left < n then -1 else left - n)) ∧ w = w' := by
  by_cases h : left < n
  · have HR : Hid ((if left < (n : Int) then (-1 : Int) else left - n) = -1) := Lib.hid (if_pos h)
    go_enter Try.func109, Try.ntmps109
    go_wp2
    go_ret
    exact ⟨by first | rfl | (rw [HR.out]; rfl), rfl⟩
  · have HR : Hid ((if left < (n : Int) then (-1 : Int) else left - n) = left - n) := Lib.hid (if_neg h)
    go_enter Try.func109, Try.ntmps109
    go_wp2
    go_ret
    exact ⟨by first | rfl | (rw [HR.out]; rfl), rfl⟩
end Go.Proofs.Ythkbhaaodegocaa
/- Contracts: slices.Concat of two lists of points; the codes of two triples. -/
namespace Go.Proofs.Ythkbhaaodegocaa
open Go.RowKit
set_option linter.unusedVariables false
set_option linter.unusedSimpArgs false
structure OwnP (base : Nat) (w : World) (n : Nat) (l : List Pt) (e : Ending) (w' : World) : Prop where
  out : ∃ v, e = .returned v ∧ w'.ownsRow base 23 3 v n (ptCs l) ∧ Below base w w'
set_option maxRecDepth 100000 in
theorem growP_pos (n : Nat) (w : World) (h0 : 0 < n) (hn : n ≤ 2000000) :
    Calls Try.prog 178 #[.slice none 0 0, .int .i64 (n : Int)] w (OwnP w.heap.size w 0 []) := by
  obtain ⟨i0, hi, hz0, hz1, hz2⟩ := info_parts infoPo
  have HI0 := Lib.hid hi; have HZ0 := Lib.hid hz0; have HZ1 := Lib.hid hz1; have HZ2 := Lib.hid hz2
  clear hi hz0 hz1 hz2
  have hnz : (0 : Int) < (n : Int) := by omega
  go_enter Try.func178, Try.ntmps178
  go_wp2_with (at_builtin; refine Lib.wpList_append_run _ rfl _ _ 52 3 rfl _ _ rfl rfl _ _ (Lib.run_append_nil_zeros _ 52 3 _ 23 i0 (.agg #[.int .i64 0, .int .i64 0, .int .i64 0]) .i64 .i64 Try.underlying52 Try.underlying3 HI0.out HZ0.out n h0 (by rw [HZ1.out]; omega) (by omega) (by rw [HZ2.out]; omega)) ?_)
  go_ret
  have hge := grownCap_ge w n 0 23
  have hle := grownCap_le_maxLen w n 0 23 (by unfold maxLen; omega)
  refine ⟨_, rfl, ⟨rfl, .inr ⟨w.heap.size, _, _, rfl, Nat.le_refl _, heap_alloc_new _ _, Nat.zero_le _, hle, ?_, rfl⟩⟩, bal (bdr (Below.refl _ _)) _⟩
  simp [Builtin.zeroCells, HZ1.out]
  omega
set_option maxRecDepth 100000 in
theorem growP_zero (w : World) :
    Calls Try.prog 178 #[.slice none 0 0, .int .i64 ((0 : Nat) : Int)] w (OwnP w.heap.size w 0 []) := by
  go_enter Try.func178, Try.ntmps178
  go_wp2
  go_ret
  exact ⟨_, rfl, ⟨rfl, .inl ⟨rfl, rfl⟩⟩, Below.refl _ _⟩
theorem growP_any (n : Nat) (w : World) (hn : n ≤ 2000000) :
    Calls Try.prog 178 #[.slice none 0 0, .int .i64 (n : Int)] w (OwnP w.heap.size w 0 []) := by
  rcases Nat.eq_zero_or_pos n with rfl | h
  · exact growP_zero w
  · exact growP_pos n w h hn
/-- A list: no list, or laid open at an address. -/
def ListC (w : World) (b : Option Addr) (n c : Nat) (l : List Pt) : Prop := l.length = n ∧ ((b = none ∧ n = 0 ∧ c = 0) ∨ ∃ g, b = some ⟨g, 0, none⟩ ∧ PtsAt w g 0 n l)
theorem ListC.below {w w1 : World} {b : Option Addr} {n c : Nat} {l : List Pt} (h : ListC w b n c l) (hb : Below w.heap.size w w1) : ListC w1 b n c l := by
  refine ⟨h.1, ?_⟩
  rcases h.2 with h0 | ⟨g, e, hp⟩
  · exact .inl h0
  · exact .inr ⟨g, e, hp.below hb⟩
theorem ListC.list {w : World} {b : Option Addr} {n c : Nat} {l : List Pt} (h : ListC w b n c l) : ListP w b n l := by
  rcases h.2 with ⟨rfl, rfl, rfl⟩ | ⟨g, rfl, hp⟩
  · exact ⟨h.1, fun h0 => absurd h0 (Nat.lt_irrefl _)⟩
  · exact ⟨h.1, fun _ => ⟨g, 0, rfl, hp⟩⟩
theorem ptCs_app (a b : List Pt) : ptCs (a ++ b) = ptCs a ++ ptCs b := by simp [ptCs]
theorem ptCs_one (l : List Pt) : ∀ u ∈ ptCs l, u.oneCell' = true := by
  intro u hu
  obtain ⟨a, _, hu⟩ := List.mem_flatMap.1 hu
  simp only [ptC, List.mem_cons, List.not_mem_nil, or_false] at hu
  rcases hu with rfl | rfl | rfl <;> rfl
theorem srcPts {W : World} {g o n : Nat} {l : List Pt} (hl : l.length = n) (h : PtsAt W g o n l) :
    ∀ (j : Nat) (u : Value), (ptCs l)[j]? = some u → W.cell? ((⟨g, o, none⟩ : Addr).add j) = some u := by
  intro j u hj
  have hadd : (⟨g, o, none⟩ : Addr).add j = ⟨g, o + j, none⟩ := by unfold Addr.add; split <;> simp_all
  rw [hadd]
  have hlt : j < (ptCs l).length := (List.getElem?_eq_some_iff.1 hj).1
  rw [ptCs_length] at hlt
  have hk : j / 3 < l.length := by omega
  obtain ⟨c0, c1, c2⟩ := ptCs_at l (j / 3) hk
  obtain ⟨d0, d1, d2⟩ := h (j / 3) (by omega)
  rcases (show j = j / 3 * 3 ∨ j = j / 3 * 3 + 1 ∨ j = j / 3 * 3 + 2 by omega) with e | e | e
  · rw [e] at hj ⊢; rw [hj] at c0; rw [c0]; exact d0
  · rw [e] at hj ⊢; rw [hj] at c1; rw [c1, ← Nat.add_assoc]; exact d1
  · rw [e] at hj ⊢; rw [hj] at c2; rw [c2, ← Nat.add_assoc]; exact d2
set_option maxRecDepth 100000 in
set_option maxHeartbeats 4000000 in
theorem concatP (h : Nat) (b1 b2 : Option Addr) (n1 c1 n2 c2 : Nat) (l1 l2 : List Pt) (w : World) (hn1 : n1 ≤ 1000000) (hn2 : n2 ≤ 1000000) (i1 : ListC w b1 n1 c1 l1) (i2 : ListC w b2 n2 c2 l2)
    (h0 : w.cell? ⟨h, 0, none⟩ = some (.slice b1 n1 c1)) (h1 : w.cell? ⟨h, 1, none⟩ = some (.slice b2 n2 c2)) :
    Calls Try.prog 158 #[.slice (some ⟨h, 0, none⟩) 2 2] w (OwnP w.heap.size w (n1 + n2) (l1 ++ l2)) := by
  obtain ⟨i0, hi, hz0, hz1, hz2⟩ := info_parts infoPo
  have HI0 := Lib.hid hi; have HZ0 := Lib.hid hz0; have HZ1 := Lib.hid hz1; have HZ2 := Lib.hid hz2
  have hhl : h < w.heap.size := World.block_lt_of_cell? w _ h0
  obtain ⟨S, hS⟩ : ∃ S : Int, (n1 : Int) + (n2 : Int) = S := ⟨_, rfl⟩
  have HGr : Hid (∀ W : World, Calls Try.prog 178 #[.slice none 0 0, .int .i64 S] W (OwnP W.heap.size W 0 [])) := Lib.hid (fun (W : World) => by have := growP_any (n1 + n2) W (by omega); rwa [Int.natCast_add, hS] at this)
  have HC1 := Lib.hid i1
  have HC2 := Lib.hid i2
  have w1 : IntKind.wrap .i64 (n1 : Int) = (n1 : Int) := by simp [IntKind.wrap, IntKind.signed, IntKind.bits]; omega
  have w2 : IntKind.wrap .i64 ((n1 : Int) + (n2 : Int)) = S := by rw [← hS]; simp [IntKind.wrap, IntKind.signed, IntKind.bits]; omega
  have p1 : ¬ ((n1 : Int) < 0) := by omega
  have p2 : ¬ (S < 0) := by omega
  clear hS hi hz0 hz1 hz2 i1 i2
  go_enter Try.func158, Try.ntmps158
  go_wp2
  go_loop [3, 11] (fun s i => (i = .int .i64 0 ∧ s = .int .i64 0) ∨ (i = .int .i64 1 ∧ s = .int .i64 (n1 : Int)) ∨ (i = .int .i64 2 ∧ s = .int .i64 S)) (fun _ i => 3 - (intOf i).toNat)
  case atStart => exact .inl ⟨rfl, rfl⟩
  case round =>
    rcases hrel with ⟨rfl, rfl⟩ | ⟨rfl, rfl⟩ | ⟨rfl, rfl⟩
    · go_wp2
      go_round
      case rel => exact .inr (.inl ⟨rfl, rfl⟩)
      case measure => simp [intOf]
    · go_wp2
      go_round
      case rel => exact .inr (.inr ⟨rfl, rfl⟩)
      case measure => simp [intOf]
    · go_wp2_with (go_at_call 178; (with_reducible refine (HGr.out _).mono ?_); rintro e w1 ⟨v1, rfl, ho, hb⟩; have HO1 := Lib.hid ho; have HB1 := Lib.hid hb; have hs1 := hb.size; clear ho hb)
      have e0 : w1.cell? ⟨h, 0, none⟩ = some (.slice b1 n1 c1) := (HB1.out.cell hhl).trans h0
      go_loopw [6, 27] (fun v i wr => ∃ k : Nat, k ≤ 2 ∧ i = .int .i64 k ∧ Hid (wr.ownsRow w.heap.size 23 3 v (if k = 0 then 0 else if k = 1 then n1 else n1 + n2) (ptCs (if k = 0 then [] else if k = 1 then l1 else l1 ++ l2))) ∧ Hid (Below w.heap.size w wr)) (fun _ i wr => 3 - (intOf i).toNat)
      case atStart => exact ⟨0, by omega, rfl, HO1, HB1⟩
      case round =>
        clear HO1 HB1 hs1 e0
        obtain ⟨k, hk, rfl, HO, HB⟩ := hrel
        rcases (show k = 0 ∨ k = 1 ∨ k = 2 by omega) with rfl | rfl | rfl
        · clear hk
          have s0 : wr.cell? ⟨h, 0, none⟩ = some (.slice b1 n1 c1) := (HB.out.cell hhl).trans h0
          have ho : wr.ownsRow w.heap.size 23 3 u6 0 (ptCs []) := HO.out
          have HO0 := Lib.hid ho
          clear ho HO
          have hl1 := HC1.out.1
          rcases (HC1.out.below HB.out).2 with ⟨rfl, rfl, rfl⟩ | ⟨g1, rfl, hp⟩
          · have el : l1 = [] := List.length_eq_zero_iff.1 hl1
            go_wp2_with (at_builtin; refine wpList_append_own_none rfl _ _ 52 rfl w.heap.size 23 i0 3 Try.underlying52 HI0.out _ _ _ rfl HO0.out rfl ?_)
            go_roundw
            case rel => exact ⟨1, by omega, rfl, Lib.hid (by simp only [el]; exact HO0.out), HB⟩
            case measure => simp [intOf]
          · have HPt := Lib.hid hp
            clear hp
            go_wp2_with (at_builtin; refine wpList_append_own _ rfl _ _ 52 rfl w.heap.size 23 i0 (.agg #[.int .i64 0, .int .i64 0, .int .i64 0]) 3 24 Try.underlying52 HI0.out HZ0.out HZ1.out HZ2.out rfl (by decide) _ _ _ rfl HO0.out ⟨g1, 0, none⟩ n1 c1 (ptCs l1) rfl (by rw [ptCs_length, hl1]) (srcPts hl1 HPt.out) (ptCs_one _) (by unfold maxLen; omega) (by omega) HB.out.size ?_; intro v2 w2 hown hgrow _; have HO2 := Lib.hid hown; have HG := Lib.hid hgrow; clear hown hgrow)
            go_roundw
            case rel => exact ⟨1, by omega, rfl, Lib.hid (by have := HO2.out; simpa [ptCs] using this), Lib.hid (HB.out.grown HG.out HB.out.size (fun k' hk' => own_base' HO0.out k' hk'))⟩
            case measure => simp [intOf]
        · clear hk
          have s0 : wr.cell? ⟨h, 1, none⟩ = some (.slice b2 n2 c2) := (HB.out.cell hhl).trans h1
          have ho : wr.ownsRow w.heap.size 23 3 u6 n1 (ptCs l1) := HO.out
          have HO0 := Lib.hid ho
          clear ho HO
          have hl2 := HC2.out.1
          rcases (HC2.out.below HB.out).2 with ⟨rfl, rfl, rfl⟩ | ⟨g1, rfl, hp⟩
          · have el : l2 = [] := List.length_eq_zero_iff.1 hl2
            go_wp2_with (at_builtin; refine wpList_append_own_none rfl _ _ 52 rfl w.heap.size 23 i0 3 Try.underlying52 HI0.out _ _ _ rfl HO0.out rfl ?_)
            go_roundw
            case rel => exact ⟨2, by omega, rfl, Lib.hid (by simp only [el, List.append_nil, Nat.add_zero]; exact HO0.out), HB⟩
            case measure => simp [intOf]
          · have HPt := Lib.hid hp
            clear hp
            go_wp2_with (at_builtin; refine wpList_append_own _ rfl _ _ 52 rfl w.heap.size 23 i0 (.agg #[.int .i64 0, .int .i64 0, .int .i64 0]) 3 24 Try.underlying52 HI0.out HZ0.out HZ1.out HZ2.out rfl (by decide) _ _ _ rfl HO0.out ⟨g1, 0, none⟩ n2 c2 (ptCs l2) rfl (by rw [ptCs_length, hl2]) (srcPts hl2 HPt.out) (ptCs_one _) (by unfold maxLen; omega) (by omega) HB.out.size ?_; intro v2 w2 hown hgrow _; have HO2 := Lib.hid hown; have HG := Lib.hid hgrow; clear hown hgrow)
            go_roundw
            case rel => exact ⟨2, by omega, rfl, Lib.hid (by show World.ownsRow _ _ _ _ _ (n1 + n2) (ptCs (l1 ++ l2)); rw [ptCs_app]; exact HO2.out), Lib.hid (HB.out.grown HG.out HB.out.size (fun k' hk' => own_base' HO0.out k' hk'))⟩
            case measure => simp [intOf]
        · have ho : wr.ownsRow w.heap.size 23 3 u6 (n1 + n2) (ptCs (l1 ++ l2)) := HO.out
          have HOh := Lib.hid ho
          clear ho HO
          go_wp2
          go_ret
          exact ⟨_, rfl, HOh.out, HB.out⟩
theorem own_listC {W : World} {base : Nat} {v : Value} {l : List Pt} {n : Nat} (h : W.ownsRow base 23 3 v n (ptCs l)) (hl : l.length = n) : ∃ b c, v = .slice b n c ∧ ListC W b n c l := by
  rcases h.2 with ⟨rfl, rfl⟩ | ⟨g, cap, cur, rfl, hb, hg, hle, _, hsz, htk⟩
  · exact ⟨none, 0, rfl, hl, .inl ⟨rfl, rfl, rfl⟩⟩
  · refine ⟨_, _, rfl, hl, .inr ⟨g, rfl, ?_⟩⟩
    intro i hi
    obtain ⟨c0, c1, c2⟩ := ptCs_at l i (by omega)
    have key : ∀ j u, (ptCs l)[j]? = some u → W.cell? ⟨g, j, none⟩ = some u := fun j u hj => by
      rw [cell_of_row W g j _ _ _ hg]
      rw [← htk, List.getElem?_take] at hj
      split at hj
      · simpa using hj
      · cases hj
    simp only [Nat.zero_add]
    exact ⟨key _ _ c0, key _ _ c1, key _ _ c2⟩
theorem pointsCode_nil (p : Int) (w : World) : Calls Try.prog 99 #[.int .i64 p, .slice none 0 0] w (Ret w (.int .i64 (codeOf p true))) := by
  cases hp : prB p with
  | false =>
    have HP := Lib.hid hp; clear hp
    go_enter Try.func99, Try.ntmps99
    go_wp2_with (go_at_call 143; refine (planeCode_no _ _ _ HP.out).mono ?_; rintro e w' ⟨rfl, rfl⟩)
    go_ret
    exact ⟨ret_int (codeOf_no _ HP.out).symm, (by repeat (first | exact Below.refl _ _ | refine bset ?_ _ _ (by omega) _ | refine bal ?_ _ | refine bdrN ?_ _ | refine bdr ?_))⟩
  | true =>
    have HP := Lib.hid hp; clear hp
    go_enter Try.func99, Try.ntmps99
    go_wp2_with (first
      | (go_at_call 73; refine (isPrime_yes _ _ HP.out).mono ?_; rintro e w' ⟨rfl, rfl⟩)
      | (go_at_call 143; go_in)
      | (go_at_call 144; go_in)
      | (go_at_call 145; (with_reducible refine (arePoints_zero _ _ _ _).mono ?_); rintro e w2_ ⟨rfl, hb2⟩; obtain ⟨hcb2, hfb2, hlb2⟩ := bcell hb2; have hsz2 := hb2.size; (try simp at hsz2); have HB2 := Lib.hid hb2; clear hb2; (try (have hl02 : w.heap.size < w2_.heap.size := by omega)); (try (have hl12 : w.heap.size + 1 < w2_.heap.size := by omega))))
    go_ret
    exact ⟨ret_int (codeOf_t HP.out).symm, (by repeat (first | exact Below.refl _ _ | refine bset ?_ _ _ (by omega) _ | refine bal ?_ _ | refine bdrN ?_ _ | refine bdr ?_ | refine below_tr' ?_ HB2.out))⟩
theorem pointsCode_C (p : Int) (b : Option Addr) (n c : Nat) (l : List Pt) (w : World) (hn : n ≤ 4611686018427387904) (h : ListC w b n c l) :
    Calls Try.prog 99 #[.int .i64 p, .slice b n c] w (Ret w (.int .i64 (codeOf p (ptsB p l)))) := by
  rcases h.2 with ⟨rfl, rfl, rfl⟩ | ⟨g, rfl, hp⟩
  · obtain rfl := List.length_eq_zero_iff.1 h.1
    exact pointsCode_nil p w
  · exact pointsCode_any p g 0 n c l w h.1 hn hp
theorem ptsB_app (p : Int) (a b : List Pt) : ptsB p (a ++ b) = (ptsB p a && ptsB p b) := by simp [ptsB]
/-- The code of two triples. -/
def threesR (p : Int) (n1 n2 : Nat) (l1 l2 : List Pt) : Int := if codeOf p (ptsB p l1 && ptsB p l2) ≠ 0 then codeOf p (ptsB p l1 && ptsB p l2) else if n1 = 3 ∧ n2 = 3 then 0 else 2
set_option maxHeartbeats 2000000 in
theorem threesCode_any (p : Int) (b1 b2 : Option Addr) (n1 c1 n2 c2 : Nat) (l1 l2 : List Pt) (w : World) (hn1 : n1 ≤ 1000000) (hn2 : n2 ≤ 1000000) (i1 : ListC w b1 n1 c1 l1) (i2 : ListC w b2 n2 c2 l2) :
    Calls Try.prog 118 #[.int .i64 p, .slice b1 n1 c1, .slice b2 n2 c2] w (Ret w (.int .i64 (threesR p n1 n2 l1 l2))) := by
  have hl1 := i1.1
  have hl2 := i2.1
  have HC := Lib.hid (fun (h : Nat) (W : World) (hW : Below w.heap.size w W) h0 h1 => concatP h b1 b2 n1 c1 n2 c2 l1 l2 W hn1 hn2 (i1.below hW) (i2.below hW) h0 h1)
  have HP : Hid (∀ (b : Option Addr) (c : Nat) (W : World), ListC W b (n1 + n2) c (l1 ++ l2) → Calls Try.prog 99 #[.int .i64 p, .slice b (n1 + n2) c] W (Ret W (.int .i64 (codeOf p (ptsB p l1 && ptsB p l2))))) :=
    Lib.hid (fun b c W h => by rw [← ptsB_app]; exact pointsCode_C p b (n1 + n2) c (l1 ++ l2) W (by omega) h)
  have HR : threesR p n1 n2 l1 l2 = if codeOf p (ptsB p l1 && ptsB p l2) ≠ 0 then codeOf p (ptsB p l1 && ptsB p l2) else if n1 = 3 ∧ n2 = 3 then 0 else 2 := rfl
  generalize threesR p n1 n2 l1 l2 = r at *
  generalize codeOf p (ptsB p l1 && ptsB p l2) = k at *
  have HLn := Lib.hid (show (l1 ++ l2).length = n1 + n2 by rw [List.length_append, hl1, hl2])
  clear i1 i2
  have HRR := Lib.hid HR
  clear HR
  by_cases hk : k = 0
  · subst hk
    by_cases h3 : n1 = 3
    · by_cases h4 : n2 = 3
      · have hr : Hid (r = 0) := Lib.hid (by rw [HRR.out]; simp [h3, h4])
        clear HRR
        have q1 : ((n1 : Int) != 3) = false := bnef (by omega)
        have q2 : ((n2 : Int) != 3) = false := bnef (by omega)
        clear h3 h4
        go_enter Try.func118, Try.ntmps118
        go_wp2_with (first
          | (go_at_call 158; refine (HC.out _ _ (bal (Below.refl _ _) _) (by rw [cell_of_row _ _ 0 _ _ _ (heap_alloc_new _ _)]; rfl) (by rw [cell_of_row _ _ 1 _ _ _ (heap_alloc_new _ _)]; rfl)).mono ?_; rintro e w1_ ⟨v, rfl, ho, hb⟩; obtain ⟨b, c, rfl, hl⟩ := own_listC ho HLn.out; have HB1 := Lib.hid hb; have HL := Lib.hid hl; clear ho hb hl)
          | (go_at_call 99; (with_reducible refine (HP.out _ _ _ HL.out).mono ?_); rintro e w2_ ⟨rfl, hb2⟩; obtain ⟨hcb2, hfb2, hlb2⟩ := bcell hb2; have hsz2 := hb2.size; (try simp at hsz2); have HB2 := Lib.hid hb2; clear hb2))
        go_ret
        exact ⟨ret_int hr.out.symm, (by repeat (first | exact Below.refl _ _ | refine bset ?_ _ _ (by omega) _ | refine bal ?_ _ | refine bdrN ?_ _ | refine bdr ?_ | refine below_tr' ?_ HB2.out | refine below_tr' ?_ HB1.out))⟩
      · have hr : Hid (r = 2) := Lib.hid (by rw [HRR.out]; simp [h3, h4])
        clear HRR
        have q1 : ((n1 : Int) != 3) = false := bnef (by omega)
        have q2 : ((n2 : Int) != 3) = true := bnet (by omega)
        clear h3 h4
        go_enter Try.func118, Try.ntmps118
        go_wp2_with (first
          | (go_at_call 158; refine (HC.out _ _ (bal (Below.refl _ _) _) (by rw [cell_of_row _ _ 0 _ _ _ (heap_alloc_new _ _)]; rfl) (by rw [cell_of_row _ _ 1 _ _ _ (heap_alloc_new _ _)]; rfl)).mono ?_; rintro e w1_ ⟨v, rfl, ho, hb⟩; obtain ⟨b, c, rfl, hl⟩ := own_listC ho HLn.out; have HB1 := Lib.hid hb; have HL := Lib.hid hl; clear ho hb hl)
          | (go_at_call 99; (with_reducible refine (HP.out _ _ _ HL.out).mono ?_); rintro e w2_ ⟨rfl, hb2⟩; obtain ⟨hcb2, hfb2, hlb2⟩ := bcell hb2; have hsz2 := hb2.size; (try simp at hsz2); have HB2 := Lib.hid hb2; clear hb2))
        go_ret
        exact ⟨ret_int hr.out.symm, (by repeat (first | exact Below.refl _ _ | refine bset ?_ _ _ (by omega) _ | refine bal ?_ _ | refine bdrN ?_ _ | refine bdr ?_ | refine below_tr' ?_ HB2.out | refine below_tr' ?_ HB1.out))⟩
    · have hr : Hid (r = 2) := Lib.hid (by rw [HRR.out]; simp [h3])
      clear HRR
      have q1 : ((n1 : Int) != 3) = true := bnet (by omega)
      clear h3
      go_enter Try.func118, Try.ntmps118
      go_wp2_with (first
        | (go_at_call 158; refine (HC.out _ _ (bal (Below.refl _ _) _) (by rw [cell_of_row _ _ 0 _ _ _ (heap_alloc_new _ _)]; rfl) (by rw [cell_of_row _ _ 1 _ _ _ (heap_alloc_new _ _)]; rfl)).mono ?_; rintro e w1_ ⟨v, rfl, ho, hb⟩; obtain ⟨b, c, rfl, hl⟩ := own_listC ho HLn.out; have HB1 := Lib.hid hb; have HL := Lib.hid hl; clear ho hb hl)
        | (go_at_call 99; (with_reducible refine (HP.out _ _ _ HL.out).mono ?_); rintro e w2_ ⟨rfl, hb2⟩; obtain ⟨hcb2, hfb2, hlb2⟩ := bcell hb2; have hsz2 := hb2.size; (try simp at hsz2); have HB2 := Lib.hid hb2; clear hb2))
      go_ret
      exact ⟨ret_int hr.out.symm, (by repeat (first | exact Below.refl _ _ | refine bset ?_ _ _ (by omega) _ | refine bal ?_ _ | refine bdrN ?_ _ | refine bdr ?_ | refine below_tr' ?_ HB2.out | refine below_tr' ?_ HB1.out))⟩
  · have hr : Hid (r = k) := Lib.hid (by rw [HRR.out, if_pos hk])
    clear HRR
    have q0 : (k == 0) = false := beqf hk
    go_enter Try.func118, Try.ntmps118
    go_wp2_with (first
      | (go_at_call 158; refine (HC.out _ _ (bal (Below.refl _ _) _) (by rw [cell_of_row _ _ 0 _ _ _ (heap_alloc_new _ _)]; rfl) (by rw [cell_of_row _ _ 1 _ _ _ (heap_alloc_new _ _)]; rfl)).mono ?_; rintro e w1_ ⟨v, rfl, ho, hb⟩; obtain ⟨b, c, rfl, hl⟩ := own_listC ho HLn.out; have HB1 := Lib.hid hb; have HL := Lib.hid hl; clear ho hb hl)
      | (go_at_call 99; (with_reducible refine (HP.out _ _ _ HL.out).mono ?_); rintro e w2_ ⟨rfl, hb2⟩; obtain ⟨hcb2, hfb2, hlb2⟩ := bcell hb2; have hsz2 := hb2.size; (try simp at hsz2); have HB2 := Lib.hid hb2; clear hb2))
    go_ret
    exact ⟨ret_int hr.out.symm, (by repeat (first | exact Below.refl _ _ | refine bset ?_ _ _ (by omega) _ | refine bal ?_ _ | refine bdrN ?_ _ | refine bdr ?_ | refine below_tr' ?_ HB2.out | refine below_tr' ?_ HB1.out))⟩
theorem threesR_zero {p : Int} {n1 n2 : Nat} {l1 l2 : List Pt} (h : threesR p n1 n2 l1 l2 = 0) : prB p = true ∧ ptsB p l1 = true ∧ ptsB p l2 = true ∧ n1 = 3 ∧ n2 = 3 := by
  unfold threesR at h
  by_cases hk : codeOf p (ptsB p l1 && ptsB p l2) = 0
  · obtain ⟨h1, h2⟩ := code_zero hk
    simp only [Bool.and_eq_true] at h2
    rw [if_neg (by simpa using hk)] at h
    by_cases h3 : n1 = 3 ∧ n2 = 3
    · exact ⟨h1, h2.1, h2.2, h3.1, h3.2⟩
    · rw [if_neg h3] at h; cases h
  · rw [if_pos hk] at h; exact (hk h).elim
theorem threesR_eq (p : Int) (n1 n2 : Nat) (l1 l2 : List Pt) : threesR p n1 n2 l1 l2 = if codeOf p (ptsB p l1) ≠ 0 then codeOf p (ptsB p l1) else if codeOf p (ptsB p l2) ≠ 0 then codeOf p (ptsB p l2) else if n1 = 3 ∧ n2 = 3 then 0 else 2 := by
  unfold threesR codeOf
  cases prB p <;> cases ptsB p l1 <;> cases ptsB p l2 <;> simp
set_option maxHeartbeats 2000000 in
theorem l09Threes_any (p : Int) (b1 b2 : Option Addr) (n1 c1 n2 c2 : Nat) (l1 l2 : List Pt) (w : World) (hn1 : n1 ≤ 1000000) (hn2 : n2 ≤ 1000000) (i1 : ListC w b1 n1 c1 l1) (i2 : ListC w b2 n2 c2 l2) :
    Calls Try.prog 116 #[.int .i64 p, .slice b1 n1 c1, .slice b2 n2 c2] w (Ret w (.int .i64 (threesR p n1 n2 l1 l2))) := by
  have H1 := Lib.hid (fun (W : World) (hW : Below w.heap.size w W) => l01Code_list p b1 n1 c1 l1 W hn1 (i1.below hW).list)
  have H2 := Lib.hid (fun (W : World) (hW : Below w.heap.size w W) => l01Code_list p b2 n2 c2 l2 W hn2 (i2.below hW).list)
  have HRR := Lib.hid (threesR_eq p n1 n2 l1 l2)
  generalize threesR p n1 n2 l1 l2 = r at *
  generalize codeOf p (ptsB p l1) = k1 at *
  generalize codeOf p (ptsB p l2) = k2 at *
  clear i1 i2
  have tok : True := trivial
  by_cases hk : k1 = 0
  · subst hk
    by_cases hk2 : k2 = 0
    · subst hk2
      by_cases h3 : n1 = 3
      · have q1 : ((n1 : Int) != 3) = false := bnef (by omega)
        by_cases h4 : n2 = 3
        · have hr : Hid (r = 0) := Lib.hid (by rw [HRR.out]; simp [h3, h4])
          have q2 : ((n2 : Int) != 3) = false := bnef (by omega)
          clear HRR h3 h4
          go_enter Try.func116, Try.ntmps116
          go_wp2_with (first
            | (have _t := tok; (go_at_call 94; (with_reducible refine (H1.out _ (Below.refl _ _)).mono ?_); rintro e w1_ ⟨rfl, hb1⟩; obtain ⟨hcb1, hfb1, hlb1⟩ := bcell hb1; have hsz1 := hb1.size; (try simp at hsz1); have HB1 := Lib.hid hb1; clear hb1); clear tok)
            | (go_at_call 94; (with_reducible refine (H2.out _ HB1.out).mono ?_); rintro e w2_ ⟨rfl, hb2⟩; obtain ⟨hcb2, hfb2, hlb2⟩ := bcell hb2; have hsz2 := hb2.size; (try simp at hsz2); have HB2 := Lib.hid hb2; clear hb2))
          go_ret
          exact ⟨ret_int hr.out.symm, (by repeat (first | exact Below.refl _ _ | refine bset ?_ _ _ (by omega) _ | refine bal ?_ _ | refine bdrN ?_ _ | refine bdr ?_ | refine below_tr' ?_ HB2.out | refine below_tr' ?_ HB1.out))⟩
        · have hr : Hid (r = 2) := Lib.hid (by rw [HRR.out]; simp [h3, h4])
          have q2 : ((n2 : Int) != 3) = true := bnet (by omega)
          clear HRR h3 h4
          go_enter Try.func116, Try.ntmps116
          go_wp2_with (first
            | (have _t := tok; (go_at_call 94; (with_reducible refine (H1.out _ (Below.refl _ _)).mono ?_); rintro e w1_ ⟨rfl, hb1⟩; obtain ⟨hcb1, hfb1, hlb1⟩ := bcell hb1; have hsz1 := hb1.size; (try simp at hsz1); have HB1 := Lib.hid hb1; clear hb1); clear tok)
            | (go_at_call 94; (with_reducible refine (H2.out _ HB1.out).mono ?_); rintro e w2_ ⟨rfl, hb2⟩; obtain ⟨hcb2, hfb2, hlb2⟩ := bcell hb2; have hsz2 := hb2.size; (try simp at hsz2); have HB2 := Lib.hid hb2; clear hb2))
          go_ret
          exact ⟨ret_int hr.out.symm, (by repeat (first | exact Below.refl _ _ | refine bset ?_ _ _ (by omega) _ | refine bal ?_ _ | refine bdrN ?_ _ | refine bdr ?_ | refine below_tr' ?_ HB2.out | refine below_tr' ?_ HB1.out))⟩
      · have hr : Hid (r = 2) := Lib.hid (by rw [HRR.out]; simp [h3])
        have q1 : ((n1 : Int) != 3) = true := bnet (by omega)
        clear HRR h3
        go_enter Try.func116, Try.ntmps116
        go_wp2_with (first
          | (have _t := tok; (go_at_call 94; (with_reducible refine (H1.out _ (Below.refl _ _)).mono ?_); rintro e w1_ ⟨rfl, hb1⟩; obtain ⟨hcb1, hfb1, hlb1⟩ := bcell hb1; have hsz1 := hb1.size; (try simp at hsz1); have HB1 := Lib.hid hb1; clear hb1); clear tok)
          | (go_at_call 94; (with_reducible refine (H2.out _ HB1.out).mono ?_); rintro e w2_ ⟨rfl, hb2⟩; obtain ⟨hcb2, hfb2, hlb2⟩ := bcell hb2; have hsz2 := hb2.size; (try simp at hsz2); have HB2 := Lib.hid hb2; clear hb2))
        go_ret
        exact ⟨ret_int hr.out.symm, (by repeat (first | exact Below.refl _ _ | refine bset ?_ _ _ (by omega) _ | refine bal ?_ _ | refine bdrN ?_ _ | refine bdr ?_ | refine below_tr' ?_ HB2.out | refine below_tr' ?_ HB1.out))⟩
    · have hr : Hid (r = k2) := Lib.hid (by rw [HRR.out]; simp [hk2])
      have q2 : (k2 != 0) = true := bnet hk2
      clear HRR
      go_enter Try.func116, Try.ntmps116
      go_wp2_with (first
        | (have _t := tok; (go_at_call 94; (with_reducible refine (H1.out _ (Below.refl _ _)).mono ?_); rintro e w1_ ⟨rfl, hb1⟩; obtain ⟨hcb1, hfb1, hlb1⟩ := bcell hb1; have hsz1 := hb1.size; (try simp at hsz1); have HB1 := Lib.hid hb1; clear hb1); clear tok)
        | (go_at_call 94; (with_reducible refine (H2.out _ HB1.out).mono ?_); rintro e w2_ ⟨rfl, hb2⟩; obtain ⟨hcb2, hfb2, hlb2⟩ := bcell hb2; have hsz2 := hb2.size; (try simp at hsz2); have HB2 := Lib.hid hb2; clear hb2))
      go_ret
      exact ⟨ret_int hr.out.symm, (by repeat (first | exact Below.refl _ _ | refine bset ?_ _ _ (by omega) _ | refine bal ?_ _ | refine bdrN ?_ _ | refine bdr ?_ | refine below_tr' ?_ HB2.out | refine below_tr' ?_ HB1.out))⟩
  · have hr : Hid (r = k1) := Lib.hid (by rw [HRR.out]; simp [hk])
    have q2 : (k1 != 0) = true := bnet hk
    clear HRR
    go_enter Try.func116, Try.ntmps116
    go_wp2_with (go_at_call 94; (with_reducible refine (H1.out _ (Below.refl _ _)).mono ?_); rintro e w1_ ⟨rfl, hb1⟩; obtain ⟨hcb1, hfb1, hlb1⟩ := bcell hb1; have hsz1 := hb1.size; (try simp at hsz1); have HB1 := Lib.hid hb1; clear hb1)
    go_ret
    exact ⟨ret_int hr.out.symm, (by repeat (first | exact Below.refl _ _ | refine bset ?_ _ _ (by omega) _ | refine bal ?_ _ | refine bdrN ?_ _ | refine bdr ?_ | refine below_tr' ?_ HB1.out))⟩
end Go.Proofs.Ythkbhaaodegocaa
/- Plain words: a fourth harmonic point: the points it is made with are there. -/
namespace Go.Proofs.Ythkbhaaodegocaa
set_option linter.unusedVariables false
set_option linter.unusedSimpArgs false
def headP (l : List Pt) : Pt := l.headD (0, 0, 0)
theorem head_at {f : Pt → Bool} {l : List Pt} {k : Nat} (h : ∀ a ∈ l.take k, f a = false) (hk : k < l.length) (hf : f (l.getD k (0, 0, 0)) = true) : headP (l.filter f) = l.getD k (0, 0, 0) := by
  have e : l = l.take k ++ (l.getD k (0, 0, 0) :: l.drop (k + 1)) := by
    have h1 : l.getD k (0, 0, 0) = l[k] := by simp [List.getD, hk]
    rw [h1, List.getElem_cons_drop, List.take_append_drop]
  generalize l.getD k (0, 0, 0) = d at *
  generalize l.take k = t at *
  generalize l.drop (k + 1) = r at *
  subst e
  rw [List.filter_append, List.filter_eq_nil_iff.2 (fun a ha => by rw [h a ha]; decide), List.nil_append, List.filter_cons, if_pos hf]
  rfl
theorem nodup3 : (allP 3).Nodup := by decide +kernel
theorem nodup5 : (allP 5).Nodup := by decide +kernel
theorem nodup7 : (allP 7).Nodup := by decide +kernel
theorem nodup11 : (allP 11).Nodup := by decide +kernel
theorem nodup13 : (allP 13).Nodup := by decide +kernel
theorem nodup_allP {n : Nat} (hp : prB (n : Int) = true) : (allP n).Nodup := by
  have h := prB_cases hp
  have : n = 3 ∨ n = 5 ∨ n = 7 ∨ n = 11 ∨ n = 13 := by omega
  rcases this with rfl | rfl | rfl | rfl | rfl
  · exact nodup3
  · exact nodup5
  · exact nodup7
  · exact nodup11
  · exact nodup13
/-- Of three different things one is neither of two. -/
theorem third {l : List Pt} (h : l.Nodup) (hl : 3 ≤ l.length) (a b : Pt) : ∃ x ∈ l, x ≠ a ∧ x ≠ b := by
  match l, hl with
  | x :: y :: z :: r, _ =>
    simp only [List.nodup_cons, List.mem_cons, not_or] at h
    obtain ⟨⟨xy, xz, _⟩, ⟨yz, _⟩, _⟩ := h
    by_cases hx : x = a ∨ x = b
    · by_cases hy : y = a ∨ y = b
      · refine ⟨z, by simp, ?_, ?_⟩
        · rintro rfl; rcases hx with rfl | rfl <;> rcases hy with rfl | rfl <;> simp_all
        · rintro rfl; rcases hx with rfl | rfl <;> rcases hy with rfl | rfl <;> simp_all
      · exact ⟨y, by simp, fun e => hy (.inl e), fun e => hy (.inr e)⟩
    · exact ⟨x, by simp, fun e => hx (.inl e), fun e => hx (.inr e)⟩
theorem allP_pt {n : Nat} (hp : prB (n : Int) = true) {a : Pt} (h : a ∈ allP n) : ptB (n : Int) a.1 a.2.1 a.2.2 = true := by
  have hb := prB_bd hp
  have mk : ∀ a b c : Int, (0 ≤ a ∧ a ≤ (n : Int) - 1) → (0 ≤ b ∧ b ≤ (n : Int) - 1) → (0 ≤ c ∧ c ≤ (n : Int) - 1) → (a = 1 ∨ (a = 0 ∧ b = 1) ∨ (a = 0 ∧ b = 0 ∧ c = 1)) → ptB (n : Int) a b c = true := by
    intro a b c ha hb hc hd
    unfold ptB normB numsB
    simp only [hp, Bool.true_and, Bool.and_eq_true, List.all_cons, List.all_nil, Bool.and_true, numB_iff]
    refine ⟨?_, ha, hb, hc⟩
    rcases hd with rfl | ⟨rfl, rfl⟩ | ⟨rfl, rfl, rfl⟩ <;> rfl
  simp only [allP, pB, pA, pR, List.mem_append, List.mem_cons, List.mem_map, List.mem_range, List.mem_flatMap] at h
  rcases h with (rfl | ⟨z, hz, rfl⟩) | ⟨y, hy, z, hz, rfl⟩
  · exact mk 0 0 1 (by omega) (by omega) (by omega) (.inr (.inr ⟨rfl, rfl, rfl⟩))
  · exact mk 0 1 z (by omega) (by omega) (by omega) (.inr (.inl ⟨rfl, rfl⟩))
  · exact mk 1 y z (by omega) (by omega) (by omega) (.inl rfl)
theorem mod_fac (p f x : Int) : ∃ q, x % p * f % p = x * f - p * q := by
  refine ⟨x / p * f + (x % p * f) / p, ?_⟩
  have h1 := Int.emod_add_mul_ediv x p
  have h2 := Int.emod_add_mul_ediv (x % p * f) p
  generalize x / p = q1 at *
  generalize (x % p * f) / p = q2 at *
  generalize x % p * f % p = r2 at *
  grind
/-- A point lies on each line through it. -/
theorem on_crsN (p : Int) (a b : Pt) : onB p a (crsN p a b) = true ∧ onB p b (crsN p a b) = true := by
  obtain ⟨a0, a1, a2⟩ := a
  obtain ⟨b0, b1, b2⟩ := b
  unfold onB crsN nrm3 crs
  simp only
  generalize facL p _ = f
  obtain ⟨q0, e0⟩ := mod_fac p f (a1 * b2 - a2 * b1)
  obtain ⟨q1, e1⟩ := mod_fac p f (a2 * b0 - a0 * b2)
  obtain ⟨q2, e2⟩ := mod_fac p f (a0 * b1 - a1 * b0)
  rw [e0, e1, e2]
  simp only [beq_iff_eq]
  refine ⟨Int.emod_eq_zero_of_dvd ⟨-(a0 * q0 + a1 * q1 + a2 * q2), ?_⟩, Int.emod_eq_zero_of_dvd ⟨-(b0 * q0 + b1 * q1 + b2 * q2), ?_⟩⟩
  · grind
  · grind
/-- The first point off the line of a and b. -/
def quadR1 (n : Nat) (a b : Pt) : Pt := headP ((allP n).filter (fun x => !onB (n : Int) x (crsN n a b)))
/-- The first point of the line of a and r that is neither. -/
def quadS (n : Nat) (a r : Pt) : Pt := headP ((allP n).filter (fun x => onB (n : Int) x (crsN n a r) && (!eqP x a && !eqP x r)))
/-- The fourth harmonic point, and the code. -/
def quadR (p : Int) (a b c : Pt) : Pt × Int :=
  if codeOf p (ptsB p [a, b, c]) ≠ 0 then ((0, 0, 0), codeOf p (ptsB p [a, b, c])) else
  if threeB p a b c = false then ((0, 0, 0), 5) else
  let r := quadR1 p.toNat a b
  let s := quadS p.toNat a r
  let t := crsN p (crsN p b s) (crsN p c r)
  let u := crsN p (crsN p b r) (crsN p a t)
  (crsN p (crsN p a b) (crsN p s u), 0)
/-- What both programs lean on: the two points are found. -/
theorem quad_facts {n : Nat} {a b : Pt} (ha : ptB (n : Int) a.1 a.2.1 a.2.2 = true) (hb : ptB (n : Int) b.1 b.2.1 b.2.2 = true) (hab : eqP a b = false) :
    (∃ x ∈ allP n, onB (n : Int) x (crsN n a b) = false) ∧ ∃ x ∈ allP n, (onB (n : Int) x (crsN n a (quadR1 n a b)) = true ∧ x ≠ a ∧ x ≠ quadR1 n a b) := by
  have hp := (pt_facts ha).1
  have hl := crsN_pt ha hb hab
  have h1 := (line_facts hl).2
  refine ⟨h1, ?_⟩
  have hr : quadR1 n a b ∈ (allP n).filter (fun x => !onB (n : Int) x (crsN n a b)) := by
    unfold quadR1 headP
    obtain ⟨x, hx, hx2⟩ := h1
    have : x ∈ (allP n).filter (fun x => !onB (n : Int) x (crsN n a b)) := List.mem_filter.2 ⟨hx, by rw [hx2]; rfl⟩
    cases hh : (allP n).filter (fun x => !onB (n : Int) x (crsN n a b)) with
    | nil => rw [hh] at this; cases this
    | cons y r => simp
  obtain ⟨hr1, hr2⟩ := List.mem_filter.1 hr
  have hne : eqP a (quadR1 n a b) = false := by
    cases he : eqP a (quadR1 n a b) with
    | false => rfl
    | true =>
      have e := eqP_iff.1 he
      rw [← e, (on_crsN (n : Int) a b).1] at hr2
      cases hr2
  have hs := crsN_pt ha (allP_pt hp hr1) hne
  obtain ⟨x, hx, h2⟩ := third ((nodup_allP hp).filter _) (Nat.le_trans (by decide) (line_facts hs).1) a (quadR1 n a b)
  obtain ⟨hx1, hx2⟩ := List.mem_filter.1 hx
  exact ⟨x, hx1, hx2, h2⟩
end Go.Proofs.Ythkbhaaodegocaa
/- Plain words: numbers modulo a prime, cross products, and why Pappus' meets are different. -/
namespace Go.Proofs.Ythkbhaaodegocaa
set_option linter.unusedVariables false
set_option linter.unusedSimpArgs false
theorem mul_dvd {p x y : Int} (hp : prB p = true) (h : p ∣ x * y) (hx : ¬ p ∣ x) : p ∣ y := by
  obtain ⟨h3, h13⟩ := prB_bd hp
  have h0 : 0 < x % p := by
    have h1 := Int.emod_nonneg x (show p ≠ 0 by omega)
    rcases Int.lt_or_eq_of_le h1 with h2 | h2
    · exact h2
    · exact (hx (Int.dvd_of_emod_eq_zero h2.symm)).elim
  have hs := (invP_spec hp h0 (Int.emod_lt_of_pos x (by omega))).2.2.1
  obtain ⟨q, hq⟩ := h
  have e1 := Int.emod_add_mul_ediv x p
  have e2 := Int.emod_add_mul_ediv (x % p * invP p (x % p)) p
  rw [hs] at e2
  generalize x % p * invP p (x % p) / p = k2 at *
  generalize invP p (x % p) = i at *
  generalize x / p = k1 at *
  generalize x % p = r at *
  exact ⟨i * q - k1 * i * y - k2 * y, by grind⟩
theorem mul_nd {p x y : Int} (hp : prB p = true) (hx : ¬ p ∣ x) (hy : ¬ p ∣ y) : ¬ p ∣ x * y := fun h => hy (mul_dvd hp h hx)
def dotI (a b : Pt) : Int := a.1 * b.1 + a.2.1 * b.2.1 + a.2.2 * b.2.2
/-- Not 0 modulo p. -/
def nzV (p : Int) (v : Pt) : Prop := ¬ (p ∣ v.1 ∧ p ∣ v.2.1 ∧ p ∣ v.2.2)
theorem nz_dot {p : Int} {v : Pt} (w : Pt) (h : ¬ p ∣ dotI w v) : nzV p v := by
  rintro ⟨⟨a, h1⟩, ⟨b, h2⟩, ⟨c, h3⟩⟩
  refine h ⟨w.1 * a + w.2.1 * b + w.2.2 * c, ?_⟩
  unfold dotI
  rw [h1, h2, h3]
  grind
/-- v is k times w, modulo p. -/
def cg (p k : Int) (v w : Pt) : Prop := p ∣ v.1 - k * w.1 ∧ p ∣ v.2.1 - k * w.2.1 ∧ p ∣ v.2.2 - k * w.2.2
theorem cg_refl (p : Int) (v : Pt) : cg p 1 v v := ⟨⟨0, by grind⟩, ⟨0, by grind⟩, ⟨0, by grind⟩⟩
theorem dvd_pair {p k x y k' x' y' : Int} (h : p ∣ x - k * x') (h' : p ∣ y - k' * y') : p ∣ x * y - k * k' * (x' * y') := by
  obtain ⟨a, ha⟩ := h
  obtain ⟨b, hb⟩ := h'
  exact ⟨a * y + k * x' * b, by grind⟩
theorem dvd_sub2 {p a b K a' b' : Int} (h : p ∣ a - K * a') (h' : p ∣ b - K * b') : p ∣ (a - b) - K * (a' - b') := by
  obtain ⟨u, hu⟩ := h
  obtain ⟨v, hv⟩ := h'
  exact ⟨u - v, by grind⟩
theorem cg_crs {p k k' : Int} {x y x' y' : Pt} (h : cg p k x x') (h' : cg p k' y y') : cg p (k * k') (crs x y) (crs x' y') := by
  obtain ⟨h1, h2, h3⟩ := h
  obtain ⟨g1, g2, g3⟩ := h'
  refine ⟨dvd_sub2 (dvd_pair h2 g3) ?_, dvd_sub2 (dvd_pair h3 g1) ?_, dvd_sub2 (dvd_pair h1 g2) ?_⟩
  · exact dvd_pair h3 g2
  · exact dvd_pair h1 g3
  · exact dvd_pair h2 g1
theorem cg_trans {p k l : Int} {v w u : Pt} (h : cg p k v w) (h' : cg p l w u) : cg p (k * l) v u := by
  have one : ∀ {a b c : Int}, p ∣ a - k * b → p ∣ b - l * c → p ∣ a - k * l * c := by
    rintro a b c ⟨x, hx⟩ ⟨y, hy⟩
    exact ⟨x + k * y, by grind⟩
  exact ⟨one h.1 h'.1, one h.2.1 h'.2.1, one h.2.2 h'.2.2⟩
theorem cg_dot {p k : Int} {v w : Pt} (a : Pt) (h : cg p k v w) : p ∣ dotI a v - k * dotI a w := by
  obtain ⟨⟨x, hx⟩, ⟨y, hy⟩, ⟨z, hz⟩⟩ := h
  exact ⟨a.1 * x + a.2.1 * y + a.2.2 * z, by unfold dotI; grind⟩
/-- Made normal, a vector is a multiple of itself, and no multiple by 0 if it is not 0. -/
theorem cg_nrm {p : Int} (hp : prB p = true) (v : Pt) : cg p (facL p [v.1, v.2.1, v.2.2]) (nrm3 p v.1 v.2.1 v.2.2) v := by
  obtain ⟨q0, e0⟩ := mod_fac p (facL p [v.1, v.2.1, v.2.2]) v.1
  obtain ⟨q1, e1⟩ := mod_fac p (facL p [v.1, v.2.1, v.2.2]) v.2.1
  obtain ⟨q2, e2⟩ := mod_fac p (facL p [v.1, v.2.1, v.2.2]) v.2.2
  refine ⟨⟨-q0, ?_⟩, ⟨-q1, ?_⟩, ⟨-q2, ?_⟩⟩
  · show v.1 % p * _ % p - _ = _; rw [e0]; grind
  · show v.2.1 % p * _ % p - _ = _; rw [e1]; grind
  · show v.2.2 % p * _ % p - _ = _; rw [e2]; grind
theorem fac_nd {p : Int} (hp : prB p = true) {v : Pt} (h : nzV p v) : ¬ p ∣ facL p [v.1, v.2.1, v.2.2] := by
  have hb := prB_bd hp
  have h0 : facL p [v.1, v.2.1, v.2.2] ≠ 0 := by
    intro e
    rw [facL_zero hp] at e
    have hz := firstNZ_eq_zero.1 e
    simp [zerosB] at hz
    exact h ⟨Int.dvd_of_emod_eq_zero hz.1, Int.dvd_of_emod_eq_zero hz.2.1, Int.dvd_of_emod_eq_zero hz.2.2⟩
  have h1 := firstNZ_mod_bd p [v.1, v.2.1, v.2.2] (by omega)
  have h2 : facL p [v.1, v.2.1, v.2.2] < p ∧ 0 ≤ facL p [v.1, v.2.1, v.2.2] := by
    unfold facL at h0 ⊢
    by_cases hz : firstNZ ([v.1, v.2.1, v.2.2].map (· % p)) = 0
    · rw [hz, invP_zero p (by omega)] at h0; exact (h0 rfl).elim
    · have := invP_spec hp (by omega) h1.2; omega
  intro hd
  have := Int.le_of_dvd (by omega) hd
  omega
theorem cg_crsN {p : Int} (hp : prB p = true) {a b : Pt} (h : nzV p (crs a b)) : ∃ f, ¬ p ∣ f ∧ cg p f (crsN p a b) (crs a b) := ⟨_, fac_nd hp h, cg_nrm hp (crs a b)⟩
/-- Not on the line: not 0 with the raw product. -/
theorem off_nd {p : Int} (hp : prB p = true) {a b d : Pt} (h : onB p d (crsN p a b) = false) : ¬ p ∣ dotI d (crs a b) := by
  intro hd
  have h1 := cg_dot d (cg_nrm hp (crs a b))
  have h2 : p ∣ dotI d (crsN p a b) := by
    obtain ⟨x, hx⟩ := h1
    obtain ⟨y, hy⟩ := hd
    rw [hy] at hx
    exact ⟨x + facL p [(crs a b).1, (crs a b).2.1, (crs a b).2.2] * y, by unfold crsN; grind⟩
  have h3 : onB p d (crsN p a b) = true := by
    unfold onB
    rw [beq_iff_eq]
    exact Int.emod_eq_zero_of_dvd h2
  rw [h3] at h; cases h
/-- The line through a and c, of three collinear points, is that through a and b. -/
theorem off_other {p : Int} (hp : prB p = true) {a b c d : Pt} (h : ¬ p ∣ dotI d (crs a b)) (hc : p ∣ detZ a b c) (hz : nzV p (crs a c)) : ¬ p ∣ dotI d (crs a c) := by
  rintro ⟨q, hq⟩
  obtain ⟨k, hk⟩ := hc
  have e : ∀ x y : Int, True := fun _ _ => trivial
  -- (d · v) u − (d · u) v is 0, where u × v is
  refine hz ⟨mul_dvd hp ?_ h, mul_dvd hp ?_ h, mul_dvd hp ?_ h⟩
  · refine ⟨q * (crs a b).1 - k * (d.2.1 * a.2.2 - d.2.2 * a.2.1), ?_⟩
    have : dotI d (crs a b) * (crs a c).1 = dotI d (crs a c) * (crs a b).1 - detZ a b c * (d.2.1 * a.2.2 - d.2.2 * a.2.1) := by unfold dotI crs detZ; simp only; grind
    rw [this, hq, hk]; grind
  · refine ⟨q * (crs a b).2.1 - k * (d.2.2 * a.1 - d.1 * a.2.2), ?_⟩
    have : dotI d (crs a b) * (crs a c).2.1 = dotI d (crs a c) * (crs a b).2.1 - detZ a b c * (d.2.2 * a.1 - d.1 * a.2.2) := by unfold dotI crs detZ; simp only; grind
    rw [this, hq, hk]; grind
  · refine ⟨q * (crs a b).2.2 - k * (d.1 * a.2.1 - d.2.1 * a.1), ?_⟩
    have : dotI d (crs a b) * (crs a c).2.2 = dotI d (crs a c) * (crs a b).2.2 - detZ a b c * (d.1 * a.2.1 - d.2.1 * a.1) := by unfold dotI crs detZ; simp only; grind
    rw [this, hq, hk]; grind
def comb (s : Int) (e : Pt) (t : Int) (a : Pt) : Pt := (s * e.1 - t * a.1, s * e.2.1 - t * a.2.1, s * e.2.2 - t * a.2.2)
theorem crs_crs (a e w : Pt) : crs (crs a e) w = comb (dotI a w) e (dotI e w) a := by
  unfold comb crs dotI
  simp only [Prod.mk.injEq]
  refine ⟨?_, ?_, ?_⟩ <;> grind
theorem dot_crs_comb (a e f : Pt) (s t s' t' : Int) : dotI a (crs (comb s e t a) (comb s' f t' a)) = s * s' * dotI a (crs e f) := by
  unfold comb crs dotI
  simp only
  grind
theorem dot_comb (w e a : Pt) (s t : Int) (h : dotI w a = 0) : dotI w (comb s e t a) = s * dotI w e := by
  unfold comb dotI at *
  simp only
  grind
/-- The two meets are different: no two of them span nothing. -/
theorem meets_ne {p : Int} (hp : prB p = true) {a b c d e f : Pt} (h1 : ¬ p ∣ dotI a (crs b d)) (h2 : ¬ p ∣ dotI a (crs c d)) (h3 : ¬ p ∣ dotI a (crs e f)) :
    nzV p (crs (crsN p (crsN p a e) (crsN p b d)) (crsN p (crsN p a f) (crsN p c d))) := by
  have h3' : ¬ p ∣ dotI f (crs a e) := by rwa [show dotI f (crs a e) = dotI a (crs e f) by unfold dotI crs; simp only; grind]
  have h3'' : ¬ p ∣ dotI e (crs a f) := by
    rintro ⟨q, hq⟩
    exact h3 ⟨-q, by rw [show dotI a (crs e f) = - dotI e (crs a f) by unfold dotI crs; simp only; grind, hq]; grind⟩
  obtain ⟨α1, n1, c1⟩ := cg_crsN hp (nz_dot f h3')
  obtain ⟨β1, n2, c2⟩ := cg_crsN hp (nz_dot a h1)
  obtain ⟨α2, n3, c3⟩ := cg_crsN hp (nz_dot e h3'')
  obtain ⟨β2, n4, c4⟩ := cg_crsN hp (nz_dot a h2)
  have r1 := cg_crs c1 c2
  have r2 := cg_crs c3 c4
  rw [crs_crs] at r1 r2
  generalize dotI e (crs b d) = t1 at *
  generalize dotI f (crs c d) = t2 at *
  generalize dotI a (crs b d) = s1 at *
  generalize dotI a (crs c d) = s2 at *
  have nz1 : nzV p (crs (crsN p a e) (crsN p b d)) := by
    refine nz_dot (crs f a) (fun hd => ?_)
    have hc := cg_dot (crs f a) r1
    rw [dot_comb _ _ _ _ _ (by unfold dotI crs; simp only; grind)] at hc
    have hx : ¬ p ∣ α1 * β1 * (s1 * dotI (crs f a) e) := mul_nd hp (mul_nd hp n1 n2) (mul_nd hp h1 (by rwa [show dotI (crs f a) e = dotI a (crs e f) by unfold dotI crs; simp only; grind]))
    exact hx ((Int.dvd_iff_dvd_of_dvd_sub hc).1 hd)
  have nz2 : nzV p (crs (crsN p a f) (crsN p c d)) := by
    refine nz_dot (crs e a) (fun hd => ?_)
    have hc := cg_dot (crs e a) r2
    rw [dot_comb _ _ _ _ _ (by unfold dotI crs; simp only; grind)] at hc
    have hx : ¬ p ∣ α2 * β2 * (s2 * dotI (crs e a) f) := mul_nd hp (mul_nd hp n3 n4) (mul_nd hp h2 (by
      rintro ⟨q, hq⟩
      exact h3 ⟨-q, by rw [show dotI a (crs e f) = - dotI (crs e a) f by unfold dotI crs; simp only; grind, hq]; grind⟩))
    exact hx ((Int.dvd_iff_dvd_of_dvd_sub hc).1 hd)
  obtain ⟨φ1, m1, g1⟩ := cg_crsN hp nz1
  obtain ⟨φ2, m2, g2⟩ := cg_crsN hp nz2
  have R := cg_dot a (cg_crs (cg_trans g1 r1) (cg_trans g2 r2))
  rw [dot_crs_comb] at R
  refine nz_dot a (fun hd => ?_)
  exact mul_nd hp (mul_nd hp (mul_nd hp m1 (mul_nd hp n1 n2)) (mul_nd hp m2 (mul_nd hp n3 n4))) (mul_nd hp (mul_nd hp h1 h2) h3) ((Int.dvd_iff_dvd_of_dvd_sub R).1 hd)
end Go.Proofs.Ythkbhaaodegocaa
/- The first desk: both makings. -/
namespace Go.Proofs.Ythkbhaaodegocaa
open Go.RowKit
set_option linter.unusedVariables false
set_option linter.unusedSimpArgs false
theorem run_loadRow {P : Program} {W : World} {g : Nat} {T : TypeId} {cs : Array Value} {fr : Nat × Nat} (ty : TypeId)
    (hg : W.heap[g]? = some (.cells cs T fr)) (n : Nat) (hn : cs.size = n) (hs : ∀ W, (sizeOf ty).run P W = .ok n W) (ha : ∀ W, (isAgg ty).run P W = .ok true W) : (loadVar ty ⟨g, 0, none⟩).run P W = .ok (.agg cs) W := by
  subst hn
  have hl : (loadCells ⟨g, 0, none⟩ cs.toList.length).run P W = .ok cs.toList.toArray W :=
    run_loadCells_list (P := P) W ⟨g, 0, none⟩ cs.toList (fun j v hv => by
      have hadd : (⟨g, 0, none⟩ : Addr).add j = ⟨g, j, none⟩ := by unfold Addr.add; split <;> simp_all
      rw [hadd, cell_of_row W g j cs T fr hg]
      simpa using hv)
  simp only [Array.length_toList, Array.toArray_toList] at hl
  unfold loadVar
  rw [Sem.run_bind, ha]
  simp only [Result.andThen_ok, if_true]
  rw [Sem.run_bind, hs]
  simp only [Result.andThen_ok]
  rw [Sem.run_bind, hl]
  rfl
theorem results_row {P : Program} {fn : Func} {tmps : Array Value} {t : Tmp} {W : World} {g : Nat} {T : TypeId} {cs : Array Value} {fr : Nat × Nat} {ty : TypeId} (h : fn.results = #[.cell t ty]) (ht : tmps.getD t undef = .pointer (some ⟨g, 0, none⟩))
    (hg : W.heap[g]? = some (.cells cs T fr)) (n : Nat) (hn : cs.size = n) (hs : ∀ W, (sizeOf ty).run P W = .ok n W) (ha : ∀ W, (isAgg ty).run P W = .ok true W) : (results fn tmps).run P W = .ok (.agg cs) W := by
  have hv := run_loadRow (P := P) ty hg n hn hs ha
  have ht' : tmps[t]?.getD undef = .pointer (some ⟨g, 0, none⟩) := by rw [← Array.getD_eq_getD_getElem?]; exact ht
  have hp : ∀ a : Addr, asAddr (.pointer (some a)) = pure a := fun _ => rfl
  simp [results, h, ht', hp, Sem.run_bind, Sem.run_pure, hv]
theorem wpList_store_row {P : Program} (w : World) {ops : Array Oper} {rest : List Oper} {o : Oper} {a : Act} {Q : Exit → Act → World → Prop}
    (hgd : o.guard = none) (ty : TypeId) (x y : Operand) (hop : o.op = .store ty x y) (hd : o.dst = none) {g : Nat} {T : TypeId} {cs U : Array Value} (hx : a.eval x = .pointer (some ⟨g, 0, none⟩)) (hy : a.eval y = .agg U)
    (hg : w.heap[g]? = some (.cells cs T (0, 0))) (hn : cs.size = U.size) (hs : ∀ W, (sizeOf ty).run P W = .ok U.size W) (h1 : ∀ v ∈ U.toList, v.oneCell' = true) (hK : wpList P ops Q rest a (w.setRow g U)) : wpList P ops Q (o :: rest) a w := by
  refine wpList_plain hgd fun K hK' => ?_
  unfold Oper.wp
  rw [run_store_row ty x y hop hx hy hg hn hs h1]
  simp only [Oper.upon, hd]
  exact hK' _ _ hK
theorem wpList_build {P : Program} (w : World) {ops : Array Oper} {rest : List Oper} {o : Oper} {a : Act} {Q : Exit → Act → World → Prop}
    (hgd : o.guard = none) (t : TypeId) (parts : Array (Nat × Operand)) (hop : o.op = .build t parts) (U : Array Value) (hb : P.built t (parts.map fun (i, x) => (i, a.eval x)).toList = some U)
    (hK : wpList P ops Q rest (a.put o.dst (.agg U)) w) : wpList P ops Q (o :: rest) a w := by
  refine wpList_plain hgd fun K hK' => wp_build t parts hop (by rw [hb]; rfl) ?_
  rw [hb]
  exact hK' _ _ hK
theorem hn_atN (w : World) (o : Obj) (n : Nat) (h : n = w.heap.size) : (w.alloc o).heap[n]? = some o := by subst h; exact heap_alloc_new w o
theorem hn_pastN (w : World) (o : Obj) (n : Nat) (h : n < w.heap.size) : (w.alloc o).heap[n]? = w.heap[n]? := by
  rw [heap_alloc_old]; exact h
theorem below_setRowN {B g : Nat} {w W : World} (h : Below B w W) (hg : B ≤ g) (cs : Array Value) : Below B w (W.setRow g cs) :=
  ⟨h.os, h.tape, h.output, by simpa [World.setRow] using h.size, fun k hk => (setRow_other W g k cs (by omega)).trans (h.block k hk)⟩
def deskC : Array Value := #[.int .i64 5, .int .i64 0, .int .i64 0, .int .i64 1, .int .i64 1, .int .i64 0, .int .i64 0, .int .i64 0, .int .i64 1, .int .i64 0, .int .i64 0, .int .i64 0, .int .i64 1, .int .i64 1, .int .i64 0, .int .i64 0, .int .i64 1, .int .i64 0, .int .i64 0, .int .i64 0, .int .i64 0, .int .i64 4]
theorem l11Fresh_5 (w : World) : Calls Try.prog 59 #[.int .i64 5] w (Ret w (.agg deskC)) := by
  go_enter Try.func59, Try.ntmps59
  go_wp2_with (first
    | (refine wpList_build _ rfl 30 _ rfl deskC (by kernel_rfl) ?_)
    | (refine wpList_store_row _ rfl 30 _ _ rfl rfl rfl rfl (heap_alloc_new _ _) rfl Try.sizeOf30 (by simp [deskC, Value.oneCell']) ?_))
  exact bodyPost_ret (v := .agg deskC) (results_row Try.results59 rfl (setRow_heap _ _ _ _ _ _ (heap_alloc_new _ _)) 22 rfl Try.sizeOf30 Try.isAgg30) rfl ⟨rfl, below_setRowN (bal (Below.refl _ _) _) (Nat.le_refl _) _⟩
def conC : Array Value := #[.int .i64 1, .int .i64 0, .int .i64 0, .int .i64 0, .int .i64 0, .int .i64 4]
theorem freshConic_5 (w : World) : Calls Try.prog 124 #[.int .i64 5] w (Ret w (.agg conC)) := by
  go_enter Try.func124, Try.ntmps124
  go_wp2_with (first
    | (refine wpList_build _ rfl 28 _ rfl conC (by kernel_rfl) ?_)
    | (refine wpList_store_row _ rfl 28 _ _ rfl rfl rfl rfl (heap_alloc_new _ _) rfl Try.sizeOf28 (by simp [conC, Value.oneCell']) ?_))
  exact bodyPost_ret (v := .agg conC) (results_row Try.results124 rfl (setRow_heap _ _ _ _ _ _ (heap_alloc_new _ _)) 6 rfl Try.sizeOf28 Try.isAgg28) rfl ⟨rfl, below_setRowN (bal (Below.refl _ _) _) (Nat.le_refl _) _⟩
theorem freshDesk_5 (w : World) : Calls Try.prog 60 #[.int .i64 5] w (Ret w (.agg deskC)) := by
  go_enter Try.func60, Try.ntmps60
  go_wp2_with (first
    | (refine wpList_build _ rfl 30 _ rfl deskC (by kernel_rfl) ?_)
    | (go_at_call 93; (with_reducible refine (far_any _).mono ?_); rintro e w1_ ⟨rfl, hb1⟩; obtain ⟨hcb1, hfb1, hlb1⟩ := bcell hb1; have hsz1 := hb1.size; (try simp at hsz1); have HB1 := Lib.hid hb1; clear hb1; (try (have hl01 : w.heap.size < w1_.heap.size := by omega)))
    | (go_at_call 124; (with_reducible refine (freshConic_5 _).mono ?_); rintro e w2_ ⟨rfl, hb2⟩; obtain ⟨hcb2, hfb2, hlb2⟩ := bcell hb2; have hsz2 := hb2.size; (try simp at hsz2); have HB2 := Lib.hid hb2; clear hb2; (try (have hl02 : w.heap.size < w2_.heap.size := by omega)))
    | (refine wpList_store_row _ rfl 30 _ _ rfl rfl (g := w.heap.size) (T := 30) (cs := #[.int .i64 0, .int .i64 0, .int .i64 0, .int .i64 0, .int .i64 0, .int .i64 0, .int .i64 0, .int .i64 0, .int .i64 0, .int .i64 0, .int .i64 0, .int .i64 0, .int .i64 0, .int .i64 0, .int .i64 0, .int .i64 0, .int .i64 0, .int .i64 0, .int .i64 0, .int .i64 0, .int .i64 0, .int .i64 0]) (U := deskC) rfl rfl (by rw [HB2.out.block _ (by omega), HB1.out.block _ (by simp), hn_atN _ _ _ (by simp)]) rfl Try.sizeOf30 (by simp [deskC, Value.oneCell']) ?_))
  have hr : w2_.heap[w.heap.size]? = some (.cells #[.int .i64 0, .int .i64 0, .int .i64 0, .int .i64 0, .int .i64 0, .int .i64 0, .int .i64 0, .int .i64 0, .int .i64 0, .int .i64 0, .int .i64 0, .int .i64 0, .int .i64 0, .int .i64 0, .int .i64 0, .int .i64 0, .int .i64 0, .int .i64 0, .int .i64 0, .int .i64 0, .int .i64 0, .int .i64 0] 30 (0, 0)) := by rw [HB2.out.block _ (by omega), HB1.out.block _ (by simp), hn_atN _ _ _ (by simp)]
  exact bodyPost_ret (v := .agg deskC) (results_row Try.results60 rfl (setRow_heap _ _ _ _ _ _ hr) 22 rfl Try.sizeOf30 Try.isAgg30) rfl ⟨rfl, below_setRowN (by repeat (first | exact Below.refl _ _ | refine bset ?_ _ _ (by omega) _ | refine bal ?_ _ | refine bdrN ?_ _ | refine bdr ?_ | refine below_tr' ?_ HB2.out | refine below_tr' ?_ HB1.out)) (Nat.le_refl _) _⟩
theorem NewDesk_spec (w : World) : Calls Try.prog 15 #[] w (Ret w (.agg deskC)) := by
  go_enter Try.func15, Try.ntmps15
  go_wp2_with (first
    | (go_at_call 59; (with_reducible refine (l11Fresh_5 _).mono ?_); rintro e w1_ ⟨rfl, hb1⟩; obtain ⟨hcb1, hfb1, hlb1⟩ := bcell hb1; have hsz1 := hb1.size; (try simp at hsz1); have HB1 := Lib.hid hb1; clear hb1; (try (have hl01 : w.heap.size < w1_.heap.size := by omega)))
    | (refine wpList_store_row _ rfl 30 _ _ rfl rfl (g := w.heap.size) (T := 30) (cs := #[.int .i64 0, .int .i64 0, .int .i64 0, .int .i64 0, .int .i64 0, .int .i64 0, .int .i64 0, .int .i64 0, .int .i64 0, .int .i64 0, .int .i64 0, .int .i64 0, .int .i64 0, .int .i64 0, .int .i64 0, .int .i64 0, .int .i64 0, .int .i64 0, .int .i64 0, .int .i64 0, .int .i64 0, .int .i64 0]) (U := deskC) rfl rfl (by rw [HB1.out.block _ (by simp), hn_atN _ _ _ (by simp)]) rfl Try.sizeOf30 (by simp [deskC, Value.oneCell']) ?_))
  have hr : w1_.heap[w.heap.size]? = some (.cells #[.int .i64 0, .int .i64 0, .int .i64 0, .int .i64 0, .int .i64 0, .int .i64 0, .int .i64 0, .int .i64 0, .int .i64 0, .int .i64 0, .int .i64 0, .int .i64 0, .int .i64 0, .int .i64 0, .int .i64 0, .int .i64 0, .int .i64 0, .int .i64 0, .int .i64 0, .int .i64 0, .int .i64 0, .int .i64 0] 30 (0, 0)) := by rw [HB1.out.block _ (by simp), hn_atN _ _ _ (by simp)]
  exact bodyPost_ret (v := .agg deskC) (results_row Try.results15 rfl (setRow_heap _ _ _ _ _ _ hr) 22 rfl Try.sizeOf30 Try.isAgg30) rfl ⟨rfl, below_setRowN (by repeat (first | exact Below.refl _ _ | refine bset ?_ _ _ (by omega) _ | refine bal ?_ _ | refine bdrN ?_ _ | refine bdr ?_ | refine below_tr' ?_ HB1.out)) (Nat.le_refl _) _⟩
theorem NewDesk_impl (w : World) : Calls Try.prog 16 #[] w (Ret w (.agg deskC)) := by
  go_enter Try.func16, Try.ntmps16
  go_wp2_with (first
    | (go_at_call 60; (with_reducible refine (freshDesk_5 _).mono ?_); rintro e w1_ ⟨rfl, hb1⟩; obtain ⟨hcb1, hfb1, hlb1⟩ := bcell hb1; have hsz1 := hb1.size; (try simp at hsz1); have HB1 := Lib.hid hb1; clear hb1; (try (have hl01 : w.heap.size < w1_.heap.size := by omega)))
    | (refine wpList_store_row _ rfl 30 _ _ rfl rfl (g := w.heap.size) (T := 30) (cs := #[.int .i64 0, .int .i64 0, .int .i64 0, .int .i64 0, .int .i64 0, .int .i64 0, .int .i64 0, .int .i64 0, .int .i64 0, .int .i64 0, .int .i64 0, .int .i64 0, .int .i64 0, .int .i64 0, .int .i64 0, .int .i64 0, .int .i64 0, .int .i64 0, .int .i64 0, .int .i64 0, .int .i64 0, .int .i64 0]) (U := deskC) rfl rfl (by rw [HB1.out.block _ (by simp), hn_atN _ _ _ (by simp)]) rfl Try.sizeOf30 (by simp [deskC, Value.oneCell']) ?_))
  have hr : w1_.heap[w.heap.size]? = some (.cells #[.int .i64 0, .int .i64 0, .int .i64 0, .int .i64 0, .int .i64 0, .int .i64 0, .int .i64 0, .int .i64 0, .int .i64 0, .int .i64 0, .int .i64 0, .int .i64 0, .int .i64 0, .int .i64 0, .int .i64 0, .int .i64 0, .int .i64 0, .int .i64 0, .int .i64 0, .int .i64 0, .int .i64 0, .int .i64 0] 30 (0, 0)) := by rw [HB1.out.block _ (by simp), hn_atN _ _ _ (by simp)]
  exact bodyPost_ret (v := .agg deskC) (results_row Try.results16 rfl (setRow_heap _ _ _ _ _ _ hr) 22 rfl Try.sizeOf30 Try.isAgg30) rfl ⟨rfl, below_setRowN (by repeat (first | exact Below.refl _ _ | refine bset ?_ _ _ (by omega) _ | refine bal ?_ _ | refine bdrN ?_ _ | refine bdr ?_ | refine below_tr' ?_ HB1.out)) (Nat.le_refl _) _⟩
end Go.Proofs.Ythkbhaaodegocaa
