/- Contracts: whether a set is a difference set: the program. -/
import Derived.Test.YthkbhaaodegocaaH5
namespace Go.Proofs.Ythkbhaaodegocaa
open Go.RowKit
set_option linter.unusedVariables false
set_option linter.unusedSimpArgs false
theorem infoJ : (Try.prog.info? 3).map (fun i => (i.zero, i.size, i.bytes)) = some (some (.int .i64 0), 1, 8) := by kernel_rfl
/-- The place of the first number but 1. -/
structure OnesPost (C : List Int) (w : World) (e : Ending) (w' : World) : Prop where
  out : (∃ v : Int, e = .returned (.int .i64 v) ∧ ((v = -1 ∧ onesB C = true) ∨ (0 ≤ v ∧ onesB C = false))) ∧ w = w'
set_option maxHeartbeats 1000000 in
theorem indexFunc_ones (G m : Nat) (C : List Int) (w : World) (hn : 1 ≤ m ∧ m ≤ 1000) (hC : C.length = m + 1) (hp : IntsAt w G 0 (m + 1) C) :
    Calls Try.prog 127 #[.slice (some ⟨G, 1, none⟩) m m, .func (.func 67) #[] #[]] w (OnesPost C w) := by
  obtain ⟨n1, n1000⟩ := hn
  have HP := Lib.hid hp
  have HL := Lib.hid hC
  clear hp hC
  go_enter Try.func127, Try.ntmps127
  go_wp2
  go_loop [8] (fun i => ∃ d : Nat, d ≤ m ∧ i = .int .i64 d ∧ Hid (∀ q, q < d → (C.getD (q + 1) 0 == 1) = true)) (fun i => m - (intOf i).toNat)
  case atStart => exact ⟨0, Nat.zero_le _, rfl, Lib.hid (fun q hq => absurd hq (Nat.not_lt_zero _))⟩
  case round =>
    obtain ⟨d, hd, rfl, HD⟩ := hrel
    by_cases hlt : d < m
    · have cd := HP.out (d + 1) (by omega)
      rw [show 0 + (d + 1) = 1 + d by omega] at cd
      have HNo := Lib.hid (fun h : (C.getD (d + 1) 0 == 1) = false => onesB_bad (c := C) (d := d) (by have := HL.out; omega) h)
      have HYes : Hid ((C.getD (d + 1) 0 == 1) = true → ∀ q, q < d + 1 → (C.getD (q + 1) 0 == 1) = true) := Lib.hid (fun h q hq => by
        rcases Nat.lt_or_ge q d with h2 | h2
        · exact HD.out q h2
        · rw [show q = d by omega]; exact h)
      generalize C.getD (d + 1) 0 = v at *
      cases hv : (v == 1) with
      | true =>
        have HY2 := Lib.hid (HYes.out hv)
        have hv1 : (v != 1) = false := by simpa using hv
        clear HNo HYes
        go_wp2_with (go_at_call 67; go_in)
        go_round
        case rel => exact ⟨d + 1, by omega, by go_num, HY2⟩
        case measure => simp [intOf]; omega
      | false =>
        have HY2 := Lib.hid (HNo.out hv)
        have hv1 : (v != 1) = true := by simpa using hv
        clear HNo HYes
        go_wp2_with (go_at_call 67; go_in)
        go_ret
        exact ⟨⟨_, rfl, .inr ⟨by omega, HY2.out⟩⟩, rfl⟩
    · have HY2 := Lib.hid (onesB_all (c := C) (fun q hq => HD.out q (by have := HL.out; omega)))
      go_wp2
      go_ret
      exact ⟨⟨_, rfl, .inl ⟨rfl, HY2.out⟩⟩, rfl⟩
theorem containsFunc_ones (G m : Nat) (C : List Int) (w : World) (hn : 1 ≤ m ∧ m ≤ 1000) (hC : C.length = m + 1) (hp : IntsAt w G 0 (m + 1) C) :
    Calls Try.prog 66 #[.slice (some ⟨G, 1, none⟩) m m, .func (.func 67) #[] #[]] w (fun e w' => e = .returned (.bool (!onesB C)) ∧ w = w') := by
  have HI := Lib.hid (indexFunc_ones G m C w hn hC hp)
  clear hn hC hp
  generalize hO : onesB C = o
  have HO := Lib.hid hO
  clear hO
  cases o with
  | true =>
    have HI2 : Hid (Calls Try.prog 127 #[.slice (some ⟨G, 1, none⟩) m m, .func (.func 67) #[] #[]] w (fun e w' => e = .returned (.int .i64 (-1)) ∧ w = w')) :=
      Lib.hid (HI.out.mono fun e w' ⟨h⟩ => by
        obtain ⟨⟨v, he, h2⟩, hw⟩ := h
        rcases h2 with ⟨rfl, _⟩ | ⟨_, h2⟩
        · exact ⟨he, hw⟩
        · rw [HO.out] at h2; cases h2)
    clear HI
    go_enter Try.func66, Try.ntmps66
    go_wp2_with (go_at_call 127; (with_reducible refine (HI2.out).mono ?_); rintro e w' ⟨rfl, rfl⟩)
    go_ret
    exact ⟨rfl, rfl⟩
  | false =>
    have HI2 : Hid (Calls Try.prog 127 #[.slice (some ⟨G, 1, none⟩) m m, .func (.func 67) #[] #[]] w (fun e w' => ∃ v : Int, 0 ≤ v ∧ e = .returned (.int .i64 v) ∧ w = w')) :=
      Lib.hid (HI.out.mono fun e w' ⟨h⟩ => by
        obtain ⟨⟨v, he, h2⟩, hw⟩ := h
        rcases h2 with ⟨_, h2⟩ | ⟨h0, _⟩
        · rw [HO.out] at h2; cases h2
        · exact ⟨v, h0, he, hw⟩)
    clear HI
    go_enter Try.func66, Try.ntmps66
    go_wp2_with (go_at_call 127; (with_reducible refine (HI2.out).mono ?_); rintro e w' ⟨v, h0, rfl, rfl⟩)
    go_ret
    exact ⟨ret_bool (by simp <;> omega), rfl⟩
set_option maxHeartbeats 4000000 in
theorem IsDifferenceSet_impl_yes (n : Nat) (b : Option Addr) (k cap : Nat) (l : List Int) (w : World) (hl : l.length = k) (hk : k ≤ 1000000) (hc : ArgI w b k l) (hs : setB n l = true) :
    Calls Try.prog 20 #[.int .i64 (n : Int), .slice b k cap] w (Ret w (.tuple #[.bool (onesB (cntC n l k)), .int .i64 0])) := by
  obtain ⟨⟨n2, n1000⟩, h60, hok⟩ := setB_yes hs
  obtain ⟨i0, hi, hz0, hz1, hz2⟩ := info_parts infoJ
  have HS := Lib.hid (fun (W : World) (hW : Below w.heap.size w W) => isNumberSet_any n b k cap l W hl hk (hc.below hW))
  rw [hs] at HS
  have HL := Lib.hid hl
  have HC := Lib.hid hc
  have HOk := Lib.hid (fun i (h : i < k) => okB_at hok (i := i) (by omega))
  have HBd := Lib.hid (cntC_bd (n := n) (l := l) h60)
  have HI0 := Lib.hid hi; have HZ0 := Lib.hid hz0; have HZ1 := Lib.hid hz1; have HZ2 := Lib.hid hz2
  have hk60 : k ≤ 60 := by omega
  obtain ⟨m, rfl⟩ : ∃ m, n = m + 1 := ⟨n - 1, by omega⟩
  have nn2 : 1 ≤ m := by omega
  have nn3 : m + 1 ≤ 1000 := by omega
  clear hi hz0 hz1 hz2 hl hc hs hok n2 n1000 h60
  generalize hn : m + 1 = n at *
  go_enter Try.func20, Try.ntmps20
  go_wp2_with (first
    | (go_at_call 64; (with_reducible refine (HS.out _ (Below.refl _ _)).mono ?_); rintro e w1_ ⟨rfl, hb1⟩; have hsz1 := hb1.size; have HB1 := Lib.hid hb1; clear hb1)
    | (refine wpList_make_ints _ rfl _ _ 88 rfl 3 i0 Try.underlying88 HI0.out HZ0.out HZ1.out .i64 .i64 n _ (by omega) rfl rfl (by rw [HZ2.out]; omega) (by omega) ?_; intro w2 hb2 hr2 hp2 hl2; have HB2 := Lib.hid hb2; have HR2 := Lib.hid hr2; have HP2 := Lib.hid hp2; clear hb2 hr2 hp2))
  have HBw : Hid (Below w.heap.size w w2) := Lib.hid (low_tr' HB1.out HB2.out hsz1)
  have hgw : w.heap.size ≤ w1_.heap.size := hsz1
  generalize hG : w1_.heap.size = G at *
  clear HB1 HB2 hG HS
  go_loopw [19] (fun i wr => ∃ i' : Nat, i' ≤ k ∧ i = .int .i64 i' ∧ Hid (RoomI wr G n 3) ∧ Hid (IntsAt wr G 0 n (cntC n l i')) ∧ Hid (Below w.heap.size w wr)) (fun i wr => k - (intOf i).toNat)
  case atStart => exact ⟨0, Nat.zero_le _, rfl, HR2, Lib.hid (by have := HP2.out; simpa [cntC] using this), HBw⟩
  case round =>
    obtain ⟨i, hik, rfl, HR, HP, HB⟩ := hrel
    by_cases hlt : i < k
    · obtain ⟨g, off, rfl, hgl, hpt⟩ := HC.out.cells (by omega)
      have ci : wr.cell? ⟨g, off + i, none⟩ = some (.int .i64 (l.getD i 0)) := (HB.out.cell hgl).trans (hpt i hlt)
      have HPt := Lib.hid hpt
      clear hpt
      generalize hxi : l.getD i 0 = x at ci
      have HXi := Lib.hid hxi
      clear hxi
      go_wp2
      go_loopw [25] (fun jv wr => ∃ j : Nat, j ≤ k ∧ jv = .int .i64 j ∧ Hid (RoomI wr G n 3) ∧ Hid (IntsAt wr G 0 n (rowC n l i (cntC n l i) j)) ∧ Hid (Below w.heap.size w wr)) (fun jv wr => k - (intOf jv).toNat)
      case atStart => exact ⟨0, Nat.zero_le _, rfl, HR, HP, HB⟩
      case round =>
        clear HR HP HB ci
        obtain ⟨j, hjk, rfl, HR, HP, HB⟩ := hrel
        by_cases hlj : j < k
        · have cj : wr.cell? ⟨g, off + j, none⟩ = some (.int .i64 (l.getD j 0)) := (HB.out.cell hgl).trans (HPt.out j hlj)
          obtain ⟨d1, d2⟩ := dif_bd (n := (n : Int)) (by omega) l i j
          have hoi := HOk.out i hlt
          have hoj := HOk.out j hlj
          have HN := Lib.hid (rowC_succ n l i (cntC n l i) j)
          have hbd := rowC_bd (n := (n : Int)) (l := l) (i := i) (HBd.out i) j (dif n l i j)
          have hlen : (rowC n l i (cntC n l i) j).length = n := by rw [rowC_length, cntC_length]; simp
          unfold bump at HN
          rw [Int.toNat_natCast] at d2
          rw [HXi.out] at d1 hoi
          generalize l.getD j 0 = y at *
          generalize rowC n l i (cntC n l i) j = C at *
          have cd := HP.out _ d2
          rw [Nat.zero_add] at cd
          generalize C.getD (dif n l i j) 0 = v at *
          generalize dif n l i j = d at *
          obtain ⟨x0, x1⟩ := hoi
          obtain ⟨y0, y1⟩ := hoj
          obtain ⟨v0, v1⟩ := hbd
          have HM := Lib.hid (fun (W : World) => mod_any (x - y) n W (by omega) (by omega) (by omega) (by omega))
          rw [← d1] at HM
          clear d1
          have hwl := HR.out.lt
          have f2 := HR.out.frozen d
          go_wp2_with (go_at_call 65; (with_reducible refine (HM.out _).mono ?_); rintro e w' ⟨rfl, rfl⟩)
          go_roundw
          case rel => exact ⟨j + 1, by omega, by go_num, Lib.hid (HR.out.set _ _), Lib.hid (by rw [HN.out]; exact ints_set HR.out (Nat.le_refl _) HP.out hlen d d2 (v + 1)), Lib.hid (HB.out.setCell hgw _)⟩
          case measure => simp [intOf]; omega
        · have hjk2 : j = k := by omega
          subst hjk2
          have HN := Lib.hid (cntC_succ n l i)
          go_wp2
          go_roundw
          case rel => exact ⟨i + 1, by omega, by go_num, HR, Lib.hid (by rw [HN.out, HL.out]; exact HP.out), HB⟩
          case measure => simp [intOf]; omega
    · have hik2 : i = k := by omega
      subst hik2
      have hlen : (cntC n l i).length = n := by rw [cntC_length]; simp
      generalize cntC n l i = C at *
      have HF := Lib.hid (containsFunc_ones G m C wr (by omega) (by omega) (by rw [hn]; exact HP.out))
      generalize onesB C = o at *
      have hm1 : n - 1 = m := by omega
      have hn1 : 1 ≤ n := by omega
      go_wp2_with (go_at_call 66; (with_reducible refine (HF.out).mono ?_); rintro e w' ⟨rfl, rfl⟩)
      exact bodyPost_ret (v := .tuple #[.bool o, .int .i64 0]) (by simp [results, Try.results20, go_sem]) rfl ⟨rfl, HB.out⟩
theorem IsDifferenceSet_impl (n : Int) (b : Option Addr) (k cap : Nat) (l : List Int) (w : World) (hl : l.length = k) (hk : k ≤ 1000000) (hc : ArgI w b k l) :
    Calls Try.prog 20 #[.int .i64 n, .slice b k cap] w (Ret w (.tuple #[.bool (diffR n l).1, .int .i64 (diffR n l).2])) := by
  cases hs : setB n l with
  | true =>
    obtain ⟨⟨n2, n1000⟩, _⟩ := setB_yes hs
    obtain ⟨m, rfl⟩ : ∃ m : Nat, n = m := ⟨n.toNat, by omega⟩
    rw [diffR_yes hs, hl]
    exact IsDifferenceSet_impl_yes m b k cap l w hl hk hc hs
  | false =>
    rw [diffR_no hs]
    have HS := Lib.hid (fun (W : World) (hW : Below w.heap.size w W) => isNumberSet_any n b k cap l W hl hk (hc.below hW))
    rw [hs] at HS
    clear hs hc hl
    go_enter Try.func20, Try.ntmps20
    go_wp2_with (go_at_call 64; (with_reducible refine (HS.out _ (Below.refl _ _)).mono ?_); rintro e w1_ ⟨rfl, hb1⟩; have hsz1 := hb1.size; have HB1 := Lib.hid hb1; clear hb1)
    exact bodyPost_ret (v := .tuple #[.bool false, .int .i64 2]) (by simp [results, Try.results20, go_sem]) rfl ⟨rfl, HB1.out⟩
end Go.Proofs.Ythkbhaaodegocaa
