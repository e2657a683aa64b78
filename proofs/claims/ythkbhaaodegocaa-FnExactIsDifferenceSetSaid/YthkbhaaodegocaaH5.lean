/- Contracts: whether a set is a difference set: the reference. -/
import Derived.Test.YthkbhaaodegocaaH4
import Derived.Test.YthkbhaaodegocaaRegU
namespace Go.Proofs.Ythkbhaaodegocaa
open Go.RowKit
set_option linter.unusedVariables false
set_option linter.unusedSimpArgs false
theorem diffR_no {n : Int} {l : List Int} (h : setB n l = false) : diffR n l = (false, 2) := by unfold diffR; rw [h]; rfl
theorem diffR_yes {n : Int} {l : List Int} (h : setB n l = true) : diffR n l = (onesB (cntC n l l.length), 0) := by unfold diffR; rw [h]; rfl
theorem dif_bd {n : Int} (h : 2 ≤ n) (l : List Int) (i k : Nat) : (dif n l i k : Int) = (l.getD i 0 - l.getD k 0) % n ∧ dif n l i k < n.toNat := by
  have h0 := Int.emod_nonneg (l.getD i 0 - l.getD k 0) (show n ≠ 0 by omega)
  have h1 := Int.emod_lt_of_pos (l.getD i 0 - l.getD k 0) (show 0 < n by omega)
  unfold dif
  omega
theorem ArgI.cells {w : World} {b : Option Addr} {n : Nat} {l : List Int} (h : ArgI w b n l) (hn : 0 < n) : ∃ g off, b = some ⟨g, off, none⟩ ∧ g < w.heap.size ∧ IntsAt w g off n l := by
  obtain ⟨g, off, e, hp⟩ := h hn
  exact ⟨g, off, e, World.block_lt_of_cell? w _ (hp 0 hn), hp⟩
set_option maxHeartbeats 4000000 in
theorem IsDifferenceSet_spec_yes (n : Nat) (b : Option Addr) (k cap : Nat) (l : List Int) (w : World) (hl : l.length = k) (hk : k ≤ 1000000) (hc : ArgI w b k l) (hs : setB n l = true) :
    Calls Try.prog 18 #[.int .i64 (n : Int), .slice b k cap] w (Ret w (.tuple #[.bool (onesB (cntC n l k)), .int .i64 0])) := by
  obtain ⟨⟨n2, n1000⟩, h60, hok⟩ := setB_yes hs
  obtain ⟨i0, hi, hz0, hz1, hz2⟩ := info_parts infoI
  have HS := Lib.hid (fun (W : World) (hW : Below w.heap.size w W) => l10Set_any n b k cap l W hl hk (hc.below hW))
  have hcode : codeS n l = 0 := by unfold codeS; rw [hs]; rfl
  rw [hcode] at HS
  have HL := Lib.hid hl
  have HC := Lib.hid hc
  have HOk := Lib.hid (fun i (h : i < k) => okB_at hok (i := i) (by omega))
  have HBd := Lib.hid (cntC_bd (n := n) (l := l) h60)
  have HI0 := Lib.hid hi; have HZ0 := Lib.hid hz0; have HZ1 := Lib.hid hz1; have HZ2 := Lib.hid hz2
  have hk60 : k ≤ 60 := by omega
  have nn2 : 2 ≤ n := by omega
  have nn3 : n ≤ 1000 := by omega
  clear hi hz0 hz1 hz2 hl hc hs hok hcode n2 n1000 h60
  go_enter Try.func18, Try.ntmps18
  go_wp2_with (first
    | (go_at_call 62; (with_reducible refine (HS.out _ (Below.refl _ _)).mono ?_); rintro e w1_ ⟨rfl, hb1⟩; have hsz1 := hb1.size; have HB1 := Lib.hid hb1; clear hb1)
    | (refine wpList_make_ints _ rfl _ _ 34 rfl 2 i0 Try.underlying34 HI0.out HZ0.out HZ1.out .i64 .i64 n _ (by omega) rfl rfl (by rw [HZ2.out]; omega) (by omega) ?_; intro w2 hb2 hr2 hp2 hl2; have HB2 := Lib.hid hb2; have HR2 := Lib.hid hr2; have HP2 := Lib.hid hp2; clear hb2 hr2 hp2))
  have HBw : Hid (Below w.heap.size w w2) := Lib.hid (low_tr' HB1.out HB2.out hsz1)
  have hgw : w.heap.size ≤ w1_.heap.size := hsz1
  generalize hG : w1_.heap.size = G at *
  clear HB1 HB2 hG HS
  go_loopw [8] (fun i wr => ∃ i' : Nat, i' ≤ k ∧ i = .int .i64 i' ∧ Hid (RoomI wr G n 2) ∧ Hid (IntsAt wr G 0 n (cntC n l i')) ∧ Hid (Below w.heap.size w wr)) (fun i wr => k - (intOf i).toNat)
  case atStart => exact ⟨0, Nat.zero_le _, rfl, HR2, Lib.hid (by have := HP2.out; simpa [cntC] using this), HBw⟩
  case round =>
    obtain ⟨i, hik, rfl, HR, HP, HB⟩ := hrel
    by_cases hlt : i < k
    · go_wp2
      go_loopw [9] (fun jv wr => ∃ j : Nat, j ≤ k ∧ jv = .int .i64 j ∧ Hid (RoomI wr G n 2) ∧ Hid (IntsAt wr G 0 n (rowC n l i (cntC n l i) j)) ∧ Hid (Below w.heap.size w wr)) (fun jv wr => k - (intOf jv).toNat)
      case atStart => exact ⟨0, Nat.zero_le _, rfl, HR, HP, HB⟩
      case round =>
        clear HR HP HB
        obtain ⟨j, hjk, rfl, HR, HP, HB⟩ := hrel
        by_cases hlj : j < k
        · obtain ⟨g, off, rfl, hgl, hpt⟩ := HC.out.cells (by omega)
          have ci : wr.cell? ⟨g, off + i, none⟩ = some (.int .i64 (l.getD i 0)) := (HB.out.cell hgl).trans (hpt i hlt)
          have cj : wr.cell? ⟨g, off + j, none⟩ = some (.int .i64 (l.getD j 0)) := (HB.out.cell hgl).trans (hpt j hlj)
          obtain ⟨d1, d2⟩ := dif_bd (n := (n : Int)) (by omega) l i j
          have hoi := HOk.out i hlt
          have hoj := HOk.out j hlj
          have HN := Lib.hid (rowC_succ n l i (cntC n l i) j)
          have hbd := rowC_bd (n := (n : Int)) (l := l) (i := i) (HBd.out i) j (dif n l i j)
          have hlen : (rowC n l i (cntC n l i) j).length = n := by rw [rowC_length, cntC_length]; simp
          unfold bump at HN
          rw [Int.toNat_natCast] at d2
          generalize hx : l.getD i 0 = x at *
          generalize hy : l.getD j 0 = y at *
          generalize hC : rowC n l i (cntC n l i) j = C at *
          have cd := HP.out _ d2
          rw [Nat.zero_add] at cd
          generalize hv : C.getD (dif n l i j) 0 = v at *
          generalize dif n l i j = d at *
          have hmod : (x - y + n) % (n : Int) = d := by rw [Int.add_emod_right]; exact d1.symm
          clear hpt hx hy hC hv
          have hwl := HR.out.lt
          go_wp2
          refine region_then 18 [(31, .slice (some ⟨G, 0, none⟩) n n), (32, .slice (some ⟨g, off, none⟩) k cap), (33, .int .i64 i), (34, .pointer (some ⟨g, off + i, none⟩)), (35, .int .i64 x), (36, .slice (some ⟨g, off, none⟩) k cap), (37, .int .i64 j), (38, .pointer (some ⟨g, off + j, none⟩)), (39, .int .i64 y), (40, .int .i64 (x - y)), (41, .int .i64 n), (42, .int .i64 (x - y + n)), (43, .int .i64 n), (44, .int .i64 d), (45, .pointer (some ⟨G, d, none⟩)), (46, .int .i64 v), (47, .int .i64 (v + 1)), (48, .pointer (some ⟨G, d, none⟩))] (by kernel_rfl) (by decide) (by kernel_rfl) (by kernel_rfl) (by kernel_rfl) (fun aE hpe => ?_)
          simp only [puts, Act.put, List.setIfInBounds_toArray, List.set_cons_zero, List.set_cons_succ] at hpe
          subst hpe
          refine ⟨⟨.inr (.inr ?_), .inr (.inr ?_), .inr (.inr ?_), .inr (.inr ?_), .inr (.inr ?_), .inr (.inr ?_), .inr (.inr ?_), .inr (.inr ?_), .inr (.inr ?_), .inr (.inr ?_), .inr (.inr ?_), .inr (.inr ?_), .inr (.inr ?_), .inr (.inr ?_), .inr (.inr ?_), .inr (.inr ?_), .inr (.inr ?_), .inr (.inr ?_), trivial⟩, ?_⟩
          · exact CalmG.mk 31 (.slice (some ⟨G, 0, none⟩) n n) rfl rfl rfl (fun W hW => calm_move (.tmp 7) rfl rfl)
          · exact CalmG.mk 32 (.slice (some ⟨g, off, none⟩) k cap) rfl rfl rfl (fun W hW => calm_move (.tmp 1) rfl rfl)
          · exact CalmG.mk 33 (.int .i64 i) rfl rfl rfl (fun W hW => calm_move (.tmp 8) rfl rfl)
          · exact CalmG.mk 34 (.pointer (some ⟨g, off + i, none⟩)) rfl rfl rfl (fun W hW => calm_run (by simp [execOp, Act.eval, go_sem, hlt]))
          · exact CalmG.mk 35 (.int .i64 x) rfl rfl rfl (fun W hW => calm_run (by have hc : W.cell? ⟨g, off + i, none⟩ = some (.int .i64 x) := cell_below hW ci; simp [execOp, Act.eval, go_sem, hc]))
          · exact CalmG.mk 36 (.slice (some ⟨g, off, none⟩) k cap) rfl rfl rfl (fun W hW => calm_move (.tmp 1) rfl rfl)
          · exact CalmG.mk 37 (.int .i64 j) rfl rfl rfl (fun W hW => calm_move (.tmp 9) rfl rfl)
          · exact CalmG.mk 38 (.pointer (some ⟨g, off + j, none⟩)) rfl rfl rfl (fun W hW => calm_run (by simp [execOp, Act.eval, go_sem, hlj]))
          · exact CalmG.mk 39 (.int .i64 y) rfl rfl rfl (fun W hW => calm_run (by have hc : W.cell? ⟨g, off + j, none⟩ = some (.int .i64 y) := cell_below hW cj; simp [execOp, Act.eval, go_sem, hc]))
          · exact CalmG.mk 40 (.int .i64 (x - y)) rfl rfl rfl (fun W hW => calm_run (by have e : IntKind.i64.wrap (x - y) = x - y := (by rw [IntKind.wrap_i64]; omega); simp [execOp, Act.eval, go_sem, e]))
          · exact CalmG.mk 41 (.int .i64 n) rfl rfl rfl (fun W hW => calm_move (.tmp 0) rfl rfl)
          · exact CalmG.mk 42 (.int .i64 (x - y + n)) rfl rfl rfl (fun W hW => calm_run (by have e : IntKind.i64.wrap (x - y + n) = x - y + n := (by rw [IntKind.wrap_i64]; omega); simp [execOp, Act.eval, go_sem, e]))
          · exact CalmG.mk 43 (.int .i64 n) rfl rfl rfl (fun W hW => calm_move (.tmp 0) rfl rfl)
          · exact CalmG.mk 44 (.int .i64 d) rfl rfl rfl (fun W hW => calm_run (by have e0 : ((n : Int) == 0) = false := (by simp; omega); have e1 : Int.tmod (x - y + n) n = d := (by rw [Int.tmod_eq_emod_of_nonneg (by omega), hmod]); have e2 : ¬ n = 0 := (by omega); simp [execOp, Act.eval, go_sem, e0, e1, e2]))
          · exact CalmG.mk 45 (.pointer (some ⟨G, d, none⟩)) rfl rfl rfl (fun W hW => calm_run (by simp [execOp, Act.eval, go_sem, d2]))
          · exact CalmG.mk 46 (.int .i64 v) rfl rfl rfl (fun W hW => calm_run (by have hc : W.cell? ⟨G, d, none⟩ = some (.int .i64 v) := cell_below hW cd; simp [execOp, Act.eval, go_sem, hc]))
          · exact CalmG.mk 47 (.int .i64 (v + 1)) rfl rfl rfl (fun W hW => calm_run (by have e : IntKind.i64.wrap (v + 1) = v + 1 := (by rw [IntKind.wrap_i64]; omega); simp [execOp, Act.eval, go_sem, e]))
          · exact CalmG.mk 48 (.pointer (some ⟨G, d, none⟩)) rfl rfl rfl (fun W hW => calm_run (by simp [execOp, Act.eval, go_sem, d2]))
          intro W hW
          simp only [List.drop_succ_cons, List.drop_zero]
          have HRW := HR.out.below hW
          have HPW := HP.out.below hW
          have HBW := low_tr' HB.out hW HB.out.size
          have c2 := cell_below hW cd
          have f2 := HRW.frozen d
          have hwl2 := HRW.lt
          clear ci cj cd hwl hW HR HP HB
          go_wp2
          go_roundw
          case rel => exact ⟨j + 1, by omega, by go_num, Lib.hid (HRW.set _ _), Lib.hid (by rw [HN.out]; exact ints_set HRW (Nat.le_refl _) HPW hlen d d2 (v + 1)), Lib.hid (HBW.setCell hgw _)⟩
          case measure => simp [intOf]; omega
        · have hjk2 : j = k := by omega
          subst hjk2
          have HN := Lib.hid (cntC_succ n l i)
          go_wp2
          go_roundw
          case rel => exact ⟨i + 1, by omega, by go_num, HR, Lib.hid (by rw [HN.out, HL.out]; exact HP.out), HB⟩
          case measure => simp [intOf]; omega
    · have hik2 : i = k := by omega
      subst hik2
      have HP' := HP
      have hlen : (cntC n l i).length = n := by rw [cntC_length]; simp
      have HLn := Lib.hid hlen
      generalize hC : cntC n l i = C at *
      clear hlt hlen HBd hC HP HOk HC
      have HRk := HR
      clear HR
      go_wp2
      go_loopw [10] (fun dv wr => ∃ d : Nat, d + 1 ≤ n ∧ dv = .int .i64 ((d : Int) + 1) ∧ Hid (∀ q, q < d → (C.getD (q + 1) 0 == 1) = true) ∧ Hid (RoomI wr G n 2) ∧ Hid (IntsAt wr G 0 n C) ∧ Hid (Below w.heap.size w wr)) (fun dv wr => n - (intOf dv).toNat)
      case atStart => exact ⟨0, by omega, rfl, Lib.hid (fun q hq => absurd hq (Nat.not_lt_zero _)), HRk, HP', HB⟩
      case round =>
        clear HRk HP' HB
        obtain ⟨d, hd, rfl, HD, HR, HP, HB⟩ := hrel
        by_cases hlt : d + 1 < n
        · have cd := HP.out (d + 1) hlt
          rw [Nat.zero_add] at cd
          have HNo := Lib.hid (fun h : (C.getD (d + 1) 0 == 1) = false => onesB_bad (c := C) (d := d) (by have := HLn.out; omega) h)
          have HYes : Hid ((C.getD (d + 1) 0 == 1) = true → ∀ q, q < d + 1 → (C.getD (q + 1) 0 == 1) = true) := Lib.hid (fun h q hq => by
            rcases Nat.lt_or_ge q d with h2 | h2
            · exact HD.out q h2
            · rw [show q = d by omega]; exact h)
          generalize C.getD (d + 1) 0 = v at *
          have hltz : (d : Int) + 1 < (n : Int) := by omega
          cases hv : (v == 1) with
          | true =>
            have HY2 := Lib.hid (HYes.out hv)
            have hv1 : (v != 1) = false := by simpa using hv
            clear HNo HYes
            go_wp2
            go_roundw
            case rel => exact ⟨d + 1, by omega, by go_num, HY2, HR, HP, HB⟩
            case measure => simp [intOf]; omega
          | false =>
            have HY2 := Lib.hid (HNo.out hv)
            have hv1 : (v != 1) = true := by simpa using hv
            clear HNo HYes
            go_wp2
            exact bodyPost_ret (v := .tuple #[.bool false, .int .i64 0]) (by simp [results, Try.results18, go_sem]) rfl ⟨by rw [HY2.out], HB.out⟩
        · have hdn : d + 1 = n := by omega
          have HY2 := Lib.hid (onesB_all (c := C) (fun q hq => HD.out q (by have := HLn.out; omega)))
          have hltz : ¬ (d : Int) + 1 < (n : Int) := by omega
          go_wp2
          exact bodyPost_ret (v := .tuple #[.bool true, .int .i64 0]) (by simp [results, Try.results18, go_sem]) rfl ⟨by rw [HY2.out], HB.out⟩
theorem IsDifferenceSet_spec (n : Int) (b : Option Addr) (k cap : Nat) (l : List Int) (w : World) (hl : l.length = k) (hk : k ≤ 1000000) (hc : ArgI w b k l) :
    Calls Try.prog 18 #[.int .i64 n, .slice b k cap] w (Ret w (.tuple #[.bool (diffR n l).1, .int .i64 (diffR n l).2])) := by
  cases hs : setB n l with
  | true =>
    obtain ⟨⟨n2, n1000⟩, _⟩ := setB_yes hs
    obtain ⟨m, rfl⟩ : ∃ m : Nat, n = m := ⟨n.toNat, by omega⟩
    rw [diffR_yes hs, hl]
    exact IsDifferenceSet_spec_yes m b k cap l w hl hk hc hs
  | false =>
    rw [diffR_no hs]
    have HS := Lib.hid (fun (W : World) (hW : Below w.heap.size w W) => l10Set_any n b k cap l W hl hk (hc.below hW))
    have hcode : codeS n l = 2 := by unfold codeS; rw [hs]; rfl
    rw [hcode] at HS
    clear hcode hs hc hl
    go_enter Try.func18, Try.ntmps18
    go_wp2_with (go_at_call 62; (with_reducible refine (HS.out _ (Below.refl _ _)).mono ?_); rintro e w1_ ⟨rfl, hb1⟩; have hsz1 := hb1.size; have HB1 := Lib.hid hb1; clear hb1)
    exact bodyPost_ret (v := .tuple #[.bool false, .int .i64 2]) (by simp [results, Try.results18, go_sem]) rfl ⟨rfl, HB1.out⟩
end Go.Proofs.Ythkbhaaodegocaa
