/- Texts of the claim, in build order: OC2. No condition. -/
import Derived.Test.YtoagfpdicpcjnaaZOrbitsOf1
/- Contracts: the program's orbits. -- maps -- boxmaps -- classes -/
namespace Go.Proofs.Ytoagfpdicpcjnaa
open Go.RowKit
set_option linter.unusedVariables false
set_option linter.unusedSimpArgs false
theorem allPoints_K (n : Nat) (w : World) (h : 3 ≤ n ∧ n ≤ 13) : Calls Try.prog 49 #[.int .i64 (n : Int)] w (fun e w' => ∃ g cap, e = .returned (.slice (some ⟨g, 0, none⟩) (allP n).length cap) ∧ w.heap.size ≤ g ∧ g < w'.heap.size ∧ PtsK w' g 0 (allP n).length (allP n) ∧ LowK w w') :=
  (allPoints_any n w h).mono fun e w' hp => by
    obtain ⟨v, rfl, ho, hb⟩ := hp.out
    obtain ⟨g, cap, rfl, h1, h2, h3⟩ := OwnK.pts ⟨ho⟩ rfl (by rw [allP_length]; omega)
    exact ⟨g, cap, rfl, h1, h2, h3, ⟨hb⟩⟩
theorem image_I {p : Int} {m : M9} {a r : Pt} (w : World) (hr : imgP p m a = r) (hp : prB p = true) (hm : InM m) (ha : In13 a) : Calls Try.prog 50 #[.int .i64 p, mV m, pV a] w (Ret w (pV r)) := by rw [← hr]; exact image_any p m a w hp hm ha
set_option pp.deepTerms false
set_option pp.deepTerms.threshold 10
set_option maxRecDepth 20000 in
set_option maxHeartbeats 8000000 in
theorem orbits_I (n N : Nat) (L : List Pt) (b : Option Addr) (k c : Nat) (ms : List M9) (w : World) (h : MsOk n ms) (hk : k ≤ 8) (hms : ListM w b k ms) (hL : allP n = L) (hN : L.length = N) (hnd : L.Nodup) :
    Calls Try.prog 31 #[.int .i64 (n : Int), .slice b k c] w (OrbsPost w (tabL (classP n ms) L N N)) := by
  obtain ⟨h3, h13⟩ := h.n13
  have hml := hms.out.1
  have hN183 : N ≤ 183 := by rw [← hN, ← hL]; exact allP_len183 h13
  have hN0 : 0 < N := by rw [← hN, ← hL, allP_length]; omega
  have hL13 : ∀ a ∈ L, In13 a := by rw [← hL]; exact allP_in h13
  have HH := Lib.hid h
  have HAP := Lib.hid (fun w => allPoints_K n w h.n13)
  rw [hL, hN] at HAP
  have hp := h.pr
  have hin : ∀ m ∈ ms, InM m := fun m hm => okM_inM (h.ok m hm)
  have HND := Lib.hid hnd
  have HL := Lib.hid hL
  have HN := Lib.hid hN
  clear h hnd hL hN
  go_enter Try.func31, Try.ntmps31
  go_wp2_with (first | (refine wl_loadJ ?_) | (refine wl_load ?_) | (refine wl_loadM ?_) | (refine wl_storeJ ?_) | (refine wl_mapNewP ?_) | (refine wl_mapUpdP (L := ?_) ?_ ?_ ?_ ?_ (ho := .inl rfl); rotate_left 2; exact findGomP; assumption; assumption; intro Wm hMm hTm; have hs := hTm.out.1; (try simp at hs); (try have hOm := OwnK.turnP hTm findGomP findOwn); (try have hVm := LowK.turnP hTm (by assumption) findLow)) | (refine wl_fill1 ?_) | (refine wl_fill2 ?_) | (refine wl_storeM ?_) | (refine wl_makeM ?_; intro gm W' hgm hl hT; have hs := hl.out.size; (try simp at hs)) | (refine wl_store (h1 := mC_one _) ?_) | (refine wl_store ?_) | (refine wl_build ?_) | (refine wl_slice ?_) | (refine wl_append (he := eltSp) ?_; intro v' w' ho hg hb; have hs := hg.size; (try simp at hs)) | (refine wl_append ?_; intro v' w' ho hg hb; have hs := hg.size; (try simp at hs); (try rw [ptCs_end] at ho); (try rw [ints_end] at ho); (try simp only [Nat.zero_add, Nat.reduceAdd, List.nil_append, List.cons_append] at ho)) | (go_at_call 49; (with_reducible refine (HAP.out _).mono ?_); rintro e w' ⟨gp, cp, rfl, hgp, hgp2, hPt, hV1⟩; have hs := hV1.size) | ((with_reducible apply region_gd (id := 15)); refine region_QA (id := 15) 15 ?_; apply Exists.intro; refine ⟨fun G => ?_, fun W hl => ?_⟩; (· (simp only [List.take_succ_cons, List.take_zero]; (repeat (first | go_big_quiet_skip | (go_big_quiet_want; first | (refine q_loadJ ?_; simp only [Act.put, List.setIfInBounds_toArray, List.set_cons_zero, List.set_cons_succ]; go_big_quiet_on) | (refine q_mapLookP (L := ?_) (v := ?_) ?_ ?_ ?_ (ho := rfl); rotate_left 3; exact findGomP; exact (show RowKit.Hid _ from by assumption).out; simp only [Act.put, List.setIfInBounds_toArray, List.set_cons_zero, List.set_cons_succ]; go_big_quiet_on) | (refine q_load ?_; simp only [Act.put, List.setIfInBounds_toArray, List.set_cons_zero, List.set_cons_succ]; go_big_quiet_on) | (go_big_quiet_op; first | go_big_quiet_on)))); exact rfl)); have hs := hl.out.size; (try simp at hs); simp only [List.drop_succ_cons, List.drop_zero]))
  have hM0 : GoMapP ((w'.alloc (.map #[] 0)).alloc (.cells #[] 3)) w'.heap.size (L.take 0) := (GoMapP.new w').alloc _
  have hr0 : RowK ((w'.alloc (.map #[] 0)).alloc (.cells #[] 3)) (w'.heap.size + 1) #[] 3 := findRow
  have hO0 : OwnK ((w'.alloc (.map #[] 0)).alloc (.cells #[] 3)) w'.heap.size 3 1 (.slice (some ⟨w'.heap.size + 1, 0, none⟩) 0 0) 0 (ints (upI 0)) := OwnK.empty hr0 (by omega)
  have hV2 : LowK w' ((w'.alloc (.map #[] 0)).alloc (.cells #[] 3)) := findLow
  have hsz2 : w'.heap.size ≤ ((w'.alloc (.map #[] 0)).alloc (.cells #[] 3)).heap.size := hV2.size
  clear hr0
  generalize (w'.alloc (.map #[] 0)).alloc (.cells #[] 3) = W1 at *
  obtain ⟨B, hB⟩ : ∃ B, w'.heap.size = B := ⟨_, rfl⟩
  have hBw := Nat.le_of_eq hB
  have hBw2 := Nat.le_of_eq hB.symm
  rw [hB] at hO0 hsz2 hM0 ⊢
  generalize B + 1 = B1 at *
  go_loopw [7, 28] (fun v iv wr => ∃ q : Nat, q ≤ N ∧ iv = .int .i64 (q : Int) ∧ OwnK wr B 3 1 v q (ints (upI q)) ∧ GoMapP wr B (L.take q) ∧ LowK w' wr ∧ B ≤ wr.heap.size) (fun _ iv wr => N - (intOf iv).toNat)
  case atStart => exact ⟨0, Nat.zero_le _, rfl, hO0, hM0, findLow, (by first | omega | (simp; omega))⟩
  case round =>
    clear hO0 hM0 hV2 hsz2
    obtain ⟨q, hq, rfl, hO, hM, hV, hsz⟩ := hrel
    by_cases hlt : q < N
    · obtain ⟨t, ht⟩ : ∃ t, L.getD q (0, 0, 0) = t := ⟨_, rfl⟩
      have htn := take_new HND.out (by rw [HN.out]; exact hlt) ht
      have HT := Lib.hid (take_snoc (by rw [HN.out]; exact hlt) ht)
      have HQ : Hid (((L.take q).length : Int) = (q : Int)) := Lib.hid (by rw [List.length_take, HN.out]; omega)
      generalize L.take q = Lq at *
      have hMl := hM.lt
      have hPr := PtsK.link (LowK.lnk hV) hPt
      go_wp2_with (first | (refine wl_loadJ ?_) | (refine wl_load ?_) | (refine wl_loadM ?_) | (refine wl_storeJ ?_) | (refine wl_mapNewP ?_) | (refine wl_mapUpdP (L := ?_) ?_ ?_ ?_ ?_ (ho := .inl rfl); rotate_left 2; exact findGomP; assumption; assumption; intro Wm hMm hTm; have hs := hTm.out.1; (try simp at hs); (try have hOm := OwnK.turnP hTm findGomP findOwn); (try have hVm := LowK.turnP hTm (by assumption) findLow)) | (refine wl_fill1 ?_) | (refine wl_fill2 ?_) | (refine wl_storeM ?_) | (refine wl_makeM ?_; intro gm W' hgm hl hT; have hs := hl.out.size; (try simp at hs)) | (refine wl_store (h1 := mC_one _) ?_) | (refine wl_store ?_) | (refine wl_build ?_) | (refine wl_slice ?_) | (refine wl_append (he := eltSp) ?_; intro v' w' ho hg hb; have hs := hg.size; (try simp at hs)) | (refine wl_append ?_; intro v' w' ho hg hb; have hs := hg.size; (try simp at hs); (try rw [ptCs_end] at ho); (try rw [ints_end] at ho); (try simp only [Nat.zero_add, Nat.reduceAdd, List.nil_append, List.cons_append] at ho)) | ((with_reducible apply region_gd (id := 15)); refine region_QA (id := 15) 15 ?_; apply Exists.intro; refine ⟨fun G => ?_, fun W hl => ?_⟩; (· (simp only [List.take_succ_cons, List.take_zero]; (repeat (first | go_big_quiet_skip | (go_big_quiet_want; first | (refine q_loadJ ?_; simp only [Act.put, List.setIfInBounds_toArray, List.set_cons_zero, List.set_cons_succ]; go_big_quiet_on) | (refine q_mapLookP (L := ?_) (v := ?_) ?_ ?_ ?_ (ho := rfl); rotate_left 3; exact findGomP; exact (show RowKit.Hid _ from by assumption).out; simp only [Act.put, List.setIfInBounds_toArray, List.set_cons_zero, List.set_cons_succ]; go_big_quiet_on) | (refine q_load ?_; simp only [Act.put, List.setIfInBounds_toArray, List.set_cons_zero, List.set_cons_succ]; go_big_quiet_on) | (go_big_quiet_op; first | go_big_quiet_on)))); exact rfl)); have hs := hl.out.size; (try simp at hs); simp only [List.drop_succ_cons, List.drop_zero]))
      go_roundw
      case rel => exact ⟨q + 1, by omega, by go_num, by rw [← upI_succ]; exact ho, by rw [← HT.out]; exact (hMm.alloc _).grew hg findOwn, findLow, (by first | omega | (simp; omega))⟩
      case measure => (simp [intOf]; try omega)
    · obtain rfl : N = q := by omega
      obtain ⟨gc, cc, rfl, hgc, hR⟩ := rowJ_own hO (upI_length N) hN0
      rw [List.take_of_length_le (by rw [HN.out]; omega)] at hM
      have hR : RowJ wr gc cc N (fun j => ((clsP n ms 0 j : Nat) : Int)) := hR.congr (fun j hj => upI_at hj)
      have hneM := hM.neJ hR
      have hP0 := PtsK.link (LowK.lnk hV) hPt
      have hneP : gp ≠ gc := by omega
      have hV0 := LowK.link (LowK.lnk hV) hV1
      have hwgc : w.heap.size ≤ gc := by omega
      have HAL : Hid ((allP n).length = N) := Lib.hid (by rw [HL.out, HN.out])
      clear hO hPt hV hsz
      obtain ⟨W0, hW0⟩ : ∃ W0, W0 = wr := ⟨_, rfl⟩
      subst hW0
      go_wp2_with (first | (refine wl_loadJ ?_) | (refine wl_load ?_) | (refine wl_loadM ?_) | (refine wl_storeJ ?_) | (refine wl_mapNewP ?_) | (refine wl_mapUpdP (L := ?_) ?_ ?_ ?_ ?_ (ho := .inl rfl); rotate_left 2; exact findGomP; assumption; assumption; intro Wm hMm hTm; have hs := hTm.out.1; (try simp at hs); (try have hOm := OwnK.turnP hTm findGomP findOwn); (try have hVm := LowK.turnP hTm (by assumption) findLow)) | (refine wl_fill1 ?_) | (refine wl_fill2 ?_) | (refine wl_storeM ?_) | (refine wl_makeM ?_; intro gm W' hgm hl hT; have hs := hl.out.size; (try simp at hs)) | (refine wl_store (h1 := mC_one _) ?_) | (refine wl_store ?_) | (refine wl_build ?_) | (refine wl_slice ?_) | (refine wl_append (he := eltSp) ?_; intro v' w' ho hg hb; have hs := hg.size; (try simp at hs)) | (refine wl_append ?_; intro v' w' ho hg hb; have hs := hg.size; (try simp at hs); (try rw [ptCs_end] at ho); (try rw [ints_end] at ho); (try simp only [Nat.zero_add, Nat.reduceAdd, List.nil_append, List.cons_append] at ho)) | ((with_reducible apply region_gd (id := 15)); refine region_QA (id := 15) 15 ?_; apply Exists.intro; refine ⟨fun G => ?_, fun W hl => ?_⟩; (· (simp only [List.take_succ_cons, List.take_zero]; (repeat (first | go_big_quiet_skip | (go_big_quiet_want; first | (refine q_loadJ ?_; simp only [Act.put, List.setIfInBounds_toArray, List.set_cons_zero, List.set_cons_succ]; go_big_quiet_on) | (refine q_mapLookP (L := ?_) (v := ?_) ?_ ?_ ?_ (ho := rfl); rotate_left 3; exact findGomP; exact (show RowKit.Hid _ from by assumption).out; simp only [Act.put, List.setIfInBounds_toArray, List.set_cons_zero, List.set_cons_succ]; go_big_quiet_on) | (refine q_load ?_; simp only [Act.put, List.setIfInBounds_toArray, List.set_cons_zero, List.set_cons_succ]; go_big_quiet_on) | (go_big_quiet_op; first | go_big_quiet_on)))); exact rfl)); have hs := hl.out.size; (try simp at hs); simp only [List.drop_succ_cons, List.drop_zero]))
      go_loopw [43] (fun kv wi => ∃ q : Nat, q ≤ k ∧ kv = .int .i64 (q : Int) ∧ RowJ wi gc cc N (fun j => ((clsP n ms q j : Nat) : Int)) ∧ ButK gc W0 wi) (fun kv wi => k - (intOf kv).toNat)
      case atStart => exact ⟨0, Nat.zero_le _, rfl, hR, ButK.refl _ _⟩
      case round =>
        clear hR
        obtain ⟨q, hq, rfl, hR, hB1⟩ := hrel
        have hVi := LowK.but hB1 hwgc hV0
        by_cases hlk : q < k
        · obtain ⟨y, hy⟩ : ∃ y, ms.getD q m0 = y := ⟨_, rfl⟩
          have hyi : InM y := by rw [← hy]; exact hin _ (getM_mem (by omega))
          obtain ⟨gb, off, rfl, hma⟩ := hms.out.2 (by omega)
          have r1 : RangeK wr gb (off + q * 9) (mC y) := by rw [← hy]; exact (hma.at_ hlk).viaLow hVi
          have HY := Lib.hid hy
          clear hy
          go_wp2_with (first | (refine wl_loadJ ?_) | (refine wl_load ?_) | (refine wl_loadM ?_) | (refine wl_storeJ ?_) | (refine wl_mapNewP ?_) | (refine wl_mapUpdP (L := ?_) ?_ ?_ ?_ ?_ (ho := .inl rfl); rotate_left 2; exact findGomP; assumption; assumption; intro Wm hMm hTm; have hs := hTm.out.1; (try simp at hs); (try have hOm := OwnK.turnP hTm findGomP findOwn); (try have hVm := LowK.turnP hTm (by assumption) findLow)) | (refine wl_fill1 ?_) | (refine wl_fill2 ?_) | (refine wl_storeM ?_) | (refine wl_makeM ?_; intro gm W' hgm hl hT; have hs := hl.out.size; (try simp at hs)) | (refine wl_store (h1 := mC_one _) ?_) | (refine wl_store ?_) | (refine wl_build ?_) | (refine wl_slice ?_) | (refine wl_append (he := eltSp) ?_; intro v' w' ho hg hb; have hs := hg.size; (try simp at hs)) | (refine wl_append ?_; intro v' w' ho hg hb; have hs := hg.size; (try simp at hs); (try rw [ptCs_end] at ho); (try rw [ints_end] at ho); (try simp only [Nat.zero_add, Nat.reduceAdd, List.nil_append, List.cons_append] at ho)) | ((with_reducible apply region_gd (id := 15)); refine region_QA (id := 15) 15 ?_; apply Exists.intro; refine ⟨fun G => ?_, fun W hl => ?_⟩; (· (simp only [List.take_succ_cons, List.take_zero]; (repeat (first | go_big_quiet_skip | (go_big_quiet_want; first | (refine q_loadJ ?_; simp only [Act.put, List.setIfInBounds_toArray, List.set_cons_zero, List.set_cons_succ]; go_big_quiet_on) | (refine q_mapLookP (L := ?_) (v := ?_) ?_ ?_ ?_ (ho := rfl); rotate_left 3; exact findGomP; exact (show RowKit.Hid _ from by assumption).out; simp only [Act.put, List.setIfInBounds_toArray, List.set_cons_zero, List.set_cons_succ]; go_big_quiet_on) | (refine q_load ?_; simp only [Act.put, List.setIfInBounds_toArray, List.set_cons_zero, List.set_cons_succ]; go_big_quiet_on) | (go_big_quiet_op; first | go_big_quiet_on)))); exact rfl)); have hs := hl.out.size; (try simp at hs); simp only [List.drop_succ_cons, List.drop_zero]))
          have hbx : RowK ((wr.alloc (.cells #[.int .i64 0, .int .i64 0, .int .i64 0, .int .i64 0, .int .i64 0, .int .i64 0, .int .i64 0, .int .i64 0, .int .i64 0] 44)).setRow wr.heap.size (mC y)) wr.heap.size (mC y) 44 := findRow
          have hV2 : LowK wr ((wr.alloc (.cells #[.int .i64 0, .int .i64 0, .int .i64 0, .int .i64 0, .int .i64 0, .int .i64 0, .int .i64 0, .int .i64 0, .int .i64 0] 44)).setRow wr.heap.size (mC y)) := findLow
          obtain ⟨gx, hgx⟩ : ∃ gx, gx = wr.heap.size := ⟨_, rfl⟩
          have hgc3 : gc < wr.heap.size := hR.lt
          rw [← hgx] at hbx hgc3 ⊢
          rw [← hgx] at hV2
          generalize (wr.alloc (.cells #[.int .i64 0, .int .i64 0, .int .i64 0, .int .i64 0, .int .i64 0, .int .i64 0, .int .i64 0, .int .i64 0, .int .i64 0] 44)).setRow gx (mC y) = W2 at *
          have hR2 := RowJ.link (LowK.lnk hV2) hR
          have hB2 := ButK.low hV2 hB1
          have hgxne : gx ≠ gc := by omega
          have hpb : B ≠ gc := hneM
          clear hR hV2 hgx
          go_loopw [49] (fun iv wj => ∃ i : Nat, i ≤ N ∧ iv = .int .i64 (i : Int) ∧ RowJ wj gc cc N (fun j => ((rowU (ixP n ms q) (clsP n ms q) i j : Nat) : Int)) ∧ ButK gc W2 wj) (fun iv wj => N - (intOf iv).toNat)
          case atStart => exact ⟨0, Nat.zero_le _, rfl, hR2, ButK.refl _ _⟩
          case round =>
            clear hR2
            obtain ⟨i, hi, rfl, hR, hB3⟩ := hrel
            have hB4 := hB3.tr hB2
            have hbr := RowK.but hB3 hgxne hbx
            have hbrl := hbr.lt
            by_cases hli : i < N
            · obtain ⟨t, ht⟩ : ∃ t, L.getD i (0, 0, 0) = t := ⟨_, rfl⟩
              obtain ⟨u, hu⟩ : ∃ u, imgP n y t = u := ⟨_, rfl⟩
              obtain ⟨ix, hix⟩ : ∃ ix, ixP n ms q i = ix := ⟨_, rfl⟩
              have hpl : ix < N ∧ L.getD ix p0 = u := by
                have := ixP_at HH.out (show q < ms.length by omega) (show i < (allP n).length by rw [HAL.out]; exact hli)
                rw [HAL.out, HL.out, hix, HY.out, show L.getD i p0 = t from ht, hu] at this
                exact this
              have hul := place_of HND.out (by rw [HN.out]; exact hpl.1) hpl.2
              have ht13 : In13 t := by rw [← ht]; exact hL13 _ (getD_mem (by rw [HN.out]; exact hli))
              obtain ⟨f, hf⟩ : ∃ f, rowU (ixP n ms q) (clsP n ms q) i = f := ⟨_, rfl⟩
              obtain ⟨a1, ha1⟩ : ∃ a1, f i = a1 := ⟨_, rfl⟩
              obtain ⟨a2, ha2⟩ : ∃ a2, f ix = a2 := ⟨_, rfl⟩
              have HF := Lib.hid (rowU_next hf hix ha1 ha2)
              rw [hf] at hR
              have c1 : CellK wr gc i (.int .i64 (a1 : Int)) := by rw [← ha1]; exact hR.cell hli
              have c2 : CellK wr gc ix (.int .i64 (a2 : Int)) := by rw [← ha2]; exact hR.cell hpl.1
              have hPr := PtsK.but hB4 hneP hP0
              have hMr := GoMapP.but hB4 hneM hM
              have HU := Lib.hid hu
              have hixN := hpl.1
              have HUL := Lib.hid hul
              clear hu hpl hix hul
              by_cases he : (a1 : Int) = (a2 : Int)
              · have HE : Hid (mrg f a1 a2 = f) := Lib.hid (by rw [show a1 = a2 by omega]; exact mrg_self f a2)
                go_wp2_with (first | (refine wl_loadJ ?_) | (refine wl_load ?_) | (refine wl_loadM ?_) | (refine wl_storeJ ?_) | (refine wl_mapNewP ?_) | (refine wl_mapUpdP (L := ?_) ?_ ?_ ?_ ?_ (ho := .inl rfl); rotate_left 2; exact findGomP; assumption; assumption; intro Wm hMm hTm; have hs := hTm.out.1; (try simp at hs); (try have hOm := OwnK.turnP hTm findGomP findOwn); (try have hVm := LowK.turnP hTm (by assumption) findLow)) | (refine wl_fill1 ?_) | (refine wl_fill2 ?_) | (refine wl_storeM ?_) | (refine wl_makeM ?_; intro gm W' hgm hl hT; have hs := hl.out.size; (try simp at hs)) | (refine wl_store (h1 := mC_one _) ?_) | (refine wl_store ?_) | (refine wl_build ?_) | (refine wl_slice ?_) | (refine wl_append (he := eltSp) ?_; intro v' w' ho hg hb; have hs := hg.size; (try simp at hs)) | (refine wl_append ?_; intro v' w' ho hg hb; have hs := hg.size; (try simp at hs); (try rw [ptCs_end] at ho); (try rw [ints_end] at ho); (try simp only [Nat.zero_add, Nat.reduceAdd, List.nil_append, List.cons_append] at ho)) | (go_at_call 50; (with_reducible refine (image_I _ HU.out hp hyi ht13).mono ?_); rintro e w' ⟨rfl, hb⟩; have hl := Link.mk hb; have hs := hb.size; (try simp at hs); clear hb) | ((with_reducible apply region_gd (id := 15)); refine region_QA (id := 15) 15 ?_; apply Exists.intro; refine ⟨fun G => ?_, fun W hl => ?_⟩; (· (simp only [List.take_succ_cons, List.take_zero]; (repeat (first | go_big_quiet_skip | (go_big_quiet_want; first | (refine q_loadJ ?_; simp only [Act.put, List.setIfInBounds_toArray, List.set_cons_zero, List.set_cons_succ]; go_big_quiet_on) | (refine q_mapLookP (L := ?_) (v := ?_) ?_ ?_ ?_ (ho := rfl); rotate_left 3; exact findGomP; exact (show RowKit.Hid _ from by assumption).out; simp only [Act.put, List.setIfInBounds_toArray, List.set_cons_zero, List.set_cons_succ]; go_big_quiet_on) | (refine q_load ?_; simp only [Act.put, List.setIfInBounds_toArray, List.set_cons_zero, List.set_cons_succ]; go_big_quiet_on) | (go_big_quiet_op; first | go_big_quiet_on | (apply Exists.intro; refine ⟨fun g => ?_, ?_⟩; (· (have hl := growL g; first | (go_at_call 50; with_reducible exact grow_ret (image_I _ HU.out hp hyi ht13)))); go_big_quiet_on))))); exact rfl)); have hs := hl.out.size; (try simp at hs); simp only [List.drop_succ_cons, List.drop_zero]))
                go_roundw
                case rel => exact ⟨i + 1, by omega, by go_num, by rw [HF.out, HE.out]; exact RowJ.link (LowK.lnk findLow) hR, ButK.low findLow hB3⟩
                case measure => (simp [intOf]; try omega)
              · have hE : ((a1 : Int) == (a2 : Int)) = false := beqf he
                clear he
                go_wp2_with (first | (refine wl_loadJ ?_) | (refine wl_load ?_) | (refine wl_loadM ?_) | (refine wl_storeJ ?_) | (refine wl_mapNewP ?_) | (refine wl_mapUpdP (L := ?_) ?_ ?_ ?_ ?_ (ho := .inl rfl); rotate_left 2; exact findGomP; assumption; assumption; intro Wm hMm hTm; have hs := hTm.out.1; (try simp at hs); (try have hOm := OwnK.turnP hTm findGomP findOwn); (try have hVm := LowK.turnP hTm (by assumption) findLow)) | (refine wl_fill1 ?_) | (refine wl_fill2 ?_) | (refine wl_storeM ?_) | (refine wl_makeM ?_; intro gm W' hgm hl hT; have hs := hl.out.size; (try simp at hs)) | (refine wl_store (h1 := mC_one _) ?_) | (refine wl_store ?_) | (refine wl_build ?_) | (refine wl_slice ?_) | (refine wl_append (he := eltSp) ?_; intro v' w' ho hg hb; have hs := hg.size; (try simp at hs)) | (refine wl_append ?_; intro v' w' ho hg hb; have hs := hg.size; (try simp at hs); (try rw [ptCs_end] at ho); (try rw [ints_end] at ho); (try simp only [Nat.zero_add, Nat.reduceAdd, List.nil_append, List.cons_append] at ho)) | (go_at_call 50; (with_reducible refine (image_I _ HU.out hp hyi ht13).mono ?_); rintro e w' ⟨rfl, hb⟩; have hl := Link.mk hb; have hs := hb.size; (try simp at hs); clear hb) | ((with_reducible apply region_gd (id := 15)); refine region_QA (id := 15) 15 ?_; apply Exists.intro; refine ⟨fun G => ?_, fun W hl => ?_⟩; (· (simp only [List.take_succ_cons, List.take_zero]; (repeat (first | go_big_quiet_skip | (go_big_quiet_want; first | (refine q_loadJ ?_; simp only [Act.put, List.setIfInBounds_toArray, List.set_cons_zero, List.set_cons_succ]; go_big_quiet_on) | (refine q_mapLookP (L := ?_) (v := ?_) ?_ ?_ ?_ (ho := rfl); rotate_left 3; exact findGomP; exact (show RowKit.Hid _ from by assumption).out; simp only [Act.put, List.setIfInBounds_toArray, List.set_cons_zero, List.set_cons_succ]; go_big_quiet_on) | (refine q_load ?_; simp only [Act.put, List.setIfInBounds_toArray, List.set_cons_zero, List.set_cons_succ]; go_big_quiet_on) | (go_big_quiet_op; first | go_big_quiet_on | (apply Exists.intro; refine ⟨fun g => ?_, ?_⟩; (· (have hl := growL g; first | (go_at_call 50; with_reducible exact grow_ret (image_I _ HU.out hp hyi ht13)))); go_big_quiet_on))))); exact rfl)); have hs := hl.out.size; (try simp at hs); simp only [List.drop_succ_cons, List.drop_zero]))
                have hR4 : RowJ W gc cc N (fun j => ((f j : Nat) : Int)) := RowJ.link (LowK.lnk findLow) hR
                have hB5 : ButK gc W2 W := ButK.low findLow hB3
                clear hR c1 c2 hPr hMr hbr hl hs hf ha1 ha2
                obtain ⟨mx, hmx⟩ : ∃ mx : Nat, (if a1 < a2 then ((a2 : Nat) : Int) else ((a1 : Nat) : Int)) = (mx : Int) := ⟨if a1 < a2 then a2 else a1, by split <;> rfl⟩
                obtain ⟨mn, hmn⟩ : ∃ mn : Nat, (if a2 < a1 then ((a2 : Nat) : Int) else ((a1 : Nat) : Int)) = (mn : Int) := ⟨if a2 < a1 then a2 else a1, by split <;> rfl⟩
                have HMG : Hid (∀ l, mrg f a1 a2 l = if f l = mx then mn else f l) := Lib.hid (fun l => by
                  unfold mrg
                  rw [show max a1 a2 = mx by (split at hmx <;> omega), show min a1 a2 = mn by (split at hmn <;> omega)])
                go_loopw [72] (fun jv wk => ∃ j : Nat, j ≤ N ∧ jv = .int .i64 (j : Int) ∧ RowJ wk gc cc N (fun l => ((if l < j then mrg f a1 a2 l else f l : Nat) : Int)) ∧ ButK gc W2 wk) (fun jv wk => N - (intOf jv).toNat)
                case atStart => exact ⟨0, Nat.zero_le _, rfl, hR4.congr (fun l hl => by rw [if_neg (Nat.not_lt_zero _)]), hB5⟩
                case round =>
                  clear hR4 hB5
                  obtain ⟨j, hj, rfl, hR, hB6⟩ := hrel
                  by_cases hlj : j < N
                  · obtain ⟨fj, hfj⟩ : ∃ fj, f j = fj := ⟨_, rfl⟩
                    have c3 : CellK wr gc j (.int .i64 (fj : Int)) := by have := hR.cell hlj; rw [if_neg (Nat.lt_irrefl _), hfj] at this; exact this
                    have c4 := hR.st hlj
                    have HFJ := Lib.hid hfj
                    clear hfj
                    by_cases hfm : (fj : Int) = (mx : Int)
                    · have hq : ((fj : Int) == (mx : Int)) = true := beqt hfm
                      go_wp2_with (first | (refine wl_loadJ ?_) | (refine wl_load ?_) | (refine wl_loadM ?_) | (refine wl_storeJ ?_) | (refine wl_mapNewP ?_) | (refine wl_mapUpdP (L := ?_) ?_ ?_ ?_ ?_ (ho := .inl rfl); rotate_left 2; exact findGomP; assumption; assumption; intro Wm hMm hTm; have hs := hTm.out.1; (try simp at hs); (try have hOm := OwnK.turnP hTm findGomP findOwn); (try have hVm := LowK.turnP hTm (by assumption) findLow)) | (refine wl_fill1 ?_) | (refine wl_fill2 ?_) | (refine wl_storeM ?_) | (refine wl_makeM ?_; intro gm W' hgm hl hT; have hs := hl.out.size; (try simp at hs)) | (refine wl_store (h1 := mC_one _) ?_) | (refine wl_store ?_) | (refine wl_build ?_) | (refine wl_slice ?_) | (refine wl_append (he := eltSp) ?_; intro v' w' ho hg hb; have hs := hg.size; (try simp at hs)) | (refine wl_append ?_; intro v' w' ho hg hb; have hs := hg.size; (try simp at hs); (try rw [ptCs_end] at ho); (try rw [ints_end] at ho); (try simp only [Nat.zero_add, Nat.reduceAdd, List.nil_append, List.cons_append] at ho)) | ((with_reducible apply region_gd (id := 15)); refine region_QA (id := 15) 15 ?_; apply Exists.intro; refine ⟨fun G => ?_, fun W hl => ?_⟩; (· (simp only [List.take_succ_cons, List.take_zero]; (repeat (first | go_big_quiet_skip | (go_big_quiet_want; first | (refine q_loadJ ?_; simp only [Act.put, List.setIfInBounds_toArray, List.set_cons_zero, List.set_cons_succ]; go_big_quiet_on) | (refine q_mapLookP (L := ?_) (v := ?_) ?_ ?_ ?_ (ho := rfl); rotate_left 3; exact findGomP; exact (show RowKit.Hid _ from by assumption).out; simp only [Act.put, List.setIfInBounds_toArray, List.set_cons_zero, List.set_cons_succ]; go_big_quiet_on) | (refine q_load ?_; simp only [Act.put, List.setIfInBounds_toArray, List.set_cons_zero, List.set_cons_succ]; go_big_quiet_on) | (go_big_quiet_op; first | go_big_quiet_on)))); exact rfl)); have hs := hl.out.size; (try simp at hs); simp only [List.drop_succ_cons, List.drop_zero]))
                      go_roundw
                      case rel => exact ⟨j + 1, by omega, by go_num, (hR.set hlj _).congr (fun l hl => mrg_put HMG.out HFJ.out (by omega) hl), hB6.set _ _⟩
                      case measure => (simp [intOf]; try omega)
                    · have hq : ((fj : Int) == (mx : Int)) = false := beqf hfm
                      go_wp2_with (first | (refine wl_loadJ ?_) | (refine wl_load ?_) | (refine wl_loadM ?_) | (refine wl_storeJ ?_) | (refine wl_mapNewP ?_) | (refine wl_mapUpdP (L := ?_) ?_ ?_ ?_ ?_ (ho := .inl rfl); rotate_left 2; exact findGomP; assumption; assumption; intro Wm hMm hTm; have hs := hTm.out.1; (try simp at hs); (try have hOm := OwnK.turnP hTm findGomP findOwn); (try have hVm := LowK.turnP hTm (by assumption) findLow)) | (refine wl_fill1 ?_) | (refine wl_fill2 ?_) | (refine wl_storeM ?_) | (refine wl_makeM ?_; intro gm W' hgm hl hT; have hs := hl.out.size; (try simp at hs)) | (refine wl_store (h1 := mC_one _) ?_) | (refine wl_store ?_) | (refine wl_build ?_) | (refine wl_slice ?_) | (refine wl_append (he := eltSp) ?_; intro v' w' ho hg hb; have hs := hg.size; (try simp at hs)) | (refine wl_append ?_; intro v' w' ho hg hb; have hs := hg.size; (try simp at hs); (try rw [ptCs_end] at ho); (try rw [ints_end] at ho); (try simp only [Nat.zero_add, Nat.reduceAdd, List.nil_append, List.cons_append] at ho)) | ((with_reducible apply region_gd (id := 15)); refine region_QA (id := 15) 15 ?_; apply Exists.intro; refine ⟨fun G => ?_, fun W hl => ?_⟩; (· (simp only [List.take_succ_cons, List.take_zero]; (repeat (first | go_big_quiet_skip | (go_big_quiet_want; first | (refine q_loadJ ?_; simp only [Act.put, List.setIfInBounds_toArray, List.set_cons_zero, List.set_cons_succ]; go_big_quiet_on) | (refine q_mapLookP (L := ?_) (v := ?_) ?_ ?_ ?_ (ho := rfl); rotate_left 3; exact findGomP; exact (show RowKit.Hid _ from by assumption).out; simp only [Act.put, List.setIfInBounds_toArray, List.set_cons_zero, List.set_cons_succ]; go_big_quiet_on) | (refine q_load ?_; simp only [Act.put, List.setIfInBounds_toArray, List.set_cons_zero, List.set_cons_succ]; go_big_quiet_on) | (go_big_quiet_op; first | go_big_quiet_on)))); exact rfl)); have hs := hl.out.size; (try simp at hs); simp only [List.drop_succ_cons, List.drop_zero]))
                      go_roundw
                      case rel => exact ⟨j + 1, by omega, by go_num, hR.congr (fun l hl => mrg_skip HMG.out HFJ.out (by omega) hl), hB6⟩
                      case measure => (simp [intOf]; try omega)
                  · obtain rfl : N = j := by omega
                    have hR7 : RowJ wr gc cc N (fun l => ((mrg f a1 a2 l : Nat) : Int)) := hR.congr (fun l hl => by rw [if_pos hl])
                    clear hR
                    go_wp2_with (first | (refine wl_loadJ ?_) | (refine wl_load ?_) | (refine wl_loadM ?_) | (refine wl_storeJ ?_) | (refine wl_mapNewP ?_) | (refine wl_mapUpdP (L := ?_) ?_ ?_ ?_ ?_ (ho := .inl rfl); rotate_left 2; exact findGomP; assumption; assumption; intro Wm hMm hTm; have hs := hTm.out.1; (try simp at hs); (try have hOm := OwnK.turnP hTm findGomP findOwn); (try have hVm := LowK.turnP hTm (by assumption) findLow)) | (refine wl_fill1 ?_) | (refine wl_fill2 ?_) | (refine wl_storeM ?_) | (refine wl_makeM ?_; intro gm W' hgm hl hT; have hs := hl.out.size; (try simp at hs)) | (refine wl_store (h1 := mC_one _) ?_) | (refine wl_store ?_) | (refine wl_build ?_) | (refine wl_slice ?_) | (refine wl_append (he := eltSp) ?_; intro v' w' ho hg hb; have hs := hg.size; (try simp at hs)) | (refine wl_append ?_; intro v' w' ho hg hb; have hs := hg.size; (try simp at hs); (try rw [ptCs_end] at ho); (try rw [ints_end] at ho); (try simp only [Nat.zero_add, Nat.reduceAdd, List.nil_append, List.cons_append] at ho)) | ((with_reducible apply region_gd (id := 15)); refine region_QA (id := 15) 15 ?_; apply Exists.intro; refine ⟨fun G => ?_, fun W hl => ?_⟩; (· (simp only [List.take_succ_cons, List.take_zero]; (repeat (first | go_big_quiet_skip | (go_big_quiet_want; first | (refine q_loadJ ?_; simp only [Act.put, List.setIfInBounds_toArray, List.set_cons_zero, List.set_cons_succ]; go_big_quiet_on) | (refine q_mapLookP (L := ?_) (v := ?_) ?_ ?_ ?_ (ho := rfl); rotate_left 3; exact findGomP; exact (show RowKit.Hid _ from by assumption).out; simp only [Act.put, List.setIfInBounds_toArray, List.set_cons_zero, List.set_cons_succ]; go_big_quiet_on) | (refine q_load ?_; simp only [Act.put, List.setIfInBounds_toArray, List.set_cons_zero, List.set_cons_succ]; go_big_quiet_on) | (go_big_quiet_op; first | go_big_quiet_on)))); exact rfl)); have hs := hl.out.size; (try simp at hs); simp only [List.drop_succ_cons, List.drop_zero]))
                    go_roundw
                    case rel => exact ⟨i + 1, by omega, by go_num, by rw [HF.out]; exact hR7, hB6⟩
                    case measure => (simp [intOf]; try omega)
            · obtain rfl : N = i := by omega
              have hR7 : RowJ wr gc cc N (fun l => ((clsP n ms (q + 1) l : Nat) : Int)) := by rw [clsP_succ, HAL.out]; exact hR
              clear hR
              go_wp2_with (first | (refine wl_loadJ ?_) | (refine wl_load ?_) | (refine wl_loadM ?_) | (refine wl_storeJ ?_) | (refine wl_mapNewP ?_) | (refine wl_mapUpdP (L := ?_) ?_ ?_ ?_ ?_ (ho := .inl rfl); rotate_left 2; exact findGomP; assumption; assumption; intro Wm hMm hTm; have hs := hTm.out.1; (try simp at hs); (try have hOm := OwnK.turnP hTm findGomP findOwn); (try have hVm := LowK.turnP hTm (by assumption) findLow)) | (refine wl_fill1 ?_) | (refine wl_fill2 ?_) | (refine wl_storeM ?_) | (refine wl_makeM ?_; intro gm W' hgm hl hT; have hs := hl.out.size; (try simp at hs)) | (refine wl_store (h1 := mC_one _) ?_) | (refine wl_store ?_) | (refine wl_build ?_) | (refine wl_slice ?_) | (refine wl_append (he := eltSp) ?_; intro v' w' ho hg hb; have hs := hg.size; (try simp at hs)) | (refine wl_append ?_; intro v' w' ho hg hb; have hs := hg.size; (try simp at hs); (try rw [ptCs_end] at ho); (try rw [ints_end] at ho); (try simp only [Nat.zero_add, Nat.reduceAdd, List.nil_append, List.cons_append] at ho)) | ((with_reducible apply region_gd (id := 15)); refine region_QA (id := 15) 15 ?_; apply Exists.intro; refine ⟨fun G => ?_, fun W hl => ?_⟩; (· (simp only [List.take_succ_cons, List.take_zero]; (repeat (first | go_big_quiet_skip | (go_big_quiet_want; first | (refine q_loadJ ?_; simp only [Act.put, List.setIfInBounds_toArray, List.set_cons_zero, List.set_cons_succ]; go_big_quiet_on) | (refine q_mapLookP (L := ?_) (v := ?_) ?_ ?_ ?_ (ho := rfl); rotate_left 3; exact findGomP; exact (show RowKit.Hid _ from by assumption).out; simp only [Act.put, List.setIfInBounds_toArray, List.set_cons_zero, List.set_cons_succ]; go_big_quiet_on) | (refine q_load ?_; simp only [Act.put, List.setIfInBounds_toArray, List.set_cons_zero, List.set_cons_succ]; go_big_quiet_on) | (go_big_quiet_op; first | go_big_quiet_on)))); exact rfl)); have hs := hl.out.size; (try simp at hs); simp only [List.drop_succ_cons, List.drop_zero]))
              go_roundw
              case rel => exact ⟨q + 1, by omega, by go_num, hR7, hB4⟩
              case measure => (simp [intOf]; try omega)
        · obtain rfl : k = q := by omega
          have hPc := PtsK.but hB1 hneP hP0
          have hclk : clsP n ms k = classP n ms := by rw [← hml]; rfl
          rw [hclk] at hR
          obtain ⟨cls, hcls⟩ : ∃ cls, classP n ms = cls := ⟨_, rfl⟩
          rw [hcls] at hR ⊢
          have HCL := Lib.hid hcls
          have hB0 := hB1.size
          clear hP0 hM hcls hclk hB1
          obtain ⟨Wc, hWc⟩ : ∃ Wc, Wc = wr := ⟨_, rfl⟩
          subst hWc
          go_wp2_with (first | (refine wl_loadJ ?_) | (refine wl_load ?_) | (refine wl_loadM ?_) | (refine wl_storeJ ?_) | (refine wl_mapNewP ?_) | (refine wl_mapUpdP (L := ?_) ?_ ?_ ?_ ?_ (ho := .inl rfl); rotate_left 2; exact findGomP; assumption; assumption; intro Wm hMm hTm; have hs := hTm.out.1; (try simp at hs); (try have hOm := OwnK.turnP hTm findGomP findOwn); (try have hVm := LowK.turnP hTm (by assumption) findLow)) | (refine wl_fill1 ?_) | (refine wl_fill2 ?_) | (refine wl_storeM ?_) | (refine wl_makeM ?_; intro gm W' hgm hl hT; have hs := hl.out.size; (try simp at hs)) | (refine wl_store (h1 := mC_one _) ?_) | (refine wl_store ?_) | (refine wl_build ?_) | (refine wl_slice ?_) | (refine wl_append (he := eltSp) ?_; intro v' w' ho hg hb; have hs := hg.size; (try simp at hs)) | (refine wl_append ?_; intro v' w' ho hg hb; have hs := hg.size; (try simp at hs); (try rw [ptCs_end] at ho); (try rw [ints_end] at ho); (try simp only [Nat.zero_add, Nat.reduceAdd, List.nil_append, List.cons_append] at ho)) | ((with_reducible apply region_gd (id := 15)); refine region_QA (id := 15) 15 ?_; apply Exists.intro; refine ⟨fun G => ?_, fun W hl => ?_⟩; (· (simp only [List.take_succ_cons, List.take_zero]; (repeat (first | go_big_quiet_skip | (go_big_quiet_want; first | (refine q_loadJ ?_; simp only [Act.put, List.setIfInBounds_toArray, List.set_cons_zero, List.set_cons_succ]; go_big_quiet_on) | (refine q_mapLookP (L := ?_) (v := ?_) ?_ ?_ ?_ (ho := rfl); rotate_left 3; exact findGomP; exact (show RowKit.Hid _ from by assumption).out; simp only [Act.put, List.setIfInBounds_toArray, List.set_cons_zero, List.set_cons_succ]; go_big_quiet_on) | (refine q_load ?_; simp only [Act.put, List.setIfInBounds_toArray, List.set_cons_zero, List.set_cons_succ]; go_big_quiet_on) | (go_big_quiet_op; first | go_big_quiet_on)))); exact rfl)); have hs := hl.out.size; (try simp at hs); simp only [List.drop_succ_cons, List.drop_zero]))
          have hr0 : RowK (Wc.alloc (.cells #[] 51)) Wc.heap.size #[] 51 := findRow
          have hO0 : OwnK (Wc.alloc (.cells #[] 51)) Wc.heap.size 51 1 (.slice (some ⟨Wc.heap.size, 0, none⟩) 0 0) 0 (tabV []) := OwnK.empty hr0 (Nat.le_refl _)
          have hV2 : LowK Wc (Wc.alloc (.cells #[] 51)) := findLow
          have hT0 : TabK (Wc.alloc (.cells #[] 51)) Wc.heap.size [] := TabK.nil _ _
          have hsz2 : Wc.heap.size ≤ (Wc.alloc (.cells #[] 51)).heap.size := hV2.size
          clear hr0
          generalize Wc.alloc (.cells #[] 51) = W2 at *
          obtain ⟨B2, hB2⟩ : ∃ B2, Wc.heap.size = B2 := ⟨_, rfl⟩
          have hBc := Nat.le_of_eq hB2
          have hBc2 := Nat.le_of_eq hB2.symm
          rw [hB2] at hO0 hsz2 hT0
          rw [hB2]
          obtain ⟨gz, hgz⟩ : ∃ gz, gz = B2 := ⟨_, rfl⟩
          clear hB2
          go_loopw [17, 95] (fun v iv wr => ∃ (i : Nat) (T : List Row3), i ≤ N ∧ iv = .int .i64 (i : Int) ∧ T.map (·.2.2) = tabL cls L N i ∧ TabK wr B2 T ∧ OwnK wr B2 51 1 v T.length (tabV T) ∧ LowK Wc wr ∧ B2 ≤ wr.heap.size) (fun _ iv wr => N - (intOf iv).toNat)
          case atStart => exact ⟨0, [], Nat.zero_le _, rfl, rfl, hT0, hO0, findLow, (by first | omega | (simp; omega))⟩
          case round =>
            clear hO0 hT0 hV2 hsz2
            obtain ⟨i, T, hi, rfl, hTL, hT, hO, hV, hsz⟩ := hrel
            have hTn : T.length ≤ i := by have := congrArg List.length hTL; rw [List.length_map] at this; rw [this]; exact tabL_len cls L N i
            by_cases hli : i < N
            · obtain ⟨W4, hW4⟩ : ∃ W4, W4 = wr := ⟨_, rfl⟩
              subst hW4
              go_wp2_with (first | (refine wl_loadJ ?_) | (refine wl_load ?_) | (refine wl_loadM ?_) | (refine wl_storeJ ?_) | (refine wl_mapNewP ?_) | (refine wl_mapUpdP (L := ?_) ?_ ?_ ?_ ?_ (ho := .inl rfl); rotate_left 2; exact findGomP; assumption; assumption; intro Wm hMm hTm; have hs := hTm.out.1; (try simp at hs); (try have hOm := OwnK.turnP hTm findGomP findOwn); (try have hVm := LowK.turnP hTm (by assumption) findLow)) | (refine wl_fill1 ?_) | (refine wl_fill2 ?_) | (refine wl_storeM ?_) | (refine wl_makeM ?_; intro gm W' hgm hl hT; have hs := hl.out.size; (try simp at hs)) | (refine wl_store (h1 := mC_one _) ?_) | (refine wl_store ?_) | (refine wl_build ?_) | (refine wl_slice ?_) | (refine wl_append (he := eltSp) ?_; intro v' w' ho hg hb; have hs := hg.size; (try simp at hs)) | (refine wl_append ?_; intro v' w' ho hg hb; have hs := hg.size; (try simp at hs); (try rw [ptCs_end] at ho); (try rw [ints_end] at ho); (try simp only [Nat.zero_add, Nat.reduceAdd, List.nil_append, List.cons_append] at ho)) | ((with_reducible apply region_gd (id := 15)); refine region_QA (id := 15) 15 ?_; apply Exists.intro; refine ⟨fun G => ?_, fun W hl => ?_⟩; (· (simp only [List.take_succ_cons, List.take_zero]; (repeat (first | go_big_quiet_skip | (go_big_quiet_want; first | (refine q_loadJ ?_; simp only [Act.put, List.setIfInBounds_toArray, List.set_cons_zero, List.set_cons_succ]; go_big_quiet_on) | (refine q_mapLookP (L := ?_) (v := ?_) ?_ ?_ ?_ (ho := rfl); rotate_left 3; exact findGomP; exact (show RowKit.Hid _ from by assumption).out; simp only [Act.put, List.setIfInBounds_toArray, List.set_cons_zero, List.set_cons_succ]; go_big_quiet_on) | (refine q_load ?_; simp only [Act.put, List.setIfInBounds_toArray, List.set_cons_zero, List.set_cons_succ]; go_big_quiet_on) | (go_big_quiet_op; first | go_big_quiet_on)))); exact rfl)); have hs := hl.out.size; (try simp at hs); simp only [List.drop_succ_cons, List.drop_zero]))
              have hr0 : RowK (W4.alloc (.cells #[] 33)) W4.heap.size #[] 33 := findRow
              have hO5 : OwnK (W4.alloc (.cells #[] 33)) W4.heap.size 33 3 (.slice (some ⟨W4.heap.size, 0, none⟩) 0 0) (filtP cls L i 0).length (ptCs (filtP cls L i 0)) := OwnK.empty hr0 (Nat.le_refl _)
              have hV5 : LowK W4 (W4.alloc (.cells #[] 33)) := findLow
              have hsz5 : W4.heap.size ≤ (W4.alloc (.cells #[] 33)).heap.size := hV5.size
              clear hr0
              generalize W4.alloc (.cells #[] 33) = W5 at *
              obtain ⟨B4, hB4⟩ : ∃ B4, W4.heap.size = B4 := ⟨_, rfl⟩
              have hBd := Nat.le_of_eq hB4
              have hBd2 := Nat.le_of_eq hB4.symm
              rw [hB4] at hO5 hsz5 ⊢
              obtain ⟨gy, hgy⟩ : ∃ gy, gy = B4 := ⟨_, rfl⟩
              clear hB4
              go_loopw [19, 101] (fun v kv wl => ∃ q : Nat, q ≤ N ∧ kv = .int .i64 (q : Int) ∧ OwnK wl B4 33 3 v (filtP cls L i q).length (ptCs (filtP cls L i q)) ∧ LowK W4 wl ∧ B4 ≤ wl.heap.size) (fun _ kv wl => N - (intOf kv).toNat)
              case atStart => exact ⟨0, Nat.zero_le _, rfl, hO5, findLow, (by first | omega | (simp; omega))⟩
              case round =>
                clear hO5 hV5 hsz5
                obtain ⟨q, hq, rfl, hO5, hV5, hsz5⟩ := hrel
                have hfl := filtP_len cls L i q
                have hVc := LowK.link (LowK.lnk hV5) hV
                by_cases hlq : q < N
                · obtain ⟨t, ht⟩ : ∃ t, L.getD q (0, 0, 0) = t := ⟨_, rfl⟩
                  obtain ⟨cq, hcq⟩ : ∃ cq, cls q = cq := ⟨_, rfl⟩
                  have c1 : CellK wr gc q (.int .i64 (cq : Int)) := by have := (hR.link (LowK.lnk hVc)).cell hlq; rw [hcq] at this; exact this
                  have hPr := PtsK.link (LowK.lnk hVc) hPc
                  by_cases he : (cq : Int) = (i : Int)
                  · have hE : ((cq : Int) == (i : Int)) = true := beqt he
                    have HF := Lib.hid (filtP_yes (cls := cls) (L := L) (i := i) (k := q) (by rw [hcq]; omega) (show L.getD q p0 = t from ht))
                    clear he hcq
                    generalize filtP cls L i q = fl at *
                    go_wp2_with (first | (refine wl_loadJ ?_) | (refine wl_load ?_) | (refine wl_loadM ?_) | (refine wl_storeJ ?_) | (refine wl_mapNewP ?_) | (refine wl_mapUpdP (L := ?_) ?_ ?_ ?_ ?_ (ho := .inl rfl); rotate_left 2; exact findGomP; assumption; assumption; intro Wm hMm hTm; have hs := hTm.out.1; (try simp at hs); (try have hOm := OwnK.turnP hTm findGomP findOwn); (try have hVm := LowK.turnP hTm (by assumption) findLow)) | (refine wl_fill1 ?_) | (refine wl_fill2 ?_) | (refine wl_storeM ?_) | (refine wl_makeM ?_; intro gm W' hgm hl hT; have hs := hl.out.size; (try simp at hs)) | (refine wl_store (h1 := mC_one _) ?_) | (refine wl_store ?_) | (refine wl_build ?_) | (refine wl_slice ?_) | (refine wl_append (he := eltSp) ?_; intro v' w' ho hg hb; have hs := hg.size; (try simp at hs)) | (refine wl_append ?_; intro v' w' ho hg hb; have hs := hg.size; (try simp at hs); (try rw [ptCs_end] at ho); (try rw [ints_end] at ho); (try simp only [Nat.zero_add, Nat.reduceAdd, List.nil_append, List.cons_append] at ho)) | ((with_reducible apply region_gd (id := 15)); refine region_QA (id := 15) 15 ?_; apply Exists.intro; refine ⟨fun G => ?_, fun W hl => ?_⟩; (· (simp only [List.take_succ_cons, List.take_zero]; (repeat (first | go_big_quiet_skip | (go_big_quiet_want; first | (refine q_loadJ ?_; simp only [Act.put, List.setIfInBounds_toArray, List.set_cons_zero, List.set_cons_succ]; go_big_quiet_on) | (refine q_mapLookP (L := ?_) (v := ?_) ?_ ?_ ?_ (ho := rfl); rotate_left 3; exact findGomP; exact (show RowKit.Hid _ from by assumption).out; simp only [Act.put, List.setIfInBounds_toArray, List.set_cons_zero, List.set_cons_succ]; go_big_quiet_on) | (refine q_load ?_; simp only [Act.put, List.setIfInBounds_toArray, List.set_cons_zero, List.set_cons_succ]; go_big_quiet_on) | (go_big_quiet_op; first | go_big_quiet_on)))); exact rfl)); have hs := hl.out.size; (try simp at hs); simp only [List.drop_succ_cons, List.drop_zero]))
                    go_roundw
                    case rel => exact ⟨q + 1, by omega, by go_num, by rw [HF.out, List.length_append]; exact ho, findLow, (by first | omega | (simp; omega))⟩
                    case measure => (simp [intOf]; try omega)
                  · have hE : ((cq : Int) == (i : Int)) = false := beqf he
                    have HF := Lib.hid (filtP_no (cls := cls) (L := L) (i := i) (k := q) (by rw [hcq]; omega))
                    clear he hcq
                    go_wp2_with (first | (refine wl_loadJ ?_) | (refine wl_load ?_) | (refine wl_loadM ?_) | (refine wl_storeJ ?_) | (refine wl_mapNewP ?_) | (refine wl_mapUpdP (L := ?_) ?_ ?_ ?_ ?_ (ho := .inl rfl); rotate_left 2; exact findGomP; assumption; assumption; intro Wm hMm hTm; have hs := hTm.out.1; (try simp at hs); (try have hOm := OwnK.turnP hTm findGomP findOwn); (try have hVm := LowK.turnP hTm (by assumption) findLow)) | (refine wl_fill1 ?_) | (refine wl_fill2 ?_) | (refine wl_storeM ?_) | (refine wl_makeM ?_; intro gm W' hgm hl hT; have hs := hl.out.size; (try simp at hs)) | (refine wl_store (h1 := mC_one _) ?_) | (refine wl_store ?_) | (refine wl_build ?_) | (refine wl_slice ?_) | (refine wl_append (he := eltSp) ?_; intro v' w' ho hg hb; have hs := hg.size; (try simp at hs)) | (refine wl_append ?_; intro v' w' ho hg hb; have hs := hg.size; (try simp at hs); (try rw [ptCs_end] at ho); (try rw [ints_end] at ho); (try simp only [Nat.zero_add, Nat.reduceAdd, List.nil_append, List.cons_append] at ho)) | ((with_reducible apply region_gd (id := 15)); refine region_QA (id := 15) 15 ?_; apply Exists.intro; refine ⟨fun G => ?_, fun W hl => ?_⟩; (· (simp only [List.take_succ_cons, List.take_zero]; (repeat (first | go_big_quiet_skip | (go_big_quiet_want; first | (refine q_loadJ ?_; simp only [Act.put, List.setIfInBounds_toArray, List.set_cons_zero, List.set_cons_succ]; go_big_quiet_on) | (refine q_mapLookP (L := ?_) (v := ?_) ?_ ?_ ?_ (ho := rfl); rotate_left 3; exact findGomP; exact (show RowKit.Hid _ from by assumption).out; simp only [Act.put, List.setIfInBounds_toArray, List.set_cons_zero, List.set_cons_succ]; go_big_quiet_on) | (refine q_load ?_; simp only [Act.put, List.setIfInBounds_toArray, List.set_cons_zero, List.set_cons_succ]; go_big_quiet_on) | (go_big_quiet_op; first | go_big_quiet_on)))); exact rfl)); have hs := hl.out.size; (try simp at hs); simp only [List.drop_succ_cons, List.drop_zero]))
                    go_roundw
                    case rel => exact ⟨q + 1, by omega, by go_num, by rw [HF.out]; exact findOwn, findLow, (by first | omega | (simp; omega))⟩
                    case measure => (simp [intOf]; try omega)
                · obtain rfl : N = q := by omega
                  obtain ⟨fl, hfl2⟩ : ∃ fl, filtP cls L i N = fl := ⟨_, rfl⟩
                  rw [hfl2] at hO5 hfl
                  have hO' := hO.link (LowK.lnk hV5)
                  have hT' := hT.link (LowK.lnk hV5)
                  by_cases hpos : 0 < fl.length
                  · have HTL := Lib.hid (tabL_yes hfl2 hpos)
                    obtain ⟨g, cap, rfl, hgl, hgl2, -⟩ := OwnK.pts hO5 rfl hpos
                    have hpos2 : (0 : Int) < (fl.length : Int) := by omega
                    have hTne : Hid (∀ t ∈ T, t.1 ≠ g) := Lib.hid (fun t ht => by have := hT.lt ht; omega)
                    clear hO hT hfl2
                    go_wp2_with (first | (refine wl_loadJ ?_) | (refine wl_load ?_) | (refine wl_loadM ?_) | (refine wl_storeJ ?_) | (refine wl_mapNewP ?_) | (refine wl_mapUpdP (L := ?_) ?_ ?_ ?_ ?_ (ho := .inl rfl); rotate_left 2; exact findGomP; assumption; assumption; intro Wm hMm hTm; have hs := hTm.out.1; (try simp at hs); (try have hOm := OwnK.turnP hTm findGomP findOwn); (try have hVm := LowK.turnP hTm (by assumption) findLow)) | (refine wl_fill1 ?_) | (refine wl_fill2 ?_) | (refine wl_storeM ?_) | (refine wl_makeM ?_; intro gm W' hgm hl hT; have hs := hl.out.size; (try simp at hs)) | (refine wl_store (h1 := mC_one _) ?_) | (refine wl_store ?_) | (refine wl_build ?_) | (refine wl_slice ?_) | (refine wl_append (he := eltSp) ?_; intro v' w' ho hg hb; have hs := hg.size; (try simp at hs)) | (refine wl_append ?_; intro v' w' ho hg hb; have hs := hg.size; (try simp at hs); (try rw [ptCs_end] at ho); (try rw [ints_end] at ho); (try simp only [Nat.zero_add, Nat.reduceAdd, List.nil_append, List.cons_append] at ho)) | ((with_reducible apply region_gd (id := 15)); refine region_QA (id := 15) 15 ?_; apply Exists.intro; refine ⟨fun G => ?_, fun W hl => ?_⟩; (· (simp only [List.take_succ_cons, List.take_zero]; (repeat (first | go_big_quiet_skip | (go_big_quiet_want; first | (refine q_loadJ ?_; simp only [Act.put, List.setIfInBounds_toArray, List.set_cons_zero, List.set_cons_succ]; go_big_quiet_on) | (refine q_mapLookP (L := ?_) (v := ?_) ?_ ?_ ?_ (ho := rfl); rotate_left 3; exact findGomP; exact (show RowKit.Hid _ from by assumption).out; simp only [Act.put, List.setIfInBounds_toArray, List.set_cons_zero, List.set_cons_succ]; go_big_quiet_on) | (refine q_load ?_; simp only [Act.put, List.setIfInBounds_toArray, List.set_cons_zero, List.set_cons_succ]; go_big_quiet_on) | (go_big_quiet_op; first | go_big_quiet_on)))); exact rfl)); have hs := hl.out.size; (try simp at hs); simp only [List.drop_succ_cons, List.drop_zero]))
                    go_roundw
                    case rel => exact ⟨i + 1, T ++ [(g, cap, fl)], by omega, by go_num, by rw [List.map_append, hTL, HTL.out]; rfl, TabK.snoc (TabK.grew hg (hO'.alloc _) (hT'.link (LowK.lnk findLow))) hpos (OwnK.lower (by omega) (OwnK.grew hg (hO5.alloc _) (fun b hb => own_types hO5 hO' (by decide) b hb))) hTne.out, by rw [List.length_append, ← tabV_snoc]; exact ho, findLow, (by first | omega | (simp; omega))⟩
                    case measure => (simp [intOf]; try omega)
                  · have HTL := Lib.hid (tabL_no hfl2 hpos)
                    have hl0 : fl.length = 0 := by omega
                    obtain ⟨bo, cp, rfl⟩ := hO5.form
                    rw [hl0]
                    clear hO hT hfl2 hl0
                    go_wp2_with (first | (refine wl_loadJ ?_) | (refine wl_load ?_) | (refine wl_loadM ?_) | (refine wl_storeJ ?_) | (refine wl_mapNewP ?_) | (refine wl_mapUpdP (L := ?_) ?_ ?_ ?_ ?_ (ho := .inl rfl); rotate_left 2; exact findGomP; assumption; assumption; intro Wm hMm hTm; have hs := hTm.out.1; (try simp at hs); (try have hOm := OwnK.turnP hTm findGomP findOwn); (try have hVm := LowK.turnP hTm (by assumption) findLow)) | (refine wl_fill1 ?_) | (refine wl_fill2 ?_) | (refine wl_storeM ?_) | (refine wl_makeM ?_; intro gm W' hgm hl hT; have hs := hl.out.size; (try simp at hs)) | (refine wl_store (h1 := mC_one _) ?_) | (refine wl_store ?_) | (refine wl_build ?_) | (refine wl_slice ?_) | (refine wl_append (he := eltSp) ?_; intro v' w' ho hg hb; have hs := hg.size; (try simp at hs)) | (refine wl_append ?_; intro v' w' ho hg hb; have hs := hg.size; (try simp at hs); (try rw [ptCs_end] at ho); (try rw [ints_end] at ho); (try simp only [Nat.zero_add, Nat.reduceAdd, List.nil_append, List.cons_append] at ho)) | ((with_reducible apply region_gd (id := 15)); refine region_QA (id := 15) 15 ?_; apply Exists.intro; refine ⟨fun G => ?_, fun W hl => ?_⟩; (· (simp only [List.take_succ_cons, List.take_zero]; (repeat (first | go_big_quiet_skip | (go_big_quiet_want; first | (refine q_loadJ ?_; simp only [Act.put, List.setIfInBounds_toArray, List.set_cons_zero, List.set_cons_succ]; go_big_quiet_on) | (refine q_mapLookP (L := ?_) (v := ?_) ?_ ?_ ?_ (ho := rfl); rotate_left 3; exact findGomP; exact (show RowKit.Hid _ from by assumption).out; simp only [Act.put, List.setIfInBounds_toArray, List.set_cons_zero, List.set_cons_succ]; go_big_quiet_on) | (refine q_load ?_; simp only [Act.put, List.setIfInBounds_toArray, List.set_cons_zero, List.set_cons_succ]; go_big_quiet_on) | (go_big_quiet_op; first | go_big_quiet_on)))); exact rfl)); have hs := hl.out.size; (try simp at hs); simp only [List.drop_succ_cons, List.drop_zero]))
                    go_roundw
                    case rel => exact ⟨i + 1, T, by omega, by go_num, by rw [HTL.out]; exact hTL, hT', hO', findLow, (by first | omega | (simp; omega))⟩
                    case measure => (simp [intOf]; try omega)
            · obtain rfl : N = i := by omega
              obtain ⟨bo, cp, rfl⟩ := hO.form
              go_wp2_with (first | (refine wl_loadJ ?_) | (refine wl_load ?_) | (refine wl_loadM ?_) | (refine wl_storeJ ?_) | (refine wl_mapNewP ?_) | (refine wl_mapUpdP (L := ?_) ?_ ?_ ?_ ?_ (ho := .inl rfl); rotate_left 2; exact findGomP; assumption; assumption; intro Wm hMm hTm; have hs := hTm.out.1; (try simp at hs); (try have hOm := OwnK.turnP hTm findGomP findOwn); (try have hVm := LowK.turnP hTm (by assumption) findLow)) | (refine wl_fill1 ?_) | (refine wl_fill2 ?_) | (refine wl_storeM ?_) | (refine wl_makeM ?_; intro gm W' hgm hl hT; have hs := hl.out.size; (try simp at hs)) | (refine wl_store (h1 := mC_one _) ?_) | (refine wl_store ?_) | (refine wl_build ?_) | (refine wl_slice ?_) | (refine wl_append (he := eltSp) ?_; intro v' w' ho hg hb; have hs := hg.size; (try simp at hs)) | (refine wl_append ?_; intro v' w' ho hg hb; have hs := hg.size; (try simp at hs); (try rw [ptCs_end] at ho); (try rw [ints_end] at ho); (try simp only [Nat.zero_add, Nat.reduceAdd, List.nil_append, List.cons_append] at ho)) | ((with_reducible apply region_gd (id := 15)); refine region_QA (id := 15) 15 ?_; apply Exists.intro; refine ⟨fun G => ?_, fun W hl => ?_⟩; (· (simp only [List.take_succ_cons, List.take_zero]; (repeat (first | go_big_quiet_skip | (go_big_quiet_want; first | (refine q_loadJ ?_; simp only [Act.put, List.setIfInBounds_toArray, List.set_cons_zero, List.set_cons_succ]; go_big_quiet_on) | (refine q_mapLookP (L := ?_) (v := ?_) ?_ ?_ ?_ (ho := rfl); rotate_left 3; exact findGomP; exact (show RowKit.Hid _ from by assumption).out; simp only [Act.put, List.setIfInBounds_toArray, List.set_cons_zero, List.set_cons_succ]; go_big_quiet_on) | (refine q_load ?_; simp only [Act.put, List.setIfInBounds_toArray, List.set_cons_zero, List.set_cons_succ]; go_big_quiet_on) | (go_big_quiet_op; first | go_big_quiet_on)))); exact rfl)); have hs := hl.out.size; (try simp at hs); simp only [List.drop_succ_cons, List.drop_zero]))
              (apply ret_one Try.results31; (conv => lhs; whnf); exact rfl)
              have hwB : w.heap.size ≤ B2 := by have := hVi.size; omega
              exact ⟨_, T, rfl, by rw [HCL.out]; exact hTL, TabK.lower hwB hT, OwnK.lower hwB hO, LowK.link (LowK.lnk hV) hVi⟩
end Go.Proofs.Ytoagfpdicpcjnaa
