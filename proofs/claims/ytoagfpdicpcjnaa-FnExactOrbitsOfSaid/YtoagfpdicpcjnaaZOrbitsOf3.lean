/- Texts of the claim, in build order: OB5, Q1, Q2, P5, P6, F4, F5, F6, Q3. No condition. -/
import Derived.Maps.AppendAt
import Derived.Test.YtoagfpdicpcjnaaZOrbitsOf2
/- Contracts: the reference's orbit of a point; the reference's AreInOneOrbit. -- maps -- gomaps -- slice2 -/
namespace Go.Proofs.Ytoagfpdicpcjnaa
open Go.RowKit
set_option linter.unusedVariables false
set_option linter.unusedSimpArgs false
theorem eqP_self (z : Pt) : eqP z z = true := eqP_iff.2 rfl
theorem eqP_no {z p : Pt} (h : ¬ z = p) : eqP z p = false := by rw [Bool.eq_false_iff]; exact fun e => h (eqP_iff.1 e)
theorem atP_mem {l : List Pt} {t : Pt} (h : t ∈ l) : ∃ q, q < l.length ∧ l.getD q p0 = t := by
  obtain ⟨q, hq, e⟩ := List.mem_iff_getElem.1 h
  exact ⟨q, hq, by rw [List.getD_eq_getElem?_getD, List.getElem?_eq_getElem hq]; exact e⟩
/-- A list of points that may be empty. -/
def PtsE (W : World) (b : Option Addr) (n : Nat) (L : List Pt) : Prop := L.length = n ∧ (0 < n → ∃ g, b = some ⟨g, 0, none⟩ ∧ PtsK W g 0 n L)
theorem PtsE.link {w W : World} {b : Option Addr} {n : Nat} {L : List Pt} (l : Link w W) (h : PtsE w b n L) : PtsE W b n L := ⟨h.1, fun hn => by obtain ⟨g, e, hP⟩ := h.2 hn; exact ⟨g, e, hP.link l⟩⟩
theorem PtsE.of {w : World} {g n : Nat} {L : List Pt} (hl : L.length = n) (h : PtsK w g 0 n L) : PtsE w (some ⟨g, 0, none⟩) n L := ⟨hl, fun _ => ⟨g, rfl, h⟩⟩
set_option maxRecDepth 20000 in
set_option maxHeartbeats 8000000 in
theorem Has_P (p : Pt) (b : Option Addr) (n c : Nat) (L : List Pt) (w : World) (hn : n ≤ 1000000) (hP : PtsE w b n L) {v : Bool} (hv : decide (p ∈ L) = v) :
    Calls Try.prog 29 #[.slice b n c, pV p] w (Ret w (.bool v)) := by
  have hl := hP.1
  have HV := Lib.hid hv
  clear hv
  go_enter Try.func29, Try.ntmps29
  go_wp2_with (first | (refine wl_loadM ?_) | (refine wl_load ?_) | (refine wl_fill1 ?_) | (refine wl_fill2 ?_) | (refine wl_storeM ?_) | (refine wl_makeM ?_; intro gm W' hgm hl hT; have hs := hl.out.size; (try simp at hs)) | (refine wl_store (h1 := mC_one _) ?_) | (refine wl_sliceM ?_) | (refine wl_append (he := eltMp) (h1 := mC_one _) ?_; intro v' w' ho hg hb; have hs := hg.size; (try simp at hs); rw [mCs_snoc] at ho; (try obtain ⟨gz, cz, rfl, hzb, hzl, -⟩ := OwnK.maps ho (by simp) (by omega))) | (refine wl_mapLook true ?_ (hM := findGom) (hv := by (first | exact decide_eq_true (by assumption)))) | (refine wl_mapLook false ?_ (hM := findGom) (hv := by (first | exact decide_eq_false (by assumption)))) | (refine wl_store ?_) | (refine wl_build ?_) | (refine wl_slice ?_) | (refine wl_slice2 ?_) | (refine wl_append ?_; intro v' w' ho hg hb; have hs := hg.size; (try simp at hs); (try rw [ptCs_end] at ho); (try rw [ints_end] at ho); (try simp only [Nat.zero_add, Nat.reduceAdd, List.nil_append, List.cons_append] at ho)) | ((with_reducible apply region_gd (id := 4)); refine region_QA (id := 4) 6 ?_; apply Exists.intro; refine ⟨fun G => ?_, fun W hl => ?_⟩; (· (simp only [List.take_succ_cons, List.take_zero]; (repeat (first | go_big_quiet_skip | (go_big_quiet_want; first | (refine q_loadM ?_; simp only [Act.put, List.setIfInBounds_toArray, List.set_cons_zero, List.set_cons_succ]; go_big_quiet_on) | (refine q_load ?_; simp only [Act.put, List.setIfInBounds_toArray, List.set_cons_zero, List.set_cons_succ]; go_big_quiet_on) | (go_big_quiet_op; first | go_big_quiet_on)))); exact rfl)); have hs := hl.out.size; (try simp at hs); simp only [List.drop_succ_cons, List.drop_zero]))
  have hbx : RowK (w.alloc (.cells (pC p) 33)) w.heap.size (pC p) 33 := findRow
  have hP1 : PtsE (w.alloc (.cells (pC p) 33)) b n L := hP.link (LowK.lnk findLow)
  have hV1 : LowK w (w.alloc (.cells (pC p) 33)) := findLow
  have hsz1 : w.heap.size < (w.alloc (.cells (pC p) 33)).heap.size := by simp
  clear hP
  generalize w.alloc (.cells (pC p) 33) = W1 at *
  go_loopw [5] (fun iv wr => ∃ i : Nat, i ≤ n ∧ iv = .int .i64 (i : Int) ∧ LowK W1 wr ∧ ∀ q, q < i → L.getD q p0 ≠ p) (fun iv wr => n - (intOf iv).toNat)
  case atStart => exact ⟨0, Nat.zero_le _, rfl, LowK.refl _, fun q hq => absurd hq (Nat.not_lt_zero _)⟩
  case round =>
    obtain ⟨i, hi, rfl, hV, hno⟩ := hrel
    have hr := RowK.link (LowK.lnk hV) hbx
    have hV2 := LowK.link (LowK.lnk hV) hV1
    by_cases hlt : i < n
    · obtain ⟨g, rfl, hPk⟩ := hP1.2 (by omega)
      have hPr := PtsK.link (LowK.lnk hV) hPk
      obtain ⟨z, hz⟩ : ∃ z, L.getD i p0 = z := ⟨_, rfl⟩
      have hz2 : L.getD i (0, 0, 0) = z := hz
      have HZ := Lib.hid hz
      clear hz
      by_cases hzp : z = p
      · subst hzp
        have hd := eqP_self z
        go_wp2_with (first | (refine wl_loadM ?_) | (refine wl_load ?_) | (refine wl_fill1 ?_) | (refine wl_fill2 ?_) | (refine wl_storeM ?_) | (refine wl_makeM ?_; intro gm W' hgm hl hT; have hs := hl.out.size; (try simp at hs)) | (refine wl_store (h1 := mC_one _) ?_) | (refine wl_sliceM ?_) | (refine wl_append (he := eltMp) (h1 := mC_one _) ?_; intro v' w' ho hg hb; have hs := hg.size; (try simp at hs); rw [mCs_snoc] at ho; (try obtain ⟨gz, cz, rfl, hzb, hzl, -⟩ := OwnK.maps ho (by simp) (by omega))) | (refine wl_mapLook true ?_ (hM := findGom) (hv := by (first | exact decide_eq_true (by assumption)))) | (refine wl_mapLook false ?_ (hM := findGom) (hv := by (first | exact decide_eq_false (by assumption)))) | (refine wl_store ?_) | (refine wl_build ?_) | (refine wl_slice ?_) | (refine wl_slice2 ?_) | (refine wl_append ?_; intro v' w' ho hg hb; have hs := hg.size; (try simp at hs); (try rw [ptCs_end] at ho); (try rw [ints_end] at ho); (try simp only [Nat.zero_add, Nat.reduceAdd, List.nil_append, List.cons_append] at ho)) | ((with_reducible apply region_gd (id := 4)); refine region_QA (id := 4) 6 ?_; apply Exists.intro; refine ⟨fun G => ?_, fun W hl => ?_⟩; (· (simp only [List.take_succ_cons, List.take_zero]; (repeat (first | go_big_quiet_skip | (go_big_quiet_want; first | (refine q_loadM ?_; simp only [Act.put, List.setIfInBounds_toArray, List.set_cons_zero, List.set_cons_succ]; go_big_quiet_on) | (refine q_load ?_; simp only [Act.put, List.setIfInBounds_toArray, List.set_cons_zero, List.set_cons_succ]; go_big_quiet_on) | (go_big_quiet_op; first | go_big_quiet_on)))); exact rfl)); have hs := hl.out.size; (try simp at hs); simp only [List.drop_succ_cons, List.drop_zero]))
        have hm : decide (z ∈ L) = true := by
          rw [decide_eq_true_iff]; rw [← HZ.out, List.getD_eq_getElem?_getD, List.getElem?_eq_getElem (by omega)]; exact List.getElem_mem _
        rw [HV.out] at hm
        (apply ret_one Try.results29; (conv => lhs; whnf); exact rfl)
        rw [hm]
        exact ret_ret rfl findLow
      · have hd := eqP_no hzp
        go_wp2_with (first | (refine wl_loadM ?_) | (refine wl_load ?_) | (refine wl_fill1 ?_) | (refine wl_fill2 ?_) | (refine wl_storeM ?_) | (refine wl_makeM ?_; intro gm W' hgm hl hT; have hs := hl.out.size; (try simp at hs)) | (refine wl_store (h1 := mC_one _) ?_) | (refine wl_sliceM ?_) | (refine wl_append (he := eltMp) (h1 := mC_one _) ?_; intro v' w' ho hg hb; have hs := hg.size; (try simp at hs); rw [mCs_snoc] at ho; (try obtain ⟨gz, cz, rfl, hzb, hzl, -⟩ := OwnK.maps ho (by simp) (by omega))) | (refine wl_mapLook true ?_ (hM := findGom) (hv := by (first | exact decide_eq_true (by assumption)))) | (refine wl_mapLook false ?_ (hM := findGom) (hv := by (first | exact decide_eq_false (by assumption)))) | (refine wl_store ?_) | (refine wl_build ?_) | (refine wl_slice ?_) | (refine wl_slice2 ?_) | (refine wl_append ?_; intro v' w' ho hg hb; have hs := hg.size; (try simp at hs); (try rw [ptCs_end] at ho); (try rw [ints_end] at ho); (try simp only [Nat.zero_add, Nat.reduceAdd, List.nil_append, List.cons_append] at ho)) | ((with_reducible apply region_gd (id := 4)); refine region_QA (id := 4) 6 ?_; apply Exists.intro; refine ⟨fun G => ?_, fun W hl => ?_⟩; (· (simp only [List.take_succ_cons, List.take_zero]; (repeat (first | go_big_quiet_skip | (go_big_quiet_want; first | (refine q_loadM ?_; simp only [Act.put, List.setIfInBounds_toArray, List.set_cons_zero, List.set_cons_succ]; go_big_quiet_on) | (refine q_load ?_; simp only [Act.put, List.setIfInBounds_toArray, List.set_cons_zero, List.set_cons_succ]; go_big_quiet_on) | (go_big_quiet_op; first | go_big_quiet_on)))); exact rfl)); have hs := hl.out.size; (try simp at hs); simp only [List.drop_succ_cons, List.drop_zero]))
        go_roundw
        case rel => exact ⟨i + 1, by omega, by go_num, findLow, fun q hq => by
          by_cases e : q = i
          · subst e; rw [HZ.out]; exact hzp
          · exact hno q (by omega)⟩
        case measure => (simp [intOf]; try omega)
    · obtain rfl : n = i := by omega
      go_wp2_with (first | (refine wl_loadM ?_) | (refine wl_load ?_) | (refine wl_fill1 ?_) | (refine wl_fill2 ?_) | (refine wl_storeM ?_) | (refine wl_makeM ?_; intro gm W' hgm hl hT; have hs := hl.out.size; (try simp at hs)) | (refine wl_store (h1 := mC_one _) ?_) | (refine wl_sliceM ?_) | (refine wl_append (he := eltMp) (h1 := mC_one _) ?_; intro v' w' ho hg hb; have hs := hg.size; (try simp at hs); rw [mCs_snoc] at ho; (try obtain ⟨gz, cz, rfl, hzb, hzl, -⟩ := OwnK.maps ho (by simp) (by omega))) | (refine wl_mapLook true ?_ (hM := findGom) (hv := by (first | exact decide_eq_true (by assumption)))) | (refine wl_mapLook false ?_ (hM := findGom) (hv := by (first | exact decide_eq_false (by assumption)))) | (refine wl_store ?_) | (refine wl_build ?_) | (refine wl_slice ?_) | (refine wl_slice2 ?_) | (refine wl_append ?_; intro v' w' ho hg hb; have hs := hg.size; (try simp at hs); (try rw [ptCs_end] at ho); (try rw [ints_end] at ho); (try simp only [Nat.zero_add, Nat.reduceAdd, List.nil_append, List.cons_append] at ho)) | ((with_reducible apply region_gd (id := 4)); refine region_QA (id := 4) 6 ?_; apply Exists.intro; refine ⟨fun G => ?_, fun W hl => ?_⟩; (· (simp only [List.take_succ_cons, List.take_zero]; (repeat (first | go_big_quiet_skip | (go_big_quiet_want; first | (refine q_loadM ?_; simp only [Act.put, List.setIfInBounds_toArray, List.set_cons_zero, List.set_cons_succ]; go_big_quiet_on) | (refine q_load ?_; simp only [Act.put, List.setIfInBounds_toArray, List.set_cons_zero, List.set_cons_succ]; go_big_quiet_on) | (go_big_quiet_op; first | go_big_quiet_on)))); exact rfl)); have hs := hl.out.size; (try simp at hs); simp only [List.drop_succ_cons, List.drop_zero]))
      have hm : decide (p ∈ L) = false := by
        rw [decide_eq_false_iff_not]; intro hm
        obtain ⟨q, hq, e⟩ := atP_mem hm
        exact hno q (by omega) e
      rw [HV.out] at hm
      (apply ret_one Try.results29; (conv => lhs; whnf); exact rfl)
      rw [hm]
      exact ret_ret rfl findLow
theorem image_S {p : Int} {m : M9} {a r : Pt} (w : World) (hr : imgP p m a = r) (hp : prB p = true) (hm : InM m) (ha : In13 a) : Calls Try.prog 48 #[.int .i64 p, mV m, pV a] w (Ret w (pV r)) := by rw [← hr]; exact l02Image_any p m a w hp hm ha
/-- The whole orbit, an own list. -/
def OrbPost (w : World) (S : List Pt) : Ending → World → Prop := fun e w' => ∃ g cap, e = .returned (.slice (some ⟨g, 0, none⟩) S.length cap) ∧ OwnK w' w.heap.size 33 3 (.slice (some ⟨g, 0, none⟩) S.length cap) S.length (ptCs S) ∧ LowK w w' ∧ PtsK w' g 0 S.length S
theorem OwnK.pt1 {W : World} {B g : Nat} {T : TypeId} {t : Pt} (h : RowK W g (pC t) T) (hB : B ≤ g) : OwnK W B T 3 (.slice (some ⟨g, 0, none⟩) 1 1) 1 (ptCs [t]) :=
  ⟨⟨by simp [ptCs, ptC], .inr ⟨g, 1, pC t, rfl, hB, h.out, by omega, by decide, rfl, by simp [ptCs, ptC, pC]⟩⟩⟩
set_option maxRecDepth 20000 in
set_option maxHeartbeats 8000000 in
theorem Orbit_S (n : Nat) (b : Option Addr) (k c : Nat) (ms : List M9) (a : Pt) (K : Nat) (S : List Pt) (w : World) (h : MsOk n ms) (hk : k ≤ 8) (hms : ListM w b k ms) (ha : a ∈ allP n) (hK : WholeP n ms a K) (hS : seqP n ms a K = S) :
    Calls Try.prog 30 #[.int .i64 (n : Int), .slice b k c, pV a] w (OrbPost w S) := by
  obtain ⟨h3, h13⟩ := h.n13
  have hml := hms.out.1
  have HH := Lib.hid h
  have HS := Lib.hid hS
  have HK := Lib.hid hK
  have HA := Lib.hid ha
  have hp := h.pr
  have hin : ∀ m ∈ ms, InM m := fun m hm => okM_inM (h.ok m hm)
  clear h hS hK ha
  go_enter Try.func30, Try.ntmps30
  go_wp2_with (first | (refine wl_loadM ?_) | (refine wl_load ?_) | (refine wl_fill1 ?_) | (refine wl_fill2 ?_) | (refine wl_storeM ?_) | (refine wl_makeM ?_; intro gm W' hgm hl hT; have hs := hl.out.size; (try simp at hs)) | (refine wl_store (h1 := mC_one _) ?_) | (refine wl_sliceM ?_) | (refine wl_append (he := eltMp) (h1 := mC_one _) ?_; intro v' w' ho hg hb; have hs := hg.size; (try simp at hs); rw [mCs_snoc] at ho; (try obtain ⟨gz, cz, rfl, hzb, hzl, -⟩ := OwnK.maps ho (by simp) (by omega))) | (refine wl_mapLook true ?_ (hM := findGom) (hv := by (first | exact decide_eq_true (by assumption)))) | (refine wl_mapLook false ?_ (hM := findGom) (hv := by (first | exact decide_eq_false (by assumption)))) | (refine wl_store ?_) | (refine wl_build ?_) | (refine wl_slice ?_) | (refine wl_slice2 ?_) | (refine wl_append ?_; intro v' w' ho hg hb; have hs := hg.size; (try simp at hs); (try rw [ptCs_end] at ho); (try rw [ints_end] at ho); (try simp only [Nat.zero_add, Nat.reduceAdd, List.nil_append, List.cons_append] at ho)) | ((with_reducible apply region_gd (id := 8)); refine region_QNA (id := 8) 11 [⟨10, 10, #[.int .i64 0, .int .i64 0, .int .i64 0], 33⟩] (.k (.k (.k (.k (.k (.k (.k (.k (.k (.k (.d (.d .n)))))))))))) ⟨(fun o ho ρ W => by obtain rfl : _ = o := Option.some.inj ho; simp [execOp, go_sem]), trivial⟩ ?_; apply Exists.intro; refine ⟨fun G => ?_, fun g W hl hg hd => ?_⟩; (· ((repeat (first | go_big_quiet_skip | (go_big_quiet_want; first | (refine q_loadM ?_; simp only [Act.put, List.setIfInBounds_toArray, List.set_cons_zero, List.set_cons_succ]; go_big_quiet_on) | (refine q_load ?_; simp only [Act.put, List.setIfInBounds_toArray, List.set_cons_zero, List.set_cons_succ]; go_big_quiet_on) | (go_big_quiet_op; first | go_big_quiet_on)))); exact rfl)); obtain ⟨⟨q10, k10⟩, -⟩ := hg; have hs := hl.out.size; (try simp at hs); dsimp only at q10 k10; (try simp at q10); have l10 := k10.lt; clear hd; simp only [List.map_cons, List.map_nil, puts, Act.put, List.setIfInBounds_toArray, List.set_cons_zero, List.set_cons_succ, List.drop_succ_cons, List.drop_zero]; generalize g 10 = g10 at *; skip))
  have hr0 : RowK ((w.alloc (.cells (pC a) 33)).alloc (.cells (pC a) 33)) (w.heap.size + 1) (pC a) 33 := findRow
  have hO0 : OwnK ((w.alloc (.cells (pC a) 33)).alloc (.cells (pC a) 33)) w.heap.size 33 3 (.slice (some ⟨w.heap.size + 1, 0, none⟩) 1 1) (seqP n ms a 0).length (ptCs (seqP n ms a 0)) := OwnK.pt1 hr0 (by omega)
  have hV0 : LowK w ((w.alloc (.cells (pC a) 33)).alloc (.cells (pC a) 33)) := findLow
  clear hr0
  generalize (w.alloc (.cells (pC a) 33)).alloc (.cells (pC a) 33) = W1 at *
  have hsz0 : w.heap.size ≤ W1.heap.size := hV0.size
  obtain ⟨B, hB⟩ : ∃ B, w.heap.size = B := ⟨_, rfl⟩
  have hBw := Nat.le_of_eq hB
  rw [hB] at hO0 hsz0 ⊢
  generalize (B + 1) = B1 at *
  go_loopw [7, 8] (fun v iv wr => ∃ i : Nat, RunP n ms a i ∧ i ≤ (seqP n ms a i).length ∧ iv = .int .i64 (i : Int) ∧ OwnK wr B 33 3 v (seqP n ms a i).length (ptCs (seqP n ms a i)) ∧ LowK w wr ∧ B ≤ wr.heap.size) (fun _ iv wr => 201 - (intOf iv).toNat)
  case atStart => exact ⟨0, fun i hi => absurd hi (Nat.not_lt_zero _), Nat.zero_le _, rfl, hO0, findLow, (by first | omega | (simp; omega))⟩
  case round =>
    clear hO0 hsz0 hV0
    obtain ⟨i, hG, hi, rfl, hO, hV, hsz⟩ := hrel
    have hall := hG.in HH.out HA.out
    have h183 := len183 h13 (seqP_nodup n ms a i) hall
    have hpos : 0 < (seqP n ms a i).length := List.length_pos_of_mem ((seqO_mono (fO n ms) ms.length p0 a i (i := 0) (Nat.zero_le _)).subset (List.mem_singleton.2 rfl))
    have hnd := seqP_nodup n ms a i
    obtain ⟨A, hA⟩ : ∃ A, seqP n ms a i = A := ⟨_, rfl⟩
    have HAA := Lib.hid hA
    rw [hA] at hO h183 hi hall hpos hnd
    clear hA
    have HALL := Lib.hid hall
    have HND := Lib.hid hnd
    clear hall hnd
    obtain ⟨vo, cpo, rfl, hgo, hgo2, hmo⟩ := OwnK.pts hO rfl hpos
    by_cases hlt : i < A.length
    · obtain ⟨x, hx⟩ : ∃ x, A.getD i p0 = x := ⟨_, rfl⟩
      have hxi : x ∈ allP n := by rw [← hx]; exact HALL.out _ (getD_mem hlt)
      have hx13 : In13 x := allP_in h13 _ hxi
      have HX := Lib.hid hx
      have HXI := Lib.hid hxi
      clear hx hxi
      go_wp2_with (first | (refine wl_loadM ?_) | (refine wl_load ?_) | (refine wl_fill1 ?_) | (refine wl_fill2 ?_) | (refine wl_storeM ?_) | (refine wl_makeM ?_; intro gm W' hgm hl hT; have hs := hl.out.size; (try simp at hs)) | (refine wl_store (h1 := mC_one _) ?_) | (refine wl_sliceM ?_) | (refine wl_append (he := eltMp) (h1 := mC_one _) ?_; intro v' w' ho hg hb; have hs := hg.size; (try simp at hs); rw [mCs_snoc] at ho; (try obtain ⟨gz, cz, rfl, hzb, hzl, -⟩ := OwnK.maps ho (by simp) (by omega))) | (refine wl_mapLook true ?_ (hM := findGom) (hv := by (first | exact decide_eq_true (by assumption)))) | (refine wl_mapLook false ?_ (hM := findGom) (hv := by (first | exact decide_eq_false (by assumption)))) | (refine wl_store ?_) | (refine wl_build ?_) | (refine wl_slice ?_) | (refine wl_slice2 ?_) | (refine wl_append ?_; intro v' w' ho hg hb; have hs := hg.size; (try simp at hs); (try rw [ptCs_end] at ho); (try rw [ints_end] at ho); (try simp only [Nat.zero_add, Nat.reduceAdd, List.nil_append, List.cons_append] at ho)) | ((with_reducible apply region_gd (id := 8)); refine region_QNA (id := 8) 11 [⟨10, 10, #[.int .i64 0, .int .i64 0, .int .i64 0], 33⟩] (.k (.k (.k (.k (.k (.k (.k (.k (.k (.k (.d (.d .n)))))))))))) ⟨(fun o ho ρ W => by obtain rfl : _ = o := Option.some.inj ho; simp [execOp, go_sem]), trivial⟩ ?_; apply Exists.intro; refine ⟨fun G => ?_, fun g W hl hg hd => ?_⟩; (· ((repeat (first | go_big_quiet_skip | (go_big_quiet_want; first | (refine q_loadM ?_; simp only [Act.put, List.setIfInBounds_toArray, List.set_cons_zero, List.set_cons_succ]; go_big_quiet_on) | (refine q_load ?_; simp only [Act.put, List.setIfInBounds_toArray, List.set_cons_zero, List.set_cons_succ]; go_big_quiet_on) | (go_big_quiet_op; first | go_big_quiet_on)))); exact rfl)); obtain ⟨⟨q10, k10⟩, -⟩ := hg; have hs := hl.out.size; (try simp at hs); dsimp only at q10 k10; (try simp at q10); have l10 := k10.lt; clear hd; simp only [List.map_cons, List.map_nil, puts, Act.put, List.setIfInBounds_toArray, List.set_cons_zero, List.set_cons_succ, List.drop_succ_cons, List.drop_zero]; generalize g 10 = g10 at *; skip))
      have hAl : 0 < A.length := by omega
      clear hmo
      go_loopw [7, 9] (fun v kv wi => ∃ q : Nat, q ≤ k ∧ kv = .int .i64 (q : Int) ∧ OwnK wi B 33 3 v (innP n ms A x q).length (ptCs (innP n ms A x q)) ∧ LowK w wi ∧ B ≤ wi.heap.size) (fun _ kv wi => k - (intOf kv).toNat)
      case atStart => exact ⟨0, Nat.zero_le _, rfl, hO, findLow, (by first | omega | (simp; omega))⟩
      case round =>
        clear hO hV hsz
        obtain ⟨q, hq, rfl, hO, hV, hsz⟩ := hrel
        have hi183 := len183 h13 (innP_nodup (ms := ms) (n := n) (x := x) HND.out q) (innP_in HH.out HALL.out HXI.out (by omega))
        have hpre := innP_len (n := n) (ms := ms) A x q
        by_cases hlk : q < k
        · obtain ⟨y, hy⟩ : ∃ y, ms.getD q m0 = y := ⟨_, rfl⟩
          have hyi : InM y := by rw [← hy]; exact hin _ (getM_mem (by omega))
          obtain ⟨t, ht⟩ : ∃ t, imgP n y x = t := ⟨_, rfl⟩
          have HT := Lib.hid ht
          have HSu := Lib.hid (innP_succ (A := A) (x := x) (k := q) hy ht)
          have hgx := innP_at (n := n) (ms := ms) (x := x) hlt q
          obtain ⟨A2, hA2⟩ : ∃ A2, innP n ms A x q = A2 := ⟨_, rfl⟩
          rw [hA2] at hO hi183 hpre HSu hgx
          have hgx2 : A2.getD i (0, 0, 0) = x := hgx.trans HX.out
          have hA2l : i < A2.length := by omega
          obtain ⟨vg, cpk, rfl, hg, hg2, hm⟩ := OwnK.pts hO rfl (by omega)
          obtain ⟨gb, off, rfl, hma⟩ := hms.out.2 (by omega)
          have r1 : RangeK wr gb (off + q * 9) (mC y) := by rw [← hy]; exact (hma.at_ hlk).viaLow hV
          clear ht hA2 hy hma hgx
          obtain ⟨b0, hb0⟩ : ∃ b0, decide (t ∈ A2) = b0 := ⟨_, rfl⟩
          rcases b0 with _ | _
          · have E1 : Hid (innP n ms A x (q + 1) = A2 ++ [t]) := Lib.hid (by rw [HSu.out, if_neg (of_decide_eq_false hb0)])
            have HB0 := Lib.hid hb0
            clear hb0 HSu
            go_wp2_with (first | (refine wl_loadM ?_) | (refine wl_load ?_) | (refine wl_fill1 ?_) | (refine wl_fill2 ?_) | (refine wl_storeM ?_) | (refine wl_makeM ?_; intro gm W' hgm hl hT; have hs := hl.out.size; (try simp at hs)) | (refine wl_store (h1 := mC_one _) ?_) | (refine wl_sliceM ?_) | (refine wl_append (he := eltMp) (h1 := mC_one _) ?_; intro v' w' ho hg hb; have hs := hg.size; (try simp at hs); rw [mCs_snoc] at ho; (try obtain ⟨gz, cz, rfl, hzb, hzl, -⟩ := OwnK.maps ho (by simp) (by omega))) | (refine wl_mapLook true ?_ (hM := findGom) (hv := by (first | exact decide_eq_true (by assumption)))) | (refine wl_mapLook false ?_ (hM := findGom) (hv := by (first | exact decide_eq_false (by assumption)))) | (refine wl_store ?_) | (refine wl_build ?_) | (refine wl_slice ?_) | (refine wl_slice2 ?_) | (refine wl_append ?_; intro v' w' ho hg hb; have hs := hg.size; (try simp at hs); (try rw [ptCs_end] at ho); (try rw [ints_end] at ho); (try simp only [Nat.zero_add, Nat.reduceAdd, List.nil_append, List.cons_append] at ho)) | (go_at_call 48; (with_reducible refine (image_S _ HT.out hp hyi hx13).mono ?_); rintro e w' ⟨rfl, hb⟩; have hl := Link.mk hb; have hs := hb.size; (try simp at hs); clear hb) | (go_at_call 29; (with_reducible refine (Has_P t _ _ _ A2 _ (by omega) (PtsE.of rfl findPts) HB0.out).mono ?_); rintro e w' ⟨rfl, hb⟩; have hl := Link.mk hb; have hs := hb.size; (try simp at hs); clear hb) | ((with_reducible apply region_gd (id := 8)); refine region_QNA (id := 8) 11 [⟨10, 10, #[.int .i64 0, .int .i64 0, .int .i64 0], 33⟩] (.k (.k (.k (.k (.k (.k (.k (.k (.k (.k (.d (.d .n)))))))))))) ⟨(fun o ho ρ W => by obtain rfl : _ = o := Option.some.inj ho; simp [execOp, go_sem]), trivial⟩ ?_; apply Exists.intro; refine ⟨fun G => ?_, fun g W hl hg hd => ?_⟩; (· ((repeat (first | go_big_quiet_skip | (go_big_quiet_want; first | (refine q_loadM ?_; simp only [Act.put, List.setIfInBounds_toArray, List.set_cons_zero, List.set_cons_succ]; go_big_quiet_on) | (refine q_load ?_; simp only [Act.put, List.setIfInBounds_toArray, List.set_cons_zero, List.set_cons_succ]; go_big_quiet_on) | (go_big_quiet_op; first | go_big_quiet_on | (apply Exists.intro; refine ⟨fun g => ?_, ?_⟩; (· (have hl := growL g; first | (go_at_call 48; with_reducible exact grow_ret (image_S _ HT.out hp hyi hx13)) | (go_at_call 29; with_reducible exact grow_ret (Has_P t _ _ _ A2 _ (by omega) (PtsE.of rfl findPts) HB0.out)))); go_big_quiet_on))))); exact rfl)); obtain ⟨⟨q10, k10⟩, -⟩ := hg; have hs := hl.out.size; (try simp at hs); dsimp only at q10 k10; (try simp at q10); have l10 := k10.lt; clear hd; simp only [List.map_cons, List.map_nil, puts, Act.put, List.setIfInBounds_toArray, List.set_cons_zero, List.set_cons_succ, List.drop_succ_cons, List.drop_zero]; generalize g 10 = g10 at *; skip))
            go_roundw
            case rel => exact ⟨q + 1, by omega, by go_num, by rw [E1.out, List.length_append]; exact ho, findLow, (by first | omega | (simp; omega))⟩
            case measure => (simp [intOf]; try omega)
          · have E1 : Hid (innP n ms A x (q + 1) = A2) := Lib.hid (by rw [HSu.out, if_pos (of_decide_eq_true hb0)])
            have HB0 := Lib.hid hb0
            clear hb0 HSu
            go_wp2_with (first | (refine wl_loadM ?_) | (refine wl_load ?_) | (refine wl_fill1 ?_) | (refine wl_fill2 ?_) | (refine wl_storeM ?_) | (refine wl_makeM ?_; intro gm W' hgm hl hT; have hs := hl.out.size; (try simp at hs)) | (refine wl_store (h1 := mC_one _) ?_) | (refine wl_sliceM ?_) | (refine wl_append (he := eltMp) (h1 := mC_one _) ?_; intro v' w' ho hg hb; have hs := hg.size; (try simp at hs); rw [mCs_snoc] at ho; (try obtain ⟨gz, cz, rfl, hzb, hzl, -⟩ := OwnK.maps ho (by simp) (by omega))) | (refine wl_mapLook true ?_ (hM := findGom) (hv := by (first | exact decide_eq_true (by assumption)))) | (refine wl_mapLook false ?_ (hM := findGom) (hv := by (first | exact decide_eq_false (by assumption)))) | (refine wl_store ?_) | (refine wl_build ?_) | (refine wl_slice ?_) | (refine wl_slice2 ?_) | (refine wl_append ?_; intro v' w' ho hg hb; have hs := hg.size; (try simp at hs); (try rw [ptCs_end] at ho); (try rw [ints_end] at ho); (try simp only [Nat.zero_add, Nat.reduceAdd, List.nil_append, List.cons_append] at ho)) | (go_at_call 48; (with_reducible refine (image_S _ HT.out hp hyi hx13).mono ?_); rintro e w' ⟨rfl, hb⟩; have hl := Link.mk hb; have hs := hb.size; (try simp at hs); clear hb) | (go_at_call 29; (with_reducible refine (Has_P t _ _ _ A2 _ (by omega) (PtsE.of rfl findPts) HB0.out).mono ?_); rintro e w' ⟨rfl, hb⟩; have hl := Link.mk hb; have hs := hb.size; (try simp at hs); clear hb) | ((with_reducible apply region_gd (id := 8)); refine region_QNA (id := 8) 11 [⟨10, 10, #[.int .i64 0, .int .i64 0, .int .i64 0], 33⟩] (.k (.k (.k (.k (.k (.k (.k (.k (.k (.k (.d (.d .n)))))))))))) ⟨(fun o ho ρ W => by obtain rfl : _ = o := Option.some.inj ho; simp [execOp, go_sem]), trivial⟩ ?_; apply Exists.intro; refine ⟨fun G => ?_, fun g W hl hg hd => ?_⟩; (· ((repeat (first | go_big_quiet_skip | (go_big_quiet_want; first | (refine q_loadM ?_; simp only [Act.put, List.setIfInBounds_toArray, List.set_cons_zero, List.set_cons_succ]; go_big_quiet_on) | (refine q_load ?_; simp only [Act.put, List.setIfInBounds_toArray, List.set_cons_zero, List.set_cons_succ]; go_big_quiet_on) | (go_big_quiet_op; first | go_big_quiet_on | (apply Exists.intro; refine ⟨fun g => ?_, ?_⟩; (· (have hl := growL g; first | (go_at_call 48; with_reducible exact grow_ret (image_S _ HT.out hp hyi hx13)) | (go_at_call 29; with_reducible exact grow_ret (Has_P t _ _ _ A2 _ (by omega) (PtsE.of rfl findPts) HB0.out)))); go_big_quiet_on))))); exact rfl)); obtain ⟨⟨q10, k10⟩, -⟩ := hg; have hs := hl.out.size; (try simp at hs); dsimp only at q10 k10; (try simp at q10); have l10 := k10.lt; clear hd; simp only [List.map_cons, List.map_nil, puts, Act.put, List.setIfInBounds_toArray, List.set_cons_zero, List.set_cons_succ, List.drop_succ_cons, List.drop_zero]; generalize g 10 = g10 at *; skip))
            go_roundw
            case rel => exact ⟨q + 1, by omega, by go_num, by rw [E1.out]; exact findOwn, findLow, (by first | omega | (simp; omega))⟩
            case measure => (simp [intOf]; try omega)
        · obtain rfl : k = q := by omega
          have es := seqP_succ HAA.out HX.out hml
          obtain ⟨A2, hA2⟩ : ∃ A2, innP n ms A x k = A2 := ⟨_, rfl⟩
          rw [hA2] at hO hpre es
          have HE := Lib.hid es
          clear hA2 es
          go_wp2_with (first | (refine wl_loadM ?_) | (refine wl_load ?_) | (refine wl_fill1 ?_) | (refine wl_fill2 ?_) | (refine wl_storeM ?_) | (refine wl_makeM ?_; intro gm W' hgm hl hT; have hs := hl.out.size; (try simp at hs)) | (refine wl_store (h1 := mC_one _) ?_) | (refine wl_sliceM ?_) | (refine wl_append (he := eltMp) (h1 := mC_one _) ?_; intro v' w' ho hg hb; have hs := hg.size; (try simp at hs); rw [mCs_snoc] at ho; (try obtain ⟨gz, cz, rfl, hzb, hzl, -⟩ := OwnK.maps ho (by simp) (by omega))) | (refine wl_mapLook true ?_ (hM := findGom) (hv := by (first | exact decide_eq_true (by assumption)))) | (refine wl_mapLook false ?_ (hM := findGom) (hv := by (first | exact decide_eq_false (by assumption)))) | (refine wl_store ?_) | (refine wl_build ?_) | (refine wl_slice ?_) | (refine wl_slice2 ?_) | (refine wl_append ?_; intro v' w' ho hg hb; have hs := hg.size; (try simp at hs); (try rw [ptCs_end] at ho); (try rw [ints_end] at ho); (try simp only [Nat.zero_add, Nat.reduceAdd, List.nil_append, List.cons_append] at ho)) | ((with_reducible apply region_gd (id := 8)); refine region_QNA (id := 8) 11 [⟨10, 10, #[.int .i64 0, .int .i64 0, .int .i64 0], 33⟩] (.k (.k (.k (.k (.k (.k (.k (.k (.k (.k (.d (.d .n)))))))))))) ⟨(fun o ho ρ W => by obtain rfl : _ = o := Option.some.inj ho; simp [execOp, go_sem]), trivial⟩ ?_; apply Exists.intro; refine ⟨fun G => ?_, fun g W hl hg hd => ?_⟩; (· ((repeat (first | go_big_quiet_skip | (go_big_quiet_want; first | (refine q_loadM ?_; simp only [Act.put, List.setIfInBounds_toArray, List.set_cons_zero, List.set_cons_succ]; go_big_quiet_on) | (refine q_load ?_; simp only [Act.put, List.setIfInBounds_toArray, List.set_cons_zero, List.set_cons_succ]; go_big_quiet_on) | (go_big_quiet_op; first | go_big_quiet_on)))); exact rfl)); obtain ⟨⟨q10, k10⟩, -⟩ := hg; have hs := hl.out.size; (try simp at hs); dsimp only at q10 k10; (try simp at q10); have l10 := k10.lt; clear hd; simp only [List.map_cons, List.map_nil, puts, Act.put, List.setIfInBounds_toArray, List.set_cons_zero, List.set_cons_succ, List.drop_succ_cons, List.drop_zero]; generalize g 10 = g10 at *; skip))
          go_roundw
          case rel =>
            refine ⟨i + 1, fun j hj => ?_, by rw [HE.out]; omega, by go_num, by rw [HE.out]; exact findOwn, findLow, (by first | omega | (simp; omega))⟩
            by_cases ej : j = i
            · subst ej; rw [HAA.out]; exact hlt
            · exact hG j (by omega)
          case measure => (simp [intOf]; try omega)
    · have hie : A.length = i := by omega
      obtain rfl : i = K := RunP.fin HK.out hG (by rw [HAA.out, hie])
      have hSA : S = A := by rw [← HS.out, HAA.out]
      subst hSA
      go_wp2_with (first | (refine wl_loadM ?_) | (refine wl_load ?_) | (refine wl_fill1 ?_) | (refine wl_fill2 ?_) | (refine wl_storeM ?_) | (refine wl_makeM ?_; intro gm W' hgm hl hT; have hs := hl.out.size; (try simp at hs)) | (refine wl_store (h1 := mC_one _) ?_) | (refine wl_sliceM ?_) | (refine wl_append (he := eltMp) (h1 := mC_one _) ?_; intro v' w' ho hg hb; have hs := hg.size; (try simp at hs); rw [mCs_snoc] at ho; (try obtain ⟨gz, cz, rfl, hzb, hzl, -⟩ := OwnK.maps ho (by simp) (by omega))) | (refine wl_mapLook true ?_ (hM := findGom) (hv := by (first | exact decide_eq_true (by assumption)))) | (refine wl_mapLook false ?_ (hM := findGom) (hv := by (first | exact decide_eq_false (by assumption)))) | (refine wl_store ?_) | (refine wl_build ?_) | (refine wl_slice ?_) | (refine wl_slice2 ?_) | (refine wl_append ?_; intro v' w' ho hg hb; have hs := hg.size; (try simp at hs); (try rw [ptCs_end] at ho); (try rw [ints_end] at ho); (try simp only [Nat.zero_add, Nat.reduceAdd, List.nil_append, List.cons_append] at ho)) | ((with_reducible apply region_gd (id := 8)); refine region_QNA (id := 8) 11 [⟨10, 10, #[.int .i64 0, .int .i64 0, .int .i64 0], 33⟩] (.k (.k (.k (.k (.k (.k (.k (.k (.k (.k (.d (.d .n)))))))))))) ⟨(fun o ho ρ W => by obtain rfl : _ = o := Option.some.inj ho; simp [execOp, go_sem]), trivial⟩ ?_; apply Exists.intro; refine ⟨fun G => ?_, fun g W hl hg hd => ?_⟩; (· ((repeat (first | go_big_quiet_skip | (go_big_quiet_want; first | (refine q_loadM ?_; simp only [Act.put, List.setIfInBounds_toArray, List.set_cons_zero, List.set_cons_succ]; go_big_quiet_on) | (refine q_load ?_; simp only [Act.put, List.setIfInBounds_toArray, List.set_cons_zero, List.set_cons_succ]; go_big_quiet_on) | (go_big_quiet_op; first | go_big_quiet_on)))); exact rfl)); obtain ⟨⟨q10, k10⟩, -⟩ := hg; have hs := hl.out.size; (try simp at hs); dsimp only at q10 k10; (try simp at q10); have l10 := k10.lt; clear hd; simp only [List.map_cons, List.map_nil, puts, Act.put, List.setIfInBounds_toArray, List.set_cons_zero, List.set_cons_succ, List.drop_succ_cons, List.drop_zero]; generalize g 10 = g10 at *; skip))
      (apply ret_one Try.results30; (conv => lhs; whnf); exact rfl)
      exact ⟨_, _, rfl, by subst hB; exact findOwn, findLow, findPts⟩
def pC2 (p q : Pt) : Array Value := #[.int .i64 p.1, .int .i64 p.2.1, .int .i64 p.2.2, .int .i64 q.1, .int .i64 q.2.1, .int .i64 q.2.2]
/-- A slice literal of two points. -/
theorem wl_slice2 {ops : Array Oper} {rest : List Oper} {o : Oper} {a : Act} {w : World} {Q : Exit → Act → World → Prop} {t e : TypeId} {x y : Operand} {p q : Pt} (h : wpList Try.prog ops Q rest (a.put o.dst (.slice (some ⟨w.heap.size, 0, none⟩) 2 2)) (w.alloc (.cells (pC2 p q) e))) (hgd : o.guard = none := by exact rfl) (ho : o.op = .buildSlice t 2 #[(0, x), (1, y)] := by exact rfl)
    (he : EltK Try.prog t e 3 := by (first | exact eltPo | exact eltI64 | exact eltInt)) (hx : a.eval x = pV p := by exact rfl) (hy : a.eval y = pV q := by exact rfl) : wpList Try.prog ops Q (o :: rest) a w := by
  obtain ⟨hu, i, z, hi, hz, hsz, hzs, hpos, hle, hby⟩ := he.out
  refine wpList_buildSlice hgd t e 2 _ ho (pC2 p q) i z hu hi hz (by rw [hsz]; decide) (by rw [hsz]; decide) ?_ h
  simp only [List.map_toArray, List.map_cons, List.map_nil, hx, hy, hsz]
  generalize z.cells = zc at hzs
  have e1 : (Array.range (2 * 3)).map (fun k => zc[k % zc.size]!) = #[zc[0]!, zc[1]!, zc[2]!, zc[0]!, zc[1]!, zc[2]!] := by
    rw [hzs]
    apply Array.ext
    · simp
    · intro i h1 h2
      simp at h1
      match i, h1 with
      | 0, _ => simp
      | 1, _ => simp
      | 2, _ => simp
      | 3, _ => simp
      | 4, _ => simp
      | 5, _ => simp
  rw [e1]
  rfl
theorem PtsK.two {W : World} {g : Nat} {T : TypeId} {p q : Pt} (h : RowK W g (pC2 p q) T) : PtsK W g 0 2 [p, q] := by
  refine ⟨fun i hi => ?_⟩
  rcases (show i = 0 ∨ i = 1 by omega) with rfl | rfl <;> (refine ⟨?_, ?_, ?_⟩ <;> (rw [cell_of_row W g _ _ _ _ h.out]; rfl))
theorem l10Maps_two (p : Int) (b : Option Addr) (n k : Nat) (L : List M9) (g kp : Nat) (x y : Pt) (w : World) (hn : n ≤ 1000000) (h : ListM w b n L) (hP : PtsK w g 0 2 [x, y]) {v : Int} (hv : codeML p n (oksM p L && ptsB p [x, y]) = v) :
    Calls Try.prog 20 #[.int .i64 p, .slice b n k, .slice (some ⟨g, 0, none⟩) 2 kp] w (Ret w (.int .i64 v)) := by
  rw [← hv]; exact l10Maps_M p b n k L _ 2 kp [x, y] w hn (by decide) h (fun W l => .inr ⟨g, rfl, rfl, hP.link l⟩)
theorem listCode_two (p : Int) (b : Option Addr) (n k : Nat) (L : List M9) (g kp : Nat) (x y : Pt) (w : World) (hn : n ≤ 1000000) (h : ListM w b n L) (hP : PtsK w g 0 2 [x, y]) {v : Int} (hv : codeML p n (oksM p L && ptsB p [x, y]) = v) :
    Calls Try.prog 25 #[.int .i64 p, .slice b n k, .slice (some ⟨g, 0, none⟩) 2 kp] w (Ret w (.int .i64 v)) := by
  rw [← hv]; exact listCode_M p b n k L _ 2 kp [x, y] w hn (by decide) h ⟨rfl, fun _ => ⟨g, 0, rfl, hP.out⟩⟩
set_option maxRecDepth 20000 in
set_option maxHeartbeats 8000000 in
theorem AreInOneOrbit_spec_code (p : Int) (b : Option Addr) (k c : Nat) (ms : List M9) (x y : Pt) (w : World) (hk : k ≤ 1000000) (hms : ListM w b k ms) {cd : Int} (hcode : codeML p k (oksM p ms && ptsB p [x, y]) = cd) (hc : ¬ cd = 0) :
    Calls Try.prog 11 #[.int .i64 p, .slice b k c, pV x, pV y] w (Ret w (.tuple #[.bool false, .int .i64 cd])) := by
  have HV := Lib.hid hcode
  clear hcode
  go_enter Try.func11, Try.ntmps11
  go_wp2_with (first | (refine wl_loadM ?_) | (refine wl_load ?_) | (refine wl_fill1 ?_) | (refine wl_fill2 ?_) | (refine wl_storeM ?_) | (refine wl_makeM ?_; intro gm W' hgm hl hT; have hs := hl.out.size; (try simp at hs)) | (refine wl_store (h1 := mC_one _) ?_) | (refine wl_sliceM ?_) | (refine wl_append (he := eltMp) (h1 := mC_one _) ?_; intro v' w' ho hg hb; have hs := hg.size; (try simp at hs); rw [mCs_snoc] at ho; (try obtain ⟨gz, cz, rfl, hzb, hzl, -⟩ := OwnK.maps ho (by simp) (by omega))) | (refine wl_mapLook true ?_ (hM := findGom) (hv := by (first | exact decide_eq_true (by assumption)))) | (refine wl_mapLook false ?_ (hM := findGom) (hv := by (first | exact decide_eq_false (by assumption)))) | (refine wl_store ?_) | (refine wl_build ?_) | (refine wl_slice ?_) | (refine wl_slice2 ?_) | (refine wl_append ?_; intro v' w' ho hg hb; have hs := hg.size; (try simp at hs); (try rw [ptCs_end] at ho); (try rw [ints_end] at ho); (try simp only [Nat.zero_add, Nat.reduceAdd, List.nil_append, List.cons_append] at ho)) | (go_at_call 20; (with_reducible refine (l10Maps_two p b k c ms _ _ x y _ hk (hms.link (LowK.lnk findLow)) (PtsK.two findRow) HV.out).mono ?_); rintro e w' ⟨rfl, hb⟩; have hl := Link.mk hb; have hs := hb.size; (try simp at hs); clear hb) | ((with_reducible apply region_gd (id := 4)); refine region_QA (id := 4) 8 ?_; apply Exists.intro; refine ⟨fun G => ?_, fun W hl => ?_⟩; (· (simp only [List.take_succ_cons, List.take_zero]; (repeat (first | go_big_quiet_skip | (go_big_quiet_want; first | (refine q_loadM ?_; simp only [Act.put, List.setIfInBounds_toArray, List.set_cons_zero, List.set_cons_succ]; go_big_quiet_on) | (refine q_load ?_; simp only [Act.put, List.setIfInBounds_toArray, List.set_cons_zero, List.set_cons_succ]; go_big_quiet_on) | (go_big_quiet_op; first | go_big_quiet_on | (apply Exists.intro; refine ⟨fun g => ?_, ?_⟩; (· (have hl := growL g; first | (go_at_call 20; with_reducible exact grow_ret (l10Maps_two p b k c ms _ _ x y _ hk (hms.link (LowK.lnk findLow)) (PtsK.two findRow) HV.out)))); go_big_quiet_on))))); exact rfl)); have hs := hl.out.size; (try simp at hs); simp only [List.drop_succ_cons, List.drop_zero]))
  (apply ret_two Try.results11; (conv => lhs; whnf); (conv => lhs; whnf); exact rfl)
  exact ret_ret rfl findLow
set_option maxRecDepth 20000 in
set_option maxHeartbeats 8000000 in
theorem AreInOneOrbit_spec_core (n : Nat) (b : Option Addr) (k c : Nat) (ms : List M9) (x y : Pt) (K : Nat) (S : List Pt) (w : World) (h : MsOk n ms) (hk : k ≤ 8) (hms : ListM w b k ms) (hx : x ∈ allP n) (hcode : codeML (n : Int) k (oksM (n : Int) ms && ptsB (n : Int) [x, y]) = 0) (hK : WholeP n ms x K) (hS : seqP n ms x K = S) {v : Bool} (hv : decide (y ∈ S) = v) :
    Calls Try.prog 11 #[.int .i64 (n : Int), .slice b k c, pV x, pV y] w (Ret w (.tuple #[.bool v, .int .i64 0])) := by
  obtain ⟨h3, h13⟩ := h.n13
  have HV := Lib.hid hcode
  have HO := Lib.hid (fun (w : World) (hms : ListM w b k ms) => Orbit_S n b k c ms x K S w h hk hms hx hK hS)
  have HD := Lib.hid hv
  have hlen : S.length ≤ 1000000 := by
    rw [← hS]
    have hr : RunP n ms x K := hK.run
    have := len183 h13 (seqP_nodup n ms x K) (hr.in h hx)
    omega
  clear hcode hK hS hv
  go_enter Try.func11, Try.ntmps11
  go_wp2_with (first | (refine wl_loadM ?_) | (refine wl_load ?_) | (refine wl_fill1 ?_) | (refine wl_fill2 ?_) | (refine wl_storeM ?_) | (refine wl_makeM ?_; intro gm W' hgm hl hT; have hs := hl.out.size; (try simp at hs)) | (refine wl_store (h1 := mC_one _) ?_) | (refine wl_sliceM ?_) | (refine wl_append (he := eltMp) (h1 := mC_one _) ?_; intro v' w' ho hg hb; have hs := hg.size; (try simp at hs); rw [mCs_snoc] at ho; (try obtain ⟨gz, cz, rfl, hzb, hzl, -⟩ := OwnK.maps ho (by simp) (by omega))) | (refine wl_mapLook true ?_ (hM := findGom) (hv := by (first | exact decide_eq_true (by assumption)))) | (refine wl_mapLook false ?_ (hM := findGom) (hv := by (first | exact decide_eq_false (by assumption)))) | (refine wl_store ?_) | (refine wl_build ?_) | (refine wl_slice ?_) | (refine wl_slice2 ?_) | (refine wl_append ?_; intro v' w' ho hg hb; have hs := hg.size; (try simp at hs); (try rw [ptCs_end] at ho); (try rw [ints_end] at ho); (try simp only [Nat.zero_add, Nat.reduceAdd, List.nil_append, List.cons_append] at ho)) | (go_at_call 20; (with_reducible refine (l10Maps_two n b k c ms _ _ x y _ (by omega) (hms.link (LowK.lnk findLow)) (PtsK.two findRow) HV.out).mono ?_); rintro e w' ⟨rfl, hb⟩; have hl := Link.mk hb; have hs := hb.size; (try simp at hs); clear hb) | ((with_reducible apply region_gd (id := 4)); refine region_QA (id := 4) 8 ?_; apply Exists.intro; refine ⟨fun G => ?_, fun W hl => ?_⟩; (· (simp only [List.take_succ_cons, List.take_zero]; (repeat (first | go_big_quiet_skip | (go_big_quiet_want; first | (refine q_loadM ?_; simp only [Act.put, List.setIfInBounds_toArray, List.set_cons_zero, List.set_cons_succ]; go_big_quiet_on) | (refine q_load ?_; simp only [Act.put, List.setIfInBounds_toArray, List.set_cons_zero, List.set_cons_succ]; go_big_quiet_on) | (go_big_quiet_op; first | go_big_quiet_on | (apply Exists.intro; refine ⟨fun g => ?_, ?_⟩; (· (have hl := growL g; first | (go_at_call 20; with_reducible exact grow_ret (l10Maps_two n b k c ms _ _ x y _ (by omega) (hms.link (LowK.lnk findLow)) (PtsK.two findRow) HV.out)))); go_big_quiet_on))))); exact rfl)); have hs := hl.out.size; (try simp at hs); simp only [List.drop_succ_cons, List.drop_zero]))
  refine region_CHA (id := 4) 6 [3, 5] (fun W => LowK w W ∧ RowK W w.heap.size (pC x) 33 ∧ RowK W (w.heap.size + 1) (pC y) 33) (.k (.k (.k (.d (.k (.d (.d (.d .n)))))))) (.d (.d (.d (.k (.d (.k (.d (.d .n)))))))) (fun W W' h l => ⟨LowK.link l h.1, h.2.1.link l, h.2.2.link l⟩) ⟨findLow, findRow, findRow⟩ ?_
  apply Exists.intro
  refine ⟨fun W0 hk G => ?_, ?_⟩
  · obtain ⟨k1, k2, k3⟩ := hk
    repeat (first | go_big_quiet_skip | (go_big_quiet_want; first | (refine q_loadM ?_; simp only [Act.put, List.setIfInBounds_toArray, List.set_cons_zero, List.set_cons_succ]; go_big_quiet_on) | (refine q_load ?_; simp only [Act.put, List.setIfInBounds_toArray, List.set_cons_zero, List.set_cons_succ]; go_big_quiet_on) | (go_big_quiet_op; first | go_big_quiet_on)))
    exact rfl
  refine ch_step fun W1 hl1 => ?_
  have hs1 := hl1.out.size
  (try simp at hs1)
  go_wp2_with (first | (refine wl_loadM ?_) | (refine wl_load ?_) | (refine wl_fill1 ?_) | (refine wl_fill2 ?_) | (refine wl_storeM ?_) | (refine wl_makeM ?_; intro gm W' hgm hl hT; have hs := hl.out.size; (try simp at hs)) | (refine wl_store (h1 := mC_one _) ?_) | (refine wl_sliceM ?_) | (refine wl_append (he := eltMp) (h1 := mC_one _) ?_; intro v' w' ho hg hb; have hs := hg.size; (try simp at hs); rw [mCs_snoc] at ho; (try obtain ⟨gz, cz, rfl, hzb, hzl, -⟩ := OwnK.maps ho (by simp) (by omega))) | (refine wl_mapLook true ?_ (hM := findGom) (hv := by (first | exact decide_eq_true (by assumption)))) | (refine wl_mapLook false ?_ (hM := findGom) (hv := by (first | exact decide_eq_false (by assumption)))) | (refine wl_store ?_) | (refine wl_build ?_) | (refine wl_slice ?_) | (refine wl_slice2 ?_) | (refine wl_append ?_; intro v' w' ho hg hb; have hs := hg.size; (try simp at hs); (try rw [ptCs_end] at ho); (try rw [ints_end] at ho); (try simp only [Nat.zero_add, Nat.reduceAdd, List.nil_append, List.cons_append] at ho)) | (go_at_call 30; (with_reducible refine (HO.out _ (hms.link (LowK.lnk findLow))).mono ?_); rintro e w' ⟨g, cap, rfl, ho, hb, hPt⟩; have hl2 := LowK.lnk hb; have hs := hb.size) | ((with_reducible apply region_gd (id := 4)); refine region_QA (id := 4) 8 ?_; apply Exists.intro; refine ⟨fun G => ?_, fun W hl => ?_⟩; (· (simp only [List.take_succ_cons, List.take_zero]; (repeat (first | go_big_quiet_skip | (go_big_quiet_want; first | (refine q_loadM ?_; simp only [Act.put, List.setIfInBounds_toArray, List.set_cons_zero, List.set_cons_succ]; go_big_quiet_on) | (refine q_load ?_; simp only [Act.put, List.setIfInBounds_toArray, List.set_cons_zero, List.set_cons_succ]; go_big_quiet_on) | (go_big_quiet_op; first | go_big_quiet_on)))); exact rfl)); have hs := hl.out.size; (try simp at hs); simp only [List.drop_succ_cons, List.drop_zero]))
  refine ⟨rfl, ⟨_, rfl⟩, ⟨findLow, findRow, findRow⟩, ?_⟩
  refine ch_step fun W2 hl3 => ?_
  have hs2 := hl3.out.size
  (try simp at hs2)
  go_wp2_with (first | (refine wl_loadM ?_) | (refine wl_load ?_) | (refine wl_fill1 ?_) | (refine wl_fill2 ?_) | (refine wl_storeM ?_) | (refine wl_makeM ?_; intro gm W' hgm hl hT; have hs := hl.out.size; (try simp at hs)) | (refine wl_store (h1 := mC_one _) ?_) | (refine wl_sliceM ?_) | (refine wl_append (he := eltMp) (h1 := mC_one _) ?_; intro v' w' ho hg hb; have hs := hg.size; (try simp at hs); rw [mCs_snoc] at ho; (try obtain ⟨gz, cz, rfl, hzb, hzl, -⟩ := OwnK.maps ho (by simp) (by omega))) | (refine wl_mapLook true ?_ (hM := findGom) (hv := by (first | exact decide_eq_true (by assumption)))) | (refine wl_mapLook false ?_ (hM := findGom) (hv := by (first | exact decide_eq_false (by assumption)))) | (refine wl_store ?_) | (refine wl_build ?_) | (refine wl_slice ?_) | (refine wl_slice2 ?_) | (refine wl_append ?_; intro v' w' ho hg hb; have hs := hg.size; (try simp at hs); (try rw [ptCs_end] at ho); (try rw [ints_end] at ho); (try simp only [Nat.zero_add, Nat.reduceAdd, List.nil_append, List.cons_append] at ho)) | (go_at_call 29; (with_reducible refine (Has_P y _ _ _ S _ hlen (PtsE.of rfl findPts) HD.out).mono ?_); rintro e w' ⟨rfl, hb⟩; have hl := Link.mk hb; have hs := hb.size; (try simp at hs); clear hb) | ((with_reducible apply region_gd (id := 4)); refine region_QA (id := 4) 8 ?_; apply Exists.intro; refine ⟨fun G => ?_, fun W hl => ?_⟩; (· (simp only [List.take_succ_cons, List.take_zero]; (repeat (first | go_big_quiet_skip | (go_big_quiet_want; first | (refine q_loadM ?_; simp only [Act.put, List.setIfInBounds_toArray, List.set_cons_zero, List.set_cons_succ]; go_big_quiet_on) | (refine q_load ?_; simp only [Act.put, List.setIfInBounds_toArray, List.set_cons_zero, List.set_cons_succ]; go_big_quiet_on) | (go_big_quiet_op; first | go_big_quiet_on | (apply Exists.intro; refine ⟨fun g => ?_, ?_⟩; (· (have hl := growL g; first | (go_at_call 29; with_reducible exact grow_ret (Has_P y _ _ _ S _ hlen (PtsE.of rfl findPts) HD.out)))); go_big_quiet_on))))); exact rfl)); have hs := hl.out.size; (try simp at hs); simp only [List.drop_succ_cons, List.drop_zero]))
  refine ⟨rfl, ⟨_, rfl⟩, ⟨findLow, findRow, findRow⟩, ?_⟩
  refine ch_nil fun W3 hl5 => ?_
  have hs3 := hl5.out.size
  (try simp at hs3)
  (try simp only [List.drop_succ_cons, List.drop_zero])
  go_wp2_with (first | (refine wl_loadM ?_) | (refine wl_load ?_) | (refine wl_fill1 ?_) | (refine wl_fill2 ?_) | (refine wl_storeM ?_) | (refine wl_makeM ?_; intro gm W' hgm hl hT; have hs := hl.out.size; (try simp at hs)) | (refine wl_store (h1 := mC_one _) ?_) | (refine wl_sliceM ?_) | (refine wl_append (he := eltMp) (h1 := mC_one _) ?_; intro v' w' ho hg hb; have hs := hg.size; (try simp at hs); rw [mCs_snoc] at ho; (try obtain ⟨gz, cz, rfl, hzb, hzl, -⟩ := OwnK.maps ho (by simp) (by omega))) | (refine wl_mapLook true ?_ (hM := findGom) (hv := by (first | exact decide_eq_true (by assumption)))) | (refine wl_mapLook false ?_ (hM := findGom) (hv := by (first | exact decide_eq_false (by assumption)))) | (refine wl_store ?_) | (refine wl_build ?_) | (refine wl_slice ?_) | (refine wl_slice2 ?_) | (refine wl_append ?_; intro v' w' ho hg hb; have hs := hg.size; (try simp at hs); (try rw [ptCs_end] at ho); (try rw [ints_end] at ho); (try simp only [Nat.zero_add, Nat.reduceAdd, List.nil_append, List.cons_append] at ho)) | ((with_reducible apply region_gd (id := 4)); refine region_QA (id := 4) 8 ?_; apply Exists.intro; refine ⟨fun G => ?_, fun W hl => ?_⟩; (· (simp only [List.take_succ_cons, List.take_zero]; (repeat (first | go_big_quiet_skip | (go_big_quiet_want; first | (refine q_loadM ?_; simp only [Act.put, List.setIfInBounds_toArray, List.set_cons_zero, List.set_cons_succ]; go_big_quiet_on) | (refine q_load ?_; simp only [Act.put, List.setIfInBounds_toArray, List.set_cons_zero, List.set_cons_succ]; go_big_quiet_on) | (go_big_quiet_op; first | go_big_quiet_on)))); exact rfl)); have hs := hl.out.size; (try simp at hs); simp only [List.drop_succ_cons, List.drop_zero]))
  (apply ret_two Try.results11; (conv => lhs; whnf); (conv => lhs; whnf); exact rfl)
  exact ret_ret rfl findLow
end Go.Proofs.Ytoagfpdicpcjnaa
/- Plain words: Desargues' theorem modulo a prime. -/
namespace Go.Proofs.Ytoagfpdicpcjnaa
set_option linter.unusedVariables false
set_option linter.unusedSimpArgs false
theorem cg_dot2 {p k k' : Int} {v w v' w' : Pt} (h : cg p k v w) (h' : cg p k' v' w') : p ∣ dotI v v' - k * k' * dotI w w' := by
  obtain ⟨a, ha⟩ := dvd_pair h.1 h'.1
  obtain ⟨b, hb⟩ := dvd_pair h.2.1 h'.2.1
  obtain ⟨c, hc⟩ := dvd_pair h.2.2 h'.2.2
  exact ⟨a + b + c, by unfold dotI; grind⟩
theorem nz_cg {p k : Int} {v w : Pt} (h : cg p k v w) (hv : nzV p v) : nzV p w := by
  intro hw
  exact hv ⟨(Int.dvd_iff_dvd_of_dvd_sub h.1).2 (Int.dvd_mul_of_dvd_right hw.1), (Int.dvd_iff_dvd_of_dvd_sub h.2.1).2 (Int.dvd_mul_of_dvd_right hw.2.1), (Int.dvd_iff_dvd_of_dvd_sub h.2.2).2 (Int.dvd_mul_of_dvd_right hw.2.2)⟩
theorem nz_cg' {p k : Int} {v w : Pt} (hp : prB p = true) (h : cg p k v w) (hk : ¬ p ∣ k) (hw : nzV p w) : nzV p v := by
  intro hv
  exact hw ⟨mul_dvd hp ((Int.dvd_iff_dvd_of_dvd_sub h.1).1 hv.1) hk, mul_dvd hp ((Int.dvd_iff_dvd_of_dvd_sub h.2.1).1 hv.2.1) hk, mul_dvd hp ((Int.dvd_iff_dvd_of_dvd_sub h.2.2).1 hv.2.2) hk⟩
theorem detZ_dot (a b c : Pt) : detZ a b c = dotI a (crs b c) := rfl
theorem crs_crs2 (u c d : Pt) : crs u (crs c d) = comb (dotI d u) c (dotI c u) d := by
  unfold comb crs dotI
  simp only [Prod.mk.injEq]
  refine ⟨?_, ?_, ?_⟩ <;> grind
theorem des_1 (L s0 s1 s2 : Pt) : dotI (crs s1 s2) (crs L (crs s0 s1)) = detZ s0 s1 s2 * dotI L s1 := by
  unfold detZ crs dotI; simp only; grind
theorem des_2 (M f0 f1 f2 : Pt) : dotI (crs f1 f2) (crs (crs f0 f1) M) = - detZ f0 f1 f2 * dotI M f1 := by
  unfold detZ crs dotI; simp only; grind
theorem des_3 (M f0 f1 f2 : Pt) : dotI (crs f1 f2) (crs (crs f2 f0) M) = detZ f0 f1 f2 * dotI M f2 := by
  unfold detZ crs dotI; simp only; grind
theorem des_4 (L s0 s1 s2 : Pt) : dotI (crs s1 s2) (crs L (crs s2 s0)) = - detZ s0 s1 s2 * dotI L s2 := by
  unfold detZ crs dotI; simp only; grind
theorem des_5 (f0 f1 f2 s0 s1 s2 : Pt) : dotI (crs f0 f1) s1 * dotI (crs s2 s0) f2 - dotI (crs s0 s1) f1 * dotI (crs f2 f0) s2 = detZ (crs f0 s0) (crs f1 s1) (crs f2 s2) := by
  unfold detZ crs dotI; simp only; grind
/-- The cross product of the first two meets. -/
theorem des_x (f0 f1 f2 s0 s1 s2 : Pt) : crs (crs (crs f0 f1) (crs s0 s1)) (crs (crs f1 f2) (crs s1 s2)) = comb (detZ s0 s1 s2 * dotI (crs f0 f1) s1) (crs f1 f2) (- detZ f0 f1 f2 * dotI (crs s0 s1) f1) (crs s1 s2) := by
  rw [crs_crs2, des_1, des_2]
theorem dot_comb2 (w e a : Pt) (s t : Int) : dotI w (comb s e t a) = s * dotI w e - t * dotI w a := by
  unfold comb dotI; simp only; grind
theorem dotI_comm (a b : Pt) : dotI a b = dotI b a := by unfold dotI; grind
theorem des_col (f0 f1 f2 s0 s1 s2 : Pt) : dotI (crs (crs f2 f0) (crs s2 s0)) (crs (crs (crs f0 f1) (crs s0 s1)) (crs (crs f1 f2) (crs s1 s2))) = detZ f0 f1 f2 * detZ s0 s1 s2 * detZ (crs f0 s0) (crs f1 s1) (crs f2 s2) := by
  rw [des_x, dot_comb2, dotI_comm _ (crs f1 f2), dotI_comm _ (crs s1 s2), des_3, des_4, ← des_5]
  generalize dotI (crs f0 f1) s1 = x
  generalize dotI (crs s2 s0) f2 = y
  generalize dotI (crs s0 s1) f1 = z
  generalize dotI (crs f2 f0) s2 = t
  generalize detZ f0 f1 f2 = d
  generalize detZ s0 s1 s2 = e
  grind
theorem crs_comb (e a : Pt) (s t : Int) : crs (comb s e t a) a = comb s (crs e a) 0 a := by
  unfold comb crs; simp only [Prod.mk.injEq]; refine ⟨?_, ?_, ?_⟩ <;> grind
theorem crs_comb' (e a : Pt) (s t : Int) : crs (comb s e t a) e = comb t (crs e a) 0 a := by
  unfold comb crs; simp only [Prod.mk.injEq]; refine ⟨?_, ?_, ?_⟩ <;> grind
theorem dvd_crs {p : Int} {v w : Pt} (h : p ∣ v.1 ∧ p ∣ v.2.1 ∧ p ∣ v.2.2) : p ∣ (crs v w).1 ∧ p ∣ (crs v w).2.1 ∧ p ∣ (crs v w).2.2 := by
  obtain ⟨⟨a, ha⟩, ⟨b, hb⟩, ⟨c, hc⟩⟩ := h
  unfold crs
  simp only
  rw [ha, hb, hc]
  exact ⟨⟨b * w.2.2 - c * w.2.1, by grind⟩, ⟨c * w.1 - a * w.2.2, by grind⟩, ⟨a * w.2.1 - b * w.1, by grind⟩⟩
theorem dvd_comb0 {p s : Int} {v a : Pt} (hp : prB p = true) (hv : nzV p v) (h : p ∣ (comb s v 0 a).1 ∧ p ∣ (comb s v 0 a).2.1 ∧ p ∣ (comb s v 0 a).2.2) : p ∣ s := by
  unfold comb at h
  simp only [Int.zero_mul, Int.sub_zero] at h
  cases hd : decide (p ∣ s) with
  | true => exact of_decide_eq_true hd
  | false =>
    have hn := of_decide_eq_false hd
    exact (hv ⟨mul_dvd hp h.1 hn, mul_dvd hp h.2.1 hn, mul_dvd hp h.2.2 hn⟩).elim
/-- Two vectors that both are parallel to one that is not 0 are parallel. -/
theorem par3 {p : Int} (hp : prB p = true) {u v j : Pt} (hj : nzV p j) (h1 : p ∣ (crs u j).1 ∧ p ∣ (crs u j).2.1 ∧ p ∣ (crs u j).2.2) (h2 : p ∣ (crs v j).1 ∧ p ∣ (crs v j).2.1 ∧ p ∣ (crs v j).2.2) :
    p ∣ (crs u v).1 ∧ p ∣ (crs u v).2.1 ∧ p ∣ (crs u v).2.2 := by
  obtain ⟨u1, u2, u3⟩ := u
  obtain ⟨v1, v2, v3⟩ := v
  obtain ⟨j1, j2, j3⟩ := j
  obtain ⟨⟨a1, e1⟩, ⟨a2, e2⟩, ⟨a3, e3⟩⟩ := h1
  obtain ⟨⟨b1, f1⟩, ⟨b2, f2⟩, ⟨b3, f3⟩⟩ := h2
  simp only [crs] at *
  have hd : ¬ p ∣ j1 ∨ ¬ p ∣ j2 ∨ ¬ p ∣ j3 := by
    by_cases k1 : p ∣ j1
    · by_cases k2 : p ∣ j2
      · exact .inr (.inr (fun k3 => hj ⟨k1, k2, k3⟩))
      · exact .inr (.inl k2)
    · exact .inl k1
  rcases hd with hd | hd | hd
  · refine ⟨mul_dvd hp ⟨u1 * b1 + u2 * b2 + u3 * b3 - b1 * u1 + a1 * v1, ?_⟩ hd, mul_dvd hp ⟨a2 * v1 - b2 * u1, ?_⟩ hd, mul_dvd hp ⟨a3 * v1 - b3 * u1, ?_⟩ hd⟩ <;> grind
  · refine ⟨mul_dvd hp ⟨a1 * v2 - b1 * u2, ?_⟩ hd, mul_dvd hp ⟨u1 * b1 + u2 * b2 + u3 * b3 - b2 * u2 + a2 * v2, ?_⟩ hd, mul_dvd hp ⟨a3 * v2 - b3 * u2, ?_⟩ hd⟩ <;> grind
  · refine ⟨mul_dvd hp ⟨a1 * v3 - b1 * u3, ?_⟩ hd, mul_dvd hp ⟨a2 * v3 - b2 * u3, ?_⟩ hd, mul_dvd hp ⟨u1 * b1 + u2 * b2 + u3 * b3 - b3 * u3 + a3 * v3, ?_⟩ hd⟩ <;> grind
/-- The first two meets of two triangles are different. -/
theorem des_ne {p : Int} (hp : prB p = true) {f0 f1 f2 s0 s1 s2 : Pt} (hf : ¬ p ∣ detZ f0 f1 f2) (hs : ¬ p ∣ detZ s0 s1 s2) (h1 : nzV p (crs f1 s1))
    (h2 : nzV p (crs (crs f0 f1) (crs s0 s1))) (h3 : nzV p (crs (crs f1 f2) (crs s1 s2))) : nzV p (crs (crs (crs f0 f1) (crs s0 s1)) (crs (crs f1 f2) (crs s1 s2))) := by
  intro h
  rw [des_x] at h
  have e1 := dvd_crs (w := crs s1 s2) h
  rw [crs_comb] at e1
  have a1 := mul_dvd hp (dvd_comb0 hp h3 e1) hs
  have e2 := dvd_crs (w := crs f1 f2) h
  rw [crs_comb'] at e2
  have a2 := mul_dvd hp (dvd_comb0 hp h3 e2) (by rintro ⟨q, hq⟩; exact hf ⟨-q, by grind⟩)
  obtain ⟨x, hx⟩ := a1
  obtain ⟨y, hy⟩ := a2
  refine h2 (par3 hp h1 ?_ ?_)
  · rw [crs_crs2, dotI_comm s1, hx, show dotI f1 (crs f0 f1) = 0 by unfold dotI crs; simp only; grind]
    exact ⟨⟨x * f1.1, by unfold comb; grind⟩, ⟨x * f1.2.1, by unfold comb; grind⟩, ⟨x * f1.2.2, by unfold comb; grind⟩⟩
  · rw [crs_crs2, show dotI s1 (crs s0 s1) = 0 by unfold dotI crs; simp only; grind, dotI_comm f1, hy]
    exact ⟨⟨-y * s1.1, by unfold comb; grind⟩, ⟨-y * s1.2.1, by unfold comb; grind⟩, ⟨-y * s1.2.2, by unfold comb; grind⟩⟩
/-- The same for the points and lines made normal; and the third meet is on the line. -/
theorem des_all {p : Int} (hp : prB p = true) {f0 f1 f2 s0 s1 s2 : Pt} (hf : ¬ p ∣ detZ f0 f1 f2) (hs : ¬ p ∣ detZ s0 s1 s2) (h0 : nzV p (crs f0 s0)) (h1 : nzV p (crs f1 s1)) (h2 : nzV p (crs f2 s2))
    (n0 : nzV p (crs (crsN p f0 f1) (crsN p s0 s1))) (n1 : nzV p (crs (crsN p f1 f2) (crsN p s1 s2))) (n2 : nzV p (crs (crsN p f2 f0) (crsN p s2 s0))) (hj : p ∣ detZ (crsN p f0 s0) (crsN p f1 s1) (crsN p f2 s2)) :
    nzV p (crs (crsN p (crsN p f0 f1) (crsN p s0 s1)) (crsN p (crsN p f1 f2) (crsN p s1 s2))) ∧
    onB p (crsN p (crsN p f2 f0) (crsN p s2 s0)) (crsN p (crsN p (crsN p f0 f1) (crsN p s0 s1)) (crsN p (crsN p f1 f2) (crsN p s1 s2))) = true := by
  obtain ⟨γ0, u0, j0⟩ := cg_crsN hp h0
  obtain ⟨γ1, u1, j1⟩ := cg_crsN hp h1
  obtain ⟨γ2, u2, j2⟩ := cg_crsN hp h2
  have hj' : p ∣ detZ (crs f0 s0) (crs f1 s1) (crs f2 s2) := by
    have hq := cg_dot2 j0 (cg_crs j1 j2)
    rw [← detZ_dot, ← detZ_dot] at hq
    exact mul_dvd hp ((Int.dvd_iff_dvd_of_dvd_sub hq).1 hj) (mul_nd hp u0 (mul_nd hp u1 u2))
  have c0 := cg_crs (cg_nrm hp (crs f0 f1)) (cg_nrm hp (crs s0 s1))
  have c1 := cg_crs (cg_nrm hp (crs f1 f2)) (cg_nrm hp (crs s1 s2))
  have c2 := cg_crs (cg_nrm hp (crs f2 f0)) (cg_nrm hp (crs s2 s0))
  have hx0 := nz_cg c0 n0
  have hx1 := nz_cg c1 n1
  obtain ⟨φ0, v0, g0⟩ := cg_crsN hp n0
  obtain ⟨φ1, v1, g1⟩ := cg_crsN hp n1
  obtain ⟨φ2, v2, g2⟩ := cg_crsN hp n2
  have hne := des_ne hp hf hs h1 hx0 hx1
  have nd : ∀ {k : Int} {v w : Pt}, cg p k v w → nzV p v → ¬ p ∣ k := by
    rintro k v w ⟨⟨a, ha⟩, ⟨b, hb⟩, ⟨c, hc⟩⟩ hv ⟨q, hq⟩
    rw [hq] at ha hb hc
    exact hv ⟨⟨a + q * w.1, by grind⟩, ⟨b + q * w.2.1, by grind⟩, ⟨c + q * w.2.2, by grind⟩⟩
  have d0 := cg_trans g0 c0
  have d1 := cg_trans g1 c1
  have d2 := cg_trans g2 c2
  have R := cg_crs d0 d1
  refine ⟨nz_cg' hp R (mul_nd hp (mul_nd hp v0 (nd c0 n0)) (mul_nd hp v1 (nd c1 n1))) hne, ?_⟩
  have S := cg_dot2 d2 (cg_trans (cg_nrm hp _) R)
  rw [des_col] at S
  have hd : p ∣ dotI (crsN p (crsN p f2 f0) (crsN p s2 s0)) (crsN p (crsN p (crsN p f0 f1) (crsN p s0 s1)) (crsN p (crsN p f1 f2) (crsN p s1 s2))) := (Int.dvd_iff_dvd_of_dvd_sub S).2 (Int.dvd_mul_of_dvd_right (Int.dvd_mul_of_dvd_right hj'))
  unfold onB
  rw [beq_iff_eq]
  exact Int.emod_eq_zero_of_dvd hd
end Go.Proofs.Ytoagfpdicpcjnaa
/- Plain words: what DesarguesLine returns, and what both makings lean on. -/
namespace Go.Proofs.Ytoagfpdicpcjnaa
set_option linter.unusedVariables false
set_option linter.unusedSimpArgs false
def conP (a b c x : Pt) : Bool := eqP x a || (eqP x b || eqP x c)
/-- The i-th sides' lines are one. -/
def desE (p : Int) (a b c d : Pt) : Bool := eqP (crsN p a b) (crsN p c d)
def desM (p : Int) (a b c d : Pt) : Pt := crsN p (crsN p a b) (crsN p c d)
def desD (p : Int) (a b c d e f : Pt) : Int := detZ (crsN p a d) (crsN p b e) (crsN p c f) % p
def desC (p : Int) (a b c d e f : Pt) : Pt × Int :=
  if (detZ a b c % p == 0 || detZ d e f % p == 0) = true then ((0, 0, 0), 5) else
  if (conP d e f a || (conP d e f b || conP d e f c)) = true then ((0, 0, 0), 5) else
  if (desE p a b d e || (desE p b c e f || desE p c a f d)) = true then ((0, 0, 0), 5) else
  if desD p a b c d e f ≠ 0 then ((0, 0, 0), 5) else (crsN p (desM p a b d e) (desM p b c e f), 0)
def desR (p : Int) (n1 n2 : Nat) (l1 l2 : List Pt) : Pt × Int :=
  if threesR p n1 n2 l1 l2 ≠ 0 then ((0, 0, 0), threesR p n1 n2 l1 l2) else
  desC p (l1.getD 0 (0, 0, 0)) (l1.getD 1 (0, 0, 0)) (l1.getD 2 (0, 0, 0)) (l2.getD 0 (0, 0, 0)) (l2.getD 1 (0, 0, 0)) (l2.getD 2 (0, 0, 0))
theorem desC_f1 {p : Int} {a b c : Pt} (d e f : Pt) (h : (detZ a b c % p == 0) = true) : desC p a b c d e f = ((0, 0, 0), 5) := by unfold desC; rw [h]; rfl
theorem desC_f2 {p : Int} {d e f : Pt} (a b c : Pt) (h : (detZ d e f % p == 0) = true) : desC p a b c d e f = ((0, 0, 0), 5) := by unfold desC; rw [h]; simp
theorem desC_con {p : Int} {a b c d e f : Pt} (h : (conP d e f a || (conP d e f b || conP d e f c)) = true) : desC p a b c d e f = ((0, 0, 0), 5) := by
  unfold desC; split
  · rfl
  · first | rfl | rw [if_pos h]
theorem desC_eq {p : Int} {a b c d e f : Pt} (h : (desE p a b d e || (desE p b c e f || desE p c a f d)) = true) : desC p a b c d e f = ((0, 0, 0), 5) := by
  unfold desC; split
  · rfl
  · split
    · rfl
    · first | rfl | rw [if_pos h]
theorem desC_det {p : Int} {a b c d e f : Pt} (h : desD p a b c d e f ≠ 0) : desC p a b c d e f = ((0, 0, 0), 5) := by
  unfold desC; split
  · rfl
  · split
    · rfl
    · split
      · rfl
      · first | rfl | rw [if_pos h]
theorem desC_good {p : Int} {a b c d e f : Pt} (h1 : (detZ a b c % p == 0) = false) (h2 : (detZ d e f % p == 0) = false) (h3 : (conP d e f a || (conP d e f b || conP d e f c)) = false) (h4 : (desE p a b d e || (desE p b c e f || desE p c a f d)) = false) (h5 : desD p a b c d e f = 0) :
    desC p a b c d e f = (crsN p (desM p a b d e) (desM p b c e f), 0) := by
  unfold desC
  rw [h1, h2, h3, h4]; simp [h5]
theorem eqP_comm (a b : Pt) : eqP a b = eqP b a := by
  unfold eqP
  rw [show (a.1 == b.1) = (b.1 == a.1) from BEq.comm, show (a.2.1 == b.2.1) = (b.2.1 == a.2.1) from BEq.comm, show (a.2.2 == b.2.2) = (b.2.2 == a.2.2) from BEq.comm]
theorem det_same (a b : Pt) : detZ a a b = 0 ∧ detZ a b a = 0 ∧ detZ b a a = 0 := by
  refine ⟨?_, ?_, ?_⟩ <;> (unfold detZ; grind)
theorem det_ne {p : Int} {a b c : Pt} (h : (detZ a b c % p == 0) = false) : eqP a b = false ∧ eqP b c = false ∧ eqP c a = false := by
  have h0 : detZ a b c % p ≠ 0 := by simpa using h
  refine ⟨?_, ?_, ?_⟩
  · cases hb : eqP a b with
    | false => rfl
    | true => rw [eqP_iff.1 hb, (det_same b c).1] at h0; simp at h0
  · cases hb : eqP b c with
    | false => rfl
    | true => rw [eqP_iff.1 hb, (det_same c a).2.2] at h0; simp at h0
  · cases hb : eqP c a with
    | false => rfl
    | true => rw [eqP_iff.1 hb, (det_same a b).2.1] at h0; simp at h0
/-- The lines of two sides meet in one point, unless they are one. -/
theorem ok_sides {n : Nat} {a b d e : Pt} (ha : ptB (n : Int) a.1 a.2.1 a.2.2 = true) (hb : ptB (n : Int) b.1 b.2.1 b.2.2 = true) (hd : ptB (n : Int) d.1 d.2.1 d.2.2 = true) (he : ptB (n : Int) e.1 e.2.1 e.2.2 = true) (h1 : eqP a b = false) (h2 : eqP d e = false) :
    okC n (crsN n a b) (crsN n d e) = !desE n a b d e := by
  unfold desE
  cases hq : eqP (crsN n a b) (crsN n d e) with
  | false => exact okC_of (nzV_of (crsN_pt ha hb h1) (crsN_pt hd he h2) hq)
  | true =>
    rw [eqP_iff.1 hq]
    unfold okC madeC made
    have : nzB (n : Int) [(crs (crsN n d e) (crsN n d e)).1, (crs (crsN n d e) (crsN n d e)).2.1, (crs (crsN n d e) (crsN n d e)).2.2] = false := by
      have e1 : ∀ v : Pt, (crs v v).1 = 0 ∧ (crs v v).2.1 = 0 ∧ (crs v v).2.2 = 0 := fun v => by unfold crs; refine ⟨?_, ?_, ?_⟩ <;> (simp only; grind)
      obtain ⟨x, y, z⟩ := e1 (crsN n d e)
      rw [x, y, z]
      unfold nzB
      simp
      first | rfl | (unfold zerosB; simp)
    rw [this]; rfl
theorem nz_sides {n : Nat} {a b d e : Pt} (ha : ptB (n : Int) a.1 a.2.1 a.2.2 = true) (hb : ptB (n : Int) b.1 b.2.1 b.2.2 = true) (hd : ptB (n : Int) d.1 d.2.1 d.2.2 = true) (he : ptB (n : Int) e.1 e.2.1 e.2.2 = true) (h1 : eqP a b = false) (h2 : eqP d e = false) (h : desE n a b d e = false) : nzV (n : Int) (crs (crsN n a b) (crsN n d e)) :=
  nzV_of (crsN_pt ha hb h1) (crsN_pt hd he h2) h
/-- The first two meets have a line, and the third is on it. -/
theorem des_thr {n : Nat} {a b c d e f : Pt} (ha : ptB (n : Int) a.1 a.2.1 a.2.2 = true) (hb : ptB (n : Int) b.1 b.2.1 b.2.2 = true) (hc : ptB (n : Int) c.1 c.2.1 c.2.2 = true) (hd : ptB (n : Int) d.1 d.2.1 d.2.2 = true) (he : ptB (n : Int) e.1 e.2.1 e.2.2 = true) (hf : ptB (n : Int) f.1 f.2.1 f.2.2 = true)
    (h1 : (detZ a b c % (n : Int) == 0) = false) (h2 : (detZ d e f % (n : Int) == 0) = false) (h3 : (conP d e f a || (conP d e f b || conP d e f c)) = false) (h4 : (desE n a b d e || (desE n b c e f || desE n c a f d)) = false) (h5 : desD n a b c d e f = 0) :
    okC n (desM n a b d e) (desM n b c e f) = true ∧ onB n (desM n c a f d) (crsN n (desM n a b d e) (desM n b c e f)) = true := by
  obtain ⟨q1, q2, q3⟩ := det_ne h1
  obtain ⟨r1, r2, r3⟩ := det_ne h2
  simp only [Bool.or_eq_false_iff] at h3 h4
  unfold conP at h3
  simp only [Bool.or_eq_false_iff] at h3
  have hp := (pt_facts ha).1
  have nd : ∀ {x : Int}, (x % (n : Int) == 0) = false → ¬ (n : Int) ∣ x := fun h hd => by rw [Int.emod_eq_zero_of_dvd hd] at h; exact absurd h (by decide)
  have := des_all hp (nd h1) (nd h2) (nzV_of ha hd h3.1.1) (nzV_of hb he h3.2.1.2.1) (nzV_of hc hf h3.2.2.2.2) (nz_sides ha hb hd he q1 r1 h4.1) (nz_sides hb hc he hf q2 r2 h4.2.1) (nz_sides hc ha hf hd q3 r3 h4.2.2) (Int.dvd_of_emod_eq_zero h5)
  exact ⟨okC_of this.1, this.2⟩
end Go.Proofs.Ytoagfpdicpcjnaa
/- Contracts: the program's PappusLine, walked. (Printed by genp5.py, a program of this session.) -/
namespace Go.Proofs.Ytoagfpdicpcjnaa
open Go.RowKit
set_option linter.unusedVariables false
set_option linter.unusedSimpArgs false
theorem results_rowT {P : Program} {fn : Func} {tmps : Array Value} {t s : Tmp} {W : World} {g : Nat} {T : TypeId} {cs : Array Value} {fr : Nat × Nat} {ty : TypeId} {x : Value} (h : fn.results = #[.cell t ty, .tmp s]) (ht : tmps.getD t undef = .pointer (some ⟨g, 0, none⟩)) (hx : tmps.getD s undef = x)
    (hg : W.heap[g]? = some (.cells cs T fr)) (n : Nat) (hn : cs.size = n) (hs : ∀ W, (sizeOf ty).run P W = .ok n W) (ha : ∀ W, (isAgg ty).run P W = .ok true W) : (results fn tmps).run P W = .ok (.tuple #[.agg cs, x]) W := by
  have hv := run_loadRow (P := P) ty hg n hn hs ha
  have ht' : tmps[t]?.getD undef = .pointer (some ⟨g, 0, none⟩) := by rw [← Array.getD_eq_getD_getElem?]; exact ht
  have hx' : tmps[s]?.getD undef = x := by rw [← Array.getD_eq_getD_getElem?]; exact hx
  have hp : ∀ a : Addr, asAddr (.pointer (some a)) = pure a := fun _ => rfl
  simp [results, h, ht', hx', hp, Sem.run_bind, Sem.run_pure, hv]
theorem rowI {w : World} {g off : Nat} {cs : Array Value} {T : TypeId} {fr : Nat × Nat} {z : Int} (h : w.heap[g]? = some (.cells cs T fr)) (hz : cs[off]? = some (.int .i64 z)) : w.cell? ⟨g, off, none⟩ = some (.int .i64 z) := by
  rw [cell_of_row w g off _ _ _ h]; exact hz
theorem pts3 {p : Int} {x y z u v t : Int} {a b c : Pt} (h : ptsB p [a, b, c] = true) : ptB p a.1 a.2.1 a.2.2 = true ∧ ptB p b.1 b.2.1 b.2.2 = true ∧ ptB p c.1 c.2.1 c.2.2 = true := by
  simp [ptsB] at h
  exact h
theorem list3 {l : List Pt} (h : l.length = 3) : ∃ a b c, l = [a, b, c] := by
  match l, h with
  | [a, b, c], _ => exact ⟨a, b, c, rfl⟩
end Go.Proofs.Ytoagfpdicpcjnaa
/- Contracts: the reference's PappusLine, walked. (Printed by genp6.py, a program of this session.) -/
namespace Go.Proofs.Ytoagfpdicpcjnaa
open Go.RowKit
set_option linter.unusedVariables false
set_option linter.unusedSimpArgs false
theorem own_sz {w : World} {base : Nat} {e : TypeId} {size n : Nat} {b : Addr} {m c : Nat} {xs : List Value} (h : w.ownsRow base e size (.slice (some b) m c) n xs) : base ≤ w.heap.size := by
  rcases h.2 with ⟨h1, _⟩ | ⟨g, cap, cur, h1, hb, hg, _⟩
  · cases h1
  · exact Nat.le_of_lt (Nat.lt_of_le_of_lt hb (Array.getElem?_eq_some_iff.1 hg).1)
theorem newPs (wr : World) (q : Nat) (hq : wr.heap.size = q) (x y z : Value) (T : TypeId) : ∀ (j : Nat) (u : Value), [x, y, z][j]? = some u → (wr.alloc (.cells #[x, y, z] T)).cell? ((⟨q, 0, none⟩ : Addr).add j) = some u := by
  subst hq
  exact newP wr x y z T
theorem own_szn {w : World} {base : Nat} {e : TypeId} {size n : Nat} {v : Value} {xs : List Value} (h : w.ownsRow base e size v n xs) (hn : 0 < n) : base ≤ w.heap.size := by
  rcases h.2 with ⟨_, h1⟩ | ⟨g, cap, cur, h1, hb, hg, _⟩
  · omega
  · exact Nat.le_of_lt (Nat.lt_of_le_of_lt hb (Array.getElem?_eq_some_iff.1 hg).1)
end Go.Proofs.Ytoagfpdicpcjnaa
/- Contracts: pointsThat, for each closure that is handed to it. (Printed by genthat.py, a program of this session.) -/
namespace Go.Proofs.Ytoagfpdicpcjnaa
open Go.RowKit
set_option linter.unusedVariables false
set_option linter.unusedSimpArgs false
end Go.Proofs.Ytoagfpdicpcjnaa
/- Contracts: the two closures of QuadranglePoint. -/
namespace Go.Proofs.Ytoagfpdicpcjnaa
open Go.RowKit
set_option linter.unusedVariables false
set_option linter.unusedSimpArgs false
end Go.Proofs.Ytoagfpdicpcjnaa
/- Contracts: the fourth harmonic point: the reference. -/
namespace Go.Proofs.Ytoagfpdicpcjnaa
open Go.RowKit
set_option linter.unusedVariables false
set_option linter.unusedSimpArgs false
theorem hn_past' (w : World) (o : Obj) (n : Nat) (h : n < w.heap.size) : (w.alloc o).heap[n]? = w.heap[n]? := by
  rw [heap_alloc_old]; exact h
theorem eqgPo : Try.prog.eqGuardType Try.prog.depth 33 = false := by kernel_rfl
theorem calm_eqPo {o : Oper} {ρ : Operand → Value} {W : World} {k : TypeId} (x y : Operand) {a0 a1 a2 b0 b1 b2 : Int} {v : Bool} (ho : o.op = .binOp .eql 33 x y k) (hx : ρ x = ptV a0 a1 a2) (hy : ρ y = ptV b0 b1 b2) (hv : eqP (a0, a1, a2) (b0, b1, b2) = v) : calmAt Try.prog o ρ W (.bool v) := by
  refine calm_run ?_
  unfold execOp
  subst hv
  simp only [ho, hx, hy, Sem.run_bind, run_eqGuard_agg W .eql 33 x y _ _ eqgPo, Result.andThen_ok, eqPo, Sem.run_pure]
theorem calm_pick' {P : Program} {o : Oper} {ρ : Operand → Value} {W : World} (x y z : Operand) {c : Bool} {v : Value} (ho : o.op = .pick x y z) (hx : ρ x = .bool c) (hv : (if c = true then ρ y else ρ z) = v) : calmAt P o ρ W v := by
  refine calm_run ?_
  unfold execOp
  subst hv
  simp only [ho, hx, asBool, Sem.run_bind, Sem.run_pure, Result.andThen_ok]
theorem head_two {n : Nat} {A R S s : Pt} (h : headP ((allP n).filter (fun x => onB (n : Int) x S && (!eqP x A && !eqP x R))) = s) :
    headP (((allP n).filter (fun x => onB (n : Int) x S)).filter (fun x => !eqP x A && !eqP x R)) = s := by
  rw [List.filter_filter, ← h]
  congr 2
  funext x
  exact Bool.and_comm _ _
theorem rows3 {W : World} {g : Nat} {x y z : Int} {T : TypeId} (h : W.heap[g]? = some (.cells #[.int .i64 x, .int .i64 y, .int .i64 z] T (0, 0))) :
    W.cell? ⟨g, 0, none⟩ = some (.int .i64 x) ∧ W.cell? ⟨g, 1, none⟩ = some (.int .i64 y) ∧ W.cell? ⟨g, 2, none⟩ = some (.int .i64 z) ∧ g < W.heap.size ∧ W.frozen? ⟨g, 0, none⟩ = false ∧ W.frozen? ⟨g, 1, none⟩ = false ∧ W.frozen? ⟨g, 2, none⟩ = false :=
  ⟨by rw [cell_of_row W g 0 _ _ _ h]; rfl, by rw [cell_of_row W g 1 _ _ _ h]; rfl, by rw [cell_of_row W g 2 _ _ _ h]; rfl, (Array.getElem?_eq_some_iff.1 h).1, frozen_of_row W g 0 _ _ h, frozen_of_row W g 1 _ _ h, frozen_of_row W g 2 _ _ h⟩
theorem three_ne {p : Int} {a b c : Pt} (h : threeB p a b c = true) : eqP a b = false := by
  unfold threeB at h
  rw [Bool.and_eq_true] at h
  cases e : eqP a b with
  | false => rfl
  | true => rw [e] at h; cases h.1
theorem quadR_no {p : Int} {a b c : Pt} (h : codeOf p (ptsB p [a, b, c]) ≠ 0) : quadR p a b c = ((0, 0, 0), codeOf p (ptsB p [a, b, c])) := by
  unfold quadR; rw [if_pos h]
theorem quadR_three {p : Int} {a b c : Pt} (h : codeOf p (ptsB p [a, b, c]) = 0) (h3 : threeB p a b c = false) : quadR p a b c = ((0, 0, 0), 5) := by
  unfold quadR; rw [if_neg (by simpa using h), if_pos h3]
/-- What the walks lean on, the points named. -/
structure QuadAt (n : Nat) (A B C L R S s V1 V2 t V3 V4 u V5 o : Pt) : Prop where
  eq : quadR n A B C = (o, 0)
  hp : prB (n : Int) = true
  n3 : 3 ≤ n ∧ n ≤ 13
  iA : In13 A
  iB : In13 B
  iC : In13 C
  iR : In13 R
  is : In13 s
  iL : In13 L
  iS : In13 S
  i1 : In13 V1
  i2 : In13 V2
  it : In13 t
  i3 : In13 V3
  i4 : In13 V4
  iu : In13 u
  i5 : In13 V5
  eL : crsN n A B = L
  offL : ∃ x ∈ allP n, onB (n : Int) x L = false
  eR : headP ((allP n).filter (fun x => !onB (n : Int) x L)) = R
  eS : crsN n A R = S
  onS : ∃ x ∈ allP n, (onB (n : Int) x S = true ∧ x ≠ A ∧ x ≠ R)
  es : headP ((allP n).filter (fun x => onB (n : Int) x S && (!eqP x A && !eqP x R))) = s
  e1 : crsN n B s = V1
  e2 : crsN n C R = V2
  et : crsN n V1 V2 = t
  e3 : crsN n B R = V3
  e4 : crsN n A t = V4
  eu : crsN n V3 V4 = u
  e5 : crsN n s u = V5
  eo : crsN n L V5 = o
theorem headP_mem {f : Pt → Bool} {l : List Pt} (h : ∃ x ∈ l, f x = true) : headP (l.filter f) ∈ l := by
  obtain ⟨x, hx, hf⟩ := h
  have : x ∈ l.filter f := List.mem_filter.2 ⟨hx, hf⟩
  cases e : l.filter f with
  | nil => rw [e] at this; cases this
  | cons y r => exact (List.mem_filter.1 (show y ∈ l.filter f by rw [e]; simp)).1
theorem quad_at {p : Int} {A B C : Pt} (h : codeOf p (ptsB p [A, B, C]) = 0) (h3 : threeB p A B C = true) :
    ∃ n : Nat, p = n ∧ ∃ L R S s V1 V2 t V3 V4 u V5 o, QuadAt n A B C L R S s V1 V2 t V3 V4 u V5 o := by
  obtain ⟨hp, hpts⟩ := code_zero h
  have hb := prB_bd hp
  obtain ⟨n, rfl⟩ : ∃ n : Nat, p = n := ⟨p.toNat, by omega⟩
  simp only [ptsB, List.all_cons, List.all_nil, Bool.and_true, Bool.and_eq_true] at hpts
  obtain ⟨qa, qb, qc⟩ := hpts
  obtain ⟨f1, f2⟩ := quad_facts qa qb (three_ne h3)
  have n13 : n ≤ 13 := by omega
  have mR : quadR1 n A B ∈ allP n := headP_mem (by obtain ⟨x, hx, h2⟩ := f1; exact ⟨x, hx, by rw [h2]; rfl⟩)
  have ms : quadS n A (quadR1 n A B) ∈ allP n := headP_mem (by
    obtain ⟨x, hx, h1, h2, h3⟩ := f2
    refine ⟨x, hx, ?_⟩
    have e2 : eqP x A = false := by cases e : eqP x A with | false => rfl | true => exact (h2 (eqP_iff.1 e)).elim
    have e3 : eqP x (quadR1 n A B) = false := by cases e : eqP x (quadR1 n A B) with | false => rfl | true => exact (h3 (eqP_iff.1 e)).elim
    rw [h1, e2, e3]; rfl)
  have ci : ∀ a b, In13 (crsN n a b) := fun a b => crsN_in' (a := a) (b := b) hp
  refine ⟨n, rfl, _, _, _, _, _, _, _, _, _, _, _, _, ⟨?_, hp, by omega, in13' qa, in13' qb, in13' qc, allP_in n13 _ mR, allP_in n13 _ ms, ci _ _, ci _ _, ci _ _, ci _ _, ci _ _, ci _ _, ci _ _, ci _ _, ci _ _, rfl, f1, rfl, rfl, f2, rfl, rfl, rfl, rfl, rfl, rfl, rfl, rfl, rfl⟩⟩
  unfold quadR
  rw [if_neg (by simpa using h), if_neg (by rw [h3]; decide), Int.toNat_natCast]
end Go.Proofs.Ytoagfpdicpcjnaa
/- Contracts: slices.Index and slices.Contains over points; two own lists of points, with what else a walk holds. (Printed by genq3.py, a program of this session.) -/
namespace Go.Proofs.Ytoagfpdicpcjnaa
open Go.RowKit
set_option linter.unusedVariables false
set_option linter.unusedSimpArgs false
/-- The number that Index hands back. -/
def IdxOf (x : Pt) (L : List Pt) (w : World) (e : Ending) (w' : World) : Prop := ∃ v : Int, e = .returned (.int .i64 v) ∧ decide (0 ≤ v) = L.any (fun b => eqP x b) ∧ Below w.heap.size w w'
set_option maxRecDepth 20000 in
set_option maxHeartbeats 4000000 in
theorem IndexP_any (x0 x1 x2 : Int) (g n c : Nat) (L : List Pt) (w : World) (hn : n ≤ 1000000) (hL : L.length = n) (hP : PtsAt w g 0 n L) :
    Calls Try.prog 51 #[.slice (some ⟨g, 0, none⟩) n c, ptV x0 x1 x2] w (IdxOf (x0, x1, x2) L w) := by
  have HP := Lib.hid hP
  have HLn := Lib.hid hL
  clear hP hL
  go_enter Try.func51, Try.ntmps51
  go_wp2
  go_loopw [8] (fun i wr => ∃ k : Nat, k ≤ n ∧ i = .int .i64 k ∧ Hid (∀ j, j < k → eqP (x0, x1, x2) (L.getD j (0, 0, 0)) = false) ∧ Hid (wr.heap[w.heap.size]? = some (.cells #[.int .i64 x0, .int .i64 x1, .int .i64 x2] 33 (0, 0))) ∧ Hid (Below w.heap.size w wr)) (fun i wr => n - (intOf i).toNat)
  case atStart => exact ⟨0, Nat.zero_le _, rfl, Lib.hid (fun j hj => absurd hj (Nat.not_lt_zero _)), Lib.hid (heap_alloc_new _ _), Lib.hid (bal (Below.refl _ _) _)⟩
  case round =>
    obtain ⟨k, hk, rfl, HA, HX, HB⟩ := hrel
    by_cases hlt : k < n
    · have hkk := (HP.out.below HB.out) k hlt
      obtain ⟨b, hb⟩ : ∃ b, L.getD k (0, 0, 0) = b := ⟨_, rfl⟩
      rw [hb] at hkk
      obtain ⟨b0, b1, b2⟩ := b
      simp only [Nat.zero_add] at hkk
      obtain ⟨c0, c1, c2⟩ := hkk
      have C0 := Lib.hid c0; have C1 := Lib.hid c1; have C2 := Lib.hid c2
      have hlx := (Array.getElem?_eq_some_iff.1 HX.out).1
      obtain ⟨eb, heb⟩ : ∃ eb, eqP (x0, x1, x2) (b0, b1, b2) = eb := ⟨_, rfl⟩
      have HEb := Lib.hid heb
      have HLb := Lib.hid hb
      clear heb hb c0 c1 c2
      go_wp2
      refine region_calmG [(11, ptV x0 x1 x2), (12, .slice (some ⟨g, 0, none⟩) n c), (13, .int .i64 (k : Int)), (14, .pointer (some ⟨g, k * 3, none⟩)), (15, ptV b0 b1 b2), (16, .bool eb)] (by kernel_rfl) (by kernel_rfl) (by kernel_rfl) (fun aE hpe => ?_)
      simp only [puts, Act.put, List.setIfInBounds_toArray, List.set_cons_zero, List.set_cons_succ] at hpe
      subst hpe
      refine ⟨⟨.inr (.inr ?_), .inr (.inr ?_), .inr (.inr ?_), .inr (.inr ?_), .inr (.inr ?_), .inr (.inr ?_), trivial⟩, ?_⟩
      · exact CalmG.mk 11 (ptV x0 x1 x2) rfl rfl rfl (fun W hW => calm_load (cs := #[.int .i64 x0, .int .i64 x1, .int .i64 x2]) (g := w.heap.size) (T := 33) (fr := (0, 0)) 33 (.tmp 3) rfl rfl ((hW.block _ hlx).trans HX.out) 3 rfl Try.sizeOf33 Try.isAgg33)
      · exact CalmG.mk 12 (.slice (some ⟨g, 0, none⟩) n c) rfl rfl rfl (fun W hW => calm_move (.tmp 0) rfl rfl)
      · exact CalmG.mk 13 (.int .i64 (k : Int)) rfl rfl rfl (fun W hW => calm_move (.tmp 5) rfl rfl)
      · exact CalmG.mk 14 (.pointer (some ⟨g, k * 3, none⟩)) rfl rfl rfl (fun W hW => calm_run (by simp [execOp, Act.eval, go_sem, Addr.add, hlt] <;> omega))
      · exact CalmG.mk 15 (ptV b0 b1 b2) rfl rfl rfl (fun W hW => calm_loadPt 33 (.tmp 14) rfl rfl (cell_below hW C0.out) (cell_below hW C1.out) (cell_below hW C2.out) Try.sizeOf33 Try.isAgg33)
      · exact CalmG.mk 16 (.bool eb) rfl rfl rfl (fun W hW => calm_eqPo (.tmp 11) (.tmp 15) rfl rfl rfl HEb.out)
      intro W hW
      have HW := Lib.hid hW
      have hws := hW.size
      clear hW
      cases eb with
      | true =>
        go_wp2
        go_ret
        refine ⟨(k : Int), rfl, ?_, low_tr' HB.out HW.out HB.out.size⟩
        rw [decide_eq_true (by omega), Eq.comm, List.any_eq_true]
        exact ⟨(b0, b1, b2), by have h9 : k < L.length := (by rw [HLn.out]; exact hlt); rw [← HLb.out, List.getD_eq_getElem?_getD, List.getElem?_eq_getElem h9]; exact List.getElem_mem h9, HEb.out⟩
      | false =>
        go_wp2
        go_roundw
        case rel => exact ⟨k + 1, by omega, by go_num, Lib.hid (fun j hj => by
          rcases Nat.lt_or_ge j k with h | h
          · exact HA.out j h
          · have : j = k := by omega
            rw [this, HLb.out]; exact HEb.out), Lib.hid ((HW.out.block _ hlx).trans HX.out), Lib.hid (low_tr' HB.out HW.out HB.out.size)⟩
        case measure => simp [intOf]; omega
    · have hkn : k = n := by omega
      go_wp2
      go_ret
      refine ⟨-1, rfl, ?_, HB.out⟩
      rw [decide_eq_false (by omega), Eq.comm, List.any_eq_false]
      intro b hb
      obtain ⟨j, hj, e⟩ := List.mem_iff_getElem.1 hb
      have := HA.out j (by rw [hkn, ← HLn.out]; exact hj)
      rw [List.getD_eq_getElem?_getD, List.getElem?_eq_getElem hj] at this
      simp only [Option.getD_some] at this
      rw [← e, this]; simp
set_option maxHeartbeats 2000000 in
theorem ContainsP_any (x0 x1 x2 : Int) (g n c : Nat) (L : List Pt) (w : World) (hn : n ≤ 1000000) (hL : L.length = n) (hP : PtsAt w g 0 n L) :
    Calls Try.prog 32 #[.slice (some ⟨g, 0, none⟩) n c, ptV x0 x1 x2] w (Ret w (.bool (L.any (fun b => eqP (x0, x1, x2) b)))) := by
  have HI := Lib.hid (fun (W : World) (hW : Below w.heap.size w W) => IndexP_any x0 x1 x2 g n c L W hn hL (hP.below hW))
  clear hP hL
  go_enter Try.func32, Try.ntmps32
  go_wp2_with (first
    | (refine wpList_load_row _ rfl 33 _ rfl (g := w.heap.size) (T := 33) (cs := #[.int .i64 x0, .int .i64 x1, .int .i64 x2]) (fr := (0, 0)) rfl (heap_alloc_new _ _) 3 rfl Try.sizeOf33 Try.isAgg33 ?_)
    | (go_at_call 51; refine (HI.out _ (bal (Below.refl _ _) _)).mono ?_; rintro e w1_ ⟨v, rfl, hv, hb⟩; have HV := Lib.hid hv; have HB1 := Lib.hid hb; clear hv hb))
  go_ret
  refine ⟨?_, (by repeat (first | exact Below.refl _ _ | refine bset ?_ _ _ (by omega) _ | refine bal ?_ _ | refine bdrN ?_ _ | refine bdr ?_ | refine below_tr' ?_ HB1.out))⟩
  rw [← HV.out]
  first | rfl | simp [Value.bool]
end Go.Proofs.Ytoagfpdicpcjnaa
