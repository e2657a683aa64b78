/- Texts of the claim, in build order: IR5, IR6, Open. No condition. -/
import Derived.Laws.IdiomArrays
import Derived.OpenShut
import Derived.ChangeOld
import Derived.SizedLaws
import Derived.Test.YtcfilpcjgdbbmaaZIncidenceRank8
/- Contracts: the reference's IncidenceRank. -- tables -/
namespace Go.Proofs.Ytcfilpcjgdbbmaa
open Go.RowKit
set_option linter.unusedVariables false
set_option linter.unusedSimpArgs false
theorem l01On_b {p : Int} {a b : Pt} {v : Bool} (w : World) (hv : onB p a b = v) (hp : prB p = true) (ha : In13 a) (hb : In13 b) : Calls Try.prog 21 #[.int .i64 p, pV a, pV b] w (Ret w (.bool v)) := by rw [← hv]; exact l01On_P w hp ha hb
theorem l01Mod_R {p n r : Int} (w : World) (hr : n % p = r) (hp : 0 < p) (hp' : p ≤ 1000) (hn : -4611686018427387904 ≤ n) (hn' : n ≤ 4611686018427387904) : Calls Try.prog 23 #[.int .i64 p, .int .i64 n] w (Ret w (.int .i64 r)) := by
  subst hr
  refine (l01Mod_any p n w hp hp' hn hn').mono ?_
  rintro e w' ⟨rfl, rfl⟩
  exact ⟨rfl, Below.refl _ _⟩
def bitL (f : Nat → Bool) (m : Nat) : List Int := (List.range m).map (fun t => if f t = true then (1 : Int) else 0)
theorem bitL_length (f : Nat → Bool) (m : Nat) : (bitL f m).length = m := by simp [bitL]
theorem bitL_yes {f : Nat → Bool} {m : Nat} (h : f m = true) : bitL f m ++ [1] = bitL f (m + 1) := by simp [bitL, List.range_succ, h]
theorem bitL_no {f : Nat → Bool} {m : Nat} (h : f m = false) : bitL f m ++ [0] = bitL f (m + 1) := by simp [bitL, List.range_succ, h]
theorem bitL_at (f : Nat → Bool) (m l : Nat) (h : l < m) : (bitL f m).getD l 0 = if f l = true then (1 : Int) else 0 := by simp [bitL, List.getD, h]
set_option pp.deepTerms false
set_option pp.deepTerms.threshold 8
set_option maxRecDepth 20000 in
set_option maxHeartbeats 8000000 in
theorem IncidenceRank_spec_yes (n N : Nat) (q : Int) (all : List Pt) (w : World) (hp : prB (n : Int) = true) (hq : prB q = true) (hA : allP n = all) (hN : all.length = N) (hN1 : N ≤ 200) (hN3 : 3 ≤ N) (hin : ∀ a ∈ all, In13 a) (r : Nat) (hr : (elim q N (inc (n : Int) all) N).1 = r) :
    Calls Try.prog 6 #[.int .i64 (n : Int), .int .i64 q] w (Ret w (.tuple #[.int .i64 (r : Int), .int .i64 0])) := by
  obtain ⟨b1, b2⟩ := prB_bd hp
  obtain ⟨c1, c2⟩ := prB_bd hq
  have hn13 : n ≤ 13 := by omega
  have hNp : 0 < all.length := by omega
  have HA := Lib.hid hA
  have HIN := Lib.hid (fun k (hk : k < N) => hin (all.getD k (0, 0, 0)) (by rw [List.getD_eq_getElem?_getD, List.getElem?_eq_getElem (by omega)]; exact List.getElem_mem _))
  have HR := Lib.hid hr
  clear hA hin hr
  go_enter Try.func6, Try.ntmps6
  go_wp2_with (first | (refine wl_loadC ?_) | (refine wl_load ?_) | (refine wl_storeC ?_) | (refine wl_store ?_) | (refine wl_build ?_) | (refine wl_slice ?_) | (refine wl_make ?_; intro gr W' hgr hl hR; have hs := hl.out.size; (try simp at hs)) | (refine wl_append (he := eltSl) ?_; intro v' w' ho hg hb; have hs := hg.size; (try simp at hs)) | (refine wl_append ?_; intro v' w' ho hg hb; have hs := hg.size; (try simp at hs); (try rw [ptCs_end] at ho); (try rw [ints_end] at ho); (try simp only [Nat.zero_add, Nat.reduceAdd, List.nil_append, List.cons_append] at ho)) | (go_at_call 19; (with_reducible refine (l01Prime_yes _ _ (by assumption)).mono ?_); rintro e w' ⟨rfl, rfl⟩) | (go_at_call 20; (with_reducible refine (l01Points_any n _ ⟨by omega, by omega⟩).mono ?_); rintro e w' ⟨v, rfl, ho, hb⟩; rw [HA.out] at ho; obtain ⟨gp, cp, rfl, hg0, hg1, hpt⟩ := ownPts ho rfl hNp; (simp only [hN] at hpt ⊢); have hPK := PtsK.mk hpt; have hl := Link.mk hb; have hs := hb.size; (try simp at hs); clear hb ho hpt) | ((with_reducible apply region_gd (id := 11)); refine region_QA (id := 11) 10 ?_; apply Exists.intro; refine ⟨fun G => ?_, fun W hl => ?_⟩; (· (simp only [List.take_succ_cons, List.take_zero]; (repeat (first | go_big_quiet_skip | (go_big_quiet_want; first | (refine q_loadC ?_; simp only [Act.put, List.setIfInBounds_toArray, List.set_cons_zero, List.set_cons_succ]; go_big_quiet_on) | (refine q_load ?_; simp only [Act.put, List.setIfInBounds_toArray, List.set_cons_zero, List.set_cons_succ]; go_big_quiet_on) | (go_big_quiet_op; first | go_big_quiet_on)))); exact rfl)); have hs := hl.out.size; (try simp at hs); simp only [List.drop_succ_cons, List.drop_zero]) | ((with_reducible apply region_gd (id := 36)); refine region_QA (id := 36) 16 ?_; apply Exists.intro; refine ⟨fun G => ?_, fun W hl => ?_⟩; (· (simp only [List.take_succ_cons, List.take_zero]; (repeat (first | go_big_quiet_skip | (go_big_quiet_want; first | (refine q_loadC ?_; simp only [Act.put, List.setIfInBounds_toArray, List.set_cons_zero, List.set_cons_succ]; go_big_quiet_on) | (refine q_load ?_; simp only [Act.put, List.setIfInBounds_toArray, List.set_cons_zero, List.set_cons_succ]; go_big_quiet_on) | (go_big_quiet_op; first | go_big_quiet_on)))); exact rfl)); have hs := hl.out.size; (try simp at hs); simp only [List.drop_succ_cons, List.drop_zero]))
  obtain ⟨B, hB⟩ : ∃ B, w'.heap.size = B := ⟨_, rfl⟩
  have hB1 := Nat.le_of_eq hB
  have hB2 := Nat.le_of_eq hB.symm
  clear hB
  have hO0 : OwnK (w'.alloc (.cells #[] 43)) B 43 1 (.slice (some ⟨w'.heap.size, 0, none⟩) 0 0) 0 (rowVs N (fun _ => (0, 0)) 0) := OwnK.empty findRow (by omega)
  go_loopw [7, 8] (fun v i wr => ∃ (k : Nat) (gs : Nat → Nat × Nat), k ≤ N ∧ i = .int .i64 (k : Int) ∧ OwnK wr B 43 1 v k (rowVs N gs k) ∧ RowsK wr B k N gs (inc (n : Int) all) ∧ LowK w wr ∧ PtsK wr gp 0 N all ∧ B ≤ wr.heap.size) (fun _ i wr => N - (intOf i).toNat)
  case atStart => exact ⟨0, _, Nat.zero_le _, rfl, hO0, RowsK.nil _ _ _ _ _, findLow, findPts, (by simp; omega)⟩
  case round =>
    clear hO0 hPK hl hs
    obtain ⟨k, gs, hk, rfl, hO, hRows, hV, hPt, hsz⟩ := hrel
    by_cases hlt : k < N
    · obtain ⟨a, ha⟩ : ∃ a, all.getD k (0, 0, 0) = a := ⟨_, rfl⟩
      have hia : In13 a := by rw [← ha]; exact HIN.out k hlt
      go_wp2_with (first | (refine wl_loadC ?_) | (refine wl_load ?_) | (refine wl_storeC ?_) | (refine wl_store ?_) | (refine wl_build ?_) | (refine wl_slice ?_) | (refine wl_make ?_; intro gr W' hgr hl hR; have hs := hl.out.size; (try simp at hs)) | (refine wl_append (he := eltSl) ?_; intro v' w' ho hg hb; have hs := hg.size; (try simp at hs)) | (refine wl_append ?_; intro v' w' ho hg hb; have hs := hg.size; (try simp at hs); (try rw [ptCs_end] at ho); (try rw [ints_end] at ho); (try simp only [Nat.zero_add, Nat.reduceAdd, List.nil_append, List.cons_append] at ho)) | ((with_reducible apply region_gd (id := 11)); refine region_QA (id := 11) 10 ?_; apply Exists.intro; refine ⟨fun G => ?_, fun W hl => ?_⟩; (· (simp only [List.take_succ_cons, List.take_zero]; (repeat (first | go_big_quiet_skip | (go_big_quiet_want; first | (refine q_loadC ?_; simp only [Act.put, List.setIfInBounds_toArray, List.set_cons_zero, List.set_cons_succ]; go_big_quiet_on) | (refine q_load ?_; simp only [Act.put, List.setIfInBounds_toArray, List.set_cons_zero, List.set_cons_succ]; go_big_quiet_on) | (go_big_quiet_op; first | go_big_quiet_on)))); exact rfl)); have hs := hl.out.size; (try simp at hs); simp only [List.drop_succ_cons, List.drop_zero]) | ((with_reducible apply region_gd (id := 36)); refine region_QA (id := 36) 16 ?_; apply Exists.intro; refine ⟨fun G => ?_, fun W hl => ?_⟩; (· (simp only [List.take_succ_cons, List.take_zero]; (repeat (first | go_big_quiet_skip | (go_big_quiet_want; first | (refine q_loadC ?_; simp only [Act.put, List.setIfInBounds_toArray, List.set_cons_zero, List.set_cons_succ]; go_big_quiet_on) | (refine q_load ?_; simp only [Act.put, List.setIfInBounds_toArray, List.set_cons_zero, List.set_cons_succ]; go_big_quiet_on) | (go_big_quiet_op; first | go_big_quiet_on)))); exact rfl)); have hs := hl.out.size; (try simp at hs); simp only [List.drop_succ_cons, List.drop_zero]))
      have hr0 : OwnK (wr.alloc (.cells #[] 2)) wr.heap.size 2 1 (.slice (some ⟨wr.heap.size, 0, none⟩) 0 0) 0 (ints (bitL (fun j => onB (n : Int) (all.getD j (0, 0, 0)) a) 0)) := OwnK.empty findRow (by omega)
      go_loopw [9, 10] (fun v j wi => ∃ m : Nat, m ≤ N ∧ j = .int .i64 (m : Int) ∧ LowK wr wi ∧ OwnK wi wr.heap.size 2 1 v m (ints (bitL (fun j => onB (n : Int) (all.getD j (0, 0, 0)) a) m))) (fun _ j wi => N - (intOf j).toNat)
      case atStart => exact ⟨0, Nat.zero_le _, rfl, findLow, hr0⟩
      case round =>
        clear hr0
        obtain ⟨m, hm, rfl, hVi, hr⟩ := hrel
        have hPi := PtsK.link (LowK.lnk hVi) hPt
        have hszi := hVi.size
        by_cases hlm : m < N
        · obtain ⟨b, hbm⟩ : ∃ b, all.getD m (0, 0, 0) = b := ⟨_, rfl⟩
          have hib : In13 b := by rw [← hbm]; exact HIN.out m hlm
          rcases hv : onB (n : Int) b a with _ | _
          · go_wp2_with (first | (refine wl_loadC ?_) | (refine wl_load ?_) | (refine wl_storeC ?_) | (refine wl_store ?_) | (refine wl_build ?_) | (refine wl_slice ?_) | (refine wl_make ?_; intro gr W' hgr hl hR; have hs := hl.out.size; (try simp at hs)) | (refine wl_append (he := eltSl) ?_; intro v' w' ho hg hb; have hs := hg.size; (try simp at hs)) | (refine wl_append ?_; intro v' w' ho hg hb; have hs := hg.size; (try simp at hs); (try rw [ptCs_end] at ho); (try rw [ints_end] at ho); (try simp only [Nat.zero_add, Nat.reduceAdd, List.nil_append, List.cons_append] at ho)) | (go_at_call 21; (with_reducible refine (l01On_b _ hv hp hib hia).mono ?_); rintro e w' ⟨rfl, hb⟩; have hl := Link.mk hb; have hs := hb.size; (try simp at hs); clear hb) | ((with_reducible apply region_gd (id := 11)); refine region_QA (id := 11) 10 ?_; apply Exists.intro; refine ⟨fun G => ?_, fun W hl => ?_⟩; (· (simp only [List.take_succ_cons, List.take_zero]; (repeat (first | go_big_quiet_skip | (go_big_quiet_want; first | (refine q_loadC ?_; simp only [Act.put, List.setIfInBounds_toArray, List.set_cons_zero, List.set_cons_succ]; go_big_quiet_on) | (refine q_load ?_; simp only [Act.put, List.setIfInBounds_toArray, List.set_cons_zero, List.set_cons_succ]; go_big_quiet_on) | (go_big_quiet_op; first | go_big_quiet_on | (apply Exists.intro; refine ⟨fun g => ?_, ?_⟩; (· (have hl := growL g; first | (go_at_call 21; with_reducible exact grow_ret (l01On_b _ hv hp hib hia)))); go_big_quiet_on))))); exact rfl)); have hs := hl.out.size; (try simp at hs); simp only [List.drop_succ_cons, List.drop_zero]) | ((with_reducible apply region_gd (id := 36)); refine region_QA (id := 36) 16 ?_; apply Exists.intro; refine ⟨fun G => ?_, fun W hl => ?_⟩; (· (simp only [List.take_succ_cons, List.take_zero]; (repeat (first | go_big_quiet_skip | (go_big_quiet_want; first | (refine q_loadC ?_; simp only [Act.put, List.setIfInBounds_toArray, List.set_cons_zero, List.set_cons_succ]; go_big_quiet_on) | (refine q_load ?_; simp only [Act.put, List.setIfInBounds_toArray, List.set_cons_zero, List.set_cons_succ]; go_big_quiet_on) | (go_big_quiet_op; first | go_big_quiet_on | (apply Exists.intro; refine ⟨fun g => ?_, ?_⟩; (· (have hl := growL g; first | (go_at_call 21; with_reducible exact grow_ret (l01On_b _ hv hp hib hia)))); go_big_quiet_on))))); exact rfl)); have hs := hl.out.size; (try simp at hs); simp only [List.drop_succ_cons, List.drop_zero]))
            go_roundw
            case rel => exact ⟨m + 1, by omega, by go_num, findLow, by rw [← bitL_no (f := fun j => onB (n : Int) (all.getD j (0, 0, 0)) a) (by rw [hbm, hv])]; exact ho⟩
            case measure => (simp [intOf]; try omega)
          · go_wp2_with (first | (refine wl_loadC ?_) | (refine wl_load ?_) | (refine wl_storeC ?_) | (refine wl_store ?_) | (refine wl_build ?_) | (refine wl_slice ?_) | (refine wl_make ?_; intro gr W' hgr hl hR; have hs := hl.out.size; (try simp at hs)) | (refine wl_append (he := eltSl) ?_; intro v' w' ho hg hb; have hs := hg.size; (try simp at hs)) | (refine wl_append ?_; intro v' w' ho hg hb; have hs := hg.size; (try simp at hs); (try rw [ptCs_end] at ho); (try rw [ints_end] at ho); (try simp only [Nat.zero_add, Nat.reduceAdd, List.nil_append, List.cons_append] at ho)) | (go_at_call 21; (with_reducible refine (l01On_b _ hv hp hib hia).mono ?_); rintro e w' ⟨rfl, hb⟩; have hl := Link.mk hb; have hs := hb.size; (try simp at hs); clear hb) | ((with_reducible apply region_gd (id := 11)); refine region_QA (id := 11) 10 ?_; apply Exists.intro; refine ⟨fun G => ?_, fun W hl => ?_⟩; (· (simp only [List.take_succ_cons, List.take_zero]; (repeat (first | go_big_quiet_skip | (go_big_quiet_want; first | (refine q_loadC ?_; simp only [Act.put, List.setIfInBounds_toArray, List.set_cons_zero, List.set_cons_succ]; go_big_quiet_on) | (refine q_load ?_; simp only [Act.put, List.setIfInBounds_toArray, List.set_cons_zero, List.set_cons_succ]; go_big_quiet_on) | (go_big_quiet_op; first | go_big_quiet_on | (apply Exists.intro; refine ⟨fun g => ?_, ?_⟩; (· (have hl := growL g; first | (go_at_call 21; with_reducible exact grow_ret (l01On_b _ hv hp hib hia)))); go_big_quiet_on))))); exact rfl)); have hs := hl.out.size; (try simp at hs); simp only [List.drop_succ_cons, List.drop_zero]) | ((with_reducible apply region_gd (id := 36)); refine region_QA (id := 36) 16 ?_; apply Exists.intro; refine ⟨fun G => ?_, fun W hl => ?_⟩; (· (simp only [List.take_succ_cons, List.take_zero]; (repeat (first | go_big_quiet_skip | (go_big_quiet_want; first | (refine q_loadC ?_; simp only [Act.put, List.setIfInBounds_toArray, List.set_cons_zero, List.set_cons_succ]; go_big_quiet_on) | (refine q_load ?_; simp only [Act.put, List.setIfInBounds_toArray, List.set_cons_zero, List.set_cons_succ]; go_big_quiet_on) | (go_big_quiet_op; first | go_big_quiet_on | (apply Exists.intro; refine ⟨fun g => ?_, ?_⟩; (· (have hl := growL g; first | (go_at_call 21; with_reducible exact grow_ret (l01On_b _ hv hp hib hia)))); go_big_quiet_on))))); exact rfl)); have hs := hl.out.size; (try simp at hs); simp only [List.drop_succ_cons, List.drop_zero]))
            go_roundw
            case rel => exact ⟨m + 1, by omega, by go_num, findLow, by rw [← bitL_yes (f := fun j => onB (n : Int) (all.getD j (0, 0, 0)) a) (by rw [hbm, hv])]; exact ho⟩
            case measure => (simp [intOf]; try omega)
        · obtain rfl : N = m := by omega
          have hOi := OwnK.link (LowK.lnk hVi) hO
          have hVw := LowK.link (LowK.lnk hVi) hV
          obtain ⟨gr, cr, rfl, hgr, hF⟩ := rowF_own hr (bitL_length _ _) (by omega)
          go_wp2_with (first | (refine wl_loadC ?_) | (refine wl_load ?_) | (refine wl_storeC ?_) | (refine wl_store ?_) | (refine wl_build ?_) | (refine wl_slice ?_) | (refine wl_make ?_; intro gr W' hgr hl hR; have hs := hl.out.size; (try simp at hs)) | (refine wl_append (he := eltSl) ?_; intro v' w' ho hg hb; have hs := hg.size; (try simp at hs)) | (refine wl_append ?_; intro v' w' ho hg hb; have hs := hg.size; (try simp at hs); (try rw [ptCs_end] at ho); (try rw [ints_end] at ho); (try simp only [Nat.zero_add, Nat.reduceAdd, List.nil_append, List.cons_append] at ho)) | ((with_reducible apply region_gd (id := 11)); refine region_QA (id := 11) 10 ?_; apply Exists.intro; refine ⟨fun G => ?_, fun W hl => ?_⟩; (· (simp only [List.take_succ_cons, List.take_zero]; (repeat (first | go_big_quiet_skip | (go_big_quiet_want; first | (refine q_loadC ?_; simp only [Act.put, List.setIfInBounds_toArray, List.set_cons_zero, List.set_cons_succ]; go_big_quiet_on) | (refine q_load ?_; simp only [Act.put, List.setIfInBounds_toArray, List.set_cons_zero, List.set_cons_succ]; go_big_quiet_on) | (go_big_quiet_op; first | go_big_quiet_on)))); exact rfl)); have hs := hl.out.size; (try simp at hs); simp only [List.drop_succ_cons, List.drop_zero]) | ((with_reducible apply region_gd (id := 36)); refine region_QA (id := 36) 16 ?_; apply Exists.intro; refine ⟨fun G => ?_, fun W hl => ?_⟩; (· (simp only [List.take_succ_cons, List.take_zero]; (repeat (first | go_big_quiet_skip | (go_big_quiet_want; first | (refine q_loadC ?_; simp only [Act.put, List.setIfInBounds_toArray, List.set_cons_zero, List.set_cons_succ]; go_big_quiet_on) | (refine q_load ?_; simp only [Act.put, List.setIfInBounds_toArray, List.set_cons_zero, List.set_cons_succ]; go_big_quiet_on) | (go_big_quiet_op; first | go_big_quiet_on)))); exact rfl)); have hs := hl.out.size; (try simp at hs); simp only [List.drop_succ_cons, List.drop_zero]))
          go_roundw
          case rel =>
            have hR0 := RowsK.link (LowK.lnk hVi) hRows
            have hR1 := RowsK.grewO hg hOi hR0
            have hF2 := RowF.grewO hg hOi hF
            have hne : ∀ i, i < k → (gs i).1 ≠ gr := fun i hi => by
              have := (hRows.row i hi).lt
              omega
            have hl : LowK w w' := findLow
            have hp2 : PtsK w' gp 0 N all := findPts
            exact ⟨k + 1, fun i => if i = k then (gr, cr) else gs i, by omega, by go_num, (rowVs_snoc N gs k (gr, cr)) ▸ ho, hR1.snoc hF2 (by omega) hne (fun l hl => by rw [bitL_at _ _ _ hl]; unfold inc; rw [ha]), hl, hp2, by omega⟩
          case measure => (simp [intOf]; try omega)
    · obtain rfl : N = k := by omega
      obtain ⟨g0, cap0, rfl, hgB, hH⟩ := OwnK.hd hO (by omega)
      clear hO
      obtain ⟨M0, hM0⟩ : ∃ M0, inc (n : Int) all = M0 := ⟨_, rfl⟩
      have HBD : Hid (∀ c, Bd q (elim q N M0 c).2) := Lib.hid (fun c => elim_bd (by omega) (by rw [← hM0]; intro i j; unfold inc; split <;> omega) c)
      rw [hM0] at hRows HR
      clear hM0
      go_wp2_with (first | (refine wl_loadC ?_) | (refine wl_load ?_) | (refine wl_storeC ?_) | (refine wl_store ?_) | (refine wl_build ?_) | (refine wl_slice ?_) | (refine wl_make ?_; intro gr W' hgr hl hR; have hs := hl.out.size; (try simp at hs)) | (refine wl_append (he := eltSl) ?_; intro v' w' ho hg hb; have hs := hg.size; (try simp at hs)) | (refine wl_append ?_; intro v' w' ho hg hb; have hs := hg.size; (try simp at hs); (try rw [ptCs_end] at ho); (try rw [ints_end] at ho); (try simp only [Nat.zero_add, Nat.reduceAdd, List.nil_append, List.cons_append] at ho)) | ((with_reducible apply region_gd (id := 11)); refine region_QA (id := 11) 10 ?_; apply Exists.intro; refine ⟨fun G => ?_, fun W hl => ?_⟩; (· (simp only [List.take_succ_cons, List.take_zero]; (repeat (first | go_big_quiet_skip | (go_big_quiet_want; first | (refine q_loadC ?_; simp only [Act.put, List.setIfInBounds_toArray, List.set_cons_zero, List.set_cons_succ]; go_big_quiet_on) | (refine q_load ?_; simp only [Act.put, List.setIfInBounds_toArray, List.set_cons_zero, List.set_cons_succ]; go_big_quiet_on) | (go_big_quiet_op; first | go_big_quiet_on)))); exact rfl)); have hs := hl.out.size; (try simp at hs); simp only [List.drop_succ_cons, List.drop_zero]) | ((with_reducible apply region_gd (id := 36)); refine region_QA (id := 36) 16 ?_; apply Exists.intro; refine ⟨fun G => ?_, fun W hl => ?_⟩; (· (simp only [List.take_succ_cons, List.take_zero]; (repeat (first | go_big_quiet_skip | (go_big_quiet_want; first | (refine q_loadC ?_; simp only [Act.put, List.setIfInBounds_toArray, List.set_cons_zero, List.set_cons_succ]; go_big_quiet_on) | (refine q_load ?_; simp only [Act.put, List.setIfInBounds_toArray, List.set_cons_zero, List.set_cons_succ]; go_big_quiet_on) | (go_big_quiet_op; first | go_big_quiet_on)))); exact rfl)); have hs := hl.out.size; (try simp at hs); simp only [List.drop_succ_cons, List.drop_zero]))
      go_loopw [11, 12] (fun rk cc wr => ∃ (c : Nat) (gs : Nat → Nat × Nat), c ≤ N ∧ cc = .int .i64 (c : Int) ∧ rk = .int .i64 ((elim q N M0 c).1 : Int) ∧ HdK wr g0 cap0 N gs ∧ RowsK wr B N N gs (elim q N M0 c).2 ∧ LowK w wr) (fun _ cc wr => N - (intOf cc).toNat)
      case atStart => exact ⟨0, gs, Nat.zero_le _, rfl, rfl, hH, hRows, hV⟩
      case round =>
        clear hH hRows hV hPt
        obtain ⟨c, gs, hc, rfl, rfl, hH, hRows, hV⟩ := hrel
        have hBd := HBD.out c
        have hrk := elim_le q N M0 c
        obtain ⟨s, hs⟩ : ∃ s, elim q N M0 c = s := ⟨_, rfl⟩
        obtain ⟨rk, M⟩ := s
        rw [hs] at hRows hBd hrk ⊢
        have HS := Lib.hid hs
        clear hs
        dsimp only at hRows hBd hrk ⊢
        by_cases hlc : c < N
        · go_wp2_with (first | (refine wl_loadC ?_) | (refine wl_load ?_) | (refine wl_storeC ?_) | (refine wl_store ?_) | (refine wl_build ?_) | (refine wl_slice ?_) | (refine wl_make ?_; intro gr W' hgr hl hR; have hs := hl.out.size; (try simp at hs)) | (refine wl_append (he := eltSl) ?_; intro v' w' ho hg hb; have hs := hg.size; (try simp at hs)) | (refine wl_append ?_; intro v' w' ho hg hb; have hs := hg.size; (try simp at hs); (try rw [ptCs_end] at ho); (try rw [ints_end] at ho); (try simp only [Nat.zero_add, Nat.reduceAdd, List.nil_append, List.cons_append] at ho)) | ((with_reducible apply region_gd (id := 11)); refine region_QA (id := 11) 10 ?_; apply Exists.intro; refine ⟨fun G => ?_, fun W hl => ?_⟩; (· (simp only [List.take_succ_cons, List.take_zero]; (repeat (first | go_big_quiet_skip | (go_big_quiet_want; first | (refine q_loadC ?_; simp only [Act.put, List.setIfInBounds_toArray, List.set_cons_zero, List.set_cons_succ]; go_big_quiet_on) | (refine q_load ?_; simp only [Act.put, List.setIfInBounds_toArray, List.set_cons_zero, List.set_cons_succ]; go_big_quiet_on) | (go_big_quiet_op; first | go_big_quiet_on)))); exact rfl)); have hs := hl.out.size; (try simp at hs); simp only [List.drop_succ_cons, List.drop_zero]) | ((with_reducible apply region_gd (id := 36)); refine region_QA (id := 36) 16 ?_; apply Exists.intro; refine ⟨fun G => ?_, fun W hl => ?_⟩; (· (simp only [List.take_succ_cons, List.take_zero]; (repeat (first | go_big_quiet_skip | (go_big_quiet_want; first | (refine q_loadC ?_; simp only [Act.put, List.setIfInBounds_toArray, List.set_cons_zero, List.set_cons_succ]; go_big_quiet_on) | (refine q_load ?_; simp only [Act.put, List.setIfInBounds_toArray, List.set_cons_zero, List.set_cons_succ]; go_big_quiet_on) | (go_big_quiet_op; first | go_big_quiet_on)))); exact rfl)); have hs := hl.out.size; (try simp at hs); simp only [List.drop_succ_cons, List.drop_zero]))
          obtain ⟨P, hP⟩ : ∃ P, piv M c N rk = P := ⟨_, rfl⟩
          go_loopw [13] (fun fv wi => ∃ f : Nat, rk ≤ f ∧ f ≤ N ∧ fv = .int .i64 (f : Int) ∧ piv M c N f = P ∧ wi = wr) (fun fv _ => N - (intOf fv).toNat)
          case atStart => exact ⟨rk, Nat.le_refl _, by omega, rfl, hP, rfl⟩
          case round =>
            obtain ⟨f, hf, hfN, rfl, hfP, rfl⟩ := hrel
            by_cases hlf : f < N
            · have x1 := hH.at_ f hlf
              have x2 := (hRows.row f hlf).at_ c hlc
              have x3 := hH.lt
              have x4 := (hRows.row f hlf).lt
              obtain ⟨gf, hgf⟩ : ∃ gf, gs f = gf := ⟨_, rfl⟩
              rw [hgf] at x1 x2 x4
              obtain ⟨x, hx⟩ : ∃ x, M f c = x := ⟨_, rfl⟩
              rw [hx] at x2
              by_cases hz : x = 0
              · go_wp2_with (first | (refine wl_loadC ?_) | (refine wl_load ?_) | (refine wl_storeC ?_) | (refine wl_store ?_) | (refine wl_build ?_) | (refine wl_slice ?_) | (refine wl_make ?_; intro gr W' hgr hl hR; have hs := hl.out.size; (try simp at hs)) | (refine wl_append (he := eltSl) ?_; intro v' w' ho hg hb; have hs := hg.size; (try simp at hs)) | (refine wl_append ?_; intro v' w' ho hg hb; have hs := hg.size; (try simp at hs); (try rw [ptCs_end] at ho); (try rw [ints_end] at ho); (try simp only [Nat.zero_add, Nat.reduceAdd, List.nil_append, List.cons_append] at ho)) | ((with_reducible apply region_gd (id := 11)); refine region_QA (id := 11) 10 ?_; apply Exists.intro; refine ⟨fun G => ?_, fun W hl => ?_⟩; (· (simp only [List.take_succ_cons, List.take_zero]; (repeat (first | go_big_quiet_skip | (go_big_quiet_want; first | (refine q_loadC ?_; simp only [Act.put, List.setIfInBounds_toArray, List.set_cons_zero, List.set_cons_succ]; go_big_quiet_on) | (refine q_load ?_; simp only [Act.put, List.setIfInBounds_toArray, List.set_cons_zero, List.set_cons_succ]; go_big_quiet_on) | (go_big_quiet_op; first | go_big_quiet_on)))); exact rfl)); have hs := hl.out.size; (try simp at hs); simp only [List.drop_succ_cons, List.drop_zero]) | ((with_reducible apply region_gd (id := 36)); refine region_QA (id := 36) 16 ?_; apply Exists.intro; refine ⟨fun G => ?_, fun W hl => ?_⟩; (· (simp only [List.take_succ_cons, List.take_zero]; (repeat (first | go_big_quiet_skip | (go_big_quiet_want; first | (refine q_loadC ?_; simp only [Act.put, List.setIfInBounds_toArray, List.set_cons_zero, List.set_cons_succ]; go_big_quiet_on) | (refine q_load ?_; simp only [Act.put, List.setIfInBounds_toArray, List.set_cons_zero, List.set_cons_succ]; go_big_quiet_on) | (go_big_quiet_op; first | go_big_quiet_on)))); exact rfl)); have hs := hl.out.size; (try simp at hs); simp only [List.drop_succ_cons, List.drop_zero]))
                go_roundw
                case rel => exact ⟨f + 1, by omega, by omega, by go_num, by rw [← piv_step hlf (hx.trans hz)]; exact hfP, (by trivial)⟩
                case measure => (simp [intOf]; try omega)
              · have k1 : CellK wr g0 f (rowV N gf) := ⟨x1⟩
                obtain ⟨gk, hgk⟩ : ∃ gk, gs rk = gk := ⟨_, rfl⟩
                have hlr : rk < N := by omega
                have k2 : CellK wr g0 rk (rowV N gk) := by rw [← hgk]; exact hH.cell hlr
                go_wp2_with (first | (refine wl_loadC ?_) | (with_reducible refine hold (p := wpList _ _ _ ({ dst := none, op := .store _ _ _, type := _, pos := _, after := _, guard := _ } :: _) _ _) ?_))
                unfold Hold
                clear x1 x2 x3 x4
                have hfP2 : piv M c N rk = f := by rw [hP, ← hfP]; exact piv_stop (fun _ => by rw [hx]; exact hz)
                have e1 : elim q N M0 (c + 1) = (rk + 1, elm q c rk (swp M rk f)) := by
                  show stp q N c (elim q N M0 c) = _
                  rw [HS.out, stp_some (by rw [hfP2]; omega), hfP2]
                have E1 := Lib.hid e1
                have hx0 : 0 < x ∧ x < q := by have := hBd f c; rw [hx] at this; omega
                have hB3 : w.heap.size ≤ g0 := by omega
                have st1 := hH.st hlf
                have st2 := (hH.set hlf gk).st hlr
                refine wl_storeC (v := rowV N gk) ?_
                go_wp2_with (with_reducible refine hold (p := wpList _ _ _ ({ dst := none, op := .store _ _ _, type := _, pos := _, after := _, guard := _ } :: _) _ _) ?_)
                unfold Hold
                refine wl_storeC (v := rowV N gf) ?_
                have hH2 : HdK ((wr.setCell ⟨g0, f, none⟩ (rowV N gk)).setCell ⟨g0, rk, none⟩ (rowV N gf)) g0 cap0 N (swp gs rk f) := ((hH.set hlf gk).set hlr gf).congr (fun i _ => by unfold swp; rw [hgf, hgk])
                have hne : ∀ i, i < N → (gs i).1 ≠ g0 := fun i hi => hH.ne hRows hi
                have hR2 : RowsK ((wr.setCell ⟨g0, f, none⟩ (rowV N gk)).setCell ⟨g0, rk, none⟩ (rowV N gf)) B N N (swp gs rk f) (swp M rk f) := ((hRows.other hne _ _).other hne _ _).swap hlr hlf
                have hV2 : LowK w ((wr.setCell ⟨g0, f, none⟩ (rowV N gk)).setCell ⟨g0, rk, none⟩ (rowV N gf)) := LowK.setCell hB3 _ _ (LowK.setCell hB3 _ _ hV)
                have eg : swp gs rk f rk = gf := by unfold swp; rw [if_pos rfl, hgf]
                have k4 := (hR2.row rk hlr).cell hlc
                rw [eg] at k4
                have ex : swp M rk f rk c = x := by unfold swp; rw [if_pos rfl, hx]
                rw [ex] at k4
                obtain ⟨v, hv⟩ : ∃ v, invP q x = v := ⟨_, rfl⟩
                have hvb : 1 ≤ v ∧ v < q := by
                  have := invP_spec hq hx0.1 hx0.2
                  rw [hv] at this
                  exact ⟨this.1, this.2.1⟩
                have hxm : x % q = x := Int.emod_eq_of_lt (by omega) (by omega)
                have hv2 : invP q (x % q) = v := by rw [hxm]; exact hv
                have hBd2 : Bd q (swp M rk f) := swp_bd hBd
                obtain ⟨Bm, hBm⟩ : ∃ Bm, swp M rk f = Bm := ⟨_, rfl⟩
                obtain ⟨gs2, hg2⟩ : ∃ gs2, swp gs rk f = gs2 := ⟨_, rfl⟩
                rw [hBm] at E1 hR2 hBd2 ex
                rw [hg2] at hH2 hR2 eg
                have HX := Lib.hid hxm
                clear k1 k2 st1 st2 hH hRows hV hBm hg2 hne hfP2 hP hfP e1 hxm
                generalize (wr.setCell ⟨g0, f, none⟩ (rowV N gk)).setCell ⟨g0, rk, none⟩ (rowV N gf) = W3 at *
                go_wp2_with (first | (refine wl_loadC ?_) | (refine wl_load ?_) | (refine wl_storeC ?_) | (refine wl_store ?_) | (refine wl_build ?_) | (refine wl_slice ?_) | (refine wl_make ?_; intro gr W' hgr hl hR; have hs := hl.out.size; (try simp at hs)) | (refine wl_append (he := eltSl) ?_; intro v' w' ho hg hb; have hs := hg.size; (try simp at hs)) | (refine wl_append ?_; intro v' w' ho hg hb; have hs := hg.size; (try simp at hs); (try rw [ptCs_end] at ho); (try rw [ints_end] at ho); (try simp only [Nat.zero_add, Nat.reduceAdd, List.nil_append, List.cons_append] at ho)) | (go_at_call 22; (with_reducible refine (l01Inverse_any q x _ hq (by omega) (by omega) (by rw [HX.out]; exact hx0.1)).mono ?_); rintro e w' ⟨rfl, rfl⟩; rw [hv2]) | ((with_reducible apply region_gd (id := 11)); refine region_QA (id := 11) 10 ?_; apply Exists.intro; refine ⟨fun G => ?_, fun W hl => ?_⟩; (· (simp only [List.take_succ_cons, List.take_zero]; (repeat (first | go_big_quiet_skip | (go_big_quiet_want; first | (refine q_loadC ?_; simp only [Act.put, List.setIfInBounds_toArray, List.set_cons_zero, List.set_cons_succ]; go_big_quiet_on) | (refine q_load ?_; simp only [Act.put, List.setIfInBounds_toArray, List.set_cons_zero, List.set_cons_succ]; go_big_quiet_on) | (go_big_quiet_op; first | go_big_quiet_on)))); exact rfl)); have hs := hl.out.size; (try simp at hs); simp only [List.drop_succ_cons, List.drop_zero]) | ((with_reducible apply region_gd (id := 36)); refine region_QA (id := 36) 16 ?_; apply Exists.intro; refine ⟨fun G => ?_, fun W hl => ?_⟩; (· (simp only [List.take_succ_cons, List.take_zero]; (repeat (first | go_big_quiet_skip | (go_big_quiet_want; first | (refine q_loadC ?_; simp only [Act.put, List.setIfInBounds_toArray, List.set_cons_zero, List.set_cons_succ]; go_big_quiet_on) | (refine q_load ?_; simp only [Act.put, List.setIfInBounds_toArray, List.set_cons_zero, List.set_cons_succ]; go_big_quiet_on) | (go_big_quiet_op; first | go_big_quiet_on)))); exact rfl)); have hs := hl.out.size; (try simp at hs); simp only [List.drop_succ_cons, List.drop_zero]))
                clear k4
                go_loopw [16] (fun iv wi => ∃ i : Nat, rk + 1 ≤ i ∧ i ≤ N ∧ iv = .int .i64 (i : Int) ∧ HdK wi g0 cap0 N gs2 ∧ RowsK wi B N N gs2 (mix i 0 (elm q c rk Bm) Bm) ∧ LowK w wi) (fun iv _ => N - (intOf iv).toNat)
                case atStart => exact ⟨rk + 1, Nat.le_refl _, by omega, by go_num, hH2, by rw [mix_first]; exact hR2, hV2⟩
                case round =>
                  clear hH2 hR2 hV2
                  obtain ⟨i, hi, hiN, rfl, hH3, hR3, hV3⟩ := hrel
                  by_cases hli : i < N
                  · have k5 := hH3.cell hli
                    have k6 := (hR3.row i hli).cell hlc
                    obtain ⟨gi, hgi⟩ : ∃ gi, gs2 i = gi := ⟨_, rfl⟩
                    rw [hgi] at k5 k6
                    rw [mix_at (Nat.zero_le _)] at k6
                    obtain ⟨y, hy⟩ : ∃ y, Bm i c = y := ⟨_, rfl⟩
                    rw [hy] at k6
                    have hyb : 0 ≤ y ∧ y < q := by have := hBd2 i c; rw [hy] at this; exact this
                    by_cases hy0 : y = 0
                    · go_wp2_with (first | (refine wl_loadC ?_) | (refine wl_load ?_) | (refine wl_storeC ?_) | (refine wl_store ?_) | (refine wl_build ?_) | (refine wl_slice ?_) | (refine wl_make ?_; intro gr W' hgr hl hR; have hs := hl.out.size; (try simp at hs)) | (refine wl_append (he := eltSl) ?_; intro v' w' ho hg hb; have hs := hg.size; (try simp at hs)) | (refine wl_append ?_; intro v' w' ho hg hb; have hs := hg.size; (try simp at hs); (try rw [ptCs_end] at ho); (try rw [ints_end] at ho); (try simp only [Nat.zero_add, Nat.reduceAdd, List.nil_append, List.cons_append] at ho)) | ((with_reducible apply region_gd (id := 11)); refine region_QA (id := 11) 10 ?_; apply Exists.intro; refine ⟨fun G => ?_, fun W hl => ?_⟩; (· (simp only [List.take_succ_cons, List.take_zero]; (repeat (first | go_big_quiet_skip | (go_big_quiet_want; first | (refine q_loadC ?_; simp only [Act.put, List.setIfInBounds_toArray, List.set_cons_zero, List.set_cons_succ]; go_big_quiet_on) | (refine q_load ?_; simp only [Act.put, List.setIfInBounds_toArray, List.set_cons_zero, List.set_cons_succ]; go_big_quiet_on) | (go_big_quiet_op; first | go_big_quiet_on)))); exact rfl)); have hs := hl.out.size; (try simp at hs); simp only [List.drop_succ_cons, List.drop_zero]) | ((with_reducible apply region_gd (id := 36)); refine region_QA (id := 36) 16 ?_; apply Exists.intro; refine ⟨fun G => ?_, fun W hl => ?_⟩; (· (simp only [List.take_succ_cons, List.take_zero]; (repeat (first | go_big_quiet_skip | (go_big_quiet_want; first | (refine q_loadC ?_; simp only [Act.put, List.setIfInBounds_toArray, List.set_cons_zero, List.set_cons_succ]; go_big_quiet_on) | (refine q_load ?_; simp only [Act.put, List.setIfInBounds_toArray, List.set_cons_zero, List.set_cons_succ]; go_big_quiet_on) | (go_big_quiet_op; first | go_big_quiet_on)))); exact rfl)); have hs := hl.out.size; (try simp at hs); simp only [List.drop_succ_cons, List.drop_zero]))
                      go_roundw
                      case rel => exact ⟨i + 1, by omega, by omega, by go_num, hH3, by rw [← mix_skip (hy.trans hy0)]; exact hR3, hV3⟩
                      case measure => (simp [intOf]; try omega)
                    · have m1 := mul_bd hyb.1 (show y ≤ 13 by omega) (show 0 ≤ v by omega) (show v ≤ 13 by omega)
                      have m2 := Int.tmod_nonneg q m1.1
                      have m3 := Int.tmod_lt_of_pos (y * v) (show 0 < q by omega)
                      have m4 : (y * v).tmod q = (y * v) % q := Int.tmod_eq_emod_of_nonneg m1.1
                      go_wp2_with (first | (refine wl_loadC ?_) | (refine wl_load ?_) | (refine wl_storeC ?_) | (refine wl_store ?_) | (refine wl_build ?_) | (refine wl_slice ?_) | (refine wl_make ?_; intro gr W' hgr hl hR; have hs := hl.out.size; (try simp at hs)) | (refine wl_append (he := eltSl) ?_; intro v' w' ho hg hb; have hs := hg.size; (try simp at hs)) | (refine wl_append ?_; intro v' w' ho hg hb; have hs := hg.size; (try simp at hs); (try rw [ptCs_end] at ho); (try rw [ints_end] at ho); (try simp only [Nat.zero_add, Nat.reduceAdd, List.nil_append, List.cons_append] at ho)) | ((with_reducible apply region_gd (id := 11)); refine region_QA (id := 11) 10 ?_; apply Exists.intro; refine ⟨fun G => ?_, fun W hl => ?_⟩; (· (simp only [List.take_succ_cons, List.take_zero]; (repeat (first | go_big_quiet_skip | (go_big_quiet_want; first | (refine q_loadC ?_; simp only [Act.put, List.setIfInBounds_toArray, List.set_cons_zero, List.set_cons_succ]; go_big_quiet_on) | (refine q_load ?_; simp only [Act.put, List.setIfInBounds_toArray, List.set_cons_zero, List.set_cons_succ]; go_big_quiet_on) | (go_big_quiet_op; first | go_big_quiet_on)))); exact rfl)); have hs := hl.out.size; (try simp at hs); simp only [List.drop_succ_cons, List.drop_zero]) | ((with_reducible apply region_gd (id := 36)); refine region_QA (id := 36) 16 ?_; apply Exists.intro; refine ⟨fun G => ?_, fun W hl => ?_⟩; (· (simp only [List.take_succ_cons, List.take_zero]; (repeat (first | go_big_quiet_skip | (go_big_quiet_want; first | (refine q_loadC ?_; simp only [Act.put, List.setIfInBounds_toArray, List.set_cons_zero, List.set_cons_succ]; go_big_quiet_on) | (refine q_load ?_; simp only [Act.put, List.setIfInBounds_toArray, List.set_cons_zero, List.set_cons_succ]; go_big_quiet_on) | (go_big_quiet_op; first | go_big_quiet_on)))); exact rfl)); have hs := hl.out.size; (try simp at hs); simp only [List.drop_succ_cons, List.drop_zero]))
                      obtain ⟨fct, hfc⟩ : ∃ fct, y * v % q = fct := ⟨_, rfl⟩
                      rw [m4] at m2 m3
                      rw [hfc]
                      have hfb : 0 ≤ fct ∧ fct ≤ 13 := by omega
                      rw [mix_cut] at hR3
                      go_loopw [19] (fun kv wi => ∃ k : Nat, c ≤ k ∧ k ≤ N ∧ kv = .int .i64 (k : Int) ∧ HdK wi g0 cap0 N gs2 ∧ RowsK wi B N N gs2 (mix i k (elm q c rk Bm) Bm) ∧ LowK w wi) (fun kv _ => N - (intOf kv).toNat)
                      case atStart => exact ⟨c, Nat.le_refl _, by omega, rfl, hH3, hR3, hV3⟩
                      case round =>
                        clear hH3 hR3 hV3 k5 k6
                        obtain ⟨k, hkc, hkN, rfl, hH4, hR4, hV4⟩ := hrel
                        by_cases hlk : k < N
                        · have k7 := (hR4.row i hli).cell hlk
                          have k8 := (hR4.row rk hlr).cell hlk
                          have st3 := (hR4.row i hli).st hlk
                          rw [hgi, mix_at (Nat.le_refl _)] at k7
                          rw [eg, mix_top (by omega)] at k8
                          rw [hgi] at st3
                          have hab := hBd2 i k
                          have hbb := hBd2 rk k
                          have hval := elm_new (q := q) (c := c) (r := rk) (i := i) (k := k) (B := Bm) (by omega) (by rw [hy]; exact hy0) hkc
                          rw [hy, ex, hv, hfc] at hval
                          obtain ⟨x1, hx1⟩ : ∃ x1, Bm i k = x1 := ⟨_, rfl⟩
                          obtain ⟨x2, hx2⟩ : ∃ x2, Bm rk k = x2 := ⟨_, rfl⟩
                          rw [hx1] at k7 hab hval
                          rw [hx2] at k8 hbb hval
                          have n1 := mul_bd hfb.1 hfb.2 hbb.1 (show x2 ≤ 13 by omega)
                          have HVal := Lib.hid hval.symm
                          clear hval hx1 hx2
                          have hR5 := fun (W : World) (l : Link wr W) => RowsK.set (RowsK.link l hR4) hli hlk (elm q c rk Bm i k)
                          go_wp2_with (first | (refine wl_loadC ?_) | (refine wl_load ?_) | (refine wl_storeC ?_) | (refine wl_store ?_) | (refine wl_build ?_) | (refine wl_slice ?_) | (refine wl_make ?_; intro gr W' hgr hl hR; have hs := hl.out.size; (try simp at hs)) | (refine wl_append (he := eltSl) ?_; intro v' w' ho hg hb; have hs := hg.size; (try simp at hs)) | (refine wl_append ?_; intro v' w' ho hg hb; have hs := hg.size; (try simp at hs); (try rw [ptCs_end] at ho); (try rw [ints_end] at ho); (try simp only [Nat.zero_add, Nat.reduceAdd, List.nil_append, List.cons_append] at ho)) | (go_at_call 23; (with_reducible refine (l01Mod_R _ HVal.out (by omega) (by omega) (by omega) (by omega)).mono ?_); rintro e w' ⟨rfl, hb⟩; have hl := Link.mk hb; have hs := hb.size; (try simp at hs); clear hb) | ((with_reducible apply region_gd (id := 11)); refine region_QA (id := 11) 10 ?_; apply Exists.intro; refine ⟨fun G => ?_, fun W hl => ?_⟩; (· (simp only [List.take_succ_cons, List.take_zero]; (repeat (first | go_big_quiet_skip | (go_big_quiet_want; first | (refine q_loadC ?_; simp only [Act.put, List.setIfInBounds_toArray, List.set_cons_zero, List.set_cons_succ]; go_big_quiet_on) | (refine q_load ?_; simp only [Act.put, List.setIfInBounds_toArray, List.set_cons_zero, List.set_cons_succ]; go_big_quiet_on) | (go_big_quiet_op; first | go_big_quiet_on | (apply Exists.intro; refine ⟨fun g => ?_, ?_⟩; (· (have hl := growL g; first | (go_at_call 23; with_reducible exact grow_ret (l01Mod_R _ HVal.out (by omega) (by omega) (by omega) (by omega))))); go_big_quiet_on))))); exact rfl)); have hs := hl.out.size; (try simp at hs); simp only [List.drop_succ_cons, List.drop_zero]) | ((with_reducible apply region_gd (id := 36)); refine region_QA (id := 36) 16 ?_; apply Exists.intro; refine ⟨fun G => ?_, fun W hl => ?_⟩; (· (simp only [List.take_succ_cons, List.take_zero]; (repeat (first | go_big_quiet_skip | (go_big_quiet_want; first | (refine q_loadC ?_; simp only [Act.put, List.setIfInBounds_toArray, List.set_cons_zero, List.set_cons_succ]; go_big_quiet_on) | (refine q_load ?_; simp only [Act.put, List.setIfInBounds_toArray, List.set_cons_zero, List.set_cons_succ]; go_big_quiet_on) | (go_big_quiet_op; first | go_big_quiet_on | (apply Exists.intro; refine ⟨fun g => ?_, ?_⟩; (· (have hl := growL g; first | (go_at_call 23; with_reducible exact grow_ret (l01Mod_R _ HVal.out (by omega) (by omega) (by omega) (by omega))))); go_big_quiet_on))))); exact rfl)); have hs := hl.out.size; (try simp at hs); simp only [List.drop_succ_cons, List.drop_zero]))
                          have hR6 := hR5 W hl
                          rw [hgi] at hR6
                          have hH6 := (HdK.link hl hH4).other (hH4.ne hR4 hli).symm k (.int .i64 (elm q c rk Bm i k))
                          rw [hgi] at hH6
                          have hlow : w.heap.size ≤ gi.1 := by have := hR4.low i hli; rw [hgi] at this; omega
                          go_roundw
                          case rel => exact ⟨k + 1, by omega, by omega, by go_num, hH6, by rw [← mix_set]; exact hR6, LowK.setCell hlow _ _ findLow⟩
                          case measure => (simp [intOf]; try omega)
                        · have hkN2 : N ≤ k := by omega
                          go_wp2_with (first | (refine wl_loadC ?_) | (refine wl_load ?_) | (refine wl_storeC ?_) | (refine wl_store ?_) | (refine wl_build ?_) | (refine wl_slice ?_) | (refine wl_make ?_; intro gr W' hgr hl hR; have hs := hl.out.size; (try simp at hs)) | (refine wl_append (he := eltSl) ?_; intro v' w' ho hg hb; have hs := hg.size; (try simp at hs)) | (refine wl_append ?_; intro v' w' ho hg hb; have hs := hg.size; (try simp at hs); (try rw [ptCs_end] at ho); (try rw [ints_end] at ho); (try simp only [Nat.zero_add, Nat.reduceAdd, List.nil_append, List.cons_append] at ho)) | ((with_reducible apply region_gd (id := 11)); refine region_QA (id := 11) 10 ?_; apply Exists.intro; refine ⟨fun G => ?_, fun W hl => ?_⟩; (· (simp only [List.take_succ_cons, List.take_zero]; (repeat (first | go_big_quiet_skip | (go_big_quiet_want; first | (refine q_loadC ?_; simp only [Act.put, List.setIfInBounds_toArray, List.set_cons_zero, List.set_cons_succ]; go_big_quiet_on) | (refine q_load ?_; simp only [Act.put, List.setIfInBounds_toArray, List.set_cons_zero, List.set_cons_succ]; go_big_quiet_on) | (go_big_quiet_op; first | go_big_quiet_on)))); exact rfl)); have hs := hl.out.size; (try simp at hs); simp only [List.drop_succ_cons, List.drop_zero]) | ((with_reducible apply region_gd (id := 36)); refine region_QA (id := 36) 16 ?_; apply Exists.intro; refine ⟨fun G => ?_, fun W hl => ?_⟩; (· (simp only [List.take_succ_cons, List.take_zero]; (repeat (first | go_big_quiet_skip | (go_big_quiet_want; first | (refine q_loadC ?_; simp only [Act.put, List.setIfInBounds_toArray, List.set_cons_zero, List.set_cons_succ]; go_big_quiet_on) | (refine q_load ?_; simp only [Act.put, List.setIfInBounds_toArray, List.set_cons_zero, List.set_cons_succ]; go_big_quiet_on) | (go_big_quiet_op; first | go_big_quiet_on)))); exact rfl)); have hs := hl.out.size; (try simp at hs); simp only [List.drop_succ_cons, List.drop_zero]))
                          go_roundw
                          case rel => exact ⟨i + 1, by omega, by omega, by go_num, hH4, hR4.congr (fun i' l hi' hl => by rw [show k = N by omega]; exact mix_row hl), hV4⟩
                          case measure => (simp [intOf]; try omega)
                  · have hj2 : N ≤ i := by omega
                    go_wp2_with (first | (refine wl_loadC ?_) | (refine wl_load ?_) | (refine wl_storeC ?_) | (refine wl_store ?_) | (refine wl_build ?_) | (refine wl_slice ?_) | (refine wl_make ?_; intro gr W' hgr hl hR; have hs := hl.out.size; (try simp at hs)) | (refine wl_append (he := eltSl) ?_; intro v' w' ho hg hb; have hs := hg.size; (try simp at hs)) | (refine wl_append ?_; intro v' w' ho hg hb; have hs := hg.size; (try simp at hs); (try rw [ptCs_end] at ho); (try rw [ints_end] at ho); (try simp only [Nat.zero_add, Nat.reduceAdd, List.nil_append, List.cons_append] at ho)) | ((with_reducible apply region_gd (id := 11)); refine region_QA (id := 11) 10 ?_; apply Exists.intro; refine ⟨fun G => ?_, fun W hl => ?_⟩; (· (simp only [List.take_succ_cons, List.take_zero]; (repeat (first | go_big_quiet_skip | (go_big_quiet_want; first | (refine q_loadC ?_; simp only [Act.put, List.setIfInBounds_toArray, List.set_cons_zero, List.set_cons_succ]; go_big_quiet_on) | (refine q_load ?_; simp only [Act.put, List.setIfInBounds_toArray, List.set_cons_zero, List.set_cons_succ]; go_big_quiet_on) | (go_big_quiet_op; first | go_big_quiet_on)))); exact rfl)); have hs := hl.out.size; (try simp at hs); simp only [List.drop_succ_cons, List.drop_zero]) | ((with_reducible apply region_gd (id := 36)); refine region_QA (id := 36) 16 ?_; apply Exists.intro; refine ⟨fun G => ?_, fun W hl => ?_⟩; (· (simp only [List.take_succ_cons, List.take_zero]; (repeat (first | go_big_quiet_skip | (go_big_quiet_want; first | (refine q_loadC ?_; simp only [Act.put, List.setIfInBounds_toArray, List.set_cons_zero, List.set_cons_succ]; go_big_quiet_on) | (refine q_load ?_; simp only [Act.put, List.setIfInBounds_toArray, List.set_cons_zero, List.set_cons_succ]; go_big_quiet_on) | (go_big_quiet_op; first | go_big_quiet_on)))); exact rfl)); have hs := hl.out.size; (try simp at hs); simp only [List.drop_succ_cons, List.drop_zero]))
                    go_roundw
                    case rel => exact ⟨c + 1, gs2, by omega, by go_num, by rw [E1.out]; go_num, hH3, by rw [E1.out]; exact hR3.congr (fun i' l hi' hl => by rw [show i = N by omega]; exact mix_end hi'), hV3⟩
                    case measure => (simp [intOf]; try omega)
            · obtain rfl : N = f := by omega
              go_wp2_with (first | (refine wl_loadC ?_) | (refine wl_load ?_) | (refine wl_storeC ?_) | (refine wl_store ?_) | (refine wl_build ?_) | (refine wl_slice ?_) | (refine wl_make ?_; intro gr W' hgr hl hR; have hs := hl.out.size; (try simp at hs)) | (refine wl_append (he := eltSl) ?_; intro v' w' ho hg hb; have hs := hg.size; (try simp at hs)) | (refine wl_append ?_; intro v' w' ho hg hb; have hs := hg.size; (try simp at hs); (try rw [ptCs_end] at ho); (try rw [ints_end] at ho); (try simp only [Nat.zero_add, Nat.reduceAdd, List.nil_append, List.cons_append] at ho)) | ((with_reducible apply region_gd (id := 11)); refine region_QA (id := 11) 10 ?_; apply Exists.intro; refine ⟨fun G => ?_, fun W hl => ?_⟩; (· (simp only [List.take_succ_cons, List.take_zero]; (repeat (first | go_big_quiet_skip | (go_big_quiet_want; first | (refine q_loadC ?_; simp only [Act.put, List.setIfInBounds_toArray, List.set_cons_zero, List.set_cons_succ]; go_big_quiet_on) | (refine q_load ?_; simp only [Act.put, List.setIfInBounds_toArray, List.set_cons_zero, List.set_cons_succ]; go_big_quiet_on) | (go_big_quiet_op; first | go_big_quiet_on)))); exact rfl)); have hs := hl.out.size; (try simp at hs); simp only [List.drop_succ_cons, List.drop_zero]) | ((with_reducible apply region_gd (id := 36)); refine region_QA (id := 36) 16 ?_; apply Exists.intro; refine ⟨fun G => ?_, fun W hl => ?_⟩; (· (simp only [List.take_succ_cons, List.take_zero]; (repeat (first | go_big_quiet_skip | (go_big_quiet_want; first | (refine q_loadC ?_; simp only [Act.put, List.setIfInBounds_toArray, List.set_cons_zero, List.set_cons_succ]; go_big_quiet_on) | (refine q_load ?_; simp only [Act.put, List.setIfInBounds_toArray, List.set_cons_zero, List.set_cons_succ]; go_big_quiet_on) | (go_big_quiet_op; first | go_big_quiet_on)))); exact rfl)); have hs := hl.out.size; (try simp at hs); simp only [List.drop_succ_cons, List.drop_zero]))
              have hPN : piv M c N rk = N := by rw [hP, ← hfP]; exact piv_stop (fun h => absurd h (by omega))
              have e1 : elim q N M0 (c + 1) = (rk, M) := by
                show stp q N c (elim q N M0 c) = _
                rw [HS.out, stp_none hPN]
              go_roundw
              case rel => exact ⟨c + 1, gs, by omega, by go_num, by rw [e1], hH, by rw [e1]; exact hRows, hV⟩
              case measure => (simp [intOf]; try omega)
        · obtain rfl : N = c := by omega
          have er : rk = r := by have := HR.out; rw [HS.out] at this; exact this
          subst er
          go_wp2_with (first | (refine wl_loadC ?_) | (refine wl_load ?_) | (refine wl_storeC ?_) | (refine wl_store ?_) | (refine wl_build ?_) | (refine wl_slice ?_) | (refine wl_make ?_; intro gr W' hgr hl hR; have hs := hl.out.size; (try simp at hs)) | (refine wl_append (he := eltSl) ?_; intro v' w' ho hg hb; have hs := hg.size; (try simp at hs)) | (refine wl_append ?_; intro v' w' ho hg hb; have hs := hg.size; (try simp at hs); (try rw [ptCs_end] at ho); (try rw [ints_end] at ho); (try simp only [Nat.zero_add, Nat.reduceAdd, List.nil_append, List.cons_append] at ho)) | ((with_reducible apply region_gd (id := 11)); refine region_QA (id := 11) 10 ?_; apply Exists.intro; refine ⟨fun G => ?_, fun W hl => ?_⟩; (· (simp only [List.take_succ_cons, List.take_zero]; (repeat (first | go_big_quiet_skip | (go_big_quiet_want; first | (refine q_loadC ?_; simp only [Act.put, List.setIfInBounds_toArray, List.set_cons_zero, List.set_cons_succ]; go_big_quiet_on) | (refine q_load ?_; simp only [Act.put, List.setIfInBounds_toArray, List.set_cons_zero, List.set_cons_succ]; go_big_quiet_on) | (go_big_quiet_op; first | go_big_quiet_on)))); exact rfl)); have hs := hl.out.size; (try simp at hs); simp only [List.drop_succ_cons, List.drop_zero]) | ((with_reducible apply region_gd (id := 36)); refine region_QA (id := 36) 16 ?_; apply Exists.intro; refine ⟨fun G => ?_, fun W hl => ?_⟩; (· (simp only [List.take_succ_cons, List.take_zero]; (repeat (first | go_big_quiet_skip | (go_big_quiet_want; first | (refine q_loadC ?_; simp only [Act.put, List.setIfInBounds_toArray, List.set_cons_zero, List.set_cons_succ]; go_big_quiet_on) | (refine q_load ?_; simp only [Act.put, List.setIfInBounds_toArray, List.set_cons_zero, List.set_cons_succ]; go_big_quiet_on) | (go_big_quiet_op; first | go_big_quiet_on)))); exact rfl)); have hs := hl.out.size; (try simp at hs); simp only [List.drop_succ_cons, List.drop_zero]))
          (apply ret_two Try.results6; (conv => lhs; whnf); (conv => lhs; whnf); exact rfl)
          exact ret_ret rfl findLow
end Go.Proofs.Ytcfilpcjgdbbmaa
/- The law FnExactIncidenceRank: walked. -/
namespace Go.Proofs.Ytcfilpcjgdbbmaa
open Go.RowKit
set_option linter.unusedVariables false
set_option linter.unusedSimpArgs false
set_option maxRecDepth 20000 in
set_option maxHeartbeats 4000000 in
theorem IncidenceRank_impl_no (p q : Int) (w : World) (h : prB p = false ∨ (prB p = true ∧ prB q = false)) :
    Calls Try.prog 7 #[.int .i64 p, .int .i64 q] w (Ret w (.tuple #[.int .i64 0, .int .i64 2])) := by
  rcases h with hp | ⟨hp, hq⟩
  · go_enter Try.func7, Try.ntmps7
    go_wp2_with (first | (refine wl_load ?_) | (refine wl_store ?_) | (refine wl_build ?_) | (refine wl_slice ?_) | (refine wl_append ?_; intro v' w' ho hg hb; have hs := hg.size; (try simp at hs); (try rw [ptCs_end] at ho); (try rw [ints_end] at ho); (try simp only [Nat.zero_add, Nat.reduceAdd, List.nil_append, List.cons_append] at ho)) | (go_at_call 24; (with_reducible refine (isPrime_no _ _ hp).mono ?_); rintro e w' ⟨rfl, rfl⟩) | ((with_reducible apply region_gd (id := 34)); refine region_QA (id := 34) 16 ?_; apply Exists.intro; refine ⟨fun G => ?_, fun W hl => ?_⟩; (· (simp only [List.take_succ_cons, List.take_zero]; (repeat (first | go_big_quiet_skip | (go_big_quiet_want; first | (refine q_load ?_; simp only [Act.put, List.setIfInBounds_toArray, List.set_cons_zero, List.set_cons_succ]; go_big_quiet_on) | (go_big_quiet_op; first | go_big_quiet_on)))); exact rfl)); have hs := hl.out.size; (try simp at hs); simp only [List.drop_succ_cons, List.drop_zero]))
    (apply ret_two Try.results7; (conv => lhs; whnf); (conv => lhs; whnf); exact rfl)
    exact ret_ret rfl findLow
  · go_enter Try.func7, Try.ntmps7
    go_wp2_with (first | (refine wl_load ?_) | (refine wl_store ?_) | (refine wl_build ?_) | (refine wl_slice ?_) | (refine wl_append ?_; intro v' w' ho hg hb; have hs := hg.size; (try simp at hs); (try rw [ptCs_end] at ho); (try rw [ints_end] at ho); (try simp only [Nat.zero_add, Nat.reduceAdd, List.nil_append, List.cons_append] at ho)) | (go_at_call 24; (with_reducible refine (isPrime_yes _ _ hp).mono ?_); rintro e w' ⟨rfl, rfl⟩) | (go_at_call 24; (with_reducible refine (isPrime_no _ _ hq).mono ?_); rintro e w' ⟨rfl, rfl⟩) | ((with_reducible apply region_gd (id := 34)); refine region_QA (id := 34) 16 ?_; apply Exists.intro; refine ⟨fun G => ?_, fun W hl => ?_⟩; (· (simp only [List.take_succ_cons, List.take_zero]; (repeat (first | go_big_quiet_skip | (go_big_quiet_want; first | (refine q_load ?_; simp only [Act.put, List.setIfInBounds_toArray, List.set_cons_zero, List.set_cons_succ]; go_big_quiet_on) | (go_big_quiet_op; first | go_big_quiet_on)))); exact rfl)); have hs := hl.out.size; (try simp at hs); simp only [List.drop_succ_cons, List.drop_zero]))
    (apply ret_two Try.results7; (conv => lhs; whnf); (conv => lhs; whnf); exact rfl)
    exact ret_ret rfl findLow
set_option maxRecDepth 20000 in
set_option maxHeartbeats 4000000 in
theorem IncidenceRank_spec_no (p q : Int) (w : World) (h : prB p = false ∨ (prB p = true ∧ prB q = false)) :
    Calls Try.prog 6 #[.int .i64 p, .int .i64 q] w (Ret w (.tuple #[.int .i64 0, .int .i64 2])) := by
  rcases h with hp | ⟨hp, hq⟩
  · go_enter Try.func6, Try.ntmps6
    go_wp2_with (first | (refine wl_load ?_) | (refine wl_store ?_) | (refine wl_build ?_) | (refine wl_slice ?_) | (refine wl_append ?_; intro v' w' ho hg hb; have hs := hg.size; (try simp at hs); (try rw [ptCs_end] at ho); (try rw [ints_end] at ho); (try simp only [Nat.zero_add, Nat.reduceAdd, List.nil_append, List.cons_append] at ho)) | (go_at_call 19; (with_reducible refine (l01Prime_no _ _ hp).mono ?_); rintro e w' ⟨rfl, rfl⟩) | ((with_reducible apply region_gd (id := 11)); refine region_QA (id := 11) 10 ?_; apply Exists.intro; refine ⟨fun G => ?_, fun W hl => ?_⟩; (· (simp only [List.take_succ_cons, List.take_zero]; (repeat (first | go_big_quiet_skip | (go_big_quiet_want; first | (refine q_load ?_; simp only [Act.put, List.setIfInBounds_toArray, List.set_cons_zero, List.set_cons_succ]; go_big_quiet_on) | (go_big_quiet_op; first | go_big_quiet_on)))); exact rfl)); have hs := hl.out.size; (try simp at hs); simp only [List.drop_succ_cons, List.drop_zero]) | ((with_reducible apply region_gd (id := 36)); refine region_QA (id := 36) 16 ?_; apply Exists.intro; refine ⟨fun G => ?_, fun W hl => ?_⟩; (· (simp only [List.take_succ_cons, List.take_zero]; (repeat (first | go_big_quiet_skip | (go_big_quiet_want; first | (refine q_load ?_; simp only [Act.put, List.setIfInBounds_toArray, List.set_cons_zero, List.set_cons_succ]; go_big_quiet_on) | (go_big_quiet_op; first | go_big_quiet_on)))); exact rfl)); have hs := hl.out.size; (try simp at hs); simp only [List.drop_succ_cons, List.drop_zero]))
    (apply ret_two Try.results6; (conv => lhs; whnf); (conv => lhs; whnf); exact rfl)
    exact ret_ret rfl findLow
  · go_enter Try.func6, Try.ntmps6
    go_wp2_with (first | (refine wl_load ?_) | (refine wl_store ?_) | (refine wl_build ?_) | (refine wl_slice ?_) | (refine wl_append ?_; intro v' w' ho hg hb; have hs := hg.size; (try simp at hs); (try rw [ptCs_end] at ho); (try rw [ints_end] at ho); (try simp only [Nat.zero_add, Nat.reduceAdd, List.nil_append, List.cons_append] at ho)) | (go_at_call 19; (with_reducible refine (l01Prime_yes _ _ hp).mono ?_); rintro e w' ⟨rfl, rfl⟩) | (go_at_call 19; (with_reducible refine (l01Prime_no _ _ hq).mono ?_); rintro e w' ⟨rfl, rfl⟩) | ((with_reducible apply region_gd (id := 11)); refine region_QA (id := 11) 10 ?_; apply Exists.intro; refine ⟨fun G => ?_, fun W hl => ?_⟩; (· (simp only [List.take_succ_cons, List.take_zero]; (repeat (first | go_big_quiet_skip | (go_big_quiet_want; first | (refine q_load ?_; simp only [Act.put, List.setIfInBounds_toArray, List.set_cons_zero, List.set_cons_succ]; go_big_quiet_on) | (go_big_quiet_op; first | go_big_quiet_on)))); exact rfl)); have hs := hl.out.size; (try simp at hs); simp only [List.drop_succ_cons, List.drop_zero]) | ((with_reducible apply region_gd (id := 36)); refine region_QA (id := 36) 16 ?_; apply Exists.intro; refine ⟨fun G => ?_, fun W hl => ?_⟩; (· (simp only [List.take_succ_cons, List.take_zero]; (repeat (first | go_big_quiet_skip | (go_big_quiet_want; first | (refine q_load ?_; simp only [Act.put, List.setIfInBounds_toArray, List.set_cons_zero, List.set_cons_succ]; go_big_quiet_on) | (go_big_quiet_op; first | go_big_quiet_on)))); exact rfl)); have hs := hl.out.size; (try simp at hs); simp only [List.drop_succ_cons, List.drop_zero]))
    (apply ret_two Try.results6; (conv => lhs; whnf); (conv => lhs; whnf); exact rfl)
    exact ret_ret rfl findLow
set_option maxRecDepth 20000 in
set_option maxHeartbeats 4000000 in
theorem FnExactIncidenceRank_of (p t : Int) (r q : Int) (w : World) (HI0 : ∀ w : World, Calls Try.prog 7 #[.int .i64 p, .int .i64 t] w (Ret w (.tuple #[.int .i64 r, .int .i64 q]))) (HS0 : ∀ w : World, Calls Try.prog 6 #[.int .i64 p, .int .i64 t] w (Ret w (.tuple #[.int .i64 r, .int .i64 q]))) :
    Calls Try.prog 3 #[.int .i64 p, .int .i64 t] w (Ret w (.bool true)) := by
  have HI := Lib.hid HI0
  have HS := Lib.hid HS0
  clear HI0 HS0
  go_enter Try.func3, Try.ntmps3
  go_wp2_with (first | (refine wl_load ?_) | (refine wl_store ?_) | (refine wl_build ?_) | (refine wl_slice ?_) | (refine wl_append ?_; intro v' w' ho hg hb; have hs := hg.size; (try simp at hs); (try rw [ptCs_end] at ho); (try rw [ints_end] at ho); (try simp only [Nat.zero_add, Nat.reduceAdd, List.nil_append, List.cons_append] at ho)) | (go_at_call 6; (with_reducible refine (HS.out _).mono ?_); rintro e w' ⟨rfl, hb⟩; have hl := Link.mk hb; have hs := hb.size; (try simp at hs); clear hb) | (go_at_call 7; (with_reducible refine (HI.out _).mono ?_); rintro e w' ⟨rfl, hb⟩; have hl := Link.mk hb; have hs := hb.size; (try simp at hs); clear hb))
  (first | (go_ret; refine ⟨?_, LowK.out findLow⟩; first | exact rfl | skip) | (apply ret_rowT Try.results3; exact rfl; exact rfl; (exact findRow); exact rfl; (first | exact Try.sizeOf45 | exact Try.sizeOf35); (first | exact Try.isAgg45 | exact Try.isAgg35); exact rfl; refine ret_ret ?_ findLow; first | exact rfl | skip) | (apply ret_row Try.results3; exact rfl; (exact findRow); exact rfl; (first | exact Try.sizeOf45 | exact Try.sizeOf35); (first | exact Try.isAgg45 | exact Try.isAgg35); exact rfl; refine ret_ret ?_ findLow; first | exact rfl | skip))
theorem FnExactIncidenceRank_walk (p t : Int) (w : World) : Calls Try.prog 3 #[.int .i64 p, .int .i64 t] w (Ret w (.bool true)) := by
  rcases hp : prB p with _ | _
  · exact FnExactIncidenceRank_of _ _ 0 2 w (fun w => IncidenceRank_impl_no p t w (.inl hp)) (fun w => IncidenceRank_spec_no p t w (.inl hp))
  · rcases hq : prB t with _ | _
    · exact FnExactIncidenceRank_of _ _ 0 2 w (fun w => IncidenceRank_impl_no p t w (.inr ⟨hp, hq⟩)) (fun w => IncidenceRank_spec_no p t w (.inr ⟨hp, hq⟩))
    · obtain ⟨b1, b2⟩ := prB_bd hp
      obtain ⟨n, rfl⟩ := Int.eq_ofNat_of_zero_le (show 0 ≤ p by omega)
      have hn13 : n ≤ 13 := by omega
      have hn2 : n * n ≤ 13 * 13 := Nat.mul_le_mul hn13 hn13
      have hN := allP_length n
      exact FnExactIncidenceRank_of _ _ _ 0 w (fun w => IncidenceRank_impl_yes n _ t (allP n) w hp hq rfl rfl (by omega) (by omega) (allP_in hn13) _ rfl) (fun w => IncidenceRank_spec_yes n _ t (allP n) w hp hq rfl rfl (by omega) (by omega) (allP_in hn13) _ rfl)
end Go.Proofs.Ytcfilpcjgdbbmaa
/- Arrays of whole numbers as arguments: opened and shut. -/
namespace Go.Proofs.Ytcfilpcjgdbbmaa
open Go.ChangeShapes Go.WideShapes Go.ChangeAt Go.RowKit
set_option linter.unusedVariables false
theorem listO3 {α : Type} (l : List α) (h : (⟨l⟩ : Array α).size = 3) : ∃ a b c, l = [a, b, c] := by
  match l, h with
  | [a, b, c], _ => exact ⟨a, b, c, rfl⟩
section
variable {H : Type} {enc : TypeId × Value → H} {P : Program} {W : World} {b0 base : Nat} {spare : Nat → Bool} {held : Bool}
theorem open_arr3 {r : Reach} {t e : TypeId} {v : Value} {d : DataW H} {p : List MemPlace} (ht : P.underlying t = some (.array 3 e)) (he : P.underlying e = some (.int .i64)) (hce : P.cellsOf e = 1) (hct : P.cellsOf t = 3)
    (hv : Value.okWide P W r b0 t v) (h : DataW.Trod enc P W base spare held t v d p) :
    ∃ x y z : Int, v = .agg #[.int .i64 x, .int .i64 y, .int .i64 z] ∧ d = .agg [.lit (.int .i64 x), .lit (.int .i64 y), .lit (.int .i64 z)] ∧ p = [] ∧ (Lit.int .i64 x).wf = true ∧ (Lit.int .i64 y).wf = true ∧ (Lit.int .i64 z).wf = true := by
  obtain ⟨cs, rfl, hsz, _⟩ : ∃ cs, v = .agg cs ∧ cs.size = P.cellsOf t ∧ Row.okWide P W r b0 t cs := by
    simpa [Value.okWide, ht] using hv
  rw [hct] at hsz
  obtain ⟨l⟩ := cs
  obtain ⟨c0, c1, c2, rfl⟩ := listO3 l hsz
  obtain ⟨fuel, hf⟩ := h
  obtain ⟨y0, y1, y2, m, hx, hy0, hy1, hy2⟩ := trod_array3 ht hce hf
  obtain ⟨x0, e0, rfl, w0⟩ := DataW.trod_int he hy0
  obtain ⟨x1, e1, rfl, w1⟩ := DataW.trod_int he hy1
  obtain ⟨x2, e2, rfl, w2⟩ := DataW.trod_int he hy2
  simp at e0 e1 e2
  subst e0 e1 e2
  simp only [Prod.mk.injEq] at hx
  obtain ⟨rfl, rfl⟩ := hx
  exact ⟨x0, x1, x2, rfl, rfl, rfl, w0, w1, w2⟩
theorem shut_arr3 {t e : TypeId} {x y z : Int} (ht : P.underlying t = some (.array 3 e)) (he : P.underlying e = some (.int .i64)) (hce : P.cellsOf e = 1) (hct : P.cellsOf t = 3)
    (w0 : (Lit.int .i64 x).wf = true) (w1 : (Lit.int .i64 y).wf = true) (w2 : (Lit.int .i64 z).wf = true) :
    DataW.Trod enc P W base spare held t (.agg #[.int .i64 x, .int .i64 y, .int .i64 z]) (.agg [.lit (.int .i64 x), .lit (.int .i64 y), .lit (.int .i64 z)]) [] :=
  ⟨2, by simp [DataW.trod, Value.cells, ht, he, hct, hce, w0, w1, w2, show List.range 3 = [0, 1, 2] from rfl]⟩
end
end Go.Proofs.Ytcfilpcjgdbbmaa
