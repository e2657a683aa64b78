/- Texts of the claim, in build order: OD2, OD3, OD4. No condition. -/
import Derived.Test.YtoagfpdicpcjnaaZOrbitsOf4
/- Contracts: OrbitsOf, the program's side and the refused sides; the laws' lists of lists of points: compared, marked, held. -- maps -- gomaps -- classes -/
namespace Go.Proofs.Ytoagfpdicpcjnaa
open Go.RowKit
set_option linter.unusedVariables false
set_option linter.unusedSimpArgs false
/-- A table, or nil, and a code. -/
structure TabC (w : World) (Ls : List (List Pt)) (cd : Int) (e : Ending) (w' : World) : Prop where
  out : ∃ b c T, e = .returned (.tuple #[.slice b T.length c, .int .i64 cd]) ∧ T.map (·.2.2) = Ls ∧ TabK w' w.heap.size T ∧ OwnK w' w.heap.size 51 1 (.slice b T.length c) T.length (tabV T) ∧ LowK w w'
theorem TabC.nil {w w' : World} {cd : Int} {e : Ending} (h : Ret w (.tuple #[.slice none 0 0, .int .i64 cd]) e w') : TabC w [] cd e w' := by
  obtain ⟨rfl, hb⟩ := h
  exact ⟨none, 0, [], rfl, rfl, TabK.nil _ _, ⟨⟨rfl, .inl ⟨rfl, rfl⟩⟩⟩, ⟨hb⟩⟩
set_option maxRecDepth 20000 in
set_option maxHeartbeats 8000000 in
theorem OrbitsOf_spec_code (p : Int) (b : Option Addr) (k c : Nat) (ms : List M9) (w : World) (hk : k ≤ 1000000) (hms : ListM w b k ms) {cd : Int} (hcode : codeML p k (oksM p ms && ptsB p []) = cd) (hc : ¬ cd = 0) :
    Calls Try.prog 14 #[.int .i64 p, .slice b k c] w (TabC w [] cd) := by
  have HV := Lib.hid hcode
  clear hcode
  suffices h : Calls Try.prog 14 #[.int .i64 p, .slice b k c] w (Ret w (.tuple #[.slice none 0 0, .int .i64 cd])) from h.mono fun e w' h => TabC.nil h
  go_enter Try.func14, Try.ntmps14
  go_wp2_with (first | (refine wl_loadJ ?_) | (refine wl_load ?_) | (refine wl_loadM ?_) | (refine wl_storeJ ?_) | (refine wl_mapNewP ?_) | (refine wl_mapUpdP (L := ?_) ?_ ?_ ?_ ?_ (ho := .inl rfl); rotate_left 2; exact findGomP; assumption; assumption; intro Wm hMm hTm; have hs := hTm.out.1; (try simp at hs); (try have hOm := OwnK.turnP hTm findGomP findOwn); (try have hVm := LowK.turnP hTm (by assumption) findLow)) | (refine wl_fill1 ?_) | (refine wl_fill2 ?_) | (refine wl_storeM ?_) | (refine wl_makeM ?_; intro gm W' hgm hl hT; have hs := hl.out.size; (try simp at hs)) | (refine wl_store (h1 := mC_one _) ?_) | (refine wl_sliceM ?_) | (refine wl_append (he := eltMp) (h1 := mC_one _) ?_; intro v' w' ho hg hb; have hs := hg.size; (try simp at hs); rw [mCs_snoc] at ho; (try obtain ⟨gz, cz, rfl, hzb, hzl, -⟩ := OwnK.maps ho (by simp) (by omega))) | (refine wl_mapLook true ?_ (hM := findGom) (hv := by (first | exact decide_eq_true (by assumption)))) | (refine wl_mapLook false ?_ (hM := findGom) (hv := by (first | exact decide_eq_false (by assumption)))) | (refine wl_store ?_) | (refine wl_build ?_) | (refine wl_slice ?_) | (refine wl_append (he := eltSp) ?_; intro v' w' ho hg hb; have hs := hg.size; (try simp at hs)) | (refine wl_append ?_; intro v' w' ho hg hb; have hs := hg.size; (try simp at hs); (try rw [ptCs_end] at ho); (try rw [ints_end] at ho); (try simp only [Nat.zero_add, Nat.reduceAdd, List.nil_append, List.cons_append] at ho)) | (go_at_call 20; (with_reducible refine (l10Maps_none p b k c ms _ hk (hms.link (LowK.lnk findLow)) HV.out).mono ?_); rintro e w' ⟨rfl, hb⟩; have hl := Link.mk hb; have hs := hb.size; (try simp at hs); clear hb))
  (apply ret_two Try.results14; (conv => lhs; whnf); (conv => lhs; whnf); exact rfl)
  exact ret_ret rfl findLow
set_option maxRecDepth 20000 in
set_option maxHeartbeats 8000000 in
theorem OrbitsOf_impl_code (p : Int) (b : Option Addr) (k c : Nat) (ms : List M9) (w : World) (hk : k ≤ 1000000) (hms : ListM w b k ms) {cd : Int} (hcode : codeML p k (oksM p ms && ptsB p []) = cd) (hc : ¬ cd = 0) :
    Calls Try.prog 15 #[.int .i64 p, .slice b k c] w (TabC w [] cd) := by
  have HV := Lib.hid hcode
  clear hcode
  suffices h : Calls Try.prog 15 #[.int .i64 p, .slice b k c] w (Ret w (.tuple #[.slice none 0 0, .int .i64 cd])) from h.mono fun e w' h => TabC.nil h
  go_enter Try.func15, Try.ntmps15
  go_wp2_with (first | (refine wl_loadJ ?_) | (refine wl_load ?_) | (refine wl_loadM ?_) | (refine wl_storeJ ?_) | (refine wl_mapNewP ?_) | (refine wl_mapUpdP (L := ?_) ?_ ?_ ?_ ?_ (ho := .inl rfl); rotate_left 2; exact findGomP; assumption; assumption; intro Wm hMm hTm; have hs := hTm.out.1; (try simp at hs); (try have hOm := OwnK.turnP hTm findGomP findOwn); (try have hVm := LowK.turnP hTm (by assumption) findLow)) | (refine wl_fill1 ?_) | (refine wl_fill2 ?_) | (refine wl_storeM ?_) | (refine wl_makeM ?_; intro gm W' hgm hl hT; have hs := hl.out.size; (try simp at hs)) | (refine wl_store (h1 := mC_one _) ?_) | (refine wl_sliceM ?_) | (refine wl_append (he := eltMp) (h1 := mC_one _) ?_; intro v' w' ho hg hb; have hs := hg.size; (try simp at hs); rw [mCs_snoc] at ho; (try obtain ⟨gz, cz, rfl, hzb, hzl, -⟩ := OwnK.maps ho (by simp) (by omega))) | (refine wl_mapLook true ?_ (hM := findGom) (hv := by (first | exact decide_eq_true (by assumption)))) | (refine wl_mapLook false ?_ (hM := findGom) (hv := by (first | exact decide_eq_false (by assumption)))) | (refine wl_store ?_) | (refine wl_build ?_) | (refine wl_slice ?_) | (refine wl_append (he := eltSp) ?_; intro v' w' ho hg hb; have hs := hg.size; (try simp at hs)) | (refine wl_append ?_; intro v' w' ho hg hb; have hs := hg.size; (try simp at hs); (try rw [ptCs_end] at ho); (try rw [ints_end] at ho); (try simp only [Nat.zero_add, Nat.reduceAdd, List.nil_append, List.cons_append] at ho)) | (go_at_call 25; (with_reducible refine (listCode_none p b k c ms _ hk (hms.link (LowK.lnk findLow)) HV.out).mono ?_); rintro e w' ⟨rfl, hb⟩; have hl := Link.mk hb; have hs := hb.size; (try simp at hs); clear hb))
  (apply ret_two Try.results15; (conv => lhs; whnf); (conv => lhs; whnf); exact rfl)
  exact ret_ret rfl findLow
set_option maxRecDepth 20000 in
set_option maxHeartbeats 8000000 in
theorem OrbitsOf_impl_core (n : Nat) (b : Option Addr) (k c : Nat) (ms : List M9) (w : World) (h : MsOk n ms) (hk : k ≤ 8) (hms : ListM w b k ms) (hcode : codeML (n : Int) k (oksM (n : Int) ms && ptsB (n : Int) []) = 0) {Ls : List (List Pt)} (hLs : tabL (classP n ms) (allP n) (allP n).length (allP n).length = Ls) :
    Calls Try.prog 15 #[.int .i64 (n : Int), .slice b k c] w (TabC w Ls 0) := by
  have HV := Lib.hid hcode
  have HO := Lib.hid (fun (w : World) (hms : ListM w b k ms) => orbits_I n _ (allP n) b k c ms w h hk hms rfl rfl (nodup_allP h.pr))
  rw [hLs] at HO
  clear hcode hLs h
  go_enter Try.func15, Try.ntmps15
  go_wp2_with (first | (refine wl_loadJ ?_) | (refine wl_load ?_) | (refine wl_loadM ?_) | (refine wl_storeJ ?_) | (refine wl_mapNewP ?_) | (refine wl_mapUpdP (L := ?_) ?_ ?_ ?_ ?_ (ho := .inl rfl); rotate_left 2; exact findGomP; assumption; assumption; intro Wm hMm hTm; have hs := hTm.out.1; (try simp at hs); (try have hOm := OwnK.turnP hTm findGomP findOwn); (try have hVm := LowK.turnP hTm (by assumption) findLow)) | (refine wl_fill1 ?_) | (refine wl_fill2 ?_) | (refine wl_storeM ?_) | (refine wl_makeM ?_; intro gm W' hgm hl hT; have hs := hl.out.size; (try simp at hs)) | (refine wl_store (h1 := mC_one _) ?_) | (refine wl_sliceM ?_) | (refine wl_append (he := eltMp) (h1 := mC_one _) ?_; intro v' w' ho hg hb; have hs := hg.size; (try simp at hs); rw [mCs_snoc] at ho; (try obtain ⟨gz, cz, rfl, hzb, hzl, -⟩ := OwnK.maps ho (by simp) (by omega))) | (refine wl_mapLook true ?_ (hM := findGom) (hv := by (first | exact decide_eq_true (by assumption)))) | (refine wl_mapLook false ?_ (hM := findGom) (hv := by (first | exact decide_eq_false (by assumption)))) | (refine wl_store ?_) | (refine wl_build ?_) | (refine wl_slice ?_) | (refine wl_append (he := eltSp) ?_; intro v' w' ho hg hb; have hs := hg.size; (try simp at hs)) | (refine wl_append ?_; intro v' w' ho hg hb; have hs := hg.size; (try simp at hs); (try rw [ptCs_end] at ho); (try rw [ints_end] at ho); (try simp only [Nat.zero_add, Nat.reduceAdd, List.nil_append, List.cons_append] at ho)) | (go_at_call 25; (with_reducible refine (listCode_none n b k c ms _ (by omega) (hms.link (LowK.lnk findLow)) HV.out).mono ?_); rintro e w' ⟨rfl, hb⟩; have hl := Link.mk hb; have hs := hb.size; (try simp at hs); clear hb) | (go_at_call 31; (with_reducible refine (HO.out _ (hms.link (LowK.lnk findLow))).mono ?_); rintro e w4 ⟨v', T, rfl, hTL, hT, hO, hb⟩; obtain ⟨bo, cp, rfl⟩ := hO.form; have hl2 := LowK.lnk hb; have hs := hb.size))
  have hV : LowK w w4 := findLow
  (apply ret_two Try.results15; (conv => lhs; whnf); (conv => lhs; whnf); exact rfl)
  exact ⟨bo, cp, T, rfl, hTL, TabK.lower (by omega) hT, OwnK.lower (by omega) hO, hV⟩
/-- A table's header; its rows' points. -/
def HdrK (W : World) (b : Option Addr) (T : List Row3) : Prop := 0 < T.length → ∃ g, b = some ⟨g, 0, none⟩ ∧ ∀ j, j < T.length → CellK W g j (slV (T.getD j (0, 0, [])))
def RowsP (W : World) (T : List Row3) : Prop := ∀ t ∈ T, PtsK W t.1 0 t.2.2.length t.2.2
theorem HdrK.link {W W' : World} {b : Option Addr} {T : List Row3} (l : Link W W') (h : HdrK W b T) : HdrK W' b T := fun hn => by
  obtain ⟨g, e, hc⟩ := h hn
  exact ⟨g, e, fun j hj => (hc j hj).link l⟩
theorem RowsP.link {W W' : World} {T : List Row3} (l : Link W W') (h : RowsP W T) : RowsP W' T := fun t ht => (h t ht).link l
theorem HdrK.of {W : World} {B c : Nat} {b : Option Addr} {T : List Row3} (h : OwnK W B 51 1 (.slice b T.length c) T.length (tabV T)) : HdrK W b T := fun hn => by
  obtain ⟨g, cap, e, hc⟩ := h.tab hn
  injection e with h1
  exact ⟨g, h1, hc⟩
theorem RowsP.of {W : World} {B : Nat} {T : List Row3} (h : TabK W B T) : RowsP W T := fun t ht => by
  obtain ⟨hl, hO⟩ := h.out.1 t ht
  obtain ⟨g, c, e, -, -, hP⟩ := OwnK.pts hO rfl hl
  injection e with h1
  injection h1 with h1
  injection h1 with h1
  rw [h1]; exact hP
set_option maxRecDepth 20000 in
set_option maxHeartbeats 8000000 in
theorem eqSS_K (b b' : Option Addr) (m c c' : Nat) (T T' : List Row3) (Ls : List (List Pt)) (w : World) (hm : T.length = m) (hm' : T'.length = m) (hT : T.map (·.2.2) = Ls) (hT' : T'.map (·.2.2) = Ls) (m1 : m ≤ 183) (hlen : ∀ l ∈ Ls, l.length ≤ 1000) (hH : HdrK w b T) (hH' : HdrK w b' T') (hR : RowsP w T) (hR' : RowsP w T') :
    Calls Try.prog 16 #[.slice b m c, .slice b' m c'] w (Ret w (.bool true)) := by
  have HT := Lib.hid hT
  have HT' := Lib.hid hT'
  have HM := Lib.hid hm
  have HM' := Lib.hid hm'
  have HL := Lib.hid hlen
  have HH := Lib.hid hH
  have HH' := Lib.hid hH'
  have HR := Lib.hid hR
  have HR' := Lib.hid hR'
  clear hT hT' hm hm' hlen hH hH' hR hR'
  go_enter Try.func16, Try.ntmps16
  go_wp2_with (first | (refine wl_loadJ ?_) | (refine wl_load ?_) | (refine wl_loadM ?_) | (refine wl_storeJ ?_) | (refine wl_mapNewP ?_) | (refine wl_mapUpdP (L := ?_) ?_ ?_ ?_ ?_ (ho := .inl rfl); rotate_left 2; exact findGomP; assumption; assumption; intro Wm hMm hTm; have hs := hTm.out.1; (try simp at hs); (try have hOm := OwnK.turnP hTm findGomP findOwn); (try have hVm := LowK.turnP hTm (by assumption) findLow)) | (refine wl_fill1 ?_) | (refine wl_fill2 ?_) | (refine wl_storeM ?_) | (refine wl_makeM ?_; intro gm W' hgm hl hT; have hs := hl.out.size; (try simp at hs)) | (refine wl_store (h1 := mC_one _) ?_) | (refine wl_sliceM ?_) | (refine wl_append (he := eltMp) (h1 := mC_one _) ?_; intro v' w' ho hg hb; have hs := hg.size; (try simp at hs); rw [mCs_snoc] at ho; (try obtain ⟨gz, cz, rfl, hzb, hzl, -⟩ := OwnK.maps ho (by simp) (by omega))) | (refine wl_mapLook true ?_ (hM := findGom) (hv := by (first | exact decide_eq_true (by assumption)))) | (refine wl_mapLook false ?_ (hM := findGom) (hv := by (first | exact decide_eq_false (by assumption)))) | (refine wl_store ?_) | (refine wl_build ?_) | (refine wl_slice ?_) | (refine wl_append (he := eltSp) ?_; intro v' w' ho hg hb; have hs := hg.size; (try simp at hs)) | (refine wl_append ?_; intro v' w' ho hg hb; have hs := hg.size; (try simp at hs); (try rw [ptCs_end] at ho); (try rw [ints_end] at ho); (try simp only [Nat.zero_add, Nat.reduceAdd, List.nil_append, List.cons_append] at ho)) | ((with_reducible apply region_gd (id := 6)); refine region_QA (id := 6) 10 ?_; apply Exists.intro; refine ⟨fun G => ?_, fun W hl => ?_⟩; (· (simp only [List.take_succ_cons, List.take_zero]; (repeat (first | go_big_quiet_skip | (go_big_quiet_want; first | (refine q_loadJ ?_; simp only [Act.put, List.setIfInBounds_toArray, List.set_cons_zero, List.set_cons_succ]; go_big_quiet_on) | (refine q_mapLookP (L := ?_) (v := ?_) ?_ ?_ ?_ (ho := rfl); rotate_left 3; exact findGomP; exact (show RowKit.Hid _ from by assumption).out; simp only [Act.put, List.setIfInBounds_toArray, List.set_cons_zero, List.set_cons_succ]; go_big_quiet_on) | (refine q_load ?_; simp only [Act.put, List.setIfInBounds_toArray, List.set_cons_zero, List.set_cons_succ]; go_big_quiet_on) | (go_big_quiet_op; first | go_big_quiet_on)))); exact rfl)); have hs := hl.out.size; (try simp at hs); simp only [List.drop_succ_cons, List.drop_zero]))
  go_loopw [5] (fun iv wr => ∃ i : Nat, i ≤ m ∧ iv = .int .i64 (i : Int) ∧ LowK w wr) (fun iv wr => m - (intOf iv).toNat)
  case atStart => exact ⟨0, Nat.zero_le _, rfl, LowK.refl _⟩
  case round =>
    obtain ⟨i, hi, rfl, hV⟩ := hrel
    by_cases hlt : i < m
    · obtain ⟨g, rfl, hc⟩ := HH.out.link (LowK.lnk hV) (by rw [HM.out]; omega)
      obtain ⟨g', rfl, hc'⟩ := HH'.out.link (LowK.lnk hV) (by rw [HM'.out]; omega)
      have k1 := hc i (by rw [HM.out]; exact hlt)
      have k2 := hc' i (by rw [HM'.out]; exact hlt)
      have m1 := getT_mem (T := T) (j := i) (by rw [HM.out]; exact hlt)
      have m2 := getT_mem (T := T') (j := i) (by rw [HM'.out]; exact hlt)
      have p1 := (HR.out.link (LowK.lnk hV)) _ m1
      have p2 := (HR'.out.link (LowK.lnk hV)) _ m2
      have e1 : (T.getD i (0, 0, [])).2.2 = (T'.getD i (0, 0, [])).2.2 := by
        have h1 := congrArg (fun l : List (List Pt) => l.getD i []) (HT.out.trans HT'.out.symm)
        simpa [List.getD, HM.out, HM'.out, hlt] using h1
      have hl := HL.out _ (by rw [← HT.out]; exact List.mem_map_of_mem m1)
      clear hc hc' m1 m2
      generalize T.getD i (0, 0, []) = t at *
      generalize T'.getD i (0, 0, []) = t' at *
      obtain ⟨a, ca, l⟩ := t
      obtain ⟨a', ca', l'⟩ := t'
      replace e1 : l = l' := e1
      subst e1
      replace k1 : CellK wr g i (.slice (some ⟨a, 0, none⟩) l.length ca) := k1
      replace k2 : CellK wr g' i (.slice (some ⟨a', 0, none⟩) l.length ca') := k2
      replace p1 : PtsK wr a 0 l.length l := p1
      replace p2 : PtsK wr a' 0 l.length l := p2
      replace hl : l.length ≤ 1000 := hl
      go_wp2_with (first | (refine wl_loadJ ?_) | (refine wl_load ?_) | (refine wl_loadM ?_) | (refine wl_storeJ ?_) | (refine wl_mapNewP ?_) | (refine wl_mapUpdP (L := ?_) ?_ ?_ ?_ ?_ (ho := .inl rfl); rotate_left 2; exact findGomP; assumption; assumption; intro Wm hMm hTm; have hs := hTm.out.1; (try simp at hs); (try have hOm := OwnK.turnP hTm findGomP findOwn); (try have hVm := LowK.turnP hTm (by assumption) findLow)) | (refine wl_fill1 ?_) | (refine wl_fill2 ?_) | (refine wl_storeM ?_) | (refine wl_makeM ?_; intro gm W' hgm hl hT; have hs := hl.out.size; (try simp at hs)) | (refine wl_store (h1 := mC_one _) ?_) | (refine wl_sliceM ?_) | (refine wl_append (he := eltMp) (h1 := mC_one _) ?_; intro v' w' ho hg hb; have hs := hg.size; (try simp at hs); rw [mCs_snoc] at ho; (try obtain ⟨gz, cz, rfl, hzb, hzl, -⟩ := OwnK.maps ho (by simp) (by omega))) | (refine wl_mapLook true ?_ (hM := findGom) (hv := by (first | exact decide_eq_true (by assumption)))) | (refine wl_mapLook false ?_ (hM := findGom) (hv := by (first | exact decide_eq_false (by assumption)))) | (refine wl_store ?_) | (refine wl_build ?_) | (refine wl_slice ?_) | (refine wl_append (he := eltSp) ?_; intro v' w' ho hg hb; have hs := hg.size; (try simp at hs)) | (refine wl_append ?_; intro v' w' ho hg hb; have hs := hg.size; (try simp at hs); (try rw [ptCs_end] at ho); (try rw [ints_end] at ho); (try simp only [Nat.zero_add, Nat.reduceAdd, List.nil_append, List.cons_append] at ho)) | (go_at_call 34; (with_reducible refine (eqP_K a a' l.length ca ca' l _ (by omega) rfl fP fP).mono ?_); rintro e w' ⟨rfl, hb⟩; have hl := Link.mk hb; have hs := hb.size; (try simp at hs); clear hb) | ((with_reducible apply region_gd (id := 6)); refine region_QA (id := 6) 10 ?_; apply Exists.intro; refine ⟨fun G => ?_, fun W hl => ?_⟩; (· (simp only [List.take_succ_cons, List.take_zero]; (repeat (first | go_big_quiet_skip | (go_big_quiet_want; first | (refine q_loadJ ?_; simp only [Act.put, List.setIfInBounds_toArray, List.set_cons_zero, List.set_cons_succ]; go_big_quiet_on) | (refine q_mapLookP (L := ?_) (v := ?_) ?_ ?_ ?_ (ho := rfl); rotate_left 3; exact findGomP; exact (show RowKit.Hid _ from by assumption).out; simp only [Act.put, List.setIfInBounds_toArray, List.set_cons_zero, List.set_cons_succ]; go_big_quiet_on) | (refine q_load ?_; simp only [Act.put, List.setIfInBounds_toArray, List.set_cons_zero, List.set_cons_succ]; go_big_quiet_on) | (go_big_quiet_op; first | go_big_quiet_on | (apply Exists.intro; refine ⟨fun g => ?_, ?_⟩; (· (have hl := growL g; first | (go_at_call 34; with_reducible exact grow_ret (eqP_K a a' l.length ca ca' l _ (by omega) rfl fP fP)))); go_big_quiet_on))))); exact rfl)); have hs := hl.out.size; (try simp at hs); simp only [List.drop_succ_cons, List.drop_zero]))
      go_roundw
      case rel => exact ⟨i + 1, by omega, by go_num, findLow⟩
      case measure => (simp [intOf]; try omega)
    · obtain rfl : m = i := by omega
      go_wp2_with (first | (refine wl_loadJ ?_) | (refine wl_load ?_) | (refine wl_loadM ?_) | (refine wl_storeJ ?_) | (refine wl_mapNewP ?_) | (refine wl_mapUpdP (L := ?_) ?_ ?_ ?_ ?_ (ho := .inl rfl); rotate_left 2; exact findGomP; assumption; assumption; intro Wm hMm hTm; have hs := hTm.out.1; (try simp at hs); (try have hOm := OwnK.turnP hTm findGomP findOwn); (try have hVm := LowK.turnP hTm (by assumption) findLow)) | (refine wl_fill1 ?_) | (refine wl_fill2 ?_) | (refine wl_storeM ?_) | (refine wl_makeM ?_; intro gm W' hgm hl hT; have hs := hl.out.size; (try simp at hs)) | (refine wl_store (h1 := mC_one _) ?_) | (refine wl_sliceM ?_) | (refine wl_append (he := eltMp) (h1 := mC_one _) ?_; intro v' w' ho hg hb; have hs := hg.size; (try simp at hs); rw [mCs_snoc] at ho; (try obtain ⟨gz, cz, rfl, hzb, hzl, -⟩ := OwnK.maps ho (by simp) (by omega))) | (refine wl_mapLook true ?_ (hM := findGom) (hv := by (first | exact decide_eq_true (by assumption)))) | (refine wl_mapLook false ?_ (hM := findGom) (hv := by (first | exact decide_eq_false (by assumption)))) | (refine wl_store ?_) | (refine wl_build ?_) | (refine wl_slice ?_) | (refine wl_append (he := eltSp) ?_; intro v' w' ho hg hb; have hs := hg.size; (try simp at hs)) | (refine wl_append ?_; intro v' w' ho hg hb; have hs := hg.size; (try simp at hs); (try rw [ptCs_end] at ho); (try rw [ints_end] at ho); (try simp only [Nat.zero_add, Nat.reduceAdd, List.nil_append, List.cons_append] at ho)) | ((with_reducible apply region_gd (id := 6)); refine region_QA (id := 6) 10 ?_; apply Exists.intro; refine ⟨fun G => ?_, fun W hl => ?_⟩; (· (simp only [List.take_succ_cons, List.take_zero]; (repeat (first | go_big_quiet_skip | (go_big_quiet_want; first | (refine q_loadJ ?_; simp only [Act.put, List.setIfInBounds_toArray, List.set_cons_zero, List.set_cons_succ]; go_big_quiet_on) | (refine q_mapLookP (L := ?_) (v := ?_) ?_ ?_ ?_ (ho := rfl); rotate_left 3; exact findGomP; exact (show RowKit.Hid _ from by assumption).out; simp only [Act.put, List.setIfInBounds_toArray, List.set_cons_zero, List.set_cons_succ]; go_big_quiet_on) | (refine q_load ?_; simp only [Act.put, List.setIfInBounds_toArray, List.set_cons_zero, List.set_cons_succ]; go_big_quiet_on) | (go_big_quiet_op; first | go_big_quiet_on)))); exact rfl)); have hs := hl.out.size; (try simp at hs); simp only [List.drop_succ_cons, List.drop_zero]))
      (apply ret_one Try.results16; (conv => lhs; whnf); exact rfl)
      exact ret_ret rfl findLow
end Go.Proofs.Ytoagfpdicpcjnaa
/- Contracts: the laws' lists of lists of points: marked, held; a list of maps marked. -- maps -- gomaps -- classes -/
namespace Go.Proofs.Ytoagfpdicpcjnaa
open Go.RowKit
set_option linter.unusedVariables false
set_option linter.unusedSimpArgs false
@[reducible] def r0 : Row3 := (0, 0, [])
def sumT (T : List Row3) : Nat → Nat
  | 0 => 0
  | j + 1 => sumT T j + (T.getD j r0).2.2.length
theorem sumT_le {T : List Row3} (h : ∀ j, j < T.length → (T.getD j r0).2.2.length ≤ 183) : ∀ i, i ≤ T.length → sumT T i ≤ 183 * i
  | 0, _ => Nat.le_refl _
  | i + 1, hi => by have := sumT_le h i (by omega); have := h i (by omega); show sumT T i + _ ≤ _; omega
/-- A table that can be marked: its header's block is none of its rows', the rows' blocks differ, and have room. -/
structure TabM (W : World) (b : Option Addr) (T : List Row3) : Prop where
  hdr : 0 < T.length → ∃ g, b = some ⟨g, 0, none⟩ ∧ g < W.heap.size ∧ (∀ j, j < T.length → (T.getD j r0).1 ≠ g) ∧ ∀ j, j < T.length → CellK W g j (slV (T.getD j r0))
  room : ∀ j, j < T.length → (T.getD j r0).2.2.length ≤ (T.getD j r0).2.1 ∧ RoomP W (T.getD j r0).1 (T.getD j r0).2.1 33
  ne : ∀ i j, i < T.length → j < T.length → i ≠ j → (T.getD i r0).1 ≠ (T.getD j r0).1
theorem RoomP.lt2 {W : World} {g cap : Nat} {T : TypeId} (h : RoomP W g cap T) : g < W.heap.size := by
  obtain ⟨cur, h1, -⟩ := h
  exact (Array.getElem?_eq_some_iff.1 h1).1
theorem RoomP.blk2 {W W' : World} {g cap : Nat} {T : TypeId} (h : RoomP W g cap T) (e : W'.heap[g]? = W.heap[g]?) : RoomP W' g cap T := by
  obtain ⟨cur, h1, h2⟩ := h
  exact ⟨cur, e.trans h1, h2⟩
theorem TabM.of {W : World} {B c : Nat} {b : Option Addr} {T : List Row3} (h : OwnK W B 51 1 (.slice b T.length c) T.length (tabV T)) (hT : TabK W B T) : TabM W b T := by
  have hrow : ∀ j, j < T.length → OwnK W B 33 3 (slV (T.getD j r0)) (T.getD j r0).2.2.length (ptCs (T.getD j r0).2.2) := fun j hj => (hT.out.1 _ (getT_mem hj)).2
  refine ⟨fun hn => ?_, fun j hj => ?_, fun i j hi hj hij e => ?_⟩
  · obtain ⟨g, cap, e, hc⟩ := h.tab hn
    injection e with h1
    subst h1
    refine ⟨g, rfl, World.block_lt_of_cell? W _ (hc 0 hn).out, fun j hj e2 => own_types (hrow j hj) h (by decide) g (by simp [Value.ownBlock, slV]; exact e2) (by simp [Value.ownBlock]), hc⟩
  · rcases (hrow j hj).out.2 with ⟨h1, _⟩ | ⟨g, cap, cur, e, _, hg, hle, _, hsz, _⟩
    · cases h1
    · simp only [slV, Value.slice.injEq, Option.some.injEq, Addr.mk.injEq] at e
      obtain ⟨⟨e1, -⟩, -, e2⟩ := e
      rw [e1, e2]
      exact ⟨hle, cur, hg, hsz⟩
  · have hnd := hT.out.2
    have h1 := hnd.idxOf_getElem i (by simpa using hi)
    have h2 := hnd.idxOf_getElem j (by simpa using hj)
    simp only [List.getElem_map] at h1 h2
    have e' : (T[i]).1 = (T[j]).1 := by simpa [List.getD, hi, hj] using e
    rw [e'] at h1
    omega
/-- All blocks but the rows' are as they were. -/
structure SaveT (T : List Row3) (w W : World) : Prop where
  os : W.os = w.os
  tape : W.tape = w.tape
  output : W.output = w.output
  size : w.heap.size ≤ W.heap.size
  block : ∀ z, z < w.heap.size → (∀ j, j < T.length → (T.getD j r0).1 ≠ z) → W.heap[z]? = w.heap[z]?
theorem SaveT.refl (T : List Row3) (w : World) : SaveT T w w := ⟨rfl, rfl, rfl, Nat.le_refl _, fun _ _ _ => rfl⟩
theorem SaveT.step {T : List Row3} {w W W' : World} {i : Nat} (hi : i < T.length) (h : SaveT T w W) (h2 : Save (T.getD i r0).1 W W') : SaveT T w W' :=
  ⟨h2.os.trans h.os, h2.tape.trans h.tape, h2.output.trans h.output, Nat.le_trans h.size h2.size, fun z hz hn => (h2.block z (Nat.lt_of_lt_of_le hz h.size) (fun e => hn i hi e.symm)).trans (h.block z hz hn)⟩
theorem SaveT.low {T : List Row3} {w0 w W : World} (h : SaveT T w W) (hl : LowK w0 w) (hg : ∀ j, j < T.length → w0.heap.size ≤ (T.getD j r0).1) : LowK w0 W :=
  ⟨⟨h.os.trans hl.out.os, h.tape.trans hl.out.tape, h.output.trans hl.out.output, Nat.le_trans hl.out.size h.size, fun z hz => (h.block z (Nat.lt_of_lt_of_le hz hl.out.size) (fun j hj => by have := hg j hj; omega)).trans (hl.out.block z hz)⟩⟩
theorem TabM.save {T : List Row3} {w W : World} {b : Option Addr} (h : TabM w b T) (hs : SaveT T w W) (hr : ∀ j, j < T.length → RoomP W (T.getD j r0).1 (T.getD j r0).2.1 33) : TabM W b T := by
  refine ⟨fun hn => ?_, fun j hj => ⟨(h.room j hj).1, hr j hj⟩, h.ne⟩
  obtain ⟨g, e, hg, hne, hc⟩ := h.hdr hn
  refine ⟨g, e, Nat.lt_of_lt_of_le hg hs.size, hne, fun j hj => ⟨?_⟩⟩
  have := (hc j hj).out
  rw [← this]; unfold World.cell?; rw [hs.block g hg hne]
theorem TabM.link {T : List Row3} {w W : World} {b : Option Addr} (l : Link w W) (h : TabM w b T) : TabM W b T := by
  refine ⟨fun hn => ?_, fun j hj => ⟨(h.room j hj).1, (h.room j hj).2.blk2 (l.out.block _ (h.room j hj).2.lt2)⟩, h.ne⟩
  obtain ⟨g, e, hg, hne, hc⟩ := h.hdr hn
  exact ⟨g, e, Nat.lt_of_lt_of_le hg l.out.size, hne, fun j hj => (hc j hj).link l⟩
/-- The rows marked one behind the other. -/
def MkdT (W : World) (T : List Row3) (k : Nat) : Prop := ∀ j, j < k → PtsK W (T.getD j r0).1 0 (T.getD j r0).2.2.length (markL (101 + 3 * sumT T j) (T.getD j r0).2.2.length)
theorem MkdT.link {W W' : World} {T : List Row3} {k : Nat} (l : Link W W') (h : MkdT W T k) : MkdT W' T k := fun j hj => (h j hj).link l
set_option maxRecDepth 20000 in
set_option maxHeartbeats 8000000 in
theorem markSS_K (b : Option Addr) (m c : Nat) (T : List Row3) (w : World) (hm : T.length = m) (m1 : m ≤ 183) (hlen : ∀ j, j < T.length → (T.getD j r0).2.2.length ≤ 183) (hT : TabM w b T) {M : Int} (hM : ((101 + 3 * sumT T m : Nat) : Int) = M) :
    Calls Try.prog 18 #[.slice b m c, .int .i64 101] w (fun e W => e = .returned (.int .i64 M) ∧ SaveT T w W ∧ TabM W b T ∧ MkdT W T m) := by
  have HM := Lib.hid hm
  have HL := Lib.hid hlen
  have HSL := Lib.hid (fun i (hi : i ≤ m) => sumT_le hlen i (by omega))
  have HMM := Lib.hid hM
  have HT0 := Lib.hid hT
  clear hm hlen hM hT
  go_enter Try.func18, Try.ntmps18
  go_wp2_with (first | (refine wl_loadJ ?_) | (refine wl_load ?_) | (refine wl_loadM ?_) | (refine wl_storeJ ?_) | (refine wl_mapNewP ?_) | (refine wl_mapUpdP (L := ?_) ?_ ?_ ?_ ?_ (ho := .inl rfl); rotate_left 2; exact findGomP; assumption; assumption; intro Wm hMm hTm; have hs := hTm.out.1; (try simp at hs); (try have hOm := OwnK.turnP hTm findGomP findOwn); (try have hVm := LowK.turnP hTm (by assumption) findLow)) | (refine wl_fill1 ?_) | (refine wl_fill2 ?_) | (refine wl_storeM ?_) | (refine wl_makeM ?_; intro gm W' hgm hl hT; have hs := hl.out.size; (try simp at hs)) | (refine wl_store (h1 := mC_one _) ?_) | (refine wl_sliceM ?_) | (refine wl_append (he := eltMp) (h1 := mC_one _) ?_; intro v' w' ho hg hb; have hs := hg.size; (try simp at hs); rw [mCs_snoc] at ho; (try obtain ⟨gz, cz, rfl, hzb, hzl, -⟩ := OwnK.maps ho (by simp) (by omega))) | (refine wl_mapLook true ?_ (hM := findGom) (hv := by (first | exact decide_eq_true (by assumption)))) | (refine wl_mapLook false ?_ (hM := findGom) (hv := by (first | exact decide_eq_false (by assumption)))) | (refine wl_store ?_) | (refine wl_build ?_) | (refine wl_slice ?_) | (refine wl_append (he := eltSp) ?_; intro v' w' ho hg hb; have hs := hg.size; (try simp at hs)) | (refine wl_append ?_; intro v' w' ho hg hb; have hs := hg.size; (try simp at hs); (try rw [ptCs_end] at ho); (try rw [ints_end] at ho); (try simp only [Nat.zero_add, Nat.reduceAdd, List.nil_append, List.cons_append] at ho)))
  go_loopw [1, 5] (fun q iv wr => ∃ i : Nat, i ≤ m ∧ iv = .int .i64 (i : Int) ∧ q = .int .i64 ((101 + 3 * sumT T i : Nat) : Int) ∧ Hid (SaveT T w wr) ∧ Hid (TabM wr b T) ∧ Hid (MkdT wr T i)) (fun _ iv wr => m - (intOf iv).toNat)
  case atStart => exact ⟨0, Nat.zero_le _, rfl, rfl, Lib.hid (SaveT.refl _ _), HT0, Lib.hid (fun j hj => absurd hj (Nat.not_lt_zero _))⟩
  case round =>
    obtain ⟨i, hi, rfl, rfl, HS, HT, HK⟩ := hrel
    have hsl := HSL.out i hi
    by_cases hlt : i < m
    · obtain ⟨g, rfl, hg, hne, hc⟩ := HT.out.hdr (by rw [HM.out]; omega)
      have k1 := hc i (by rw [HM.out]; exact hlt)
      obtain ⟨r1, r2⟩ := HT.out.room i (by rw [HM.out]; exact hlt)
      have hl := HL.out i (by rw [HM.out]; exact hlt)
      have HC := Lib.hid (markPointS_any (T.getD i r0).1 (T.getD i r0).2.2.length (T.getD i r0).2.1 (101 + 3 * sumT T i) (T.getD i r0).2.1 _ wr r2 r1 (by omega) (by omega))
      have HQ : Hid (sumT T (i + 1) = sumT T i + (T.getD i r0).2.2.length) := Lib.hid rfl
      clear hc hne r1 r2 hg hl
      obtain ⟨t, ht⟩ : ∃ t, T.getD i r0 = t := ⟨_, rfl⟩
      obtain ⟨K, hK⟩ : ∃ K, 101 + 3 * sumT T i = K := ⟨_, rfl⟩
      rw [ht] at k1 HC HQ
      rw [hK] at HC ⊢
      have HTt := Lib.hid ht
      have HKK := Lib.hid hK
      clear ht hK
      obtain ⟨a, ca, l⟩ := t
      replace k1 : CellK wr g i (.slice (some ⟨a, 0, none⟩) l.length ca) := k1
      replace HC : Hid (Calls Try.prog 35 #[.slice (some ⟨a, 0, none⟩) l.length ca, .int .i64 (K : Int)] wr (MarkPost a l.length K ca 33 wr)) := HC
      go_wp2_with (first | (refine wl_loadJ ?_) | (refine wl_load ?_) | (refine wl_loadM ?_) | (refine wl_storeJ ?_) | (refine wl_mapNewP ?_) | (refine wl_mapUpdP (L := ?_) ?_ ?_ ?_ ?_ (ho := .inl rfl); rotate_left 2; exact findGomP; assumption; assumption; intro Wm hMm hTm; have hs := hTm.out.1; (try simp at hs); (try have hOm := OwnK.turnP hTm findGomP findOwn); (try have hVm := LowK.turnP hTm (by assumption) findLow)) | (refine wl_fill1 ?_) | (refine wl_fill2 ?_) | (refine wl_storeM ?_) | (refine wl_makeM ?_; intro gm W' hgm hl hT; have hs := hl.out.size; (try simp at hs)) | (refine wl_store (h1 := mC_one _) ?_) | (refine wl_sliceM ?_) | (refine wl_append (he := eltMp) (h1 := mC_one _) ?_; intro v' w' ho hg hb; have hs := hg.size; (try simp at hs); rw [mCs_snoc] at ho; (try obtain ⟨gz, cz, rfl, hzb, hzl, -⟩ := OwnK.maps ho (by simp) (by omega))) | (refine wl_mapLook true ?_ (hM := findGom) (hv := by (first | exact decide_eq_true (by assumption)))) | (refine wl_mapLook false ?_ (hM := findGom) (hv := by (first | exact decide_eq_false (by assumption)))) | (refine wl_store ?_) | (refine wl_build ?_) | (refine wl_slice ?_) | (refine wl_append (he := eltSp) ?_; intro v' w' ho hg hb; have hs := hg.size; (try simp at hs)) | (refine wl_append ?_; intro v' w' ho hg hb; have hs := hg.size; (try simp at hs); (try rw [ptCs_end] at ho); (try rw [ints_end] at ho); (try simp only [Nat.zero_add, Nat.reduceAdd, List.nil_append, List.cons_append] at ho)) | (go_at_call 35; (with_reducible refine (HC.out).mono ?_); rintro e w2 ⟨⟨rfl, hsv, hrm, hpt⟩⟩; have hs := hsv.size; have HSV := Lib.hid hsv; have HRM := Lib.hid hrm; have HPT := Lib.hid hpt; clear hsv hrm hpt))
      have ha : (T.getD i r0).1 = a := by rw [HTt.out]
      have hca : (T.getD i r0).2.1 = ca := by rw [HTt.out]
      have hll : (T.getD i r0).2.2 = l := by rw [HTt.out]
      have hiT : i < T.length := by rw [HM.out]; exact hlt
      have hlq : (T.getD i r0).2.2.length = l.length := by rw [hll]
      go_roundw
      case rel =>
        refine ⟨i + 1, by omega, by go_num, ret_num (by rw [HQ.out]; have := HKK.out; show ((K + 3 * l.length : Nat) : Int) = ((101 + 3 * (sumT T i + l.length) : Nat) : Int); omega), Lib.hid (SaveT.step hiT HS.out (by rw [ha]; exact HSV.out)), Lib.hid ?_, Lib.hid ?_⟩
        · refine TabM.save HT0.out (SaveT.step hiT HS.out (by rw [ha]; exact HSV.out)) (fun j hj => ?_)
          by_cases e : j = i
          · subst e; rw [ha, hca]; exact HRM.out
          · have hr := (HT.out.room j hj).2
            exact hr.blk2 (HSV.out.block _ hr.lt2 (by rw [← ha]; exact HT0.out.ne j i hj hiT e))
        · intro j hj
          by_cases e : j = i
          · subst e; rw [HKK.out, ha, hlq]; exact ⟨HPT.out⟩
          · have hp := HK.out j (by omega)
            have hjT : j < T.length := by rw [HM.out]; omega
            exact PtsK.saveP ⟨HSV.out⟩ (by rw [← ha]; exact HT0.out.ne j i hjT hiT e) hp
      case measure => (simp [intOf]; try omega)
    · obtain rfl : m = i := by omega
      go_wp2_with (first | (refine wl_loadJ ?_) | (refine wl_load ?_) | (refine wl_loadM ?_) | (refine wl_storeJ ?_) | (refine wl_mapNewP ?_) | (refine wl_mapUpdP (L := ?_) ?_ ?_ ?_ ?_ (ho := .inl rfl); rotate_left 2; exact findGomP; assumption; assumption; intro Wm hMm hTm; have hs := hTm.out.1; (try simp at hs); (try have hOm := OwnK.turnP hTm findGomP findOwn); (try have hVm := LowK.turnP hTm (by assumption) findLow)) | (refine wl_fill1 ?_) | (refine wl_fill2 ?_) | (refine wl_storeM ?_) | (refine wl_makeM ?_; intro gm W' hgm hl hT; have hs := hl.out.size; (try simp at hs)) | (refine wl_store (h1 := mC_one _) ?_) | (refine wl_sliceM ?_) | (refine wl_append (he := eltMp) (h1 := mC_one _) ?_; intro v' w' ho hg hb; have hs := hg.size; (try simp at hs); rw [mCs_snoc] at ho; (try obtain ⟨gz, cz, rfl, hzb, hzl, -⟩ := OwnK.maps ho (by simp) (by omega))) | (refine wl_mapLook true ?_ (hM := findGom) (hv := by (first | exact decide_eq_true (by assumption)))) | (refine wl_mapLook false ?_ (hM := findGom) (hv := by (first | exact decide_eq_false (by assumption)))) | (refine wl_store ?_) | (refine wl_build ?_) | (refine wl_slice ?_) | (refine wl_append (he := eltSp) ?_; intro v' w' ho hg hb; have hs := hg.size; (try simp at hs)) | (refine wl_append ?_; intro v' w' ho hg hb; have hs := hg.size; (try simp at hs); (try rw [ptCs_end] at ho); (try rw [ints_end] at ho); (try simp only [Nat.zero_add, Nat.reduceAdd, List.nil_append, List.cons_append] at ho)))
      (apply ret_one Try.results18; (conv => lhs; whnf); exact rfl)
      rw [HMM.out]
      exact ⟨rfl, HS.out, HT.out, HK.out⟩
set_option maxRecDepth 20000 in
set_option maxHeartbeats 8000000 in
theorem heldSS_K (b : Option Addr) (m c : Nat) (T : List Row3) (w : World) (hm : T.length = m) (m1 : m ≤ 183) (hlen : ∀ j, j < T.length → (T.getD j r0).2.2.length ≤ 183) (hT : TabM w b T) (hK : MkdT w T m) {M : Int} (hM : ((101 + 3 * sumT T m : Nat) : Int) = M) :
    Calls Try.prog 19 #[.slice b m c, .int .i64 101] w (Ret w (.int .i64 M)) := by
  have HM := Lib.hid hm
  have HL := Lib.hid hlen
  have HSL := Lib.hid (fun i (hi : i ≤ m) => sumT_le hlen i (by omega))
  have HMM := Lib.hid hM
  have HT0 := Lib.hid hT
  have HK := Lib.hid hK
  clear hm hlen hM hT hK
  go_enter Try.func19, Try.ntmps19
  go_wp2_with (first | (refine wl_loadJ ?_) | (refine wl_load ?_) | (refine wl_loadM ?_) | (refine wl_storeJ ?_) | (refine wl_mapNewP ?_) | (refine wl_mapUpdP (L := ?_) ?_ ?_ ?_ ?_ (ho := .inl rfl); rotate_left 2; exact findGomP; assumption; assumption; intro Wm hMm hTm; have hs := hTm.out.1; (try simp at hs); (try have hOm := OwnK.turnP hTm findGomP findOwn); (try have hVm := LowK.turnP hTm (by assumption) findLow)) | (refine wl_fill1 ?_) | (refine wl_fill2 ?_) | (refine wl_storeM ?_) | (refine wl_makeM ?_; intro gm W' hgm hl hT; have hs := hl.out.size; (try simp at hs)) | (refine wl_store (h1 := mC_one _) ?_) | (refine wl_sliceM ?_) | (refine wl_append (he := eltMp) (h1 := mC_one _) ?_; intro v' w' ho hg hb; have hs := hg.size; (try simp at hs); rw [mCs_snoc] at ho; (try obtain ⟨gz, cz, rfl, hzb, hzl, -⟩ := OwnK.maps ho (by simp) (by omega))) | (refine wl_mapLook true ?_ (hM := findGom) (hv := by (first | exact decide_eq_true (by assumption)))) | (refine wl_mapLook false ?_ (hM := findGom) (hv := by (first | exact decide_eq_false (by assumption)))) | (refine wl_store ?_) | (refine wl_build ?_) | (refine wl_slice ?_) | (refine wl_append (he := eltSp) ?_; intro v' w' ho hg hb; have hs := hg.size; (try simp at hs)) | (refine wl_append ?_; intro v' w' ho hg hb; have hs := hg.size; (try simp at hs); (try rw [ptCs_end] at ho); (try rw [ints_end] at ho); (try simp only [Nat.zero_add, Nat.reduceAdd, List.nil_append, List.cons_append] at ho)))
  go_loopw [1, 5] (fun q iv wr => ∃ i : Nat, i ≤ m ∧ iv = .int .i64 (i : Int) ∧ q = .int .i64 ((101 + 3 * sumT T i : Nat) : Int) ∧ LowK w wr) (fun _ iv wr => m - (intOf iv).toNat)
  case atStart => exact ⟨0, Nat.zero_le _, rfl, rfl, LowK.refl _⟩
  case round =>
    obtain ⟨i, hi, rfl, rfl, hV⟩ := hrel
    have hsl := HSL.out i hi
    by_cases hlt : i < m
    · obtain ⟨g, rfl, hg, hne, hc⟩ := (HT0.out.link (LowK.lnk hV)).hdr (by rw [HM.out]; omega)
      have k1 := hc i (by rw [HM.out]; exact hlt)
      have hl := HL.out i (by rw [HM.out]; exact hlt)
      have HC := Lib.hid (heldPointS_any (T.getD i r0).1 (T.getD i r0).2.2.length (T.getD i r0).2.1 (101 + 3 * sumT T i) wr (by omega) (by omega) ((HK.out i hlt).link (LowK.lnk hV)).out)
      have HQ : Hid (sumT T (i + 1) = sumT T i + (T.getD i r0).2.2.length) := Lib.hid rfl
      clear hc hne hg hl
      obtain ⟨t, ht⟩ : ∃ t, T.getD i r0 = t := ⟨_, rfl⟩
      obtain ⟨K, hK⟩ : ∃ K, 101 + 3 * sumT T i = K := ⟨_, rfl⟩
      rw [ht] at k1 HC HQ
      rw [hK] at HC ⊢
      have HKK := Lib.hid hK
      clear ht hK
      obtain ⟨a, ca, l⟩ := t
      replace k1 : CellK wr g i (.slice (some ⟨a, 0, none⟩) l.length ca) := k1
      replace HC : Hid (Calls Try.prog 36 #[.slice (some ⟨a, 0, none⟩) l.length ca, .int .i64 (K : Int)] wr (Ret wr (.int .i64 ((K + 3 * l.length : Nat) : Int)))) := HC
      have hneg : ¬ ((K + 3 * l.length : Nat) : Int) < 0 := by omega
      go_wp2_with (first | (refine wl_loadJ ?_) | (refine wl_load ?_) | (refine wl_loadM ?_) | (refine wl_storeJ ?_) | (refine wl_mapNewP ?_) | (refine wl_mapUpdP (L := ?_) ?_ ?_ ?_ ?_ (ho := .inl rfl); rotate_left 2; exact findGomP; assumption; assumption; intro Wm hMm hTm; have hs := hTm.out.1; (try simp at hs); (try have hOm := OwnK.turnP hTm findGomP findOwn); (try have hVm := LowK.turnP hTm (by assumption) findLow)) | (refine wl_fill1 ?_) | (refine wl_fill2 ?_) | (refine wl_storeM ?_) | (refine wl_makeM ?_; intro gm W' hgm hl hT; have hs := hl.out.size; (try simp at hs)) | (refine wl_store (h1 := mC_one _) ?_) | (refine wl_sliceM ?_) | (refine wl_append (he := eltMp) (h1 := mC_one _) ?_; intro v' w' ho hg hb; have hs := hg.size; (try simp at hs); rw [mCs_snoc] at ho; (try obtain ⟨gz, cz, rfl, hzb, hzl, -⟩ := OwnK.maps ho (by simp) (by omega))) | (refine wl_mapLook true ?_ (hM := findGom) (hv := by (first | exact decide_eq_true (by assumption)))) | (refine wl_mapLook false ?_ (hM := findGom) (hv := by (first | exact decide_eq_false (by assumption)))) | (refine wl_store ?_) | (refine wl_build ?_) | (refine wl_slice ?_) | (refine wl_append (he := eltSp) ?_; intro v' w' ho hg hb; have hs := hg.size; (try simp at hs)) | (refine wl_append ?_; intro v' w' ho hg hb; have hs := hg.size; (try simp at hs); (try rw [ptCs_end] at ho); (try rw [ints_end] at ho); (try simp only [Nat.zero_add, Nat.reduceAdd, List.nil_append, List.cons_append] at ho)) | (go_at_call 36; (with_reducible refine (HC.out).mono ?_); rintro e w' ⟨rfl, hb⟩; have hl := Link.mk hb; have hs := hb.size; (try simp at hs); clear hb))
      go_roundw
      case rel => exact ⟨i + 1, by omega, by go_num, ret_num (by rw [HQ.out]; have := HKK.out; show ((K + 3 * l.length : Nat) : Int) = ((101 + 3 * (sumT T i + l.length) : Nat) : Int); omega), findLow⟩
      case measure => (simp [intOf]; try omega)
    · obtain rfl : m = i := by omega
      go_wp2_with (first | (refine wl_loadJ ?_) | (refine wl_load ?_) | (refine wl_loadM ?_) | (refine wl_storeJ ?_) | (refine wl_mapNewP ?_) | (refine wl_mapUpdP (L := ?_) ?_ ?_ ?_ ?_ (ho := .inl rfl); rotate_left 2; exact findGomP; assumption; assumption; intro Wm hMm hTm; have hs := hTm.out.1; (try simp at hs); (try have hOm := OwnK.turnP hTm findGomP findOwn); (try have hVm := LowK.turnP hTm (by assumption) findLow)) | (refine wl_fill1 ?_) | (refine wl_fill2 ?_) | (refine wl_storeM ?_) | (refine wl_makeM ?_; intro gm W' hgm hl hT; have hs := hl.out.size; (try simp at hs)) | (refine wl_store (h1 := mC_one _) ?_) | (refine wl_sliceM ?_) | (refine wl_append (he := eltMp) (h1 := mC_one _) ?_; intro v' w' ho hg hb; have hs := hg.size; (try simp at hs); rw [mCs_snoc] at ho; (try obtain ⟨gz, cz, rfl, hzb, hzl, -⟩ := OwnK.maps ho (by simp) (by omega))) | (refine wl_mapLook true ?_ (hM := findGom) (hv := by (first | exact decide_eq_true (by assumption)))) | (refine wl_mapLook false ?_ (hM := findGom) (hv := by (first | exact decide_eq_false (by assumption)))) | (refine wl_store ?_) | (refine wl_build ?_) | (refine wl_slice ?_) | (refine wl_append (he := eltSp) ?_; intro v' w' ho hg hb; have hs := hg.size; (try simp at hs)) | (refine wl_append ?_; intro v' w' ho hg hb; have hs := hg.size; (try simp at hs); (try rw [ptCs_end] at ho); (try rw [ints_end] at ho); (try simp only [Nat.zero_add, Nat.reduceAdd, List.nil_append, List.cons_append] at ho)))
      (apply ret_one Try.results19; (conv => lhs; whnf); exact rfl)
      rw [HMM.out]
      exact ret_ret rfl findLow
set_option maxRecDepth 20000 in
set_option maxHeartbeats 8000000 in
theorem markMapS_K (b : Option Addr) (k c : Nat) (q : Int) (w : World) (hk : k ≤ 1000000) : Calls Try.prog 17 #[.slice b k c, .int .i64 q] w (Ret w (.int .i64 q)) := by
  go_enter Try.func17, Try.ntmps17
  go_wp2_with (first | (refine wl_loadJ ?_) | (refine wl_load ?_) | (refine wl_loadM ?_) | (refine wl_storeJ ?_) | (refine wl_mapNewP ?_) | (refine wl_mapUpdP (L := ?_) ?_ ?_ ?_ ?_ (ho := .inl rfl); rotate_left 2; exact findGomP; assumption; assumption; intro Wm hMm hTm; have hs := hTm.out.1; (try simp at hs); (try have hOm := OwnK.turnP hTm findGomP findOwn); (try have hVm := LowK.turnP hTm (by assumption) findLow)) | (refine wl_fill1 ?_) | (refine wl_fill2 ?_) | (refine wl_storeM ?_) | (refine wl_makeM ?_; intro gm W' hgm hl hT; have hs := hl.out.size; (try simp at hs)) | (refine wl_store (h1 := mC_one _) ?_) | (refine wl_sliceM ?_) | (refine wl_append (he := eltMp) (h1 := mC_one _) ?_; intro v' w' ho hg hb; have hs := hg.size; (try simp at hs); rw [mCs_snoc] at ho; (try obtain ⟨gz, cz, rfl, hzb, hzl, -⟩ := OwnK.maps ho (by simp) (by omega))) | (refine wl_mapLook true ?_ (hM := findGom) (hv := by (first | exact decide_eq_true (by assumption)))) | (refine wl_mapLook false ?_ (hM := findGom) (hv := by (first | exact decide_eq_false (by assumption)))) | (refine wl_store ?_) | (refine wl_build ?_) | (refine wl_slice ?_) | (refine wl_append (he := eltSp) ?_; intro v' w' ho hg hb; have hs := hg.size; (try simp at hs)) | (refine wl_append ?_; intro v' w' ho hg hb; have hs := hg.size; (try simp at hs); (try rw [ptCs_end] at ho); (try rw [ints_end] at ho); (try simp only [Nat.zero_add, Nat.reduceAdd, List.nil_append, List.cons_append] at ho)))
  go_loopw [5] (fun iv wr => ∃ i : Nat, i ≤ k ∧ iv = .int .i64 (i : Int) ∧ LowK w wr) (fun iv wr => k - (intOf iv).toNat)
  case atStart => exact ⟨0, Nat.zero_le _, rfl, LowK.refl _⟩
  case round =>
    obtain ⟨i, hi, rfl, hV⟩ := hrel
    by_cases hlt : i < k
    · go_wp2_with (first | (refine wl_loadJ ?_) | (refine wl_load ?_) | (refine wl_loadM ?_) | (refine wl_storeJ ?_) | (refine wl_mapNewP ?_) | (refine wl_mapUpdP (L := ?_) ?_ ?_ ?_ ?_ (ho := .inl rfl); rotate_left 2; exact findGomP; assumption; assumption; intro Wm hMm hTm; have hs := hTm.out.1; (try simp at hs); (try have hOm := OwnK.turnP hTm findGomP findOwn); (try have hVm := LowK.turnP hTm (by assumption) findLow)) | (refine wl_fill1 ?_) | (refine wl_fill2 ?_) | (refine wl_storeM ?_) | (refine wl_makeM ?_; intro gm W' hgm hl hT; have hs := hl.out.size; (try simp at hs)) | (refine wl_store (h1 := mC_one _) ?_) | (refine wl_sliceM ?_) | (refine wl_append (he := eltMp) (h1 := mC_one _) ?_; intro v' w' ho hg hb; have hs := hg.size; (try simp at hs); rw [mCs_snoc] at ho; (try obtain ⟨gz, cz, rfl, hzb, hzl, -⟩ := OwnK.maps ho (by simp) (by omega))) | (refine wl_mapLook true ?_ (hM := findGom) (hv := by (first | exact decide_eq_true (by assumption)))) | (refine wl_mapLook false ?_ (hM := findGom) (hv := by (first | exact decide_eq_false (by assumption)))) | (refine wl_store ?_) | (refine wl_build ?_) | (refine wl_slice ?_) | (refine wl_append (he := eltSp) ?_; intro v' w' ho hg hb; have hs := hg.size; (try simp at hs)) | (refine wl_append ?_; intro v' w' ho hg hb; have hs := hg.size; (try simp at hs); (try rw [ptCs_end] at ho); (try rw [ints_end] at ho); (try simp only [Nat.zero_add, Nat.reduceAdd, List.nil_append, List.cons_append] at ho)))
      go_roundw
      case rel => exact ⟨i + 1, by omega, by go_num, findLow⟩
      case measure => (simp [intOf]; try omega)
    · obtain rfl : k = i := by omega
      go_wp2_with (first | (refine wl_loadJ ?_) | (refine wl_load ?_) | (refine wl_loadM ?_) | (refine wl_storeJ ?_) | (refine wl_mapNewP ?_) | (refine wl_mapUpdP (L := ?_) ?_ ?_ ?_ ?_ (ho := .inl rfl); rotate_left 2; exact findGomP; assumption; assumption; intro Wm hMm hTm; have hs := hTm.out.1; (try simp at hs); (try have hOm := OwnK.turnP hTm findGomP findOwn); (try have hVm := LowK.turnP hTm (by assumption) findLow)) | (refine wl_fill1 ?_) | (refine wl_fill2 ?_) | (refine wl_storeM ?_) | (refine wl_makeM ?_; intro gm W' hgm hl hT; have hs := hl.out.size; (try simp at hs)) | (refine wl_store (h1 := mC_one _) ?_) | (refine wl_sliceM ?_) | (refine wl_append (he := eltMp) (h1 := mC_one _) ?_; intro v' w' ho hg hb; have hs := hg.size; (try simp at hs); rw [mCs_snoc] at ho; (try obtain ⟨gz, cz, rfl, hzb, hzl, -⟩ := OwnK.maps ho (by simp) (by omega))) | (refine wl_mapLook true ?_ (hM := findGom) (hv := by (first | exact decide_eq_true (by assumption)))) | (refine wl_mapLook false ?_ (hM := findGom) (hv := by (first | exact decide_eq_false (by assumption)))) | (refine wl_store ?_) | (refine wl_build ?_) | (refine wl_slice ?_) | (refine wl_append (he := eltSp) ?_; intro v' w' ho hg hb; have hs := hg.size; (try simp at hs)) | (refine wl_append ?_; intro v' w' ho hg hb; have hs := hg.size; (try simp at hs); (try rw [ptCs_end] at ho); (try rw [ints_end] at ho); (try simp only [Nat.zero_add, Nat.reduceAdd, List.nil_append, List.cons_append] at ho)))
      (apply ret_one Try.results17; (conv => lhs; whnf); exact rfl)
      exact ret_ret rfl findLow
end Go.Proofs.Ytoagfpdicpcjnaa
/- The law FnExactOrbitsOf: walked, from what the two sides do. (Printed by genod4.py, a program of this session.) -- maps -/
namespace Go.Proofs.Ytoagfpdicpcjnaa
open Go.RowKit
set_option linter.unusedVariables false
set_option linter.unusedSimpArgs false
/-- What each side hands back. -/
structure TabD (w : World) (Ls : List (List Pt)) (m : Nat) (cd : Int) (e : Ending) (w' : World) : Prop where
  out : ∃ b c T, e = .returned (.tuple #[.slice b m c, .int .i64 cd]) ∧ T.length = m ∧ T.map (·.2.2) = Ls ∧ HdrK w' b T ∧ RowsP w' T ∧ TabM w' b T ∧ (∀ j, j < T.length → w.heap.size ≤ (T.getD j r0).1) ∧ LowK w w'
theorem TabC.d {w w' : World} {Ls : List (List Pt)} {cd : Int} {e : Ending} {m : Nat} (hm : Ls.length = m) (h : TabC w Ls cd e w') : TabD w Ls m cd e w' := by
  obtain ⟨b, c, T, rfl, hTL, hT, hO, hL⟩ := h.out
  have hTm : T.length = m := by rw [← hm, ← hTL, List.length_map]
  refine ⟨b, c, T, by rw [← hTm], hTm, hTL, HdrK.of hO, RowsP.of hT, TabM.of hO hT, fun j hj => ?_, hL⟩
  exact (hT.out.1 _ (getT_mem hj)).2.base _ rfl
theorem row_len {T : List Row3} {Ls : List (List Pt)} {B : Nat} (hT : T.map (·.2.2) = Ls) (h : ∀ l ∈ Ls, l.length ≤ B) : ∀ j, j < T.length → (T.getD j r0).2.2.length ≤ B := fun j hj => h _ (by rw [← hT]; exact List.mem_map_of_mem (getT_mem hj))
set_option maxHeartbeats 4000000 in
theorem FnExactOrbitsOf_big (p : Int) (b : Option Addr) (k cap : Nat) (w : World) (hk : 1000000 < k) (hk2 : k ≤ 9223372036854775807) :
    Calls Try.prog 5 #[.int .i64 p, .slice b k cap] w (Ret w (.bool true)) := by
  have HZ := Lib.hid (fun (W : World) => szMapS_any b k cap 1000000 W (by omega) hk2)
  rw [if_pos (by omega)] at HZ
  go_enter Try.func5, Try.ntmps5
  go_wp2_with (go_at_call 6; refine (HZ.out _).mono ?_; rintro e w' ⟨rfl, rfl⟩)
  go_ret
  exact ⟨rfl, Below.refl _ _⟩
set_option pp.deepTerms false
set_option pp.deepTerms.threshold 10
set_option maxRecDepth 20000 in
set_option maxHeartbeats 8000000 in
theorem FnExactOrbitsOf_pos (p : Int) (b : Option Addr) (k cap : Nat) (l : List M9) (w : World) (hl : l.length = k) (hk : k ≤ 1000000) (hc : ListM w b k l) (h0 : 0 < k) (Ls : List (List Pt)) (m : Nat) (cd : Int) (m1 : m ≤ 183) (hlen : ∀ l ∈ Ls, l.length ≤ 183)
    (HS0 : ∀ (W : World) (b : Option Addr) (c : Nat), ListM W b k l → Calls Try.prog 14 #[.int .i64 p, .slice b k c] W (TabD W Ls m cd)) (HI1 : ∀ (W : World) (b : Option Addr) (c : Nat), ListM W b k l → Calls Try.prog 15 #[.int .i64 p, .slice b k c] W (TabD W Ls m cd)) :
    Calls Try.prog 5 #[.int .i64 p, .slice b k cap] w (Ret w (.bool true)) := by
  have hz1 : ¬ (1000000 - (k : Int)) < 0 := by omega
  have HS := Lib.hid HS0
  have HI := Lib.hid HI1
  have HL := Lib.hid hl
  have H0 := Lib.hid h0
  have HLN := Lib.hid hlen
  have HLEN := Lib.hid (fun l hl => Nat.le_trans (hlen l hl) (show (183 : Nat) ≤ 1000 by decide))
  have hz : ¬ (1000000 : Int) < (k : Int) := by omega
  have tok1 : True := trivial
  clear hl HS0 HI1 h0 hlen
  go_enter Try.func5, Try.ntmps5
  go_wp2_with (first
    | (go_at_call 6; (with_reducible refine (szM_K _ k _ _ hk).mono ?_); rintro e w' ⟨rfl, rfl⟩)
    | (go_at_call 8; (with_reducible refine (copyM_K b k cap false l _ hk (.inl rfl) (hc.link (LowK.lnk (findLow (w := w))))).mono ?_); rintro e w' ⟨g, rfl, hg1, hg2, hR, hI, hl'⟩; have hs := hl'.out.size)
    | (go_at_call 8; (with_reducible refine (copyM_K b k cap true l _ hk (.inr H0.out) (hc.link (LowK.lnk (findLow (w := w))))).mono ?_); rintro e w' ⟨g, rfl, hg1, hg2, hR, hI, hl'⟩; have hs := hl'.out.size)
    | (go_at_call 14; (with_reducible refine (HS.out _ _ _ (ListM.at HL.out fMp)).mono ?_); rintro e Ws ⟨b0, c0, T0, rfl, hm0, hL0, hH0, hR0, -, -, hb0⟩; have hl0 := LowK.lnk hb0; have hs0 := hb0.size; have HM0 := Lib.hid hm0; have HL0 := Lib.hid hL0; clear hm0 hL0 hb0)
    | (have _t := tok1; go_at_call 15; (with_reducible refine (HI.out _ _ _ (ListM.at HL.out fMp)).mono ?_); rintro e W1 ⟨b1, c1, T1, rfl, hm1, hL1, hH1, hR1, hT1, hbs1, hb1⟩; have hl1 := LowK.lnk hb1; have hs1 := hb1.size; have hge : ∀ j, j < T1.length → Ws.heap.size ≤ (T1.getD j r0).1 := (fun j hj => by have := hbs1 j hj; omega); have HGE := Lib.hid hge; have HM1 := Lib.hid hm1; have HL1 := Lib.hid hL1; have HT1 := Lib.hid hT1; have HH1 := Lib.hid hH1; have HR1 := Lib.hid hR1; clear tok1 hge hbs1 hm1 hL1 hb1 hT1 hH1 hR1)
    | (go_at_call 15; (with_reducible refine (HI.out _ _ _ (ListM.at HL.out fMp)).mono ?_); rintro e W2 ⟨b2, c2, T2, rfl, hm2, hL2, hH2, hR2, -, -, hb2⟩; have hl2 := LowK.lnk hb2; have hs2 := hb2.size; have HM2 := Lib.hid hm2; have HL2 := Lib.hid hL2; clear hm2 hL2 hb2)
    | (go_at_call 16; (with_reducible refine (eqSS_K b1 b0 m c1 c0 T1 T0 Ls _ HM1.out HM0.out HL1.out HL0.out m1 HLEN.out (HH1.out.link (LowK.lnk (findLow (w := W1)))) (hH0.link (LowK.lnk (findLow (w := Ws)))) (HR1.out.link (LowK.lnk (findLow (w := W1)))) (hR0.link (LowK.lnk (findLow (w := Ws))))).mono ?_); rintro e w' ⟨rfl, hb⟩; have hl' := Link.mk hb; have hs := hb.size; clear hb)
    | (go_at_call 16; (with_reducible refine (eqSS_K b2 b0 m c2 c0 T2 T0 Ls _ HM2.out HM0.out HL2.out HL0.out m1 HLEN.out (hH2.link (LowK.lnk (findLow (w := W2)))) (hH0.link (LowK.lnk (findLow (w := Ws)))) (hR2.link (LowK.lnk (findLow (w := W2)))) (hR0.link (LowK.lnk (findLow (w := Ws))))).mono ?_); rintro e w' ⟨rfl, hb⟩; have hl' := Link.mk hb; have hs := hb.size; clear hb)
    | (go_at_call 10; (with_reducible refine (intactM_K _ _ k l _ hk fMp fMp).mono ?_); rintro e w' ⟨rfl, hb⟩; have hl' := Link.mk hb; have hs := hb.size; clear hb)
    | (go_at_call 17; (with_reducible refine (markMapS_K _ k _ 101 _ hk).mono ?_); rintro e w' ⟨rfl, hb⟩; have hl' := Link.mk hb; have hs := hb.size; clear hb)
    | (go_at_call 18; (with_reducible refine (markSS_K b1 m c1 T1 _ HM1.out m1 (row_len HL1.out HLN.out) (HT1.out.link (LowK.lnk (findLow (w := W1)))) rfl).mono ?_); rintro e Wm ⟨rfl, hsv, hTm, hKm⟩; have hLs := SaveT.low hsv (findLow (w := Ws)) HGE.out; have hLw := SaveT.low hsv (findLow (w := w)) (fun j hj => Nat.le_trans (by omega) (HGE.out j hj)); have HTM := Lib.hid hTm; have HKM := Lib.hid hKm; clear hTm hKm hsv)
    | (go_at_call 19; (with_reducible refine (heldSS_K b1 m c1 T1 _ HM1.out m1 (row_len HL1.out HLN.out) (HTM.out.link (LowK.lnk (findLow (w := Wm)))) (HKM.out.link (LowK.lnk (findLow (w := Wm)))) rfl).mono ?_); rintro e w' ⟨rfl, hb⟩; have hl' := Link.mk hb; have hs := hb.size; clear hb))
  go_ret
  exact ⟨rfl, LowK.out findLow⟩
set_option pp.deepTerms false
set_option pp.deepTerms.threshold 10
set_option maxRecDepth 20000 in
set_option maxHeartbeats 8000000 in
theorem FnExactOrbitsOf_zero (p : Int) (b : Option Addr) (k cap : Nat) (l : List M9) (w : World) (hl : l.length = k) (hk : k ≤ 1000000) (hc : ListM w b k l) (h0 : k = 0) (Ls : List (List Pt)) (m : Nat) (cd : Int) (m1 : m ≤ 183) (hlen : ∀ l ∈ Ls, l.length ≤ 183)
    (HS0 : ∀ (W : World) (b : Option Addr) (c : Nat), ListM W b k l → Calls Try.prog 14 #[.int .i64 p, .slice b k c] W (TabD W Ls m cd)) (HI1 : ∀ (W : World) (b : Option Addr) (c : Nat), ListM W b k l → Calls Try.prog 15 #[.int .i64 p, .slice b k c] W (TabD W Ls m cd)) :
    Calls Try.prog 5 #[.int .i64 p, .slice b k cap] w (Ret w (.bool true)) := by
  have hz1 : ¬ (1000000 - (k : Int)) < 0 := by omega
  have HS := Lib.hid HS0
  have HI := Lib.hid HI1
  have HI0 : Hid (∀ W : World, Calls Try.prog 15 #[.int .i64 p, .slice none 0 0] W (TabD W Ls m cd)) := Lib.hid (fun W => by have := HI1 W none 0 (ListM.nil h0 hl); rw [h0] at this; exact this)
  have HL := Lib.hid hl
  have H0 := Lib.hid h0
  have HLN := Lib.hid hlen
  have HLEN := Lib.hid (fun l hl => Nat.le_trans (hlen l hl) (show (183 : Nat) ≤ 1000 by decide))
  have hz : ¬ (1000000 : Int) < (k : Int) := by omega
  have tok1 : True := trivial
  clear hl HS0 HI1 h0 hlen
  go_enter Try.func5, Try.ntmps5
  go_wp2_with (first
    | (go_at_call 6; (with_reducible refine (szM_K _ k _ _ hk).mono ?_); rintro e w' ⟨rfl, rfl⟩)
    | (go_at_call 8; (with_reducible refine (copyM_K b k cap false l _ hk (.inl rfl) (hc.link (LowK.lnk (findLow (w := w))))).mono ?_); rintro e w' ⟨g, rfl, hg1, hg2, hR, hI, hl'⟩; have hs := hl'.out.size)
    | (go_at_call 8; (with_reducible refine (toMapS_zero b k cap _ H0.out).mono ?_); rintro e w' ⟨rfl, rfl⟩)
    | (go_at_call 14; (with_reducible refine (HS.out _ _ _ (ListM.at HL.out fMp)).mono ?_); rintro e Ws ⟨b0, c0, T0, rfl, hm0, hL0, hH0, hR0, -, -, hb0⟩; have hl0 := LowK.lnk hb0; have hs0 := hb0.size; have HM0 := Lib.hid hm0; have HL0 := Lib.hid hL0; clear hm0 hL0 hb0)
    | (have _t := tok1; go_at_call 15; (with_reducible refine (HI.out _ _ _ (ListM.at HL.out fMp)).mono ?_); rintro e W1 ⟨b1, c1, T1, rfl, hm1, hL1, hH1, hR1, hT1, hbs1, hb1⟩; have hl1 := LowK.lnk hb1; have hs1 := hb1.size; have hge : ∀ j, j < T1.length → Ws.heap.size ≤ (T1.getD j r0).1 := (fun j hj => by have := hbs1 j hj; omega); have HGE := Lib.hid hge; have HM1 := Lib.hid hm1; have HL1 := Lib.hid hL1; have HT1 := Lib.hid hT1; have HH1 := Lib.hid hH1; have HR1 := Lib.hid hR1; clear tok1 hge hbs1 hm1 hL1 hb1 hT1 hH1 hR1)
    | (go_at_call 15; (with_reducible refine (HI0.out _).mono ?_); rintro e W2 ⟨b2, c2, T2, rfl, hm2, hL2, hH2, hR2, -, -, hb2⟩; have hl2 := LowK.lnk hb2; have hs2 := hb2.size; have HM2 := Lib.hid hm2; have HL2 := Lib.hid hL2; clear hm2 hL2 hb2)
    | (go_at_call 16; (with_reducible refine (eqSS_K b1 b0 m c1 c0 T1 T0 Ls _ HM1.out HM0.out HL1.out HL0.out m1 HLEN.out (HH1.out.link (LowK.lnk (findLow (w := W1)))) (hH0.link (LowK.lnk (findLow (w := Ws)))) (HR1.out.link (LowK.lnk (findLow (w := W1)))) (hR0.link (LowK.lnk (findLow (w := Ws))))).mono ?_); rintro e w' ⟨rfl, hb⟩; have hl' := Link.mk hb; have hs := hb.size; clear hb)
    | (go_at_call 16; (with_reducible refine (eqSS_K b2 b0 m c2 c0 T2 T0 Ls _ HM2.out HM0.out HL2.out HL0.out m1 HLEN.out (hH2.link (LowK.lnk (findLow (w := W2)))) (hH0.link (LowK.lnk (findLow (w := Ws)))) (hR2.link (LowK.lnk (findLow (w := W2)))) (hR0.link (LowK.lnk (findLow (w := Ws))))).mono ?_); rintro e w' ⟨rfl, hb⟩; have hl' := Link.mk hb; have hs := hb.size; clear hb)
    | (go_at_call 10; (with_reducible refine (intactM_K _ _ k l _ hk fMp fMp).mono ?_); rintro e w' ⟨rfl, hb⟩; have hl' := Link.mk hb; have hs := hb.size; clear hb)
    | (go_at_call 17; (with_reducible refine (markMapS_K _ k _ 101 _ hk).mono ?_); rintro e w' ⟨rfl, hb⟩; have hl' := Link.mk hb; have hs := hb.size; clear hb)
    | (go_at_call 18; (with_reducible refine (markSS_K b1 m c1 T1 _ HM1.out m1 (row_len HL1.out HLN.out) (HT1.out.link (LowK.lnk (findLow (w := W1)))) rfl).mono ?_); rintro e Wm ⟨rfl, hsv, hTm, hKm⟩; have hLs := SaveT.low hsv (findLow (w := Ws)) HGE.out; have hLw := SaveT.low hsv (findLow (w := w)) (fun j hj => Nat.le_trans (by omega) (HGE.out j hj)); have HTM := Lib.hid hTm; have HKM := Lib.hid hKm; clear hTm hKm hsv)
    | (go_at_call 19; (with_reducible refine (heldSS_K b1 m c1 T1 _ HM1.out m1 (row_len HL1.out HLN.out) (HTM.out.link (LowK.lnk (findLow (w := Wm)))) (HKM.out.link (LowK.lnk (findLow (w := Wm)))) rfl).mono ?_); rintro e w' ⟨rfl, hb⟩; have hl' := Link.mk hb; have hs := hb.size; clear hb))
  go_ret
  exact ⟨rfl, LowK.out findLow⟩
theorem FnExactOrbitsOf_walk (p : Int) (b : Option Addr) (k cap : Nat) (l : List M9) (w : World) (hk2 : k ≤ 9223372036854775807) (hc : ListM w b k l) :
    Calls Try.prog 5 #[.int .i64 p, .slice b k cap] w (Ret w (.bool true)) := by
  by_cases hk : k ≤ 1000000
  · have hl := hc.out.1
    obtain ⟨Ls, cd, h183, hlen, HS, HI⟩ : ∃ (Ls : List (List Pt)) (cd : Int), Ls.length ≤ 183 ∧ (∀ l ∈ Ls, l.length ≤ 183) ∧ (∀ (W : World) (b : Option Addr) (c : Nat), ListM W b k l → Calls Try.prog 14 #[.int .i64 p, .slice b k c] W (TabC W Ls cd)) ∧ (∀ (W : World) (b : Option Addr) (c : Nat), ListM W b k l → Calls Try.prog 15 #[.int .i64 p, .slice b k c] W (TabC W Ls cd)) := by
      obtain ⟨cd, hcd⟩ : ∃ cd, codeML p k (oksM p l && ptsB p []) = cd := ⟨_, rfl⟩
      by_cases h0 : cd = 0
      · subst h0
        obtain ⟨hp, h8, hv⟩ := codeML_ok hcd
        rw [Bool.and_eq_true] at hv
        obtain ⟨n, rfl⟩ : ∃ n : Nat, p = (n : Int) := ⟨p.toNat, by have := (prB_bd hp).1; omega⟩
        have hM : MsOk n l := ⟨hp, fun m hm => List.all_eq_true.1 hv.1 m hm⟩
        have h13 := hM.n13.2
        refine ⟨tabL (classP n l) (allP n) (allP n).length (allP n).length, 0, Nat.le_trans (tabL_len _ _ _ _) (allP_len183 h13), fun q hq => ?_, fun W b c h => ?_, fun W b c h => OrbitsOf_impl_core n b k c l W hM h8 h hcd rfl⟩
        · obtain ⟨c, -, rfl⟩ := tabL_mem hq
          exact Nat.le_trans (filtP_len _ _ _ _) (allP_len183 h13)
        · exact (OrbitsOf_spec_core n _ (allP n) b k c l W hM h8 h hcd rfl rfl).mono fun e w' h => ⟨h⟩
      · exact ⟨[], cd, Nat.zero_le _, fun q hq => absurd hq (by simp), fun W b c h => OrbitsOf_spec_code p b k c l W hk h hcd h0, fun W b c h => OrbitsOf_impl_code p b k c l W hk h hcd h0⟩
    have HS' := fun (W : World) (b : Option Addr) (c : Nat) (h : ListM W b k l) => (HS W b c h).mono fun e w' h => TabC.d rfl h
    have HI' := fun (W : World) (b : Option Addr) (c : Nat) (h : ListM W b k l) => (HI W b c h).mono fun e w' h => TabC.d rfl h
    rcases Nat.eq_zero_or_pos k with h0 | h0
    · exact FnExactOrbitsOf_zero p b k cap l w hl hk hc h0 Ls _ cd h183 hlen HS' HI'
    · exact FnExactOrbitsOf_pos p b k cap l w hl hk hc h0 Ls _ cd h183 hlen HS' HI'
  · exact FnExactOrbitsOf_big p b k cap w (by omega) hk2
end Go.Proofs.Ytoagfpdicpcjnaa
