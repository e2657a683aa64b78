/- Texts of the claim, in build order: OC4, OD1, RegT, G4, S7, T4, T5, LP1. No condition. -/
import Derived.Test.YtoagfpdicpcjnaaZOrbitsOf3
/- Contracts: the program's AreInOneOrbit. -- maps -- gomaps -- slice2 -- classes -/
namespace Go.Proofs.Ytoagfpdicpcjnaa
open Go.RowKit
set_option linter.unusedVariables false
set_option linter.unusedSimpArgs false
theorem tabL_mem {cls : Nat → Nat} {L l : _} {N : Nat} : ∀ {i}, l ∈ tabL cls L N i → ∃ c, c < i ∧ l = filtP cls L c N
  | 0, h => by simp [tabL] at h
  | i + 1, h => by
    by_cases hp : 0 < (filtP cls L i N).length
    · rw [tabL_yes rfl hp] at h
      rcases List.mem_append.1 h with h | h
      · obtain ⟨c, h1, h2⟩ := tabL_mem h
        exact ⟨c, by omega, h2⟩
      · exact ⟨i, by omega, List.mem_singleton.1 h⟩
    · rw [tabL_no rfl hp] at h
      obtain ⟨c, h1, h2⟩ := tabL_mem h
      exact ⟨c, by omega, h2⟩
theorem tabL_has {cls : Nat → Nat} {L : List Pt} {N c : Nat} (h : 0 < (filtP cls L c N).length) : ∀ {i}, c < i → filtP cls L c N ∈ tabL cls L N i
  | 0, hc => absurd hc (Nat.not_lt_zero _)
  | i + 1, hc => by
    by_cases hp : 0 < (filtP cls L i N).length
    · rw [tabL_yes rfl hp]
      by_cases e : c = i
      · subst e; simp
      · exact List.mem_append_left _ (tabL_has h (by omega))
    · rw [tabL_no rfl hp]
      exact tabL_has h (by
        by_cases e : c = i
        · subst e; exact absurd h hp
        · omega)
/-- In the lists of the classes a point's list is its orbit. -/
structure OrbL (Ls : List (List Pt)) (x y : Pt) (v : Bool) : Prop where
  has : ∃ l ∈ Ls, x ∈ l
  all : ∀ l ∈ Ls, x ∈ l → decide (y ∈ l) = v
theorem orb_lists {n N K : Nat} {ms : List M9} {L : List Pt} (h : MsOk n ms) (hL : allP n = L) (hN : L.length = N) {x y : Pt} (hx : x ∈ L) (hy : y ∈ L) (hK : WholeP n ms x K) {S : List Pt} (hS : seqP n ms x K = S) {v : Bool} (hv : decide (y ∈ S) = v) :
    OrbL (tabL (classP n ms) L N N) x y v := by
  have hnd : L.Nodup := by rw [← hL]; exact nodup_allP h.pr
  obtain ⟨i, hi, rfl⟩ := atP_mem hx
  obtain ⟨j, hj, rfl⟩ := atP_mem hy
  subst hL
  have hc := class_P h hi hj hK
  have uniq : ∀ {a b : Nat}, a < (allP n).length → b < (allP n).length → (allP n).getD a p0 = (allP n).getD b p0 → a = b := fun {a b} ha hb e => by
    have h1 := (place_of hnd ha rfl).2
    have h2 := (place_of hnd hb rfl).2
    rw [e] at h1; rw [h1] at h2; exact h2
  have hm : ∀ {q c : Nat}, q < (allP n).length → ((allP n).getD q p0 ∈ filtP (classP n ms) (allP n) c N ↔ classP n ms q = c) := fun {q c} hq => by
    rw [filtP_mem]
    constructor
    · rintro ⟨r, hr, h1, h2⟩
      rw [← uniq (by omega) hq h2]; exact h1
    · intro e; exact ⟨q, by omega, e, rfl⟩
  have hxm := (hm hi).2 rfl
  refine ⟨⟨_, tabL_has (List.length_pos_of_mem hxm) (Nat.lt_of_le_of_lt (classP_lab n ms i).1 (by omega)), hxm⟩, fun l hl hxl => ?_⟩
  obtain ⟨c, hcN, rfl⟩ := tabL_mem hl
  have e1 := (hm hi).1 hxl
  rw [← hv, ← hS]
  have : (allP n).getD j p0 ∈ filtP (classP n ms) (allP n) c N ↔ (allP n).getD j p0 ∈ seqP n ms ((allP n).getD i p0) K := by
    rw [hm hj, ← hc, e1]
    exact ⟨fun e => e.symm, fun e => e.symm⟩
  simp only [this]
theorem any_eqP (p : Pt) (L : List Pt) : L.any (fun b => eqP p b) = decide (p ∈ L) := by
  rw [Bool.eq_iff_iff, List.any_eq_true, decide_eq_true_iff]
  constructor
  · rintro ⟨b, hb, e⟩; rw [eqP_iff.1 e]; exact hb
  · intro h; exact ⟨p, h, eqP_iff.2 rfl⟩
theorem Contains_D {p : Pt} {g n c : Nat} {L : List Pt} (w : World) (hn : n ≤ 1000000) (hL : L.length = n) (hP : PtsK w g 0 n L) {v : Bool} (hv : decide (p ∈ L) = v) : Calls Try.prog 32 #[.slice (some ⟨g, 0, none⟩) n c, pV p] w (Ret w (.bool v)) := by
  rw [← hv, ← any_eqP]; exact ContainsP_any p.1 p.2.1 p.2.2 g n c L w hn hL hP.out
/-- The table's header, read. -/
theorem OwnK.tab {W : World} {B : Nat} {v : Value} {T : List Row3} (h : OwnK W B 51 1 v T.length (tabV T)) (hn : 0 < T.length) :
    ∃ g cap, v = .slice (some ⟨g, 0, none⟩) T.length cap ∧ ∀ j, j < T.length → CellK W g j (slV (T.getD j (0, 0, []))) := by
  rcases h.out.2 with ⟨_, h0⟩ | ⟨g, cap, cur, rfl, hb, hg, hle, _, hsz, htk⟩
  · omega
  · refine ⟨g, cap, rfl, fun j hj => ⟨?_⟩⟩
    rw [cell_of_row W g j _ _ _ hg]
    have h1 : (cur.toList.take (T.length * 1))[j]? = (tabV T)[j]? := by rw [htk]
    rw [Nat.mul_one, List.getElem?_take_of_lt hj] at h1
    rw [← Array.getElem?_toList, h1]
    simp [tabV, List.getD, hj]
theorem getT_mem {T : List Row3} {j : Nat} (h : j < T.length) : T.getD j (0, 0, []) ∈ T := by rw [List.getD_eq_getElem?_getD, List.getElem?_eq_getElem h]; exact List.getElem_mem _
theorem tab_pos {Ls : List (List Pt)} {x y : Pt} {v : Bool} {T : List Row3} (h : OrbL Ls x y v) (hT : T.map (·.2.2) = Ls) : 0 < T.length := by
  obtain ⟨l, hl, -⟩ := h.has
  have := List.length_pos_of_mem hl
  rw [← hT, List.length_map] at this
  exact this
set_option maxRecDepth 20000 in
set_option maxHeartbeats 8000000 in
theorem AreInOneOrbit_impl_code (p : Int) (b : Option Addr) (k c : Nat) (ms : List M9) (x y : Pt) (w : World) (hk : k ≤ 1000000) (hms : ListM w b k ms) {cd : Int} (hcode : codeML p k (oksM p ms && ptsB p [x, y]) = cd) (hc : ¬ cd = 0) :
    Calls Try.prog 13 #[.int .i64 p, .slice b k c, pV x, pV y] w (Ret w (.tuple #[.bool false, .int .i64 cd])) := by
  have HV := Lib.hid hcode
  clear hcode
  go_enter Try.func13, Try.ntmps13
  go_wp2_with (first | (refine wl_loadJ ?_) | (refine wl_load ?_) | (refine wl_loadM ?_) | (refine wl_storeJ ?_) | (refine wl_mapNewP ?_) | (refine wl_mapUpdP (L := ?_) ?_ ?_ ?_ ?_ (ho := .inl rfl); rotate_left 2; exact findGomP; assumption; assumption; intro Wm hMm hTm; have hs := hTm.out.1; (try simp at hs); (try have hOm := OwnK.turnP hTm findGomP findOwn); (try have hVm := LowK.turnP hTm (by assumption) findLow)) | (refine wl_fill1 ?_) | (refine wl_fill2 ?_) | (refine wl_storeM ?_) | (refine wl_makeM ?_; intro gm W' hgm hl hT; have hs := hl.out.size; (try simp at hs)) | (refine wl_store (h1 := mC_one _) ?_) | (refine wl_sliceM ?_) | (refine wl_append (he := eltMp) (h1 := mC_one _) ?_; intro v' w' ho hg hb; have hs := hg.size; (try simp at hs); rw [mCs_snoc] at ho; (try obtain ⟨gz, cz, rfl, hzb, hzl, -⟩ := OwnK.maps ho (by simp) (by omega))) | (refine wl_mapLook true ?_ (hM := findGom) (hv := by (first | exact decide_eq_true (by assumption)))) | (refine wl_mapLook false ?_ (hM := findGom) (hv := by (first | exact decide_eq_false (by assumption)))) | (refine wl_store ?_) | (refine wl_build ?_) | (refine wl_slice ?_) | (refine wl_slice2 ?_) | (refine wl_append (he := eltSp) ?_; intro v' w' ho hg hb; have hs := hg.size; (try simp at hs)) | (refine wl_append ?_; intro v' w' ho hg hb; have hs := hg.size; (try simp at hs); (try rw [ptCs_end] at ho); (try rw [ints_end] at ho); (try simp only [Nat.zero_add, Nat.reduceAdd, List.nil_append, List.cons_append] at ho)) | (go_at_call 25; (with_reducible refine (listCode_two p b k c ms _ _ x y _ hk (hms.link (LowK.lnk findLow)) (PtsK.two findRow) HV.out).mono ?_); rintro e w' ⟨rfl, hb⟩; have hl := Link.mk hb; have hs := hb.size; (try simp at hs); clear hb))
  (apply ret_two Try.results13; (conv => lhs; whnf); (conv => lhs; whnf); exact rfl)
  exact ret_ret rfl findLow
set_option maxRecDepth 20000 in
set_option maxHeartbeats 8000000 in
theorem AreInOneOrbit_impl_core (n : Nat) (b : Option Addr) (k c : Nat) (ms : List M9) (x y : Pt) (w : World) (h : MsOk n ms) (hk : k ≤ 8) (hms : ListM w b k ms) (hcode : codeML (n : Int) k (oksM (n : Int) ms && ptsB (n : Int) [x, y]) = 0) {Ls : List (List Pt)} (hLs : tabL (classP n ms) (allP n) (allP n).length (allP n).length = Ls) {v : Bool} (hv : OrbL Ls x y v) :
    Calls Try.prog 13 #[.int .i64 (n : Int), .slice b k c, pV x, pV y] w (Ret w (.tuple #[.bool v, .int .i64 0])) := by
  have HV := Lib.hid hcode
  have HO := Lib.hid (fun (w : World) (hms : ListM w b k ms) => orbits_I n _ (allP n) b k c ms w h hk hms rfl rfl (nodup_allP h.pr))
  rw [hLs] at HO
  have HD := Lib.hid hv
  have hl183 : Ls.length ≤ 183 := by rw [← hLs]; exact Nat.le_trans (tabL_len _ _ _ _) (allP_len183 h.n13.2)
  have hlen : ∀ l ∈ Ls, l.length ≤ 1000000 := fun l hl => by
    rw [← hLs] at hl
    obtain ⟨c, -, rfl⟩ := tabL_mem hl
    have := filtP_len (classP n ms) (allP n) c (allP n).length
    have := allP_len183 h.n13.2
    omega
  have HL := Lib.hid hlen
  clear hcode hv hLs hlen
  go_enter Try.func13, Try.ntmps13
  go_wp2_with (first | (refine wl_loadJ ?_) | (refine wl_load ?_) | (refine wl_loadM ?_) | (refine wl_storeJ ?_) | (refine wl_mapNewP ?_) | (refine wl_mapUpdP (L := ?_) ?_ ?_ ?_ ?_ (ho := .inl rfl); rotate_left 2; exact findGomP; assumption; assumption; intro Wm hMm hTm; have hs := hTm.out.1; (try simp at hs); (try have hOm := OwnK.turnP hTm findGomP findOwn); (try have hVm := LowK.turnP hTm (by assumption) findLow)) | (refine wl_fill1 ?_) | (refine wl_fill2 ?_) | (refine wl_storeM ?_) | (refine wl_makeM ?_; intro gm W' hgm hl hT; have hs := hl.out.size; (try simp at hs)) | (refine wl_store (h1 := mC_one _) ?_) | (refine wl_sliceM ?_) | (refine wl_append (he := eltMp) (h1 := mC_one _) ?_; intro v' w' ho hg hb; have hs := hg.size; (try simp at hs); rw [mCs_snoc] at ho; (try obtain ⟨gz, cz, rfl, hzb, hzl, -⟩ := OwnK.maps ho (by simp) (by omega))) | (refine wl_mapLook true ?_ (hM := findGom) (hv := by (first | exact decide_eq_true (by assumption)))) | (refine wl_mapLook false ?_ (hM := findGom) (hv := by (first | exact decide_eq_false (by assumption)))) | (refine wl_store ?_) | (refine wl_build ?_) | (refine wl_slice ?_) | (refine wl_slice2 ?_) | (refine wl_append (he := eltSp) ?_; intro v' w' ho hg hb; have hs := hg.size; (try simp at hs)) | (refine wl_append ?_; intro v' w' ho hg hb; have hs := hg.size; (try simp at hs); (try rw [ptCs_end] at ho); (try rw [ints_end] at ho); (try simp only [Nat.zero_add, Nat.reduceAdd, List.nil_append, List.cons_append] at ho)) | (go_at_call 25; (with_reducible refine (listCode_two n b k c ms _ _ x y _ (by omega) (hms.link (LowK.lnk findLow)) (PtsK.two findRow) HV.out).mono ?_); rintro e w' ⟨rfl, hb⟩; have hl := Link.mk hb; have hs := hb.size; (try simp at hs); clear hb) | (go_at_call 31; (with_reducible refine (HO.out _ (hms.link (LowK.lnk findLow))).mono ?_); rintro e w' ⟨v', T, rfl, hTL, hT, hO, hb⟩; have hTn := tab_pos HD.out hTL; obtain ⟨gt, ct, rfl, hC⟩ := hO.tab hTn; have hl2 := LowK.lnk hb; have hs := hb.size))
  have hx0 : RowK w' w.heap.size (pC x) 33 := findRow
  have hy0 : RowK w' (w.heap.size + 1) (pC y) 33 := findRow
  have hVw : LowK w w' := findLow
  have hTm : ∀ j, j < T.length → (T.getD j (0, 0, [])).2.2 ∈ Ls := fun j hj => by rw [← hTL]; exact List.mem_map_of_mem (getT_mem hj)
  have HTM := Lib.hid hTm
  have hT183 : T.length ≤ 183 := by have := congrArg List.length hTL; rw [List.length_map] at this; omega
  clear hl2 hs hTm hO hb
  go_loopw [26] (fun iv wr => ∃ i : Nat, i ≤ T.length ∧ iv = .int .i64 (i : Int) ∧ (∀ j, j < i → x ∉ (T.getD j (0, 0, [])).2.2) ∧ LowK w' wr) (fun iv wr => T.length - (intOf iv).toNat)
  case atStart => exact ⟨0, Nat.zero_le _, rfl, fun j hj => absurd hj (Nat.not_lt_zero _), LowK.refl _⟩
  case round =>
    obtain ⟨i, hi, rfl, hno, hV⟩ := hrel
    have hxr := hx0.link (LowK.lnk hV)
    have hyr := hy0.link (LowK.lnk hV)
    have hVr := LowK.link (LowK.lnk hV) hVw
    by_cases hlt : i < T.length
    · have c1 := (hC i hlt).link (LowK.lnk hV)
      have htk := (hT.link (LowK.lnk hV)).out.1 _ (getT_mem hlt)
      have hml := HTM.out i hlt
      obtain ⟨t, ht⟩ : ∃ t, T.getD i (0, 0, []) = t := ⟨_, rfl⟩
      rw [ht] at c1 htk hml
      have HT := Lib.hid ht
      clear ht
      obtain ⟨g, cg, l⟩ := t
      obtain ⟨hpos, hOl⟩ := htk
      obtain ⟨g2, c2, e2, -, -, hPl⟩ := OwnK.pts hOl rfl hpos
      obtain rfl : g = g2 := by injection e2 with h1; injection h1 with h1; injection h1
      clear e2 hOl
      have hll := HL.out l hml
      replace c1 : CellK wr gt i (.slice (some ⟨g, 0, none⟩) l.length cg) := c1
      replace hPl : PtsK wr g 0 l.length l := hPl
      obtain ⟨u, hu⟩ : ∃ u, decide (x ∈ l) = u := ⟨_, rfl⟩
      have HU := Lib.hid hu
      rcases u with _ | _
      · clear hu
        go_wp2_with (first | (refine wl_loadJ ?_) | (refine wl_load ?_) | (refine wl_loadM ?_) | (refine wl_storeJ ?_) | (refine wl_mapNewP ?_) | (refine wl_mapUpdP (L := ?_) ?_ ?_ ?_ ?_ (ho := .inl rfl); rotate_left 2; exact findGomP; assumption; assumption; intro Wm hMm hTm; have hs := hTm.out.1; (try simp at hs); (try have hOm := OwnK.turnP hTm findGomP findOwn); (try have hVm := LowK.turnP hTm (by assumption) findLow)) | (refine wl_fill1 ?_) | (refine wl_fill2 ?_) | (refine wl_storeM ?_) | (refine wl_makeM ?_; intro gm W' hgm hl hT; have hs := hl.out.size; (try simp at hs)) | (refine wl_store (h1 := mC_one _) ?_) | (refine wl_sliceM ?_) | (refine wl_append (he := eltMp) (h1 := mC_one _) ?_; intro v' w' ho hg hb; have hs := hg.size; (try simp at hs); rw [mCs_snoc] at ho; (try obtain ⟨gz, cz, rfl, hzb, hzl, -⟩ := OwnK.maps ho (by simp) (by omega))) | (refine wl_mapLook true ?_ (hM := findGom) (hv := by (first | exact decide_eq_true (by assumption)))) | (refine wl_mapLook false ?_ (hM := findGom) (hv := by (first | exact decide_eq_false (by assumption)))) | (refine wl_store ?_) | (refine wl_build ?_) | (refine wl_slice ?_) | (refine wl_slice2 ?_) | (refine wl_append (he := eltSp) ?_; intro v' w' ho hg hb; have hs := hg.size; (try simp at hs)) | (refine wl_append ?_; intro v' w' ho hg hb; have hs := hg.size; (try simp at hs); (try rw [ptCs_end] at ho); (try rw [ints_end] at ho); (try simp only [Nat.zero_add, Nat.reduceAdd, List.nil_append, List.cons_append] at ho)) | (go_at_call 32; (with_reducible refine (Contains_D _ hll rfl findPts HU.out).mono ?_); rintro e w' ⟨rfl, hb⟩; have hl := Link.mk hb; have hs := hb.size; (try simp at hs); clear hb))
        go_roundw
        case rel => exact ⟨i + 1, by omega, by go_num, fun j hj => by
          by_cases e : j = i
          · subst e; rw [HT.out]; exact of_decide_eq_false HU.out
          · exact hno j (by omega), findLow⟩
        case measure => (simp [intOf]; try omega)
      · have HV2 := Lib.hid (HD.out.all l hml (of_decide_eq_true hu))
        clear hu
        go_wp2_with (first | (refine wl_loadJ ?_) | (refine wl_load ?_) | (refine wl_loadM ?_) | (refine wl_storeJ ?_) | (refine wl_mapNewP ?_) | (refine wl_mapUpdP (L := ?_) ?_ ?_ ?_ ?_ (ho := .inl rfl); rotate_left 2; exact findGomP; assumption; assumption; intro Wm hMm hTm; have hs := hTm.out.1; (try simp at hs); (try have hOm := OwnK.turnP hTm findGomP findOwn); (try have hVm := LowK.turnP hTm (by assumption) findLow)) | (refine wl_fill1 ?_) | (refine wl_fill2 ?_) | (refine wl_storeM ?_) | (refine wl_makeM ?_; intro gm W' hgm hl hT; have hs := hl.out.size; (try simp at hs)) | (refine wl_store (h1 := mC_one _) ?_) | (refine wl_sliceM ?_) | (refine wl_append (he := eltMp) (h1 := mC_one _) ?_; intro v' w' ho hg hb; have hs := hg.size; (try simp at hs); rw [mCs_snoc] at ho; (try obtain ⟨gz, cz, rfl, hzb, hzl, -⟩ := OwnK.maps ho (by simp) (by omega))) | (refine wl_mapLook true ?_ (hM := findGom) (hv := by (first | exact decide_eq_true (by assumption)))) | (refine wl_mapLook false ?_ (hM := findGom) (hv := by (first | exact decide_eq_false (by assumption)))) | (refine wl_store ?_) | (refine wl_build ?_) | (refine wl_slice ?_) | (refine wl_slice2 ?_) | (refine wl_append (he := eltSp) ?_; intro v' w' ho hg hb; have hs := hg.size; (try simp at hs)) | (refine wl_append ?_; intro v' w' ho hg hb; have hs := hg.size; (try simp at hs); (try rw [ptCs_end] at ho); (try rw [ints_end] at ho); (try simp only [Nat.zero_add, Nat.reduceAdd, List.nil_append, List.cons_append] at ho)) | (go_at_call 32; (with_reducible refine (Contains_D _ hll rfl findPts (by first | exact HU.out | exact HV2.out)).mono ?_); rintro e w' ⟨rfl, hb⟩; have hl := Link.mk hb; have hs := hb.size; (try simp at hs); clear hb))
        (apply ret_two Try.results13; (conv => lhs; whnf); (conv => lhs; whnf); exact rfl)
        exact ret_ret rfl findLow
    · exfalso
      obtain ⟨l, hl, hxl⟩ := HD.out.has
      rw [← hTL] at hl
      obtain ⟨t, ht, rfl⟩ := List.mem_map.1 hl
      obtain ⟨j, hj, e⟩ := List.mem_iff_getElem.1 ht
      exact hno j (by omega) (by rw [List.getD_eq_getElem?_getD, List.getElem?_eq_getElem hj]; show x ∈ T[j].2.2; rw [e]; exact hxl)
end Go.Proofs.Ytoagfpdicpcjnaa
/- Contracts: OrbitsOf, the reference's and the program's. -- maps -- gomaps -- classes -/
namespace Go.Proofs.Ytoagfpdicpcjnaa
open Go.RowKit
set_option linter.unusedVariables false
set_option linter.unusedSimpArgs false
theorem l10Maps_none (p : Int) (b : Option Addr) (n k : Nat) (L : List M9) (w : World) (hn : n ≤ 1000000) (h : ListM w b n L) {v : Int} (hv : codeML p n (oksM p L && ptsB p []) = v) :
    Calls Try.prog 20 #[.int .i64 p, .slice b n k, .slice none 0 0] w (Ret w (.int .i64 v)) := by
  rw [← hv]; exact l10Maps_M p b n k L none 0 0 [] w hn (by decide) h (fun W _ => .inl ⟨rfl, rfl, rfl, rfl⟩)
theorem listCode_none (p : Int) (b : Option Addr) (n k : Nat) (L : List M9) (w : World) (hn : n ≤ 1000000) (h : ListM w b n L) {v : Int} (hv : codeML p n (oksM p L && ptsB p []) = v) :
    Calls Try.prog 25 #[.int .i64 p, .slice b n k, .slice none 0 0] w (Ret w (.int .i64 v)) := by
  rw [← hv]; exact listCode_M p b n k L none 0 0 [] w hn (by decide) h ⟨rfl, fun h => absurd h (Nat.lt_irrefl _)⟩
theorem ptCs_cells {W : World} {g n : Nat} {L : List Pt} (h : PtsK W g 0 n L) (hl : L.length = n) : ∀ j u, (ptCs L)[j]? = some u → W.cell? ⟨g, j, none⟩ = some u := by
  intro j u hj
  have hjl : j < (ptCs L).length := (List.getElem?_eq_some_iff.1 hj).1
  rw [ptCs_length] at hjl
  obtain ⟨a0, a1, a2⟩ := ptCs_at L (j / 3) (by omega)
  obtain ⟨c0, c1, c2⟩ := h.out (j / 3) (by omega)
  rw [Nat.zero_add] at c0 c1 c2
  have hm := Nat.mod_lt j (show 0 < 3 by decide)
  have hd := Nat.div_add_mod j 3
  rcases (show j % 3 = 0 ∨ j % 3 = 1 ∨ j % 3 = 2 by omega) with e | e | e
  · rw [show j = j / 3 * 3 by omega, a0] at hj; rw [show j = j / 3 * 3 by omega, c0]; exact hj
  · rw [show j = j / 3 * 3 + 1 by omega, a1] at hj; rw [show j = j / 3 * 3 + 1 by omega, c1]; exact hj
  · rw [show j = j / 3 * 3 + 2 by omega, a2] at hj; rw [show j = j / 3 * 3 + 2 by omega, c2]; exact hj
/-- An append of a list of points. -/
theorem wl_append_P {ops : Array Oper} {rest : List Oper} {o : Oper} {a : Act} {w : World} {Q : Exit → Act → World → Prop} {s x : Operand} {t e : TypeId} {g m c B n : Nat} {v : Value} {xs : List Value} {L : List Pt}
    (hown : OwnK w B e 3 v n xs) (hnew : PtsK w g 0 m L) (hL : L.length = m) (h63 : n + m ≤ 1000000) (hbase : B ≤ w.heap.size)
    (h : ∀ v' w', OwnK w' B e 3 v' (n + m) (xs ++ ptCs L) → Grew w v w' → (v'.ownBlock = v.ownBlock ∨ v'.ownBlock = some w.heap.size) → wpList Try.prog ops Q rest (a.put o.dst v') w')
    (hgd : o.guard = none := by exact rfl) (ho : o.op = .call { callee := .builtin .append, args := #[s, x], argTypes := #[t, t] } := by exact rfl) (he : EltK Try.prog t e 3 := by (first | exact eltPo | exact eltI64 | exact eltInt))
    (hs : a.eval s = v := by conv => lhs; whnf) (hx : a.eval x = .slice (some ⟨g, 0, none⟩) m c := by exact rfl) : wpList Try.prog ops Q (o :: rest) a w := by
  obtain ⟨hu, i, z, hi, hz, hsz, hzs, hpos, hle, hby⟩ := he.out
  refine wpList_append_own_at w hgd s x t ho B e i z 3 i.bytes hu hi hz hsz rfl hzs hpos v n xs hs hown.out ⟨g, 0, none⟩ m c (ptCs L) hx (by rw [ptCs_length, hL]) (fun j u hj => ?_) (ptCs_one L) (by unfold maxLen; omega) ?_ hbase (fun v' w' h2 h3 h4 h5 => h v' w' ⟨h2⟩ ⟨h3⟩ h5)
  · have hadd : (⟨g, 0, none⟩ : Addr).add j = ⟨g, j, none⟩ := by unfold Addr.add; split <;> simp_all
    rw [hadd]
    exact ptCs_cells hnew hL j u hj
  · exact Nat.le_trans (Nat.mul_le_mul h63 hby) (by decide)
theorem OwnK.ptsE {W : World} {B : Nat} {T : TypeId} {v : Value} {n : Nat} {l : List Pt} (h : OwnK W B T 3 v n (ptCs l)) (hl : l.length = n) : ∃ b cap, v = .slice b n cap ∧ PtsE W b n l := by
  obtain ⟨b, cap, e⟩ := h.form
  refine ⟨b, cap, e, hl, fun hn => ?_⟩
  obtain ⟨g, c, e2, -, -, hP⟩ := OwnK.pts h hl hn
  rw [e] at e2
  injection e2 with h1
  exact ⟨g, h1, hP⟩
theorem TabK.grewNe {W W' : World} {B : Nat} {T : List Row3} {u : Value} (hg : Grew W u W') (ho : ∀ t ∈ T, u.ownBlock ≠ some t.1) (h : TabK W B T) : TabK W' B T :=
  ⟨⟨fun t ht => ⟨(h.out.1 t ht).1, OwnK.grew hg (h.out.1 t ht).2 (fun b hb => by
    have e : t.1 = b := by simpa [Value.ownBlock, slV] using hb
    rw [← e]; exact ho t ht)⟩, h.out.2⟩⟩
/-- Points of the orbits of the classes' first ones. -/
def metL (cls : Nat → Nat) (orb : Nat → List Pt) : Nat → List Pt
  | 0 => []
  | i + 1 => if cls i = i then metL cls orb i ++ orb i else metL cls orb i
theorem metL_yes {cls : Nat → Nat} {orb : Nat → List Pt} {i : Nat} {S : List Pt} (h : cls i = i) (hS : orb i = S) : metL cls orb (i + 1) = metL cls orb i ++ S := by rw [← hS]; exact if_pos h
theorem metL_no {cls : Nat → Nat} {orb : Nat → List Pt} {i : Nat} (h : ¬ cls i = i) : metL cls orb (i + 1) = metL cls orb i := if_neg h
/-- Classes, their first points, their orbits. -/
structure ClsK (L : List Pt) (N : Nat) (cls : Nat → Nat) (orb : Nat → List Pt) : Prop where
  lab : ∀ q, cls q ≤ q ∧ cls (cls q) = cls q
  mem : ∀ i j, i < N → j < N → (L.getD j p0 ∈ orb i ↔ cls j = cls i)
  len : ∀ i, i < N → (orb i).length ≤ 183
theorem ClsK.met {L : List Pt} {N : Nat} {cls : Nat → Nat} {orb : Nat → List Pt} (h : ClsK L N cls orb) {j : Nat} (hj : j < N) : ∀ i, i ≤ N → (L.getD j p0 ∈ metL cls orb i ↔ cls j < i)
  | 0, _ => by simp [metL]
  | i + 1, hi => by
    have ih := h.met hj i (by omega)
    have hl := h.lab j
    by_cases e : cls i = i
    · rw [metL_yes e rfl, List.mem_append, ih, h.mem i j (by omega) hj, e]; omega
    · rw [metL_no e, ih]
      constructor
      · intro h2; omega
      · intro h2
        by_cases e2 : cls j = i
        · rw [← e2] at e; exact absurd hl.2 e
        · omega
theorem ClsK.mlen {L : List Pt} {N : Nat} {cls : Nat → Nat} {orb : Nat → List Pt} (h : ClsK L N cls orb) : ∀ i, i ≤ N → (metL cls orb i).length ≤ 183 * i
  | 0, _ => Nat.le_refl _
  | i + 1, hi => by
    have := h.mlen i (by omega)
    by_cases e : cls i = i
    · rw [metL_yes e rfl, List.length_append]; have := h.len i (by omega); omega
    · rw [metL_no e]; omega
theorem ClsK.first {L : List Pt} {N : Nat} {cls : Nat → Nat} {orb : Nat → List Pt} (h : ClsK L N cls orb) {i : Nat} : ∀ k, k ≤ i → filtP cls L i k = []
  | 0, _ => rfl
  | k + 1, hk => by rw [filtP_no (by have := (h.lab k).1; omega)]; exact h.first k (by omega)
theorem ClsK.none {L : List Pt} {N : Nat} {cls : Nat → Nat} {orb : Nat → List Pt} (h : ClsK L N cls orb) {i : Nat} (hi : ¬ cls i = i) : ∀ k, filtP cls L i k = []
  | 0 => rfl
  | k + 1 => by rw [filtP_no (fun e => hi (by have := (h.lab k).2; rw [e] at this; exact this))]; exact h.none hi k
theorem ClsK.some {L : List Pt} {N : Nat} {cls : Nat → Nat} {orb : Nat → List Pt} (h : ClsK L N cls orb) {i : Nat} (hi : cls i = i) (hN : i < N) : 0 < (filtP cls L i N).length := List.length_pos_of_mem (filtP_mem.2 ⟨i, hN, hi, rfl⟩)
theorem cls_K {n : Nat} {ms : List M9} (h : MsOk n ms) : ∃ orb, ClsK (allP n) (allP n).length (classP n ms) orb ∧ ∀ i, i < (allP n).length → ∃ K, WholeP n ms ((allP n).getD i p0) K ∧ seqP n ms ((allP n).getD i p0) K = orb i := by
  have hex : ∀ i : Nat, ∃ S : List Pt, i < (allP n).length → ∃ K, WholeP n ms ((allP n).getD i p0) K ∧ seqP n ms ((allP n).getD i p0) K = S := fun i => by
    by_cases hi : i < (allP n).length
    · obtain ⟨K, hK⟩ := whole_P h (getD_mem (d := p0) hi)
      exact ⟨_, fun _ => ⟨K, hK, rfl⟩⟩
    · exact ⟨[], fun h => absurd h hi⟩
  obtain ⟨orb, horb⟩ := Classical.axiomOfChoice hex
  refine ⟨orb, ⟨classP_lab n ms, fun i j hi hj => ?_, fun i hi => ?_⟩, horb⟩
  · obtain ⟨K, hK, e⟩ := horb i hi
    rw [← e, ← class_P h hi hj hK]
    exact ⟨fun e => e.symm, fun e => e.symm⟩
  · obtain ⟨K, hK, e⟩ := horb i hi
    rw [← e]
    have hr : RunP n ms ((allP n).getD i p0) K := hK.run
    exact len183 h.n13.2 (seqP_nodup n ms _ K) (hr.in h (getD_mem hi))
theorem l01Points_K (n : Nat) (w : World) (h : 3 ≤ n ∧ n ≤ 13) : Calls Try.prog 33 #[.int .i64 (n : Int)] w (fun e w' => ∃ g cap, e = .returned (.slice (some ⟨g, 0, none⟩) (allP n).length cap) ∧ w.heap.size ≤ g ∧ g < w'.heap.size ∧ PtsK w' g 0 (allP n).length (allP n) ∧ LowK w w') :=
  (l01Points_any n w h).mono fun e w' hp => by
    obtain ⟨v, rfl, ho, hb⟩ := hp.out
    obtain ⟨g, cap, rfl, h1, h2, h3⟩ := OwnK.pts ⟨ho⟩ rfl (by rw [allP_length]; omega)
    exact ⟨g, cap, rfl, h1, h2, h3, ⟨hb⟩⟩
/-- A table and a code. -/
def TabPost3 (w : World) (Ls : List (List Pt)) (e : Ending) (w' : World) : Prop := ∃ b c T, e = .returned (.tuple #[.slice b T.length c, .int .i64 0]) ∧ T.map (·.2.2) = Ls ∧ TabK w' w.heap.size T ∧ OwnK w' w.heap.size 51 1 (.slice b T.length c) T.length (tabV T) ∧ LowK w w'
set_option pp.deepTerms false
set_option pp.deepTerms.threshold 10
set_option maxRecDepth 20000 in
set_option maxHeartbeats 8000000 in
theorem OrbitsOf_spec_core (n N : Nat) (L : List Pt) (b : Option Addr) (k c : Nat) (ms : List M9) (w : World) (h : MsOk n ms) (hk : k ≤ 8) (hms : ListM w b k ms) (hcode : codeML (n : Int) k (oksM (n : Int) ms && ptsB (n : Int) []) = 0) (hL : allP n = L) (hN : L.length = N) :
    Calls Try.prog 14 #[.int .i64 (n : Int), .slice b k c] w (TabPost3 w (tabL (classP n ms) L N N)) := by
  obtain ⟨h3, h13⟩ := h.n13
  have hN183 : N ≤ 183 := by rw [← hN, ← hL]; exact allP_len183 h13
  have hN0 : 0 < N := by rw [← hN, ← hL, allP_length]; omega
  have HV := Lib.hid hcode
  have HAP := Lib.hid (fun w => l01Points_K n w h.n13)
  obtain ⟨orb, hCK, horb⟩ := cls_K h
  have HOR := Lib.hid (fun (w : World) (hms : ListM w b k ms) (i : Nat) (hi : i < (allP n).length) => (show Calls Try.prog 30 #[.int .i64 (n : Int), .slice b k c, pV ((allP n).getD i p0)] w (OrbPost w (orb i)) from by
    obtain ⟨K, hK, e⟩ := horb i hi
    exact Orbit_S n b k c ms _ K (orb i) w h hk hms (getD_mem hi) hK e))
  rw [hL, hN] at HAP hCK HOR
  have HC := Lib.hid hCK
  have HN := Lib.hid hN
  obtain ⟨cls, hcls⟩ : ∃ cls, classP n ms = cls := ⟨_, rfl⟩
  rw [hcls] at HC ⊢
  clear h hL hN hcode hCK horb hcls
  go_enter Try.func14, Try.ntmps14
  go_wp2_with (first | (refine wl_loadJ ?_) | (refine wl_load ?_) | (refine wl_loadM ?_) | (refine wl_storeJ ?_) | (refine wl_mapNewP ?_) | (refine wl_mapUpdP (L := ?_) ?_ ?_ ?_ ?_ (ho := .inl rfl); rotate_left 2; exact findGomP; assumption; assumption; intro Wm hMm hTm; have hs := hTm.out.1; (try simp at hs); (try have hOm := OwnK.turnP hTm findGomP findOwn); (try have hVm := LowK.turnP hTm (by assumption) findLow)) | (refine wl_fill1 ?_) | (refine wl_fill2 ?_) | (refine wl_storeM ?_) | (refine wl_makeM ?_; intro gm W' hgm hl hT; have hs := hl.out.size; (try simp at hs)) | (refine wl_store (h1 := mC_one _) ?_) | (refine wl_sliceM ?_) | (refine wl_append (he := eltMp) (h1 := mC_one _) ?_; intro v' w' ho hg hb; have hs := hg.size; (try simp at hs); rw [mCs_snoc] at ho; (try obtain ⟨gz, cz, rfl, hzb, hzl, -⟩ := OwnK.maps ho (by simp) (by omega))) | (refine wl_mapLook true ?_ (hM := findGom) (hv := by (first | exact decide_eq_true (by assumption)))) | (refine wl_mapLook false ?_ (hM := findGom) (hv := by (first | exact decide_eq_false (by assumption)))) | (refine wl_store ?_) | (refine wl_build ?_) | (refine wl_slice ?_) | (refine wl_append (he := eltSp) ?_; intro v' w' ho hg hb; have hs := hg.size; (try simp at hs)) | (refine wl_append ?_; intro v' w' ho hg hb; have hs := hg.size; (try simp at hs); (try rw [ptCs_end] at ho); (try rw [ints_end] at ho); (try simp only [Nat.zero_add, Nat.reduceAdd, List.nil_append, List.cons_append] at ho)) | (go_at_call 20; (with_reducible refine (l10Maps_none n b k c ms _ (by omega) (hms.link (LowK.lnk findLow)) HV.out).mono ?_); rintro e w' ⟨rfl, hb⟩; have hl := Link.mk hb; have hs := hb.size; (try simp at hs); clear hb) | (go_at_call 33; (with_reducible refine (HAP.out _).mono ?_); rintro e Wp ⟨gp, cp, rfl, hgp, hgp2, hPt, hV1⟩; have hl1 := LowK.lnk hV1; have hs := hV1.size))
  have hV0 : LowK w Wp := findLow
  have hr8 : RowK ((Wp.alloc (.cells #[] 33)).alloc (.cells #[] 51)) Wp.heap.size #[] 33 := findRow
  have hr9 : RowK ((Wp.alloc (.cells #[] 33)).alloc (.cells #[] 51)) (Wp.heap.size + 1) #[] 51 := findRow
  have hO8 : OwnK ((Wp.alloc (.cells #[] 33)).alloc (.cells #[] 51)) Wp.heap.size 33 3 (.slice (some ⟨Wp.heap.size, 0, none⟩) 0 0) (metL cls orb 0).length (ptCs (metL cls orb 0)) := OwnK.empty hr8 (Nat.le_refl _)
  have hO9 : OwnK ((Wp.alloc (.cells #[] 33)).alloc (.cells #[] 51)) Wp.heap.size 51 1 (.slice (some ⟨Wp.heap.size + 1, 0, none⟩) 0 0) 0 (tabV []) := OwnK.empty hr9 (by omega)
  have hV2 : LowK Wp ((Wp.alloc (.cells #[] 33)).alloc (.cells #[] 51)) := findLow
  have hT0 : TabK ((Wp.alloc (.cells #[] 33)).alloc (.cells #[] 51)) Wp.heap.size [] := TabK.nil _ _
  have hsz2 : Wp.heap.size ≤ ((Wp.alloc (.cells #[] 33)).alloc (.cells #[] 51)).heap.size := hV2.size
  clear hr8 hr9
  generalize (Wp.alloc (.cells #[] 33)).alloc (.cells #[] 51) = W2 at *
  obtain ⟨B, hB⟩ : ∃ B, Wp.heap.size = B := ⟨_, rfl⟩
  have hBw := Nat.le_of_eq hB
  have hBw2 := Nat.le_of_eq hB.symm
  rw [hB] at hO8 hO9 hsz2 hT0 ⊢
  generalize B + 1 = B1 at *
  obtain ⟨gz, hgz⟩ : ∃ gz, gz = B := ⟨_, rfl⟩
  clear hB
  go_loopw [8, 9, 10] (fun v8 v9 iv wr => ∃ (i : Nat) (T : List Row3), i ≤ N ∧ iv = .int .i64 (i : Int) ∧ OwnK wr B 33 3 v8 (metL cls orb i).length (ptCs (metL cls orb i)) ∧ T.map (·.2.2) = tabL cls L N i ∧ TabK wr B T ∧ OwnK wr B 51 1 v9 T.length (tabV T) ∧ (∀ t ∈ T, v8.ownBlock ≠ some t.1) ∧ LowK Wp wr ∧ B ≤ wr.heap.size) (fun _ _ iv wr => N - (intOf iv).toNat)
  case atStart => exact ⟨0, [], Nat.zero_le _, rfl, hO8, rfl, hT0, hO9, (fun t ht => absurd ht (by simp)), findLow, (by first | omega | (simp; omega))⟩
  case round =>
    clear hO8 hO9 hT0 hV2 hsz2
    obtain ⟨i, T, hi, rfl, hO8, hTL, hT, hO9, hne, hV, hsz⟩ := hrel
    have hTn : T.length ≤ i := by have := congrArg List.length hTL; rw [List.length_map] at this; rw [this]; exact tabL_len cls L N i
    have hml := HC.out.mlen i hi
    obtain ⟨W3, hW3⟩ : ∃ W3, W3 = wr := ⟨_, rfl⟩
    subst hW3
    obtain ⟨b8, c8, rfl, hE8⟩ := OwnK.ptsE hO8 rfl
    have hPr := PtsK.link (LowK.lnk hV) hPt
    have hVw := LowK.link (LowK.lnk hV) hV0
    by_cases hlt : i < N
    · obtain ⟨t, ht⟩ : ∃ t, L.getD i (0, 0, 0) = t := ⟨_, rfl⟩
      have hmm := HC.out.met hlt i hi
      rw [show L.getD i p0 = t from ht] at hmm
      have HO := Lib.hid (fun (w : World) (hms : ListM w b k ms) => HOR.out w hms i hlt)
      rw [show L.getD i p0 = t from ht] at HO
      have hli := (HC.out.lab i).1
      obtain ⟨M, hM⟩ : ∃ M, metL cls orb i = M := ⟨_, rfl⟩
      rw [hM] at hmm hml hE8 hO8 hne ⊢
      by_cases he : cls i = i
      · have HU : Hid (decide (t ∈ M) = false) := Lib.hid (by rw [decide_eq_false_iff_not, hmm]; omega)
        obtain ⟨S, hS⟩ : ∃ S, orb i = S := ⟨_, rfl⟩
        have hSl : S.length ≤ 183 := by rw [← hS]; exact HC.out.len i hlt
        have HSM := Lib.hid (fun j (hj : j < N) => HC.out.mem i j hlt hj)
        rw [hS, he] at HSM
        rw [hS] at HO
        have HMY := Lib.hid (metL_yes (orb := orb) he hS)
        rw [hM] at HMY
        have HF0 := Lib.hid (HC.out.first i (Nat.le_refl i))
        have HFP := Lib.hid (HC.out.some he hlt)
        have HTY := Lib.hid (tabL_yes rfl HFP.out)
        clear hmm hM hS he
        go_wp2_with (first | (refine wl_loadJ ?_) | (refine wl_load ?_) | (refine wl_loadM ?_) | (refine wl_storeJ ?_) | (refine wl_mapNewP ?_) | (refine wl_mapUpdP (L := ?_) ?_ ?_ ?_ ?_ (ho := .inl rfl); rotate_left 2; exact findGomP; assumption; assumption; intro Wm hMm hTm; have hs := hTm.out.1; (try simp at hs); (try have hOm := OwnK.turnP hTm findGomP findOwn); (try have hVm := LowK.turnP hTm (by assumption) findLow)) | (refine wl_fill1 ?_) | (refine wl_fill2 ?_) | (refine wl_storeM ?_) | (refine wl_makeM ?_; intro gm W' hgm hl hT; have hs := hl.out.size; (try simp at hs)) | (refine wl_store (h1 := mC_one _) ?_) | (refine wl_sliceM ?_) | (refine wl_append (he := eltMp) (h1 := mC_one _) ?_; intro v' w' ho hg hb; have hs := hg.size; (try simp at hs); rw [mCs_snoc] at ho; (try obtain ⟨gz, cz, rfl, hzb, hzl, -⟩ := OwnK.maps ho (by simp) (by omega))) | (refine wl_mapLook true ?_ (hM := findGom) (hv := by (first | exact decide_eq_true (by assumption)))) | (refine wl_mapLook false ?_ (hM := findGom) (hv := by (first | exact decide_eq_false (by assumption)))) | (refine wl_store ?_) | (refine wl_build ?_) | (refine wl_slice ?_) | (refine wl_append (he := eltSp) ?_; intro v' w' ho hg hb; have hs := hg.size; (try simp at hs)) | (refine wl_append ?_; intro v' w' ho hg hb; have hs := hg.size; (try simp at hs); (try rw [ptCs_end] at ho); (try rw [ints_end] at ho); (try simp only [Nat.zero_add, Nat.reduceAdd, List.nil_append, List.cons_append] at ho)) | (go_at_call 29; (with_reducible refine (Has_P t _ _ _ M _ (by omega) hE8 HU.out).mono ?_); rintro e w' ⟨rfl, hb⟩; have hl := Link.mk hb; have hs := hb.size; (try simp at hs); clear hb) | (go_at_call 30; (with_reducible refine (HO.out _ (hms.link (LowK.lnk findLow))).mono ?_); rintro e w4 ⟨go, co, rfl, hoS, hbS, hPS⟩; have hl2 := LowK.lnk hbS; have hs := hbS.size))
        have hV4 : LowK W3 w4 := findLow
        have hO8' := hO8.link (LowK.lnk hV4)
        have hO9' := hO9.link (LowK.lnk hV4)
        have hT' := hT.link (LowK.lnk hV4)
        have hP4 := PtsK.link (LowK.lnk hV4) hPr
        have hVw4 : LowK Wp w4 := LowK.link (LowK.lnk hV4) hV
        have hr5 : RowK (w4.alloc (.cells #[] 33)) w4.heap.size #[] 33 := findRow
        have hO5 : OwnK (w4.alloc (.cells #[] 33)) w4.heap.size 33 3 (.slice (some ⟨w4.heap.size, 0, none⟩) 0 0) (filtP cls L i i).length (ptCs (filtP cls L i i)) := by rw [HF0.out]; exact OwnK.empty hr5 (Nat.le_refl _)
        have hV5 : LowK w4 (w4.alloc (.cells #[] 33)) := findLow
        have hsz5 : w4.heap.size ≤ (w4.alloc (.cells #[] 33)).heap.size := hV5.size
        have hTlt : ∀ t ∈ T, t.1 < w4.heap.size := fun t ht => hT'.lt ht
        have h8lt : ∀ z, (Value.slice b8 M.length c8).ownBlock = some z → z < w4.heap.size := fun z hz => hO8'.lt z hz
        have hB4sz : B ≤ w4.heap.size := by have := hV4.size; omega
        clear hr5 hO8 hO9 hT hE8 hl2 hV4 hoS hbS hPr
        generalize w4.alloc (.cells #[] 33) = W5 at *
        obtain ⟨B4, hB4⟩ : ∃ B4, w4.heap.size = B4 := ⟨_, rfl⟩
        have hBd := Nat.le_of_eq hB4
        have hBd2 := Nat.le_of_eq hB4.symm
        rw [hB4] at hO5 hsz5 hTlt h8lt ⊢
        obtain ⟨gy, hgy⟩ : ∃ gy, gy = B4 := ⟨_, rfl⟩
        have HTL := Lib.hid hTlt
        have H8L := Lib.hid h8lt
        have HNE := Lib.hid hne
        clear hB4 hTlt h8lt hne
        go_loopw [12, 13] (fun v kv wl => ∃ q : Nat, q ≤ N ∧ kv = .int .i64 (q : Int) ∧ OwnK wl B4 33 3 v (filtP cls L i q).length (ptCs (filtP cls L i q)) ∧ LowK w4 wl ∧ B4 ≤ wl.heap.size) (fun _ kv wl => N - (intOf kv).toNat)
        case atStart => exact ⟨i, by omega, rfl, hO5, findLow, (by first | omega | (simp; omega))⟩
        case round =>
          clear hO5 hV5 hsz5
          obtain ⟨q, hq, rfl, hO5, hV5, hsz5⟩ := hrel
          have hfl := filtP_len cls L i q
          have hPq := PtsK.link (LowK.lnk hV5) hP4
          have hSq := PtsK.link (LowK.lnk hV5) hPS
          by_cases hlq : q < N
          · obtain ⟨s, hs2⟩ : ∃ s, L.getD q (0, 0, 0) = s := ⟨_, rfl⟩
            have hmq := HSM.out q hlq
            rw [show L.getD q p0 = s from hs2] at hmq
            by_cases he : cls q = i
            · have HU2 : Hid (decide (s ∈ S) = true) := Lib.hid (by rw [decide_eq_true_iff, hmq]; exact he)
              have HF := Lib.hid (filtP_yes (L := L) he (show L.getD q p0 = s from hs2))
              clear he hmq
              generalize filtP cls L i q = fl at *
              go_wp2_with (first | (refine wl_loadJ ?_) | (refine wl_load ?_) | (refine wl_loadM ?_) | (refine wl_storeJ ?_) | (refine wl_mapNewP ?_) | (refine wl_mapUpdP (L := ?_) ?_ ?_ ?_ ?_ (ho := .inl rfl); rotate_left 2; exact findGomP; assumption; assumption; intro Wm hMm hTm; have hs := hTm.out.1; (try simp at hs); (try have hOm := OwnK.turnP hTm findGomP findOwn); (try have hVm := LowK.turnP hTm (by assumption) findLow)) | (refine wl_fill1 ?_) | (refine wl_fill2 ?_) | (refine wl_storeM ?_) | (refine wl_makeM ?_; intro gm W' hgm hl hT; have hs := hl.out.size; (try simp at hs)) | (refine wl_store (h1 := mC_one _) ?_) | (refine wl_sliceM ?_) | (refine wl_append (he := eltMp) (h1 := mC_one _) ?_; intro v' w' ho hg hb; have hs := hg.size; (try simp at hs); rw [mCs_snoc] at ho; (try obtain ⟨gz, cz, rfl, hzb, hzl, -⟩ := OwnK.maps ho (by simp) (by omega))) | (refine wl_mapLook true ?_ (hM := findGom) (hv := by (first | exact decide_eq_true (by assumption)))) | (refine wl_mapLook false ?_ (hM := findGom) (hv := by (first | exact decide_eq_false (by assumption)))) | (refine wl_store ?_) | (refine wl_build ?_) | (refine wl_slice ?_) | (refine wl_append (he := eltSp) ?_; intro v' w' ho hg hb; have hs := hg.size; (try simp at hs)) | (refine wl_append ?_; intro v' w' ho hg hb; have hs := hg.size; (try simp at hs); (try rw [ptCs_end] at ho); (try rw [ints_end] at ho); (try simp only [Nat.zero_add, Nat.reduceAdd, List.nil_append, List.cons_append] at ho)) | (go_at_call 29; (with_reducible refine (Has_P s _ _ _ S _ (by omega) (PtsE.of rfl hSq) HU2.out).mono ?_); rintro e w' ⟨rfl, hb⟩; have hl := Link.mk hb; have hs := hb.size; (try simp at hs); clear hb))
              go_roundw
              case rel => exact ⟨q + 1, by omega, by go_num, by rw [HF.out, List.length_append]; exact ho, findLow, (by first | omega | (simp; omega))⟩
              case measure => (simp [intOf]; try omega)
            · have HU2 : Hid (decide (s ∈ S) = false) := Lib.hid (by rw [decide_eq_false_iff_not, hmq]; exact he)
              have HF := Lib.hid (filtP_no (L := L) he)
              clear he hmq
              go_wp2_with (first | (refine wl_loadJ ?_) | (refine wl_load ?_) | (refine wl_loadM ?_) | (refine wl_storeJ ?_) | (refine wl_mapNewP ?_) | (refine wl_mapUpdP (L := ?_) ?_ ?_ ?_ ?_ (ho := .inl rfl); rotate_left 2; exact findGomP; assumption; assumption; intro Wm hMm hTm; have hs := hTm.out.1; (try simp at hs); (try have hOm := OwnK.turnP hTm findGomP findOwn); (try have hVm := LowK.turnP hTm (by assumption) findLow)) | (refine wl_fill1 ?_) | (refine wl_fill2 ?_) | (refine wl_storeM ?_) | (refine wl_makeM ?_; intro gm W' hgm hl hT; have hs := hl.out.size; (try simp at hs)) | (refine wl_store (h1 := mC_one _) ?_) | (refine wl_sliceM ?_) | (refine wl_append (he := eltMp) (h1 := mC_one _) ?_; intro v' w' ho hg hb; have hs := hg.size; (try simp at hs); rw [mCs_snoc] at ho; (try obtain ⟨gz, cz, rfl, hzb, hzl, -⟩ := OwnK.maps ho (by simp) (by omega))) | (refine wl_mapLook true ?_ (hM := findGom) (hv := by (first | exact decide_eq_true (by assumption)))) | (refine wl_mapLook false ?_ (hM := findGom) (hv := by (first | exact decide_eq_false (by assumption)))) | (refine wl_store ?_) | (refine wl_build ?_) | (refine wl_slice ?_) | (refine wl_append (he := eltSp) ?_; intro v' w' ho hg hb; have hs := hg.size; (try simp at hs)) | (refine wl_append ?_; intro v' w' ho hg hb; have hs := hg.size; (try simp at hs); (try rw [ptCs_end] at ho); (try rw [ints_end] at ho); (try simp only [Nat.zero_add, Nat.reduceAdd, List.nil_append, List.cons_append] at ho)) | (go_at_call 29; (with_reducible refine (Has_P s _ _ _ S _ (by omega) (PtsE.of rfl hSq) HU2.out).mono ?_); rintro e w' ⟨rfl, hb⟩; have hl := Link.mk hb; have hs := hb.size; (try simp at hs); clear hb))
              go_roundw
              case rel => exact ⟨q + 1, by omega, by go_num, by rw [HF.out]; exact findOwn, findLow, (by first | omega | (simp; omega))⟩
              case measure => (simp [intOf]; try omega)
          · obtain rfl : N = q := by omega
            obtain ⟨fl, hfl2⟩ : ∃ fl, filtP cls L i N = fl := ⟨_, rfl⟩
            have hpos := HFP.out
            rw [hfl2] at hO5 hfl hpos HTY
            obtain ⟨g, cap, rfl, hgl, hgl2, -⟩ := OwnK.pts hO5 rfl hpos
            have hO8 := hO8'.link (LowK.lnk hV5)
            have hO9 := hO9'.link (LowK.lnk hV5)
            have hT := hT'.link (LowK.lnk hV5)
            have hVf := LowK.link (LowK.lnk hV5) hVw4
            clear hfl2 hO8' hO9' hT'
            go_wp2_with (first | (refine wl_append_P (hown := hO8) (hnew := hSq) (hL := rfl) (h63 := by omega) (hbase := by omega) ?_; intro v8 w5 ho8 hg8 hb8; have hs8 := hg8.size; have h9 := OwnK.grew hg8 hO9 (fun z hz => own_types hO9 hO8 (by decide) z hz); have h5 := OwnK.grew hg8 hO5 (fun z hz hz2 => by have := hO5.base z hz; have := H8L.out z hz2; omega); have hTt := TabK.grewNe hg8 HNE.out hT; have hVg := LowK.grewB hg8 hO8 hBw hVf) | (refine wl_append (he := eltSp) ?_; intro v' w' ho hg hb; have hs := hg.size; (try simp at hs)))
            go_roundw
            case rel =>
              refine ⟨i + 1, T ++ [(g, cap, fl)], by omega, by go_num, ?_, by rw [List.map_append, hTL, HTY.out]; rfl, TabK.snoc (TabK.grew hg (h9.alloc _) (hTt.link (LowK.lnk findLow))) hpos (OwnK.lower (by omega) (OwnK.grew hg (h5.alloc _) (fun z hz => own_types h5 h9 (by decide) z hz))) (fun t ht => by have := HTL.out t ht; omega), by rw [List.length_append, ← tabV_snoc]; exact ho, fun t ht => ?_, findLow, (by first | omega | (simp; omega))⟩
              · rw [HMY.out, List.length_append, ptCs_app]
                exact OwnK.grew hg (ho8.alloc _) (fun z hz => own_types ho8 h9 (by decide) z hz)
              · intro e
                have hlt9 : t.1 < wr.heap.size ∧ (t ∈ T ∨ t.1 = g) := by
                  rcases List.mem_append.1 ht with h | h
                  · exact ⟨hT.lt h, .inl h⟩
                  · rw [List.mem_singleton.1 h]; exact ⟨hgl2, .inr rfl⟩
                rcases hb8 with h | h
                · rw [h] at e
                  rcases hlt9.2 with h2 | h2
                  · exact HNE.out t h2 e
                  · have := H8L.out _ e; omega
                · rw [h] at e
                  have := Option.some.inj e
                  omega
            case measure => (simp [intOf]; try omega)
      · have HU : Hid (decide (t ∈ M) = true) := Lib.hid (by rw [decide_eq_true_iff, hmm]; omega)
        have HMN := Lib.hid (metL_no (orb := orb) he)
        rw [hM] at HMN
        have HTN := Lib.hid (tabL_no (N := N) (HC.out.none he N) (by simp))
        clear hmm hM he
        go_wp2_with (first | (refine wl_loadJ ?_) | (refine wl_load ?_) | (refine wl_loadM ?_) | (refine wl_storeJ ?_) | (refine wl_mapNewP ?_) | (refine wl_mapUpdP (L := ?_) ?_ ?_ ?_ ?_ (ho := .inl rfl); rotate_left 2; exact findGomP; assumption; assumption; intro Wm hMm hTm; have hs := hTm.out.1; (try simp at hs); (try have hOm := OwnK.turnP hTm findGomP findOwn); (try have hVm := LowK.turnP hTm (by assumption) findLow)) | (refine wl_fill1 ?_) | (refine wl_fill2 ?_) | (refine wl_storeM ?_) | (refine wl_makeM ?_; intro gm W' hgm hl hT; have hs := hl.out.size; (try simp at hs)) | (refine wl_store (h1 := mC_one _) ?_) | (refine wl_sliceM ?_) | (refine wl_append (he := eltMp) (h1 := mC_one _) ?_; intro v' w' ho hg hb; have hs := hg.size; (try simp at hs); rw [mCs_snoc] at ho; (try obtain ⟨gz, cz, rfl, hzb, hzl, -⟩ := OwnK.maps ho (by simp) (by omega))) | (refine wl_mapLook true ?_ (hM := findGom) (hv := by (first | exact decide_eq_true (by assumption)))) | (refine wl_mapLook false ?_ (hM := findGom) (hv := by (first | exact decide_eq_false (by assumption)))) | (refine wl_store ?_) | (refine wl_build ?_) | (refine wl_slice ?_) | (refine wl_append (he := eltSp) ?_; intro v' w' ho hg hb; have hs := hg.size; (try simp at hs)) | (refine wl_append ?_; intro v' w' ho hg hb; have hs := hg.size; (try simp at hs); (try rw [ptCs_end] at ho); (try rw [ints_end] at ho); (try simp only [Nat.zero_add, Nat.reduceAdd, List.nil_append, List.cons_append] at ho)) | (go_at_call 29; (with_reducible refine (Has_P t _ _ _ M _ (by omega) hE8 HU.out).mono ?_); rintro e w' ⟨rfl, hb⟩; have hl := Link.mk hb; have hs := hb.size; (try simp at hs); clear hb))
        go_roundw
        case rel => exact ⟨i + 1, T, by omega, by go_num, by rw [HMN.out]; exact findOwn, by rw [HTN.out]; exact hTL, hT.link (LowK.lnk findLow), findOwn, hne, findLow, (by first | omega | (simp; omega))⟩
        case measure => (simp [intOf]; try omega)
    · obtain rfl : N = i := by omega
      obtain ⟨b9, c9, rfl⟩ := hO9.form
      go_wp2_with (first | (refine wl_loadJ ?_) | (refine wl_load ?_) | (refine wl_loadM ?_) | (refine wl_storeJ ?_) | (refine wl_mapNewP ?_) | (refine wl_mapUpdP (L := ?_) ?_ ?_ ?_ ?_ (ho := .inl rfl); rotate_left 2; exact findGomP; assumption; assumption; intro Wm hMm hTm; have hs := hTm.out.1; (try simp at hs); (try have hOm := OwnK.turnP hTm findGomP findOwn); (try have hVm := LowK.turnP hTm (by assumption) findLow)) | (refine wl_fill1 ?_) | (refine wl_fill2 ?_) | (refine wl_storeM ?_) | (refine wl_makeM ?_; intro gm W' hgm hl hT; have hs := hl.out.size; (try simp at hs)) | (refine wl_store (h1 := mC_one _) ?_) | (refine wl_sliceM ?_) | (refine wl_append (he := eltMp) (h1 := mC_one _) ?_; intro v' w' ho hg hb; have hs := hg.size; (try simp at hs); rw [mCs_snoc] at ho; (try obtain ⟨gz, cz, rfl, hzb, hzl, -⟩ := OwnK.maps ho (by simp) (by omega))) | (refine wl_mapLook true ?_ (hM := findGom) (hv := by (first | exact decide_eq_true (by assumption)))) | (refine wl_mapLook false ?_ (hM := findGom) (hv := by (first | exact decide_eq_false (by assumption)))) | (refine wl_store ?_) | (refine wl_build ?_) | (refine wl_slice ?_) | (refine wl_append (he := eltSp) ?_; intro v' w' ho hg hb; have hs := hg.size; (try simp at hs)) | (refine wl_append ?_; intro v' w' ho hg hb; have hs := hg.size; (try simp at hs); (try rw [ptCs_end] at ho); (try rw [ints_end] at ho); (try simp only [Nat.zero_add, Nat.reduceAdd, List.nil_append, List.cons_append] at ho)))
      (apply ret_two Try.results14; (conv => lhs; whnf); (conv => lhs; whnf); exact rfl)
      have hwB : w.heap.size ≤ B := by have := hV0.size; omega
      exact ⟨b9, c9, T, rfl, hTL, TabK.lower hwB hT, OwnK.lower hwB hO9, hVw⟩
end Go.Proofs.Ytoagfpdicpcjnaa
/- A region that draws its order and stores once into a block that is there: all other blocks are as they were. -/
namespace Go.Proofs.Ytoagfpdicpcjnaa
open Go.RowKit
set_option linter.unusedVariables false
set_option linter.unusedSimpArgs false
/-- All blocks but one are as they were. -/
structure Save (g0 : Nat) (w W : World) : Prop where
  os : W.os = w.os
  tape : W.tape = w.tape
  output : W.output = w.output
  size : w.heap.size ≤ W.heap.size
  block : ∀ k, k < w.heap.size → k ≠ g0 → W.heap[k]? = w.heap[k]?
theorem Save.tr {g0 : Nat} {w W W' : World} (h : Save g0 w W) (hb : Below W.heap.size W W') : Save g0 w W' :=
  ⟨hb.os.trans h.os, hb.tape.trans h.tape, hb.output.trans h.output, Nat.le_trans h.size hb.size, fun k hk hne => (hb.block k (Nat.lt_of_lt_of_le hk h.size)).trans (h.block k hk hne)⟩
theorem Save.setRow {g0 : Nat} {w W : World} (h : Save g0 w W) (cs : Array Value) : Save g0 w (W.setRow g0 cs) :=
  ⟨h.os, h.tape, h.output, by simpa [World.setRow] using h.size, fun k hk hne => (setRow_other W g0 k cs hne).trans (h.block k hk hne)⟩
theorem Save.below {g0 b : Nat} {w W W' : World} (h : Save g0 W W') (hb : Below b w W) (hg : b ≤ g0) (hs : b ≤ W.heap.size) : Below b w W' :=
  ⟨h.os.trans hb.os, h.tape.trans hb.tape, h.output.trans hb.output, Nat.le_trans hb.size h.size, fun k hk => (h.block k (by omega) (by omega)).trans (hb.block k hk)⟩
structure RInvT (l : List Oper) (a0 aE : Act) (w0 : World) (g0 s n : Nat) (T : TypeId) (U : Array Value) (listed : Array Bool) (a : Act) (w : World) : Prop where
  df : a.defers = aE.defers
  sz : a.tmps.size = aE.tmps.size
  len : listed.size = l.length
  fr1 : ∀ (j : Nat) (o : Oper) (t : Nat), l[j]? = some o → o.dst = some t → listed.getD j false = true → a.tmps.getD t undef = aE.tmps.getD t undef
  fr0 : ∀ t : Nat, (∀ (j : Nat) (o : Oper), l[j]? = some o → o.dst = some t → listed.getD j false = false) → a.tmps.getD t undef = a0.tmps.getD t undef
  bl : Save g0 w0 w
  box : ∃ cs, w.heap[g0]? = some (.cells cs T (0, 0)) ∧ cs.size = n ∧ (listed.getD s false = true → cs = U)
section
variable {P : Program} {Q : Exit → Act → World → Prop} {l : List Oper} {a0 : Act} {w : World} {vs : List (Nat × Value)} {g0 s n : Nat} {T : TypeId} {U : Array Value} {os : Oper}
theorem wp_region_storeT {id : Nat} (hm : P.follows .mixedOrders = true) (hsi : l[s]? = some os) (h0 : ∃ cs, w.heap[g0]? = some (.cells cs T (0, 0)) ∧ cs.size = n) (hU : U.size = n)
    (hst : ∀ (ρ : Operand → Value) (W : World) (cs : Array Value), (∀ t ∈ readsOf os, ρ (.tmp t) = (puts a0 vs).tmps.getD t undef) → W.heap[g0]? = some (.cells cs T (0, 0)) → cs.size = n → (execOp ρ os).run P W = .ok .skip (W.setRow g0 U)) 
    (chk : storeChk l s a0.tmps.size = true) (hkeys : vs.all (fun kv => l.any (·.dst == some kv.1)) = true)
    (hop : ∀ (i : Nat) (o : Oper) (t : Nat), l[i]? = some o → i ≠ s → o.dst = some t → (Region.wanted o (yielded l.toArray (puts a0 vs).tmps) = true ∧ ∀ W, Save g0 w W → calmAt P o (puts a0 vs).eval W ((puts a0 vs).tmps.getD t undef)) ∨ (Region.wanted o (yielded l.toArray (puts a0 vs).tmps) = false ∧ (puts a0 vs).tmps.getD t undef = undef))
    (hQ : ∀ W, Save g0 w W → W.heap[g0]? = some (.cells U T (0, 0)) → Q .normal (puts a0 vs) W) :
    (Code.region id l.toArray true).wp P Q a0 w := by
  have hE : ∀ t, (∀ (j : Nat) (o : Oper), l[j]? = some o → o.dst ≠ some t) → a0.tmps.getD t undef = (puts a0 vs).tmps.getD t undef := by
    intro t hno
    refine (puts_other t vs a0 (fun kv hkv e => ?_)).symm
    have := List.all_eq_true.1 hkeys kv hkv
    obtain ⟨o, ho, hod⟩ := List.any_eq_true.1 this
    obtain ⟨j, hj⟩ := List.getElem?_of_mem ho
    exact hno j o hj (by rw [← e]; simpa using hod)
  have hEs : (puts a0 vs).tmps.size = a0.tmps.size := puts_size _ _
  have hEd : (puts a0 vs).defers = a0.defers := puts_defers _ _
  generalize puts a0 vs = aE at *
  refine wp_region_any hm ?_
  have key : ∀ (fuel : Nat) (listed : Array Bool) (a : Act) (W : World), RInvT l a0 aE w g0 s n T U listed a W →
      (List.range l.length).countP (fun i => !listed.getD i true) ≤ fuel → wpAny P .any l.toArray Q fuel listed a W := by
    intro fuel
    have fin : ∀ (listed : Array Bool) (a : Act) (W : World), RInvT l a0 aE w g0 s n T U listed a W → Region.ready .any l.toArray listed = [] → Q .normal a W := by
      intro listed a W hI hr
      have hall := ready_allS chk hI.len hr
      have ea : a = aE := by
        refine act_ext _ _ hI.df hI.sz (fun t ht => ?_)
        · by_cases hw : ∃ (j : Nat) (o : Oper), l[j]? = some o ∧ o.dst = some t
          · obtain ⟨j, o, hj, ho⟩ := hw
            exact hI.fr1 j o t hj ho (hall j (List.getElem?_eq_some_iff.1 hj).1)
          · rw [hI.fr0 t (fun j o hj ho => (hw ⟨j, o, hj, ho⟩).elim)]
            exact hE t (fun j o hj ho => hw ⟨j, o, hj, ho⟩)
      obtain ⟨cs, hcs, _, he⟩ := hI.box
      have e := he (hall s (List.getElem?_eq_some_iff.1 hsi).1)
      subst e
      rw [ea]
      exact hQ W hI.bl hcs
    -- what an operation that may come up reads is at hand
    have look : ∀ (listed : Array Bool) (a : Act) (W : World), RInvT l a0 aE w g0 s n T U listed a W → ∀ (i : Nat) (o : Oper), l[i]? = some o →
        (∀ e ∈ o.after, Region.binds .any e = true → listed.getD e.on false = true) → ∀ t ∈ readsOf o, a.tmps.getD t undef = aE.tmps.getD t undef := by
      intro listed a W hI i o hi hall t ht
      have h := (storeChk_at chk hi).2.2.2.2.1 t ht
      · by_cases hw : ∃ (j : Nat) (oj : Oper), l[j]? = some oj ∧ oj.dst = some t
        · obtain ⟨j, oj, hj, hjd⟩ := hw
          obtain ⟨e, he, hb, hon⟩ := bindsTo_spec (h j oj hj hjd)
          exact hI.fr1 j oj t hj hjd (by rw [← hon]; exact hall e he hb)
        · rw [hI.fr0 t (fun j oj hj ho => (hw ⟨j, oj, hj, ho⟩).elim)]
          exact hE t (fun j oj hj ho => hw ⟨j, oj, hj, ho⟩)
    induction fuel with
    | zero =>
      intro listed a W hI hc
      have hr : Region.ready .any l.toArray listed = [] := by
        rw [List.eq_nil_iff_forall_not_mem]
        intro i hi
        obtain ⟨h0, o, ho, _⟩ := mem_ready.1 hi
        have hil : i < l.length := by simpa using (Array.getElem?_eq_some_iff.1 ho).1
        have : 0 < (List.range l.length).countP (fun i => !listed.getD i true) := List.countP_pos_iff.2 ⟨i, List.mem_range.2 hil, by rw [h0]; rfl⟩
        omega
      exact ⟨hr, fin listed a W hI hr⟩
    | succ fuel ih =>
      intro listed a W hI hc
      refine ⟨fin listed a W hI, fun i hi => ?_⟩
      obtain ⟨h0, o, ho, hall⟩ := mem_ready.1 hi
      have hio : l[i]? = some o := by simpa using ho
      have hil : i < l.length := (List.getElem?_eq_some_iff.1 hio).1
      have hil' : i < listed.size := by rw [hI.len]; exact hil
      have hi0 : listed.getD i false = false := by simpa [hil'] using h0
      have hC := storeChk_at chk hio
      have hwe : Region.wanted o (yielded l.toArray a.tmps) = Region.wanted o (yielded l.toArray aE.tmps) := by
        unfold Region.wanted
        cases hg : o.guard with
        | none => rfl
        | some kb =>
          obtain ⟨k, b⟩ := kb
          obtain ⟨e, he, hb, hon⟩ := bindsTo_spec (hC.1 k b hg).2
          have : yielded l.toArray a.tmps k = yielded l.toArray aE.tmps k := yielded_congr hI.sz (fun ok tk hk hd => hI.fr1 k ok tk (by simpa using hk) hd (by rw [← hon]; exact hall e he hb))
          simp only [this]
      have hcnt : (List.range l.length).countP (fun j => !(listed.setIfInBounds i true).getD j true) ≤ fuel := by
        have := count_lt (fun j => !listed.getD j true) (fun j => !(listed.setIfInBounds i true).getD j true) (fun j hj => by
            by_cases e : i = j
            · subst e; simp [hil'] at hj
            · rw [getD_set_ne true e] at hj; exact hj) i (by rw [h0]; rfl) (by simp [hil']) (List.range l.length) (List.mem_range.2 hil)
        omega
      by_cases his : i = s
      · -- the store
        subst his
        have eo : o = os := by rw [hsi] at hio; exact (Option.some.inj hio).symm
        subst eo
        have hdst := hC.2.2.2.2.2 rfl
        obtain ⟨cs, hcs, hn, _⟩ := hI.box
        have hrun := hst a.eval W cs (fun t ht => look listed a W hI i o hio hall t ht) hcs hn
        have hgu : o.guard = none := by
          cases hg : o.guard with
          | none => rfl
          | some kb => exact ((hC.1 kb.1 kb.2 hg).1 rfl).elim
        have hw : Region.wanted o (yielded l.toArray a.tmps) = true := by unfold Region.wanted; rw [hgu]
        unfold wpOp
        simp only [ho, hw, if_true]
        refine .inl ?_
        unfold Oper.wp
        rw [hrun]
        simp only [Oper.upon, hdst]
        have hp : a.put none undef = a := rfl
        rw [hp]
        refine ih _ _ _ ⟨hI.df, hI.sz, by simpa using hI.len, ?_, ?_, hI.bl.setRow _, ?_⟩ hcnt
        · intro j oj t hj hjd hl
          rw [getD_set _ _ _ hil'] at hl
          by_cases e : i = j
          · subst e; rw [hio] at hj; obtain rfl := Option.some.inj hj; rw [hdst] at hjd; cases hjd
          · rw [if_neg e] at hl; exact hI.fr1 j oj t hj hjd hl
        · intro t hno
          refine hI.fr0 t (fun j oj hj hjd => ?_)
          have := hno j oj hj hjd
          rw [getD_set _ _ _ hil'] at this
          by_cases e : i = j
          · rw [if_pos e] at this; cases this
          · rw [if_neg e] at this; exact this
        · exact ⟨U, setRow_heap W g0 cs U T (0, 0) hcs, hU, fun _ => rfl⟩
      · obtain ⟨t, hdst, htN⟩ := hC.2.2.2.1 his
        have step : ∀ W', Save g0 w W' → (∃ cs, W'.heap[g0]? = some (.cells cs T (0, 0)) ∧ cs.size = n ∧ (listed.getD s false = true → cs = U)) → wpAny P .any l.toArray Q fuel (listed.setIfInBounds i true) (a.put (some t) (aE.tmps.getD t undef)) W' := by
          intro W' hW' hbox
          refine ih _ _ _ ⟨by rw [put_defers]; exact hI.df, by rw [put_size]; exact hI.sz, by simpa using hI.len, ?_, ?_, hW', by rw [getD_set _ _ _ hil', if_neg his]; exact hbox⟩ hcnt
          · intro j oj u hj hjd hl
            by_cases htu : t = u
            · subst htu; rw [put_get_same _ _ _ (by rw [hI.sz, hEs]; exact htN)]
            · rw [put_get_ne _ _ _ _ htu]
              rw [getD_set _ _ _ hil'] at hl
              by_cases e : i = j
              · subst e; rw [hio] at hj; obtain rfl := Option.some.inj hj; rw [hdst] at hjd; exact (htu (Option.some.inj hjd)).elim
              · rw [if_neg e] at hl; exact hI.fr1 j oj u hj hjd hl
          · intro u hno
            have htu : t ≠ u := fun e => by
              subst e
              have := hno i o hio hdst
              rw [getD_set _ _ _ hil', if_pos rfl] at this; cases this
            rw [put_get_ne _ _ _ _ htu]
            refine hI.fr0 u (fun j oj hj hjd => ?_)
            have := hno j oj hj hjd
            rw [getD_set _ _ _ hil'] at this
            by_cases e : i = j
            · rw [if_pos e] at this; cases this
            · rw [if_neg e] at this; exact this
        unfold wpOp
        simp only [ho]
        rcases hop i o t hio his hdst with ⟨hw, hcalm⟩ | ⟨hw, hun⟩
        · rw [hwe, hw]
          simp only [if_true]
          refine .inl ?_
          have heq : execOp aE.eval o = execOp a.eval o := execOp_congr o hC.2.1 (fun x hx => by
              cases x with
              | tmp u =>
                have hu : u ∈ readsOf o := List.mem_filterMap.2 ⟨.tmp u, by simpa using hx, rfl⟩
                exact (look listed a W hI i o hio hall u hu).symm
              | _ => rfl)
          have hcalm' : calmAt P o a.eval W (aE.tmps.getD t undef) := by
              refine ⟨?_⟩; have hh := (hcalm W hI.bl).out; unfold calmRun at hh ⊢; rw [← heq]; exact hh
          refine wp_of_calm hcalm' (fun W' hb => ?_)
          rw [hdst]
          exact step W' (hI.bl.tr hb) (by obtain ⟨cs, hcs, hr⟩ := hI.box; exact ⟨cs, by rw [hb.block _ (Array.getElem?_eq_some_iff.1 hcs).1]; exact hcs, hr⟩)
        · rw [hwe, hw]
          simp only [Bool.false_eq_true, if_false, hdst]
          rw [hun] at step
          exact step W hI.bl hI.box
  refine key _ _ _ _ ⟨by rw [hEd], hEs.symm, by simp, ?_, ?_, ⟨rfl, rfl, rfl, Nat.le_refl _, fun _ _ _ => rfl⟩, by obtain ⟨cs, h1, h2⟩ := h0; exact ⟨cs, h1, h2, fun h => by rw [rep_false] at h; cases h⟩⟩ ?_
  · intro j o t hj hjd hl; rw [rep_false] at hl; cases hl
  · intro t _; rfl
  · exact Nat.le_trans List.countP_le_length (by simp)
/-- What the law asks of one operation that is not the store. -/
def CalmT (P : Program) (aE : Act) (w : World) (g0 : Nat) (l : List Oper) (o : Oper) : Prop := ∀ t, o.dst = some t →
  (Region.wanted o (yielded l.toArray aE.tmps) = true ∧ ∀ W, Save g0 w W → calmAt P o aE.eval W (aE.tmps.getD t undef)) ∨ (Region.wanted o (yielded l.toArray aE.tmps) = false ∧ aE.tmps.getD t undef = undef)
theorem CalmT.mk {P : Program} {aE : Act} {w : World} {g0 : Nat} {l : List Oper} {o : Oper} (t : Nat) (v : Value) (hd : o.dst = some t) (hv : aE.tmps.getD t undef = v) (hw : Region.wanted o (yielded l.toArray aE.tmps) = true) (h : ∀ W, Save g0 w W → calmAt P o aE.eval W v) : CalmT P aE w g0 l o := by
  intro t' hd'
  rw [hd] at hd'
  obtain rfl := Option.some.inj hd'
  exact .inl ⟨hw, fun W hW => by rw [hv]; exact h W hW⟩
theorem region_storeT {id : Nat} (g0 s n : Nat) (T : TypeId) (U : Array Value) (vs : List (Nat × Value)) (hm : P.follows .mixedOrders = true) (hsi : l[s]? = some os)
    (chk : storeChk l s a0.tmps.size = true) (hkeys : vs.all (fun kv => l.any (·.dst == some kv.1)) = true) (h0 : ∃ cs, w.heap[g0]? = some (.cells cs T (0, 0)) ∧ cs.size = n) (hU : U.size = n)
    (H : ∀ aE, puts a0 vs = aE → (∀ (ρ : Operand → Value) (W : World) (cs : Array Value), (∀ t ∈ readsOf os, ρ (.tmp t) = aE.tmps.getD t undef) → W.heap[g0]? = some (.cells cs T (0, 0)) → cs.size = n → (execOp ρ os).run P W = .ok .skip (W.setRow g0 U)) ∧
      AllBut (CalmT P aE w g0 l) s s 0 l ∧ ∀ W, Save g0 w W → W.heap[g0]? = some (.cells U T (0, 0)) → Q .normal aE W) :
    (Code.region id l.toArray true).wp P Q a0 w := by
  obtain ⟨h1, h2, h3⟩ := H _ rfl
  refine wp_region_storeT hm hsi h0 hU h1 chk hkeys (fun i o t hi his hd => ?_) h3
  exact AllBut.spec l 0 h2 i o hi (by omega) (by omega) t hd
end
end Go.Proofs.Ytoagfpdicpcjnaa
/- Contracts: the laws' marks on lists of points (and lines). (Printed by geng4.py, a program of this session.) -/
namespace Go.Proofs.Ytoagfpdicpcjnaa
open Go.RowKit
set_option linter.unusedVariables false
set_option linter.unusedSimpArgs false
def markP (k i : Nat) : Pt := (((k + 3 * i : Nat) : Int), ((k + 3 * i + 1 : Nat) : Int), ((k + 3 * i + 2 : Nat) : Int))
def markL (k n : Nat) : List Pt := (List.range n).map (markP k)
theorem markL_at (k n i : Nat) (h : i < n) : (markL k n).getD i (0, 0, 0) = markP k i := by simp [markL, List.getD, h]
theorem markL_length (k n : Nat) : (markL k n).length = n := by simp [markL]
theorem ret_num {a b : Int} (h : a = b) : Value.int .i64 a = Value.int .i64 b := by rw [h]
theorem mark_eq (k i : Nat) : markP k i = ((k : Int) + 3 * (i : Int), (k : Int) + 3 * (i : Int) + 1, (k : Int) + 3 * (i : Int) + 1 + 1) := by
  unfold markP
  refine Prod.ext ?_ (Prod.ext ?_ ?_) <;> simp <;> omega
theorem pts_grow {W : World} {g cap i : Nat} {T : TypeId} {M : List Pt} {x y z : Int} (hr : RoomP W g cap T) (hi : i < cap) (h : PtsAt W g 0 i M) (hM : M.getD i (0, 0, 0) = (x, y, z)) :
    PtsAt (((W.setCell ⟨g, i * 3, none⟩ (.int .i64 x)).setCell ⟨g, i * 3 + 1, none⟩ (.int .i64 y)).setCell ⟨g, i * 3 + 2, none⟩ (.int .i64 z)) g 0 (i + 1) M := by
  have ne : ∀ a b : Nat, a ≠ b → (⟨g, a, none⟩ : Addr) ≠ ⟨g, b, none⟩ := fun a b h e => h (by cases e; rfl)
  obtain ⟨u0, s0⟩ := Option.isSome_iff_exists.1 (hr.some (i * 3) (by omega))
  obtain ⟨u1, s1⟩ := Option.isSome_iff_exists.1 (hr.some (i * 3 + 1) (by omega))
  obtain ⟨u2, s2⟩ := Option.isSome_iff_exists.1 (hr.some (i * 3 + 2) (by omega))
  intro j hj
  simp only [Nat.zero_add]
  by_cases e : j = i
  · subst e
    rw [hM]
    refine ⟨?_, ?_, ?_⟩
    · rw [World.cell?_setCell_other _ _ _ _ (ne _ _ (by omega)), World.cell?_setCell_other _ _ _ _ (ne _ _ (by omega)), World.cell?_setCell_same _ _ _ s0]
    · rw [World.cell?_setCell_other _ _ _ _ (ne _ _ (by omega)), World.cell?_setCell_same (u := u1) _ _ _ (by rw [World.cell?_setCell_other _ _ _ _ (ne _ _ (by omega))]; exact s1)]
    · rw [World.cell?_setCell_same (u := u2) _ _ _ (by rw [World.cell?_setCell_other _ _ _ _ (ne _ _ (by omega)), World.cell?_setCell_other _ _ _ _ (ne _ _ (by omega))]; exact s2)]
  · obtain ⟨c0, c1, c2⟩ := h j (by omega)
    simp only [Nat.zero_add] at c0 c1 c2
    refine ⟨?_, ?_, ?_⟩
    · rw [World.cell?_setCell_other _ _ _ _ (ne _ _ (by omega)), World.cell?_setCell_other _ _ _ _ (ne _ _ (by omega)), World.cell?_setCell_other _ _ _ _ (ne _ _ (by omega))]; exact c0
    · rw [World.cell?_setCell_other _ _ _ _ (ne _ _ (by omega)), World.cell?_setCell_other _ _ _ _ (ne _ _ (by omega)), World.cell?_setCell_other _ _ _ _ (ne _ _ (by omega))]; exact c1
    · rw [World.cell?_setCell_other _ _ _ _ (ne _ _ (by omega)), World.cell?_setCell_other _ _ _ _ (ne _ _ (by omega)), World.cell?_setCell_other _ _ _ _ (ne _ _ (by omega))]; exact c2
theorem Save.refl (g : Nat) (w : World) : Save g w w := ⟨rfl, rfl, rfl, Nat.le_refl _, fun _ _ _ => rfl⟩
theorem Save.setCell {g0 : Nat} {w W : World} (h : Save g0 w W) (i : Nat) (v : Value) : Save g0 w (W.setCell ⟨g0, i, none⟩ v) :=
  ⟨h.os, h.tape, h.output, by simpa [World.setCell] using h.size, fun k hk hne => by
    have : (W.setCell ⟨g0, i, none⟩ v).heap[k]? = W.heap[k]? := by simp [World.setCell, Array.getElem?_modify, Ne.symm hne]
    rw [this]; exact h.block k hk hne⟩
/-- What marks leave. -/
structure MarkPost (g n k cap : Nat) (T : TypeId) (w : World) (e : Ending) (w' : World) : Prop where
  out : e = .returned (.int .i64 ((k + 3 * n : Nat) : Int)) ∧ Save g w w' ∧ RoomP w' g cap T ∧ PtsAt w' g 0 n (markL k n)
set_option maxHeartbeats 1000000 in
theorem markPointS_any (g n c k cap : Nat) (T : TypeId) (w : World) (hr : RoomP w g cap T) (hn : n ≤ cap) (hn1 : n ≤ 1000000) (hk : k ≤ 10000000) :
    Calls Try.prog 35 #[.slice (some ⟨g, 0, none⟩) n c, .int .i64 (k : Int)] w (MarkPost g n k cap T w) := by
  have HR0 := Lib.hid hr
  clear hr
  go_enter Try.func35, Try.ntmps35
  go_wp2
  go_loopw [1, 5, 6] (fun q i jj wr => ∃ ii : Nat, ii ≤ n ∧ i = .int .i64 ii ∧ q = .int .i64 ((k + 3 * ii : Nat) : Int) ∧ Hid (Save g w wr) ∧ Hid (RoomP wr g cap T) ∧ Hid (PtsAt wr g 0 ii (markL k n))) (fun _ i _ wr => n - (intOf i).toNat)
  case atStart => exact ⟨0, Nat.zero_le _, rfl, rfl, Lib.hid (Save.refl _ _), HR0, Lib.hid (fun j hj => absurd hj (by omega))⟩
  case round =>
    obtain ⟨ii, hi, rfl, rfl, HS, HR, HP⟩ := hrel
    by_cases hlt : ii < n
    · obtain ⟨u0, s0⟩ := Option.isSome_iff_exists.1 (HR.out.some (ii * 3) (by omega))
      have r0 := HR.out.frozen (ii * 3)
      obtain ⟨u1, s1⟩ := Option.isSome_iff_exists.1 (HR.out.some (ii * 3 + 1) (by omega))
      have r1 := HR.out.frozen (ii * 3 + 1)
      obtain ⟨u2, s2⟩ := Option.isSome_iff_exists.1 (HR.out.some (ii * 3 + 2) (by omega))
      have r2 := HR.out.frozen (ii * 3 + 2)
      go_wp2
      refine wp_loop_rounds 4 ?_
      iterate 4 (rw [rounds_succ]; go_wp2)
      go_roundw
      case rel => exact ⟨ii + 1, by omega, by go_num, ret_num (by omega), Lib.hid (((HS.out.setCell _ _).setCell _ _).setCell _ _), Lib.hid (((HR.out.set _ _).set _ _).set _ _), Lib.hid (pts_grow HR.out (by omega) HP.out (by rw [markL_at _ _ _ hlt]; exact mark_eq k ii))⟩
      case measure => simp [intOf]; omega
    · have : ii = n := by omega
      subst this
      go_wp2
      go_ret
      exact ⟨rfl, HS.out, HR.out, HP.out⟩
theorem heldPointS_any (g n c k : Nat) (w : World) (hn1 : n ≤ 1000000) (hk : k ≤ 10000000) (hp : PtsAt w g 0 n (markL k n)) :
    Calls Try.prog 36 #[.slice (some ⟨g, 0, none⟩) n c, .int .i64 (k : Int)] w (Ret w (.int .i64 ((k + 3 * n : Nat) : Int))) := by
  have HP := Lib.hid hp
  clear hp
  go_enter Try.func36, Try.ntmps36
  go_wp2
  go_loopw [1, 5, 6] (fun q i jj wr => ∃ ii : Nat, ii ≤ n ∧ i = .int .i64 ii ∧ q = .int .i64 ((k + 3 * ii : Nat) : Int) ∧ Hid (Below w.heap.size w wr)) (fun _ i _ wr => n - (intOf i).toNat)
  case atStart => exact ⟨0, Nat.zero_le _, rfl, rfl, Lib.hid (Below.refl _ _)⟩
  case round =>
    obtain ⟨ii, hi, rfl, rfl, HB⟩ := hrel
    by_cases hlt : ii < n
    · obtain ⟨c0, c1, c2⟩ := (HP.out.below HB.out) ii hlt
      rw [markL_at _ _ _ hlt, mark_eq] at c0 c1 c2
      simp only [Nat.zero_add] at c0 c1 c2
      go_wp2
      refine wp_loop_rounds 4 ?_
      iterate 4 (rw [rounds_succ]; go_wp2)
      go_roundw
      case rel => exact ⟨ii + 1, by omega, by go_num, ret_num (by omega), HB⟩
      case measure => simp [intOf]; omega
    · have : ii = n := by omega
      subst this
      go_wp2
      go_ret
      exact ⟨rfl, HB.out⟩
theorem markPointS_nil (b : Option Addr) (c : Nat) (k : Int) (w : World) : Calls Try.prog 35 #[.slice b 0 c, .int .i64 k] w fun e w' => e = .returned (.int .i64 k) ∧ w = w' := by
  go_enter Try.func35, Try.ntmps35
  go_wp2
  refine wp_loop_rounds 1 ?_
  rw [rounds_succ]; go_wp2
  go_ret
  exact ⟨rfl, rfl⟩
theorem heldPointS_nil (b : Option Addr) (c : Nat) (k : Int) (w : World) : Calls Try.prog 36 #[.slice b 0 c, .int .i64 k] w fun e w' => e = .returned (.int .i64 k) ∧ w = w' := by
  go_enter Try.func36, Try.ntmps36
  go_wp2
  refine wp_loop_rounds 1 ?_
  rw [rounds_succ]; go_wp2
  go_ret
  exact ⟨rfl, rfl⟩
end Go.Proofs.Ytoagfpdicpcjnaa
/- Contracts: the Singer map, as the reference finds it; SingerMap. (Printed by gens7.py, a program of this session.) -/
namespace Go.Proofs.Ytoagfpdicpcjnaa
open Go.RowKit
set_option linter.unusedVariables false
set_option linter.unusedSimpArgs false
/-- What SingerMap returns. -/
def singM (n : Nat) : Value := .agg (cellsM9 (compM n (firstC n)))
end Go.Proofs.Ytoagfpdicpcjnaa
/- Contracts: the Singer order of a prime; SingerOrder, the program's and the reference's. -/
namespace Go.Proofs.Ytoagfpdicpcjnaa
open Go.RowKit
set_option linter.unusedVariables false
set_option linter.unusedSimpArgs false
/-- A new list of points, and no error. -/
structure PtsPost2 (w : World) (l : List Pt) (e : Ending) (w' : World) : Prop where
  out : ∃ v, e = .returned (.tuple #[v, .int .i64 0]) ∧ w'.ownsRow w.heap.size 33 3 v l.length (ptCs l) ∧ Below w.heap.size w w'
end Go.Proofs.Ytoagfpdicpcjnaa
/- The law FnExactSingerOrder, walked. -/
namespace Go.Proofs.Ytoagfpdicpcjnaa
open Go.RowKit
set_option linter.unusedVariables false
set_option linter.unusedSimpArgs false
theorem own_room {W : World} {base : Nat} {T : TypeId} {v : Value} {l : List Pt} {n : Nat} (h : W.ownsRow base T 3 v n (ptCs l)) (hl : l.length = n) (hn : 0 < n) :
    ∃ g cap, v = .slice (some ⟨g, 0, none⟩) n cap ∧ base ≤ g ∧ g < W.heap.size ∧ n ≤ cap ∧ RoomP W g cap T ∧ PtsAt W g 0 n l := by
  obtain ⟨g, cap, e, hb, hg, hp⟩ := ownPts h hl hn
  rcases h.2 with ⟨_, h0⟩ | ⟨g', cap', cur, e', hb', hg', hle, _, hsz, htk⟩
  · omega
  · rw [e] at e'
    cases e'
    exact ⟨g, cap, e, hb, hg, hle, ⟨cur, hg', hsz⟩, hp⟩
theorem PtsAt.save {w W : World} {g0 b o n : Nat} {l : List Pt} (h : PtsAt w b o n l) (hs : Save g0 w W) (hne : b ≠ g0) (hlt : b < w.heap.size) : PtsAt W b o n l := by
  have hc : ∀ i, W.cell? ⟨b, i, none⟩ = w.cell? ⟨b, i, none⟩ := fun i => by
    unfold World.cell?
    rw [hs.block b hlt hne]
  intro i hi
  rw [hc, hc, hc]
  exact h i hi
theorem mark_101 (g Q c cap : Nat) (T : TypeId) (W : World) (hr : RoomP W g cap T) (hn : Q ≤ cap) (hQ : Q ≤ 1000000) (M : Int) (hM : ((101 + 3 * Q : Nat) : Int) = M) :
    Calls Try.prog 35 #[.slice (some ⟨g, 0, none⟩) Q c, .int .i64 101] W (fun e w' => e = .returned (.int .i64 M) ∧ Save g W w' ∧ PtsAt w' g 0 Q (markL 101 Q)) := by
  have h := markPointS_any g Q c 101 cap T W hr hn hQ (by omega)
  rw [← hM]
  exact h.mono fun e w' ⟨h1, h2, _, h4⟩ => ⟨h1, h2, h4⟩
theorem held_101 (g Q c : Nat) (W : World) (hQ : Q ≤ 1000000) (hp : PtsAt W g 0 Q (markL 101 Q)) (M : Int) (hM : ((101 + 3 * Q : Nat) : Int) = M) :
    Calls Try.prog 36 #[.slice (some ⟨g, 0, none⟩) Q c, .int .i64 101] W (Ret W (.int .i64 M)) := by
  rw [← hM]
  exact heldPointS_any g Q c 101 W hQ (by omega) hp
end Go.Proofs.Ytoagfpdicpcjnaa
/- Laws with a list of points in and a list of points out: what their helpers do, in facts that a search finds. -/
namespace Go.Proofs.Ytoagfpdicpcjnaa
open Go.RowKit
set_option linter.unusedVariables false
set_option linter.unusedSimpArgs false
/-- All blocks but one are as they were. -/
structure SaveP (g : Nat) (w W : World) : Prop where
  out : Save g w W
/-- A block of points that can be written. -/
structure RoomPK (W : World) (g cap : Nat) (T : TypeId) : Prop where
  out : RoomP W g cap T
theorem save_cell {w W : World} {g b o : Nat} {v : Value} (hs : Save g w W) (hne : b ≠ g) (h : w.cell? ⟨b, o, none⟩ = some v) : W.cell? ⟨b, o, none⟩ = some v := by
  have hlt : b < w.heap.size := World.block_lt_of_cell? w _ h
  rw [← h]
  unfold World.cell?
  rw [hs.block b hlt hne]
theorem PtsK.saveP {w W : World} {g b o n : Nat} {L : List Pt} (hs : SaveP g w W) (hne : b ≠ g) (h : PtsK w b o n L) : PtsK W b o n L := ⟨fun i hi => ⟨save_cell hs.out hne (h.out i hi).1, save_cell hs.out hne (h.out i hi).2.1, save_cell hs.out hne (h.out i hi).2.2⟩⟩
theorem RoomPK.lt {W : World} {g cap : Nat} {T : TypeId} (h : RoomPK W g cap T) : g < W.heap.size := by
  obtain ⟨cur, h1, -⟩ := h.out
  exact (Array.getElem?_eq_some_iff.1 h1).1
theorem RoomPK.link {w W : World} {g cap : Nat} {T : TypeId} (l : Link w W) (h : RoomPK w g cap T) : RoomPK W g cap T := by
  obtain ⟨cur, h1, h2⟩ := h.out
  exact ⟨⟨cur, by rw [l.out.block _ (Array.getElem?_eq_some_iff.1 h1).1]; exact h1, h2⟩⟩
theorem RoomPK.saveP {w W : World} {g b cap : Nat} {T : TypeId} (hs : SaveP g w W) (hne : b ≠ g) (h : RoomPK w b cap T) : RoomPK W b cap T := by
  obtain ⟨cur, h1, h2⟩ := h.out
  exact ⟨⟨cur, by rw [hs.out.block b (Array.getElem?_eq_some_iff.1 h1).1 hne]; exact h1, h2⟩⟩
theorem LowK.saveP {w w1 W : World} {g : Nat} (hs : SaveP g w1 W) (hg : w.heap.size ≤ g) (h : LowK w w1) : LowK w W := ⟨hs.out.below h.out hg h.out.size⟩
theorem fP {W : World} {b o n : Nat} {L : List Pt} (h : PtsK W b o n L := by repeat (first | with_reducible assumption | (apply PtsK.link; (· with_reducible assumption)) | (apply PtsK.saveP; (· with_reducible assumption); (· omega)))) : PtsK W b o n L := h
theorem fQ {W : World} {g cap : Nat} {T : TypeId} (h : RoomPK W g cap T := by repeat (first | with_reducible assumption | (apply RoomPK.link; (· with_reducible assumption)) | (apply RoomPK.saveP; (· with_reducible assumption); (· omega)))) : RoomPK W g cap T := h
theorem fLP {w W : World} (h : LowK w W := by repeat (first | with_reducible assumption | with_reducible exact LowK.refl _ | (apply LowK.link; (· with_reducible assumption)) | (apply LowK.saveP; (· with_reducible assumption); (· omega)))) : LowK w W := h
/-- A copy of an argument. -/
structure CopyP (w : World) (k : Nat) (l : List Pt) (e : Ending) (w' : World) : Prop where
  out : ∃ g, e = .returned (.slice (some ⟨g, 0, none⟩) k (k + roomN k)) ∧ w.heap.size ≤ g ∧ g < w'.heap.size ∧ RoomPK w' g (k + roomN k) 33 ∧ PtsK w' g 0 (k + roomN k) (withRoomP l) ∧ PtsK w' g 0 k l ∧ Link w w'
theorem eqP_K (g g2 n c c2 : Nat) (L : List Pt) (w : World) (hn : n ≤ 1000000) (hL : L.length = n) (h1 : PtsK w g 0 n L) (h2 : PtsK w g2 0 n L) :
    Calls Try.prog 34 #[.slice (some ⟨g, 0, none⟩) n c, .slice (some ⟨g2, 0, none⟩) n c2] w (Ret w (.bool true)) :=
  eqPointS_same (some ⟨g, 0, none⟩) (some ⟨g2, 0, none⟩) n c c2 L w (by omega) (listP_mk hL h1.out) (listP_mk hL h2.out)
theorem eqPZ_K (c c2 : Nat) (w : World) : Calls Try.prog 34 #[.slice none 0 c, .slice none 0 c2] w (Ret w (.bool true)) :=
  eqPointS_same none none 0 c c2 [] w (by omega) ⟨rfl, fun h => absurd h (Nat.lt_irrefl _)⟩ ⟨rfl, fun h => absurd h (Nat.lt_irrefl _)⟩
structure MarkP (g n : Nat) (M : Int) (w : World) (e : Ending) (w' : World) : Prop where
  out : e = .returned (.int .i64 M) ∧ SaveP g w w' ∧ w.heap.size ≤ w'.heap.size ∧ PtsK w' g 0 n (markL 101 n)
theorem markP_K (g n c cap : Nat) (T : TypeId) (w : World) (hr : RoomPK w g cap T) (hn : n ≤ cap) (h1 : n ≤ 1000000) (M : Int) (hM : ((101 + 3 * n : Nat) : Int) = M) :
    Calls Try.prog 35 #[.slice (some ⟨g, 0, none⟩) n c, .int .i64 101] w (MarkP g n M w) :=
  (mark_101 g n c cap T w hr.out hn h1 M hM).mono fun e w' ⟨h1, h2, h3⟩ => ⟨h1, ⟨h2⟩, h2.size, ⟨h3⟩⟩
theorem heldP_K (g n c : Nat) (w : World) (h1 : n ≤ 1000000) (hp : PtsK w g 0 n (markL 101 n)) (M : Int) (hM : ((101 + 3 * n : Nat) : Int) = M) :
    Calls Try.prog 36 #[.slice (some ⟨g, 0, none⟩) n c, .int .i64 101] w (Ret w (.int .i64 M)) := held_101 g n c w h1 hp.out M hM
theorem markPZ_K (b : Option Addr) (k c : Nat) (q : Int) (w : World) (h : k = 0) : Calls Try.prog 35 #[.slice b k c, .int .i64 q] w fun e w' => e = .returned (.int .i64 q) ∧ w = w' := by
  subst h; exact markPointS_nil b c q w
/-- A new list of points, not empty, and no error. -/
structure MadeP (w : World) (n : Nat) (R : List Pt) (e : Ending) (w' : World) : Prop where
  out : ∃ g c, e = .returned (.tuple #[.slice (some ⟨g, 0, none⟩) n c, .int .i64 0]) ∧ w.heap.size ≤ g ∧ g < w'.heap.size ∧ n ≤ c ∧ RoomPK w' g c 33 ∧ PtsK w' g 0 n R ∧ Link w w'
theorem ListC.at {W : World} {g n c : Nat} {l : List Pt} (hl : l.length = n) (h : PtsK W g 0 n l) : ListC W (some ⟨g, 0, none⟩) n c l := ⟨hl, .inr ⟨g, rfl, h.out⟩⟩
theorem ListC.nil {W : World} {l : List Pt} {n : Nat} (h : n = 0) (hl : l.length = n) : ListC W none n 0 l := ⟨hl, .inl ⟨rfl, h, rfl⟩⟩
theorem OwnK.made {w W : World} {v : Value} {n : Nat} {l : List Pt} (h : OwnK W w.heap.size 33 3 v n (ptCs l)) (hl : l.length = n) (hn : 0 < n) (hL : LowK w W) : MadeP w n l (.returned (.tuple #[v, .int .i64 0])) W := by
  have h0 := h
  rcases h.out.2 with ⟨_, h0⟩ | ⟨g, cap, cur, rfl, hb, hg, hle, _, hsz, htk⟩
  · omega
  · obtain ⟨g2, cap2, e2, -, -, hP⟩ := h.pts hl hn
    cases e2
    exact ⟨⟨_, _, rfl, hb, (Array.getElem?_eq_some_iff.1 hg).1, hle, ⟨cur, hg, hsz⟩, hP, LowK.lnk hL⟩⟩
end Go.Proofs.Ytoagfpdicpcjnaa
