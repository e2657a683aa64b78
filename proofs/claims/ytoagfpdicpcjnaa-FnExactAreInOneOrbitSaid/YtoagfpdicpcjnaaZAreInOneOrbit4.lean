/- Texts of the claim, in build order: Q3, OC4. No condition. -/
import Derived.Maps.AppendAt
import Derived.Test.YtoagfpdicpcjnaaZAreInOneOrbit3
/- Contracts: slices.Index and slices.Contains over points; two own lists of points, with what else a walk holds. (Printed by genq3.py, a program of this session.) -/
namespace Go.Proofs.Ytoagfpdicpcjnaa
open Go.RowKit
set_option linter.unusedVariables false
set_option linter.unusedSimpArgs false
/-- The number that Index hands back. -/
def IdxOf (x : Pt) (L : List Pt) (w : World) (e : Ending) (w' : World) : Prop := ∃ v : Int, e = .returned (.int .i64 v) ∧ decide (0 ≤ v) = L.any (fun b => eqP x b) ∧ Below w.heap.size w w'
set_option maxRecDepth 20000 in
set_option maxHeartbeats 4000000 in
theorem IndexP_any (x0 x1 x2 : Int) (g n c : Nat) (L : List Pt) (w : World) (hn : n ≤ 1000000) (hL : L.length = n) (hP : PtsAt w g 0 n L) :
    Calls Try.prog 51 #[.slice (some ⟨g, 0, none⟩) n c, ptV x0 x1 x2] w (IdxOf (x0, x1, x2) L w) := by
  have HP := Lib.hid hP
  have HLn := Lib.hid hL
  clear hP hL
  go_enter Try.func51, Try.ntmps51
  go_wp2
  go_loopw [8] (fun i wr => ∃ k : Nat, k ≤ n ∧ i = .int .i64 k ∧ Hid (∀ j, j < k → eqP (x0, x1, x2) (L.getD j (0, 0, 0)) = false) ∧ Hid (wr.heap[w.heap.size]? = some (.cells #[.int .i64 x0, .int .i64 x1, .int .i64 x2] 33 (0, 0))) ∧ Hid (Below w.heap.size w wr)) (fun i wr => n - (intOf i).toNat)
  case atStart => exact ⟨0, Nat.zero_le _, rfl, Lib.hid (fun j hj => absurd hj (Nat.not_lt_zero _)), Lib.hid (heap_alloc_new _ _), Lib.hid (bal (Below.refl _ _) _)⟩
  case round =>
    obtain ⟨k, hk, rfl, HA, HX, HB⟩ := hrel
    by_cases hlt : k < n
    · have hkk := (HP.out.below HB.out) k hlt
      obtain ⟨b, hb⟩ : ∃ b, L.getD k (0, 0, 0) = b := ⟨_, rfl⟩
      rw [hb] at hkk
      obtain ⟨b0, b1, b2⟩ := b
      simp only [Nat.zero_add] at hkk
      obtain ⟨c0, c1, c2⟩ := hkk
      have C0 := Lib.hid c0; have C1 := Lib.hid c1; have C2 := Lib.hid c2
      have hlx := (Array.getElem?_eq_some_iff.1 HX.out).1
      obtain ⟨eb, heb⟩ : ∃ eb, eqP (x0, x1, x2) (b0, b1, b2) = eb := ⟨_, rfl⟩
      have HEb := Lib.hid heb
      have HLb := Lib.hid hb
      clear heb hb c0 c1 c2
      go_wp2
      refine region_calmG [(11, ptV x0 x1 x2), (12, .slice (some ⟨g, 0, none⟩) n c), (13, .int .i64 (k : Int)), (14, .pointer (some ⟨g, k * 3, none⟩)), (15, ptV b0 b1 b2), (16, .bool eb)] (by kernel_rfl) (by kernel_rfl) (by kernel_rfl) (fun aE hpe => ?_)
      simp only [puts, Act.put, List.setIfInBounds_toArray, List.set_cons_zero, List.set_cons_succ] at hpe
      subst hpe
      refine ⟨⟨.inr (.inr ?_), .inr (.inr ?_), .inr (.inr ?_), .inr (.inr ?_), .inr (.inr ?_), .inr (.inr ?_), trivial⟩, ?_⟩
      · exact CalmG.mk 11 (ptV x0 x1 x2) rfl rfl rfl (fun W hW => calm_load (cs := #[.int .i64 x0, .int .i64 x1, .int .i64 x2]) (g := w.heap.size) (T := 33) (fr := (0, 0)) 33 (.tmp 3) rfl rfl ((hW.block _ hlx).trans HX.out) 3 rfl Try.sizeOf33 Try.isAgg33)
      · exact CalmG.mk 12 (.slice (some ⟨g, 0, none⟩) n c) rfl rfl rfl (fun W hW => calm_move (.tmp 0) rfl rfl)
      · exact CalmG.mk 13 (.int .i64 (k : Int)) rfl rfl rfl (fun W hW => calm_move (.tmp 5) rfl rfl)
      · exact CalmG.mk 14 (.pointer (some ⟨g, k * 3, none⟩)) rfl rfl rfl (fun W hW => calm_run (by simp [execOp, Act.eval, go_sem, Addr.add, hlt] <;> omega))
      · exact CalmG.mk 15 (ptV b0 b1 b2) rfl rfl rfl (fun W hW => calm_loadPt 33 (.tmp 14) rfl rfl (cell_below hW C0.out) (cell_below hW C1.out) (cell_below hW C2.out) Try.sizeOf33 Try.isAgg33)
      · exact CalmG.mk 16 (.bool eb) rfl rfl rfl (fun W hW => calm_eqPo (.tmp 11) (.tmp 15) rfl rfl rfl HEb.out)
      intro W hW
      have HW := Lib.hid hW
      have hws := hW.size
      clear hW
      cases eb with
      | true =>
        go_wp2
        go_ret
        refine ⟨(k : Int), rfl, ?_, low_tr' HB.out HW.out HB.out.size⟩
        rw [decide_eq_true (by omega), Eq.comm, List.any_eq_true]
        exact ⟨(b0, b1, b2), by have h9 : k < L.length := (by rw [HLn.out]; exact hlt); rw [← HLb.out, List.getD_eq_getElem?_getD, List.getElem?_eq_getElem h9]; exact List.getElem_mem h9, HEb.out⟩
      | false =>
        go_wp2
        go_roundw
        case rel => exact ⟨k + 1, by omega, by go_num, Lib.hid (fun j hj => by
          rcases Nat.lt_or_ge j k with h | h
          · exact HA.out j h
          · have : j = k := by omega
            rw [this, HLb.out]; exact HEb.out), Lib.hid ((HW.out.block _ hlx).trans HX.out), Lib.hid (low_tr' HB.out HW.out HB.out.size)⟩
        case measure => simp [intOf]; omega
    · have hkn : k = n := by omega
      go_wp2
      go_ret
      refine ⟨-1, rfl, ?_, HB.out⟩
      rw [decide_eq_false (by omega), Eq.comm, List.any_eq_false]
      intro b hb
      obtain ⟨j, hj, e⟩ := List.mem_iff_getElem.1 hb
      have := HA.out j (by rw [hkn, ← HLn.out]; exact hj)
      rw [List.getD_eq_getElem?_getD, List.getElem?_eq_getElem hj] at this
      simp only [Option.getD_some] at this
      rw [← e, this]; simp
set_option maxHeartbeats 2000000 in
theorem ContainsP_any (x0 x1 x2 : Int) (g n c : Nat) (L : List Pt) (w : World) (hn : n ≤ 1000000) (hL : L.length = n) (hP : PtsAt w g 0 n L) :
    Calls Try.prog 32 #[.slice (some ⟨g, 0, none⟩) n c, ptV x0 x1 x2] w (Ret w (.bool (L.any (fun b => eqP (x0, x1, x2) b)))) := by
  have HI := Lib.hid (fun (W : World) (hW : Below w.heap.size w W) => IndexP_any x0 x1 x2 g n c L W hn hL (hP.below hW))
  clear hP hL
  go_enter Try.func32, Try.ntmps32
  go_wp2_with (first
    | (refine wpList_load_row _ rfl 33 _ rfl (g := w.heap.size) (T := 33) (cs := #[.int .i64 x0, .int .i64 x1, .int .i64 x2]) (fr := (0, 0)) rfl (heap_alloc_new _ _) 3 rfl Try.sizeOf33 Try.isAgg33 ?_)
    | (go_at_call 51; refine (HI.out _ (bal (Below.refl _ _) _)).mono ?_; rintro e w1_ ⟨v, rfl, hv, hb⟩; have HV := Lib.hid hv; have HB1 := Lib.hid hb; clear hv hb))
  go_ret
  refine ⟨?_, (by repeat (first | exact Below.refl _ _ | refine bset ?_ _ _ (by omega) _ | refine bal ?_ _ | refine bdrN ?_ _ | refine bdr ?_ | refine below_tr' ?_ HB1.out))⟩
  rw [← HV.out]
  first | rfl | simp [Value.bool]
end Go.Proofs.Ytoagfpdicpcjnaa
/- Contracts: the program's AreInOneOrbit. -- maps -- gomaps -- slice2 -- classes -/
namespace Go.Proofs.Ytoagfpdicpcjnaa
open Go.RowKit
set_option linter.unusedVariables false
set_option linter.unusedSimpArgs false
theorem tabL_mem {cls : Nat → Nat} {L l : _} {N : Nat} : ∀ {i}, l ∈ tabL cls L N i → ∃ c, c < i ∧ l = filtP cls L c N
  | 0, h => by simp [tabL] at h
  | i + 1, h => by
    by_cases hp : 0 < (filtP cls L i N).length
    · rw [tabL_yes rfl hp] at h
      rcases List.mem_append.1 h with h | h
      · obtain ⟨c, h1, h2⟩ := tabL_mem h
        exact ⟨c, by omega, h2⟩
      · exact ⟨i, by omega, List.mem_singleton.1 h⟩
    · rw [tabL_no rfl hp] at h
      obtain ⟨c, h1, h2⟩ := tabL_mem h
      exact ⟨c, by omega, h2⟩
theorem tabL_has {cls : Nat → Nat} {L : List Pt} {N c : Nat} (h : 0 < (filtP cls L c N).length) : ∀ {i}, c < i → filtP cls L c N ∈ tabL cls L N i
  | 0, hc => absurd hc (Nat.not_lt_zero _)
  | i + 1, hc => by
    by_cases hp : 0 < (filtP cls L i N).length
    · rw [tabL_yes rfl hp]
      by_cases e : c = i
      · subst e; simp
      · exact List.mem_append_left _ (tabL_has h (by omega))
    · rw [tabL_no rfl hp]
      exact tabL_has h (by
        by_cases e : c = i
        · subst e; exact absurd h hp
        · omega)
/-- In the lists of the classes a point's list is its orbit. -/
structure OrbL (Ls : List (List Pt)) (x y : Pt) (v : Bool) : Prop where
  has : ∃ l ∈ Ls, x ∈ l
  all : ∀ l ∈ Ls, x ∈ l → decide (y ∈ l) = v
theorem orb_lists {n N K : Nat} {ms : List M9} {L : List Pt} (h : MsOk n ms) (hL : allP n = L) (hN : L.length = N) {x y : Pt} (hx : x ∈ L) (hy : y ∈ L) (hK : WholeP n ms x K) {S : List Pt} (hS : seqP n ms x K = S) {v : Bool} (hv : decide (y ∈ S) = v) :
    OrbL (tabL (classP n ms) L N N) x y v := by
  have hnd : L.Nodup := by rw [← hL]; exact nodup_allP h.pr
  obtain ⟨i, hi, rfl⟩ := atP_mem hx
  obtain ⟨j, hj, rfl⟩ := atP_mem hy
  subst hL
  have hc := class_P h hi hj hK
  have uniq : ∀ {a b : Nat}, a < (allP n).length → b < (allP n).length → (allP n).getD a p0 = (allP n).getD b p0 → a = b := fun {a b} ha hb e => by
    have h1 := (place_of hnd ha rfl).2
    have h2 := (place_of hnd hb rfl).2
    rw [e] at h1; rw [h1] at h2; exact h2
  have hm : ∀ {q c : Nat}, q < (allP n).length → ((allP n).getD q p0 ∈ filtP (classP n ms) (allP n) c N ↔ classP n ms q = c) := fun {q c} hq => by
    rw [filtP_mem]
    constructor
    · rintro ⟨r, hr, h1, h2⟩
      rw [← uniq (by omega) hq h2]; exact h1
    · intro e; exact ⟨q, by omega, e, rfl⟩
  have hxm := (hm hi).2 rfl
  refine ⟨⟨_, tabL_has (List.length_pos_of_mem hxm) (Nat.lt_of_le_of_lt (classP_lab n ms i).1 (by omega)), hxm⟩, fun l hl hxl => ?_⟩
  obtain ⟨c, hcN, rfl⟩ := tabL_mem hl
  have e1 := (hm hi).1 hxl
  rw [← hv, ← hS]
  have : (allP n).getD j p0 ∈ filtP (classP n ms) (allP n) c N ↔ (allP n).getD j p0 ∈ seqP n ms ((allP n).getD i p0) K := by
    rw [hm hj, ← hc, e1]
    exact ⟨fun e => e.symm, fun e => e.symm⟩
  simp only [this]
theorem any_eqP (p : Pt) (L : List Pt) : L.any (fun b => eqP p b) = decide (p ∈ L) := by
  rw [Bool.eq_iff_iff, List.any_eq_true, decide_eq_true_iff]
  constructor
  · rintro ⟨b, hb, e⟩; rw [eqP_iff.1 e]; exact hb
  · intro h; exact ⟨p, h, eqP_iff.2 rfl⟩
theorem Contains_D {p : Pt} {g n c : Nat} {L : List Pt} (w : World) (hn : n ≤ 1000000) (hL : L.length = n) (hP : PtsK w g 0 n L) {v : Bool} (hv : decide (p ∈ L) = v) : Calls Try.prog 32 #[.slice (some ⟨g, 0, none⟩) n c, pV p] w (Ret w (.bool v)) := by
  rw [← hv, ← any_eqP]; exact ContainsP_any p.1 p.2.1 p.2.2 g n c L w hn hL hP.out
/-- The table's header, read. -/
theorem OwnK.tab {W : World} {B : Nat} {v : Value} {T : List Row3} (h : OwnK W B 51 1 v T.length (tabV T)) (hn : 0 < T.length) :
    ∃ g cap, v = .slice (some ⟨g, 0, none⟩) T.length cap ∧ ∀ j, j < T.length → CellK W g j (slV (T.getD j (0, 0, []))) := by
  rcases h.out.2 with ⟨_, h0⟩ | ⟨g, cap, cur, rfl, hb, hg, hle, _, hsz, htk⟩
  · omega
  · refine ⟨g, cap, rfl, fun j hj => ⟨?_⟩⟩
    rw [cell_of_row W g j _ _ _ hg]
    have h1 : (cur.toList.take (T.length * 1))[j]? = (tabV T)[j]? := by rw [htk]
    rw [Nat.mul_one, List.getElem?_take_of_lt hj] at h1
    rw [← Array.getElem?_toList, h1]
    simp [tabV, List.getD, hj]
theorem getT_mem {T : List Row3} {j : Nat} (h : j < T.length) : T.getD j (0, 0, []) ∈ T := by rw [List.getD_eq_getElem?_getD, List.getElem?_eq_getElem h]; exact List.getElem_mem _
theorem tab_pos {Ls : List (List Pt)} {x y : Pt} {v : Bool} {T : List Row3} (h : OrbL Ls x y v) (hT : T.map (·.2.2) = Ls) : 0 < T.length := by
  obtain ⟨l, hl, -⟩ := h.has
  have := List.length_pos_of_mem hl
  rw [← hT, List.length_map] at this
  exact this
set_option maxRecDepth 20000 in
set_option maxHeartbeats 8000000 in
theorem AreInOneOrbit_impl_code (p : Int) (b : Option Addr) (k c : Nat) (ms : List M9) (x y : Pt) (w : World) (hk : k ≤ 1000000) (hms : ListM w b k ms) {cd : Int} (hcode : codeML p k (oksM p ms && ptsB p [x, y]) = cd) (hc : ¬ cd = 0) :
    Calls Try.prog 13 #[.int .i64 p, .slice b k c, pV x, pV y] w (Ret w (.tuple #[.bool false, .int .i64 cd])) := by
  have HV := Lib.hid hcode
  clear hcode
  go_enter Try.func13, Try.ntmps13
  go_wp2_with (first | (refine wl_loadJ ?_) | (refine wl_load ?_) | (refine wl_loadM ?_) | (refine wl_storeJ ?_) | (refine wl_mapNewP ?_) | (refine wl_mapUpdP (L := ?_) ?_ ?_ ?_ ?_ (ho := .inl rfl); rotate_left 2; exact findGomP; assumption; assumption; intro Wm hMm hTm; have hs := hTm.out.1; (try simp at hs); (try have hOm := OwnK.turnP hTm findGomP findOwn); (try have hVm := LowK.turnP hTm (by assumption) findLow)) | (refine wl_fill1 ?_) | (refine wl_fill2 ?_) | (refine wl_storeM ?_) | (refine wl_makeM ?_; intro gm W' hgm hl hT; have hs := hl.out.size; (try simp at hs)) | (refine wl_store (h1 := mC_one _) ?_) | (refine wl_sliceM ?_) | (refine wl_append (he := eltMp) (h1 := mC_one _) ?_; intro v' w' ho hg hb; have hs := hg.size; (try simp at hs); rw [mCs_snoc] at ho; (try obtain ⟨gz, cz, rfl, hzb, hzl, -⟩ := OwnK.maps ho (by simp) (by omega))) | (refine wl_mapLook true ?_ (hM := findGom) (hv := by (first | exact decide_eq_true (by assumption)))) | (refine wl_mapLook false ?_ (hM := findGom) (hv := by (first | exact decide_eq_false (by assumption)))) | (refine wl_store ?_) | (refine wl_build ?_) | (refine wl_slice ?_) | (refine wl_slice2 ?_) | (refine wl_append (he := eltSp) ?_; intro v' w' ho hg hb; have hs := hg.size; (try simp at hs)) | (refine wl_append ?_; intro v' w' ho hg hb; have hs := hg.size; (try simp at hs); (try rw [ptCs_end] at ho); (try rw [ints_end] at ho); (try simp only [Nat.zero_add, Nat.reduceAdd, List.nil_append, List.cons_append] at ho)) | (go_at_call 25; (with_reducible refine (listCode_two p b k c ms _ _ x y _ hk (hms.link (LowK.lnk findLow)) (PtsK.two findRow) HV.out).mono ?_); rintro e w' ⟨rfl, hb⟩; have hl := Link.mk hb; have hs := hb.size; (try simp at hs); clear hb))
  (apply ret_two Try.results13; (conv => lhs; whnf); (conv => lhs; whnf); exact rfl)
  exact ret_ret rfl findLow
set_option maxRecDepth 20000 in
set_option maxHeartbeats 8000000 in
theorem AreInOneOrbit_impl_core (n : Nat) (b : Option Addr) (k c : Nat) (ms : List M9) (x y : Pt) (w : World) (h : MsOk n ms) (hk : k ≤ 8) (hms : ListM w b k ms) (hcode : codeML (n : Int) k (oksM (n : Int) ms && ptsB (n : Int) [x, y]) = 0) {Ls : List (List Pt)} (hLs : tabL (classP n ms) (allP n) (allP n).length (allP n).length = Ls) {v : Bool} (hv : OrbL Ls x y v) :
    Calls Try.prog 13 #[.int .i64 (n : Int), .slice b k c, pV x, pV y] w (Ret w (.tuple #[.bool v, .int .i64 0])) := by
  have HV := Lib.hid hcode
  have HO := Lib.hid (fun (w : World) (hms : ListM w b k ms) => orbits_I n _ (allP n) b k c ms w h hk hms rfl rfl (nodup_allP h.pr))
  rw [hLs] at HO
  have HD := Lib.hid hv
  have hl183 : Ls.length ≤ 183 := by rw [← hLs]; exact Nat.le_trans (tabL_len _ _ _ _) (allP_len183 h.n13.2)
  have hlen : ∀ l ∈ Ls, l.length ≤ 1000000 := fun l hl => by
    rw [← hLs] at hl
    obtain ⟨c, -, rfl⟩ := tabL_mem hl
    have := filtP_len (classP n ms) (allP n) c (allP n).length
    have := allP_len183 h.n13.2
    omega
  have HL := Lib.hid hlen
  clear hcode hv hLs hlen
  go_enter Try.func13, Try.ntmps13
  go_wp2_with (first | (refine wl_loadJ ?_) | (refine wl_load ?_) | (refine wl_loadM ?_) | (refine wl_storeJ ?_) | (refine wl_mapNewP ?_) | (refine wl_mapUpdP (L := ?_) ?_ ?_ ?_ ?_ (ho := .inl rfl); rotate_left 2; exact findGomP; assumption; assumption; intro Wm hMm hTm; have hs := hTm.out.1; (try simp at hs); (try have hOm := OwnK.turnP hTm findGomP findOwn); (try have hVm := LowK.turnP hTm (by assumption) findLow)) | (refine wl_fill1 ?_) | (refine wl_fill2 ?_) | (refine wl_storeM ?_) | (refine wl_makeM ?_; intro gm W' hgm hl hT; have hs := hl.out.size; (try simp at hs)) | (refine wl_store (h1 := mC_one _) ?_) | (refine wl_sliceM ?_) | (refine wl_append (he := eltMp) (h1 := mC_one _) ?_; intro v' w' ho hg hb; have hs := hg.size; (try simp at hs); rw [mCs_snoc] at ho; (try obtain ⟨gz, cz, rfl, hzb, hzl, -⟩ := OwnK.maps ho (by simp) (by omega))) | (refine wl_mapLook true ?_ (hM := findGom) (hv := by (first | exact decide_eq_true (by assumption)))) | (refine wl_mapLook false ?_ (hM := findGom) (hv := by (first | exact decide_eq_false (by assumption)))) | (refine wl_store ?_) | (refine wl_build ?_) | (refine wl_slice ?_) | (refine wl_slice2 ?_) | (refine wl_append (he := eltSp) ?_; intro v' w' ho hg hb; have hs := hg.size; (try simp at hs)) | (refine wl_append ?_; intro v' w' ho hg hb; have hs := hg.size; (try simp at hs); (try rw [ptCs_end] at ho); (try rw [ints_end] at ho); (try simp only [Nat.zero_add, Nat.reduceAdd, List.nil_append, List.cons_append] at ho)) | (go_at_call 25; (with_reducible refine (listCode_two n b k c ms _ _ x y _ (by omega) (hms.link (LowK.lnk findLow)) (PtsK.two findRow) HV.out).mono ?_); rintro e w' ⟨rfl, hb⟩; have hl := Link.mk hb; have hs := hb.size; (try simp at hs); clear hb) | (go_at_call 31; (with_reducible refine (HO.out _ (hms.link (LowK.lnk findLow))).mono ?_); rintro e w' ⟨v', T, rfl, hTL, hT, hO, hb⟩; have hTn := tab_pos HD.out hTL; obtain ⟨gt, ct, rfl, hC⟩ := hO.tab hTn; have hl2 := LowK.lnk hb; have hs := hb.size))
  have hx0 : RowK w' w.heap.size (pC x) 33 := findRow
  have hy0 : RowK w' (w.heap.size + 1) (pC y) 33 := findRow
  have hVw : LowK w w' := findLow
  have hTm : ∀ j, j < T.length → (T.getD j (0, 0, [])).2.2 ∈ Ls := fun j hj => by rw [← hTL]; exact List.mem_map_of_mem (getT_mem hj)
  have HTM := Lib.hid hTm
  have hT183 : T.length ≤ 183 := by have := congrArg List.length hTL; rw [List.length_map] at this; omega
  clear hl2 hs hTm hO hb
  go_loopw [26] (fun iv wr => ∃ i : Nat, i ≤ T.length ∧ iv = .int .i64 (i : Int) ∧ (∀ j, j < i → x ∉ (T.getD j (0, 0, [])).2.2) ∧ LowK w' wr) (fun iv wr => T.length - (intOf iv).toNat)
  case atStart => exact ⟨0, Nat.zero_le _, rfl, fun j hj => absurd hj (Nat.not_lt_zero _), LowK.refl _⟩
  case round =>
    obtain ⟨i, hi, rfl, hno, hV⟩ := hrel
    have hxr := hx0.link (LowK.lnk hV)
    have hyr := hy0.link (LowK.lnk hV)
    have hVr := LowK.link (LowK.lnk hV) hVw
    by_cases hlt : i < T.length
    · have c1 := (hC i hlt).link (LowK.lnk hV)
      have htk := (hT.link (LowK.lnk hV)).out.1 _ (getT_mem hlt)
      have hml := HTM.out i hlt
      obtain ⟨t, ht⟩ : ∃ t, T.getD i (0, 0, []) = t := ⟨_, rfl⟩
      rw [ht] at c1 htk hml
      have HT := Lib.hid ht
      clear ht
      obtain ⟨g, cg, l⟩ := t
      obtain ⟨hpos, hOl⟩ := htk
      obtain ⟨g2, c2, e2, -, -, hPl⟩ := OwnK.pts hOl rfl hpos
      obtain rfl : g = g2 := by injection e2 with h1; injection h1 with h1; injection h1
      clear e2 hOl
      have hll := HL.out l hml
      replace c1 : CellK wr gt i (.slice (some ⟨g, 0, none⟩) l.length cg) := c1
      replace hPl : PtsK wr g 0 l.length l := hPl
      obtain ⟨u, hu⟩ : ∃ u, decide (x ∈ l) = u := ⟨_, rfl⟩
      have HU := Lib.hid hu
      rcases u with _ | _
      · clear hu
        go_wp2_with (first | (refine wl_loadJ ?_) | (refine wl_load ?_) | (refine wl_loadM ?_) | (refine wl_storeJ ?_) | (refine wl_mapNewP ?_) | (refine wl_mapUpdP (L := ?_) ?_ ?_ ?_ ?_ (ho := .inl rfl); rotate_left 2; exact findGomP; assumption; assumption; intro Wm hMm hTm; have hs := hTm.out.1; (try simp at hs); (try have hOm := OwnK.turnP hTm findGomP findOwn); (try have hVm := LowK.turnP hTm (by assumption) findLow)) | (refine wl_fill1 ?_) | (refine wl_fill2 ?_) | (refine wl_storeM ?_) | (refine wl_makeM ?_; intro gm W' hgm hl hT; have hs := hl.out.size; (try simp at hs)) | (refine wl_store (h1 := mC_one _) ?_) | (refine wl_sliceM ?_) | (refine wl_append (he := eltMp) (h1 := mC_one _) ?_; intro v' w' ho hg hb; have hs := hg.size; (try simp at hs); rw [mCs_snoc] at ho; (try obtain ⟨gz, cz, rfl, hzb, hzl, -⟩ := OwnK.maps ho (by simp) (by omega))) | (refine wl_mapLook true ?_ (hM := findGom) (hv := by (first | exact decide_eq_true (by assumption)))) | (refine wl_mapLook false ?_ (hM := findGom) (hv := by (first | exact decide_eq_false (by assumption)))) | (refine wl_store ?_) | (refine wl_build ?_) | (refine wl_slice ?_) | (refine wl_slice2 ?_) | (refine wl_append (he := eltSp) ?_; intro v' w' ho hg hb; have hs := hg.size; (try simp at hs)) | (refine wl_append ?_; intro v' w' ho hg hb; have hs := hg.size; (try simp at hs); (try rw [ptCs_end] at ho); (try rw [ints_end] at ho); (try simp only [Nat.zero_add, Nat.reduceAdd, List.nil_append, List.cons_append] at ho)) | (go_at_call 32; (with_reducible refine (Contains_D _ hll rfl findPts HU.out).mono ?_); rintro e w' ⟨rfl, hb⟩; have hl := Link.mk hb; have hs := hb.size; (try simp at hs); clear hb))
        go_roundw
        case rel => exact ⟨i + 1, by omega, by go_num, fun j hj => by
          by_cases e : j = i
          · subst e; rw [HT.out]; exact of_decide_eq_false HU.out
          · exact hno j (by omega), findLow⟩
        case measure => (simp [intOf]; try omega)
      · have HV2 := Lib.hid (HD.out.all l hml (of_decide_eq_true hu))
        clear hu
        go_wp2_with (first | (refine wl_loadJ ?_) | (refine wl_load ?_) | (refine wl_loadM ?_) | (refine wl_storeJ ?_) | (refine wl_mapNewP ?_) | (refine wl_mapUpdP (L := ?_) ?_ ?_ ?_ ?_ (ho := .inl rfl); rotate_left 2; exact findGomP; assumption; assumption; intro Wm hMm hTm; have hs := hTm.out.1; (try simp at hs); (try have hOm := OwnK.turnP hTm findGomP findOwn); (try have hVm := LowK.turnP hTm (by assumption) findLow)) | (refine wl_fill1 ?_) | (refine wl_fill2 ?_) | (refine wl_storeM ?_) | (refine wl_makeM ?_; intro gm W' hgm hl hT; have hs := hl.out.size; (try simp at hs)) | (refine wl_store (h1 := mC_one _) ?_) | (refine wl_sliceM ?_) | (refine wl_append (he := eltMp) (h1 := mC_one _) ?_; intro v' w' ho hg hb; have hs := hg.size; (try simp at hs); rw [mCs_snoc] at ho; (try obtain ⟨gz, cz, rfl, hzb, hzl, -⟩ := OwnK.maps ho (by simp) (by omega))) | (refine wl_mapLook true ?_ (hM := findGom) (hv := by (first | exact decide_eq_true (by assumption)))) | (refine wl_mapLook false ?_ (hM := findGom) (hv := by (first | exact decide_eq_false (by assumption)))) | (refine wl_store ?_) | (refine wl_build ?_) | (refine wl_slice ?_) | (refine wl_slice2 ?_) | (refine wl_append (he := eltSp) ?_; intro v' w' ho hg hb; have hs := hg.size; (try simp at hs)) | (refine wl_append ?_; intro v' w' ho hg hb; have hs := hg.size; (try simp at hs); (try rw [ptCs_end] at ho); (try rw [ints_end] at ho); (try simp only [Nat.zero_add, Nat.reduceAdd, List.nil_append, List.cons_append] at ho)) | (go_at_call 32; (with_reducible refine (Contains_D _ hll rfl findPts (by first | exact HU.out | exact HV2.out)).mono ?_); rintro e w' ⟨rfl, hb⟩; have hl := Link.mk hb; have hs := hb.size; (try simp at hs); clear hb))
        (apply ret_two Try.results13; (conv => lhs; whnf); (conv => lhs; whnf); exact rfl)
        exact ret_ret rfl findLow
    · exfalso
      obtain ⟨l, hl, hxl⟩ := HD.out.has
      rw [← hTL] at hl
      obtain ⟨t, ht, rfl⟩ := List.mem_map.1 hl
      obtain ⟨j, hj, e⟩ := List.mem_iff_getElem.1 ht
      exact hno j (by omega) (by rw [List.getD_eq_getElem?_getD, List.getElem?_eq_getElem hj]; show x ∈ T[j].2.2; rw [e]; exact hxl)
end Go.Proofs.Ytoagfpdicpcjnaa
