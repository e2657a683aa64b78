/- Texts of the claim, in build order: OC5. No condition. -/
import Derived.Test.YtoagfpdicpcjnaaZAreInOneOrbit4
/- The law FnExactAreInOneOrbit: walked, from what the two sides do. (Printed by genoc5.py, a program of this session.) -- maps -/
namespace Go.Proofs.Ytoagfpdicpcjnaa
open Go.RowKit
set_option linter.unusedVariables false
set_option linter.unusedSimpArgs false
theorem toPoint_K (a : Pt) (w : World) : Calls Try.prog 12 #[pV a] w (Ret w (pV a)) := toPoint_any a.1 a.2.1 a.2.2 w
set_option maxHeartbeats 4000000 in
theorem FnExactAreInOneOrbit_big (p : Int) (b : Option Addr) (k cap : Nat) (x y : Pt) (w : World) (hk : 1000000 < k) (hk2 : k ≤ 9223372036854775807) :
    Calls Try.prog 4 #[.int .i64 p, .slice b k cap, pV x, pV y] w (Ret w (.bool true)) := by
  have HZ := Lib.hid (fun (W : World) => szMapS_any b k cap 1000000 W (by omega) hk2)
  rw [if_pos (by omega)] at HZ
  go_enter Try.func4, Try.ntmps4
  go_wp2_with (go_at_call 6; refine (HZ.out _).mono ?_; rintro e w' ⟨rfl, rfl⟩)
  go_ret
  exact ⟨rfl, (by repeat (first | exact Below.refl _ _ | refine bset ?_ _ _ (by omega) _ | refine bal ?_ _ | refine bdrN ?_ _ | refine bdr ?_))⟩
def isMs (k : Nat) (l : List M9) : Value → World → Prop := fun v W => ∃ g cp, v = .slice (some ⟨g, 0, none⟩) k cp ∧ MapsK W g 0 k l
theorem mono_ms (k : Nat) (l : List M9) : Mono (isMs k l) := ⟨fun v W W' ⟨g, cp, h, hM⟩ hb => ⟨g, cp, h, hM.link ⟨hb⟩⟩⟩
theorem rel_ret {P : Program} {o : Oper} {a : Act} {W : World} {v : Value} {Q : Exit → Act → World → Prop} (f : Nat) (c : Call) (args : Array Value) (ho : o.op = .call c) (hc : c.callee = .value (.func f)) (ha : c.args.map a.eval = args)
    (hf : (callFunc f args).run P W = .ok (.enter f args) W) (h : Calls P f args W (Ret W v)) : relAt P o a W (isV v) Q :=
  rel_call f c args ho hc ha hf (h.mono fun e W' ⟨he, hb⟩ => ⟨v, he, hb, rfl⟩)
set_option maxRecDepth 20000 in
set_option maxHeartbeats 8000000 in
theorem FnExactAreInOneOrbit_pos (p : Int) (b : Option Addr) (k cap : Nat) (l : List M9) (x y : Pt) (w : World) (hl : l.length = k) (hk : k ≤ 1000000) (hc : ListM w b k l) (h0 : 0 < k) (v : Bool) (e : Int)
    (HS0 : ∀ (W : World) (b : Option Addr) (c : Nat), ListM W b k l → Calls Try.prog 11 #[.int .i64 p, .slice b k c, pV x, pV y] W (Ret W (.tuple #[.bool v, .int .i64 e]))) (HI1 : ∀ (W : World) (b : Option Addr) (c : Nat), ListM W b k l → Calls Try.prog 13 #[.int .i64 p, .slice b k c, pV x, pV y] W (Ret W (.tuple #[.bool v, .int .i64 e]))) :
    Calls Try.prog 4 #[.int .i64 p, .slice b k cap, pV x, pV y] w (Ret w (.bool true)) := by
  have hz1 : ¬ (1000000 - (k : Int)) < 0 := by omega
  have HS := Lib.hid HS0
  have HI := Lib.hid HI1
  have HL := Lib.hid hl
  have H0 := Lib.hid h0
  have hz : ¬ (1000000 : Int) < (k : Int) := by omega
  clear hl HS0 HI1 h0
  go_enter Try.func4, Try.ntmps4
  go_wp2_with (first | (refine wl_loadM ?_) | (refine wl_load ?_) | (refine wl_fill1 ?_) | (refine wl_fill2 ?_) | (refine wl_storeM ?_) | (refine wl_makeM ?_; intro gm W' hgm hl hT; have hs := hl.out.size; (try simp at hs)) | (refine wl_store ?_) | (refine wl_build ?_) | (refine wl_slice ?_) | (refine wl_append ?_; intro v' w' ho hg hb; have hs := hg.size; (try simp at hs); (try rw [ptCs_end] at ho); (try rw [ints_end] at ho); (try simp only [Nat.zero_add, Nat.reduceAdd, List.nil_append, List.cons_append] at ho)) | (go_at_call 6; (with_reducible refine (szM_K _ k _ _ hk).mono ?_); rintro e w' ⟨rfl, rfl⟩) | ((with_reducible apply region_gd (id := 5)); refine region_QA (id := 5) 13 ?_; apply Exists.intro; refine ⟨fun G => ?_, fun W hl => ?_⟩; (· (simp only [List.take_succ_cons, List.take_zero]; (repeat (first | go_big_quiet_skip | (go_big_quiet_want; first | (refine q_loadM ?_; simp only [Act.put, List.setIfInBounds_toArray, List.set_cons_zero, List.set_cons_succ]; go_big_quiet_on) | (refine q_load ?_; simp only [Act.put, List.setIfInBounds_toArray, List.set_cons_zero, List.set_cons_succ]; go_big_quiet_on) | (go_big_quiet_op; first | go_big_quiet_on)))); exact rfl)); have hs := hl.out.size; (try simp at hs); simp only [List.drop_succ_cons, List.drop_zero]) | ((with_reducible apply region_gd (id := 7)); refine region_QA (id := 7) 12 ?_; apply Exists.intro; refine ⟨fun G => ?_, fun W hl => ?_⟩; (· (simp only [List.take_succ_cons, List.take_zero]; (repeat (first | go_big_quiet_skip | (go_big_quiet_want; first | (refine q_loadM ?_; simp only [Act.put, List.setIfInBounds_toArray, List.set_cons_zero, List.set_cons_succ]; go_big_quiet_on) | (refine q_load ?_; simp only [Act.put, List.setIfInBounds_toArray, List.set_cons_zero, List.set_cons_succ]; go_big_quiet_on) | (go_big_quiet_op; first | go_big_quiet_on)))); exact rfl)); have hs := hl.out.size; (try simp at hs); simp only [List.drop_succ_cons, List.drop_zero]) | ((with_reducible apply region_gd (id := 12)); refine region_QA (id := 12) 13 ?_; apply Exists.intro; refine ⟨fun G => ?_, fun W hl => ?_⟩; (· (simp only [List.take_succ_cons, List.take_zero]; (repeat (first | go_big_quiet_skip | (go_big_quiet_want; first | (refine q_loadM ?_; simp only [Act.put, List.setIfInBounds_toArray, List.set_cons_zero, List.set_cons_succ]; go_big_quiet_on) | (refine q_load ?_; simp only [Act.put, List.setIfInBounds_toArray, List.set_cons_zero, List.set_cons_succ]; go_big_quiet_on) | (go_big_quiet_op; first | go_big_quiet_on)))); exact rfl)); have hs := hl.out.size; (try simp at hs); simp only [List.drop_succ_cons, List.drop_zero]))
  refine at_world _ (fun W => ListM W b k l ∧ RowK W w.heap.size (pC x) 30 ∧ RowK W (w.heap.size + 1) (pC y) 30 ∧ LowK w W) ⟨hc.link (LowK.lnk findLow), findRow, findRow, findLow⟩ (fun V hF => ?_)
  obtain ⟨hcr, hxr, hyr, hVr⟩ := hF
  refine region_rels 13 [(23, isV (.int .i64 p)), (24, isV (.slice b k cap)), (25, isMs k l), (26, isV (pV x)), (27, isV (pV x)), (28, isV (pV y)), (29, isV (pV y)), (30, isV (.tuple #[.bool v, .int .i64 e])), (22, isV (.tuple #[.bool v, .int .i64 e])), (31, isV (.bool v)), (32, isV (.int .i64 e)), (10, isV (.bool v)), (11, isV (.int .i64 e))] (by kernel_rfl) (by decide) (by kernel_rfl) rfl ⟨mono_is _, mono_is _, mono_ms k l, mono_is _, mono_is _, mono_is _, mono_is _, mono_is _, mono_is _, mono_is _, mono_is _, mono_is _, mono_is _, trivial⟩ ⟨?_, ?_, ?_, ?_, ?_, ?_, ?_, ?_, ?_, ?_, ?_, ?_, ?_, trivial⟩ ?_
  · refine RelOk.mk' 23 rfl rfl (fun a W hW hr => ?_)
    have h0 : a.tmps.getD 0 undef = .int .i64 p := (hr 0 rfl).2 rfl
    exact rel_calm (calm_move _ rfl h0) (fun _ _ => rfl)
  · refine RelOk.mk' 24 rfl rfl (fun a W hW hr => ?_)
    have h1 : a.tmps.getD 1 undef = .slice b k cap := (hr 1 rfl).2 rfl
    exact rel_calm (calm_move _ rfl h1) (fun _ _ => rfl)
  · refine RelOk.mk' 25 rfl rfl (fun a W hW hr => ?_)
    have h24 : a.tmps.getD 24 undef = .slice b k cap := (hr 24 rfl).1 rfl
    exact rel_call 8 _ #[.slice b k cap, .bool false] rfl rfl (by simp [Act.eval, h24]) (Try.call8 _ _) ((copyM_K b k cap false l W hk (.inl rfl) (hcr.link ⟨hW⟩)).mono fun e2 W2 h => by obtain ⟨g, rfl, hg1, hg2, hR, hI, hl2⟩ := h.out; exact ⟨_, rfl, hl2.out, g, _, rfl, hI⟩)
  · refine RelOk.mk' 26 rfl rfl (fun a W hW hr => ?_)
    have h6 : a.tmps.getD 6 undef = .pointer (some ⟨w.heap.size, 0, none⟩) := (hr 6 rfl).2 rfl
    exact rel_new (run_load_rowK rfl h6 (RowK.link ⟨hW⟩ hxr) 3 rfl Try.sizeOf30 Try.isAgg30) (Below.refl _ _) rfl
  · refine RelOk.mk' 27 rfl rfl (fun a W hW hr => ?_)
    have h26 : a.tmps.getD 26 undef = pV x := (hr 26 rfl).1 rfl
    exact rel_ret 12 _ #[pV x] rfl rfl (by simp [Act.eval, h26]) (Try.call12 _ _) (toPoint_K x W)
  · refine RelOk.mk' 28 rfl rfl (fun a W hW hr => ?_)
    have h7 : a.tmps.getD 7 undef = .pointer (some ⟨w.heap.size + 1, 0, none⟩) := (hr 7 rfl).2 rfl
    exact rel_new (run_load_rowK rfl h7 (RowK.link ⟨hW⟩ hyr) 3 rfl Try.sizeOf30 Try.isAgg30) (Below.refl _ _) rfl
  · refine RelOk.mk' 29 rfl rfl (fun a W hW hr => ?_)
    have h28 : a.tmps.getD 28 undef = pV y := (hr 28 rfl).1 rfl
    exact rel_ret 12 _ #[pV y] rfl rfl (by simp [Act.eval, h28]) (Try.call12 _ _) (toPoint_K y W)
  · refine RelOk.mk' 30 rfl rfl (fun a W hW hr => ?_)
    have h23 : a.tmps.getD 23 undef = .int .i64 p := (hr 23 rfl).1 rfl
    have h27 : a.tmps.getD 27 undef = pV x := (hr 27 rfl).1 rfl
    have h29 : a.tmps.getD 29 undef = pV y := (hr 29 rfl).1 rfl
    obtain ⟨g, cp, h25, hM⟩ : isMs k l (a.tmps.getD 25 undef) W := (hr 25 rfl).1 rfl
    exact rel_ret 11 _ #[.int .i64 p, .slice (some ⟨g, 0, none⟩) k cp, pV x, pV y] rfl rfl (by simp [Act.eval, h23, h25, h27, h29]) (Try.call11 _ _) (HS.out W _ _ (ListM.at HL.out hM))
  · refine RelOk.mk' 22 rfl rfl (fun a W hW hr => ?_)
    have h30 : a.tmps.getD 30 undef = .tuple #[.bool v, .int .i64 e] := (hr 30 rfl).1 rfl
    exact rel_calm (calm_move _ rfl h30) (fun _ _ => rfl)
  · refine RelOk.mk' 31 rfl rfl (fun a W hW hr => ?_)
    have h22 : a.tmps.getD 22 undef = .tuple #[.bool v, .int .i64 e] := (hr 22 rfl).1 rfl
    exact rel_calm (calm_extract _ 0 rfl h22 rfl) (fun _ _ => rfl)
  · refine RelOk.mk' 32 rfl rfl (fun a W hW hr => ?_)
    have h22 : a.tmps.getD 22 undef = .tuple #[.bool v, .int .i64 e] := (hr 22 rfl).1 rfl
    exact rel_calm (calm_extract _ 1 rfl h22 rfl) (fun _ _ => rfl)
  · refine RelOk.mk' 10 rfl rfl (fun a W hW hr => ?_)
    have h31 : a.tmps.getD 31 undef = .bool v := (hr 31 rfl).1 rfl
    exact rel_calm (calm_assign _ rfl h31) (fun _ _ => rfl)
  · refine RelOk.mk' 11 rfl rfl (fun a W hW hr => ?_)
    have h32 : a.tmps.getD 32 undef = .int .i64 e := (hr 32 rfl).1 rfl
    exact rel_calm (calm_assign _ rfl h32) (fun _ _ => rfl)
  intro vv W8 hb8 hv
  have e23 : vv 23 = .int .i64 p := hv 23 rfl
  have e24 : vv 24 = .slice b k cap := hv 24 rfl
  have e26 : vv 26 = pV x := hv 26 rfl
  have e27 : vv 27 = pV x := hv 27 rfl
  have e28 : vv 28 = pV y := hv 28 rfl
  have e29 : vv 29 = pV y := hv 29 rfl
  have e30 : vv 30 = .tuple #[.bool v, .int .i64 e] := hv 30 rfl
  have e22 : vv 22 = .tuple #[.bool v, .int .i64 e] := hv 22 rfl
  have e31 : vv 31 = .bool v := hv 31 rfl
  have e32 : vv 32 = .int .i64 e := hv 32 rfl
  have e10 : vv 10 = .bool v := hv 10 rfl
  have e11 : vv 11 = .int .i64 e := hv 11 rfl
  simp only [List.map_cons, List.map_nil, puts, Act.put, List.setIfInBounds_toArray, List.set_cons_zero, List.set_cons_succ, e23, e24, e26, e27, e28, e29, e30, e22, e31, e32, e10, e11, List.drop_succ_cons, List.drop_zero, List.drop_nil]
  refine wpList_nil ?_
  generalize vv 25 = v25
  have hl8 := Link.mk hb8
  have hs8 := hb8.size
  (try simp at hs8)
  clear hv hb8 e23 e24 e26 e27 e28 e29 e30 e22 e31 e32 e10 e11 vv
  rcases v with _ | _

  · go_wp2_with (first | (refine wl_loadM ?_) | (refine wl_load ?_) | (refine wl_fill1 ?_) | (refine wl_fill2 ?_) | (refine wl_storeM ?_) | (refine wl_makeM ?_; intro gm W' hgm hl hT; have hs := hl.out.size; (try simp at hs)) | (refine wl_store ?_) | (refine wl_build ?_) | (refine wl_slice ?_) | (refine wl_append ?_; intro v' w' ho hg hb; have hs := hg.size; (try simp at hs); (try rw [ptCs_end] at ho); (try rw [ints_end] at ho); (try simp only [Nat.zero_add, Nat.reduceAdd, List.nil_append, List.cons_append] at ho)) | (go_at_call 8; (with_reducible refine (copyM_K b k cap false l _ hk (.inl rfl) (hc.link (LowK.lnk findLow))).mono ?_); rintro e w' ⟨g, rfl, hg1, hg2, hR, hI, hl'⟩; have hs := hl'.out.size) | (go_at_call 12; (with_reducible refine (toPoint_K _ _).mono ?_); rintro e w' ⟨rfl, hb⟩; have hl := Link.mk hb; have hs := hb.size; (try simp at hs); clear hb) | (go_at_call 13; (with_reducible refine (HI.out _ _ _ (ListM.at HL.out fMp)).mono ?_); rintro e w' ⟨rfl, hb⟩; have hl := Link.mk hb; have hs := hb.size; (try simp at hs); clear hb) | (go_at_call 10; (with_reducible refine (intactM_K _ _ k l _ hk fMp fMp).mono ?_); rintro e w' ⟨rfl, hb⟩; have hl := Link.mk hb; have hs := hb.size; (try simp at hs); clear hb) | ((with_reducible apply region_gd (id := 5)); refine region_QA (id := 5) 13 ?_; apply Exists.intro; refine ⟨fun G => ?_, fun W hl => ?_⟩; (· (simp only [List.take_succ_cons, List.take_zero]; (repeat (first | go_big_quiet_skip | (go_big_quiet_want; first | (refine q_loadM ?_; simp only [Act.put, List.setIfInBounds_toArray, List.set_cons_zero, List.set_cons_succ]; go_big_quiet_on) | (refine q_load ?_; simp only [Act.put, List.setIfInBounds_toArray, List.set_cons_zero, List.set_cons_succ]; go_big_quiet_on) | (go_big_quiet_op; first | go_big_quiet_on | (apply Exists.intro; refine ⟨fun g => ?_, ?_⟩; (· (have hl := growL g; first | (go_at_call 12; with_reducible exact grow_ret (toPoint_K _ _)) | (go_at_call 13; with_reducible exact grow_ret (HI.out _ _ _ (ListM.at HL.out fMp))) | (go_at_call 10; with_reducible exact grow_ret (intactM_K _ _ k l _ hk fMp fMp)))); go_big_quiet_on))))); exact rfl)); have hs := hl.out.size; (try simp at hs); simp only [List.drop_succ_cons, List.drop_zero]) | ((with_reducible apply region_gd (id := 7)); refine region_QA (id := 7) 12 ?_; apply Exists.intro; refine ⟨fun G => ?_, fun W hl => ?_⟩; (· (simp only [List.take_succ_cons, List.take_zero]; (repeat (first | go_big_quiet_skip | (go_big_quiet_want; first | (refine q_loadM ?_; simp only [Act.put, List.setIfInBounds_toArray, List.set_cons_zero, List.set_cons_succ]; go_big_quiet_on) | (refine q_load ?_; simp only [Act.put, List.setIfInBounds_toArray, List.set_cons_zero, List.set_cons_succ]; go_big_quiet_on) | (go_big_quiet_op; first | go_big_quiet_on | (apply Exists.intro; refine ⟨fun g => ?_, ?_⟩; (· (have hl := growL g; first | (go_at_call 12; with_reducible exact grow_ret (toPoint_K _ _)) | (go_at_call 13; with_reducible exact grow_ret (HI.out _ _ _ (ListM.at HL.out fMp))) | (go_at_call 10; with_reducible exact grow_ret (intactM_K _ _ k l _ hk fMp fMp)))); go_big_quiet_on))))); exact rfl)); have hs := hl.out.size; (try simp at hs); simp only [List.drop_succ_cons, List.drop_zero]) | ((with_reducible apply region_gd (id := 12)); refine region_QA (id := 12) 13 ?_; apply Exists.intro; refine ⟨fun G => ?_, fun W hl => ?_⟩; (· (simp only [List.take_succ_cons, List.take_zero]; (repeat (first | go_big_quiet_skip | (go_big_quiet_want; first | (refine q_loadM ?_; simp only [Act.put, List.setIfInBounds_toArray, List.set_cons_zero, List.set_cons_succ]; go_big_quiet_on) | (refine q_load ?_; simp only [Act.put, List.setIfInBounds_toArray, List.set_cons_zero, List.set_cons_succ]; go_big_quiet_on) | (go_big_quiet_op; first | go_big_quiet_on | (apply Exists.intro; refine ⟨fun g => ?_, ?_⟩; (· (have hl := growL g; first | (go_at_call 12; with_reducible exact grow_ret (toPoint_K _ _)) | (go_at_call 13; with_reducible exact grow_ret (HI.out _ _ _ (ListM.at HL.out fMp))) | (go_at_call 10; with_reducible exact grow_ret (intactM_K _ _ k l _ hk fMp fMp)))); go_big_quiet_on))))); exact rfl)); have hs := hl.out.size; (try simp at hs); simp only [List.drop_succ_cons, List.drop_zero]))
    refine at_world _ (fun W => ListM W b k l ∧ RowK W w.heap.size (pC x) 30 ∧ RowK W (w.heap.size + 1) (pC y) 30 ∧ LowK w W) ⟨hc.link (LowK.lnk findLow), findRow, findRow, findLow⟩ (fun V hF => ?_)
    obtain ⟨hcr, hxr, hyr, hVr⟩ := hF
    refine region_rels 13 [(59, isV (.int .i64 p)), (60, isV (.slice b k cap)), (61, isMs k l), (62, isV (pV x)), (63, isV (pV x)), (64, isV (pV y)), (65, isV (pV y)), (66, isV (.tuple #[.bool false, .int .i64 e])), (58, isV (.tuple #[.bool false, .int .i64 e])), (67, isV (.bool false)), (68, isV (.int .i64 e)), (15, isV (.bool false)), (16, isV (.int .i64 e))] (by kernel_rfl) (by decide) (by kernel_rfl) rfl ⟨mono_is _, mono_is _, mono_ms k l, mono_is _, mono_is _, mono_is _, mono_is _, mono_is _, mono_is _, mono_is _, mono_is _, mono_is _, mono_is _, trivial⟩ ⟨?_, ?_, ?_, ?_, ?_, ?_, ?_, ?_, ?_, ?_, ?_, ?_, ?_, trivial⟩ ?_
    · refine RelOk.mk' 59 rfl rfl (fun a W hW hr => ?_)
      have h0 : a.tmps.getD 0 undef = .int .i64 p := (hr 0 rfl).2 rfl
      exact rel_calm (calm_move _ rfl h0) (fun _ _ => rfl)
    · refine RelOk.mk' 60 rfl rfl (fun a W hW hr => ?_)
      have h1 : a.tmps.getD 1 undef = .slice b k cap := (hr 1 rfl).2 rfl
      exact rel_calm (calm_move _ rfl h1) (fun _ _ => rfl)
    · refine RelOk.mk' 61 rfl rfl (fun a W hW hr => ?_)
      have h60 : a.tmps.getD 60 undef = .slice b k cap := (hr 60 rfl).1 rfl
      exact rel_call 8 _ #[.slice b k cap, .bool true] rfl rfl (by simp [Act.eval, h60]) (Try.call8 _ _) ((copyM_K b k cap true l W hk (.inr H0.out) (hcr.link ⟨hW⟩)).mono fun e2 W2 h => by obtain ⟨g, rfl, hg1, hg2, hR, hI, hl2⟩ := h.out; exact ⟨_, rfl, hl2.out, g, _, rfl, hI⟩)
    · refine RelOk.mk' 62 rfl rfl (fun a W hW hr => ?_)
      have h6 : a.tmps.getD 6 undef = .pointer (some ⟨w.heap.size, 0, none⟩) := (hr 6 rfl).2 rfl
      exact rel_new (run_load_rowK rfl h6 (RowK.link ⟨hW⟩ hxr) 3 rfl Try.sizeOf30 Try.isAgg30) (Below.refl _ _) rfl
    · refine RelOk.mk' 63 rfl rfl (fun a W hW hr => ?_)
      have h62 : a.tmps.getD 62 undef = pV x := (hr 62 rfl).1 rfl
      exact rel_ret 12 _ #[pV x] rfl rfl (by simp [Act.eval, h62]) (Try.call12 _ _) (toPoint_K x W)
    · refine RelOk.mk' 64 rfl rfl (fun a W hW hr => ?_)
      have h7 : a.tmps.getD 7 undef = .pointer (some ⟨w.heap.size + 1, 0, none⟩) := (hr 7 rfl).2 rfl
      exact rel_new (run_load_rowK rfl h7 (RowK.link ⟨hW⟩ hyr) 3 rfl Try.sizeOf30 Try.isAgg30) (Below.refl _ _) rfl
    · refine RelOk.mk' 65 rfl rfl (fun a W hW hr => ?_)
      have h64 : a.tmps.getD 64 undef = pV y := (hr 64 rfl).1 rfl
      exact rel_ret 12 _ #[pV y] rfl rfl (by simp [Act.eval, h64]) (Try.call12 _ _) (toPoint_K y W)
    · refine RelOk.mk' 66 rfl rfl (fun a W hW hr => ?_)
      have h59 : a.tmps.getD 59 undef = .int .i64 p := (hr 59 rfl).1 rfl
      have h63 : a.tmps.getD 63 undef = pV x := (hr 63 rfl).1 rfl
      have h65 : a.tmps.getD 65 undef = pV y := (hr 65 rfl).1 rfl
      obtain ⟨g, cp, h61, hM⟩ : isMs k l (a.tmps.getD 61 undef) W := (hr 61 rfl).1 rfl
      exact rel_ret 13 _ #[.int .i64 p, .slice (some ⟨g, 0, none⟩) k cp, pV x, pV y] rfl rfl (by simp [Act.eval, h59, h61, h63, h65]) (Try.call13 _ _) (HI.out W _ _ (ListM.at HL.out hM))
    · refine RelOk.mk' 58 rfl rfl (fun a W hW hr => ?_)
      have h66 : a.tmps.getD 66 undef = .tuple #[.bool false, .int .i64 e] := (hr 66 rfl).1 rfl
      exact rel_calm (calm_move _ rfl h66) (fun _ _ => rfl)
    · refine RelOk.mk' 67 rfl rfl (fun a W hW hr => ?_)
      have h58 : a.tmps.getD 58 undef = .tuple #[.bool false, .int .i64 e] := (hr 58 rfl).1 rfl
      exact rel_calm (calm_extract _ 0 rfl h58 rfl) (fun _ _ => rfl)
    · refine RelOk.mk' 68 rfl rfl (fun a W hW hr => ?_)
      have h58 : a.tmps.getD 58 undef = .tuple #[.bool false, .int .i64 e] := (hr 58 rfl).1 rfl
      exact rel_calm (calm_extract _ 1 rfl h58 rfl) (fun _ _ => rfl)
    · refine RelOk.mk' 15 rfl rfl (fun a W hW hr => ?_)
      have h67 : a.tmps.getD 67 undef = .bool false := (hr 67 rfl).1 rfl
      exact rel_calm (calm_assign _ rfl h67) (fun _ _ => rfl)
    · refine RelOk.mk' 16 rfl rfl (fun a W hW hr => ?_)
      have h68 : a.tmps.getD 68 undef = .int .i64 e := (hr 68 rfl).1 rfl
      exact rel_calm (calm_assign _ rfl h68) (fun _ _ => rfl)
    intro vv W8 hb8 hv
    have e59 : vv 59 = .int .i64 p := hv 59 rfl
    have e60 : vv 60 = .slice b k cap := hv 60 rfl
    have e62 : vv 62 = pV x := hv 62 rfl
    have e63 : vv 63 = pV x := hv 63 rfl
    have e64 : vv 64 = pV y := hv 64 rfl
    have e65 : vv 65 = pV y := hv 65 rfl
    have e66 : vv 66 = .tuple #[.bool false, .int .i64 e] := hv 66 rfl
    have e58 : vv 58 = .tuple #[.bool false, .int .i64 e] := hv 58 rfl
    have e67 : vv 67 = .bool false := hv 67 rfl
    have e68 : vv 68 = .int .i64 e := hv 68 rfl
    have e15 : vv 15 = .bool false := hv 15 rfl
    have e16 : vv 16 = .int .i64 e := hv 16 rfl
    simp only [List.map_cons, List.map_nil, puts, Act.put, List.setIfInBounds_toArray, List.set_cons_zero, List.set_cons_succ, e59, e60, e62, e63, e64, e65, e66, e58, e67, e68, e15, e16, List.drop_succ_cons, List.drop_zero, List.drop_nil]
    refine wpList_nil ?_
    generalize vv 61 = v61
    have hl8 := Link.mk hb8
    have hs8 := hb8.size
    (try simp at hs8)
    clear hv hb8 e59 e60 e62 e63 e64 e65 e66 e58 e67 e68 e15 e16 vv
    go_wp2_with (first | (refine wl_loadM ?_) | (refine wl_load ?_) | (refine wl_fill1 ?_) | (refine wl_fill2 ?_) | (refine wl_storeM ?_) | (refine wl_makeM ?_; intro gm W' hgm hl hT; have hs := hl.out.size; (try simp at hs)) | (refine wl_store ?_) | (refine wl_build ?_) | (refine wl_slice ?_) | (refine wl_append ?_; intro v' w' ho hg hb; have hs := hg.size; (try simp at hs); (try rw [ptCs_end] at ho); (try rw [ints_end] at ho); (try simp only [Nat.zero_add, Nat.reduceAdd, List.nil_append, List.cons_append] at ho)) | ((with_reducible apply region_gd (id := 5)); refine region_QA (id := 5) 13 ?_; apply Exists.intro; refine ⟨fun G => ?_, fun W hl => ?_⟩; (· (simp only [List.take_succ_cons, List.take_zero]; (repeat (first | go_big_quiet_skip | (go_big_quiet_want; first | (refine q_loadM ?_; simp only [Act.put, List.setIfInBounds_toArray, List.set_cons_zero, List.set_cons_succ]; go_big_quiet_on) | (refine q_load ?_; simp only [Act.put, List.setIfInBounds_toArray, List.set_cons_zero, List.set_cons_succ]; go_big_quiet_on) | (go_big_quiet_op; first | go_big_quiet_on)))); exact rfl)); have hs := hl.out.size; (try simp at hs); simp only [List.drop_succ_cons, List.drop_zero]) | ((with_reducible apply region_gd (id := 7)); refine region_QA (id := 7) 12 ?_; apply Exists.intro; refine ⟨fun G => ?_, fun W hl => ?_⟩; (· (simp only [List.take_succ_cons, List.take_zero]; (repeat (first | go_big_quiet_skip | (go_big_quiet_want; first | (refine q_loadM ?_; simp only [Act.put, List.setIfInBounds_toArray, List.set_cons_zero, List.set_cons_succ]; go_big_quiet_on) | (refine q_load ?_; simp only [Act.put, List.setIfInBounds_toArray, List.set_cons_zero, List.set_cons_succ]; go_big_quiet_on) | (go_big_quiet_op; first | go_big_quiet_on)))); exact rfl)); have hs := hl.out.size; (try simp at hs); simp only [List.drop_succ_cons, List.drop_zero]) | ((with_reducible apply region_gd (id := 12)); refine region_QA (id := 12) 13 ?_; apply Exists.intro; refine ⟨fun G => ?_, fun W hl => ?_⟩; (· (simp only [List.take_succ_cons, List.take_zero]; (repeat (first | go_big_quiet_skip | (go_big_quiet_want; first | (refine q_loadM ?_; simp only [Act.put, List.setIfInBounds_toArray, List.set_cons_zero, List.set_cons_succ]; go_big_quiet_on) | (refine q_load ?_; simp only [Act.put, List.setIfInBounds_toArray, List.set_cons_zero, List.set_cons_succ]; go_big_quiet_on) | (go_big_quiet_op; first | go_big_quiet_on)))); exact rfl)); have hs := hl.out.size; (try simp at hs); simp only [List.drop_succ_cons, List.drop_zero]))
    go_ret
    exact ⟨rfl, LowK.out findLow⟩
  · go_wp2_with (first | (refine wl_loadM ?_) | (refine wl_load ?_) | (refine wl_fill1 ?_) | (refine wl_fill2 ?_) | (refine wl_storeM ?_) | (refine wl_makeM ?_; intro gm W' hgm hl hT; have hs := hl.out.size; (try simp at hs)) | (refine wl_store ?_) | (refine wl_build ?_) | (refine wl_slice ?_) | (refine wl_append ?_; intro v' w' ho hg hb; have hs := hg.size; (try simp at hs); (try rw [ptCs_end] at ho); (try rw [ints_end] at ho); (try simp only [Nat.zero_add, Nat.reduceAdd, List.nil_append, List.cons_append] at ho)) | (go_at_call 8; (with_reducible refine (copyM_K b k cap false l _ hk (.inl rfl) (hc.link (LowK.lnk findLow))).mono ?_); rintro e w' ⟨g, rfl, hg1, hg2, hR, hI, hl'⟩; have hs := hl'.out.size) | (go_at_call 12; (with_reducible refine (toPoint_K _ _).mono ?_); rintro e w' ⟨rfl, hb⟩; have hl := Link.mk hb; have hs := hb.size; (try simp at hs); clear hb) | (go_at_call 13; (with_reducible refine (HI.out _ _ _ (ListM.at HL.out fMp)).mono ?_); rintro e w' ⟨rfl, hb⟩; have hl := Link.mk hb; have hs := hb.size; (try simp at hs); clear hb) | (go_at_call 10; (with_reducible refine (intactM_K _ _ k l _ hk fMp fMp).mono ?_); rintro e w' ⟨rfl, hb⟩; have hl := Link.mk hb; have hs := hb.size; (try simp at hs); clear hb) | ((with_reducible apply region_gd (id := 5)); refine region_QA (id := 5) 13 ?_; apply Exists.intro; refine ⟨fun G => ?_, fun W hl => ?_⟩; (· (simp only [List.take_succ_cons, List.take_zero]; (repeat (first | go_big_quiet_skip | (go_big_quiet_want; first | (refine q_loadM ?_; simp only [Act.put, List.setIfInBounds_toArray, List.set_cons_zero, List.set_cons_succ]; go_big_quiet_on) | (refine q_load ?_; simp only [Act.put, List.setIfInBounds_toArray, List.set_cons_zero, List.set_cons_succ]; go_big_quiet_on) | (go_big_quiet_op; first | go_big_quiet_on | (apply Exists.intro; refine ⟨fun g => ?_, ?_⟩; (· (have hl := growL g; first | (go_at_call 12; with_reducible exact grow_ret (toPoint_K _ _)) | (go_at_call 13; with_reducible exact grow_ret (HI.out _ _ _ (ListM.at HL.out fMp))) | (go_at_call 10; with_reducible exact grow_ret (intactM_K _ _ k l _ hk fMp fMp)))); go_big_quiet_on))))); exact rfl)); have hs := hl.out.size; (try simp at hs); simp only [List.drop_succ_cons, List.drop_zero]) | ((with_reducible apply region_gd (id := 7)); refine region_QA (id := 7) 12 ?_; apply Exists.intro; refine ⟨fun G => ?_, fun W hl => ?_⟩; (· (simp only [List.take_succ_cons, List.take_zero]; (repeat (first | go_big_quiet_skip | (go_big_quiet_want; first | (refine q_loadM ?_; simp only [Act.put, List.setIfInBounds_toArray, List.set_cons_zero, List.set_cons_succ]; go_big_quiet_on) | (refine q_load ?_; simp only [Act.put, List.setIfInBounds_toArray, List.set_cons_zero, List.set_cons_succ]; go_big_quiet_on) | (go_big_quiet_op; first | go_big_quiet_on | (apply Exists.intro; refine ⟨fun g => ?_, ?_⟩; (· (have hl := growL g; first | (go_at_call 12; with_reducible exact grow_ret (toPoint_K _ _)) | (go_at_call 13; with_reducible exact grow_ret (HI.out _ _ _ (ListM.at HL.out fMp))) | (go_at_call 10; with_reducible exact grow_ret (intactM_K _ _ k l _ hk fMp fMp)))); go_big_quiet_on))))); exact rfl)); have hs := hl.out.size; (try simp at hs); simp only [List.drop_succ_cons, List.drop_zero]) | ((with_reducible apply region_gd (id := 12)); refine region_QA (id := 12) 13 ?_; apply Exists.intro; refine ⟨fun G => ?_, fun W hl => ?_⟩; (· (simp only [List.take_succ_cons, List.take_zero]; (repeat (first | go_big_quiet_skip | (go_big_quiet_want; first | (refine q_loadM ?_; simp only [Act.put, List.setIfInBounds_toArray, List.set_cons_zero, List.set_cons_succ]; go_big_quiet_on) | (refine q_load ?_; simp only [Act.put, List.setIfInBounds_toArray, List.set_cons_zero, List.set_cons_succ]; go_big_quiet_on) | (go_big_quiet_op; first | go_big_quiet_on | (apply Exists.intro; refine ⟨fun g => ?_, ?_⟩; (· (have hl := growL g; first | (go_at_call 12; with_reducible exact grow_ret (toPoint_K _ _)) | (go_at_call 13; with_reducible exact grow_ret (HI.out _ _ _ (ListM.at HL.out fMp))) | (go_at_call 10; with_reducible exact grow_ret (intactM_K _ _ k l _ hk fMp fMp)))); go_big_quiet_on))))); exact rfl)); have hs := hl.out.size; (try simp at hs); simp only [List.drop_succ_cons, List.drop_zero]))
    refine at_world _ (fun W => ListM W b k l ∧ RowK W w.heap.size (pC x) 30 ∧ RowK W (w.heap.size + 1) (pC y) 30 ∧ LowK w W) ⟨hc.link (LowK.lnk findLow), findRow, findRow, findLow⟩ (fun V hF => ?_)
    obtain ⟨hcr, hxr, hyr, hVr⟩ := hF
    refine region_rels 13 [(59, isV (.int .i64 p)), (60, isV (.slice b k cap)), (61, isMs k l), (62, isV (pV x)), (63, isV (pV x)), (64, isV (pV y)), (65, isV (pV y)), (66, isV (.tuple #[.bool true, .int .i64 e])), (58, isV (.tuple #[.bool true, .int .i64 e])), (67, isV (.bool true)), (68, isV (.int .i64 e)), (15, isV (.bool true)), (16, isV (.int .i64 e))] (by kernel_rfl) (by decide) (by kernel_rfl) rfl ⟨mono_is _, mono_is _, mono_ms k l, mono_is _, mono_is _, mono_is _, mono_is _, mono_is _, mono_is _, mono_is _, mono_is _, mono_is _, mono_is _, trivial⟩ ⟨?_, ?_, ?_, ?_, ?_, ?_, ?_, ?_, ?_, ?_, ?_, ?_, ?_, trivial⟩ ?_
    · refine RelOk.mk' 59 rfl rfl (fun a W hW hr => ?_)
      have h0 : a.tmps.getD 0 undef = .int .i64 p := (hr 0 rfl).2 rfl
      exact rel_calm (calm_move _ rfl h0) (fun _ _ => rfl)
    · refine RelOk.mk' 60 rfl rfl (fun a W hW hr => ?_)
      have h1 : a.tmps.getD 1 undef = .slice b k cap := (hr 1 rfl).2 rfl
      exact rel_calm (calm_move _ rfl h1) (fun _ _ => rfl)
    · refine RelOk.mk' 61 rfl rfl (fun a W hW hr => ?_)
      have h60 : a.tmps.getD 60 undef = .slice b k cap := (hr 60 rfl).1 rfl
      exact rel_call 8 _ #[.slice b k cap, .bool true] rfl rfl (by simp [Act.eval, h60]) (Try.call8 _ _) ((copyM_K b k cap true l W hk (.inr H0.out) (hcr.link ⟨hW⟩)).mono fun e2 W2 h => by obtain ⟨g, rfl, hg1, hg2, hR, hI, hl2⟩ := h.out; exact ⟨_, rfl, hl2.out, g, _, rfl, hI⟩)
    · refine RelOk.mk' 62 rfl rfl (fun a W hW hr => ?_)
      have h6 : a.tmps.getD 6 undef = .pointer (some ⟨w.heap.size, 0, none⟩) := (hr 6 rfl).2 rfl
      exact rel_new (run_load_rowK rfl h6 (RowK.link ⟨hW⟩ hxr) 3 rfl Try.sizeOf30 Try.isAgg30) (Below.refl _ _) rfl
    · refine RelOk.mk' 63 rfl rfl (fun a W hW hr => ?_)
      have h62 : a.tmps.getD 62 undef = pV x := (hr 62 rfl).1 rfl
      exact rel_ret 12 _ #[pV x] rfl rfl (by simp [Act.eval, h62]) (Try.call12 _ _) (toPoint_K x W)
    · refine RelOk.mk' 64 rfl rfl (fun a W hW hr => ?_)
      have h7 : a.tmps.getD 7 undef = .pointer (some ⟨w.heap.size + 1, 0, none⟩) := (hr 7 rfl).2 rfl
      exact rel_new (run_load_rowK rfl h7 (RowK.link ⟨hW⟩ hyr) 3 rfl Try.sizeOf30 Try.isAgg30) (Below.refl _ _) rfl
    · refine RelOk.mk' 65 rfl rfl (fun a W hW hr => ?_)
      have h64 : a.tmps.getD 64 undef = pV y := (hr 64 rfl).1 rfl
      exact rel_ret 12 _ #[pV y] rfl rfl (by simp [Act.eval, h64]) (Try.call12 _ _) (toPoint_K y W)
    · refine RelOk.mk' 66 rfl rfl (fun a W hW hr => ?_)
      have h59 : a.tmps.getD 59 undef = .int .i64 p := (hr 59 rfl).1 rfl
      have h63 : a.tmps.getD 63 undef = pV x := (hr 63 rfl).1 rfl
      have h65 : a.tmps.getD 65 undef = pV y := (hr 65 rfl).1 rfl
      obtain ⟨g, cp, h61, hM⟩ : isMs k l (a.tmps.getD 61 undef) W := (hr 61 rfl).1 rfl
      exact rel_ret 13 _ #[.int .i64 p, .slice (some ⟨g, 0, none⟩) k cp, pV x, pV y] rfl rfl (by simp [Act.eval, h59, h61, h63, h65]) (Try.call13 _ _) (HI.out W _ _ (ListM.at HL.out hM))
    · refine RelOk.mk' 58 rfl rfl (fun a W hW hr => ?_)
      have h66 : a.tmps.getD 66 undef = .tuple #[.bool true, .int .i64 e] := (hr 66 rfl).1 rfl
      exact rel_calm (calm_move _ rfl h66) (fun _ _ => rfl)
    · refine RelOk.mk' 67 rfl rfl (fun a W hW hr => ?_)
      have h58 : a.tmps.getD 58 undef = .tuple #[.bool true, .int .i64 e] := (hr 58 rfl).1 rfl
      exact rel_calm (calm_extract _ 0 rfl h58 rfl) (fun _ _ => rfl)
    · refine RelOk.mk' 68 rfl rfl (fun a W hW hr => ?_)
      have h58 : a.tmps.getD 58 undef = .tuple #[.bool true, .int .i64 e] := (hr 58 rfl).1 rfl
      exact rel_calm (calm_extract _ 1 rfl h58 rfl) (fun _ _ => rfl)
    · refine RelOk.mk' 15 rfl rfl (fun a W hW hr => ?_)
      have h67 : a.tmps.getD 67 undef = .bool true := (hr 67 rfl).1 rfl
      exact rel_calm (calm_assign _ rfl h67) (fun _ _ => rfl)
    · refine RelOk.mk' 16 rfl rfl (fun a W hW hr => ?_)
      have h68 : a.tmps.getD 68 undef = .int .i64 e := (hr 68 rfl).1 rfl
      exact rel_calm (calm_assign _ rfl h68) (fun _ _ => rfl)
    intro vv W8 hb8 hv
    have e59 : vv 59 = .int .i64 p := hv 59 rfl
    have e60 : vv 60 = .slice b k cap := hv 60 rfl
    have e62 : vv 62 = pV x := hv 62 rfl
    have e63 : vv 63 = pV x := hv 63 rfl
    have e64 : vv 64 = pV y := hv 64 rfl
    have e65 : vv 65 = pV y := hv 65 rfl
    have e66 : vv 66 = .tuple #[.bool true, .int .i64 e] := hv 66 rfl
    have e58 : vv 58 = .tuple #[.bool true, .int .i64 e] := hv 58 rfl
    have e67 : vv 67 = .bool true := hv 67 rfl
    have e68 : vv 68 = .int .i64 e := hv 68 rfl
    have e15 : vv 15 = .bool true := hv 15 rfl
    have e16 : vv 16 = .int .i64 e := hv 16 rfl
    simp only [List.map_cons, List.map_nil, puts, Act.put, List.setIfInBounds_toArray, List.set_cons_zero, List.set_cons_succ, e59, e60, e62, e63, e64, e65, e66, e58, e67, e68, e15, e16, List.drop_succ_cons, List.drop_zero, List.drop_nil]
    refine wpList_nil ?_
    generalize vv 61 = v61
    have hl8 := Link.mk hb8
    have hs8 := hb8.size
    (try simp at hs8)
    clear hv hb8 e59 e60 e62 e63 e64 e65 e66 e58 e67 e68 e15 e16 vv
    go_wp2_with (first | (refine wl_loadM ?_) | (refine wl_load ?_) | (refine wl_fill1 ?_) | (refine wl_fill2 ?_) | (refine wl_storeM ?_) | (refine wl_makeM ?_; intro gm W' hgm hl hT; have hs := hl.out.size; (try simp at hs)) | (refine wl_store ?_) | (refine wl_build ?_) | (refine wl_slice ?_) | (refine wl_append ?_; intro v' w' ho hg hb; have hs := hg.size; (try simp at hs); (try rw [ptCs_end] at ho); (try rw [ints_end] at ho); (try simp only [Nat.zero_add, Nat.reduceAdd, List.nil_append, List.cons_append] at ho)) | ((with_reducible apply region_gd (id := 5)); refine region_QA (id := 5) 13 ?_; apply Exists.intro; refine ⟨fun G => ?_, fun W hl => ?_⟩; (· (simp only [List.take_succ_cons, List.take_zero]; (repeat (first | go_big_quiet_skip | (go_big_quiet_want; first | (refine q_loadM ?_; simp only [Act.put, List.setIfInBounds_toArray, List.set_cons_zero, List.set_cons_succ]; go_big_quiet_on) | (refine q_load ?_; simp only [Act.put, List.setIfInBounds_toArray, List.set_cons_zero, List.set_cons_succ]; go_big_quiet_on) | (go_big_quiet_op; first | go_big_quiet_on)))); exact rfl)); have hs := hl.out.size; (try simp at hs); simp only [List.drop_succ_cons, List.drop_zero]) | ((with_reducible apply region_gd (id := 7)); refine region_QA (id := 7) 12 ?_; apply Exists.intro; refine ⟨fun G => ?_, fun W hl => ?_⟩; (· (simp only [List.take_succ_cons, List.take_zero]; (repeat (first | go_big_quiet_skip | (go_big_quiet_want; first | (refine q_loadM ?_; simp only [Act.put, List.setIfInBounds_toArray, List.set_cons_zero, List.set_cons_succ]; go_big_quiet_on) | (refine q_load ?_; simp only [Act.put, List.setIfInBounds_toArray, List.set_cons_zero, List.set_cons_succ]; go_big_quiet_on) | (go_big_quiet_op; first | go_big_quiet_on)))); exact rfl)); have hs := hl.out.size; (try simp at hs); simp only [List.drop_succ_cons, List.drop_zero]) | ((with_reducible apply region_gd (id := 12)); refine region_QA (id := 12) 13 ?_; apply Exists.intro; refine ⟨fun G => ?_, fun W hl => ?_⟩; (· (simp only [List.take_succ_cons, List.take_zero]; (repeat (first | go_big_quiet_skip | (go_big_quiet_want; first | (refine q_loadM ?_; simp only [Act.put, List.setIfInBounds_toArray, List.set_cons_zero, List.set_cons_succ]; go_big_quiet_on) | (refine q_load ?_; simp only [Act.put, List.setIfInBounds_toArray, List.set_cons_zero, List.set_cons_succ]; go_big_quiet_on) | (go_big_quiet_op; first | go_big_quiet_on)))); exact rfl)); have hs := hl.out.size; (try simp at hs); simp only [List.drop_succ_cons, List.drop_zero]))
    go_ret
    exact ⟨rfl, LowK.out findLow⟩
set_option maxRecDepth 20000 in
set_option maxHeartbeats 8000000 in
theorem FnExactAreInOneOrbit_zero (p : Int) (b : Option Addr) (k cap : Nat) (l : List M9) (x y : Pt) (w : World) (hl : l.length = k) (hk : k ≤ 1000000) (hc : ListM w b k l) (h0 : k = 0) (v : Bool) (e : Int)
    (HS0 : ∀ (W : World) (b : Option Addr) (c : Nat), ListM W b k l → Calls Try.prog 11 #[.int .i64 p, .slice b k c, pV x, pV y] W (Ret W (.tuple #[.bool v, .int .i64 e]))) (HI1 : ∀ (W : World) (b : Option Addr) (c : Nat), ListM W b k l → Calls Try.prog 13 #[.int .i64 p, .slice b k c, pV x, pV y] W (Ret W (.tuple #[.bool v, .int .i64 e]))) :
    Calls Try.prog 4 #[.int .i64 p, .slice b k cap, pV x, pV y] w (Ret w (.bool true)) := by
  have hz1 : ¬ (1000000 - (k : Int)) < 0 := by omega
  have HS := Lib.hid HS0
  have HI := Lib.hid HI1
  have HI0 : Hid (∀ W : World, Calls Try.prog 13 #[.int .i64 p, .slice none 0 0, pV x, pV y] W (Ret W (.tuple #[.bool v, .int .i64 e]))) := Lib.hid (fun W => by have := HI1 W none 0 (ListM.nil h0 hl); rw [h0] at this; exact this)
  have HL := Lib.hid hl
  have H0 := Lib.hid h0
  have hz : ¬ (1000000 : Int) < (k : Int) := by omega
  clear hl HS0 HI1 h0
  go_enter Try.func4, Try.ntmps4
  go_wp2_with (first | (refine wl_loadM ?_) | (refine wl_load ?_) | (refine wl_fill1 ?_) | (refine wl_fill2 ?_) | (refine wl_storeM ?_) | (refine wl_makeM ?_; intro gm W' hgm hl hT; have hs := hl.out.size; (try simp at hs)) | (refine wl_store ?_) | (refine wl_build ?_) | (refine wl_slice ?_) | (refine wl_append ?_; intro v' w' ho hg hb; have hs := hg.size; (try simp at hs); (try rw [ptCs_end] at ho); (try rw [ints_end] at ho); (try simp only [Nat.zero_add, Nat.reduceAdd, List.nil_append, List.cons_append] at ho)) | (go_at_call 6; (with_reducible refine (szM_K _ k _ _ hk).mono ?_); rintro e w' ⟨rfl, rfl⟩) | ((with_reducible apply region_gd (id := 5)); refine region_QA (id := 5) 13 ?_; apply Exists.intro; refine ⟨fun G => ?_, fun W hl => ?_⟩; (· (simp only [List.take_succ_cons, List.take_zero]; (repeat (first | go_big_quiet_skip | (go_big_quiet_want; first | (refine q_loadM ?_; simp only [Act.put, List.setIfInBounds_toArray, List.set_cons_zero, List.set_cons_succ]; go_big_quiet_on) | (refine q_load ?_; simp only [Act.put, List.setIfInBounds_toArray, List.set_cons_zero, List.set_cons_succ]; go_big_quiet_on) | (go_big_quiet_op; first | go_big_quiet_on)))); exact rfl)); have hs := hl.out.size; (try simp at hs); simp only [List.drop_succ_cons, List.drop_zero]) | ((with_reducible apply region_gd (id := 7)); refine region_QA (id := 7) 12 ?_; apply Exists.intro; refine ⟨fun G => ?_, fun W hl => ?_⟩; (· (simp only [List.take_succ_cons, List.take_zero]; (repeat (first | go_big_quiet_skip | (go_big_quiet_want; first | (refine q_loadM ?_; simp only [Act.put, List.setIfInBounds_toArray, List.set_cons_zero, List.set_cons_succ]; go_big_quiet_on) | (refine q_load ?_; simp only [Act.put, List.setIfInBounds_toArray, List.set_cons_zero, List.set_cons_succ]; go_big_quiet_on) | (go_big_quiet_op; first | go_big_quiet_on)))); exact rfl)); have hs := hl.out.size; (try simp at hs); simp only [List.drop_succ_cons, List.drop_zero]) | ((with_reducible apply region_gd (id := 12)); refine region_QA (id := 12) 13 ?_; apply Exists.intro; refine ⟨fun G => ?_, fun W hl => ?_⟩; (· (simp only [List.take_succ_cons, List.take_zero]; (repeat (first | go_big_quiet_skip | (go_big_quiet_want; first | (refine q_loadM ?_; simp only [Act.put, List.setIfInBounds_toArray, List.set_cons_zero, List.set_cons_succ]; go_big_quiet_on) | (refine q_load ?_; simp only [Act.put, List.setIfInBounds_toArray, List.set_cons_zero, List.set_cons_succ]; go_big_quiet_on) | (go_big_quiet_op; first | go_big_quiet_on)))); exact rfl)); have hs := hl.out.size; (try simp at hs); simp only [List.drop_succ_cons, List.drop_zero]))
  refine at_world _ (fun W => ListM W b k l ∧ RowK W w.heap.size (pC x) 30 ∧ RowK W (w.heap.size + 1) (pC y) 30 ∧ LowK w W) ⟨hc.link (LowK.lnk findLow), findRow, findRow, findLow⟩ (fun V hF => ?_)
  obtain ⟨hcr, hxr, hyr, hVr⟩ := hF
  refine region_rels 13 [(23, isV (.int .i64 p)), (24, isV (.slice b k cap)), (25, isMs k l), (26, isV (pV x)), (27, isV (pV x)), (28, isV (pV y)), (29, isV (pV y)), (30, isV (.tuple #[.bool v, .int .i64 e])), (22, isV (.tuple #[.bool v, .int .i64 e])), (31, isV (.bool v)), (32, isV (.int .i64 e)), (10, isV (.bool v)), (11, isV (.int .i64 e))] (by kernel_rfl) (by decide) (by kernel_rfl) rfl ⟨mono_is _, mono_is _, mono_ms k l, mono_is _, mono_is _, mono_is _, mono_is _, mono_is _, mono_is _, mono_is _, mono_is _, mono_is _, mono_is _, trivial⟩ ⟨?_, ?_, ?_, ?_, ?_, ?_, ?_, ?_, ?_, ?_, ?_, ?_, ?_, trivial⟩ ?_
  · refine RelOk.mk' 23 rfl rfl (fun a W hW hr => ?_)
    have h0 : a.tmps.getD 0 undef = .int .i64 p := (hr 0 rfl).2 rfl
    exact rel_calm (calm_move _ rfl h0) (fun _ _ => rfl)
  · refine RelOk.mk' 24 rfl rfl (fun a W hW hr => ?_)
    have h1 : a.tmps.getD 1 undef = .slice b k cap := (hr 1 rfl).2 rfl
    exact rel_calm (calm_move _ rfl h1) (fun _ _ => rfl)
  · refine RelOk.mk' 25 rfl rfl (fun a W hW hr => ?_)
    have h24 : a.tmps.getD 24 undef = .slice b k cap := (hr 24 rfl).1 rfl
    exact rel_call 8 _ #[.slice b k cap, .bool false] rfl rfl (by simp [Act.eval, h24]) (Try.call8 _ _) ((copyM_K b k cap false l W hk (.inl rfl) (hcr.link ⟨hW⟩)).mono fun e2 W2 h => by obtain ⟨g, rfl, hg1, hg2, hR, hI, hl2⟩ := h.out; exact ⟨_, rfl, hl2.out, g, _, rfl, hI⟩)
  · refine RelOk.mk' 26 rfl rfl (fun a W hW hr => ?_)
    have h6 : a.tmps.getD 6 undef = .pointer (some ⟨w.heap.size, 0, none⟩) := (hr 6 rfl).2 rfl
    exact rel_new (run_load_rowK rfl h6 (RowK.link ⟨hW⟩ hxr) 3 rfl Try.sizeOf30 Try.isAgg30) (Below.refl _ _) rfl
  · refine RelOk.mk' 27 rfl rfl (fun a W hW hr => ?_)
    have h26 : a.tmps.getD 26 undef = pV x := (hr 26 rfl).1 rfl
    exact rel_ret 12 _ #[pV x] rfl rfl (by simp [Act.eval, h26]) (Try.call12 _ _) (toPoint_K x W)
  · refine RelOk.mk' 28 rfl rfl (fun a W hW hr => ?_)
    have h7 : a.tmps.getD 7 undef = .pointer (some ⟨w.heap.size + 1, 0, none⟩) := (hr 7 rfl).2 rfl
    exact rel_new (run_load_rowK rfl h7 (RowK.link ⟨hW⟩ hyr) 3 rfl Try.sizeOf30 Try.isAgg30) (Below.refl _ _) rfl
  · refine RelOk.mk' 29 rfl rfl (fun a W hW hr => ?_)
    have h28 : a.tmps.getD 28 undef = pV y := (hr 28 rfl).1 rfl
    exact rel_ret 12 _ #[pV y] rfl rfl (by simp [Act.eval, h28]) (Try.call12 _ _) (toPoint_K y W)
  · refine RelOk.mk' 30 rfl rfl (fun a W hW hr => ?_)
    have h23 : a.tmps.getD 23 undef = .int .i64 p := (hr 23 rfl).1 rfl
    have h27 : a.tmps.getD 27 undef = pV x := (hr 27 rfl).1 rfl
    have h29 : a.tmps.getD 29 undef = pV y := (hr 29 rfl).1 rfl
    obtain ⟨g, cp, h25, hM⟩ : isMs k l (a.tmps.getD 25 undef) W := (hr 25 rfl).1 rfl
    exact rel_ret 11 _ #[.int .i64 p, .slice (some ⟨g, 0, none⟩) k cp, pV x, pV y] rfl rfl (by simp [Act.eval, h23, h25, h27, h29]) (Try.call11 _ _) (HS.out W _ _ (ListM.at HL.out hM))
  · refine RelOk.mk' 22 rfl rfl (fun a W hW hr => ?_)
    have h30 : a.tmps.getD 30 undef = .tuple #[.bool v, .int .i64 e] := (hr 30 rfl).1 rfl
    exact rel_calm (calm_move _ rfl h30) (fun _ _ => rfl)
  · refine RelOk.mk' 31 rfl rfl (fun a W hW hr => ?_)
    have h22 : a.tmps.getD 22 undef = .tuple #[.bool v, .int .i64 e] := (hr 22 rfl).1 rfl
    exact rel_calm (calm_extract _ 0 rfl h22 rfl) (fun _ _ => rfl)
  · refine RelOk.mk' 32 rfl rfl (fun a W hW hr => ?_)
    have h22 : a.tmps.getD 22 undef = .tuple #[.bool v, .int .i64 e] := (hr 22 rfl).1 rfl
    exact rel_calm (calm_extract _ 1 rfl h22 rfl) (fun _ _ => rfl)
  · refine RelOk.mk' 10 rfl rfl (fun a W hW hr => ?_)
    have h31 : a.tmps.getD 31 undef = .bool v := (hr 31 rfl).1 rfl
    exact rel_calm (calm_assign _ rfl h31) (fun _ _ => rfl)
  · refine RelOk.mk' 11 rfl rfl (fun a W hW hr => ?_)
    have h32 : a.tmps.getD 32 undef = .int .i64 e := (hr 32 rfl).1 rfl
    exact rel_calm (calm_assign _ rfl h32) (fun _ _ => rfl)
  intro vv W8 hb8 hv
  have e23 : vv 23 = .int .i64 p := hv 23 rfl
  have e24 : vv 24 = .slice b k cap := hv 24 rfl
  have e26 : vv 26 = pV x := hv 26 rfl
  have e27 : vv 27 = pV x := hv 27 rfl
  have e28 : vv 28 = pV y := hv 28 rfl
  have e29 : vv 29 = pV y := hv 29 rfl
  have e30 : vv 30 = .tuple #[.bool v, .int .i64 e] := hv 30 rfl
  have e22 : vv 22 = .tuple #[.bool v, .int .i64 e] := hv 22 rfl
  have e31 : vv 31 = .bool v := hv 31 rfl
  have e32 : vv 32 = .int .i64 e := hv 32 rfl
  have e10 : vv 10 = .bool v := hv 10 rfl
  have e11 : vv 11 = .int .i64 e := hv 11 rfl
  simp only [List.map_cons, List.map_nil, puts, Act.put, List.setIfInBounds_toArray, List.set_cons_zero, List.set_cons_succ, e23, e24, e26, e27, e28, e29, e30, e22, e31, e32, e10, e11, List.drop_succ_cons, List.drop_zero, List.drop_nil]
  refine wpList_nil ?_
  generalize vv 25 = v25
  have hl8 := Link.mk hb8
  have hs8 := hb8.size
  (try simp at hs8)
  clear hv hb8 e23 e24 e26 e27 e28 e29 e30 e22 e31 e32 e10 e11 vv
  rcases v with _ | _

  · go_wp2_with (first | (refine wl_loadM ?_) | (refine wl_load ?_) | (refine wl_fill1 ?_) | (refine wl_fill2 ?_) | (refine wl_storeM ?_) | (refine wl_makeM ?_; intro gm W' hgm hl hT; have hs := hl.out.size; (try simp at hs)) | (refine wl_store ?_) | (refine wl_build ?_) | (refine wl_slice ?_) | (refine wl_append ?_; intro v' w' ho hg hb; have hs := hg.size; (try simp at hs); (try rw [ptCs_end] at ho); (try rw [ints_end] at ho); (try simp only [Nat.zero_add, Nat.reduceAdd, List.nil_append, List.cons_append] at ho)) | (go_at_call 8; (with_reducible refine (copyM_K b k cap false l _ hk (.inl rfl) (hc.link (LowK.lnk findLow))).mono ?_); rintro e w' ⟨g, rfl, hg1, hg2, hR, hI, hl'⟩; have hs := hl'.out.size) | (go_at_call 12; (with_reducible refine (toPoint_K _ _).mono ?_); rintro e w' ⟨rfl, hb⟩; have hl := Link.mk hb; have hs := hb.size; (try simp at hs); clear hb) | (go_at_call 13; (with_reducible refine (HI.out _ _ _ (ListM.at HL.out fMp)).mono ?_); rintro e w' ⟨rfl, hb⟩; have hl := Link.mk hb; have hs := hb.size; (try simp at hs); clear hb) | (go_at_call 10; (with_reducible refine (intactM_K _ _ k l _ hk fMp fMp).mono ?_); rintro e w' ⟨rfl, hb⟩; have hl := Link.mk hb; have hs := hb.size; (try simp at hs); clear hb) | ((with_reducible apply region_gd (id := 5)); refine region_QA (id := 5) 13 ?_; apply Exists.intro; refine ⟨fun G => ?_, fun W hl => ?_⟩; (· (simp only [List.take_succ_cons, List.take_zero]; (repeat (first | go_big_quiet_skip | (go_big_quiet_want; first | (refine q_loadM ?_; simp only [Act.put, List.setIfInBounds_toArray, List.set_cons_zero, List.set_cons_succ]; go_big_quiet_on) | (refine q_load ?_; simp only [Act.put, List.setIfInBounds_toArray, List.set_cons_zero, List.set_cons_succ]; go_big_quiet_on) | (go_big_quiet_op; first | go_big_quiet_on | (apply Exists.intro; refine ⟨fun g => ?_, ?_⟩; (· (have hl := growL g; first | (go_at_call 12; with_reducible exact grow_ret (toPoint_K _ _)) | (go_at_call 13; with_reducible exact grow_ret (HI.out _ _ _ (ListM.at HL.out fMp))) | (go_at_call 10; with_reducible exact grow_ret (intactM_K _ _ k l _ hk fMp fMp)))); go_big_quiet_on))))); exact rfl)); have hs := hl.out.size; (try simp at hs); simp only [List.drop_succ_cons, List.drop_zero]) | ((with_reducible apply region_gd (id := 7)); refine region_QA (id := 7) 12 ?_; apply Exists.intro; refine ⟨fun G => ?_, fun W hl => ?_⟩; (· (simp only [List.take_succ_cons, List.take_zero]; (repeat (first | go_big_quiet_skip | (go_big_quiet_want; first | (refine q_loadM ?_; simp only [Act.put, List.setIfInBounds_toArray, List.set_cons_zero, List.set_cons_succ]; go_big_quiet_on) | (refine q_load ?_; simp only [Act.put, List.setIfInBounds_toArray, List.set_cons_zero, List.set_cons_succ]; go_big_quiet_on) | (go_big_quiet_op; first | go_big_quiet_on | (apply Exists.intro; refine ⟨fun g => ?_, ?_⟩; (· (have hl := growL g; first | (go_at_call 12; with_reducible exact grow_ret (toPoint_K _ _)) | (go_at_call 13; with_reducible exact grow_ret (HI.out _ _ _ (ListM.at HL.out fMp))) | (go_at_call 10; with_reducible exact grow_ret (intactM_K _ _ k l _ hk fMp fMp)))); go_big_quiet_on))))); exact rfl)); have hs := hl.out.size; (try simp at hs); simp only [List.drop_succ_cons, List.drop_zero]) | ((with_reducible apply region_gd (id := 12)); refine region_QA (id := 12) 13 ?_; apply Exists.intro; refine ⟨fun G => ?_, fun W hl => ?_⟩; (· (simp only [List.take_succ_cons, List.take_zero]; (repeat (first | go_big_quiet_skip | (go_big_quiet_want; first | (refine q_loadM ?_; simp only [Act.put, List.setIfInBounds_toArray, List.set_cons_zero, List.set_cons_succ]; go_big_quiet_on) | (refine q_load ?_; simp only [Act.put, List.setIfInBounds_toArray, List.set_cons_zero, List.set_cons_succ]; go_big_quiet_on) | (go_big_quiet_op; first | go_big_quiet_on | (apply Exists.intro; refine ⟨fun g => ?_, ?_⟩; (· (have hl := growL g; first | (go_at_call 12; with_reducible exact grow_ret (toPoint_K _ _)) | (go_at_call 13; with_reducible exact grow_ret (HI.out _ _ _ (ListM.at HL.out fMp))) | (go_at_call 10; with_reducible exact grow_ret (intactM_K _ _ k l _ hk fMp fMp)))); go_big_quiet_on))))); exact rfl)); have hs := hl.out.size; (try simp at hs); simp only [List.drop_succ_cons, List.drop_zero]))
    refine at_world _ (fun W => ListM W b k l ∧ RowK W w.heap.size (pC x) 30 ∧ RowK W (w.heap.size + 1) (pC y) 30 ∧ LowK w W) ⟨hc.link (LowK.lnk findLow), findRow, findRow, findLow⟩ (fun V hF => ?_)
    obtain ⟨hcr, hxr, hyr, hVr⟩ := hF
    refine region_rels 13 [(59, isV (.int .i64 p)), (60, isV (.slice b k cap)), (61, isV (.slice none 0 0)), (62, isV (pV x)), (63, isV (pV x)), (64, isV (pV y)), (65, isV (pV y)), (66, isV (.tuple #[.bool false, .int .i64 e])), (58, isV (.tuple #[.bool false, .int .i64 e])), (67, isV (.bool false)), (68, isV (.int .i64 e)), (15, isV (.bool false)), (16, isV (.int .i64 e))] (by kernel_rfl) (by decide) (by kernel_rfl) rfl ⟨mono_is _, mono_is _, mono_is _, mono_is _, mono_is _, mono_is _, mono_is _, mono_is _, mono_is _, mono_is _, mono_is _, mono_is _, mono_is _, trivial⟩ ⟨?_, ?_, ?_, ?_, ?_, ?_, ?_, ?_, ?_, ?_, ?_, ?_, ?_, trivial⟩ ?_
    · refine RelOk.mk' 59 rfl rfl (fun a W hW hr => ?_)
      have h0 : a.tmps.getD 0 undef = .int .i64 p := (hr 0 rfl).2 rfl
      exact rel_calm (calm_move _ rfl h0) (fun _ _ => rfl)
    · refine RelOk.mk' 60 rfl rfl (fun a W hW hr => ?_)
      have h1 : a.tmps.getD 1 undef = .slice b k cap := (hr 1 rfl).2 rfl
      exact rel_calm (calm_move _ rfl h1) (fun _ _ => rfl)
    · refine RelOk.mk' 61 rfl rfl (fun a W hW hr => ?_)
      have h60 : a.tmps.getD 60 undef = .slice b k cap := (hr 60 rfl).1 rfl
      exact rel_call 8 _ #[.slice b k cap, .bool true] rfl rfl (by simp [Act.eval, h60]) (Try.call8 _ _) ((toMapS_zero b k cap W H0.out).mono fun e2 W2 h => by obtain ⟨rfl, rfl⟩ := h; exact ⟨_, rfl, Below.refl _ _, rfl⟩)
    · refine RelOk.mk' 62 rfl rfl (fun a W hW hr => ?_)
      have h6 : a.tmps.getD 6 undef = .pointer (some ⟨w.heap.size, 0, none⟩) := (hr 6 rfl).2 rfl
      exact rel_new (run_load_rowK rfl h6 (RowK.link ⟨hW⟩ hxr) 3 rfl Try.sizeOf30 Try.isAgg30) (Below.refl _ _) rfl
    · refine RelOk.mk' 63 rfl rfl (fun a W hW hr => ?_)
      have h62 : a.tmps.getD 62 undef = pV x := (hr 62 rfl).1 rfl
      exact rel_ret 12 _ #[pV x] rfl rfl (by simp [Act.eval, h62]) (Try.call12 _ _) (toPoint_K x W)
    · refine RelOk.mk' 64 rfl rfl (fun a W hW hr => ?_)
      have h7 : a.tmps.getD 7 undef = .pointer (some ⟨w.heap.size + 1, 0, none⟩) := (hr 7 rfl).2 rfl
      exact rel_new (run_load_rowK rfl h7 (RowK.link ⟨hW⟩ hyr) 3 rfl Try.sizeOf30 Try.isAgg30) (Below.refl _ _) rfl
    · refine RelOk.mk' 65 rfl rfl (fun a W hW hr => ?_)
      have h64 : a.tmps.getD 64 undef = pV y := (hr 64 rfl).1 rfl
      exact rel_ret 12 _ #[pV y] rfl rfl (by simp [Act.eval, h64]) (Try.call12 _ _) (toPoint_K y W)
    · refine RelOk.mk' 66 rfl rfl (fun a W hW hr => ?_)
      have h59 : a.tmps.getD 59 undef = .int .i64 p := (hr 59 rfl).1 rfl
      have h63 : a.tmps.getD 63 undef = pV x := (hr 63 rfl).1 rfl
      have h65 : a.tmps.getD 65 undef = pV y := (hr 65 rfl).1 rfl
      have h61 : a.tmps.getD 61 undef = .slice none 0 0 := (hr 61 rfl).1 rfl
      exact rel_ret 13 _ #[.int .i64 p, .slice none 0 0, pV x, pV y] rfl rfl (by simp [Act.eval, h59, h61, h63, h65]) (Try.call13 _ _) (HI0.out W)
    · refine RelOk.mk' 58 rfl rfl (fun a W hW hr => ?_)
      have h66 : a.tmps.getD 66 undef = .tuple #[.bool false, .int .i64 e] := (hr 66 rfl).1 rfl
      exact rel_calm (calm_move _ rfl h66) (fun _ _ => rfl)
    · refine RelOk.mk' 67 rfl rfl (fun a W hW hr => ?_)
      have h58 : a.tmps.getD 58 undef = .tuple #[.bool false, .int .i64 e] := (hr 58 rfl).1 rfl
      exact rel_calm (calm_extract _ 0 rfl h58 rfl) (fun _ _ => rfl)
    · refine RelOk.mk' 68 rfl rfl (fun a W hW hr => ?_)
      have h58 : a.tmps.getD 58 undef = .tuple #[.bool false, .int .i64 e] := (hr 58 rfl).1 rfl
      exact rel_calm (calm_extract _ 1 rfl h58 rfl) (fun _ _ => rfl)
    · refine RelOk.mk' 15 rfl rfl (fun a W hW hr => ?_)
      have h67 : a.tmps.getD 67 undef = .bool false := (hr 67 rfl).1 rfl
      exact rel_calm (calm_assign _ rfl h67) (fun _ _ => rfl)
    · refine RelOk.mk' 16 rfl rfl (fun a W hW hr => ?_)
      have h68 : a.tmps.getD 68 undef = .int .i64 e := (hr 68 rfl).1 rfl
      exact rel_calm (calm_assign _ rfl h68) (fun _ _ => rfl)
    intro vv W8 hb8 hv
    have e59 : vv 59 = .int .i64 p := hv 59 rfl
    have e60 : vv 60 = .slice b k cap := hv 60 rfl
    have e61 : vv 61 = .slice none 0 0 := hv 61 rfl
    have e62 : vv 62 = pV x := hv 62 rfl
    have e63 : vv 63 = pV x := hv 63 rfl
    have e64 : vv 64 = pV y := hv 64 rfl
    have e65 : vv 65 = pV y := hv 65 rfl
    have e66 : vv 66 = .tuple #[.bool false, .int .i64 e] := hv 66 rfl
    have e58 : vv 58 = .tuple #[.bool false, .int .i64 e] := hv 58 rfl
    have e67 : vv 67 = .bool false := hv 67 rfl
    have e68 : vv 68 = .int .i64 e := hv 68 rfl
    have e15 : vv 15 = .bool false := hv 15 rfl
    have e16 : vv 16 = .int .i64 e := hv 16 rfl
    simp only [List.map_cons, List.map_nil, puts, Act.put, List.setIfInBounds_toArray, List.set_cons_zero, List.set_cons_succ, e59, e60, e61, e62, e63, e64, e65, e66, e58, e67, e68, e15, e16, List.drop_succ_cons, List.drop_zero, List.drop_nil]
    refine wpList_nil ?_
    have hl8 := Link.mk hb8
    have hs8 := hb8.size
    (try simp at hs8)
    clear hv hb8 e59 e60 e61 e62 e63 e64 e65 e66 e58 e67 e68 e15 e16 vv
    go_wp2_with (first | (refine wl_loadM ?_) | (refine wl_load ?_) | (refine wl_fill1 ?_) | (refine wl_fill2 ?_) | (refine wl_storeM ?_) | (refine wl_makeM ?_; intro gm W' hgm hl hT; have hs := hl.out.size; (try simp at hs)) | (refine wl_store ?_) | (refine wl_build ?_) | (refine wl_slice ?_) | (refine wl_append ?_; intro v' w' ho hg hb; have hs := hg.size; (try simp at hs); (try rw [ptCs_end] at ho); (try rw [ints_end] at ho); (try simp only [Nat.zero_add, Nat.reduceAdd, List.nil_append, List.cons_append] at ho)) | ((with_reducible apply region_gd (id := 5)); refine region_QA (id := 5) 13 ?_; apply Exists.intro; refine ⟨fun G => ?_, fun W hl => ?_⟩; (· (simp only [List.take_succ_cons, List.take_zero]; (repeat (first | go_big_quiet_skip | (go_big_quiet_want; first | (refine q_loadM ?_; simp only [Act.put, List.setIfInBounds_toArray, List.set_cons_zero, List.set_cons_succ]; go_big_quiet_on) | (refine q_load ?_; simp only [Act.put, List.setIfInBounds_toArray, List.set_cons_zero, List.set_cons_succ]; go_big_quiet_on) | (go_big_quiet_op; first | go_big_quiet_on)))); exact rfl)); have hs := hl.out.size; (try simp at hs); simp only [List.drop_succ_cons, List.drop_zero]) | ((with_reducible apply region_gd (id := 7)); refine region_QA (id := 7) 12 ?_; apply Exists.intro; refine ⟨fun G => ?_, fun W hl => ?_⟩; (· (simp only [List.take_succ_cons, List.take_zero]; (repeat (first | go_big_quiet_skip | (go_big_quiet_want; first | (refine q_loadM ?_; simp only [Act.put, List.setIfInBounds_toArray, List.set_cons_zero, List.set_cons_succ]; go_big_quiet_on) | (refine q_load ?_; simp only [Act.put, List.setIfInBounds_toArray, List.set_cons_zero, List.set_cons_succ]; go_big_quiet_on) | (go_big_quiet_op; first | go_big_quiet_on)))); exact rfl)); have hs := hl.out.size; (try simp at hs); simp only [List.drop_succ_cons, List.drop_zero]) | ((with_reducible apply region_gd (id := 12)); refine region_QA (id := 12) 13 ?_; apply Exists.intro; refine ⟨fun G => ?_, fun W hl => ?_⟩; (· (simp only [List.take_succ_cons, List.take_zero]; (repeat (first | go_big_quiet_skip | (go_big_quiet_want; first | (refine q_loadM ?_; simp only [Act.put, List.setIfInBounds_toArray, List.set_cons_zero, List.set_cons_succ]; go_big_quiet_on) | (refine q_load ?_; simp only [Act.put, List.setIfInBounds_toArray, List.set_cons_zero, List.set_cons_succ]; go_big_quiet_on) | (go_big_quiet_op; first | go_big_quiet_on)))); exact rfl)); have hs := hl.out.size; (try simp at hs); simp only [List.drop_succ_cons, List.drop_zero]))
    go_ret
    exact ⟨rfl, LowK.out findLow⟩
  · go_wp2_with (first | (refine wl_loadM ?_) | (refine wl_load ?_) | (refine wl_fill1 ?_) | (refine wl_fill2 ?_) | (refine wl_storeM ?_) | (refine wl_makeM ?_; intro gm W' hgm hl hT; have hs := hl.out.size; (try simp at hs)) | (refine wl_store ?_) | (refine wl_build ?_) | (refine wl_slice ?_) | (refine wl_append ?_; intro v' w' ho hg hb; have hs := hg.size; (try simp at hs); (try rw [ptCs_end] at ho); (try rw [ints_end] at ho); (try simp only [Nat.zero_add, Nat.reduceAdd, List.nil_append, List.cons_append] at ho)) | (go_at_call 8; (with_reducible refine (copyM_K b k cap false l _ hk (.inl rfl) (hc.link (LowK.lnk findLow))).mono ?_); rintro e w' ⟨g, rfl, hg1, hg2, hR, hI, hl'⟩; have hs := hl'.out.size) | (go_at_call 12; (with_reducible refine (toPoint_K _ _).mono ?_); rintro e w' ⟨rfl, hb⟩; have hl := Link.mk hb; have hs := hb.size; (try simp at hs); clear hb) | (go_at_call 13; (with_reducible refine (HI.out _ _ _ (ListM.at HL.out fMp)).mono ?_); rintro e w' ⟨rfl, hb⟩; have hl := Link.mk hb; have hs := hb.size; (try simp at hs); clear hb) | (go_at_call 10; (with_reducible refine (intactM_K _ _ k l _ hk fMp fMp).mono ?_); rintro e w' ⟨rfl, hb⟩; have hl := Link.mk hb; have hs := hb.size; (try simp at hs); clear hb) | ((with_reducible apply region_gd (id := 5)); refine region_QA (id := 5) 13 ?_; apply Exists.intro; refine ⟨fun G => ?_, fun W hl => ?_⟩; (· (simp only [List.take_succ_cons, List.take_zero]; (repeat (first | go_big_quiet_skip | (go_big_quiet_want; first | (refine q_loadM ?_; simp only [Act.put, List.setIfInBounds_toArray, List.set_cons_zero, List.set_cons_succ]; go_big_quiet_on) | (refine q_load ?_; simp only [Act.put, List.setIfInBounds_toArray, List.set_cons_zero, List.set_cons_succ]; go_big_quiet_on) | (go_big_quiet_op; first | go_big_quiet_on | (apply Exists.intro; refine ⟨fun g => ?_, ?_⟩; (· (have hl := growL g; first | (go_at_call 12; with_reducible exact grow_ret (toPoint_K _ _)) | (go_at_call 13; with_reducible exact grow_ret (HI.out _ _ _ (ListM.at HL.out fMp))) | (go_at_call 10; with_reducible exact grow_ret (intactM_K _ _ k l _ hk fMp fMp)))); go_big_quiet_on))))); exact rfl)); have hs := hl.out.size; (try simp at hs); simp only [List.drop_succ_cons, List.drop_zero]) | ((with_reducible apply region_gd (id := 7)); refine region_QA (id := 7) 12 ?_; apply Exists.intro; refine ⟨fun G => ?_, fun W hl => ?_⟩; (· (simp only [List.take_succ_cons, List.take_zero]; (repeat (first | go_big_quiet_skip | (go_big_quiet_want; first | (refine q_loadM ?_; simp only [Act.put, List.setIfInBounds_toArray, List.set_cons_zero, List.set_cons_succ]; go_big_quiet_on) | (refine q_load ?_; simp only [Act.put, List.setIfInBounds_toArray, List.set_cons_zero, List.set_cons_succ]; go_big_quiet_on) | (go_big_quiet_op; first | go_big_quiet_on | (apply Exists.intro; refine ⟨fun g => ?_, ?_⟩; (· (have hl := growL g; first | (go_at_call 12; with_reducible exact grow_ret (toPoint_K _ _)) | (go_at_call 13; with_reducible exact grow_ret (HI.out _ _ _ (ListM.at HL.out fMp))) | (go_at_call 10; with_reducible exact grow_ret (intactM_K _ _ k l _ hk fMp fMp)))); go_big_quiet_on))))); exact rfl)); have hs := hl.out.size; (try simp at hs); simp only [List.drop_succ_cons, List.drop_zero]) | ((with_reducible apply region_gd (id := 12)); refine region_QA (id := 12) 13 ?_; apply Exists.intro; refine ⟨fun G => ?_, fun W hl => ?_⟩; (· (simp only [List.take_succ_cons, List.take_zero]; (repeat (first | go_big_quiet_skip | (go_big_quiet_want; first | (refine q_loadM ?_; simp only [Act.put, List.setIfInBounds_toArray, List.set_cons_zero, List.set_cons_succ]; go_big_quiet_on) | (refine q_load ?_; simp only [Act.put, List.setIfInBounds_toArray, List.set_cons_zero, List.set_cons_succ]; go_big_quiet_on) | (go_big_quiet_op; first | go_big_quiet_on | (apply Exists.intro; refine ⟨fun g => ?_, ?_⟩; (· (have hl := growL g; first | (go_at_call 12; with_reducible exact grow_ret (toPoint_K _ _)) | (go_at_call 13; with_reducible exact grow_ret (HI.out _ _ _ (ListM.at HL.out fMp))) | (go_at_call 10; with_reducible exact grow_ret (intactM_K _ _ k l _ hk fMp fMp)))); go_big_quiet_on))))); exact rfl)); have hs := hl.out.size; (try simp at hs); simp only [List.drop_succ_cons, List.drop_zero]))
    refine at_world _ (fun W => ListM W b k l ∧ RowK W w.heap.size (pC x) 30 ∧ RowK W (w.heap.size + 1) (pC y) 30 ∧ LowK w W) ⟨hc.link (LowK.lnk findLow), findRow, findRow, findLow⟩ (fun V hF => ?_)
    obtain ⟨hcr, hxr, hyr, hVr⟩ := hF
    refine region_rels 13 [(59, isV (.int .i64 p)), (60, isV (.slice b k cap)), (61, isV (.slice none 0 0)), (62, isV (pV x)), (63, isV (pV x)), (64, isV (pV y)), (65, isV (pV y)), (66, isV (.tuple #[.bool true, .int .i64 e])), (58, isV (.tuple #[.bool true, .int .i64 e])), (67, isV (.bool true)), (68, isV (.int .i64 e)), (15, isV (.bool true)), (16, isV (.int .i64 e))] (by kernel_rfl) (by decide) (by kernel_rfl) rfl ⟨mono_is _, mono_is _, mono_is _, mono_is _, mono_is _, mono_is _, mono_is _, mono_is _, mono_is _, mono_is _, mono_is _, mono_is _, mono_is _, trivial⟩ ⟨?_, ?_, ?_, ?_, ?_, ?_, ?_, ?_, ?_, ?_, ?_, ?_, ?_, trivial⟩ ?_
    · refine RelOk.mk' 59 rfl rfl (fun a W hW hr => ?_)
      have h0 : a.tmps.getD 0 undef = .int .i64 p := (hr 0 rfl).2 rfl
      exact rel_calm (calm_move _ rfl h0) (fun _ _ => rfl)
    · refine RelOk.mk' 60 rfl rfl (fun a W hW hr => ?_)
      have h1 : a.tmps.getD 1 undef = .slice b k cap := (hr 1 rfl).2 rfl
      exact rel_calm (calm_move _ rfl h1) (fun _ _ => rfl)
    · refine RelOk.mk' 61 rfl rfl (fun a W hW hr => ?_)
      have h60 : a.tmps.getD 60 undef = .slice b k cap := (hr 60 rfl).1 rfl
      exact rel_call 8 _ #[.slice b k cap, .bool true] rfl rfl (by simp [Act.eval, h60]) (Try.call8 _ _) ((toMapS_zero b k cap W H0.out).mono fun e2 W2 h => by obtain ⟨rfl, rfl⟩ := h; exact ⟨_, rfl, Below.refl _ _, rfl⟩)
    · refine RelOk.mk' 62 rfl rfl (fun a W hW hr => ?_)
      have h6 : a.tmps.getD 6 undef = .pointer (some ⟨w.heap.size, 0, none⟩) := (hr 6 rfl).2 rfl
      exact rel_new (run_load_rowK rfl h6 (RowK.link ⟨hW⟩ hxr) 3 rfl Try.sizeOf30 Try.isAgg30) (Below.refl _ _) rfl
    · refine RelOk.mk' 63 rfl rfl (fun a W hW hr => ?_)
      have h62 : a.tmps.getD 62 undef = pV x := (hr 62 rfl).1 rfl
      exact rel_ret 12 _ #[pV x] rfl rfl (by simp [Act.eval, h62]) (Try.call12 _ _) (toPoint_K x W)
    · refine RelOk.mk' 64 rfl rfl (fun a W hW hr => ?_)
      have h7 : a.tmps.getD 7 undef = .pointer (some ⟨w.heap.size + 1, 0, none⟩) := (hr 7 rfl).2 rfl
      exact rel_new (run_load_rowK rfl h7 (RowK.link ⟨hW⟩ hyr) 3 rfl Try.sizeOf30 Try.isAgg30) (Below.refl _ _) rfl
    · refine RelOk.mk' 65 rfl rfl (fun a W hW hr => ?_)
      have h64 : a.tmps.getD 64 undef = pV y := (hr 64 rfl).1 rfl
      exact rel_ret 12 _ #[pV y] rfl rfl (by simp [Act.eval, h64]) (Try.call12 _ _) (toPoint_K y W)
    · refine RelOk.mk' 66 rfl rfl (fun a W hW hr => ?_)
      have h59 : a.tmps.getD 59 undef = .int .i64 p := (hr 59 rfl).1 rfl
      have h63 : a.tmps.getD 63 undef = pV x := (hr 63 rfl).1 rfl
      have h65 : a.tmps.getD 65 undef = pV y := (hr 65 rfl).1 rfl
      have h61 : a.tmps.getD 61 undef = .slice none 0 0 := (hr 61 rfl).1 rfl
      exact rel_ret 13 _ #[.int .i64 p, .slice none 0 0, pV x, pV y] rfl rfl (by simp [Act.eval, h59, h61, h63, h65]) (Try.call13 _ _) (HI0.out W)
    · refine RelOk.mk' 58 rfl rfl (fun a W hW hr => ?_)
      have h66 : a.tmps.getD 66 undef = .tuple #[.bool true, .int .i64 e] := (hr 66 rfl).1 rfl
      exact rel_calm (calm_move _ rfl h66) (fun _ _ => rfl)
    · refine RelOk.mk' 67 rfl rfl (fun a W hW hr => ?_)
      have h58 : a.tmps.getD 58 undef = .tuple #[.bool true, .int .i64 e] := (hr 58 rfl).1 rfl
      exact rel_calm (calm_extract _ 0 rfl h58 rfl) (fun _ _ => rfl)
    · refine RelOk.mk' 68 rfl rfl (fun a W hW hr => ?_)
      have h58 : a.tmps.getD 58 undef = .tuple #[.bool true, .int .i64 e] := (hr 58 rfl).1 rfl
      exact rel_calm (calm_extract _ 1 rfl h58 rfl) (fun _ _ => rfl)
    · refine RelOk.mk' 15 rfl rfl (fun a W hW hr => ?_)
      have h67 : a.tmps.getD 67 undef = .bool true := (hr 67 rfl).1 rfl
      exact rel_calm (calm_assign _ rfl h67) (fun _ _ => rfl)
    · refine RelOk.mk' 16 rfl rfl (fun a W hW hr => ?_)
      have h68 : a.tmps.getD 68 undef = .int .i64 e := (hr 68 rfl).1 rfl
      exact rel_calm (calm_assign _ rfl h68) (fun _ _ => rfl)
    intro vv W8 hb8 hv
    have e59 : vv 59 = .int .i64 p := hv 59 rfl
    have e60 : vv 60 = .slice b k cap := hv 60 rfl
    have e61 : vv 61 = .slice none 0 0 := hv 61 rfl
    have e62 : vv 62 = pV x := hv 62 rfl
    have e63 : vv 63 = pV x := hv 63 rfl
    have e64 : vv 64 = pV y := hv 64 rfl
    have e65 : vv 65 = pV y := hv 65 rfl
    have e66 : vv 66 = .tuple #[.bool true, .int .i64 e] := hv 66 rfl
    have e58 : vv 58 = .tuple #[.bool true, .int .i64 e] := hv 58 rfl
    have e67 : vv 67 = .bool true := hv 67 rfl
    have e68 : vv 68 = .int .i64 e := hv 68 rfl
    have e15 : vv 15 = .bool true := hv 15 rfl
    have e16 : vv 16 = .int .i64 e := hv 16 rfl
    simp only [List.map_cons, List.map_nil, puts, Act.put, List.setIfInBounds_toArray, List.set_cons_zero, List.set_cons_succ, e59, e60, e61, e62, e63, e64, e65, e66, e58, e67, e68, e15, e16, List.drop_succ_cons, List.drop_zero, List.drop_nil]
    refine wpList_nil ?_
    have hl8 := Link.mk hb8
    have hs8 := hb8.size
    (try simp at hs8)
    clear hv hb8 e59 e60 e61 e62 e63 e64 e65 e66 e58 e67 e68 e15 e16 vv
    go_wp2_with (first | (refine wl_loadM ?_) | (refine wl_load ?_) | (refine wl_fill1 ?_) | (refine wl_fill2 ?_) | (refine wl_storeM ?_) | (refine wl_makeM ?_; intro gm W' hgm hl hT; have hs := hl.out.size; (try simp at hs)) | (refine wl_store ?_) | (refine wl_build ?_) | (refine wl_slice ?_) | (refine wl_append ?_; intro v' w' ho hg hb; have hs := hg.size; (try simp at hs); (try rw [ptCs_end] at ho); (try rw [ints_end] at ho); (try simp only [Nat.zero_add, Nat.reduceAdd, List.nil_append, List.cons_append] at ho)) | ((with_reducible apply region_gd (id := 5)); refine region_QA (id := 5) 13 ?_; apply Exists.intro; refine ⟨fun G => ?_, fun W hl => ?_⟩; (· (simp only [List.take_succ_cons, List.take_zero]; (repeat (first | go_big_quiet_skip | (go_big_quiet_want; first | (refine q_loadM ?_; simp only [Act.put, List.setIfInBounds_toArray, List.set_cons_zero, List.set_cons_succ]; go_big_quiet_on) | (refine q_load ?_; simp only [Act.put, List.setIfInBounds_toArray, List.set_cons_zero, List.set_cons_succ]; go_big_quiet_on) | (go_big_quiet_op; first | go_big_quiet_on)))); exact rfl)); have hs := hl.out.size; (try simp at hs); simp only [List.drop_succ_cons, List.drop_zero]) | ((with_reducible apply region_gd (id := 7)); refine region_QA (id := 7) 12 ?_; apply Exists.intro; refine ⟨fun G => ?_, fun W hl => ?_⟩; (· (simp only [List.take_succ_cons, List.take_zero]; (repeat (first | go_big_quiet_skip | (go_big_quiet_want; first | (refine q_loadM ?_; simp only [Act.put, List.setIfInBounds_toArray, List.set_cons_zero, List.set_cons_succ]; go_big_quiet_on) | (refine q_load ?_; simp only [Act.put, List.setIfInBounds_toArray, List.set_cons_zero, List.set_cons_succ]; go_big_quiet_on) | (go_big_quiet_op; first | go_big_quiet_on)))); exact rfl)); have hs := hl.out.size; (try simp at hs); simp only [List.drop_succ_cons, List.drop_zero]) | ((with_reducible apply region_gd (id := 12)); refine region_QA (id := 12) 13 ?_; apply Exists.intro; refine ⟨fun G => ?_, fun W hl => ?_⟩; (· (simp only [List.take_succ_cons, List.take_zero]; (repeat (first | go_big_quiet_skip | (go_big_quiet_want; first | (refine q_loadM ?_; simp only [Act.put, List.setIfInBounds_toArray, List.set_cons_zero, List.set_cons_succ]; go_big_quiet_on) | (refine q_load ?_; simp only [Act.put, List.setIfInBounds_toArray, List.set_cons_zero, List.set_cons_succ]; go_big_quiet_on) | (go_big_quiet_op; first | go_big_quiet_on)))); exact rfl)); have hs := hl.out.size; (try simp at hs); simp only [List.drop_succ_cons, List.drop_zero]))
    go_ret
    exact ⟨rfl, LowK.out findLow⟩
theorem FnExactAreInOneOrbit_walkP (p : Int) (b : Option Addr) (k cap : Nat) (l : List M9) (x y : Pt) (w : World) (hk2 : k ≤ 9223372036854775807) (hc : ListM w b k l) :
    Calls Try.prog 4 #[.int .i64 p, .slice b k cap, pV x, pV y] w (Ret w (.bool true)) := by
  by_cases hk : k ≤ 1000000
  · have hl := hc.out.1
    obtain ⟨v, e, HS, HI⟩ : ∃ (v : Bool) (e : Int), (∀ (W : World) (b : Option Addr) (c : Nat), ListM W b k l → Calls Try.prog 11 #[.int .i64 p, .slice b k c, pV x, pV y] W (Ret W (.tuple #[.bool v, .int .i64 e]))) ∧ (∀ (W : World) (b : Option Addr) (c : Nat), ListM W b k l → Calls Try.prog 13 #[.int .i64 p, .slice b k c, pV x, pV y] W (Ret W (.tuple #[.bool v, .int .i64 e]))) := by
      obtain ⟨cd, hcd⟩ : ∃ cd, codeML p k (oksM p l && ptsB p [x, y]) = cd := ⟨_, rfl⟩
      by_cases h0 : cd = 0
      · subst h0
        obtain ⟨hp, h8, hv⟩ := codeML_ok hcd
        rw [Bool.and_eq_true] at hv
        obtain ⟨n, rfl⟩ : ∃ n : Nat, p = (n : Int) := ⟨p.toNat, by have := (prB_bd hp).1; omega⟩
        have hM : MsOk n l := ⟨hp, fun m hm => List.all_eq_true.1 hv.1 m hm⟩
        have hpts := hv.2
        have hx : x ∈ allP n := mem_allP (List.all_eq_true.1 hpts _ (by simp))
        have hy : y ∈ allP n := mem_allP (List.all_eq_true.1 hpts _ (by simp))
        obtain ⟨K, hK⟩ := whole_P hM hx
        obtain ⟨v, hv2⟩ : ∃ v, decide (y ∈ seqP n l x K) = v := ⟨_, rfl⟩
        exact ⟨v, 0, fun W b c h => AreInOneOrbit_spec_core n b k c l x y K _ W hM h8 h hx hcd hK rfl hv2, fun W b c h => AreInOneOrbit_impl_core n b k c l x y W hM h8 h hcd rfl (orb_lists hM rfl rfl hx hy hK rfl hv2)⟩
      · exact ⟨false, cd, fun W b c h => AreInOneOrbit_spec_code p b k c l x y W hk h hcd h0, fun W b c h => AreInOneOrbit_impl_code p b k c l x y W hk h hcd h0⟩
    rcases Nat.eq_zero_or_pos k with h0 | h0
    · exact FnExactAreInOneOrbit_zero p b k cap l x y w hl hk hc h0 v e HS HI
    · exact FnExactAreInOneOrbit_pos p b k cap l x y w hl hk hc h0 v e HS HI
  · exact FnExactAreInOneOrbit_big p b k cap x y w (by omega) hk2
theorem FnExactAreInOneOrbit_walk (p : Int) (b : Option Addr) (k cap : Nat) (l : List M9) (x0 x1 x2 y0 y1 y2 : Int) (w : World) (hk2 : k ≤ 9223372036854775807) (hc : ListM w b k l) :
    Calls Try.prog 4 #[.int .i64 p, .slice b k cap, ptV x0 x1 x2, ptV y0 y1 y2] w (Ret w (.bool true)) := FnExactAreInOneOrbit_walkP p b k cap l (x0, x1, x2) (y0, y1, y2) w hk2 hc
end Go.Proofs.Ytoagfpdicpcjnaa
