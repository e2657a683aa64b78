/- Texts of the claim, in build order: V3, V4. No condition. -/
import Derived.Test.YtidbikjdigemnaaZDegreesOfFigure12
/- Contracts: the reference's DegreesOfFigure. (Printed by genv3.py, a program of this session.) -/
namespace Go.Proofs.Ytidbikjdigemnaa
open Go.RowKit
set_option linter.unusedVariables false
set_option linter.unusedSimpArgs false
/-- What stands at i when the points below k are counted, and of point k the lines below m. -/
def rowD (F : Nat → Nat → Bool) (dP : Nat → Int) (k m i : Nat) : Int := if i < k then dP i else if i = k then sumB (F k) m else 0
theorem rowD_at (F : Nat → Nat → Bool) (dP : Nat → Int) (k m : Nat) : rowD F dP k m k = sumB (F k) m := by unfold rowD; simp
theorem rowD_other (F : Nat → Nat → Bool) (dP : Nat → Int) (k m m' i : Nat) (h : i ≠ k) : rowD F dP k m i = rowD F dP k m' i := by unfold rowD; simp [h]
theorem rowD_done (F : Nat → Nat → Bool) (dP : Nat → Int) (k n i : Nat) (h : sumB (F k) n = dP k) : rowD F dP k n i = rowD F dP (k + 1) 0 i := by
  unfold rowD
  by_cases h1 : i < k
  · rw [if_pos h1, if_pos (by omega)]
  · rw [if_neg h1]
    by_cases h2 : i = k
    · rw [if_pos h2, if_pos (by omega), h, h2]
    · rw [if_neg h2, if_neg (by omega)]; split <;> rfl
theorem rowD_end (F : Nat → Nat → Bool) (dP : Nat → Int) (n i : Nat) (h : i < n) : rowD F dP n 0 i = dP i := by unfold rowD; rw [if_pos h]
theorem rowD_zero (F : Nat → Nat → Bool) (dP : Nat → Int) (i : Nat) : rowD F dP 0 0 i = 0 := by unfold rowD; rw [if_neg (by omega)]; split <;> rfl
theorem block_of_set {W : World} {k i g : Nat} (v : Value) (h : g ≠ k) : (W.setCell ⟨k, i, none⟩ v).heap[g]? = W.heap[g]? := Below.heap_setCell _ _ _ _ h
set_option maxHeartbeats 2000000 in
theorem DegreesOfFigure_spec_code (p : Int) (b1 : Option Addr) (n1 c1 : Nat) (b2 : Option Addr) (n2 c2 : Nat) (l1 l2 : List Pt) (w : World) (hn1 : n1 ≤ 1000000) (hn2 : n2 ≤ 1000000) (h1 : ListP w b1 n1 l1) (h2 : ListP w b2 n2 l2) (k : Int) (hk : figC p n1 n2 l1 l2 = k) (h0 : k ≠ 0) (L1 L2 : List Int) :
    Calls Try.prog 14 #[.int .i64 p, figV b1 n1 c1 b2 n2 c2] w (DegAny 0 0 L1 L2 k w) := by
  have HC := Lib.hid (fun (W : World) (hW : Below w.heap.size w W) => l09Code_any p b1 n1 c1 b2 n2 c2 l1 l2 W hn1 hn2 (h1.below hW) (h2.below hW))
  rw [hk] at HC
  have hq : (k != 0) = true := bnet h0
  clear h1 h2 hk
  go_enter Try.func14, Try.ntmps14
  go_wp2_with (go_at_call 26; (with_reducible refine (HC.out _ (by repeat (first | exact Below.refl _ _ | refine bset ?_ _ _ (by omega) _ | refine bal ?_ _ | refine bdrN ?_ _ | refine bdr ?_))).mono ?_); rintro e w1_ ⟨rfl, hb1⟩; obtain ⟨hcb1, hfb1, hlb1⟩ := bcell hb1; have hsz1 := hb1.size; (try simp at hsz1); have HB1 := Lib.hid hb1; clear hb1; (try (have hl01 : w.heap.size < w1_.heap.size := by omega)))
  exact bodyPost_ret (v := .tuple #[.slice none 0 0, .slice none 0 0, .int .i64 k]) (by simp [results, Try.results14, go_sem]) rfl ⟨none, 0, none, 0, 0, 0, rfl, .inl ⟨rfl, rfl, rfl, rfl⟩, (by repeat (first | exact Below.refl _ _ | refine bset ?_ _ _ (by omega) _ | refine bal ?_ _ | refine bdrN ?_ _ | refine bdr ?_ | refine below_tr' ?_ HB1.out))⟩
set_option maxRecDepth 20000 in
set_option maxHeartbeats 8000000 in
theorem DegreesOfFigure_spec_good (p : Int) (b1 : Option Addr) (n1 c1 : Nat) (b2 : Option Addr) (n2 c2 : Nat) (l1 l2 : List Pt) (w : World) (hn1 : n1 ≤ 1000000) (hn2 : n2 ≤ 1000000) (h1 : ListP w b1 n1 l1) (h2 : ListP w b2 n2 l2) (hk : figC p n1 n2 l1 l2 = 0) :
    Calls Try.prog 14 #[.int .i64 p, figV b1 n1 c1 b2 n2 c2] w (DegAny n1 n2 (listF (degP p l1 l2 n2) n1) (listF (degL p l1 l2 n1) n2) 0 w) := by
  obtain ⟨hp, m1, m2⟩ := figC_zero hk
  obtain ⟨q1, q2⟩ := figC_pts hk
  have HC := Lib.hid (fun (W : World) (hW : Below w.heap.size w W) => l09Code_any p b1 n1 c1 b2 n2 c2 l1 l2 W hn1 hn2 (h1.below hW) (h2.below hW))
  rw [hk] at HC
  have HT := Lib.hid (fun (W : World) (hW : Below w.heap.size w W) => l09Table_any p b1 n1 c1 b2 n2 c2 l1 l2 W hp m1 m2 (h1.below hW) (h2.below hW) q1 q2)
  obtain ⟨F, hF⟩ : ∃ F, tblF p l1 l2 = F := ⟨_, rfl⟩
  have HRow : Hid (∀ i, tblR p l1 l2 n2 i = bits (F i) n2) := Lib.hid (fun i => by unfold tblR; rw [hF])
  have HdP : Hid (∀ i, degP p l1 l2 n2 i = sumB (F i) n2) := Lib.hid (fun i => by unfold degP; rw [hF])
  have HdL : Hid (∀ k, degL p l1 l2 n1 k = sumB (fun t => F t k) n1) := Lib.hid (fun k => by unfold degL; rw [hF])
  obtain ⟨i0, hi, hz0, hz1, hz2⟩ := info_parts info64
  have HI0 := Lib.hid hi; have HZ0 := Lib.hid hz0; have HZ1 := Lib.hid hz1; have HZ2 := Lib.hid hz2
  clear h1 h2 hk hp q1 q2 hF hi hz0 hz1 hz2
  generalize tblR p l1 l2 n2 = tb at *
  generalize degP p l1 l2 n2 = dP at *
  generalize degL p l1 l2 n1 = dL at *
  go_enter Try.func14, Try.ntmps14
  go_wp2_with (go_at_call 26; (with_reducible refine (HC.out _ (by repeat (first | exact Below.refl _ _ | refine bset ?_ _ _ (by omega) _ | refine bal ?_ _ | refine bdrN ?_ _ | refine bdr ?_))).mono ?_); rintro e w1_ ⟨rfl, hb1⟩; obtain ⟨hcb1, hfb1, hlb1⟩ := bcell hb1; have hsz1 := hb1.size; (try simp at hsz1); have HB1 := Lib.hid hb1; clear hb1; (try (have hl01 : w.heap.size < w1_.heap.size := by omega)))
  have kf : w1_.heap[w.heap.size]? = some (.cells #[.slice b1 n1 c1, .slice b2 n2 c2] 29 (0, 0)) := by rw [HB1.out.block _ (by simp)]; exact heap_alloc_new _ _
  have lf := (Array.getElem?_eq_some_iff.1 kf).1
  have HQ1 : Hid (Below w.heap.size w w1_) := Lib.hid (by repeat (first | exact Below.refl _ _ | refine bset ?_ _ _ (by omega) _ | refine bal ?_ _ | refine bdrN ?_ _ | refine bdr ?_ | refine below_tr' ?_ HB1.out))
  have xf0 : w1_.cell? ⟨w.heap.size, 0, none⟩ = some (.slice b1 n1 c1) := rowV kf rfl
  have xf1 : w1_.cell? ⟨w.heap.size, 1, none⟩ = some (.slice b2 n2 c2) := rowV kf rfl
  clear HC hcb1 hfb1 hlb1 HB1
  refine region_relsI 13 [(8, 21), (9, 25)] [(19, isVI (.int .i64 p)), (20, isVI (figV b1 n1 c1 b2 n2 c2)), (21, isTab n1 n2 tb), (22, isVI (.pointer (some ⟨w.heap.size, 0, none⟩))), (23, isVI (.slice b1 n1 c1)), (24, isVI (.int .i64 (n1 : Int))), (25, isZero n1), (26, isVI (.pointer (some ⟨w.heap.size, 1, none⟩))), (27, isVI (.slice b2 n2 c2)), (28, isVI (.int .i64 (n2 : Int))), (29, isZero n2), (8, isAnyI), (9, isAnyI)] (by kernel_rfl) (by decide) (by kernel_rfl) (by kernel_rfl) rfl ⟨mono_isVI _, mono_isVI _, mono_tab _ _ _, mono_isVI _, mono_isVI _, mono_isVI _, mono_zero _, mono_isVI _, mono_isVI _, mono_isVI _, mono_zero _, mono_anyI, mono_anyI, trivial⟩ ⟨?_, ?_, ?_, ?_, ?_, ?_, ?_, ?_, ?_, ?_, ?_, RelOkI.copy 8 21 rfl rfl rfl (by decide) (fun _ _ _ _ => trivial), RelOkI.copy 9 25 rfl rfl rfl (by decide) (fun _ _ _ _ => trivial), trivial⟩ ?_
  · refine RelOkI.mk' 19 rfl rfl (by decide) (fun a W hW hr => ?_)
    have h0 := (hr 0 rfl).2 rfl
    exact rel_calm (calm_move (.tmp 0) rfl h0) (fun _ _ => rfl)
  · refine RelOkI.mk' 20 rfl rfl (by decide) (fun a W hW hr => ?_)
    have h3 := (hr 3 rfl).2 rfl
    exact rel_calm (calm_load (cs := #[.slice b1 n1 c1, .slice b2 n2 c2]) (g := w.heap.size) (T := 29) (fr := (0, 0)) 29 (.tmp 3) rfl h3 (by rw [hW.block _ lf]; exact kf) 2 rfl Try.sizeOf29 Try.isAgg29) (fun _ _ => rfl)
  · refine RelOkI.mk' 21 rfl rfl (by decide) (fun a W hW hr => ?_)
    obtain ⟨_, _, g19⟩ : ∃ lo hi, isVI (.int .i64 p) (a.tmps.getD 19 undef) lo hi W := (hr 19 rfl).1 rfl
    have h19 : a.tmps.getD 19 undef = .int .i64 p := g19
    obtain ⟨_, _, g20⟩ : ∃ lo hi, isVI (figV b1 n1 c1 b2 n2 c2) (a.tmps.getD 20 undef) lo hi W := (hr 20 rfl).1 rfl
    have h20 : a.tmps.getD 20 undef = figV b1 n1 c1 b2 n2 c2 := g20
    refine rel_call 38 _ #[.int .i64 p, figV b1 n1 c1 b2 n2 c2] rfl rfl (by simp [Act.eval, h19, h20]) (Try.call38 _ _) ((HT.out _ (low_tr' HQ1.out hW (by omega))).mono ?_)
    rintro e w2_ ⟨v, gs, rfl, hg, ho, ht, hb⟩
    obtain ⟨to, tc, rfl, hout⟩ := tab_open ho hg ht
    exact ⟨_, rfl, hb, to, tc, gs, rfl, hg, hout, ht, bnd_of hout ht⟩
  · refine RelOkI.mk' 22 rfl rfl (by decide) (fun a W hW hr => ?_)
    have h3 := (hr 3 rfl).2 rfl
    exact rel_calm (calm_run (v := .pointer (some ⟨w.heap.size, 0, none⟩)) (by simp [execOp, Act.eval, go_sem, h3])) (fun _ _ => rfl)
  · refine RelOkI.mk' 23 rfl rfl (by decide) (fun a W hW hr => ?_)
    obtain ⟨_, _, g22⟩ : ∃ lo hi, isVI (.pointer (some ⟨w.heap.size, 0, none⟩)) (a.tmps.getD 22 undef) lo hi W := (hr 22 rfl).1 rfl
    have h22 : a.tmps.getD 22 undef = .pointer (some ⟨w.heap.size, 0, none⟩) := g22
    have hc := cell_below hW xf0
    exact rel_calm (calm_run (v := .slice b1 n1 c1) (by simp [execOp, Act.eval, go_sem, h22, hc])) (fun _ _ => rfl)
  · refine RelOkI.mk' 24 rfl rfl (by decide) (fun a W hW hr => ?_)
    obtain ⟨_, _, g23⟩ : ∃ lo hi, isVI (.slice b1 n1 c1) (a.tmps.getD 23 undef) lo hi W := (hr 23 rfl).1 rfl
    have h23 : a.tmps.getD 23 undef = .slice b1 n1 c1 := g23
    exact rel_calm (calm_run (v := .int .i64 (n1 : Int)) (by simp [execOp, Act.eval, go_sem, h23])) (fun _ _ => rfl)
  · refine RelOkI.mk' 25 rfl rfl (by decide) (fun a W hW hr => ?_)
    obtain ⟨_, _, g24⟩ : ∃ lo hi, isVI (.int .i64 (n1 : Int)) (a.tmps.getD 24 undef) lo hi W := (hr 24 rfl).1 rfl
    have h24 : a.tmps.getD 24 undef = .int .i64 (n1 : Int) := g24
    refine rel_make_ints (.tmp 24) (.tmp 24) 36 rfl 2 i0 Try.underlying36 HI0.out HZ0.out HZ1.out .i64 .i64 n1 (by simpa [Act.eval] using h24) (by simpa [Act.eval] using h24) (by rw [HZ2.out]; omega) (by omega) (fun W' hb hrm hia hlt => ⟨W.heap.size, rfl, ⟨Nat.le_refl _, hlt⟩, hrm, intsF_of hia (fun i hi => by simp [List.getD, hi])⟩)
  · refine RelOkI.mk' 26 rfl rfl (by decide) (fun a W hW hr => ?_)
    have h3 := (hr 3 rfl).2 rfl
    exact rel_calm (calm_run (v := .pointer (some ⟨w.heap.size, 1, none⟩)) (by simp [execOp, Act.eval, go_sem, h3])) (fun _ _ => rfl)
  · refine RelOkI.mk' 27 rfl rfl (by decide) (fun a W hW hr => ?_)
    obtain ⟨_, _, g26⟩ : ∃ lo hi, isVI (.pointer (some ⟨w.heap.size, 1, none⟩)) (a.tmps.getD 26 undef) lo hi W := (hr 26 rfl).1 rfl
    have h26 : a.tmps.getD 26 undef = .pointer (some ⟨w.heap.size, 1, none⟩) := g26
    have hc := cell_below hW xf1
    exact rel_calm (calm_run (v := .slice b2 n2 c2) (by simp [execOp, Act.eval, go_sem, h26, hc])) (fun _ _ => rfl)
  · refine RelOkI.mk' 28 rfl rfl (by decide) (fun a W hW hr => ?_)
    obtain ⟨_, _, g27⟩ : ∃ lo hi, isVI (.slice b2 n2 c2) (a.tmps.getD 27 undef) lo hi W := (hr 27 rfl).1 rfl
    have h27 : a.tmps.getD 27 undef = .slice b2 n2 c2 := g27
    exact rel_calm (calm_run (v := .int .i64 (n2 : Int)) (by simp [execOp, Act.eval, go_sem, h27])) (fun _ _ => rfl)
  · refine RelOkI.mk' 29 rfl rfl (by decide) (fun a W hW hr => ?_)
    obtain ⟨_, _, g28⟩ : ∃ lo hi, isVI (.int .i64 (n2 : Int)) (a.tmps.getD 28 undef) lo hi W := (hr 28 rfl).1 rfl
    have h28 : a.tmps.getD 28 undef = .int .i64 (n2 : Int) := g28
    refine rel_make_ints (.tmp 28) (.tmp 28) 36 rfl 2 i0 Try.underlying36 HI0.out HZ0.out HZ1.out .i64 .i64 n2 (by simpa [Act.eval] using h28) (by simpa [Act.eval] using h28) (by rw [HZ2.out]; omega) (by omega) (fun W' hb hrm hia hlt => ⟨W.heap.size, rfl, ⟨Nat.le_refl _, hlt⟩, hrm, intsF_of hia (fun i hi => by simp [List.getD, hi])⟩)
  intro v lo hi W hW hv hiv hdis hcp
  have e19 : v 19 = .int .i64 p := hv 19 rfl
  have e20 : v 20 = figV b1 n1 c1 b2 n2 c2 := hv 20 rfl
  have e22 : v 22 = .pointer (some ⟨w.heap.size, 0, none⟩) := hv 22 rfl
  have e23 : v 23 = .slice b1 n1 c1 := hv 23 rfl
  have e24 : v 24 = .int .i64 (n1 : Int) := hv 24 rfl
  have e26 : v 26 = .pointer (some ⟨w.heap.size, 1, none⟩) := hv 26 rfl
  have e27 : v 27 = .slice b2 n2 c2 := hv 27 rfl
  have e28 : v 28 = .int .i64 (n2 : Int) := hv 28 rfl
  obtain ⟨to, tc, gs, e21, hg, hout, htt, hbd⟩ : isTab n1 n2 tb (v 21) (lo 21) (hi 21) W := hv 21 rfl
  obtain ⟨gp, e25, hgp, hrp, hip⟩ : isZero n1 (v 25) (lo 25) (hi 25) W := hv 25 rfl
  obtain ⟨gl, e29, hgl, hrl, hil⟩ : isZero n2 (v 29) (lo 29) (hi 29) W := hv 29 rfl
  have e8 : v 8 = .slice to n1 tc := (hcp 8 21 (by decide) rfl).trans e21
  have e9 : v 9 = .slice (some ⟨gp, 0, none⟩) n1 n1 := (hcp 9 25 (by decide) rfl).trans e25
  clear hcp
  have d1 := hdis 21 25 rfl rfl (by decide)
  have d2 := hdis 21 29 rfl rfl (by decide)
  have d3 := hdis 25 29 rfl rfl (by decide)
  have v21 := hiv 21 rfl
  have v25 := hiv 25 rfl
  have v29 := hiv 29 rfl
  clear hv hiv hdis
  generalize lo 21 = tb0 at *
  generalize hi 21 = tb1 at *
  have hgp1 : w1_.heap.size ≤ gp := by omega
  have hgl1 : w1_.heap.size ≤ gl := by omega
  have hpl : gp ≠ gl := by omega
  have htp : gp < tb0 ∨ tb1 ≤ gp := by omega
  have htl : gl < tb0 ∨ tb1 ≤ gl := by omega
  have ht1 : tb1 ≤ W.heap.size := by omega
  have hgpW : gp < W.heap.size := by omega
  have hglW : gl < W.heap.size := by omega
  clear d1 d2 d3 v21 v25 v29 hgp hgl
  simp only [List.map_cons, List.map_nil, puts, Act.put, List.setIfInBounds_toArray, List.set_cons_zero, List.set_cons_succ, e19, e20, e21, e22, e23, e24, e25, e26, e27, e28, e29, e8, e9, List.drop_succ_cons, List.drop_zero, List.drop_nil]
  clear e19 e20 e21 e22 e23 e24 e25 e26 e27 e28 e29 e8 e9
  have hw1 := hW.size
  have HB0 := Lib.hid (low_tr' HQ1.out hW (by omega))
  have HG := Lib.hid hg
  have HO0 := Lib.hid hout
  have HT0 := Lib.hid htt
  have HBn := Lib.hid hbd
  have HRp0 := Lib.hid hrp
  have HIp0 := Lib.hid hip
  have HRl0 := Lib.hid hrl
  have HIl0 := Lib.hid hil
  have hwp : w.heap.size ≤ gp := by omega
  have hwl : w.heap.size ≤ gl := by omega
  clear hW hg hout htt hbd hrp hip hrl hil xf0 xf1 kf HQ1 HT v lo hi
  go_wp2
  go_loopw [11] (fun i wr => ∃ k : Nat, k ≤ n1 ∧ i = .int .i64 k ∧ Hid (RoomI wr gp n1 2) ∧ Hid (IntsF wr gp n1 (rowD F dP k 0)) ∧ Hid (RoomI wr gl n2 2) ∧ Hid (IntsF wr gl n2 (fun q => sumB (fun t => F t q) k)) ∧ Hid (OutIn wr tb0 to n2 gs) ∧ Hid (TabAt wr tb0 n2 tb gs) ∧ (tb1 ≤ wr.heap.size ∧ gp < wr.heap.size ∧ gl < wr.heap.size) ∧ Hid (Below w.heap.size w wr)) (fun i wr => n1 - (intOf i).toNat)
  case atStart => exact ⟨0, Nat.zero_le _, rfl, HRp0, Lib.hid (HIp0.out.congr (fun i _ => (rowD_zero F dP i).symm)), HRl0, Lib.hid (HIl0.out.congr (fun _ _ => rfl)), HO0, HT0, ⟨ht1, hgpW, hglW⟩, HB0⟩
  case round =>
    clear HRp0 HIp0 HRl0 HIl0 HO0 HT0 HB0 ht1 hgpW hglW
    obtain ⟨k, hk, rfl, HRp, HIp, HRl, HIl, HOt, HTt, hsz, HB⟩ := hrel
    by_cases hlt : k < n1
    · obtain ⟨go, rfl, _, _, _⟩ := out_at HOt.out (k := k) (by have := HG.out; omega)
      go_wp2
      go_loopw [12] (fun j wr => ∃ m : Nat, m ≤ n2 ∧ j = .int .i64 m ∧ Hid (RoomI wr gp n1 2) ∧ Hid (IntsF wr gp n1 (rowD F dP k m)) ∧ Hid (RoomI wr gl n2 2) ∧ Hid (IntsF wr gl n2 (colV F k m)) ∧ Hid (OutIn wr tb0 (some ⟨go, 0, none⟩) n2 gs) ∧ Hid (TabAt wr tb0 n2 tb gs) ∧ (tb1 ≤ wr.heap.size ∧ gp < wr.heap.size ∧ gl < wr.heap.size) ∧ Hid (Below w.heap.size w wr)) (fun j wr => n2 - (intOf j).toNat)
      case atStart => exact ⟨0, Nat.zero_le _, rfl, HRp, HIp, HRl, Lib.hid (HIl.out.congr (fun q _ => (colV_zero F k q).symm)), HOt, HTt, hsz, HB⟩
      case round =>
        clear HRp HIp HRl HIl HOt HTt hsz HB
        obtain ⟨m, hm, rfl, HRp, HIp, HRl, HIl, HOt, HTt, hsz, HB⟩ := hrel
        by_cases hlm : m < n2
        · obtain ⟨go2, e2, hgo, x1, _⟩ := out_at HOt.out (k := k) (by have := HG.out; omega)
          obtain rfl : go = go2 := by cases e2; rfl
          clear e2
          have hgo1 := HBn.out.1 _ rfl
          simp only at hgo1
          obtain ⟨t1, t2, t3, t4, t5, _⟩ := HTt.out k (by have := HG.out; omega)
          rw [HRow.out k] at t5
          have hqb := HBn.out.2 k (by have := HG.out; omega)
          obtain ⟨q, hq⟩ : ∃ q, gs.getD k (0, 0) = q := ⟨_, rfl⟩
          rw [hq] at x1 t1 t2 t5 hqb
          obtain ⟨qa, qb⟩ := q
          simp only at t1 t2 t5 hqb
          have y1 := t5 m hlm
          rw [bits_at (F k) n2 m hlm] at y1
          simp only [Nat.zero_add] at y1
          clear t3 t4 t5 hq
          have z1 := HIp.out k hlt
          rw [rowD_at] at z1
          have z2 := HIl.out m hlm
          have hcv := colV_at F k m
          have hcn := colV_next F k m
          rw [hcv] at z2
          have sb := sumB_bd (F k) m
          have sc := sumB_bd (fun t => F t m) k
          have hss := sumB_succ (F k) m
          have hrn := rowD_at F dP k (m + 1)
          rw [hss] at hrn
          have hx : (0 : Int) ≤ (if F k m then 1 else 0) ∧ (if F k m then (1 : Int) else 0) ≤ 1 := by split <;> omega
          have HCn := Lib.hid hcn
          have HRn := Lib.hid hrn
          clear hcn hss hcv hrn
          generalize (if F k m then (1 : Int) else 0) = x at *
          generalize sumB (F k) m = sv at *
          generalize sumB (fun t => F t m) k = cv at *
          have ws : IntKind.wrap .i64 (sv + x) = sv + x := by simp [IntKind.wrap, IntKind.signed, IntKind.bits]; omega
          have wc : IntKind.wrap .i64 (cv + x) = cv + x := by simp [IntKind.wrap, IntKind.signed, IntKind.bits]; omega
          have Y1 := Lib.hid y1
          have X1 := Lib.hid x1
          have Z1 := Lib.hid z1
          have Z2 := Lib.hid z2
          clear y1 x1 z1 z2
          go_wp2
          refine region_via 14 [(42, .slice (some ⟨gp, 0, none⟩) n1 n1), (43, .int .i64 (k : Int)), (44, .slice (some ⟨gp, 0, none⟩) n1 n1), (45, .int .i64 (k : Int)), (46, .pointer (some ⟨gp, k, none⟩)), (47, .int .i64 sv), (48, .slice (some ⟨go, 0, none⟩) n1 tc), (49, .int .i64 (k : Int)), (50, .pointer (some ⟨go, k, none⟩)), (51, rowQ n2 (qa, qb)), (52, .int .i64 (m : Int)), (53, .pointer (some ⟨qa, m, none⟩)), (54, .int .i64 x), (55, .int .i64 (sv + x))] (by kernel_rfl) (by decide) (by kernel_rfl) (by kernel_rfl) (by kernel_rfl) (fun aE hpe => ?_)
          simp only [puts, Act.put, List.setIfInBounds_toArray, List.set_cons_zero, List.set_cons_succ] at hpe
          subst hpe
          refine ⟨⟨.inr (.inr ?_), .inr (.inr ?_), .inr (.inr ?_), .inr (.inr ?_), .inr (.inr ?_), .inr (.inr ?_), .inr (.inr ?_), .inr (.inr ?_), .inr (.inr ?_), .inr (.inr ?_), .inr (.inr ?_), .inr (.inr ?_), .inr (.inr ?_), .inr (.inr ?_), trivial⟩, ?_⟩
          · exact CalmG.mk 42 (.slice (some ⟨gp, 0, none⟩) n1 n1) rfl rfl rfl (fun W hW => calm_move (.tmp 9) rfl rfl)
          · exact CalmG.mk 43 (.int .i64 (k : Int)) rfl rfl rfl (fun W hW => calm_move (.tmp 11) rfl rfl)
          · exact CalmG.mk 44 (.slice (some ⟨gp, 0, none⟩) n1 n1) rfl rfl rfl (fun W hW => calm_move (.tmp 9) rfl rfl)
          · exact CalmG.mk 45 (.int .i64 (k : Int)) rfl rfl rfl (fun W hW => calm_move (.tmp 11) rfl rfl)
          · exact CalmG.mk 46 (.pointer (some ⟨gp, k, none⟩)) rfl rfl rfl (fun W hW => calm_run (by simp [execOp, Act.eval, go_sem, Addr.add, hlt] <;> omega))
          · exact CalmG.mk 47 (.int .i64 sv) rfl rfl rfl (fun W hW => (by have hc := cell_below hW Z1.out; exact calm_run (by simp [execOp, Act.eval, go_sem, hc])))
          · exact CalmG.mk 48 (.slice (some ⟨go, 0, none⟩) n1 tc) rfl rfl rfl (fun W hW => calm_move (.tmp 8) rfl rfl)
          · exact CalmG.mk 49 (.int .i64 (k : Int)) rfl rfl rfl (fun W hW => calm_move (.tmp 11) rfl rfl)
          · exact CalmG.mk 50 (.pointer (some ⟨go, k, none⟩)) rfl rfl rfl (fun W hW => calm_run (by simp [execOp, Act.eval, go_sem, Addr.add, hlt] <;> omega))
          · exact CalmG.mk 51 (rowQ n2 (qa, qb)) rfl rfl rfl (fun W hW => (by have hc := cell_below hW X1.out; exact calm_run (by simp [execOp, Act.eval, go_sem, hc])))
          · exact CalmG.mk 52 (.int .i64 (m : Int)) rfl rfl rfl (fun W hW => calm_move (.tmp 12) rfl rfl)
          · exact CalmG.mk 53 (.pointer (some ⟨qa, m, none⟩)) rfl rfl rfl (fun W hW => calm_run (by simp [execOp, Act.eval, go_sem, Addr.add, hlm] <;> omega))
          · exact CalmG.mk 54 (.int .i64 x) rfl rfl rfl (fun W hW => (by have hc := cell_below hW Y1.out; exact calm_run (by simp [execOp, Act.eval, go_sem, hc])))
          · exact CalmG.mk 55 (.int .i64 (sv + x)) rfl rfl rfl (fun W hW => calm_run (by simp [execOp, Act.eval, go_sem, ws]))
          intro W hW
          simp only [List.drop_succ_cons, List.drop_zero]
          have hs1 := hW.size
          have c1 := cell_below hW Z1.out
          have fz := (HRp.out.below hW).frozen k
          go_wp2
          clear c1 fz
          have A1 := Lib.hid (roomI_set (k := gp) (i := k) (HRp.out.below hW) (.int .i64 (sv + x)))
          have A2 : Hid (IntsF (W.setCell ⟨gp, k, none⟩ (.int .i64 (sv + x))) gp n1 (rowD F dP k (m + 1))) := Lib.hid (by have h9 := (HIp.out.below hW).set (f' := rowD F dP k (m + 1)) hlt (fun j _ hj => rowD_other F dP k m (m + 1) j hj); rw [HRn.out] at h9; exact h9)
          have A3 := Lib.hid (roomI_set (k := gp) (i := k) (HRl.out.below hW) (.int .i64 (sv + x)))
          have A4 := Lib.hid ((HIl.out.below hW).other (k := gp) (i := k) (by omega) (.int .i64 (sv + x)))
          have A5 := Lib.hid (out_blocks (W := W.setCell ⟨gp, k, none⟩ (.int .i64 (sv + x))) (out_below HOt.out hW) HBn.out (by simp) (fun z h1 h2 => block_of_set _ (by omega)))
          have A6 := Lib.hid (tab_blocks (W := W.setCell ⟨gp, k, none⟩ (.int .i64 (sv + x))) (tab_below HTt.out hW) HBn.out (by simp) (fun z h1 h2 => block_of_set _ (by omega)))
          have A7 : Hid (Below w.heap.size w (W.setCell ⟨gp, k, none⟩ (.int .i64 (sv + x)))) := Lib.hid ((low_tr' HB.out hW HB.out.size).setCell (by show w.heap.size ≤ gp; omega) _)
          have A8 : tb1 ≤ (W.setCell ⟨gp, k, none⟩ (.int .i64 (sv + x))).heap.size ∧ gp < (W.setCell ⟨gp, k, none⟩ (.int .i64 (sv + x))).heap.size ∧ gl < (W.setCell ⟨gp, k, none⟩ (.int .i64 (sv + x))).heap.size := by simp; omega
          have X2 : Hid ((W.setCell ⟨gp, k, none⟩ (.int .i64 (sv + x))).cell? ⟨go, k, none⟩ = some (rowQ n2 (qa, qb))) := Lib.hid (by rw [World.cell?_setCell_other _ _ _ _ (fun h => by cases h; omega)]; exact cell_below hW X1.out)
          have Y2 : Hid ((W.setCell ⟨gp, k, none⟩ (.int .i64 (sv + x))).cell? ⟨qa, m, none⟩ = some (.int .i64 x)) := Lib.hid (by rw [World.cell?_setCell_other _ _ _ _ (fun h => by cases h; omega)]; exact cell_below hW Y1.out)
          have Z2b : Hid ((W.setCell ⟨gp, k, none⟩ (.int .i64 (sv + x))).cell? ⟨gl, m, none⟩ = some (.int .i64 cv)) := Lib.hid (by rw [World.cell?_setCell_other _ _ _ _ (fun h => by cases h; omega)]; exact cell_below hW Z2.out)
          clear HRp HIp HRl HIl HOt HTt hsz HB X1 Y1 Z1 Z2 hW hs1
          generalize hW1 : W.setCell ⟨gp, k, none⟩ (.int .i64 (sv + x)) = W1 at *
          clear hW1
          refine region_via 14 [(57, .slice (some ⟨gl, 0, none⟩) n2 n2), (58, .int .i64 (m : Int)), (59, .slice (some ⟨gl, 0, none⟩) n2 n2), (60, .int .i64 (m : Int)), (61, .pointer (some ⟨gl, m, none⟩)), (62, .int .i64 cv), (63, .slice (some ⟨go, 0, none⟩) n1 tc), (64, .int .i64 (k : Int)), (65, .pointer (some ⟨go, k, none⟩)), (66, rowQ n2 (qa, qb)), (67, .int .i64 (m : Int)), (68, .pointer (some ⟨qa, m, none⟩)), (69, .int .i64 x), (70, .int .i64 (cv + x))] (by kernel_rfl) (by decide) (by kernel_rfl) (by kernel_rfl) (by kernel_rfl) (fun aE hpe => ?_)
          simp only [puts, Act.put, List.setIfInBounds_toArray, List.set_cons_zero, List.set_cons_succ] at hpe
          subst hpe
          refine ⟨⟨.inr (.inr ?_), .inr (.inr ?_), .inr (.inr ?_), .inr (.inr ?_), .inr (.inr ?_), .inr (.inr ?_), .inr (.inr ?_), .inr (.inr ?_), .inr (.inr ?_), .inr (.inr ?_), .inr (.inr ?_), .inr (.inr ?_), .inr (.inr ?_), .inr (.inr ?_), trivial⟩, ?_⟩
          · exact CalmG.mk 57 (.slice (some ⟨gl, 0, none⟩) n2 n2) rfl rfl rfl (fun W hW => calm_move (.tmp 10) rfl rfl)
          · exact CalmG.mk 58 (.int .i64 (m : Int)) rfl rfl rfl (fun W hW => calm_move (.tmp 12) rfl rfl)
          · exact CalmG.mk 59 (.slice (some ⟨gl, 0, none⟩) n2 n2) rfl rfl rfl (fun W hW => calm_move (.tmp 10) rfl rfl)
          · exact CalmG.mk 60 (.int .i64 (m : Int)) rfl rfl rfl (fun W hW => calm_move (.tmp 12) rfl rfl)
          · exact CalmG.mk 61 (.pointer (some ⟨gl, m, none⟩)) rfl rfl rfl (fun W hW => calm_run (by simp [execOp, Act.eval, go_sem, Addr.add, hlm] <;> omega))
          · exact CalmG.mk 62 (.int .i64 cv) rfl rfl rfl (fun W hW => (by have hc := cell_below hW Z2b.out; exact calm_run (by simp [execOp, Act.eval, go_sem, hc])))
          · exact CalmG.mk 63 (.slice (some ⟨go, 0, none⟩) n1 tc) rfl rfl rfl (fun W hW => calm_move (.tmp 8) rfl rfl)
          · exact CalmG.mk 64 (.int .i64 (k : Int)) rfl rfl rfl (fun W hW => calm_move (.tmp 11) rfl rfl)
          · exact CalmG.mk 65 (.pointer (some ⟨go, k, none⟩)) rfl rfl rfl (fun W hW => calm_run (by simp [execOp, Act.eval, go_sem, Addr.add, hlt] <;> omega))
          · exact CalmG.mk 66 (rowQ n2 (qa, qb)) rfl rfl rfl (fun W hW => (by have hc := cell_below hW X2.out; exact calm_run (by simp [execOp, Act.eval, go_sem, hc])))
          · exact CalmG.mk 67 (.int .i64 (m : Int)) rfl rfl rfl (fun W hW => calm_move (.tmp 12) rfl rfl)
          · exact CalmG.mk 68 (.pointer (some ⟨qa, m, none⟩)) rfl rfl rfl (fun W hW => calm_run (by simp [execOp, Act.eval, go_sem, Addr.add, hlm] <;> omega))
          · exact CalmG.mk 69 (.int .i64 x) rfl rfl rfl (fun W hW => (by have hc := cell_below hW Y2.out; exact calm_run (by simp [execOp, Act.eval, go_sem, hc])))
          · exact CalmG.mk 70 (.int .i64 (cv + x)) rfl rfl rfl (fun W hW => calm_run (by simp [execOp, Act.eval, go_sem, wc]))
          intro W2 hW2
          simp only [List.drop_succ_cons, List.drop_zero]
          have hs2 := hW2.size
          have c2 := cell_below hW2 Z2b.out
          have fz := (A3.out.below hW2).frozen m
          go_wp2
          clear c2 fz
          go_roundw
          case rel =>
            have R : Hid (RoomI (W2.setCell ⟨gl, m, none⟩ (.int .i64 (cv + x))) gp n1 2) ∧ Hid (IntsF (W2.setCell ⟨gl, m, none⟩ (.int .i64 (cv + x))) gp n1 (rowD F dP k (m + 1))) ∧ Hid (RoomI (W2.setCell ⟨gl, m, none⟩ (.int .i64 (cv + x))) gl n2 2) ∧ Hid (IntsF (W2.setCell ⟨gl, m, none⟩ (.int .i64 (cv + x))) gl n2 (colV F k (m + 1))) ∧ Hid (OutIn (W2.setCell ⟨gl, m, none⟩ (.int .i64 (cv + x))) tb0 (some ⟨go, 0, none⟩) n2 gs) ∧ Hid (TabAt (W2.setCell ⟨gl, m, none⟩ (.int .i64 (cv + x))) tb0 n2 tb gs) ∧ (tb1 ≤ (W2.setCell ⟨gl, m, none⟩ (.int .i64 (cv + x))).heap.size ∧ gp < (W2.setCell ⟨gl, m, none⟩ (.int .i64 (cv + x))).heap.size ∧ gl < (W2.setCell ⟨gl, m, none⟩ (.int .i64 (cv + x))).heap.size) ∧ Hid (Below w.heap.size w (W2.setCell ⟨gl, m, none⟩ (.int .i64 (cv + x)))) := ⟨Lib.hid (roomI_set (A1.out.below hW2) _), Lib.hid ((A2.out.below hW2).other (by omega) _), Lib.hid (roomI_set (A3.out.below hW2) _), Lib.hid (by have h9 := (A4.out.below hW2).set (f' := colV F k (m + 1)) hlm (fun j _ hj => colV_other F k m j hj); rw [HCn.out] at h9; exact h9), Lib.hid (out_blocks (out_below A5.out hW2) HBn.out (by simp) (fun z h1 h2 => block_of_set _ (by omega))), Lib.hid (tab_blocks (tab_below A6.out hW2) HBn.out (by simp) (fun z h1 h2 => block_of_set _ (by omega))), (by simp; omega), Lib.hid ((low_tr' A7.out hW2 A7.out.size).setCell (by show w.heap.size ≤ gl; omega) _)⟩
            first | exact ⟨m + 1, by omega, by go_num, R⟩ | exact ⟨m + 1, by omega, by first | go_num | omega, R⟩ | exact ⟨m + 1, by omega, R⟩
          case measure => simp [intOf]; omega
        · have hmn : m = n2 := by omega
          have hsv : Hid (sumB (F k) m = dP k) := Lib.hid (by rw [hmn, HdP.out])
          rw [hmn] at HIl
          clear hmn
          go_wp2
          go_roundw
          case rel =>
            have R : Hid (RoomI wr gp n1 2) ∧ Hid (IntsF wr gp n1 (rowD F dP (k + 1) 0)) ∧ Hid (RoomI wr gl n2 2) ∧ Hid (IntsF wr gl n2 (fun q => sumB (fun t => F t q) (k + 1))) ∧ Hid (OutIn wr tb0 (some ⟨go, 0, none⟩) n2 gs) ∧ Hid (TabAt wr tb0 n2 tb gs) ∧ (tb1 ≤ wr.heap.size ∧ gp < wr.heap.size ∧ gl < wr.heap.size) ∧ Hid (Below w.heap.size w wr) := ⟨HRp, Lib.hid (HIp.out.congr (fun i _ => rowD_done F dP k m i hsv.out)), HRl, Lib.hid (HIl.out.congr (fun q hq => colV_done F k n2 q hq)), HOt, HTt, hsz, HB⟩
            first | exact ⟨k + 1, by omega, by go_num, R⟩ | exact ⟨k + 1, by omega, by first | go_num | omega, R⟩ | exact ⟨k + 1, by omega, R⟩
          case measure => simp [intOf]; omega
    · have hkn : k = n1 := by omega
      rw [hkn] at HIp HIl
      clear hkn
      go_wp2
      have hI1 : IntsAt wr gp 0 n1 (listF dP n1) := (HIp.out.congr (fun i hi => rowD_end F dP n1 i hi)).at
      have hI2 : IntsAt wr gl 0 n2 (listF dL n2) := (HIl.out.congr (fun q _ => (HdL.out q).symm)).at
      exact bodyPost_ret (v := .tuple #[.slice (some ⟨gp, 0, none⟩) n1 n1, .slice (some ⟨gl, 0, none⟩) n2 n2, .int .i64 0]) (by simp [results, Try.results14, go_sem]) rfl ⟨_, n1, _, n2, gp, gl, rfl, .inr ⟨rfl, rfl, hpl, by omega, by omega, Nat.le_refl _, Nat.le_refl _, HRp.out, HRl.out, hI1, hI2⟩, HB.out⟩
end Go.Proofs.Ytidbikjdigemnaa
/- DegreesOfFigure, both sides in one form; two lists of numbers through the law: compared, marked, held. -/
namespace Go.Proofs.Ytidbikjdigemnaa
open Go.RowKit
set_option linter.unusedVariables false
set_option linter.unusedSimpArgs false
theorem DegreesOfFigure_impl (p : Int) (b1 : Option Addr) (n1 c1 : Nat) (b2 : Option Addr) (n2 c2 : Nat) (l1 l2 : List Pt) (w : World) (hn1 : n1 ≤ 1000000) (hn2 : n2 ≤ 1000000) (h1 : ListP w b1 n1 l1) (h2 : ListP w b2 n2 l2) :
    Calls Try.prog 15 #[.int .i64 p, figV b1 n1 c1 b2 n2 c2] w (DegAny (dualM (figC p n1 n2 l1 l2) n1) (dualM (figC p n1 n2 l1 l2) n2) (listF (degP p l1 l2 n2) n1) (listF (degL p l1 l2 n1) n2) (figC p n1 n2 l1 l2) w) := by
  by_cases hk : figC p n1 n2 l1 l2 = 0
  · have e := DegreesOfFigure_impl_good p b1 n1 c1 b2 n2 c2 l1 l2 w hn1 hn2 h1 h2 hk
    rw [hk]; unfold dualM; rw [if_pos rfl, if_pos rfl]; exact e
  · have e := DegreesOfFigure_impl_code p b1 n1 c1 b2 n2 c2 l1 l2 w hn1 hn2 h1 h2 _ rfl hk (listF (degP p l1 l2 n2) n1) (listF (degL p l1 l2 n1) n2)
    unfold dualM; rw [if_neg hk, if_neg hk]; exact e
theorem DegreesOfFigure_spec (p : Int) (b1 : Option Addr) (n1 c1 : Nat) (b2 : Option Addr) (n2 c2 : Nat) (l1 l2 : List Pt) (w : World) (hn1 : n1 ≤ 1000000) (hn2 : n2 ≤ 1000000) (h1 : ListP w b1 n1 l1) (h2 : ListP w b2 n2 l2) :
    Calls Try.prog 14 #[.int .i64 p, figV b1 n1 c1 b2 n2 c2] w (DegAny (dualM (figC p n1 n2 l1 l2) n1) (dualM (figC p n1 n2 l1 l2) n2) (listF (degP p l1 l2 n2) n1) (listF (degL p l1 l2 n1) n2) (figC p n1 n2 l1 l2) w) := by
  by_cases hk : figC p n1 n2 l1 l2 = 0
  · have e := DegreesOfFigure_spec_good p b1 n1 c1 b2 n2 c2 l1 l2 w hn1 hn2 h1 h2 hk
    rw [hk]; unfold dualM; rw [if_pos rfl, if_pos rfl]; exact e
  · have e := DegreesOfFigure_spec_code p b1 n1 c1 b2 n2 c2 l1 l2 w hn1 hn2 h1 h2 _ rfl hk (listF (degP p l1 l2 n2) n1) (listF (degL p l1 l2 n1) n2)
    unfold dualM; rw [if_neg hk, if_neg hk]; exact e
/-- A list of numbers between two blocks. -/
def ILs (W : World) (lo hi : Nat) (b : Option Addr) (n d : Nat) (l : List Int) : Prop := (b = none ∧ n = 0) ∨ ∃ g, b = some ⟨g, 0, none⟩ ∧ (lo ≤ g ∧ g < hi) ∧ n ≤ d ∧ RoomI W g d 2 ∧ IntsAt W g 0 n l
theorem ils_blocks {W W' : World} {lo hi n d : Nat} {b : Option Addr} {l : List Int} (h : ILs W lo hi b n d l) (hk : ∀ k, lo ≤ k → k < hi → (∃ a, b = some a ∧ a.block = k) → W'.heap[k]? = W.heap[k]?) : ILs W' lo hi b n d l := by
  rcases h with h0 | ⟨g, rfl, h1, h2, ⟨cur, r1, r2⟩, h4⟩
  · exact .inl h0
  · have e := hk g h1.1 h1.2 ⟨_, rfl, rfl⟩
    exact .inr ⟨g, rfl, h1, h2, ⟨cur, e.trans r1, r2⟩, ints_block h4 e⟩
/-- Two lists of numbers, each in a block of its own. -/
structure D2 (W : World) (lo hi : Nat) (a1 : Option Addr) (m1 d1 : Nat) (L1 : List Int) (a2 : Option Addr) (m2 d2 : Nat) (L2 : List Int) : Prop where
  p : ILs W lo hi a1 m1 d1 L1
  q : ILs W lo hi a2 m2 d2 L2
  ne : ∀ x y, a1 = some x → a2 = some y → x.block ≠ y.block
  top : hi ≤ W.heap.size
theorem D2.blocks {W W' : World} {lo hi m1 d1 m2 d2 : Nat} {a1 a2 : Option Addr} {L1 L2 : List Int} (h : D2 W lo hi a1 m1 d1 L1 a2 m2 d2 L2) (hs : W.heap.size ≤ W'.heap.size) (hk : ∀ k, lo ≤ k → k < hi → W'.heap[k]? = W.heap[k]?) : D2 W' lo hi a1 m1 d1 L1 a2 m2 d2 L2 :=
  ⟨ils_blocks h.p (fun k h1 h2 _ => hk k h1 h2), ils_blocks h.q (fun k h1 h2 _ => hk k h1 h2), h.ne, Nat.le_trans h.top hs⟩
theorem D2.below {W W' : World} {lo hi m1 d1 m2 d2 : Nat} {a1 a2 : Option Addr} {L1 L2 : List Int} (h : D2 W lo hi a1 m1 d1 L1 a2 m2 d2 L2) (hb : Below W.heap.size W W') : D2 W' lo hi a1 m1 d1 L1 a2 m2 d2 L2 :=
  h.blocks hb.size (fun k _ h2 => hb.block k (Nat.lt_of_lt_of_le h2 h.top))
theorem DegAny.open {m1 m2 : Nat} {L1 L2 : List Int} {k : Int} {w w' : World} {e : Ending} (h : DegAny m1 m2 L1 L2 k w e w') :
    ∃ a1 d1 a2 d2, e = .returned (.tuple #[.slice a1 m1 d1, .slice a2 m2 d2, .int .i64 k]) ∧ D2 w' w.heap.size w'.heap.size a1 m1 d1 L1 a2 m2 d2 L2 ∧ Below w.heap.size w w' := by
  obtain ⟨a1, d1, a2, d2, g1, g2, e0, h1, h2⟩ := h.out
  refine ⟨a1, d1, a2, d2, e0, ?_, h2⟩
  rcases h1 with ⟨rfl, rfl, rfl, rfl⟩ | ⟨rfl, rfl, h3, h4, h5, h6, h7, r1, r2, i1, i2⟩
  · exact ⟨.inl ⟨rfl, rfl⟩, .inl ⟨rfl, rfl⟩, (fun x y h => by cases h), Nat.le_refl _⟩
  · obtain ⟨cur1, s1, s2⟩ := r1
    obtain ⟨cur2, t1, t2⟩ := r2
    exact ⟨.inr ⟨g1, rfl, ⟨h4, (Array.getElem?_eq_some_iff.1 s1).1⟩, h6, ⟨cur1, s1, s2⟩, i1⟩, .inr ⟨g2, rfl, ⟨h5, (Array.getElem?_eq_some_iff.1 t1).1⟩, h7, ⟨cur2, t1, t2⟩, i2⟩, (fun x y hx hy => by cases hx; cases hy; exact h3), Nat.le_refl _⟩
theorem markI_nil (b : Option Addr) (c : Nat) (k : Int) (w : World) : Calls Try.prog 17 #[.slice b 0 c, .int .i64 k] w fun e w' => e = .returned (.int .i64 k) ∧ w = w' := by
  go_enter Try.func17, Try.ntmps17
  go_wp2
  refine wp_loop_rounds 1 ?_
  rw [rounds_succ]; go_wp2
  go_ret
  exact ⟨rfl, rfl⟩
theorem heldI_nil (b : Option Addr) (c : Nat) (k : Int) (w : World) : Calls Try.prog 18 #[.slice b 0 c, .int .i64 k] w fun e w' => e = .returned (.int .i64 k) ∧ w = w' := by
  go_enter Try.func18, Try.ntmps18
  go_wp2
  refine wp_loop_rounds 1 ?_
  rw [rounds_succ]; go_wp2
  go_ret
  exact ⟨rfl, rfl⟩
theorem eqI_nil (b b2 : Option Addr) (c c2 : Nat) (w : World) : Calls Try.prog 16 #[.slice b 0 c, .slice b2 0 c2] w fun e w' => e = .returned (.bool true) ∧ w = w' := by
  go_enter Try.func16, Try.ntmps16
  go_wp2
  refine wp_loop_rounds 1 ?_
  rw [rounds_succ]; go_wp2
  go_ret
  exact ⟨rfl, rfl⟩
theorem eqI_ils {W : World} {lo hi lo' hi' n d d' : Nat} {b b' : Option Addr} {l : List Int} (hn : n ≤ 1000000) (h : ILs W lo hi b n d l) (h' : ILs W lo' hi' b' n d' l) : Calls Try.prog 16 #[.slice b n d, .slice b' n d'] W (Ret W (.bool true)) := by
  have nil : ∀ b b', Calls Try.prog 16 #[.slice b 0 d, .slice b' 0 d'] W (Ret W (.bool true)) := fun b b' => (eqI_nil b b' d d' W).mono fun e w' ⟨he, hw⟩ => ⟨he, by rw [← hw]; exact Below.refl _ _⟩
  rcases h with ⟨_, rfl⟩ | ⟨g, rfl, _, _, _, h4⟩
  · exact nil _ _
  · rcases h' with ⟨_, rfl⟩ | ⟨g', rfl, _, _, _, h4'⟩
    · exact nil _ _
    · exact eqInt64S_same g g' n d d' l W (by omega) h4 h4'
/-- A marked list. -/
def MkI (W : World) (b : Option Addr) (n k : Nat) : Prop := (b = none ∧ n = 0) ∨ ∃ g, b = some ⟨g, 0, none⟩ ∧ g < W.heap.size ∧ IntsAt W g 0 n (markI k n)
theorem MkI.keep {W W' : World} {b : Option Addr} {n k : Nat} (h : MkI W b n k) (hs : W.heap.size ≤ W'.heap.size) (hk : ∀ a, b = some a → W'.heap[a.block]? = W.heap[a.block]?) : MkI W' b n k := by
  rcases h with h0 | ⟨g, rfl, h1, h2⟩
  · exact .inl h0
  · exact .inr ⟨g, rfl, by omega, ints_block h2 (hk _ rfl)⟩
theorem MkI.below {W W' : World} {b : Option Addr} {n k : Nat} (h : MkI W b n k) (hb : Below W.heap.size W W') : MkI W' b n k := by
  rcases h with h0 | ⟨g, rfl, h1, h2⟩
  · exact .inl h0
  · exact .inr ⟨g, rfl, Nat.lt_of_lt_of_le h1 hb.size, ints_block h2 (hb.block _ h1)⟩
theorem markI_ils {W : World} {lo hi n d : Nat} {b : Option Addr} {l : List Int} (k : Nat) (hn : n ≤ 1000000) (hk : k ≤ 10000000) (ht : hi ≤ W.heap.size) (h : ILs W lo hi b n d l) :
    Calls Try.prog 17 #[.slice b n d, .int .i64 (k : Int)] W (fun e W' => e = .returned (.int .i64 ((k + n : Nat) : Int)) ∧ SaveB b W W' ∧ MkI W' b n k) := by
  rcases h with ⟨rfl, rfl⟩ | ⟨g, rfl, h1, h2, h3, h4⟩
  · exact (markI_nil none d k W).mono fun e w' ⟨he, hw⟩ => ⟨he, hw ▸ ⟨rfl, rfl, rfl, Nat.le_refl _, fun _ _ _ => rfl⟩, .inl ⟨rfl, rfl⟩⟩
  · refine (markInt64S_any g n d k d _ W h3 h2 hn hk).mono fun e w' ⟨⟨he, hs, hr, hi⟩⟩ => ⟨he, ⟨hs.os, hs.tape, hs.output, hs.size, fun j hj hne => hs.block j hj (fun e => hne _ rfl e.symm)⟩, .inr ⟨g, rfl, ?_, hi⟩⟩
    have := hs.size; omega
theorem heldI_mk {W : World} {n k d : Nat} {b : Option Addr} (hn : n ≤ 1000000) (hk : k ≤ 10000000) (h : MkI W b n k) :
    Calls Try.prog 18 #[.slice b n d, .int .i64 (k : Int)] W (Ret W (.int .i64 ((k + n : Nat) : Int))) := by
  rcases h with ⟨rfl, rfl⟩ | ⟨g, rfl, h1, h2⟩
  · exact (heldI_nil none d k W).mono fun e w' ⟨he, hw⟩ => ⟨he, by rw [← hw]; exact Below.refl _ _⟩
  · exact heldInt64S_any g n d k W hn hk h2
/-- Before the marks. -/
structure StA (w : World) (R : Obj) (B lo hi lo' hi' : Nat) (a1 : Option Addr) (d1 : Nat) (a2 : Option Addr) (d2 : Nat) (g1 : Option Addr) (e1 : Nat) (g2 : Option Addr) (e2 m1 m2 : Nat) (L1 L2 : List Int) (W : World) : Prop where
  k3 : W.heap[w.heap.size]? = some R
  d4 : D2 W lo hi a1 m1 d1 L1 a2 m2 d2 L2
  d6 : D2 W lo' hi' g1 m1 e1 L1 g2 m2 e2 L2
  bl : Below w.heap.size w W
  ord : w.heap.size < lo ∧ lo ≤ hi ∧ hi ≤ lo'
structure StM (w : World) (R : Obj) (B lo hi lo' hi' : Nat) (a1 : Option Addr) (d1 : Nat) (a2 : Option Addr) (d2 : Nat) (g1 : Option Addr) (e1 : Nat) (g2 : Option Addr) (e2 m1 m2 : Nat) (L1 L2 : List Int) (W : World) : Prop where
  k3 : W.heap[w.heap.size]? = some R
  d4 : D2 W lo hi a1 m1 d1 L1 a2 m2 d2 L2
  mkd : MkI W g1 m1 101
  q : ILs W lo' hi' g2 m2 e2 L2
  ne : ∀ x y, g1 = some x → g2 = some y → x.block ≠ y.block
  top : hi' ≤ W.heap.size
  bl : Below w.heap.size w W
  ord : w.heap.size < lo ∧ lo ≤ hi ∧ hi ≤ lo'
structure StB (w : World) (R : Obj) (lo hi : Nat) (a1 : Option Addr) (d1 : Nat) (a2 : Option Addr) (d2 : Nat) (g1 : Option Addr) (g2 : Option Addr) (m1 m2 : Nat) (L1 L2 : List Int) (W : World) : Prop where
  k3 : W.heap[w.heap.size]? = some R
  d4 : D2 W lo hi a1 m1 d1 L1 a2 m2 d2 L2
  mk1 : MkI W g1 m1 101
  mk2 : MkI W g2 m2 (101 + m1)
  bl : Below w.heap.size w W
section
variable {w W W' : World} {R : Obj} {B lo hi lo' hi' d1 d2 e1 e2 m1 m2 : Nat} {a1 a2 g1 g2 : Option Addr} {L1 L2 : List Int}
theorem row_keep {k : Nat} {R : Obj} (h : W.heap[k]? = some R) (hb : Below W.heap.size W W') : W'.heap[k]? = some R := (hb.block _ (Array.getElem?_eq_some_iff.1 h).1).trans h
theorem StA.below (h : StA w R B lo hi lo' hi' a1 d1 a2 d2 g1 e1 g2 e2 m1 m2 L1 L2 W) (hb : Below W.heap.size W W') : StA w R B lo hi lo' hi' a1 d1 a2 d2 g1 e1 g2 e2 m1 m2 L1 L2 W' :=
  ⟨row_keep h.k3 hb, h.d4.below hb, h.d6.below hb, low_tr' h.bl hb h.bl.size, h.ord⟩
theorem StB.below (h : StB w R lo hi a1 d1 a2 d2 g1 g2 m1 m2 L1 L2 W) (hb : Below W.heap.size W W') : StB w R lo hi a1 d1 a2 d2 g1 g2 m1 m2 L1 L2 W' :=
  ⟨row_keep h.k3 hb, h.d4.below hb, h.mk1.below hb, h.mk2.below hb, low_tr' h.bl hb h.bl.size⟩
theorem ils_lies (h : ILs W lo hi g1 m1 e1 L1) : ∀ a, g1 = some a → lo ≤ a.block ∧ a.block < hi := by
  rcases h with ⟨rfl, _⟩ | ⟨g, rfl, h1, _⟩
  · intro a h; cases h
  · intro a h; cases h; exact h1
theorem mark1_st (h1 : m1 ≤ 1000000) (h : StA w R B lo hi lo' hi' a1 d1 a2 d2 g1 e1 g2 e2 m1 m2 L1 L2 W) :
    Calls Try.prog 17 #[.slice g1 m1 e1, .int .i64 101] W (fun e W' => e = .returned (.int .i64 ((101 + m1 : Nat) : Int)) ∧ W.heap.size ≤ W'.heap.size ∧ StM w R B lo hi lo' hi' a1 d1 a2 d2 g1 e1 g2 e2 m1 m2 L1 L2 W') := by
  refine (markI_ils 101 h1 (by omega) h.d6.top h.d6.p).mono fun e W' ⟨he, hs, hm⟩ => ⟨he, hs.size, ?_⟩
  have hl := ils_lies h.d6.p
  have h0 := h.ord
  have ht := h.d4.top
  have hz := h.bl.size
  have hkL := (Array.getElem?_eq_some_iff.1 h.k3).1
  exact ⟨(hs.block _ hkL (fun a ha => by have := hl a ha; omega)).trans h.k3, h.d4.blocks hs.size (fun k hk1 hk2 => hs.block k (by omega) (fun a ha => by have := hl a ha; omega)), hm,
    ils_blocks h.d6.q (fun k hk1 hk2 ⟨y, hy, hyk⟩ => hs.block k (by have := h.d6.top; omega) (fun a ha e => h.d6.ne a y ha hy (e.trans hyk.symm))),
    h.d6.ne, Nat.le_trans h.d6.top hs.size, hs.below h.bl (fun a ha => by have := hl a ha; omega) (by omega), h.ord⟩
theorem mkI_low {k : Nat} (h : MkI W g1 m1 k) : ∀ a, g1 = some a → a.block < W.heap.size := by
  rcases h with ⟨rfl, _⟩ | ⟨g, rfl, h1, _⟩
  · intro a h; cases h
  · intro a h; cases h; exact h1
theorem mark2_st (h1 : m1 ≤ 1000000) (h2 : m2 ≤ 1000000) (h : StM w R B lo hi lo' hi' a1 d1 a2 d2 g1 e1 g2 e2 m1 m2 L1 L2 W) :
    Calls Try.prog 17 #[.slice g2 m2 e2, .int .i64 ((101 + m1 : Nat) : Int)] W (fun e W' => e = .returned (.int .i64 ((101 + m1 + m2 : Nat) : Int)) ∧ W.heap.size ≤ W'.heap.size ∧ StB w R lo hi a1 d1 a2 d2 g1 g2 m1 m2 L1 L2 W') := by
  refine (markI_ils (101 + m1) h2 (by omega) h.top h.q).mono fun e W' ⟨he, hs, hm⟩ => ⟨he, hs.size, ?_⟩
  have hl := ils_lies h.q
  have h0 := h.ord
  have ht := h.d4.top
  have hz := h.bl.size
  have hkL := (Array.getElem?_eq_some_iff.1 h.k3).1
  have hlow := mkI_low h.mkd
  exact ⟨(hs.block _ hkL (fun a ha => by have := hl a ha; omega)).trans h.k3, h.d4.blocks hs.size (fun k hk1 hk2 => hs.block k (by omega) (fun a ha => by have := hl a ha; omega)), h.mkd.keep hs.size (fun x hx => hs.block _ (hlow x hx) (fun a ha e => h.ne x a hx ha e.symm)), hm,
    hs.below h.bl (fun a ha => by have := hl a ha; omega) (by omega)⟩
theorem held1_st (h1 : m1 ≤ 1000000) (h : StB w R lo hi a1 d1 a2 d2 g1 g2 m1 m2 L1 L2 W) : Calls Try.prog 18 #[.slice g1 m1 e1, .int .i64 101] W (Ret W (.int .i64 ((101 + m1 : Nat) : Int))) := heldI_mk (k := 101) h1 (by omega) h.mk1
theorem held2_st (h1 : m1 ≤ 1000000) (h2 : m2 ≤ 1000000) (h : StB w R lo hi a1 d1 a2 d2 g1 g2 m1 m2 L1 L2 W) : Calls Try.prog 18 #[.slice g2 m2 e2, .int .i64 ((101 + m1 : Nat) : Int)] W (Ret W (.int .i64 ((101 + m1 + m2 : Nat) : Int))) := heldI_mk h2 (by omega) h.mk2
theorem eq1_st (h1 : m1 ≤ 1000000) (h : StA w R B lo hi lo' hi' a1 d1 a2 d2 g1 e1 g2 e2 m1 m2 L1 L2 W) : Calls Try.prog 16 #[.slice g1 m1 e1, .slice a1 m1 d1] W (Ret W (.bool true)) := eqI_ils h1 h.d6.p h.d4.p
theorem eq2_st (h1 : m2 ≤ 1000000) (h : StA w R B lo hi lo' hi' a1 d1 a2 d2 g1 e1 g2 e2 m1 m2 L1 L2 W) : Calls Try.prog 16 #[.slice g2 m2 e2, .slice a2 m2 d2] W (Ret W (.bool true)) := eqI_ils h1 h.d6.q h.d4.q
theorem eq3_st {x1 x2 : Option Addr} {f1 f2 : Nat} (h1 : m1 ≤ 1000000) (h : StB w R lo hi a1 d1 a2 d2 g1 g2 m1 m2 L1 L2 W) (hx : D2 W lo' hi' x1 m1 f1 L1 x2 m2 f2 L2) : Calls Try.prog 16 #[.slice x1 m1 f1, .slice a1 m1 d1] W (Ret W (.bool true)) := eqI_ils h1 hx.p h.d4.p
theorem eq4_st {x1 x2 : Option Addr} {f1 f2 : Nat} (h1 : m2 ≤ 1000000) (h : StB w R lo hi a1 d1 a2 d2 g1 g2 m1 m2 L1 L2 W) (hx : D2 W lo' hi' x1 m1 f1 L1 x2 m2 f2 L2) : Calls Try.prog 16 #[.slice x2 m2 f2, .slice a2 m2 d2] W (Ret W (.bool true)) := eqI_ils h1 hx.q h.d4.q
end
end Go.Proofs.Ytidbikjdigemnaa
