/- Texts of the claim, in build order: C6, C7, C8, C9, M1, RegU, RegV, N1, N2. No condition. -/
import Derived.Lib.AppendZeros
import Derived.Test.YthkbhaaodegocaaZDifferenceSetOf2
/- Contracts: the points on a line, in the reference. -/
namespace Go.Proofs.Ythkbhaaodegocaa
open Go.RowKit
set_option linter.unusedVariables false
set_option linter.unusedSimpArgs false
theorem allP_in {n : Nat} (hn : n ≤ 13) : ∀ a ∈ allP n, In13 a := by
  intro a ha
  simp only [allP, pB, pA, pR, List.mem_append, List.mem_cons, List.mem_map, List.mem_range, List.mem_flatMap] at ha
  have k : ∀ x y z : Int, 0 ≤ x → x ≤ 12 → 0 ≤ y → y ≤ 12 → 0 ≤ z → z ≤ 12 → In13 (x, y, z) := fun x y z a b c d e f => ⟨⟨a, b⟩, ⟨c, d⟩, e, f⟩
  rcases ha with (rfl | ⟨z, hz, rfl⟩) | ⟨y, hy, z, hz, rfl⟩
  · exact k _ _ _ (by omega) (by omega) (by omega) (by omega) (by omega) (by omega)
  · exact k _ _ _ (by omega) (by omega) (by omega) (by omega) (by omega) (by omega)
  · exact k _ _ _ (by omega) (by omega) (by omega) (by omega) (by omega) (by omega)
theorem allP_length (n : Nat) : (allP n).length = n + 1 + n * n := pB_length n n
theorem filter_snoc {α : Type} (f : α → Bool) (l : List α) (d : α) (k : Nat) (h : k < l.length) : (l.take (k + 1)).filter f = (l.take k).filter f ++ (if f (l.getD k d) then [l.getD k d] else []) := by
  rw [take_snoc' l d k h, List.filter_append, List.filter_cons, List.filter_nil]
theorem low_tr' {b B : Nat} {w W W' : World} (h : Below b w W) (k : Below B W W') (hb : b ≤ B) : Below b w W' :=
  ⟨k.os.trans h.os, k.tape.trans h.tape, k.output.trans h.output, Nat.le_trans h.size k.size, fun n hn => (k.block n (Nat.lt_of_lt_of_le hn hb)).trans (h.block n hn)⟩
theorem own_below {W W' : World} {b : Nat} {T : TypeId} {size n : Nat} {v : Value} {xs : List Value} (h : W.ownsRow b T size v n xs) (hb : Below W.heap.size W W') : W'.ownsRow b T size v n xs := by
  refine ⟨h.1, ?_⟩
  rcases h.2 with h0 | ⟨g, cap, cur, h1, h2, hg, h3⟩
  · exact .inl h0
  · exact .inr ⟨g, cap, cur, h1, h2, by rw [hb.block _ (Array.getElem?_eq_some_iff.1 hg).1]; exact hg, h3⟩
theorem hn_at' (w : World) (o : Obj) (n : Nat) (h : n = w.heap.size) : (w.alloc o).heap[n]? = some o := by subst h; exact heap_alloc_new w o
set_option maxHeartbeats 2000000 in
theorem l01PointsOn_any (n : Nat) (l0 l1 l2 : Int) (w : World) (hp : prB (n : Int) = true) (hl : In13 (l0, l1, l2)) :
    Calls Try.prog 97 #[.int .i64 (n : Int), ptV l0 l1 l2] w (PtsPost w ((allP n).filter (fun a => onB (n : Int) a (l0, l1, l2)))) := by
  obtain ⟨b3, b13⟩ := prB_bd hp
  have HA := Lib.hid (fun (W : World) => l01Points_any n W ⟨by omega, by omega⟩)
  have HIn := Lib.hid (allP_in (n := n) (by omega))
  have HLen : (allP n).length ≤ 183 := by rw [allP_length]; have : n * n ≤ 13 * 13 := Nat.mul_le_mul (by omega) (by omega); omega
  have HPos : 0 < (allP n).length := by rw [allP_length]; omega
  have HO := Lib.hid (fun (x y z : Int) (W : World) (ha : In13 (x, y, z)) => l01On_any n x y z l0 l1 l2 W hp ha hl)
  obtain ⟨i0, hi, hz0, hz1, hz2⟩ := info_parts infoPo
  have HI0 := Lib.hid hi; have HZ0 := Lib.hid hz0; have HZ1 := Lib.hid hz1; have HZ2 := Lib.hid hz2
  clear hi hz0 hz1 hz2 hp hl b3 b13
  have HFd : Hid ((fun a => onB (n : Int) a (l0, l1, l2)) = fun a => onB (n : Int) a (l0, l1, l2)) := Lib.hid rfl
  go_enter Try.func97, Try.ntmps97
  go_wp2_with (go_at_call 69; refine (HA.out _).mono ?_; rintro e w1 ⟨v, rfl, ho, hb⟩; obtain ⟨g, cap, rfl, hg0, hg1, hpt⟩ := ownPts ho rfl HPos; have HB1 := Lib.hid hb; have HP1 := Lib.hid hpt; have hsz1 := hb.size; (try simp at hsz1); clear hb hpt ho)
  have hbl : w1.heap[w.heap.size]? = some (.cells #[.int .i64 l0, .int .i64 l1, .int .i64 l2] 24 (0, 0)) := by rw [HB1.out.block _ (by first | omega | (simp; done) | (simp; omega)), hn_at' _ _ _ (by simp)]
  have hll : w.heap.size < w1.heap.size := (Array.getElem?_eq_some_iff.1 hbl).1
  generalize hall : allP n = all at *
  go_loopw [6, 7] (fun v i wr => ∃ k : Nat, k ≤ all.length ∧ i = .int .i64 k ∧ Hid (wr.ownsRow w1.heap.size 23 3 v ((all.take k).filter (fun a => onB (n : Int) a (l0, l1, l2))).length (ptCs ((all.take k).filter (fun a => onB (n : Int) a (l0, l1, l2))))) ∧ Hid (Below w1.heap.size w1 wr)) (fun _ i wr => all.length - (intOf i).toNat)
  case atStart =>
    refine ⟨0, Nat.zero_le _, rfl, Lib.hid ?_, Lib.hid (by repeat (first | exact Below.refl _ _ | refine bset ?_ _ _ (by omega) _ | refine bal ?_ _ | refine bdrN ?_ _ | refine bdr ?_))⟩
    refine ⟨rfl, .inr ⟨w1.heap.size, 0, #[], rfl, Nat.le_refl _, heap_alloc_new _ _, Nat.le_refl _, by unfold maxLen; omega, rfl, rfl⟩⟩
  case round =>
    obtain ⟨k, hk, rfl, HR, HB⟩ := hrel
    by_cases hlt : k < all.length
    · have HS := Lib.hid (filter_snoc (fun a => onB (n : Int) a (l0, l1, l2)) all (0, 0, 0) k hlt)
      have HPk := HP1.out k hlt
      have HInk : In13 (all.getD k (0, 0, 0)) := HIn.out _ (by simp [List.getD, hlt])
      have hkl : ((all.take k).filter (fun a => onB (n : Int) a (l0, l1, l2))).length ≤ 183 := Nat.le_trans (List.length_filter_le _ _) (by rw [List.length_take]; omega)
      generalize all.getD k (0, 0, 0) = a at *
      obtain ⟨x, y, z⟩ := a
      have HC := Lib.hid (fun (W : World) => HO.out x y z W HInk)
      obtain ⟨c0, c1, c2⟩ := HPk
      simp only [Nat.zero_add] at c0 c1 c2
      go_wp2
      refine region_calm [(17, .int .i64 n), (18, .slice (some ⟨g, 0, none⟩) all.length cap), (19, .int .i64 k), (20, .pointer (some ⟨g, k * 3, none⟩)), (21, ptV x y z), (22, ptV l0 l1 l2), (23, .bool (onB n (x, y, z) (l0, l1, l2)))] (by kernel_rfl) (by kernel_rfl) (by kernel_rfl) (fun aE hpe => ?_)
      simp only [puts, Act.put, List.setIfInBounds_toArray, List.set_cons_zero, List.set_cons_succ] at hpe
      subst hpe
      refine ⟨⟨.inr (.inr ?_), .inr (.inr ?_), .inr (.inr ?_), .inr (.inr ?_), .inr (.inr ?_), .inr (.inr ?_), .inr (.inr ?_), trivial⟩, ?_⟩
      · exact Calm.mk 17 (.int .i64 n) rfl rfl (fun W _ => calm_move (.tmp 0) rfl rfl)
      · exact Calm.mk 18 (.slice (some ⟨g, 0, none⟩) all.length cap) rfl rfl (fun W _ => calm_move (.tmp 5) rfl rfl)
      · exact Calm.mk 19 (.int .i64 k) rfl rfl (fun W _ => calm_move (.tmp 7) rfl rfl)
      · exact Calm.mk 20 (.pointer (some ⟨g, k * 3, none⟩)) rfl rfl (fun W _ => calm_run (by simp [execOp, Act.eval, go_sem, hlt]))
      · exact Calm.mk 21 (ptV x y z) rfl rfl (fun W hW => calm_loadPt 23 (.tmp 20) rfl rfl (cell_below hW (cell_below HB.out c0)) (cell_below hW (cell_below HB.out c1)) (cell_below hW (cell_below HB.out c2)) Try.sizeOf23 Try.isAgg23)
      · exact Calm.mk 22 (ptV l0 l1 l2) rfl rfl (fun W hW => calm_load (cs := #[.int .i64 l0, .int .i64 l1, .int .i64 l2]) (g := w.heap.size) (T := 24) (fr := (0, 0)) 24 (.tmp 3) rfl rfl (by rw [hW.block _ (Nat.lt_of_lt_of_le hll HB.out.size), HB.out.block _ hll]; exact hbl) 3 rfl Try.sizeOf24 Try.isAgg24)
      · exact Calm.mk 23 (.bool (onB n (x, y, z) (l0, l1, l2))) rfl rfl (fun W hW => calm_call 70 _ #[.int .i64 n, ptV x y z, ptV l0 l1 l2] rfl rfl rfl (by simp [Act.eval]) (Try.call70 _ _) (HC.out W))
      intro W2 hW2
      have HR2 := Lib.hid (own_below HR.out hW2)
      have HB2 := Lib.hid (low_tr' HB.out hW2 HB.out.size)
      have e0 := cell_below hW2 (cell_below HB.out c0)
      have e1 := cell_below hW2 (cell_below HB.out c1)
      have e2 := cell_below hW2 (cell_below HB.out c2)
      clear hW2 HR HB c0 c1 c2 HC
      generalize hF : (all.take k).filter (fun a => onB (n : Int) a (l0, l1, l2)) = F at *
      cases hb : onB (n : Int) (x, y, z) (l0, l1, l2) with
      | true =>
        have HS2 : Hid ((all.take (k + 1)).filter (fun a => onB (n : Int) a (l0, l1, l2)) = F ++ [(x, y, z)]) := Lib.hid (by rw [HS.out]; simp [hb])
        clear HS hF
        go_wp2_with (at_builtin; refine wpList_append_own _ rfl _ _ 52 rfl w1.heap.size 23 i0 (.agg #[.int .i64 0, .int .i64 0, .int .i64 0]) 3 24 Try.underlying52 HI0.out HZ0.out HZ1.out HZ2.out rfl (by decide) _ _ _ rfl (HR2.out.alloc _) ⟨W2.heap.size, 0, none⟩ 1 1 [.int .i64 x, .int .i64 y, .int .i64 z] rfl rfl (newP _ _ _ _ _) (oneP _ _ _) (by unfold maxLen; omega) (by omega) (by have := HB2.out.size; simp; omega) ?_; intro v2 w2 hown hgrow _; have HO2 := Lib.hid hown; have HG := Lib.hid hgrow; clear hown hgrow)
        go_roundw
        case rel => exact ⟨k + 1, by omega, by go_num, Lib.hid (by rw [HS2.out, ptCs_snoc, List.length_append]; exact HO2.out), Lib.hid ((bal HB2.out _).grown HG.out (by have := HB2.out.size; simp; omega) (fun k' hk' => own_base' HR2.out k' hk'))⟩
        case measure => simp [intOf]; omega
      | false =>
        have HS2 : Hid ((all.take (k + 1)).filter (fun a => onB (n : Int) a (l0, l1, l2)) = F) := Lib.hid (by rw [HS.out]; simp [hb])
        clear HS hF
        go_wp2
        go_roundw
        case rel => exact ⟨k + 1, by omega, by go_num, Lib.hid (by rw [HS2.out]; exact HR2.out), HB2⟩
        case measure => simp [intOf]; omega
    · have hT : all.take k = all := List.take_of_length_le (by omega)
      rw [hT] at HR
      go_wp2
      go_ret
      have HB0 : Below w.heap.size w w1 := (by repeat (first | exact Below.refl _ _ | refine bset ?_ _ _ (by omega) _ | refine bal ?_ _ | refine bdrN ?_ _ | refine bdr ?_ | refine below_tr' ?_ HB1.out))
      exact ⟨u6, rfl, by rw [hall]; exact own_low HR.out HB0.size, low_tr' HB0 HB.out HB0.size⟩
end Go.Proofs.Ythkbhaaodegocaa
/- Contracts: slices.IndexFunc over points. -/
namespace Go.Proofs.Ythkbhaaodegocaa
open Go.RowKit
set_option linter.unusedVariables false
set_option linter.unusedSimpArgs false
/-- The first place at which f holds; -1 if there is none. -/
def idxZ (f : Pt → Bool) (l : List Pt) : Int := match l.findIdx? f with | some i => (i : Int) | none => -1
theorem idx_at {f : Pt → Bool} {l : List Pt} {k : Nat} (h : (l.take k).any f = false) (hk : k < l.length) (hf : f (l.getD k (0, 0, 0)) = true) : idxZ f l = k := by
  unfold idxZ
  have : l.findIdx? f = some k := by
    rw [List.findIdx?_eq_some_iff_getElem]
    refine ⟨hk, by simpa [List.getD, hk] using hf, fun j hj => ?_⟩
    have := List.any_eq_false.1 h l[j] (by rw [List.mem_take_iff_getElem]; exact ⟨j, by omega, rfl⟩)
    simpa using this
  rw [this]
theorem idx_none {f : Pt → Bool} {l : List Pt} (h : l.any f = false) : idxZ f l = -1 := by
  unfold idxZ
  have : l.findIdx? f = none := by
    rw [List.findIdx?_eq_none_iff]
    intro x hx
    have := List.any_eq_false.1 h x hx
    simpa using this
  rw [this]
theorem any_snoc {f : Pt → Bool} {l : List Pt} {k : Nat} (hk : k < l.length) (h : (l.take k).any f = false) (hf : f (l.getD k (0, 0, 0)) = false) : (l.take (k + 1)).any f = false := by
  rw [take_snoc' l (0, 0, 0) k hk, List.any_append, h, List.any_cons, hf]; rfl
set_option maxHeartbeats 1000000 in
theorem indexFunc_any (c : Value) (f : Pt → Bool) (b cap n : Nat) (l : List Pt) (w : World) (hl : l.length = n) (hn : n ≤ 1000000) (hc : PtsAt w b 0 n l)
    (hF : ∀ (W : World) (x y z : Int), Below w.heap.size w W → (x, y, z) ∈ l → Calls Try.prog 148 #[ptV x y z, c] W (Ret W (.bool (f (x, y, z))))) :
    Calls Try.prog 174 #[.slice (some ⟨b, 0, none⟩) n cap, .func (.func 148) #[] #[c]] w (Ret w (.int .i64 (idxZ f l))) := by
  have HL := Lib.hid hl; clear hl
  have HC := Lib.hid hc; clear hc
  have HF := Lib.hid hF; clear hF
  go_enter Try.func174, Try.ntmps174
  go_wp2
  go_loopw [8] (fun i wr => ∃ k : Nat, k ≤ n ∧ i = .int .i64 k ∧ Hid ((l.take k).any f = false) ∧ Hid (Below w.heap.size w wr)) (fun i wr => n - (intOf i).toNat)
  case atStart => exact ⟨0, Nat.zero_le _, rfl, Lib.hid rfl, Lib.hid (Below.refl _ _)⟩
  case round =>
    obtain ⟨k, hk, rfl, HD, HB⟩ := hrel
    by_cases hlt : k < n
    · obtain ⟨c0, c1, c2⟩ := HC.out.below HB.out k hlt
      have hkl : k < l.length := by have := HL.out; omega
      have HI := Lib.hid (fun h => idx_at (f := f) (l := l) HD.out hkl h)
      have HN := Lib.hid (fun h => any_snoc (f := f) (l := l) hkl HD.out h)
      have hmem : l.getD k (0, 0, 0) ∈ l := by simp [List.getD, hkl]
      generalize l.getD k (0,0,0) = a at *
      obtain ⟨x, y, z⟩ := a
      simp only [Nat.zero_add] at c0 c1 c2
      have HQ := Lib.hid (HF.out wr x y z HB.out hmem)
      clear hmem
      cases hv : f (x, y, z) with
      | true =>
        have HI2 := Lib.hid (HI.out hv)
        rw [hv] at HQ
        clear HI HN hv
        go_wp2_with (go_at_call 148; (with_reducible refine (HQ.out).mono ?_); rintro e w1_ ⟨rfl, hb1⟩; obtain ⟨hcb1, hfb1, hlb1⟩ := bcell hb1; have hsz1 := hb1.size; (try simp at hsz1); have HB1 := Lib.hid hb1; clear hb1)
        go_ret
        exact ⟨ret_int HI2.out.symm, low_tr' HB.out HB1.out HB.out.size⟩
      | false =>
        have HN2 := Lib.hid (HN.out hv)
        rw [hv] at HQ
        clear HI HN hv
        go_wp2_with (go_at_call 148; (with_reducible refine (HQ.out).mono ?_); rintro e w1_ ⟨rfl, hb1⟩; obtain ⟨hcb1, hfb1, hlb1⟩ := bcell hb1; have hsz1 := hb1.size; (try simp at hsz1); have HB1 := Lib.hid hb1; clear hb1)
        go_roundw
        case rel => exact ⟨k + 1, by omega, by go_num, HN2, Lib.hid (low_tr' HB.out HB1.out HB.out.size)⟩
        case measure => simp [intOf]; omega
    · have hkn : k = n := by omega
      have HI := Lib.hid (idx_none (f := f) (l := l) (by have h := HD.out; rwa [List.take_of_length_le (by have := HL.out; omega)] at h))
      go_wp2
      go_ret
      exact ⟨ret_int HI.out.symm, HB.out⟩
end Go.Proofs.Ythkbhaaodegocaa
/- Plain words: points on and off a line. -/
namespace Go.Proofs.Ythkbhaaodegocaa
set_option linter.unusedVariables false
set_option linter.unusedSimpArgs false
def planeChk (n : Nat) : Bool := (allP n).all (fun m => decide (4 ≤ ((allP n).filter (fun a => onB (n : Int) a m)).length) && (allP n).any (fun a => !onB (n : Int) a m))
theorem planeChk3 : planeChk 3 = true := by decide +kernel
theorem planeChk5 : planeChk 5 = true := by decide +kernel
theorem planeChk7 : planeChk 7 = true := by decide +kernel
theorem planeChk11 : planeChk 11 = true := by decide +kernel
theorem planeChk13 : planeChk 13 = true := by decide +kernel
theorem planeChk_of {n : Nat} (hp : prB (n : Int) = true) : planeChk n = true := by
  have h := prB_cases hp
  have : n = 3 ∨ n = 5 ∨ n = 7 ∨ n = 11 ∨ n = 13 := by omega
  rcases this with rfl | rfl | rfl | rfl | rfl
  · exact planeChk3
  · exact planeChk5
  · exact planeChk7
  · exact planeChk11
  · exact planeChk13
/-- A normal point is in the list of all. -/
theorem mem_allP {n : Nat} {x y z : Int} (h : ptB (n : Int) x y z = true) : (x, y, z) ∈ allP n := by
  obtain ⟨hp, h1, h2, h3, h4⟩ := pt_facts h
  simp only [allP, pB, pA, pR, List.mem_append, List.mem_cons, List.mem_map, List.mem_range, List.mem_flatMap]
  rcases h4 with rfl | ⟨rfl, rfl⟩ | ⟨rfl, rfl, rfl⟩
  · exact .inr ⟨y.toNat, by omega, z.toNat, by omega, by rw [Int.toNat_of_nonneg h2.1, Int.toNat_of_nonneg h3.1]⟩
  · exact .inl (.inr ⟨z.toNat, by omega, by rw [Int.toNat_of_nonneg h3.1]⟩)
  · exact .inl (.inl rfl)
/-- Each normal line has at least four points, and a point is off it. -/
theorem line_facts {n : Nat} {x y z : Int} (h : ptB (n : Int) x y z = true) :
    4 ≤ ((allP n).filter (fun a => onB (n : Int) a (x, y, z))).length ∧ ∃ a ∈ allP n, onB (n : Int) a (x, y, z) = false := by
  have hk := List.all_eq_true.1 (planeChk_of (pt_facts h).1) _ (mem_allP h)
  simp only [Bool.and_eq_true, decide_eq_true_eq, List.any_eq_true, Bool.not_eq_true'] at hk
  exact hk
end Go.Proofs.Ythkbhaaodegocaa
/- Plain words: what is made normal is normal; lines of two points. -/
namespace Go.Proofs.Ythkbhaaodegocaa
set_option linter.unusedVariables false
set_option linter.unusedSimpArgs false
theorem firstNZ_cons (a : Int) (l : List Int) : firstNZ (a :: l) = if a = 0 then firstNZ l else a := by
  unfold firstNZ
  rw [List.find?_cons]
  by_cases h : a = 0
  · have : (a != 0) = false := by simp [h]
    rw [this, if_pos h]
  · have : (a != 0) = true := by simp [h]
    rw [this, if_neg h]; rfl
/-- Three numbers, not all 0 modulo p, made normal: a point. -/
theorem nrm3_pt {p x y z : Int} (hp : prB p = true) (h : nzB p [x, y, z] = true) : ptB p (nrm3 p x y z).1 (nrm3 p x y z).2.1 (nrm3 p x y z).2.2 = true := by
  have hb := prB_bd hp
  have hx0 := Int.emod_nonneg x (show p ≠ 0 by omega)
  have hx1 := Int.emod_lt_of_pos x (show 0 < p by omega)
  have hy0 := Int.emod_nonneg y (show p ≠ 0 by omega)
  have hy1 := Int.emod_lt_of_pos y (show 0 < p by omega)
  have hz0 := Int.emod_nonneg z (show p ≠ 0 by omega)
  have hz1 := Int.emod_lt_of_pos z (show 0 < p by omega)
  have hn : ¬ (x % p = 0 ∧ y % p = 0 ∧ z % p = 0) := by
    intro ⟨a, b, c⟩
    simp [nzB, zerosB] at h
    omega
  have hf : facL p [x, y, z] = invP p (firstNZ [x % p, y % p, z % p]) := rfl
  unfold nrm3
  rw [hf]
  clear h hf
  have bd : ∀ t : Int, 0 ≤ t % p ∧ t % p ≤ p - 1 := fun t => ⟨Int.emod_nonneg _ (by omega), by have := Int.emod_lt_of_pos t (show 0 < p by omega); omega⟩
  have mk : ∀ a b c : Int, (0 ≤ a ∧ a ≤ p - 1) → (0 ≤ b ∧ b ≤ p - 1) → (0 ≤ c ∧ c ≤ p - 1) → (a = 1 ∨ (a = 0 ∧ b = 1) ∨ (a = 0 ∧ b = 0 ∧ c = 1)) → ptB p a b c = true := by
    intro a b c ha hb hc hd
    unfold ptB normB numsB
    simp only [hp, Bool.true_and, Bool.and_eq_true, List.all_cons, List.all_nil, Bool.and_true, numB_iff]
    refine ⟨?_, ha, hb, hc⟩
    rcases hd with rfl | ⟨rfl, rfl⟩ | ⟨rfl, rfl, rfl⟩ <;> rfl
  generalize x % p = a at *
  generalize y % p = b at *
  generalize z % p = c at *
  refine mk _ _ _ (bd _) (bd _) (bd _) ?_
  by_cases ha : a = 0
  · by_cases hb' : b = 0
    · have hc : c ≠ 0 := fun e => hn ⟨ha, hb', e⟩
      have e : firstNZ [a, b, c] = c := by rw [firstNZ_cons, if_pos ha, firstNZ_cons, if_pos hb', firstNZ_cons, if_neg hc]
      have hs := (invP_spec (p := p) (n := c) hp (by omega) (by omega)).2.2.1
      rw [e]; subst ha; subst hb'
      exact .inr (.inr ⟨by simp, by simp, hs⟩)
    · have e : firstNZ [a, b, c] = b := by rw [firstNZ_cons, if_pos ha, firstNZ_cons, if_neg hb']
      have hs := (invP_spec (p := p) (n := b) hp (by omega) (by omega)).2.2.1
      rw [e]; subst ha
      exact .inr (.inl ⟨by simp, hs⟩)
  · have e : firstNZ [a, b, c] = a := by rw [firstNZ_cons, if_neg ha]
    have hs := (invP_spec (p := p) (n := a) hp (by omega) (by omega)).2.2.1
    rw [e]
    exact .inl hs
end Go.Proofs.Ythkbhaaodegocaa
/- Contracts: slices.Grow of no list; slices.Concat of the three rows of a map. -/
namespace Go.Proofs.Ythkbhaaodegocaa
open Go.RowKit
set_option linter.unusedVariables false
set_option linter.unusedSimpArgs false
structure OwnI (base : Nat) (w : World) (l : List Int) (e : Ending) (w' : World) : Prop where
  out : ∃ v, e = .returned v ∧ w'.ownsRow base 2 1 v l.length (ints l) ∧ Below base w w'
set_option maxRecDepth 100000 in
theorem grow64_nil (n : Nat) (w : World) (h0 : 0 < n) (hn : n ≤ 1000000) :
    Calls Try.prog 180 #[.slice none 0 0, .int .i64 (n : Int)] w (OwnI w.heap.size w []) := by
  obtain ⟨i0, hi, hz0, hz1, hz2⟩ := info_parts info64
  have HI0 := Lib.hid hi; have HZ0 := Lib.hid hz0; have HZ1 := Lib.hid hz1; have HZ2 := Lib.hid hz2
  clear hi hz0 hz1 hz2
  have hnz : (0 : Int) < (n : Int) := by omega
  go_enter Try.func180, Try.ntmps180
  go_wp2_with (at_builtin; refine Lib.wpList_append_run _ rfl _ _ 34 3 rfl _ _ rfl rfl _ _ (Lib.run_append_nil_zeros _ 34 3 _ 2 i0 (.int .i64 0) .i64 .i64 Try.underlying34 Try.underlying3 HI0.out HZ0.out n h0 (by rw [HZ1.out]; omega) (by omega) (by rw [HZ2.out]; omega)) ?_)
  go_ret
  have hge := grownCap_ge w n 0 2
  have hle := grownCap_le_maxLen w n 0 2 (by unfold maxLen; omega)
  refine ⟨_, rfl, ⟨rfl, .inr ⟨w.heap.size, _, _, rfl, Nat.le_refl _, heap_alloc_new _ _, Nat.zero_le _, hle, ?_, rfl⟩⟩, bal (bdr (Below.refl _ _)) _⟩
  simp [Builtin.zeroCells]
  omega
theorem take3 (l : List Int) (k : Nat) (h : k + 2 < l.length) : l.take (k + 3) = l.take k ++ [l.getD k 0, l.getD (k + 1) 0, l.getD (k + 2) 0] := by
  rw [take_snoc' l 0 (k + 2) h, take_snoc' l 0 (k + 1) (by omega), take_snoc' l 0 k (by omega)]
  simp
theorem ints_app (a b : List Int) : ints (a ++ b) = ints a ++ ints b := by simp [ints]
theorem src3 {W : World} {g o : Nat} {x y z : Int} (d0 : W.cell? ⟨g, o, none⟩ = some (.int .i64 x)) (d1 : W.cell? ⟨g, o + 1, none⟩ = some (.int .i64 y)) (d2 : W.cell? ⟨g, o + 2, none⟩ = some (.int .i64 z)) :
    ∀ (j : Nat) (u : Value), [Value.int .i64 x, .int .i64 y, .int .i64 z][j]? = some u → W.cell? ((⟨g, o, none⟩ : Addr).add j) = some u := by
  intro j u hj
  have hadd : ∀ j, (⟨g, o, none⟩ : Addr).add j = ⟨g, o + j, none⟩ := by intro j; unfold Addr.add; split <;> simp_all
  rw [hadd]
  match j, hj with
  | 0, hj => simpa using d0.trans (by simpa using hj)
  | 1, hj => exact d1.trans (by simpa using hj)
  | 2, hj => exact d2.trans (by simpa using hj)
  | j + 3, hj => simp at hj
set_option maxRecDepth 100000 in
set_option maxHeartbeats 2000000 in
theorem concat9 (h g k0 k1 k2 : Nat) (l : List Int) (w : World) (hl : l.length = 9) (hA : ∀ i, i < 9 → w.cell? ⟨g, 0 + i, none⟩ = some (.int .i64 (l.getD i 0)))
    (h0 : w.cell? ⟨h, 0, none⟩ = some (.slice (some ⟨g, 0, none⟩) 3 k0)) (h1 : w.cell? ⟨h, 1, none⟩ = some (.slice (some ⟨g, 3, none⟩) 3 k1)) (h2 : w.cell? ⟨h, 2, none⟩ = some (.slice (some ⟨g, 6, none⟩) 3 k2)) :
    Calls Try.prog 165 #[.slice (some ⟨h, 0, none⟩) 3 3] w (OwnI w.heap.size w l) := by
  obtain ⟨i0, hi, hz0, hz1, hz2⟩ := info_parts info64
  have HI0 := Lib.hid hi; have HZ0 := Lib.hid hz0; have HZ1 := Lib.hid hz1; have HZ2 := Lib.hid hz2
  have HA := Lib.hid hA
  have HL := Lib.hid hl
  have hgl : g < w.heap.size := World.block_lt_of_cell? w _ (hA 0 (by omega))
  have hhl : h < w.heap.size := World.block_lt_of_cell? w _ h0
  have HGr : Hid (∀ W : World, Calls Try.prog 180 #[.slice none 0 0, .int .i64 9] W (OwnI W.heap.size W [])) := Lib.hid (fun (W : World) => grow64_nil 9 W (by omega) (by omega))
  clear hi hz0 hz1 hz2 hA hl
  go_enter Try.func165, Try.ntmps165
  go_wp2
  go_loop [3, 11] (fun s i => ∃ k : Nat, k ≤ 3 ∧ i = .int .i64 k ∧ s = .int .i64 ((3 * k : Nat) : Int)) (fun _ i => 3 - (intOf i).toNat)
  case atStart => exact ⟨0, by omega, rfl, rfl⟩
  case round =>
    obtain ⟨k, hk, rfl, rfl⟩ := hrel
    rcases (show k = 0 ∨ k = 1 ∨ k = 2 ∨ k = 3 by omega) with rfl | rfl | rfl | rfl
    · go_wp2
      go_round
      case rel => exact ⟨1, by omega, rfl, rfl⟩
      case measure => simp [intOf]
    · go_wp2
      go_round
      case rel => exact ⟨2, by omega, rfl, rfl⟩
      case measure => simp [intOf]
    · go_wp2
      go_round
      case rel => exact ⟨3, by omega, rfl, rfl⟩
      case measure => simp [intOf]
    · go_wp2_with (go_at_call 180; (with_reducible refine (HGr.out _).mono ?_); rintro e w1 ⟨v1, rfl, ho, hb⟩; have HO1 := Lib.hid ho; have HB1 := Lib.hid hb; have hs1 := hb.size; clear ho hb)
      have e0 : w1.cell? ⟨h, 0, none⟩ = some (.slice (some ⟨g, 0, none⟩) 3 k0) := (HB1.out.cell hhl).trans h0
      go_loopw [6, 27] (fun v i wr => ∃ k : Nat, k ≤ 3 ∧ i = .int .i64 k ∧ Hid (wr.ownsRow w.heap.size 2 1 v (3 * k) (ints (l.take (3 * k)))) ∧ Hid (Below w.heap.size w wr)) (fun _ i wr => 3 - (intOf i).toNat)
      case atStart => exact ⟨0, by omega, rfl, HO1, HB1⟩
      case round =>
        clear HO1 HB1 hs1 e0
        obtain ⟨k, hk, rfl, HO, HB⟩ := hrel
        rcases (show k = 0 ∨ k = 1 ∨ k = 2 ∨ k = 3 by omega) with rfl | rfl | rfl | rfl
        · clear hk
          have c0 := HA.out 0 (by omega)
          have c1 := HA.out 1 (by omega)
          have c2 := HA.out 2 (by omega)
          simp only [Nat.zero_add] at c0 c1 c2
          have d0 : wr.cell? ⟨g, 0, none⟩ = some (.int .i64 (l.getD 0 0)) := (HB.out.cell hgl).trans c0
          have d1 : wr.cell? ⟨g, 1, none⟩ = some (.int .i64 (l.getD 1 0)) := (HB.out.cell hgl).trans c1
          have d2 : wr.cell? ⟨g, 2, none⟩ = some (.int .i64 (l.getD 2 0)) := (HB.out.cell hgl).trans c2
          have HS := Lib.hid (take3 l 0 (by have := HL.out; omega))
          have s0 : wr.cell? ⟨h, 0, none⟩ = some (.slice (some ⟨g, 0, none⟩) 3 k0) := (HB.out.cell hhl).trans h0
          generalize l.getD 0 0 = x at *
          generalize l.getD 1 0 = y at *
          generalize l.getD 2 0 = z at *
          clear c0 c1 c2
          go_wp2_with (at_builtin; refine wpList_append_own _ rfl _ _ 34 rfl w.heap.size 2 i0 (.int .i64 0) 1 8 Try.underlying34 HI0.out HZ0.out HZ1.out HZ2.out rfl (by decide) _ _ _ rfl HO.out ⟨g, 0, none⟩ 3 k0 [.int .i64 x, .int .i64 y, .int .i64 z] rfl rfl (src3 d0 d1 d2) (oneP _ _ _) (by unfold maxLen; omega) (by omega) HB.out.size ?_; intro v2 w2 hown hgrow _; have HO2 := Lib.hid hown; have HG := Lib.hid hgrow; clear hown hgrow)
          go_roundw
          case rel => exact ⟨1, by omega, rfl, Lib.hid (by rw [HS.out, ints_app]; exact HO2.out), Lib.hid (HB.out.grown HG.out HB.out.size (fun k' hk' => own_base' HO.out k' hk'))⟩
          case measure => simp [intOf]
        · clear hk
          have c0 := HA.out 3 (by omega)
          have c1 := HA.out 4 (by omega)
          have c2 := HA.out 5 (by omega)
          simp only [Nat.zero_add] at c0 c1 c2
          have d0 : wr.cell? ⟨g, 3, none⟩ = some (.int .i64 (l.getD 3 0)) := (HB.out.cell hgl).trans c0
          have d1 : wr.cell? ⟨g, 4, none⟩ = some (.int .i64 (l.getD 4 0)) := (HB.out.cell hgl).trans c1
          have d2 : wr.cell? ⟨g, 5, none⟩ = some (.int .i64 (l.getD 5 0)) := (HB.out.cell hgl).trans c2
          have HS := Lib.hid (take3 l 3 (by have := HL.out; omega))
          have s0 : wr.cell? ⟨h, 1, none⟩ = some (.slice (some ⟨g, 3, none⟩) 3 k1) := (HB.out.cell hhl).trans h1
          generalize l.getD 3 0 = x at *
          generalize l.getD 4 0 = y at *
          generalize l.getD 5 0 = z at *
          clear c0 c1 c2
          go_wp2_with (at_builtin; refine wpList_append_own _ rfl _ _ 34 rfl w.heap.size 2 i0 (.int .i64 0) 1 8 Try.underlying34 HI0.out HZ0.out HZ1.out HZ2.out rfl (by decide) _ _ _ rfl HO.out ⟨g, 3, none⟩ 3 k1 [.int .i64 x, .int .i64 y, .int .i64 z] rfl rfl (src3 d0 d1 d2) (oneP _ _ _) (by unfold maxLen; omega) (by omega) HB.out.size ?_; intro v2 w2 hown hgrow _; have HO2 := Lib.hid hown; have HG := Lib.hid hgrow; clear hown hgrow)
          go_roundw
          case rel => exact ⟨2, by omega, rfl, Lib.hid (by rw [HS.out, ints_app]; exact HO2.out), Lib.hid (HB.out.grown HG.out HB.out.size (fun k' hk' => own_base' HO.out k' hk'))⟩
          case measure => simp [intOf]
        · clear hk
          have c0 := HA.out 6 (by omega)
          have c1 := HA.out 7 (by omega)
          have c2 := HA.out 8 (by omega)
          simp only [Nat.zero_add] at c0 c1 c2
          have d0 : wr.cell? ⟨g, 6, none⟩ = some (.int .i64 (l.getD 6 0)) := (HB.out.cell hgl).trans c0
          have d1 : wr.cell? ⟨g, 7, none⟩ = some (.int .i64 (l.getD 7 0)) := (HB.out.cell hgl).trans c1
          have d2 : wr.cell? ⟨g, 8, none⟩ = some (.int .i64 (l.getD 8 0)) := (HB.out.cell hgl).trans c2
          have HS := Lib.hid (take3 l 6 (by have := HL.out; omega))
          have s0 : wr.cell? ⟨h, 2, none⟩ = some (.slice (some ⟨g, 6, none⟩) 3 k2) := (HB.out.cell hhl).trans h2
          generalize l.getD 6 0 = x at *
          generalize l.getD 7 0 = y at *
          generalize l.getD 8 0 = z at *
          clear c0 c1 c2
          go_wp2_with (at_builtin; refine wpList_append_own _ rfl _ _ 34 rfl w.heap.size 2 i0 (.int .i64 0) 1 8 Try.underlying34 HI0.out HZ0.out HZ1.out HZ2.out rfl (by decide) _ _ _ rfl HO.out ⟨g, 6, none⟩ 3 k2 [.int .i64 x, .int .i64 y, .int .i64 z] rfl rfl (src3 d0 d1 d2) (oneP _ _ _) (by unfold maxLen; omega) (by omega) HB.out.size ?_; intro v2 w2 hown hgrow _; have HO2 := Lib.hid hown; have HG := Lib.hid hgrow; clear hown hgrow)
          go_roundw
          case rel => exact ⟨3, by omega, rfl, Lib.hid (by rw [HS.out, ints_app]; exact HO2.out), Lib.hid (HB.out.grown HG.out HB.out.size (fun k' hk' => own_base' HO.out k' hk'))⟩
          case measure => simp [intOf]
        · have ht : l.take (3 * 3) = l := List.take_of_length_le (by have := HL.out; omega)
          have HO' := HO.out
          rw [ht] at HO'
          have hle := HL.out
          have HOh := Lib.hid HO'
          clear HO'
          go_wp2
          go_ret
          exact ⟨_, rfl, by rw [HL.out]; exact HOh.out, HB.out⟩
end Go.Proofs.Ythkbhaaodegocaa
/- A region whose first m operations draw their order and yield values; the others come behind them, in the text's order. -/
namespace Go.Proofs.Ythkbhaaodegocaa
open Go.RowKit
set_option linter.unusedVariables false
set_option linter.unusedSimpArgs false
def thenChk (l : List Oper) (m N : Nat) : Bool :=
  (List.range l.length).all fun i => match l[i]? with
    | none => true
    | some o => notSelect o && (o.after.all fun e => !Region.binds .any e || e.on < i) &&
      (if i < m then (match o.guard with | none => true | some (k, _) => bindsTo o k) &&
        (match o.dst with | some t => decide (t < N) | none => false) &&
        ((readsOf o).all fun t => (List.range m).all fun j => match l[j]? with
            | none => true
            | some oj => !(oj.dst == some t) || bindsTo o j)
       else (List.range i).all fun j => bindsTo o j)
theorem thenChk_at {l : List Oper} {m N : Nat} (chk : thenChk l m N = true) {i : Nat} {o : Oper} (hi : l[i]? = some o) :
    (∀ cs b, o.op ≠ .select cs b) ∧ (∀ e ∈ o.after, Region.binds .any e = true → e.on < i) ∧
    (i < m → (∀ k b, o.guard = some (k, b) → bindsTo o k = true) ∧ (∃ t, o.dst = some t ∧ t < N) ∧ (∀ t ∈ readsOf o, ∀ j oj, j < m → l[j]? = some oj → oj.dst = some t → bindsTo o j = true)) ∧
    (¬ i < m → ∀ j, j < i → bindsTo o j = true) := by
  unfold thenChk at chk
  have hlt : i < l.length := (List.getElem?_eq_some_iff.1 hi).1
  have h := List.all_eq_true.1 chk i (List.mem_range.2 hlt)
  simp only [hi, Bool.and_eq_true] at h
  obtain ⟨⟨hns, haf⟩, hd⟩ := h
  refine ⟨?_, ?_, ?_, ?_⟩
  · intro cs b e; rw [notSelect, e] at hns; cases hns
  · intro e he hb
    have := (Array.all_eq_true_iff_forall_mem.1 haf) e he
    simpa [hb] using this
  · intro him
    rw [if_pos him] at hd
    simp only [Bool.and_eq_true] at hd
    obtain ⟨⟨hg, hd⟩, hr⟩ := hd
    refine ⟨?_, ?_, ?_⟩
    · intro k b e; rw [e] at hg; simpa using hg
    · cases hdd : o.dst with
      | none => rw [hdd] at hd; cases hd
      | some t => rw [hdd] at hd; exact ⟨t, rfl, by simpa using hd⟩
    · intro t ht j oj hjm hj hjd
      have h2 := List.all_eq_true.1 hr t ht
      have := List.all_eq_true.1 h2 j (List.mem_range.2 hjm)
      simpa [hj, hjd] using this
  · intro him j hj
    rw [if_neg him] at hd
    exact List.all_eq_true.1 hd j (List.mem_range.2 hj)
structure RInvU (l : List Oper) (m : Nat) (a0 aE : Act) (w0 : World) (listed : Array Bool) (a : Act) (w : World) : Prop where
  df : a.defers = aE.defers
  sz : a.tmps.size = aE.tmps.size
  len : listed.size = l.length
  fr1 : ∀ (j : Nat) (o : Oper) (t : Nat), j < m → l[j]? = some o → o.dst = some t → listed.getD j false = true → a.tmps.getD t undef = aE.tmps.getD t undef
  fr0 : ∀ t : Nat, (∀ (j : Nat) (o : Oper), j < m → l[j]? = some o → o.dst = some t → listed.getD j false = false) → a.tmps.getD t undef = a0.tmps.getD t undef
  bl : Below w0.heap.size w0 w
  rest : ∀ j, m ≤ j → listed.getD j false = false
theorem ready_mem {l : List Oper} {listed : Array Bool} {i : Nat} (h : i ∈ Region.ready .any l.toArray listed) (hlen : listed.size = l.length) :
    ∃ o, l[i]? = some o ∧ i < l.length ∧ listed.getD i false = false ∧ ∀ e ∈ o.after, Region.binds .any e = true → listed.getD e.on false = true := by
  obtain ⟨h0, o, ho, hall⟩ := mem_ready.1 h
  have hio : l[i]? = some o := by simpa using ho
  have hil : i < l.length := (List.getElem?_eq_some_iff.1 hio).1
  have hil' : i < listed.size := by omega
  exact ⟨o, hio, hil, by simpa [hil'] using h0, hall⟩
/-- From the m-th on there is one order. -/
theorem any_tail {P : Program} {Q : Exit → Act → World → Prop} {l : List Oper} {m N : Nat} (chk : thenChk l m N = true) : ∀ (fuel i : Nat) (listed : Array Bool) (a : Act) (W : World), m ≤ i → i ≤ l.length → listed.size = l.length →
    (∀ j, j < l.length → (listed.getD j false = true ↔ j < i)) → l.length - i ≤ fuel → wpList P l.toArray Q (l.drop i) a W → wpAny P .any l.toArray Q fuel listed a W := by
  intro fuel
  induction fuel with
  | zero =>
    intro i listed a W hmi hil hlen hls hf hw
    have hi : i = l.length := by omega
    subst hi
    refine ⟨?_, by rw [List.drop_length] at hw; exact hw⟩
    rw [List.eq_nil_iff_forall_not_mem]
    intro k hk
    obtain ⟨o, _, hkl, hk0, _⟩ := ready_mem hk hlen
    rw [(hls k hkl).2 hkl] at hk0; cases hk0
  | succ fuel ih =>
    intro i listed a W hmi hil hlen hls hf hw
    rcases Nat.lt_or_ge i l.length with hlt | hge
    · have hio : l[i]? = some l[i] := List.getElem?_eq_getElem hlt
      have hC := thenChk_at chk hio
      have hd : l.drop i = l[i] :: l.drop (i + 1) := List.drop_eq_getElem_cons hlt
      rw [hd] at hw
      refine ⟨fun hr => ?_, fun k hk => ?_⟩
      · exfalso
        have hmem : i ∈ Region.ready .any l.toArray listed := by
          rw [mem_ready]
          refine ⟨?_, l[i], by simp, fun e he hbd => (hls _ (by have := hC.2.1 e he hbd; omega)).2 (hC.2.1 e he hbd)⟩
          have h1 : i < listed.size := by omega
          have h2 : listed.getD i false = false := by
            cases hb : listed.getD i false with
            | false => rfl
            | true => exact absurd ((hls i hlt).1 hb) (Nat.lt_irrefl _)
          simpa [h1] using h2
        rw [hr] at hmem; cases hmem
      · obtain ⟨o, hko, hkl, hk0, hall⟩ := ready_mem hk hlen
        have hki : k = i := by
          rcases Nat.lt_trichotomy k i with h | h | h
          · rw [(hls k hkl).2 h] at hk0; cases hk0
          · exact h
          · obtain ⟨e, he, hb, hon⟩ := bindsTo_spec ((thenChk_at chk hko).2.2.2 (by omega) i h)
            have := (hls i hlt).1 (by rw [← hon]; exact hall e he hb)
            omega
        subst hki
        have heo : o = l[k] := by rw [hio] at hko; exact (Option.some.inj hko).symm
        subst heo
        have hk' : k < listed.size := by omega
        have step : ∀ a' W', wpList P l.toArray Q (l.drop (k + 1)) a' W' → wpAny P .any l.toArray Q fuel (listed.setIfInBounds k true) a' W' := by
          intro a' W' h
          refine ih (k + 1) _ a' W' (by omega) (by omega) (by simpa using hlen) (fun j hj => ?_) (by omega) h
          rw [getD_set _ _ _ hk']
          by_cases e : k = j
          · subst e; simp
          · rw [if_neg e, hls j hj]; omega
        unfold wpOp
        have hto : l.toArray[k]? = some l[k] := by simp
        simp only [hto]
        unfold wpList at hw
        split at hw
        · rename_i hwt
          rw [if_pos hwt]
          rcases hw with h | h
          · exact .inl (Oper.wp_mono step h)
          · exact .inr h
        · rename_i hwt
          rw [if_neg hwt]
          exact step _ _ hw
    · have hi : i = l.length := by omega
      subst hi
      rw [List.drop_length] at hw
      refine ⟨fun _ => hw, fun k hk => ?_⟩
      obtain ⟨o, _, hkl, hk0, _⟩ := ready_mem hk hlen
      rw [(hls k hkl).2 hkl] at hk0; cases hk0
section
variable {P : Program} {Q : Exit → Act → World → Prop} {l : List Oper} {a0 : Act} {w : World} {vs : List (Nat × Value)} {m : Nat}
theorem wp_region_then {id : Nat} (hm : P.follows .mixedOrders = true) (hml : m ≤ l.length)
    (chk : thenChk l m a0.tmps.size = true) (hkeys : vs.all (fun kv => (l.take m).any (·.dst == some kv.1)) = true)
    (hop : ∀ (i : Nat) (o : Oper) (t : Nat), i < m → l[i]? = some o → o.dst = some t → (Region.wanted o (yielded l.toArray (puts a0 vs).tmps) = true ∧ ∀ W, Below w.heap.size w W → calmAt P o (puts a0 vs).eval W ((puts a0 vs).tmps.getD t undef)) ∨ (Region.wanted o (yielded l.toArray (puts a0 vs).tmps) = false ∧ (puts a0 vs).tmps.getD t undef = undef))
    (hgd : ∀ (i : Nat) (o : Oper) (k : Nat) (b : Bool), i < m → l[i]? = some o → o.guard = some (k, b) → k < m)
    (hQ : ∀ W, Below w.heap.size w W → wpList P l.toArray Q (l.drop m) (puts a0 vs) W) :
    (Code.region id l.toArray true).wp P Q a0 w := by
  have hE : ∀ t, (∀ (j : Nat) (o : Oper), j < m → l[j]? = some o → o.dst ≠ some t) → a0.tmps.getD t undef = (puts a0 vs).tmps.getD t undef := by
    intro t hno
    refine (puts_other t vs a0 (fun kv hkv e => ?_)).symm
    have := List.all_eq_true.1 hkeys kv hkv
    obtain ⟨o, ho, hod⟩ := List.any_eq_true.1 this
    obtain ⟨j, hj, hjo⟩ := List.mem_take_iff_getElem.1 ho
    exact hno j o (by omega) (by rw [← hjo]; exact List.getElem?_eq_getElem (by omega)) (by rw [← e]; simpa using hod)
  have hEs : (puts a0 vs).tmps.size = a0.tmps.size := puts_size _ _
  have hEd : (puts a0 vs).defers = a0.defers := puts_defers _ _
  generalize puts a0 vs = aE at *
  refine wp_region_any hm ?_
  have key : ∀ (fuel : Nat) (listed : Array Bool) (a : Act) (W : World), RInvU l m a0 aE w listed a W →
      (List.range m).countP (fun i => !listed.getD i true) + (l.length - m) ≤ fuel → wpAny P .any l.toArray Q fuel listed a W := by
    intro fuel
    have fin : ∀ (fuel : Nat) (listed : Array Bool) (a : Act) (W : World), RInvU l m a0 aE w listed a W → (∀ j, j < m → listed.getD j false = true) → l.length - m ≤ fuel → wpAny P .any l.toArray Q fuel listed a W := by
      intro fuel listed a W hI hall hf
      have ea : a = aE := by
        refine act_ext _ _ hI.df hI.sz (fun t ht => ?_)
        · by_cases hw : ∃ (j : Nat) (o : Oper), j < m ∧ l[j]? = some o ∧ o.dst = some t
          · obtain ⟨j, o, hjm, hj, ho⟩ := hw
            exact hI.fr1 j o t hjm hj ho (hall j hjm)
          · rw [hI.fr0 t (fun j o hjm hj ho => (hw ⟨j, o, hjm, hj, ho⟩).elim)]
            exact hE t (fun j o hjm hj ho => hw ⟨j, o, hjm, hj, ho⟩)
      subst ea
      refine any_tail chk fuel m listed a W (Nat.le_refl _) hml hI.len (fun j hj => ⟨fun h => ?_, fun h => hall j h⟩) hf (hQ W hI.bl)
      rcases Nat.lt_or_ge j m with h2 | h2
      · exact h2
      · rw [hI.rest j h2] at h; cases h
    -- what an operation that may come up reads is at hand
    have look : ∀ (listed : Array Bool) (a : Act) (W : World), RInvU l m a0 aE w listed a W → ∀ (i : Nat) (o : Oper), i < m → l[i]? = some o →
        (∀ e ∈ o.after, Region.binds .any e = true → listed.getD e.on false = true) → ∀ t ∈ readsOf o, a.tmps.getD t undef = aE.tmps.getD t undef := by
      intro listed a W hI i o him hi hall t ht
      have h := ((thenChk_at chk hi).2.2.1 him).2.2 t ht
      · by_cases hw : ∃ (j : Nat) (oj : Oper), j < m ∧ l[j]? = some oj ∧ oj.dst = some t
        · obtain ⟨j, oj, hjm, hj, hjd⟩ := hw
          obtain ⟨e, he, hb, hon⟩ := bindsTo_spec (h j oj hjm hj hjd)
          exact hI.fr1 j oj t hjm hj hjd (by rw [← hon]; exact hall e he hb)
        · rw [hI.fr0 t (fun j oj hjm hj ho => (hw ⟨j, oj, hjm, hj, ho⟩).elim)]
          exact hE t (fun j oj hjm hj ho => hw ⟨j, oj, hjm, hj, ho⟩)
    induction fuel with
    | zero =>
      intro listed a W hI hc
      refine fin 0 listed a W hI (fun j hj => ?_) (by omega)
      have h0 : (List.range m).countP (fun i => !listed.getD i true) = 0 := by omega
      rw [List.countP_eq_zero] at h0
      have := h0 j (List.mem_range.2 hj)
      have hj' : j < listed.size := by rw [hI.len]; omega
      simpa [hj'] using this
    | succ fuel ih =>
      intro listed a W hI hc
      by_cases hall : ∀ j, j < m → listed.getD j false = true
      · exact fin _ listed a W hI hall (by omega)
      · have hno : ∀ i, i ∈ Region.ready .any l.toArray listed → i < m := by
          intro i hi
          rcases Nat.lt_or_ge i m with h | h
          · exact h
          · exfalso
            obtain ⟨o, hio, hil, hi0, ha⟩ := ready_mem hi hI.len
            refine hall (fun j hj => ?_)
            obtain ⟨e, he, hb, hon⟩ := bindsTo_spec ((thenChk_at chk hio).2.2.2 (by omega) j (by omega))
            rw [← hon]; exact ha e he hb
        refine ⟨fun hr => ?_, fun i hi => ?_⟩
        · exfalso
          have all : ∀ i, i < l.length → listed.getD i false = true := by
            intro i
            induction i using Nat.strongRecOn with
            | _ i ih2 =>
              intro hi
              cases hb : listed.getD i false with
              | true => rfl
              | false =>
                exfalso
                have ho : l[i]? = some l[i] := List.getElem?_eq_getElem hi
                have hmem : i ∈ Region.ready .any l.toArray listed := by
                  rw [mem_ready]
                  refine ⟨?_, l[i], by simp, fun e he hbd => ?_⟩
                  · have : i < listed.size := by have := hI.len; omega
                    simp [this] at hb ⊢; exact hb
                  · exact ih2 e.on ((thenChk_at chk ho).2.1 e he hbd) (by have := (thenChk_at chk ho).2.1 e he hbd; omega)
                rw [hr] at hmem; cases hmem
          exact hall (fun j hj => all j (by omega))
        · have him := hno i hi
          obtain ⟨o, hio, hil, hi0, hal⟩ := ready_mem hi hI.len
          have hil' : i < listed.size := by rw [hI.len]; exact hil
          have ho : l.toArray[i]? = some o := by simpa using hio
          have hC := thenChk_at chk hio
          have hCm := hC.2.2.1 him
          obtain ⟨t, hdst, htN⟩ := hCm.2.1
          have hwe : Region.wanted o (yielded l.toArray a.tmps) = Region.wanted o (yielded l.toArray aE.tmps) := by
            unfold Region.wanted
            cases hg : o.guard with
            | none => rfl
            | some kb =>
              obtain ⟨k, b⟩ := kb
              obtain ⟨e, he, hb, hon⟩ := bindsTo_spec (hCm.1 k b hg)
              have : yielded l.toArray a.tmps k = yielded l.toArray aE.tmps k := yielded_congr hI.sz (fun ok tk hk hd => hI.fr1 k ok tk (hgd i o k b him hio hg) (by simpa using hk) hd (by rw [← hon]; exact hal e he hb))
              simp only [this]
          have hcnt : (List.range m).countP (fun j => !(listed.setIfInBounds i true).getD j true) + (l.length - m) ≤ fuel := by
            have := count_lt (fun j => !listed.getD j true) (fun j => !(listed.setIfInBounds i true).getD j true) (fun j hj => by
                by_cases e : i = j
                · subst e; simp [hil'] at hj
                · rw [getD_set_ne true e] at hj; exact hj) i (by simpa [hil'] using hi0) (by simp [hil']) (List.range m) (List.mem_range.2 him)
            omega
          have step : ∀ W', Below w.heap.size w W' → wpAny P .any l.toArray Q fuel (listed.setIfInBounds i true) (a.put (some t) (aE.tmps.getD t undef)) W' := by
            intro W' hW'
            refine ih _ _ _ ⟨by rw [put_defers]; exact hI.df, by rw [put_size]; exact hI.sz, by simpa using hI.len, ?_, ?_, hW', ?_⟩ hcnt
            · intro j oj u hjm hj hjd hl
              by_cases htu : t = u
              · subst htu; rw [put_get_same _ _ _ (by rw [hI.sz, hEs]; exact htN)]
              · rw [put_get_ne _ _ _ _ htu]
                rw [getD_set _ _ _ hil'] at hl
                by_cases e : i = j
                · subst e; rw [hio] at hj; obtain rfl := Option.some.inj hj; rw [hdst] at hjd; exact (htu (Option.some.inj hjd)).elim
                · rw [if_neg e] at hl; exact hI.fr1 j oj u hjm hj hjd hl
            · intro u hnu
              have htu : t ≠ u := fun e => by
                subst e
                have := hnu i o him hio hdst
                rw [getD_set _ _ _ hil', if_pos rfl] at this; cases this
              rw [put_get_ne _ _ _ _ htu]
              refine hI.fr0 u (fun j oj hjm hj hjd => ?_)
              have := hnu j oj hjm hj hjd
              rw [getD_set _ _ _ hil'] at this
              by_cases e : i = j
              · rw [if_pos e] at this; cases this
              · rw [if_neg e] at this; exact this
            · intro j hj
              rw [getD_set _ _ _ hil', if_neg (by omega)]; exact hI.rest j hj
          unfold wpOp
          simp only [ho]
          rcases hop i o t him hio hdst with ⟨hw, hcalm⟩ | ⟨hw, hun⟩
          · rw [hwe, hw]
            simp only [if_true]
            refine .inl ?_
            have heq : execOp aE.eval o = execOp a.eval o := execOp_congr o hC.1 (fun x hx => by
                cases x with
                | tmp u =>
                  have hu : u ∈ readsOf o := List.mem_filterMap.2 ⟨.tmp u, by simpa using hx, rfl⟩
                  exact (look listed a W hI i o him hio hal u hu).symm
                | _ => rfl)
            have hcalm' : calmAt P o a.eval W (aE.tmps.getD t undef) := by
                refine ⟨?_⟩; have hh := (hcalm W hI.bl).out; unfold calmRun at hh ⊢; rw [← heq]; exact hh
            refine wp_of_calm hcalm' (fun W' hb => ?_)
            rw [hdst]
            exact step W' (below_tr' hI.bl hb)
          · rw [hwe, hw]
            simp only [Bool.false_eq_true, if_false, hdst]
            rw [hun] at step
            exact step W hI.bl
  refine key _ _ _ _ ⟨by rw [hEd], hEs.symm, by simp, ?_, ?_, ⟨rfl, rfl, rfl, Nat.le_refl _, fun _ _ => rfl⟩, ?_⟩ ?_
  · intro j o t _ hj hjd hl; rw [rep_false] at hl; cases hl
  · intro t _; rfl
  · intro j _; exact rep_false _ _
  · have : (List.range m).countP (fun i => !(Array.replicate l.toArray.size false).getD i true) ≤ m := Nat.le_trans List.countP_le_length (by simp)
    simp at this ⊢; omega
def guardsIn (l : List Oper) (m : Nat) : Bool := (l.take m).all fun o => match o.guard with | none => true | some (k, _) => decide (k < m)
theorem guardsIn_at (h : guardsIn l m = true) {i : Nat} {o : Oper} {k : Nat} {b : Bool} (him : i < m) (hi : l[i]? = some o) (hg : o.guard = some (k, b)) : k < m := by
  have hlt : i < l.length := (List.getElem?_eq_some_iff.1 hi).1
  have hmem : o ∈ l.take m := List.mem_take_iff_getElem.2 ⟨i, by omega, (List.getElem?_eq_some_iff.1 hi).2⟩
  have := List.all_eq_true.1 h o hmem
  rw [hg] at this
  simpa using this
theorem region_then {id : Nat} (m : Nat) (vs : List (Nat × Value)) (hm : P.follows .mixedOrders = true) (hml : m ≤ l.length)
    (chk : thenChk l m a0.tmps.size = true) (hgd : guardsIn l m = true) (hkeys : vs.all (fun kv => (l.take m).any (·.dst == some kv.1)) = true)
    (H : ∀ aE, puts a0 vs = aE → AllBut (CalmG P aE w l) l.length l.length 0 (l.take m) ∧ ∀ W, Below w.heap.size w W → wpList P l.toArray Q (l.drop m) aE W) :
    (Code.region id l.toArray true).wp P Q a0 w := by
  obtain ⟨h2, h3⟩ := H _ rfl
  refine wp_region_then hm hml chk hkeys (fun i o t him hi hd => ?_) (fun i o k b him hi hg => guardsIn_at hgd him hi hg) h3
  have hlt : i < l.length := (List.getElem?_eq_some_iff.1 hi).1
  exact AllBut.spec (l.take m) 0 h2 i o (by rw [List.getElem?_take_of_lt him]; exact hi) (by omega) (by omega) t hd
end
end Go.Proofs.Ythkbhaaodegocaa
/- A region whose first m operations draw their order and yield values; the others come behind them, in the text's order: the m-th by way of others. -/
namespace Go.Proofs.Ythkbhaaodegocaa
open Go.RowKit
set_option linter.unusedVariables false
set_option linter.unusedSimpArgs false
/-- Whether operation i comes behind operation j, by way of others. -/
def reachB (l : List Oper) : Nat → Nat → Nat → Bool
  | 0, _, _ => false
  | f + 1, i, j => match l[i]? with
    | none => false
    | some o => o.after.any (fun e => Region.binds .any e && e.on == j) || o.after.any (fun e => Region.binds .any e && reachB l f e.on j)
theorem reach_listed {l : List Oper} {listed : Array Bool} (dc : ∀ (i : Nat) (o : Oper), l[i]? = some o → listed.getD i false = true → ∀ e ∈ o.after, Region.binds .any e = true → listed.getD e.on false = true) :
    ∀ (f i j : Nat) (o : Oper), l[i]? = some o → (∀ e ∈ o.after, Region.binds .any e = true → listed.getD e.on false = true) → reachB l f i j = true → listed.getD j false = true
  | 0, _, _, _, _, _, h => by cases h
  | f + 1, i, j, o, hi, ha, h => by
    unfold reachB at h
    rw [hi] at h
    simp only [Bool.or_eq_true] at h
    rcases h with h | h
    · rw [Array.any_eq_true'] at h
      obtain ⟨e, he, h2⟩ := h
      simp only [Bool.and_eq_true, beq_iff_eq] at h2
      rw [← h2.2]; exact ha e he h2.1
    · rw [Array.any_eq_true'] at h
      obtain ⟨e, he, h2⟩ := h
      simp only [Bool.and_eq_true] at h2
      have hl := ha e he h2.1
      cases ho : l[e.on]? with
      | none => 
        cases f with
        | zero => cases h2.2
        | succ f => unfold reachB at h2; rw [ho] at h2; cases h2.2
      | some o' => exact reach_listed dc f e.on j o' ho (dc e.on o' ho hl) h2.2
def viaChk (l : List Oper) (m N : Nat) : Bool :=
  (List.range l.length).all fun i => match l[i]? with
    | none => true
    | some o => notSelect o && (o.after.all fun e => !Region.binds .any e || e.on < i) &&
      (if i < m then (match o.guard with | none => true | some (k, _) => bindsTo o k) &&
        (match o.dst with | some t => decide (t < N) | none => false) &&
        ((readsOf o).all fun t => (List.range m).all fun j => match l[j]? with
            | none => true
            | some oj => !(oj.dst == some t) || bindsTo o j)
       else if i = m then (List.range m).all fun j => reachB l l.length i j
       else bindsTo o (i - 1))
theorem viaChk_at {l : List Oper} {m N : Nat} (chk : viaChk l m N = true) {i : Nat} {o : Oper} (hi : l[i]? = some o) :
    (∀ cs b, o.op ≠ .select cs b) ∧ (∀ e ∈ o.after, Region.binds .any e = true → e.on < i) ∧
    (i < m → (∀ k b, o.guard = some (k, b) → bindsTo o k = true) ∧ (∃ t, o.dst = some t ∧ t < N) ∧ (∀ t ∈ readsOf o, ∀ j oj, j < m → l[j]? = some oj → oj.dst = some t → bindsTo o j = true)) ∧
    (i = m → ∀ j, j < m → reachB l l.length i j = true) ∧ (m < i → bindsTo o (i - 1) = true) := by
  unfold viaChk at chk
  have hlt : i < l.length := (List.getElem?_eq_some_iff.1 hi).1
  have h := List.all_eq_true.1 chk i (List.mem_range.2 hlt)
  simp only [hi, Bool.and_eq_true] at h
  obtain ⟨⟨hns, haf⟩, hd⟩ := h
  refine ⟨?_, ?_, ?_, ?_, ?_⟩
  · intro cs b e; rw [notSelect, e] at hns; cases hns
  · intro e he hb
    have := (Array.all_eq_true_iff_forall_mem.1 haf) e he
    simpa [hb] using this
  · intro him
    rw [if_pos him] at hd
    simp only [Bool.and_eq_true] at hd
    obtain ⟨⟨hg, hd⟩, hr⟩ := hd
    refine ⟨?_, ?_, ?_⟩
    · intro k b e; rw [e] at hg; simpa using hg
    · cases hdd : o.dst with
      | none => rw [hdd] at hd; cases hd
      | some t => rw [hdd] at hd; exact ⟨t, rfl, by simpa using hd⟩
    · intro t ht j oj hjm hj hjd
      have h2 := List.all_eq_true.1 hr t ht
      have := List.all_eq_true.1 h2 j (List.mem_range.2 hjm)
      simpa [hj, hjd] using this
  · intro him j hj
    rw [if_neg (by omega), if_pos him] at hd
    exact List.all_eq_true.1 hd j (List.mem_range.2 hj)
  · intro him
    rw [if_neg (by omega), if_neg (by omega)] at hd
    exact hd
structure RInvV (l : List Oper) (m : Nat) (a0 aE : Act) (w0 : World) (listed : Array Bool) (a : Act) (w : World) : Prop where
  df : a.defers = aE.defers
  sz : a.tmps.size = aE.tmps.size
  len : listed.size = l.length
  fr1 : ∀ (j : Nat) (o : Oper) (t : Nat), j < m → l[j]? = some o → o.dst = some t → listed.getD j false = true → a.tmps.getD t undef = aE.tmps.getD t undef
  fr0 : ∀ t : Nat, (∀ (j : Nat) (o : Oper), j < m → l[j]? = some o → o.dst = some t → listed.getD j false = false) → a.tmps.getD t undef = a0.tmps.getD t undef
  bl : Below w0.heap.size w0 w
  rest : ∀ j, m ≤ j → listed.getD j false = false
  dc : ∀ (i : Nat) (o : Oper), l[i]? = some o → listed.getD i false = true → ∀ e ∈ o.after, Region.binds .any e = true → listed.getD e.on false = true
/-- From the m-th on there is one order. -/
theorem any_tailV {P : Program} {Q : Exit → Act → World → Prop} {l : List Oper} {m N : Nat} (chk : viaChk l m N = true) : ∀ (fuel i : Nat) (listed : Array Bool) (a : Act) (W : World), m ≤ i → i ≤ l.length → listed.size = l.length →
    (∀ j, j < l.length → (listed.getD j false = true ↔ j < i)) → l.length - i ≤ fuel → wpList P l.toArray Q (l.drop i) a W → wpAny P .any l.toArray Q fuel listed a W := by
  intro fuel
  induction fuel with
  | zero =>
    intro i listed a W hmi hil hlen hls hf hw
    have hi : i = l.length := by omega
    subst hi
    refine ⟨?_, by rw [List.drop_length] at hw; exact hw⟩
    rw [List.eq_nil_iff_forall_not_mem]
    intro k hk
    obtain ⟨o, _, hkl, hk0, _⟩ := ready_mem hk hlen
    rw [(hls k hkl).2 hkl] at hk0; cases hk0
  | succ fuel ih =>
    intro i listed a W hmi hil hlen hls hf hw
    rcases Nat.lt_or_ge i l.length with hlt | hge
    · have hio : l[i]? = some l[i] := List.getElem?_eq_getElem hlt
      have hC := viaChk_at chk hio
      have hd : l.drop i = l[i] :: l.drop (i + 1) := List.drop_eq_getElem_cons hlt
      rw [hd] at hw
      refine ⟨fun hr => ?_, fun k hk => ?_⟩
      · exfalso
        have hmem : i ∈ Region.ready .any l.toArray listed := by
          rw [mem_ready]
          refine ⟨?_, l[i], by simp, fun e he hbd => (hls _ (by have := hC.2.1 e he hbd; omega)).2 (hC.2.1 e he hbd)⟩
          have h1 : i < listed.size := by omega
          have h2 : listed.getD i false = false := by
            cases hb : listed.getD i false with
            | false => rfl
            | true => exact absurd ((hls i hlt).1 hb) (Nat.lt_irrefl _)
          simpa [h1] using h2
        rw [hr] at hmem; cases hmem
      · obtain ⟨o, hko, hkl, hk0, hall⟩ := ready_mem hk hlen
        have hki : k = i := by
          rcases Nat.lt_trichotomy k i with h | h | h
          · rw [(hls k hkl).2 h] at hk0; cases hk0
          · exact h
          · obtain ⟨e, he, hb, hon⟩ := bindsTo_spec ((viaChk_at chk hko).2.2.2.2 (by omega))
            have := (hls (k - 1) (by omega)).1 (by rw [← hon]; exact hall e he hb)
            omega
        subst hki
        have heo : o = l[k] := by rw [hio] at hko; exact (Option.some.inj hko).symm
        subst heo
        have hk' : k < listed.size := by omega
        have step : ∀ a' W', wpList P l.toArray Q (l.drop (k + 1)) a' W' → wpAny P .any l.toArray Q fuel (listed.setIfInBounds k true) a' W' := by
          intro a' W' h
          refine ih (k + 1) _ a' W' (by omega) (by omega) (by simpa using hlen) (fun j hj => ?_) (by omega) h
          rw [getD_set _ _ _ hk']
          by_cases e : k = j
          · subst e; simp
          · rw [if_neg e, hls j hj]; omega
        unfold wpOp
        have hto : l.toArray[k]? = some l[k] := by simp
        simp only [hto]
        unfold wpList at hw
        split at hw
        · rename_i hwt
          rw [if_pos hwt]
          rcases hw with h | h
          · exact .inl (Oper.wp_mono step h)
          · exact .inr h
        · rename_i hwt
          rw [if_neg hwt]
          exact step _ _ hw
    · have hi : i = l.length := by omega
      subst hi
      rw [List.drop_length] at hw
      refine ⟨fun _ => hw, fun k hk => ?_⟩
      obtain ⟨o, _, hkl, hk0, _⟩ := ready_mem hk hlen
      rw [(hls k hkl).2 hkl] at hk0; cases hk0
section
variable {P : Program} {Q : Exit → Act → World → Prop} {l : List Oper} {a0 : Act} {w : World} {vs : List (Nat × Value)} {m : Nat}
theorem wp_region_via {id : Nat} (hm : P.follows .mixedOrders = true) (hml : m ≤ l.length)
    (chk : viaChk l m a0.tmps.size = true) (hkeys : vs.all (fun kv => (l.take m).any (·.dst == some kv.1)) = true)
    (hop : ∀ (i : Nat) (o : Oper) (t : Nat), i < m → l[i]? = some o → o.dst = some t → (Region.wanted o (yielded l.toArray (puts a0 vs).tmps) = true ∧ ∀ W, Below w.heap.size w W → calmAt P o (puts a0 vs).eval W ((puts a0 vs).tmps.getD t undef)) ∨ (Region.wanted o (yielded l.toArray (puts a0 vs).tmps) = false ∧ (puts a0 vs).tmps.getD t undef = undef))
    (hgd : ∀ (i : Nat) (o : Oper) (k : Nat) (b : Bool), i < m → l[i]? = some o → o.guard = some (k, b) → k < m)
    (hQ : ∀ W, Below w.heap.size w W → wpList P l.toArray Q (l.drop m) (puts a0 vs) W) :
    (Code.region id l.toArray true).wp P Q a0 w := by
  have hE : ∀ t, (∀ (j : Nat) (o : Oper), j < m → l[j]? = some o → o.dst ≠ some t) → a0.tmps.getD t undef = (puts a0 vs).tmps.getD t undef := by
    intro t hno
    refine (puts_other t vs a0 (fun kv hkv e => ?_)).symm
    have := List.all_eq_true.1 hkeys kv hkv
    obtain ⟨o, ho, hod⟩ := List.any_eq_true.1 this
    obtain ⟨j, hj, hjo⟩ := List.mem_take_iff_getElem.1 ho
    exact hno j o (by omega) (by rw [← hjo]; exact List.getElem?_eq_getElem (by omega)) (by rw [← e]; simpa using hod)
  have hEs : (puts a0 vs).tmps.size = a0.tmps.size := puts_size _ _
  have hEd : (puts a0 vs).defers = a0.defers := puts_defers _ _
  generalize puts a0 vs = aE at *
  refine wp_region_any hm ?_
  have key : ∀ (fuel : Nat) (listed : Array Bool) (a : Act) (W : World), RInvV l m a0 aE w listed a W →
      (List.range m).countP (fun i => !listed.getD i true) + (l.length - m) ≤ fuel → wpAny P .any l.toArray Q fuel listed a W := by
    intro fuel
    have fin : ∀ (fuel : Nat) (listed : Array Bool) (a : Act) (W : World), RInvV l m a0 aE w listed a W → (∀ j, j < m → listed.getD j false = true) → l.length - m ≤ fuel → wpAny P .any l.toArray Q fuel listed a W := by
      intro fuel listed a W hI hall hf
      have ea : a = aE := by
        refine act_ext _ _ hI.df hI.sz (fun t ht => ?_)
        · by_cases hw : ∃ (j : Nat) (o : Oper), j < m ∧ l[j]? = some o ∧ o.dst = some t
          · obtain ⟨j, o, hjm, hj, ho⟩ := hw
            exact hI.fr1 j o t hjm hj ho (hall j hjm)
          · rw [hI.fr0 t (fun j o hjm hj ho => (hw ⟨j, o, hjm, hj, ho⟩).elim)]
            exact hE t (fun j o hjm hj ho => hw ⟨j, o, hjm, hj, ho⟩)
      subst ea
      refine any_tailV chk fuel m listed a W (Nat.le_refl _) hml hI.len (fun j hj => ⟨fun h => ?_, fun h => hall j h⟩) hf (hQ W hI.bl)
      rcases Nat.lt_or_ge j m with h2 | h2
      · exact h2
      · rw [hI.rest j h2] at h; cases h
    -- what an operation that may come up reads is at hand
    have look : ∀ (listed : Array Bool) (a : Act) (W : World), RInvV l m a0 aE w listed a W → ∀ (i : Nat) (o : Oper), i < m → l[i]? = some o →
        (∀ e ∈ o.after, Region.binds .any e = true → listed.getD e.on false = true) → ∀ t ∈ readsOf o, a.tmps.getD t undef = aE.tmps.getD t undef := by
      intro listed a W hI i o him hi hall t ht
      have h := ((viaChk_at chk hi).2.2.1 him).2.2 t ht
      · by_cases hw : ∃ (j : Nat) (oj : Oper), j < m ∧ l[j]? = some oj ∧ oj.dst = some t
        · obtain ⟨j, oj, hjm, hj, hjd⟩ := hw
          obtain ⟨e, he, hb, hon⟩ := bindsTo_spec (h j oj hjm hj hjd)
          exact hI.fr1 j oj t hjm hj hjd (by rw [← hon]; exact hall e he hb)
        · rw [hI.fr0 t (fun j oj hjm hj ho => (hw ⟨j, oj, hjm, hj, ho⟩).elim)]
          exact hE t (fun j oj hjm hj ho => hw ⟨j, oj, hjm, hj, ho⟩)
    induction fuel with
    | zero =>
      intro listed a W hI hc
      refine fin 0 listed a W hI (fun j hj => ?_) (by omega)
      have h0 : (List.range m).countP (fun i => !listed.getD i true) = 0 := by omega
      rw [List.countP_eq_zero] at h0
      have := h0 j (List.mem_range.2 hj)
      have hj' : j < listed.size := by rw [hI.len]; omega
      simpa [hj'] using this
    | succ fuel ih =>
      intro listed a W hI hc
      by_cases hall : ∀ j, j < m → listed.getD j false = true
      · exact fin _ listed a W hI hall (by omega)
      · have hno : ∀ i, i ∈ Region.ready .any l.toArray listed → i < m := by
          intro i hi
          rcases Nat.lt_or_ge i m with h | h
          · exact h
          · exfalso
            obtain ⟨o, hio, hil, hi0, ha⟩ := ready_mem hi hI.len
            rcases Nat.eq_or_lt_of_le h with h2 | h2
            · refine hall (fun j hj => ?_)
              exact reach_listed hI.dc _ i j o hio ha ((viaChk_at chk hio).2.2.2.1 h2.symm j hj)
            · obtain ⟨e, he, hb, hon⟩ := bindsTo_spec ((viaChk_at chk hio).2.2.2.2 h2)
              have h3 := ha e he hb
              rw [hon, hI.rest (i - 1) (by omega)] at h3; cases h3
        refine ⟨fun hr => ?_, fun i hi => ?_⟩
        · exfalso
          have all : ∀ i, i < l.length → listed.getD i false = true := by
            intro i
            induction i using Nat.strongRecOn with
            | _ i ih2 =>
              intro hi
              cases hb : listed.getD i false with
              | true => rfl
              | false =>
                exfalso
                have ho : l[i]? = some l[i] := List.getElem?_eq_getElem hi
                have hmem : i ∈ Region.ready .any l.toArray listed := by
                  rw [mem_ready]
                  refine ⟨?_, l[i], by simp, fun e he hbd => ?_⟩
                  · have : i < listed.size := by have := hI.len; omega
                    simp [this] at hb ⊢; exact hb
                  · exact ih2 e.on ((viaChk_at chk ho).2.1 e he hbd) (by have := (viaChk_at chk ho).2.1 e he hbd; omega)
                rw [hr] at hmem; cases hmem
          exact hall (fun j hj => all j (by omega))
        · have him := hno i hi
          obtain ⟨o, hio, hil, hi0, hal⟩ := ready_mem hi hI.len
          have hil' : i < listed.size := by rw [hI.len]; exact hil
          have ho : l.toArray[i]? = some o := by simpa using hio
          have hC := viaChk_at chk hio
          have hCm := hC.2.2.1 him
          obtain ⟨t, hdst, htN⟩ := hCm.2.1
          have hwe : Region.wanted o (yielded l.toArray a.tmps) = Region.wanted o (yielded l.toArray aE.tmps) := by
            unfold Region.wanted
            cases hg : o.guard with
            | none => rfl
            | some kb =>
              obtain ⟨k, b⟩ := kb
              obtain ⟨e, he, hb, hon⟩ := bindsTo_spec (hCm.1 k b hg)
              have : yielded l.toArray a.tmps k = yielded l.toArray aE.tmps k := yielded_congr hI.sz (fun ok tk hk hd => hI.fr1 k ok tk (hgd i o k b him hio hg) (by simpa using hk) hd (by rw [← hon]; exact hal e he hb))
              simp only [this]
          have hcnt : (List.range m).countP (fun j => !(listed.setIfInBounds i true).getD j true) + (l.length - m) ≤ fuel := by
            have := count_lt (fun j => !listed.getD j true) (fun j => !(listed.setIfInBounds i true).getD j true) (fun j hj => by
                by_cases e : i = j
                · subst e; simp [hil'] at hj
                · rw [getD_set_ne true e] at hj; exact hj) i (by simpa [hil'] using hi0) (by simp [hil']) (List.range m) (List.mem_range.2 him)
            omega
          have step : ∀ W', Below w.heap.size w W' → wpAny P .any l.toArray Q fuel (listed.setIfInBounds i true) (a.put (some t) (aE.tmps.getD t undef)) W' := by
            intro W' hW'
            refine ih _ _ _ ⟨by rw [put_defers]; exact hI.df, by rw [put_size]; exact hI.sz, by simpa using hI.len, ?_, ?_, hW', ?_, ?_⟩ hcnt
            · intro j oj u hjm hj hjd hl
              by_cases htu : t = u
              · subst htu; rw [put_get_same _ _ _ (by rw [hI.sz, hEs]; exact htN)]
              · rw [put_get_ne _ _ _ _ htu]
                rw [getD_set _ _ _ hil'] at hl
                by_cases e : i = j
                · subst e; rw [hio] at hj; obtain rfl := Option.some.inj hj; rw [hdst] at hjd; exact (htu (Option.some.inj hjd)).elim
                · rw [if_neg e] at hl; exact hI.fr1 j oj u hjm hj hjd hl
            · intro u hnu
              have htu : t ≠ u := fun e => by
                subst e
                have := hnu i o him hio hdst
                rw [getD_set _ _ _ hil', if_pos rfl] at this; cases this
              rw [put_get_ne _ _ _ _ htu]
              refine hI.fr0 u (fun j oj hjm hj hjd => ?_)
              have := hnu j oj hjm hj hjd
              rw [getD_set _ _ _ hil'] at this
              by_cases e : i = j
              · rw [if_pos e] at this; cases this
              · rw [if_neg e] at this; exact this
            · intro j hj
              rw [getD_set _ _ _ hil', if_neg (by omega)]; exact hI.rest j hj
            · intro j oj hj hl e he hb
              rw [getD_set _ _ _ hil']
              by_cases ei : i = e.on
              · rw [if_pos ei]
              · rw [if_neg ei]
                rw [getD_set _ _ _ hil'] at hl
                by_cases ej : i = j
                · subst ej; rw [hio] at hj; obtain rfl := Option.some.inj hj; exact hal e he hb
                · rw [if_neg ej] at hl; exact hI.dc j oj hj hl e he hb
          unfold wpOp
          simp only [ho]
          rcases hop i o t him hio hdst with ⟨hw, hcalm⟩ | ⟨hw, hun⟩
          · rw [hwe, hw]
            simp only [if_true]
            refine .inl ?_
            have heq : execOp aE.eval o = execOp a.eval o := execOp_congr o hC.1 (fun x hx => by
                cases x with
                | tmp u =>
                  have hu : u ∈ readsOf o := List.mem_filterMap.2 ⟨.tmp u, by simpa using hx, rfl⟩
                  exact (look listed a W hI i o him hio hal u hu).symm
                | _ => rfl)
            have hcalm' : calmAt P o a.eval W (aE.tmps.getD t undef) := by
                refine ⟨?_⟩; have hh := (hcalm W hI.bl).out; unfold calmRun at hh ⊢; rw [← heq]; exact hh
            refine wp_of_calm hcalm' (fun W' hb => ?_)
            rw [hdst]
            exact step W' (below_tr' hI.bl hb)
          · rw [hwe, hw]
            simp only [Bool.false_eq_true, if_false, hdst]
            rw [hun] at step
            exact step W hI.bl
  refine key _ _ _ _ ⟨by rw [hEd], hEs.symm, by simp, ?_, ?_, ⟨rfl, rfl, rfl, Nat.le_refl _, fun _ _ => rfl⟩, ?_, ?_⟩ ?_
  · intro j o t _ hj hjd hl; rw [rep_false] at hl; cases hl
  · intro t _; rfl
  · intro j _; exact rep_false _ _
  · intro j o _ hl; rw [rep_false] at hl; cases hl
  · have : (List.range m).countP (fun i => !(Array.replicate l.toArray.size false).getD i true) ≤ m := Nat.le_trans List.countP_le_length (by simp)
    simp at this ⊢; omega
theorem region_via {id : Nat} (m : Nat) (vs : List (Nat × Value)) (hm : P.follows .mixedOrders = true) (hml : m ≤ l.length)
    (chk : viaChk l m a0.tmps.size = true) (hgd : guardsIn l m = true) (hkeys : vs.all (fun kv => (l.take m).any (·.dst == some kv.1)) = true)
    (H : ∀ aE, puts a0 vs = aE → AllBut (CalmG P aE w l) l.length l.length 0 (l.take m) ∧ ∀ W, Below w.heap.size w W → wpList P l.toArray Q (l.drop m) aE W) :
    (Code.region id l.toArray true).wp P Q a0 w := by
  obtain ⟨h2, h3⟩ := H _ rfl
  refine wp_region_via hm hml chk hkeys (fun i o t him hi hd => ?_) (fun i o k b him hi hg => guardsIn_at hgd him hi hg) h3
  have hlt : i < l.length := (List.getElem?_eq_some_iff.1 hi).1
  exact AllBut.spec (l.take m) 0 h2 i o (by rw [List.getElem?_take_of_lt him]; exact hi) (by omega) (by omega) t hd
end
end Go.Proofs.Ythkbhaaodegocaa
/- The first desk: both makings. -/
namespace Go.Proofs.Ythkbhaaodegocaa
open Go.RowKit
set_option linter.unusedVariables false
set_option linter.unusedSimpArgs false
theorem run_loadRow {P : Program} {W : World} {g : Nat} {T : TypeId} {cs : Array Value} {fr : Nat × Nat} (ty : TypeId)
    (hg : W.heap[g]? = some (.cells cs T fr)) (n : Nat) (hn : cs.size = n) (hs : ∀ W, (sizeOf ty).run P W = .ok n W) (ha : ∀ W, (isAgg ty).run P W = .ok true W) : (loadVar ty ⟨g, 0, none⟩).run P W = .ok (.agg cs) W := by
  subst hn
  have hl : (loadCells ⟨g, 0, none⟩ cs.toList.length).run P W = .ok cs.toList.toArray W :=
    run_loadCells_list (P := P) W ⟨g, 0, none⟩ cs.toList (fun j v hv => by
      have hadd : (⟨g, 0, none⟩ : Addr).add j = ⟨g, j, none⟩ := by unfold Addr.add; split <;> simp_all
      rw [hadd, cell_of_row W g j cs T fr hg]
      simpa using hv)
  simp only [Array.length_toList, Array.toArray_toList] at hl
  unfold loadVar
  rw [Sem.run_bind, ha]
  simp only [Result.andThen_ok, if_true]
  rw [Sem.run_bind, hs]
  simp only [Result.andThen_ok]
  rw [Sem.run_bind, hl]
  rfl
theorem results_row {P : Program} {fn : Func} {tmps : Array Value} {t : Tmp} {W : World} {g : Nat} {T : TypeId} {cs : Array Value} {fr : Nat × Nat} {ty : TypeId} (h : fn.results = #[.cell t ty]) (ht : tmps.getD t undef = .pointer (some ⟨g, 0, none⟩))
    (hg : W.heap[g]? = some (.cells cs T fr)) (n : Nat) (hn : cs.size = n) (hs : ∀ W, (sizeOf ty).run P W = .ok n W) (ha : ∀ W, (isAgg ty).run P W = .ok true W) : (results fn tmps).run P W = .ok (.agg cs) W := by
  have hv := run_loadRow (P := P) ty hg n hn hs ha
  have ht' : tmps[t]?.getD undef = .pointer (some ⟨g, 0, none⟩) := by rw [← Array.getD_eq_getD_getElem?]; exact ht
  have hp : ∀ a : Addr, asAddr (.pointer (some a)) = pure a := fun _ => rfl
  simp [results, h, ht', hp, Sem.run_bind, Sem.run_pure, hv]
theorem wpList_store_row {P : Program} (w : World) {ops : Array Oper} {rest : List Oper} {o : Oper} {a : Act} {Q : Exit → Act → World → Prop}
    (hgd : o.guard = none) (ty : TypeId) (x y : Operand) (hop : o.op = .store ty x y) (hd : o.dst = none) {g : Nat} {T : TypeId} {cs U : Array Value} (hx : a.eval x = .pointer (some ⟨g, 0, none⟩)) (hy : a.eval y = .agg U)
    (hg : w.heap[g]? = some (.cells cs T (0, 0))) (hn : cs.size = U.size) (hs : ∀ W, (sizeOf ty).run P W = .ok U.size W) (h1 : ∀ v ∈ U.toList, v.oneCell' = true) (hK : wpList P ops Q rest a (w.setRow g U)) : wpList P ops Q (o :: rest) a w := by
  refine wpList_plain hgd fun K hK' => ?_
  unfold Oper.wp
  rw [run_store_row ty x y hop hx hy hg hn hs h1]
  simp only [Oper.upon, hd]
  exact hK' _ _ hK
theorem wpList_build {P : Program} (w : World) {ops : Array Oper} {rest : List Oper} {o : Oper} {a : Act} {Q : Exit → Act → World → Prop}
    (hgd : o.guard = none) (t : TypeId) (parts : Array (Nat × Operand)) (hop : o.op = .build t parts) (U : Array Value) (hb : P.built t (parts.map fun (i, x) => (i, a.eval x)).toList = some U)
    (hK : wpList P ops Q rest (a.put o.dst (.agg U)) w) : wpList P ops Q (o :: rest) a w := by
  refine wpList_plain hgd fun K hK' => wp_build t parts hop (by rw [hb]; rfl) ?_
  rw [hb]
  exact hK' _ _ hK
theorem hn_atN (w : World) (o : Obj) (n : Nat) (h : n = w.heap.size) : (w.alloc o).heap[n]? = some o := by subst h; exact heap_alloc_new w o
theorem hn_pastN (w : World) (o : Obj) (n : Nat) (h : n < w.heap.size) : (w.alloc o).heap[n]? = w.heap[n]? := by
  rw [heap_alloc_old]; exact h
theorem below_setRowN {B g : Nat} {w W : World} (h : Below B w W) (hg : B ≤ g) (cs : Array Value) : Below B w (W.setRow g cs) :=
  ⟨h.os, h.tape, h.output, by simpa [World.setRow] using h.size, fun k hk => (setRow_other W g k cs (by omega)).trans (h.block k hk)⟩
def deskC : Array Value := #[.int .i64 5, .int .i64 0, .int .i64 0, .int .i64 1, .int .i64 1, .int .i64 0, .int .i64 0, .int .i64 0, .int .i64 1, .int .i64 0, .int .i64 0, .int .i64 0, .int .i64 1, .int .i64 1, .int .i64 0, .int .i64 0, .int .i64 1, .int .i64 0, .int .i64 0, .int .i64 0, .int .i64 0, .int .i64 4]
theorem l11Fresh_5 (w : World) : Calls Try.prog 59 #[.int .i64 5] w (Ret w (.agg deskC)) := by
  go_enter Try.func59, Try.ntmps59
  go_wp2_with (first
    | (refine wpList_build _ rfl 30 _ rfl deskC (by kernel_rfl) ?_)
    | (refine wpList_store_row _ rfl 30 _ _ rfl rfl rfl rfl (heap_alloc_new _ _) rfl Try.sizeOf30 (by simp [deskC, Value.oneCell']) ?_))
  exact bodyPost_ret (v := .agg deskC) (results_row Try.results59 rfl (setRow_heap _ _ _ _ _ _ (heap_alloc_new _ _)) 22 rfl Try.sizeOf30 Try.isAgg30) rfl ⟨rfl, below_setRowN (bal (Below.refl _ _) _) (Nat.le_refl _) _⟩
def conC : Array Value := #[.int .i64 1, .int .i64 0, .int .i64 0, .int .i64 0, .int .i64 0, .int .i64 4]
theorem freshConic_5 (w : World) : Calls Try.prog 124 #[.int .i64 5] w (Ret w (.agg conC)) := by
  go_enter Try.func124, Try.ntmps124
  go_wp2_with (first
    | (refine wpList_build _ rfl 28 _ rfl conC (by kernel_rfl) ?_)
    | (refine wpList_store_row _ rfl 28 _ _ rfl rfl rfl rfl (heap_alloc_new _ _) rfl Try.sizeOf28 (by simp [conC, Value.oneCell']) ?_))
  exact bodyPost_ret (v := .agg conC) (results_row Try.results124 rfl (setRow_heap _ _ _ _ _ _ (heap_alloc_new _ _)) 6 rfl Try.sizeOf28 Try.isAgg28) rfl ⟨rfl, below_setRowN (bal (Below.refl _ _) _) (Nat.le_refl _) _⟩
theorem freshDesk_5 (w : World) : Calls Try.prog 60 #[.int .i64 5] w (Ret w (.agg deskC)) := by
  go_enter Try.func60, Try.ntmps60
  go_wp2_with (first
    | (refine wpList_build _ rfl 30 _ rfl deskC (by kernel_rfl) ?_)
    | (go_at_call 93; (with_reducible refine (far_any _).mono ?_); rintro e w1_ ⟨rfl, hb1⟩; obtain ⟨hcb1, hfb1, hlb1⟩ := bcell hb1; have hsz1 := hb1.size; (try simp at hsz1); have HB1 := Lib.hid hb1; clear hb1; (try (have hl01 : w.heap.size < w1_.heap.size := by omega)))
    | (go_at_call 124; (with_reducible refine (freshConic_5 _).mono ?_); rintro e w2_ ⟨rfl, hb2⟩; obtain ⟨hcb2, hfb2, hlb2⟩ := bcell hb2; have hsz2 := hb2.size; (try simp at hsz2); have HB2 := Lib.hid hb2; clear hb2; (try (have hl02 : w.heap.size < w2_.heap.size := by omega)))
    | (refine wpList_store_row _ rfl 30 _ _ rfl rfl (g := w.heap.size) (T := 30) (cs := #[.int .i64 0, .int .i64 0, .int .i64 0, .int .i64 0, .int .i64 0, .int .i64 0, .int .i64 0, .int .i64 0, .int .i64 0, .int .i64 0, .int .i64 0, .int .i64 0, .int .i64 0, .int .i64 0, .int .i64 0, .int .i64 0, .int .i64 0, .int .i64 0, .int .i64 0, .int .i64 0, .int .i64 0, .int .i64 0]) (U := deskC) rfl rfl (by rw [HB2.out.block _ (by omega), HB1.out.block _ (by simp), hn_atN _ _ _ (by simp)]) rfl Try.sizeOf30 (by simp [deskC, Value.oneCell']) ?_))
  have hr : w2_.heap[w.heap.size]? = some (.cells #[.int .i64 0, .int .i64 0, .int .i64 0, .int .i64 0, .int .i64 0, .int .i64 0, .int .i64 0, .int .i64 0, .int .i64 0, .int .i64 0, .int .i64 0, .int .i64 0, .int .i64 0, .int .i64 0, .int .i64 0, .int .i64 0, .int .i64 0, .int .i64 0, .int .i64 0, .int .i64 0, .int .i64 0, .int .i64 0] 30 (0, 0)) := by rw [HB2.out.block _ (by omega), HB1.out.block _ (by simp), hn_atN _ _ _ (by simp)]
  exact bodyPost_ret (v := .agg deskC) (results_row Try.results60 rfl (setRow_heap _ _ _ _ _ _ hr) 22 rfl Try.sizeOf30 Try.isAgg30) rfl ⟨rfl, below_setRowN (by repeat (first | exact Below.refl _ _ | refine bset ?_ _ _ (by omega) _ | refine bal ?_ _ | refine bdrN ?_ _ | refine bdr ?_ | refine below_tr' ?_ HB2.out | refine below_tr' ?_ HB1.out)) (Nat.le_refl _) _⟩
theorem NewDesk_spec (w : World) : Calls Try.prog 15 #[] w (Ret w (.agg deskC)) := by
  go_enter Try.func15, Try.ntmps15
  go_wp2_with (first
    | (go_at_call 59; (with_reducible refine (l11Fresh_5 _).mono ?_); rintro e w1_ ⟨rfl, hb1⟩; obtain ⟨hcb1, hfb1, hlb1⟩ := bcell hb1; have hsz1 := hb1.size; (try simp at hsz1); have HB1 := Lib.hid hb1; clear hb1; (try (have hl01 : w.heap.size < w1_.heap.size := by omega)))
    | (refine wpList_store_row _ rfl 30 _ _ rfl rfl (g := w.heap.size) (T := 30) (cs := #[.int .i64 0, .int .i64 0, .int .i64 0, .int .i64 0, .int .i64 0, .int .i64 0, .int .i64 0, .int .i64 0, .int .i64 0, .int .i64 0, .int .i64 0, .int .i64 0, .int .i64 0, .int .i64 0, .int .i64 0, .int .i64 0, .int .i64 0, .int .i64 0, .int .i64 0, .int .i64 0, .int .i64 0, .int .i64 0]) (U := deskC) rfl rfl (by rw [HB1.out.block _ (by simp), hn_atN _ _ _ (by simp)]) rfl Try.sizeOf30 (by simp [deskC, Value.oneCell']) ?_))
  have hr : w1_.heap[w.heap.size]? = some (.cells #[.int .i64 0, .int .i64 0, .int .i64 0, .int .i64 0, .int .i64 0, .int .i64 0, .int .i64 0, .int .i64 0, .int .i64 0, .int .i64 0, .int .i64 0, .int .i64 0, .int .i64 0, .int .i64 0, .int .i64 0, .int .i64 0, .int .i64 0, .int .i64 0, .int .i64 0, .int .i64 0, .int .i64 0, .int .i64 0] 30 (0, 0)) := by rw [HB1.out.block _ (by simp), hn_atN _ _ _ (by simp)]
  exact bodyPost_ret (v := .agg deskC) (results_row Try.results15 rfl (setRow_heap _ _ _ _ _ _ hr) 22 rfl Try.sizeOf30 Try.isAgg30) rfl ⟨rfl, below_setRowN (by repeat (first | exact Below.refl _ _ | refine bset ?_ _ _ (by omega) _ | refine bal ?_ _ | refine bdrN ?_ _ | refine bdr ?_ | refine below_tr' ?_ HB1.out)) (Nat.le_refl _) _⟩
theorem NewDesk_impl (w : World) : Calls Try.prog 16 #[] w (Ret w (.agg deskC)) := by
  go_enter Try.func16, Try.ntmps16
  go_wp2_with (first
    | (go_at_call 60; (with_reducible refine (freshDesk_5 _).mono ?_); rintro e w1_ ⟨rfl, hb1⟩; obtain ⟨hcb1, hfb1, hlb1⟩ := bcell hb1; have hsz1 := hb1.size; (try simp at hsz1); have HB1 := Lib.hid hb1; clear hb1; (try (have hl01 : w.heap.size < w1_.heap.size := by omega)))
    | (refine wpList_store_row _ rfl 30 _ _ rfl rfl (g := w.heap.size) (T := 30) (cs := #[.int .i64 0, .int .i64 0, .int .i64 0, .int .i64 0, .int .i64 0, .int .i64 0, .int .i64 0, .int .i64 0, .int .i64 0, .int .i64 0, .int .i64 0, .int .i64 0, .int .i64 0, .int .i64 0, .int .i64 0, .int .i64 0, .int .i64 0, .int .i64 0, .int .i64 0, .int .i64 0, .int .i64 0, .int .i64 0]) (U := deskC) rfl rfl (by rw [HB1.out.block _ (by simp), hn_atN _ _ _ (by simp)]) rfl Try.sizeOf30 (by simp [deskC, Value.oneCell']) ?_))
  have hr : w1_.heap[w.heap.size]? = some (.cells #[.int .i64 0, .int .i64 0, .int .i64 0, .int .i64 0, .int .i64 0, .int .i64 0, .int .i64 0, .int .i64 0, .int .i64 0, .int .i64 0, .int .i64 0, .int .i64 0, .int .i64 0, .int .i64 0, .int .i64 0, .int .i64 0, .int .i64 0, .int .i64 0, .int .i64 0, .int .i64 0, .int .i64 0, .int .i64 0] 30 (0, 0)) := by rw [HB1.out.block _ (by simp), hn_atN _ _ _ (by simp)]
  exact bodyPost_ret (v := .agg deskC) (results_row Try.results16 rfl (setRow_heap _ _ _ _ _ _ hr) 22 rfl Try.sizeOf30 Try.isAgg30) rfl ⟨rfl, below_setRowN (by repeat (first | exact Below.refl _ _ | refine bset ?_ _ _ (by omega) _ | refine bal ?_ _ | refine bdrN ?_ _ | refine bdr ?_ | refine below_tr' ?_ HB1.out)) (Nat.le_refl _) _⟩
end Go.Proofs.Ythkbhaaodegocaa
/- The desks compared. -/
namespace Go.Proofs.Ythkbhaaodegocaa
open Go.RowKit
set_option linter.unusedVariables false
set_option linter.unusedSimpArgs false
theorem eqInt64A3_same (x y z : Int) (w : World) :
    Calls Try.prog 88 #[ptV x y z, ptV x y z] w (Ret w (.bool true)) := by
  go_enter Try.func88, Try.ntmps88
  go_wp2
  refine wp_loop_rounds 4 ?_
  iterate 3 (rw [rounds_succ]; go_wp2; go_quiet (fail); go_wp2)
  rw [rounds_succ]; go_wp2
  go_ret
  exact ⟨rfl, by repeat (first | exact Below.refl _ _ | refine bal ?_ _ | refine bdrN ?_ _ | refine bdr ?_)⟩
set_option maxHeartbeats 2000000 in
theorem eqConic_same (x0 x1 x2 x3 x4 x5 : Int) (w : World) :
    Calls Try.prog 61 #[.agg #[.int .i64 x0, .int .i64 x1, .int .i64 x2, .int .i64 x3, .int .i64 x4, .int .i64 x5], .agg #[.int .i64 x0, .int .i64 x1, .int .i64 x2, .int .i64 x3, .int .i64 x4, .int .i64 x5]] w (Ret w (.bool true)) := by
  go_enter Try.func61, Try.ntmps61
  go_wp2
  refine wp_loop_rounds 7 ?_
  iterate 6 (rw [rounds_succ]; go_wp2; go_quiet (fail); go_wp2)
  rw [rounds_succ]; go_wp2
  go_ret
  exact ⟨rfl, by repeat (first | exact Below.refl _ _ | refine bal ?_ _ | refine bdrN ?_ _ | refine bdr ?_)⟩
theorem calm_loadPt' {P : Program} {o : Oper} {ρ : Operand → Value} {W : World} {g off : Nat} {x y z : Int} (ty : TypeId) (q : Operand) (ho : o.op = .load ty q) (hx : ρ q = .pointer (some ⟨g, off, none⟩))
    (h0 : W.cell? ⟨g, off, none⟩ = some (.int .i64 x)) (h1 : W.cell? ⟨g, off + 1, none⟩ = some (.int .i64 y)) (h2 : W.cell? ⟨g, off + 2, none⟩ = some (.int .i64 z)) (hs : ∀ W, (sizeOf ty).run P W = .ok 3 W) (ha : ∀ W, (isAgg ty).run P W = .ok true W) : calmAt P o ρ W (ptV x y z) := by
  have hl : (loadCells ⟨g, off, none⟩ 3).run P W = .ok #[.int .i64 x, .int .i64 y, .int .i64 z] W :=
    run_loadCells_list (P := P) W ⟨g, off, none⟩ [.int .i64 x, .int .i64 y, .int .i64 z] (fun j v hv => by
      have hadd : ∀ j, (⟨g, off, none⟩ : Addr).add j = ⟨g, off + j, none⟩ := by intro j; unfold Addr.add; split <;> simp_all
      rw [hadd]
      match j, hv with
      | 0, hv => simpa using h0.trans (by simpa using hv)
      | 1, hv => exact h1.trans (by simpa using hv)
      | 2, hv => exact h2.trans (by simpa using hv)
      | j + 3, hv => simp at hv)
  have hv : (loadVar ty ⟨g, off, none⟩).run P W = .ok (ptV x y z) W := by
    unfold loadVar
    rw [Sem.run_bind, ha]
    simp only [Result.andThen_ok, if_true]
    rw [Sem.run_bind, hs]
    simp only [Result.andThen_ok]
    rw [Sem.run_bind, hl]
    rfl
  refine ⟨?_⟩
  unfold calmRun execOp
  simp only [ho, hx, Instr.loadAt, Instr.sureAddr, Sem.run_bind, Sem.run_pure, Result.andThen_ok, hv, and_self]
set_option maxHeartbeats 2000000 in
theorem eqMap_same (x0 x1 x2 x3 x4 x5 x6 x7 x8 : Int) (w : World) :
    Calls Try.prog 29 #[.agg #[.int .i64 x0, .int .i64 x1, .int .i64 x2, .int .i64 x3, .int .i64 x4, .int .i64 x5, .int .i64 x6, .int .i64 x7, .int .i64 x8], .agg #[.int .i64 x0, .int .i64 x1, .int .i64 x2, .int .i64 x3, .int .i64 x4, .int .i64 x5, .int .i64 x6, .int .i64 x7, .int .i64 x8]] w (Ret w (.bool true)) := by
  go_enter Try.func29, Try.ntmps29
  go_wp2
  go_loopw [5] (fun i wr => ∃ k : Nat, k ≤ 3 ∧ i = .int .i64 k ∧ Hid (Below ((w.alloc (.cells #[.int .i64 x0, .int .i64 x1, .int .i64 x2, .int .i64 x3, .int .i64 x4, .int .i64 x5, .int .i64 x6, .int .i64 x7, .int .i64 x8] 26)).alloc (.cells #[.int .i64 x0, .int .i64 x1, .int .i64 x2, .int .i64 x3, .int .i64 x4, .int .i64 x5, .int .i64 x6, .int .i64 x7, .int .i64 x8] 26)).heap.size ((w.alloc (.cells #[.int .i64 x0, .int .i64 x1, .int .i64 x2, .int .i64 x3, .int .i64 x4, .int .i64 x5, .int .i64 x6, .int .i64 x7, .int .i64 x8] 26)).alloc (.cells #[.int .i64 x0, .int .i64 x1, .int .i64 x2, .int .i64 x3, .int .i64 x4, .int .i64 x5, .int .i64 x6, .int .i64 x7, .int .i64 x8] 26)) wr)) (fun i wr => 3 - (intOf i).toNat)
  case atStart => exact ⟨0, by omega, rfl, Lib.hid (Below.refl _ _)⟩
  case round =>
    obtain ⟨k, hk, rfl, HB⟩ := hrel
    rcases (show k = 0 ∨ k = 1 ∨ k = 2 ∨ k = 3 by omega) with rfl | rfl | rfl | rfl
    · clear hk
      have k0 : wr.heap[w.heap.size]? = some (.cells #[.int .i64 x0, .int .i64 x1, .int .i64 x2, .int .i64 x3, .int .i64 x4, .int .i64 x5, .int .i64 x6, .int .i64 x7, .int .i64 x8] 26 (0, 0)) := by rw [HB.out.block _ (by first | (simp; done) | (simp; omega)), hn_pastN _ _ _ (by first | (simp; done) | (simp; omega)), hn_atN _ _ _ (by simp)]
      have k1 : wr.heap[w.heap.size + 1]? = some (.cells #[.int .i64 x0, .int .i64 x1, .int .i64 x2, .int .i64 x3, .int .i64 x4, .int .i64 x5, .int .i64 x6, .int .i64 x7, .int .i64 x8] 26 (0, 0)) := by rw [HB.out.block _ (by first | (simp; done) | (simp; omega)), hn_atN _ _ _ (by simp)]
      have l0 := (Array.getElem?_eq_some_iff.1 k0).1
      have l1 := (Array.getElem?_eq_some_iff.1 k1).1
      go_wp2
      refine region_calm [(10, .int .i64 0), (11, .pointer (some ⟨w.heap.size, 0, none⟩)), (12, ptV x0 x1 x2), (13, .int .i64 0), (14, .pointer (some ⟨w.heap.size + 1, 0, none⟩)), (15, ptV x0 x1 x2), (16, .bool true), (17, .bool false)] (by kernel_rfl) (by kernel_rfl) (by kernel_rfl) (fun aE hpe => ?_)
      simp only [puts, Act.put, List.setIfInBounds_toArray, List.set_cons_zero, List.set_cons_succ] at hpe
      subst hpe
      refine ⟨⟨.inr (.inr ?_), .inr (.inr ?_), .inr (.inr ?_), .inr (.inr ?_), .inr (.inr ?_), .inr (.inr ?_), .inr (.inr ?_), .inr (.inr ?_), trivial⟩, ?_⟩
      · exact Calm.mk 10 (.int .i64 0) rfl rfl (fun W _ => calm_move (.tmp 5) rfl rfl)
      · exact Calm.mk 11 (.pointer (some ⟨w.heap.size, 0, none⟩)) rfl rfl (fun W _ => calm_run (by simp [execOp, Act.eval, go_sem]))
      · exact Calm.mk 12 (ptV x0 x1 x2) rfl rfl (fun W hW => calm_loadPt' 22 (.tmp 11) rfl rfl (by rw [cell_of_row W _ 0 _ _ _ (by rw [hW.block _ l0]; exact k0)]; rfl) (by rw [cell_of_row W _ 1 _ _ _ (by rw [hW.block _ l0]; exact k0)]; rfl) (by rw [cell_of_row W _ 2 _ _ _ (by rw [hW.block _ l0]; exact k0)]; rfl) Try.sizeOf22 Try.isAgg22)
      · exact Calm.mk 13 (.int .i64 0) rfl rfl (fun W _ => calm_move (.tmp 5) rfl rfl)
      · exact Calm.mk 14 (.pointer (some ⟨w.heap.size + 1, 0, none⟩)) rfl rfl (fun W _ => calm_run (by simp [execOp, Act.eval, go_sem]))
      · exact Calm.mk 15 (ptV x0 x1 x2) rfl rfl (fun W hW => calm_loadPt' 22 (.tmp 14) rfl rfl (by rw [cell_of_row W _ 0 _ _ _ (by rw [hW.block _ l1]; exact k1)]; rfl) (by rw [cell_of_row W _ 1 _ _ _ (by rw [hW.block _ l1]; exact k1)]; rfl) (by rw [cell_of_row W _ 2 _ _ _ (by rw [hW.block _ l1]; exact k1)]; rfl) Try.sizeOf22 Try.isAgg22)
      · exact Calm.mk 16 (.bool true) rfl rfl (fun W hW => calm_call 88 _ #[ptV x0 x1 x2, ptV x0 x1 x2] rfl rfl rfl (by simp [Act.eval]) (Try.call88 _ _) (eqInt64A3_same x0 x1 x2 W))
      · exact Calm.mk 17 (.bool false) rfl rfl (fun W hW => calm_run (by simp [execOp, Act.eval, go_sem]))
      intro W2 hW2
      have HB2 := Lib.hid (below_tr HB.out HB.out.size hW2)
      clear HB k0 k1 l0 l1 hW2
      go_wp2
      go_roundw
      case rel => exact ⟨1, by omega, rfl, HB2⟩
      case measure => simp [intOf]
    · clear hk
      have k0 : wr.heap[w.heap.size]? = some (.cells #[.int .i64 x0, .int .i64 x1, .int .i64 x2, .int .i64 x3, .int .i64 x4, .int .i64 x5, .int .i64 x6, .int .i64 x7, .int .i64 x8] 26 (0, 0)) := by rw [HB.out.block _ (by first | (simp; done) | (simp; omega)), hn_pastN _ _ _ (by first | (simp; done) | (simp; omega)), hn_atN _ _ _ (by simp)]
      have k1 : wr.heap[w.heap.size + 1]? = some (.cells #[.int .i64 x0, .int .i64 x1, .int .i64 x2, .int .i64 x3, .int .i64 x4, .int .i64 x5, .int .i64 x6, .int .i64 x7, .int .i64 x8] 26 (0, 0)) := by rw [HB.out.block _ (by first | (simp; done) | (simp; omega)), hn_atN _ _ _ (by simp)]
      have l0 := (Array.getElem?_eq_some_iff.1 k0).1
      have l1 := (Array.getElem?_eq_some_iff.1 k1).1
      go_wp2
      refine region_calm [(10, .int .i64 1), (11, .pointer (some ⟨w.heap.size, 3, none⟩)), (12, ptV x3 x4 x5), (13, .int .i64 1), (14, .pointer (some ⟨w.heap.size + 1, 3, none⟩)), (15, ptV x3 x4 x5), (16, .bool true), (17, .bool false)] (by kernel_rfl) (by kernel_rfl) (by kernel_rfl) (fun aE hpe => ?_)
      simp only [puts, Act.put, List.setIfInBounds_toArray, List.set_cons_zero, List.set_cons_succ] at hpe
      subst hpe
      refine ⟨⟨.inr (.inr ?_), .inr (.inr ?_), .inr (.inr ?_), .inr (.inr ?_), .inr (.inr ?_), .inr (.inr ?_), .inr (.inr ?_), .inr (.inr ?_), trivial⟩, ?_⟩
      · exact Calm.mk 10 (.int .i64 1) rfl rfl (fun W _ => calm_move (.tmp 5) rfl rfl)
      · exact Calm.mk 11 (.pointer (some ⟨w.heap.size, 3, none⟩)) rfl rfl (fun W _ => calm_run (by simp [execOp, Act.eval, go_sem]))
      · exact Calm.mk 12 (ptV x3 x4 x5) rfl rfl (fun W hW => calm_loadPt' 22 (.tmp 11) rfl rfl (by rw [cell_of_row W _ 3 _ _ _ (by rw [hW.block _ l0]; exact k0)]; rfl) (by rw [cell_of_row W _ 4 _ _ _ (by rw [hW.block _ l0]; exact k0)]; rfl) (by rw [cell_of_row W _ 5 _ _ _ (by rw [hW.block _ l0]; exact k0)]; rfl) Try.sizeOf22 Try.isAgg22)
      · exact Calm.mk 13 (.int .i64 1) rfl rfl (fun W _ => calm_move (.tmp 5) rfl rfl)
      · exact Calm.mk 14 (.pointer (some ⟨w.heap.size + 1, 3, none⟩)) rfl rfl (fun W _ => calm_run (by simp [execOp, Act.eval, go_sem]))
      · exact Calm.mk 15 (ptV x3 x4 x5) rfl rfl (fun W hW => calm_loadPt' 22 (.tmp 14) rfl rfl (by rw [cell_of_row W _ 3 _ _ _ (by rw [hW.block _ l1]; exact k1)]; rfl) (by rw [cell_of_row W _ 4 _ _ _ (by rw [hW.block _ l1]; exact k1)]; rfl) (by rw [cell_of_row W _ 5 _ _ _ (by rw [hW.block _ l1]; exact k1)]; rfl) Try.sizeOf22 Try.isAgg22)
      · exact Calm.mk 16 (.bool true) rfl rfl (fun W hW => calm_call 88 _ #[ptV x3 x4 x5, ptV x3 x4 x5] rfl rfl rfl (by simp [Act.eval]) (Try.call88 _ _) (eqInt64A3_same x3 x4 x5 W))
      · exact Calm.mk 17 (.bool false) rfl rfl (fun W hW => calm_run (by simp [execOp, Act.eval, go_sem]))
      intro W2 hW2
      have HB2 := Lib.hid (below_tr HB.out HB.out.size hW2)
      clear HB k0 k1 l0 l1 hW2
      go_wp2
      go_roundw
      case rel => exact ⟨2, by omega, rfl, HB2⟩
      case measure => simp [intOf]
    · clear hk
      have k0 : wr.heap[w.heap.size]? = some (.cells #[.int .i64 x0, .int .i64 x1, .int .i64 x2, .int .i64 x3, .int .i64 x4, .int .i64 x5, .int .i64 x6, .int .i64 x7, .int .i64 x8] 26 (0, 0)) := by rw [HB.out.block _ (by first | (simp; done) | (simp; omega)), hn_pastN _ _ _ (by first | (simp; done) | (simp; omega)), hn_atN _ _ _ (by simp)]
      have k1 : wr.heap[w.heap.size + 1]? = some (.cells #[.int .i64 x0, .int .i64 x1, .int .i64 x2, .int .i64 x3, .int .i64 x4, .int .i64 x5, .int .i64 x6, .int .i64 x7, .int .i64 x8] 26 (0, 0)) := by rw [HB.out.block _ (by first | (simp; done) | (simp; omega)), hn_atN _ _ _ (by simp)]
      have l0 := (Array.getElem?_eq_some_iff.1 k0).1
      have l1 := (Array.getElem?_eq_some_iff.1 k1).1
      go_wp2
      refine region_calm [(10, .int .i64 2), (11, .pointer (some ⟨w.heap.size, 6, none⟩)), (12, ptV x6 x7 x8), (13, .int .i64 2), (14, .pointer (some ⟨w.heap.size + 1, 6, none⟩)), (15, ptV x6 x7 x8), (16, .bool true), (17, .bool false)] (by kernel_rfl) (by kernel_rfl) (by kernel_rfl) (fun aE hpe => ?_)
      simp only [puts, Act.put, List.setIfInBounds_toArray, List.set_cons_zero, List.set_cons_succ] at hpe
      subst hpe
      refine ⟨⟨.inr (.inr ?_), .inr (.inr ?_), .inr (.inr ?_), .inr (.inr ?_), .inr (.inr ?_), .inr (.inr ?_), .inr (.inr ?_), .inr (.inr ?_), trivial⟩, ?_⟩
      · exact Calm.mk 10 (.int .i64 2) rfl rfl (fun W _ => calm_move (.tmp 5) rfl rfl)
      · exact Calm.mk 11 (.pointer (some ⟨w.heap.size, 6, none⟩)) rfl rfl (fun W _ => calm_run (by simp [execOp, Act.eval, go_sem]))
      · exact Calm.mk 12 (ptV x6 x7 x8) rfl rfl (fun W hW => calm_loadPt' 22 (.tmp 11) rfl rfl (by rw [cell_of_row W _ 6 _ _ _ (by rw [hW.block _ l0]; exact k0)]; rfl) (by rw [cell_of_row W _ 7 _ _ _ (by rw [hW.block _ l0]; exact k0)]; rfl) (by rw [cell_of_row W _ 8 _ _ _ (by rw [hW.block _ l0]; exact k0)]; rfl) Try.sizeOf22 Try.isAgg22)
      · exact Calm.mk 13 (.int .i64 2) rfl rfl (fun W _ => calm_move (.tmp 5) rfl rfl)
      · exact Calm.mk 14 (.pointer (some ⟨w.heap.size + 1, 6, none⟩)) rfl rfl (fun W _ => calm_run (by simp [execOp, Act.eval, go_sem]))
      · exact Calm.mk 15 (ptV x6 x7 x8) rfl rfl (fun W hW => calm_loadPt' 22 (.tmp 14) rfl rfl (by rw [cell_of_row W _ 6 _ _ _ (by rw [hW.block _ l1]; exact k1)]; rfl) (by rw [cell_of_row W _ 7 _ _ _ (by rw [hW.block _ l1]; exact k1)]; rfl) (by rw [cell_of_row W _ 8 _ _ _ (by rw [hW.block _ l1]; exact k1)]; rfl) Try.sizeOf22 Try.isAgg22)
      · exact Calm.mk 16 (.bool true) rfl rfl (fun W hW => calm_call 88 _ #[ptV x6 x7 x8, ptV x6 x7 x8] rfl rfl rfl (by simp [Act.eval]) (Try.call88 _ _) (eqInt64A3_same x6 x7 x8 W))
      · exact Calm.mk 17 (.bool false) rfl rfl (fun W hW => calm_run (by simp [execOp, Act.eval, go_sem]))
      intro W2 hW2
      have HB2 := Lib.hid (below_tr HB.out HB.out.size hW2)
      clear HB k0 k1 l0 l1 hW2
      go_wp2
      go_roundw
      case rel => exact ⟨3, by omega, rfl, HB2⟩
      case measure => simp [intOf]
    · go_wp2
      go_ret
      exact ⟨rfl, (by repeat (first | exact Below.refl _ _ | refine bset ?_ _ _ (by omega) _ | refine bal ?_ _ | refine bdrN ?_ _ | refine bdr ?_ | refine below_tr' ?_ HB.out))⟩
set_option maxHeartbeats 4000000 in
theorem eqDesk_5 (w : World) : Calls Try.prog 17 #[.agg deskC, .agg deskC] w (Ret w (.bool true)) := by
  unfold deskC
  go_enter Try.func17, Try.ntmps17
  go_wp2_with (first
    | (go_at_call 43; (with_reducible refine (eqPoint_same _ _ _ _).mono ?_); rintro e w1_ ⟨rfl, hb1⟩; obtain ⟨hcb1, hfb1, hlb1⟩ := bcell hb1; have hsz1 := hb1.size; (try simp at hsz1); have HB1 := Lib.hid hb1; clear hb1; (try (have hl01 : w.heap.size < w1_.heap.size := by omega)); (try (have hl11 : w.heap.size + 1 < w1_.heap.size := by omega)))
    | (go_at_call 56; (with_reducible refine (eqLine_same _ _ _ _).mono ?_); rintro e w2_ ⟨rfl, hb2⟩; obtain ⟨hcb2, hfb2, hlb2⟩ := bcell hb2; have hsz2 := hb2.size; (try simp at hsz2); have HB2 := Lib.hid hb2; clear hb2; (try (have hl02 : w.heap.size < w2_.heap.size := by omega)); (try (have hl12 : w.heap.size + 1 < w2_.heap.size := by omega)))
    | (go_at_call 29; (with_reducible refine (eqMap_same _ _ _ _ _ _ _ _ _ _).mono ?_); rintro e w3_ ⟨rfl, hb3⟩; obtain ⟨hcb3, hfb3, hlb3⟩ := bcell hb3; have hsz3 := hb3.size; (try simp at hsz3); have HB3 := Lib.hid hb3; clear hb3; (try (have hl03 : w.heap.size < w3_.heap.size := by omega)); (try (have hl13 : w.heap.size + 1 < w3_.heap.size := by omega)))
    | (go_at_call 61; (with_reducible refine (eqConic_same _ _ _ _ _ _ _).mono ?_); rintro e w4_ ⟨rfl, hb4⟩; obtain ⟨hcb4, hfb4, hlb4⟩ := bcell hb4; have hsz4 := hb4.size; (try simp at hsz4); have HB4 := Lib.hid hb4; clear hb4; (try (have hl04 : w.heap.size < w4_.heap.size := by omega)); (try (have hl14 : w.heap.size + 1 < w4_.heap.size := by omega))))
  go_ret
  exact ⟨rfl, (by repeat (first | exact Below.refl _ _ | refine bset ?_ _ _ (by omega) _ | refine bal ?_ _ | refine bdrN ?_ _ | refine bdr ?_ | refine below_tr' ?_ HB4.out | refine below_tr' ?_ HB3.out | refine below_tr' ?_ HB2.out | refine below_tr' ?_ HB1.out))⟩
end Go.Proofs.Ythkbhaaodegocaa
