/- Contracts: IsFigure, of the reference and of the program. -/
import Derived.Test.YthkbhaaodegocaaK3
namespace Go.Proofs.Ythkbhaaodegocaa
open Go.RowKit
set_option linter.unusedVariables false
set_option linter.unusedSimpArgs false
set_option maxHeartbeats 1000000 in
theorem l09All_any (p : Int) (b1 : Option Addr) (n1 c1 : Nat) (b2 : Option Addr) (n2 c2 : Nat) (l1 l2 : List Pt) (w : World) (hn1 : n1 ≤ 1000000) (hn2 : n2 ≤ 1000000) (h1 : ListP w b1 n1 l1) (h2 : ListP w b2 n2 l2) :
    Calls Try.prog 110 #[.int .i64 p, figV b1 n1 c1 b2 n2 c2] w (Ret w (.int .i64 (codeOf p (ptsB p l1 && ptsB p l2)))) := by
  have HA := Lib.hid (fun (W : World) (hW : Below w.heap.size w W) => l01Code_list p b1 n1 c1 l1 W hn1 (h1.below hW))
  by_cases hz : codeOf p (ptsB p l1) = 0
  · have HE : Hid (codeOf p (ptsB p l1 && ptsB p l2) = codeOf p (ptsB p l2)) := Lib.hid (by
      have : ptsB p l1 = true := by
        cases h : ptsB p l1 with
        | true => rfl
        | false => rw [h] at hz; unfold codeOf at hz; revert hz; cases prB p <;> simp
      rw [this, Bool.true_and])
    have HP : Hid (prB p = true) := Lib.hid (by
      cases h : prB p with
      | true => rfl
      | false => rw [codeOf_no _ h] at hz; cases hz)
    rw [hz] at HA
    have HL := Lib.hid h2
    clear h1 h2 hz
    go_enter Try.func110, Try.ntmps110
    go_wp2_with (go_at_call 94; (with_reducible refine (HA.out _ (by repeat (first | exact Below.refl _ _ | refine bset ?_ _ _ (by omega) _ | refine bal ?_ _ | refine bdrN ?_ _ | refine bdr ?_))).mono ?_); rintro e w1_ ⟨rfl, hb1⟩; obtain ⟨hcb1, hfb1, hlb1⟩ := bcell hb1; have hsz1 := hb1.size; (try simp at hsz1); have HB1 := Lib.hid hb1; clear hb1; (try (have hl01 : w.heap.size < w1_.heap.size := by omega)))
    have HQ1 : Hid (Below w.heap.size w w1_) := Lib.hid (by repeat (first | exact Below.refl _ _ | refine bset ?_ _ _ (by omega) _ | refine bal ?_ _ | refine bdrN ?_ _ | refine bdr ?_ | refine below_tr' ?_ HB1.out))
    have hb1 : w1_.heap[w.heap.size]? = some (.cells #[.slice b1 n1 c1, .slice b2 n2 c2] 76 (0, 0)) := by rw [HB1.out.block _ (by simp)]; exact heap_alloc_new _ _
    go_loopw [6] (fun i wr => ∃ k : Nat, k ≤ n2 ∧ i = .int .i64 k ∧ Hid (ptsB p (l2.take k) = true) ∧ Hid (Below w1_.heap.size w1_ wr)) (fun i wr => n2 - (intOf i).toNat)
    case atStart => exact ⟨0, Nat.zero_le _, rfl, Lib.hid rfl, Lib.hid (Below.refl _ _)⟩
    case round =>
      obtain ⟨k, hk, rfl, HD, HB⟩ := hrel
      have hbw : wr.heap[w.heap.size]? = some (.cells #[.slice b1 n1 c1, .slice b2 n2 c2] 76 (0, 0)) := by rw [HB.out.block _ (by omega)]; exact hb1
      have q0 := cell_of_row wr _ 0 _ _ _ hbw
      have q1 := cell_of_row wr _ 1 _ _ _ hbw
      simp at q0 q1
      by_cases hlt : k < n2
      · obtain ⟨g, o, rfl, hp⟩ := HL.out.2 (by omega)
        obtain ⟨c0, c1, c2⟩ := ((hp.below (below_tr' (bal (Below.refl _ _) _) HB1.out)).below HB.out) k hlt
        clear hp
        have HS := Lib.hid (take_snoc' l2 (0,0,0) k (by have := HL.out.1; omega))
        have HF := Lib.hid (fun h => ptsB_false (p := p) (l := l2) (k := k) (by have := HL.out.1; omega) h)
        generalize l2.getD k (0,0,0) = a at *
        obtain ⟨x, y, z⟩ := a
        dsimp only at c0 c1 c2
        cases hv : ptB p x y z with
        | true =>
          have HV := Lib.hid hv
          have HC := Lib.hid (fun (W : World) => l01Line_any p x y z W)
          rw [hv] at HC
          clear hv
          go_wp2_with (go_at_call 130; (with_reducible refine (HC.out _).mono ?_); rintro e w2_ ⟨rfl, hb2⟩; obtain ⟨hcb2, hfb2, hlb2⟩ := bcell hb2; have hsz2 := hb2.size; (try simp at hsz2); have HB2 := Lib.hid hb2; clear hb2; (try (have hl02 : w.heap.size < w2_.heap.size := by omega)))
          go_roundw
          case rel => exact ⟨k + 1, by omega, by go_num, Lib.hid (by rw [HS.out, ptsB_snoc, HD.out]; exact HV.out), Lib.hid (below_tr' HB.out HB2.out)⟩
          case measure => simp [intOf]; omega
        | false =>
          have HV := Lib.hid hv
          have HC := Lib.hid (fun (W : World) => l01Line_any p x y z W)
          rw [hv] at HC
          clear hv
          go_wp2_with (go_at_call 130; (with_reducible refine (HC.out _).mono ?_); rintro e w2_ ⟨rfl, hb2⟩; obtain ⟨hcb2, hfb2, hlb2⟩ := bcell hb2; have hsz2 := hb2.size; (try simp at hsz2); have HB2 := Lib.hid hb2; clear hb2; (try (have hl02 : w.heap.size < w2_.heap.size := by omega)))
          go_ret
          exact ⟨ret_int (by rw [HE.out, HF.out HV.out, codeOf_f HP.out]), below_tr' HQ1.out (below_tr' HB.out HB2.out)⟩
      · have hkn : k = n2 := by omega
        subst hkn
        have HT : Hid (ptsB p l2 = true) := Lib.hid (by have := HD.out; rwa [List.take_of_length_le (by have := HL.out.1; omega)] at this)
        go_wp2
        go_ret
        exact ⟨ret_int (by rw [HE.out, HT.out, codeOf_t HP.out]), below_tr' HQ1.out HB.out⟩
  · have HE : Hid (codeOf p (ptsB p l1 && ptsB p l2) = codeOf p (ptsB p l1)) := Lib.hid (by
      cases hp : prB p with
      | false => rw [codeOf_no _ hp, codeOf_no _ hp]
      | true =>
        cases h : ptsB p l1 with
        | true => exact (hz (by rw [h]; exact codeOf_t hp)).elim
        | false => rw [Bool.false_and])
    clear h1 h2
    generalize codeOf p (ptsB p l1 && ptsB p l2) = r at *
    generalize codeOf p (ptsB p l1) = z at *
    go_enter Try.func110, Try.ntmps110
    go_wp2_with (go_at_call 94; (with_reducible refine (HA.out _ (by repeat (first | exact Below.refl _ _ | refine bset ?_ _ _ (by omega) _ | refine bal ?_ _ | refine bdrN ?_ _ | refine bdr ?_))).mono ?_); rintro e w1_ ⟨rfl, hb1⟩; obtain ⟨hcb1, hfb1, hlb1⟩ := bcell hb1; have hsz1 := hb1.size; (try simp at hsz1); have HB1 := Lib.hid hb1; clear hb1; (try (have hl01 : w.heap.size < w1_.heap.size := by omega)))
    go_ret
    exact ⟨ret_int HE.out.symm, (by repeat (first | exact Below.refl _ _ | refine bset ?_ _ _ (by omega) _ | refine bal ?_ _ | refine bdrN ?_ _ | refine bdr ?_ | refine below_tr' ?_ HB1.out))⟩
/-- What IsFigure returns. -/
def isfV (p : Int) (n1 n2 : Nat) (l1 l2 : List Pt) : Value := .tuple #[.bool (decide (codeOf p (ptsB p l1 && ptsB p l2) = 0) && figB n1 n2 l1 l2), .int .i64 (codeOf p (ptsB p l1 && ptsB p l2))]
theorem IsFigure_spec (p : Int) (b1 : Option Addr) (n1 c1 : Nat) (b2 : Option Addr) (n2 c2 : Nat) (l1 l2 : List Pt) (w : World) (hn1 : n1 ≤ 1000000) (hn2 : n2 ≤ 1000000) (h1 : ListP w b1 n1 l1) (h2 : ListP w b2 n2 l2) :
    Calls Try.prog 50 #[.int .i64 p, figV b1 n1 c1 b2 n2 c2] w (Ret w (isfV p n1 n2 l1 l2)) := by
  have HA := Lib.hid (fun (W : World) (hW : Below w.heap.size w W) => l09All_any p b1 n1 c1 b2 n2 c2 l1 l2 W hn1 hn2 (h1.below hW) (h2.below hW))
  have HL := Lib.hid (fun (W : World) (hW : Below w.heap.size w W) => l09Is_any b1 n1 c1 b2 n2 c2 l1 l2 W hn1 hn2 (h1.below hW) (h2.below hW))
  clear h1 h2
  unfold isfV
  generalize codeOf p (ptsB p l1 && ptsB p l2) = z at *
  generalize figB n1 n2 l1 l2 = r at *
  by_cases hz : z = 0
  · subst hz
    go_enter Try.func50, Try.ntmps50
    go_wp2_with (first
      | (go_at_call 110; (with_reducible refine (HA.out _ (by repeat (first | exact Below.refl _ _ | refine bset ?_ _ _ (by omega) _ | refine bal ?_ _ | refine bdrN ?_ _ | refine bdr ?_))).mono ?_); rintro e w1_ ⟨rfl, hb1⟩; obtain ⟨hcb1, hfb1, hlb1⟩ := bcell hb1; have hsz1 := hb1.size; (try simp at hsz1); have HB1 := Lib.hid hb1; clear hb1; (try (have hl01 : w.heap.size < w1_.heap.size := by omega)))
      | (go_at_call 111; (with_reducible refine (HL.out _ (by repeat (first | exact Below.refl _ _ | refine bset ?_ _ _ (by omega) _ | refine bal ?_ _ | refine bdrN ?_ _ | refine bdr ?_ | refine below_tr' ?_ HB1.out))).mono ?_); rintro e w2_ ⟨rfl, hb2⟩; obtain ⟨hcb2, hfb2, hlb2⟩ := bcell hb2; have hsz2 := hb2.size; (try simp at hsz2); have HB2 := Lib.hid hb2; clear hb2; (try (have hl02 : w.heap.size < w2_.heap.size := by omega))))
    exact bodyPost_ret (v := .tuple #[.bool (decide ((0 : Int) = 0) && r), .int .i64 0]) (by simp [results, Try.results50, go_sem]) rfl ⟨rfl, (by repeat (first | exact Below.refl _ _ | refine bset ?_ _ _ (by omega) _ | refine bal ?_ _ | refine bdrN ?_ _ | refine bdr ?_ | refine below_tr' ?_ HB2.out | refine below_tr' ?_ HB1.out))⟩
  · have hzb : (z == 0) = false := by simpa using hz
    have hzd : decide (z = 0) = false := by simpa using hz
    rw [hzd]
    clear hzd
    go_enter Try.func50, Try.ntmps50
    go_wp2_with (go_at_call 110; (with_reducible refine (HA.out _ (by repeat (first | exact Below.refl _ _ | refine bset ?_ _ _ (by omega) _ | refine bal ?_ _ | refine bdrN ?_ _ | refine bdr ?_))).mono ?_); rintro e w1_ ⟨rfl, hb1⟩; obtain ⟨hcb1, hfb1, hlb1⟩ := bcell hb1; have hsz1 := hb1.size; (try simp at hsz1); have HB1 := Lib.hid hb1; clear hb1; (try (have hl01 : w.heap.size < w1_.heap.size := by omega)))
    exact bodyPost_ret (v := .tuple #[.bool (false && r), .int .i64 z]) (by simp [results, Try.results50, go_sem]) rfl ⟨rfl, (by repeat (first | exact Below.refl _ _ | refine bset ?_ _ _ (by omega) _ | refine bal ?_ _ | refine bdrN ?_ _ | refine bdr ?_ | refine below_tr' ?_ HB1.out))⟩
theorem IsFigure_impl (p : Int) (b1 : Option Addr) (n1 c1 : Nat) (b2 : Option Addr) (n2 c2 : Nat) (l1 l2 : List Pt) (w : World) (hn1 : n1 ≤ 1000000) (hn2 : n2 ≤ 1000000) (h1 : ListP w b1 n1 l1) (h2 : ListP w b2 n2 l2) :
    Calls Try.prog 52 #[.int .i64 p, figV b1 n1 c1 b2 n2 c2] w (Ret w (isfV p n1 n2 l1 l2)) := by
  have HA := Lib.hid (fun (W : World) (hW : Below w.heap.size w W) => partsCode_any p b1 n1 c1 b2 n2 c2 l1 l2 W hn1 hn2 (h1.below hW) (h2.below hW))
  have HL := Lib.hid (fun (W : World) (hW : Below w.heap.size w W) => isFigure_any b1 n1 c1 b2 n2 c2 l1 l2 W hn1 hn2 (h1.below hW) (h2.below hW))
  clear h1 h2
  unfold isfV
  generalize codeOf p (ptsB p l1 && ptsB p l2) = z at *
  generalize figB n1 n2 l1 l2 = r at *
  by_cases hz : z = 0
  · subst hz
    go_enter Try.func52, Try.ntmps52
    go_wp2_with (first
      | (go_at_call 113; (with_reducible refine (HA.out _ (by repeat (first | exact Below.refl _ _ | refine bset ?_ _ _ (by omega) _ | refine bal ?_ _ | refine bdrN ?_ _ | refine bdr ?_))).mono ?_); rintro e w1_ ⟨rfl, hb1⟩; obtain ⟨hcb1, hfb1, hlb1⟩ := bcell hb1; have hsz1 := hb1.size; (try simp at hsz1); have HB1 := Lib.hid hb1; clear hb1; (try (have hl01 : w.heap.size < w1_.heap.size := by omega)))
      | (go_at_call 114; (with_reducible refine (HL.out _ (by repeat (first | exact Below.refl _ _ | refine bset ?_ _ _ (by omega) _ | refine bal ?_ _ | refine bdrN ?_ _ | refine bdr ?_ | refine below_tr' ?_ HB1.out))).mono ?_); rintro e w2_ ⟨rfl, hb2⟩; obtain ⟨hcb2, hfb2, hlb2⟩ := bcell hb2; have hsz2 := hb2.size; (try simp at hsz2); have HB2 := Lib.hid hb2; clear hb2; (try (have hl02 : w.heap.size < w2_.heap.size := by omega))))
    exact bodyPost_ret (v := .tuple #[.bool (decide ((0 : Int) = 0) && r), .int .i64 0]) (by simp [results, Try.results52, go_sem]) rfl ⟨rfl, (by repeat (first | exact Below.refl _ _ | refine bset ?_ _ _ (by omega) _ | refine bal ?_ _ | refine bdrN ?_ _ | refine bdr ?_ | refine below_tr' ?_ HB2.out | refine below_tr' ?_ HB1.out))⟩
  · have hzb : (z == 0) = false := by simpa using hz
    have hzd : decide (z = 0) = false := by simpa using hz
    rw [hzd]
    clear hzd
    go_enter Try.func52, Try.ntmps52
    go_wp2_with (go_at_call 113; (with_reducible refine (HA.out _ (by repeat (first | exact Below.refl _ _ | refine bset ?_ _ _ (by omega) _ | refine bal ?_ _ | refine bdrN ?_ _ | refine bdr ?_))).mono ?_); rintro e w1_ ⟨rfl, hb1⟩; obtain ⟨hcb1, hfb1, hlb1⟩ := bcell hb1; have hsz1 := hb1.size; (try simp at hsz1); have HB1 := Lib.hid hb1; clear hb1; (try (have hl01 : w.heap.size < w1_.heap.size := by omega)))
    exact bodyPost_ret (v := .tuple #[.bool (false && r), .int .i64 z]) (by simp [results, Try.results52, go_sem]) rfl ⟨rfl, (by repeat (first | exact Below.refl _ _ | refine bset ?_ _ _ (by omega) _ | refine bal ?_ _ | refine bdrN ?_ _ | refine bdr ?_ | refine below_tr' ?_ HB1.out))⟩
end Go.Proofs.Ythkbhaaodegocaa
