/- Contracts: figures: points and lines, as the program and as the reference take them. -/
import Derived.Test.YthkbhaaodegocaaK2
namespace Go.Proofs.Ythkbhaaodegocaa
open Go.RowKit
set_option linter.unusedVariables false
set_option linter.unusedSimpArgs false
theorem arePoints_zero (p : Int) (b : Option Addr) (cap : Nat) (w : World) : Calls Try.prog 145 #[.int .i64 p, .slice b 0 cap] w (Ret w (.bool true)) := by
  go_enter Try.func145, Try.ntmps145
  go_wp2
  refine wp_loop_rounds 1 ?_
  rw [rounds_succ]; go_wp2
  go_ret
  exact ⟨rfl, Below.refl _ _⟩
theorem areLines_zero (p : Int) (b : Option Addr) (cap : Nat) (w : World) : Calls Try.prog 154 #[.int .i64 p, .slice b 0 cap] w (Ret w (.bool true)) := by
  go_enter Try.func154, Try.ntmps154
  go_wp2
  refine wp_loop_rounds 1 ?_
  rw [rounds_succ]; go_wp2
  go_ret
  exact ⟨rfl, Below.refl _ _⟩
theorem l01Code_zero (p : Int) (b : Option Addr) (cap : Nat) (w : World) : Calls Try.prog 94 #[.int .i64 p, .slice b 0 cap] w (Ret w (.int .i64 (codeOf p true))) := by
  cases hp : prB p with
  | false =>
    have HP := Lib.hid hp; clear hp
    go_enter Try.func94, Try.ntmps94
    go_wp2_with (go_at_call 68; refine (l01Prime_no _ _ HP.out).mono ?_; rintro e w' ⟨rfl, rfl⟩)
    go_ret
    exact ⟨ret_int (codeOf_no _ HP.out).symm, Below.refl _ _⟩
  | true =>
    have HP := Lib.hid hp; clear hp
    go_enter Try.func94, Try.ntmps94
    go_wp2_with (go_at_call 68; refine (l01Prime_yes _ _ HP.out).mono ?_; rintro e w' ⟨rfl, rfl⟩)
    refine wp_loop_rounds 1 ?_
    rw [rounds_succ]; go_wp2
    go_ret
    exact ⟨ret_int (codeOf_t HP.out).symm, Below.refl _ _⟩
theorem list_cases {w : World} {b : Option Addr} {n : Nat} {l : List Pt} (h : ListP w b n l) : (n = 0 ∧ l = []) ∨ ∃ g o, b = some ⟨g, o, none⟩ ∧ PtsAt w g o n l := by
  rcases Nat.eq_zero_or_pos n with e | e
  · exact .inl ⟨e, List.length_eq_zero_iff.1 (h.1.trans e)⟩
  · exact .inr (h.2 e)
theorem arePoints_list (p : Int) (b : Option Addr) (n cap : Nat) (l : List Pt) (w : World) (hn : n ≤ 1000000) (h : ListP w b n l) :
    Calls Try.prog 145 #[.int .i64 p, .slice b n cap] w (Ret w (.bool (ptsB p l))) := by
  rcases list_cases h with ⟨rfl, rfl⟩ | ⟨g, o, rfl, hp⟩
  · exact arePoints_zero p b cap w
  · exact arePoints_any p g o n cap l w h.1 (by omega) hp
theorem areLines_list (p : Int) (b : Option Addr) (n cap : Nat) (l : List Pt) (w : World) (hn : n ≤ 1000000) (h : ListP w b n l) :
    Calls Try.prog 154 #[.int .i64 p, .slice b n cap] w (Ret w (.bool (ptsB p l))) := by
  rcases list_cases h with ⟨rfl, rfl⟩ | ⟨g, o, rfl, hp⟩
  · exact areLines_zero p b cap w
  · exact areLines_any p g o n cap l w h.1 (by omega) hp
theorem l01Code_list (p : Int) (b : Option Addr) (n cap : Nat) (l : List Pt) (w : World) (hn : n ≤ 1000000) (h : ListP w b n l) :
    Calls Try.prog 94 #[.int .i64 p, .slice b n cap] w (Ret w (.int .i64 (codeOf p (ptsB p l)))) := by
  rcases list_cases h with ⟨rfl, rfl⟩ | ⟨g, o, rfl, hp⟩
  · exact l01Code_zero p b cap w
  · exact l01Code_any p g o n cap l w h.1 (by omega) hp
/-- A figure's value. -/
@[reducible] def figV (b1 : Option Addr) (n1 c1 : Nat) (b2 : Option Addr) (n2 c2 : Nat) : Value := .agg #[.slice b1 n1 c1, .slice b2 n2 c2]
theorem partsCode_any (p : Int) (b1 : Option Addr) (n1 c1 : Nat) (b2 : Option Addr) (n2 c2 : Nat) (l1 l2 : List Pt) (w : World) (hn1 : n1 ≤ 1000000) (hn2 : n2 ≤ 1000000) (h1 : ListP w b1 n1 l1) (h2 : ListP w b2 n2 l2) :
    Calls Try.prog 113 #[.int .i64 p, figV b1 n1 c1 b2 n2 c2] w (Ret w (.int .i64 (codeOf p (ptsB p l1 && ptsB p l2)))) := by
  have HA := Lib.hid (fun (W : World) (hW : Below w.heap.size w W) => arePoints_list p b1 n1 c1 l1 W hn1 (h1.below hW))
  have HL := Lib.hid (fun (W : World) (hW : Below w.heap.size w W) => areLines_list p b2 n2 c2 l2 W hn2 (h2.below hW))
  clear h1 h2
  cases hp : prB p with
  | false =>
    have HP := Lib.hid hp; clear hp
    go_enter Try.func113, Try.ntmps113
    go_wp2_with (go_at_call 143; refine (planeCode_no _ _ _ HP.out).mono ?_; rintro e w' ⟨rfl, rfl⟩)
    go_ret
    exact ⟨ret_int (codeOf_no _ HP.out).symm, (by repeat (first | exact Below.refl _ _ | refine bset ?_ _ _ (by omega) _ | refine bal ?_ _ | refine bdrN ?_ _ | refine bdr ?_))⟩
  | true =>
    have HP := Lib.hid hp; clear hp
    cases hv : ptsB p l1 with
    | false =>
      have HV := Lib.hid (codeOf_f HP.out)
      rw [hv] at HA
      clear hv
      go_enter Try.func113, Try.ntmps113
      go_wp2_with (first
        | (go_at_call 73; refine (isPrime_yes _ _ HP.out).mono ?_; rintro e w' ⟨rfl, rfl⟩)
        | (go_at_call 143; go_in)
        | (go_at_call 153; go_in)
        | (go_at_call 145; (with_reducible refine (HA.out _ (by repeat (first | exact Below.refl _ _ | refine bset ?_ _ _ (by omega) _ | refine bal ?_ _ | refine bdrN ?_ _ | refine bdr ?_))).mono ?_); rintro e w1_ ⟨rfl, hb1⟩; obtain ⟨hcb1, hfb1, hlb1⟩ := bcell hb1; have hsz1 := hb1.size; (try simp at hsz1); have HB1 := Lib.hid hb1; clear hb1; (try (have hl01 : w.heap.size < w1_.heap.size := by omega)); (try (have hl11 : w.heap.size + 1 < w1_.heap.size := by omega))))
      go_ret
      exact ⟨ret_int (by rw [Bool.false_and]; exact HV.out.symm), (by repeat (first | exact Below.refl _ _ | refine bset ?_ _ _ (by omega) _ | refine bal ?_ _ | refine bdrN ?_ _ | refine bdr ?_ | refine below_tr' ?_ HB1.out))⟩
    | true =>
      rw [hv] at HA
      clear hv
      rw [Bool.true_and]
      cases hv2 : ptsB p l2 with
      | false =>
        rw [hv2] at HL
        go_enter Try.func113, Try.ntmps113
        go_wp2_with (first
          | (go_at_call 73; refine (isPrime_yes _ _ HP.out).mono ?_; rintro e w' ⟨rfl, rfl⟩)
          | (go_at_call 143; go_in)
          | (go_at_call 153; go_in)
          | (go_at_call 145; (with_reducible refine (HA.out _ (by repeat (first | exact Below.refl _ _ | refine bset ?_ _ _ (by omega) _ | refine bal ?_ _ | refine bdrN ?_ _ | refine bdr ?_))).mono ?_); rintro e w1_ ⟨rfl, hb1⟩; obtain ⟨hcb1, hfb1, hlb1⟩ := bcell hb1; have hsz1 := hb1.size; (try simp at hsz1); have HB1 := Lib.hid hb1; clear hb1; (try (have hl01 : w.heap.size < w1_.heap.size := by omega)); (try (have hl11 : w.heap.size + 1 < w1_.heap.size := by omega)))
          | (go_at_call 154; (with_reducible refine (HL.out _ (by repeat (first | exact Below.refl _ _ | refine bset ?_ _ _ (by omega) _ | refine bal ?_ _ | refine bdrN ?_ _ | refine bdr ?_ | refine below_tr' ?_ HB1.out))).mono ?_); rintro e w2_ ⟨rfl, hb2⟩; obtain ⟨hcb2, hfb2, hlb2⟩ := bcell hb2; have hsz2 := hb2.size; (try simp at hsz2); have HB2 := Lib.hid hb2; clear hb2; (try (have hl02 : w.heap.size < w2_.heap.size := by omega)); (try (have hl12 : w.heap.size + 1 < w2_.heap.size := by omega))))
        go_ret
        exact ⟨ret_int (codeOf_f HP.out).symm, (by repeat (first | exact Below.refl _ _ | refine bset ?_ _ _ (by omega) _ | refine bal ?_ _ | refine bdrN ?_ _ | refine bdr ?_ | refine below_tr' ?_ HB2.out | refine below_tr' ?_ HB1.out))⟩
      | true =>
        rw [hv2] at HL
        go_enter Try.func113, Try.ntmps113
        go_wp2_with (first
          | (go_at_call 73; refine (isPrime_yes _ _ HP.out).mono ?_; rintro e w' ⟨rfl, rfl⟩)
          | (go_at_call 143; go_in)
          | (go_at_call 153; go_in)
          | (go_at_call 145; (with_reducible refine (HA.out _ (by repeat (first | exact Below.refl _ _ | refine bset ?_ _ _ (by omega) _ | refine bal ?_ _ | refine bdrN ?_ _ | refine bdr ?_))).mono ?_); rintro e w1_ ⟨rfl, hb1⟩; obtain ⟨hcb1, hfb1, hlb1⟩ := bcell hb1; have hsz1 := hb1.size; (try simp at hsz1); have HB1 := Lib.hid hb1; clear hb1; (try (have hl01 : w.heap.size < w1_.heap.size := by omega)); (try (have hl11 : w.heap.size + 1 < w1_.heap.size := by omega)))
          | (go_at_call 154; (with_reducible refine (HL.out _ (by repeat (first | exact Below.refl _ _ | refine bset ?_ _ _ (by omega) _ | refine bal ?_ _ | refine bdrN ?_ _ | refine bdr ?_ | refine below_tr' ?_ HB1.out))).mono ?_); rintro e w2_ ⟨rfl, hb2⟩; obtain ⟨hcb2, hfb2, hlb2⟩ := bcell hb2; have hsz2 := hb2.size; (try simp at hsz2); have HB2 := Lib.hid hb2; clear hb2; (try (have hl02 : w.heap.size < w2_.heap.size := by omega)); (try (have hl12 : w.heap.size + 1 < w2_.heap.size := by omega))))
        go_ret
        exact ⟨ret_int (codeOf_t HP.out).symm, (by repeat (first | exact Below.refl _ _ | refine bset ?_ _ _ (by omega) _ | refine bal ?_ _ | refine bdrN ?_ _ | refine bdr ?_ | refine below_tr' ?_ HB2.out | refine below_tr' ?_ HB1.out))⟩
/-- A figure: both lists ascend, and none is too long. -/
def figB (n1 n2 : Nat) (l1 l2 : List Pt) : Bool := (ascB l1 && decide (n1 ≤ 16)) && (ascB l2 && decide (n2 ≤ 16))
theorem isFigure_any (b1 : Option Addr) (n1 c1 : Nat) (b2 : Option Addr) (n2 c2 : Nat) (l1 l2 : List Pt) (w : World) (hn1 : n1 ≤ 1000000) (hn2 : n2 ≤ 1000000) (h1 : ListP w b1 n1 l1) (h2 : ListP w b2 n2 l2) :
    Calls Try.prog 114 #[figV b1 n1 c1 b2 n2 c2] w (Ret w (.bool (figB n1 n2 l1 l2))) := by
  have HA := Lib.hid (fun (W : World) (hW : Below w.heap.size w W) => ascendsP_any b1 n1 c1 l1 W hn1 (h1.below hW))
  have HL := Lib.hid (fun (W : World) (hW : Below w.heap.size w W) => ascendsL_any b2 n2 c2 l2 W hn2 (h2.below hW))
  have HR : Hid (figB n1 n2 l1 l2 = ((ascB l1 && decide (n1 ≤ 16)) && (ascB l2 && decide (n2 ≤ 16)))) := Lib.hid rfl
  clear h1 h2
  generalize figB n1 n2 l1 l2 = r at *
  generalize (ascB l1 && decide (n1 ≤ 16)) = u1 at *
  generalize (ascB l2 && decide (n2 ≤ 16)) = u2 at *
  cases u1 with
  | false =>
    go_enter Try.func114, Try.ntmps114
    go_wp2_with (go_at_call 155; (with_reducible refine (HA.out _ (by repeat (first | exact Below.refl _ _ | refine bset ?_ _ _ (by omega) _ | refine bal ?_ _ | refine bdrN ?_ _ | refine bdr ?_))).mono ?_); rintro e w1_ ⟨rfl, hb1⟩; obtain ⟨hcb1, hfb1, hlb1⟩ := bcell hb1; have hsz1 := hb1.size; (try simp at hsz1); have HB1 := Lib.hid hb1; clear hb1; (try (have hl01 : w.heap.size < w1_.heap.size := by omega)))
    go_ret
    exact ⟨ret_bool (by rw [HR.out]; rfl), (by repeat (first | exact Below.refl _ _ | refine bset ?_ _ _ (by omega) _ | refine bal ?_ _ | refine bdrN ?_ _ | refine bdr ?_ | refine below_tr' ?_ HB1.out))⟩
  | true =>
    go_enter Try.func114, Try.ntmps114
    go_wp2_with (first
      | (go_at_call 155; (with_reducible refine (HA.out _ (by repeat (first | exact Below.refl _ _ | refine bset ?_ _ _ (by omega) _ | refine bal ?_ _ | refine bdrN ?_ _ | refine bdr ?_))).mono ?_); rintro e w1_ ⟨rfl, hb1⟩; obtain ⟨hcb1, hfb1, hlb1⟩ := bcell hb1; have hsz1 := hb1.size; (try simp at hsz1); have HB1 := Lib.hid hb1; clear hb1; (try (have hl01 : w.heap.size < w1_.heap.size := by omega)))
      | (go_at_call 156; (with_reducible refine (HL.out _ (by repeat (first | exact Below.refl _ _ | refine bset ?_ _ _ (by omega) _ | refine bal ?_ _ | refine bdrN ?_ _ | refine bdr ?_ | refine below_tr' ?_ HB1.out))).mono ?_); rintro e w2_ ⟨rfl, hb2⟩; obtain ⟨hcb2, hfb2, hlb2⟩ := bcell hb2; have hsz2 := hb2.size; (try simp at hsz2); have HB2 := Lib.hid hb2; clear hb2; (try (have hl02 : w.heap.size < w2_.heap.size := by omega))))
    go_ret
    exact ⟨ret_bool (by rw [HR.out]; rfl), (by repeat (first | exact Below.refl _ _ | refine bset ?_ _ _ (by omega) _ | refine bal ?_ _ | refine bdrN ?_ _ | refine bdr ?_ | refine below_tr' ?_ HB2.out | refine below_tr' ?_ HB1.out))⟩
theorem l09Is_any (b1 : Option Addr) (n1 c1 : Nat) (b2 : Option Addr) (n2 c2 : Nat) (l1 l2 : List Pt) (w : World) (hn1 : n1 ≤ 1000000) (hn2 : n2 ≤ 1000000) (h1 : ListP w b1 n1 l1) (h2 : ListP w b2 n2 l2) :
    Calls Try.prog 111 #[figV b1 n1 c1 b2 n2 c2] w (Ret w (.bool (figB n1 n2 l1 l2))) := by
  have HA := Lib.hid (fun (W : World) (hW : Below w.heap.size w W) => l07Is_any b1 n1 c1 l1 W hn1 (h1.below hW))
  have HL := Lib.hid (fun (W : World) (hW : Below w.heap.size w W) => l09Listed_any b2 n2 c2 l2 W hn2 (h2.below hW))
  by_cases hc : n1 ≤ 16
  · have HR : Hid (figB n1 n2 l1 l2 = ((ascB l1 && decide (n1 ≤ 60)) && (ascB l2 && decide (n2 ≤ 16)))) := Lib.hid (by unfold figB; rw [decide_eq_true hc, decide_eq_true (show n1 ≤ 60 by omega)])
    clear h1 h2
    have hcz : (n1 : Int) ≤ 16 := by omega
    generalize figB n1 n2 l1 l2 = r at *
    generalize (ascB l1 && decide (n1 ≤ 60)) = u1 at *
    generalize (ascB l2 && decide (n2 ≤ 16)) = u2 at *
    cases u1 with
    | false =>
      go_enter Try.func111, Try.ntmps111
      go_wp2_with (go_at_call 151; (with_reducible refine (HA.out _ (by repeat (first | exact Below.refl _ _ | refine bset ?_ _ _ (by omega) _ | refine bal ?_ _ | refine bdrN ?_ _ | refine bdr ?_))).mono ?_); rintro e w1_ ⟨rfl, hb1⟩; obtain ⟨hcb1, hfb1, hlb1⟩ := bcell hb1; have hsz1 := hb1.size; (try simp at hsz1); have HB1 := Lib.hid hb1; clear hb1; (try (have hl01 : w.heap.size < w1_.heap.size := by omega)))
      go_ret
      exact ⟨ret_bool (by rw [HR.out]; rfl), (by repeat (first | exact Below.refl _ _ | refine bset ?_ _ _ (by omega) _ | refine bal ?_ _ | refine bdrN ?_ _ | refine bdr ?_ | refine below_tr' ?_ HB1.out))⟩
    | true =>
      go_enter Try.func111, Try.ntmps111
      go_wp2_with (first
        | (go_at_call 151; (with_reducible refine (HA.out _ (by repeat (first | exact Below.refl _ _ | refine bset ?_ _ _ (by omega) _ | refine bal ?_ _ | refine bdrN ?_ _ | refine bdr ?_))).mono ?_); rintro e w1_ ⟨rfl, hb1⟩; obtain ⟨hcb1, hfb1, hlb1⟩ := bcell hb1; have hsz1 := hb1.size; (try simp at hsz1); have HB1 := Lib.hid hb1; clear hb1; (try (have hl01 : w.heap.size < w1_.heap.size := by omega)))
        | (go_at_call 152; (with_reducible refine (HL.out _ (by repeat (first | exact Below.refl _ _ | refine bset ?_ _ _ (by omega) _ | refine bal ?_ _ | refine bdrN ?_ _ | refine bdr ?_ | refine below_tr' ?_ HB1.out))).mono ?_); rintro e w2_ ⟨rfl, hb2⟩; obtain ⟨hcb2, hfb2, hlb2⟩ := bcell hb2; have hsz2 := hb2.size; (try simp at hsz2); have HB2 := Lib.hid hb2; clear hb2; (try (have hl02 : w.heap.size < w2_.heap.size := by omega))))
      go_ret
      exact ⟨ret_bool (by rw [HR.out]; rfl), (by repeat (first | exact Below.refl _ _ | refine bset ?_ _ _ (by omega) _ | refine bal ?_ _ | refine bdrN ?_ _ | refine bdr ?_ | refine below_tr' ?_ HB2.out | refine below_tr' ?_ HB1.out))⟩
  · have HR : Hid (figB n1 n2 l1 l2 = false) := Lib.hid (by unfold figB; rw [decide_eq_false hc, Bool.and_false, Bool.false_and])
    clear h1 h2
    have hcz : ¬ (n1 : Int) ≤ 16 := by omega
    generalize figB n1 n2 l1 l2 = r at *
    generalize (ascB l1 && decide (n1 ≤ 60)) = u1 at *
    cases u1 with
    | false =>
      go_enter Try.func111, Try.ntmps111
      go_wp2_with (go_at_call 151; (with_reducible refine (HA.out _ (by repeat (first | exact Below.refl _ _ | refine bset ?_ _ _ (by omega) _ | refine bal ?_ _ | refine bdrN ?_ _ | refine bdr ?_))).mono ?_); rintro e w1_ ⟨rfl, hb1⟩; obtain ⟨hcb1, hfb1, hlb1⟩ := bcell hb1; have hsz1 := hb1.size; (try simp at hsz1); have HB1 := Lib.hid hb1; clear hb1; (try (have hl01 : w.heap.size < w1_.heap.size := by omega)))
      go_ret
      exact ⟨ret_bool (by rw [HR.out]), (by repeat (first | exact Below.refl _ _ | refine bset ?_ _ _ (by omega) _ | refine bal ?_ _ | refine bdrN ?_ _ | refine bdr ?_ | refine below_tr' ?_ HB1.out))⟩
    | true =>
      go_enter Try.func111, Try.ntmps111
      go_wp2_with (go_at_call 151; (with_reducible refine (HA.out _ (by repeat (first | exact Below.refl _ _ | refine bset ?_ _ _ (by omega) _ | refine bal ?_ _ | refine bdrN ?_ _ | refine bdr ?_))).mono ?_); rintro e w1_ ⟨rfl, hb1⟩; obtain ⟨hcb1, hfb1, hlb1⟩ := bcell hb1; have hsz1 := hb1.size; (try simp at hsz1); have HB1 := Lib.hid hb1; clear hb1; (try (have hl01 : w.heap.size < w1_.heap.size := by omega)))
      go_ret
      exact ⟨ret_bool (by rw [HR.out]), (by repeat (first | exact Below.refl _ _ | refine bset ?_ _ _ (by omega) _ | refine bal ?_ _ | refine bdrN ?_ _ | refine bdr ?_ | refine below_tr' ?_ HB1.out))⟩
end Go.Proofs.Ythkbhaaodegocaa
