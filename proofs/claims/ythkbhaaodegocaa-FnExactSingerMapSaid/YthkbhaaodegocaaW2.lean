/- Contracts: points and lists of points, the codes of their validity. -/
import Derived.Test.YthkbhaaodegocaaW1
namespace Go.Proofs.Ythkbhaaodegocaa
open Go.RowKit
set_option linter.unusedVariables false
set_option linter.unusedSimpArgs false

abbrev ptV (x y z : Int) : Value := .agg #[.int .i64 x, .int .i64 y, .int .i64 z]

theorem new3 (w : World) (g : Nat) (x y z : Int) (T : TypeId) (hg : g = w.heap.size) : ∀ i, i < 3 → (w.alloc (.cells #[.int .i64 x, .int .i64 y, .int .i64 z] T)).cell? ⟨g, 0 + i, none⟩ = some (.int .i64 ([x, y, z].getD i 0)) := by
  intro i hi
  rw [World.cell?_alloc_at _ _ _ _ hg]
  match i, hi with
  | 0, _ => rfl
  | 1, _ => rfl
  | 2, _ => rfl

theorem IsPoint_yes (p x y z : Int) (w : World) (hp : prB p = true) :
    Calls Try.prog 81 #[.int .i64 p, ptV x y z] w (Ret w (.bool (normB p [x, y, z]))) := by
  have hb := prB_bd hp
  obtain ⟨h1, h2⟩ := hb
  have HP := Lib.hid hp; clear hp
  go_enter Try.func81, Try.ntmps81
  go_wp2_with (first
    | (go_at_call 73; refine (isPrime_yes _ _ HP.out).mono ?_; rintro e w' ⟨rfl, rfl⟩)
    | (go_at_call 134; refine (isNormal_any p _ 0 3 3 [x, y, z] _ h1 h2 rfl (by omega) (new3 _ _ _ _ _ _ (by simp))).mono ?_; rintro e w' ⟨rfl, rfl⟩))
  go_ret
  exact ⟨rfl, (Below.refl _ _).alloc (Nat.le_refl _) _⟩
theorem IsPoint_no (p x y z : Int) (w : World) (hp : prB p = false) :
    Calls Try.prog 81 #[.int .i64 p, ptV x y z] w (Ret w (.bool false)) := by
  have HP := Lib.hid hp; clear hp
  go_enter Try.func81, Try.ntmps81
  go_wp2_with (go_at_call 73; refine (isPrime_no _ _ HP.out).mono ?_; rintro e w' ⟨rfl, rfl⟩)
  go_ret
  exact ⟨rfl, (Below.refl _ _).alloc (Nat.le_refl _) _⟩
theorem IsPoint_any (p x y z : Int) (w : World) :
    Calls Try.prog 81 #[.int .i64 p, ptV x y z] w (Ret w (.bool (ptB p x y z))) := by
  cases hp : prB p with
  | true => refine (IsPoint_yes p x y z w hp).mono ?_; rintro e w' ⟨rfl, h⟩; exact ⟨ret_bool (by unfold ptB; rw [hp]; rfl), h⟩
  | false => refine (IsPoint_no p x y z w hp).mono ?_; rintro e w' ⟨rfl, h⟩; exact ⟨ret_bool (by unfold ptB; rw [hp]; rfl), h⟩
/-- The points of a slice. -/
def PtsAt (w : World) (b o n : Nat) (l : List Pt) : Prop := ∀ i, i < n →
  w.cell? ⟨b, o + i * 3, none⟩ = some (.int .i64 (l.getD i (0,0,0)).1) ∧ w.cell? ⟨b, o + i * 3 + 1, none⟩ = some (.int .i64 (l.getD i (0,0,0)).2.1) ∧ w.cell? ⟨b, o + i * 3 + 2, none⟩ = some (.int .i64 (l.getD i (0,0,0)).2.2)
theorem cell_below {w w1 : World} (h : Below w.heap.size w w1) {a : Addr} {v : Value} (hc : w.cell? a = some v) : w1.cell? a = some v := (h.cell (World.block_lt_of_cell? w a hc)).trans hc
theorem PtsAt.below {w w1 : World} {b o n : Nat} {l : List Pt} (h : PtsAt w b o n l) (hb : Below w.heap.size w w1) : PtsAt w1 b o n l :=
  fun i hi => ⟨cell_below hb (h i hi).1, cell_below hb (h i hi).2.1, cell_below hb (h i hi).2.2⟩
theorem arePoints_any (p : Int) (b o n cap : Nat) (l : List Pt) (w : World) (hl : l.length = n) (hn : n ≤ 4611686018427387904) (hc : PtsAt w b o n l) :
    Calls Try.prog 145 #[.int .i64 p, .slice (some ⟨b, o, none⟩) n cap] w (Ret w (.bool (ptsB p l))) := by
  have HL := Lib.hid hl; clear hl
  have HC := Lib.hid hc; clear hc
  go_enter Try.func145, Try.ntmps145
  go_wp2
  go_loopw [9] (fun i wr => ∃ k : Nat, k ≤ n ∧ i = .int .i64 k ∧ ptsB p (l.take k) = true ∧ Below w.heap.size w wr) (fun i wr => n - (intOf i).toNat)
  case atStart => exact ⟨0, Nat.zero_le _, rfl, rfl, Below.refl _ _⟩
  case round =>
    obtain ⟨k, hk, rfl, hd, hbl⟩ := hrel
    have HD := Lib.hid hd; clear hd
    by_cases hlt : k < n
    · obtain ⟨c0, c1, c2⟩ := HC.out.below hbl k hlt
      have HS := Lib.hid (take_snoc' l (0,0,0) k (by have := HL.out; omega))
      have HF := Lib.hid (fun h => ptsB_false (p := p) (l := l) (k := k) (by have := HL.out; omega) h)
      have HB := Lib.hid hbl; clear hbl
      generalize l.getD k (0,0,0) = a at *
      obtain ⟨x, y, z⟩ := a
      simp only at c0 c1 c2
      cases hv : ptB p x y z with
      | true =>
        have HV := Lib.hid hv; clear hv
        go_wp2_with (go_at_call 81; refine (IsPoint_any _ _ _ _ _).mono ?_; rintro e w' ⟨rfl, hb2⟩; rw [HV.out]; have HB2 := Lib.hid hb2; clear hb2)
        go_roundw
        case rel => exact ⟨k + 1, by omega, by go_num, by rw [HS.out, ptsB_snoc, HD.out]; exact HV.out, below_al_tr HB.out HB2.out⟩
        case measure => simp [intOf]; omega
      | false =>
        have HV := Lib.hid hv; clear hv
        go_wp2_with (go_at_call 81; refine (IsPoint_any _ _ _ _ _).mono ?_; rintro e w' ⟨rfl, hb2⟩; rw [HV.out]; have HB2 := Lib.hid hb2; clear hb2)
        go_ret
        exact ⟨ret_bool (HF.out HV.out).symm, below_al_tr HB.out HB2.out⟩
    · have HB := Lib.hid hbl; clear hbl
      go_wp2
      go_ret
      refine ⟨ret_bool ?_, HB.out⟩
      have h := HD.out
      rw [List.take_of_length_le (by have := HL.out; omega)] at h
      exact h.symm
/-- A line's numbers are asked as a point's. -/
theorem IsLine_any (p x y z : Int) (w : World) :
    Calls Try.prog 82 #[.int .i64 p, ptV x y z] w (Ret w (.bool (ptB p x y z))) := by
  cases hp : prB p with
  | true =>
    obtain ⟨h1, h2⟩ := prB_bd hp
    have HP := Lib.hid hp; clear hp
    go_enter Try.func82, Try.ntmps82
    go_wp2_with (first
      | (go_at_call 73; refine (isPrime_yes _ _ HP.out).mono ?_; rintro e w' ⟨rfl, rfl⟩)
      | (go_at_call 134; refine (isNormal_any p _ 0 3 3 [x, y, z] _ h1 h2 rfl (by omega) (new3 _ _ _ _ _ _ (by simp))).mono ?_; rintro e w' ⟨rfl, rfl⟩))
    go_ret
    exact ⟨ret_bool (by unfold ptB; rw [HP.out]; rfl), (Below.refl _ _).alloc (Nat.le_refl _) _⟩
  | false =>
    have HP := Lib.hid hp; clear hp
    go_enter Try.func82, Try.ntmps82
    go_wp2_with (go_at_call 73; refine (isPrime_no _ _ HP.out).mono ?_; rintro e w' ⟨rfl, rfl⟩)
    go_ret
    exact ⟨ret_bool (by unfold ptB; rw [HP.out]; rfl), (Below.refl _ _).alloc (Nat.le_refl _) _⟩
theorem areLines_any (p : Int) (b o n cap : Nat) (l : List Pt) (w : World) (hl : l.length = n) (hn : n ≤ 4611686018427387904) (hc : PtsAt w b o n l) :
    Calls Try.prog 154 #[.int .i64 p, .slice (some ⟨b, o, none⟩) n cap] w (Ret w (.bool (ptsB p l))) := by
  have HL := Lib.hid hl; clear hl
  have HC := Lib.hid hc; clear hc
  go_enter Try.func154, Try.ntmps154
  go_wp2
  go_loopw [9] (fun i wr => ∃ k : Nat, k ≤ n ∧ i = .int .i64 k ∧ ptsB p (l.take k) = true ∧ Below w.heap.size w wr) (fun i wr => n - (intOf i).toNat)
  case atStart => exact ⟨0, Nat.zero_le _, rfl, rfl, Below.refl _ _⟩
  case round =>
    obtain ⟨k, hk, rfl, hd, hbl⟩ := hrel
    have HD := Lib.hid hd; clear hd
    by_cases hlt : k < n
    · obtain ⟨c0, c1, c2⟩ := HC.out.below hbl k hlt
      have HS := Lib.hid (take_snoc' l (0,0,0) k (by have := HL.out; omega))
      have HF := Lib.hid (fun h => ptsB_false (p := p) (l := l) (k := k) (by have := HL.out; omega) h)
      have HB := Lib.hid hbl; clear hbl
      generalize l.getD k (0,0,0) = a at *
      obtain ⟨x, y, z⟩ := a
      simp only at c0 c1 c2
      cases hv : ptB p x y z with
      | true =>
        have HV := Lib.hid hv; clear hv
        go_wp2_with (go_at_call 82; refine (IsLine_any _ _ _ _ _).mono ?_; rintro e w' ⟨rfl, hb2⟩; rw [HV.out]; have HB2 := Lib.hid hb2; clear hb2)
        go_roundw
        case rel => exact ⟨k + 1, by omega, by go_num, by rw [HS.out, ptsB_snoc, HD.out]; exact HV.out, below_al_tr HB.out HB2.out⟩
        case measure => simp [intOf]; omega
      | false =>
        have HV := Lib.hid hv; clear hv
        go_wp2_with (go_at_call 82; refine (IsLine_any _ _ _ _ _).mono ?_; rintro e w' ⟨rfl, hb2⟩; rw [HV.out]; have HB2 := Lib.hid hb2; clear hb2)
        go_ret
        exact ⟨ret_bool (HF.out HV.out).symm, below_al_tr HB.out HB2.out⟩
    · have HB := Lib.hid hbl; clear hbl
      go_wp2
      go_ret
      refine ⟨ret_bool ?_, HB.out⟩
      have h := HD.out
      rw [List.take_of_length_le (by have := HL.out; omega)] at h
      exact h.symm
theorem codeOf_no {p : Int} (b : Bool) (h : prB p = false) : codeOf p b = 2 := by unfold codeOf; rw [h]; rfl
theorem codeOf_t {p : Int} (h : prB p = true) : codeOf p true = 0 := by unfold codeOf; rw [h]; rfl
theorem codeOf_f {p : Int} (h : prB p = true) : codeOf p false = 1 := by unfold codeOf; rw [h]; rfl
theorem codeOf_yes {p : Int} (b : Bool) (h : prB p = true) : codeOf p b = if b then 0 else 1 := by unfold codeOf; rw [h]; rfl
theorem planeCode_no (p : Int) (f : Value) (w : World) (hp : prB p = false) :
    Calls Try.prog 143 #[.int .i64 p, f] w fun e w' => e = .returned (.int .i64 2) ∧ w = w' := by
  have HP := Lib.hid hp; clear hp
  go_enter Try.func143, Try.ntmps143
  go_wp2_with (go_at_call 73; refine (isPrime_no _ _ HP.out).mono ?_; rintro e w' ⟨rfl, rfl⟩)
  go_ret
  exact ⟨rfl, rfl⟩
theorem PtsAt.alloc {w : World} {b o n : Nat} {l : List Pt} (h : PtsAt w b o n l) (ob : Obj) : PtsAt (w.alloc ob) b o n l := h.below ((Below.refl _ _).alloc (Nat.le_refl _) _)
theorem pointsCode_any (p : Int) (b o n cap : Nat) (l : List Pt) (w : World) (hl : l.length = n) (hn : n ≤ 4611686018427387904) (hc : PtsAt w b o n l) :
    Calls Try.prog 99 #[.int .i64 p, .slice (some ⟨b, o, none⟩) n cap] w (Ret w (.int .i64 (codeOf p (ptsB p l)))) := by
  have HL := Lib.hid hl; clear hl
  have HC := Lib.hid hc; clear hc
  cases hp : prB p with
  | false =>
    have HP := Lib.hid hp; clear hp
    go_enter Try.func99, Try.ntmps99
    go_wp2_with (go_at_call 143; refine (planeCode_no _ _ _ HP.out).mono ?_; rintro e w' ⟨rfl, rfl⟩)
    go_ret
    exact ⟨ret_int (codeOf_no _ HP.out).symm, by repeat (first | exact Below.refl _ _ | refine bal ?_ _)⟩
  | true =>
    have HP := Lib.hid hp; clear hp
    cases hv : ptsB p l with
    | true =>
      have HV := Lib.hid hv; clear hv
      go_enter Try.func99, Try.ntmps99
      go_wp2_with (first
        | (go_at_call 73; refine (isPrime_yes _ _ HP.out).mono ?_; rintro e w' ⟨rfl, rfl⟩)
        | (go_at_call 143; go_in)
        | (go_at_call 144; go_in)
        | (go_at_call 145; refine (arePoints_any _ _ _ _ _ l _ HL.out hn ((HC.out.alloc _).alloc _)).mono ?_ ; rintro e w' ⟨rfl, hb2⟩; rw [HV.out]; have HB2 := Lib.hid hb2; clear hb2))
      go_ret
      exact ⟨ret_int (codeOf_t HP.out).symm, below_tr' (by repeat (first | exact Below.refl _ _ | refine bal ?_ _)) HB2.out⟩
    | false =>
      have HV := Lib.hid hv; clear hv
      go_enter Try.func99, Try.ntmps99
      go_wp2_with (first
        | (go_at_call 73; refine (isPrime_yes _ _ HP.out).mono ?_; rintro e w' ⟨rfl, rfl⟩)
        | (go_at_call 143; go_in)
        | (go_at_call 144; go_in)
        | (go_at_call 145; refine (arePoints_any _ _ _ _ _ l _ HL.out hn ((HC.out.alloc _).alloc _)).mono ?_ ; rintro e w' ⟨rfl, hb2⟩; rw [HV.out]; have HB2 := Lib.hid hb2; clear hb2))
      go_ret
      exact ⟨ret_int (codeOf_f HP.out).symm, below_tr' (by repeat (first | exact Below.refl _ _ | refine bal ?_ _)) HB2.out⟩
/-! ### the reference -/
theorem l01List_any (x y z : Int) (w : World) :
    Calls Try.prog 161 #[ptV x y z] w fun e w' => e = .returned (.slice (some ⟨w.heap.size + 1, 0, none⟩) 3 3) ∧ (w.alloc (.cells #[.int .i64 x, .int .i64 y, .int .i64 z] 23)).alloc (.cells #[.int .i64 x, .int .i64 y, .int .i64 z] 2) = w' := by
  go_enter Try.func161, Try.ntmps161
  go_wp2
  go_ret
  exact ⟨rfl, rfl⟩
theorem l01Point_any (p x y z : Int) (w : World) :
    Calls Try.prog 129 #[.int .i64 p, ptV x y z] w (Ret w (.bool (ptB p x y z))) := by
  cases hp : prB p with
  | true =>
    obtain ⟨h1, h2⟩ := prB_bd hp
    have HP := Lib.hid hp; clear hp
    go_enter Try.func129, Try.ntmps129
    go_wp2_with (first
      | (go_at_call 68; refine (l01Prime_yes _ _ HP.out).mono ?_; rintro e w' ⟨rfl, rfl⟩)
      | (go_at_call 161; refine (l01List_any _ _ _ _).mono ?_; rintro e w' ⟨rfl, rfl⟩)
      | (go_at_call 160; refine (l01Normal_any p _ 0 3 3 [x, y, z] _ h1 h2 rfl (by omega) (new3 _ _ _ _ _ _ (by simp))).mono ?_; rintro e w' ⟨rfl, rfl⟩))
    go_ret
    exact ⟨ret_bool (by unfold ptB; rw [HP.out]; rfl), by repeat (first | exact Below.refl _ _ | refine bal ?_ _)⟩
  | false =>
    have HP := Lib.hid hp; clear hp
    go_enter Try.func129, Try.ntmps129
    go_wp2_with (go_at_call 68; refine (l01Prime_no _ _ HP.out).mono ?_; rintro e w' ⟨rfl, rfl⟩)
    go_ret
    exact ⟨ret_bool (by unfold ptB; rw [HP.out]; rfl), by repeat (first | exact Below.refl _ _ | refine bal ?_ _)⟩
theorem l01Code_any (p : Int) (b o n cap : Nat) (l : List Pt) (w : World) (hl : l.length = n) (hn : n ≤ 4611686018427387904) (hc : PtsAt w b o n l) :
    Calls Try.prog 94 #[.int .i64 p, .slice (some ⟨b, o, none⟩) n cap] w (Ret w (.int .i64 (codeOf p (ptsB p l)))) := by
  have HL := Lib.hid hl; clear hl
  have HC := Lib.hid hc; clear hc
  cases hp : prB p with
  | false =>
    have HP := Lib.hid hp; clear hp
    go_enter Try.func94, Try.ntmps94
    go_wp2_with (go_at_call 68; refine (l01Prime_no _ _ HP.out).mono ?_; rintro e w' ⟨rfl, rfl⟩)
    go_ret
    exact ⟨ret_int (codeOf_no _ HP.out).symm, Below.refl _ _⟩
  | true =>
    have HP := Lib.hid hp; clear hp
    go_enter Try.func94, Try.ntmps94
    go_wp2_with (go_at_call 68; refine (l01Prime_yes _ _ HP.out).mono ?_; rintro e w' ⟨rfl, rfl⟩)
    go_loopw [5] (fun i wr => ∃ k : Nat, k ≤ n ∧ i = .int .i64 k ∧ ptsB p (l.take k) = true ∧ Below w.heap.size w wr) (fun i wr => n - (intOf i).toNat)
    case atStart => exact ⟨0, Nat.zero_le _, rfl, rfl, Below.refl _ _⟩
    case round =>
      obtain ⟨k, hk, rfl, hd, hbl⟩ := hrel
      have HD := Lib.hid hd; clear hd
      by_cases hlt : k < n
      · obtain ⟨c0, c1, c2⟩ := HC.out.below hbl k hlt
        have HS := Lib.hid (take_snoc' l (0,0,0) k (by have := HL.out; omega))
        have HF := Lib.hid (fun h => ptsB_false (p := p) (l := l) (k := k) (by have := HL.out; omega) h)
        have HB := Lib.hid hbl; clear hbl
        generalize l.getD k (0,0,0) = a at *
        obtain ⟨x, y, z⟩ := a
        simp only at c0 c1 c2
        cases hv : ptB p x y z with
        | true =>
          have HV := Lib.hid hv; clear hv
          go_wp2_with (go_at_call 129; refine (l01Point_any _ _ _ _ _).mono ?_; rintro e w' ⟨rfl, hb2⟩; rw [HV.out]; have HB2 := Lib.hid hb2; clear hb2)
          go_roundw
          case rel => exact ⟨k + 1, by omega, by go_num, by rw [HS.out, ptsB_snoc, HD.out]; exact HV.out, below_tr' HB.out HB2.out⟩
          case measure => simp [intOf]; omega
        | false =>
          have HV := Lib.hid hv; clear hv
          go_wp2_with (go_at_call 129; refine (l01Point_any _ _ _ _ _).mono ?_; rintro e w' ⟨rfl, hb2⟩; rw [HV.out]; have HB2 := Lib.hid hb2; clear hb2)
          go_ret
          exact ⟨ret_int (by rw [HF.out HV.out, codeOf_f HP.out]), below_tr' HB.out HB2.out⟩
      · have HB := Lib.hid hbl; clear hbl
        go_wp2
        go_ret
        refine ⟨ret_int ?_, HB.out⟩
        have h := HD.out
        rw [List.take_of_length_le (by have := HL.out; omega)] at h
        rw [h, codeOf_t HP.out]
theorem l01Line_any (p x y z : Int) (w : World) :
    Calls Try.prog 130 #[.int .i64 p, ptV x y z] w (Ret w (.bool (ptB p x y z))) := by
  go_enter Try.func130, Try.ntmps130
  go_wp2_with (go_at_call 129; refine (l01Point_any _ _ _ _ _).mono ?_; rintro e w' ⟨rfl, hb2⟩; have HB2 := Lib.hid hb2; clear hb2)
  go_ret
  exact ⟨rfl, below_tr' (by repeat (first | exact Below.refl _ _ | refine bal ?_ _)) HB2.out⟩
/-! ### the laws' own -/
theorem toPoint_any (x y z : Int) (w : World) :
    Calls Try.prog 41 #[ptV x y z] w (Ret w (ptV x y z)) := by
  go_enter Try.func41, Try.ntmps41
  go_wp2
  refine wp_loop_rounds 4 ?_
  repeat any_goals (rw [rounds_succ]; go_wp2)
  exact bodyPost_ret (v := ptV x y z) (by simp [results, Try.results41, go_sem]) rfl ⟨rfl, by repeat (first | exact Below.refl _ _ | refine bal ?_ _)⟩
theorem toLine_any (x y z : Int) (w : World) :
    Calls Try.prog 78 #[ptV x y z] w (Ret w (ptV x y z)) := by
  go_enter Try.func78, Try.ntmps78
  go_wp2
  refine wp_loop_rounds 4 ?_
  repeat any_goals (rw [rounds_succ]; go_wp2)
  exact bodyPost_ret (v := ptV x y z) (by simp [results, Try.results78, go_sem]) rfl ⟨rfl, by repeat (first | exact Below.refl _ _ | refine bal ?_ _)⟩
theorem eqPoint_same (x y z : Int) (w : World) :
    Calls Try.prog 43 #[ptV x y z, ptV x y z] w (Ret w (.bool true)) := by
  go_enter Try.func43, Try.ntmps43
  go_wp2
  refine wp_loop_rounds 4 ?_
  iterate 3 (rw [rounds_succ]; go_wp2; go_quiet (fail); go_wp2)
  rw [rounds_succ]; go_wp2
  go_ret
  exact ⟨rfl, by repeat (first | exact Below.refl _ _ | refine bal ?_ _ | refine bdrN ?_ _ | refine bdr ?_)⟩
theorem eqLine_same (x y z : Int) (w : World) :
    Calls Try.prog 56 #[ptV x y z, ptV x y z] w (Ret w (.bool true)) := by
  go_enter Try.func56, Try.ntmps56
  go_wp2
  refine wp_loop_rounds 4 ?_
  iterate 3 (rw [rounds_succ]; go_wp2; go_quiet (fail); go_wp2)
  rw [rounds_succ]; go_wp2
  go_ret
  exact ⟨rfl, by repeat (first | exact Below.refl _ _ | refine bal ?_ _ | refine bdrN ?_ _ | refine bdr ?_)⟩
end Go.Proofs.Ythkbhaaodegocaa
