/- Texts of the claim, in build order: U8, UA, ST1, ST2, ST3, H5, H6, H7, U9, IR5, IR6, FS1, FS2. No condition. -/
import Derived.KernelRfl
import Derived.Test.YtbeeecahkchjnaaZFnSets8
/- Contracts: the program's and the specification's TranslateSet and TranslateOf. -- numbers -/
namespace Go.Proofs.Ytbeeecahkchjnaa
open Go.RowKit
set_option linter.unusedVariables false
set_option linter.unusedSimpArgs false
theorem ArgK.toI {w : World} {b : Option Addr} {n : Nat} {l : List Int} (h : ArgK w b n l) : ArgI w b n l := fun h0 => by
  obtain ⟨g, e, h1⟩ := h.out h0
  exact ⟨g, 0, e, h1.out⟩
theorem setB_bd {n : Int} {l : List Int} (h : setB n l = true) : 2 ≤ n ∧ n ≤ 1000 ∧ l.length ≤ 60 ∧ ∀ k ∈ l, 0 ≤ k ∧ k < n := by
  obtain ⟨⟨h1, h2⟩, h3, h4⟩ := setB_yes h
  refine ⟨h1, h2, h3, fun k hk => ?_⟩
  obtain ⟨i, hi, rfl⟩ := List.mem_iff_getElem.1 hk
  have := okB_at h4 hi
  simp [List.getD, hi] at this
  omega
theorem isNumberSet_v (n : Int) (b : Option Addr) (c : Nat) (l : List Int) (w : World) (v : Bool) (hv : setB n l = v) (hl : l.length ≤ 1000000) (hA : ArgK w b l.length l) :
    Calls Try.prog 23 #[.int .i64 n, .slice b l.length c] w (Ret w (.bool v)) := by
  rw [← hv]; exact isNumberSet_any n b l.length c l w rfl hl hA.toI
theorem l10Set_v (n : Int) (b : Option Addr) (c : Nat) (l : List Int) (w : World) (v : Int) (hv : codeS n l = v) (hl : l.length ≤ 1000000) (hA : ArgK w b l.length l) :
    Calls Try.prog 27 #[.int .i64 n, .slice b l.length c] w (Ret w (.int .i64 v)) := by
  rw [← hv]; exact l10Set_any n b l.length c l w rfl hl hA.toI
set_option maxHeartbeats 4000000 in
theorem TranslateSet_impl_yes (n t : Int) (b : Option Addr) (c : Nat) (l : List Int) (w : World) (hs0 : setB n l = true) (t0 : 0 ≤ t) (t2 : t ≤ n - 1) (hP : ArgK w b l.length l) :
    Calls Try.prog 9 #[.int .i64 n, .slice b l.length c, .int .i64 t] w (IntsPost2 w (sortN (movN n 1 t l))) := by
  obtain ⟨n2, n1, hl60, HB⟩ := setB_bd hs0
  have HB := Lib.hid HB
  have hl : l.length ≤ 1000000 := by omega
  go_enter Try.func9, Try.ntmps9
  go_wp2_with (first | (refine wl_load ?_) | (refine wl_store ?_) | (refine wl_build ?_) | (refine wl_slice ?_) | (refine wl_append ?_; intro v' w' ho hg hb; have hs := hg.size; (try simp at hs); (try rw [ptCs_end] at ho); (try rw [ints_end] at ho); (try simp only [Nat.zero_add, Nat.reduceAdd, List.nil_append, List.cons_append] at ho)) | (go_at_call 23; (with_reducible refine (isNumberSet_v n b c l _ true hs0 hl findArg).mono ?_); rintro e w' ⟨rfl, hb⟩; have hl := Link.mk hb; have hs := hb.size; (try simp at hs); clear hb) | (go_at_call 29; (with_reducible refine (within_yes _ _ _ _ t0 t2).mono ?_); rintro e w' ⟨rfl, rfl⟩) | (go_at_call 30; (with_reducible refine (moved_any n 1 t b c l _ n2 n1 (by omega) (by omega) t0 (by omega) HB.out (by omega) findArg).mono ?_); rintro e w' ⟨v, rfl, hO, hb⟩; have hl2 := Link.mk hb; have hs := hb.size; clear hb))
  (apply ret_two Try.results9; (conv => lhs; whnf); (conv => lhs; whnf); exact rfl)
  exact ⟨_, rfl, (hO.rebase (by omega)).out, LowK.out findLow⟩
set_option maxHeartbeats 4000000 in
theorem TranslateSet_impl_no (n t : Int) (b : Option Addr) (c : Nat) (l : List Int) (w : World) (hl : l.length ≤ 1000000) (hno : setB n l = false ∨ t < 0 ∨ n - 1 < t) (hP : ArgK w b l.length l) :
    Calls Try.prog 9 #[.int .i64 n, .slice b l.length c, .int .i64 t] w (Ret w (.tuple #[.slice none 0 0, .int .i64 2])) := by
  rcases hs0 : setB n l with _ | _
  · go_enter Try.func9, Try.ntmps9
    go_wp2_with (first | (refine wl_load ?_) | (refine wl_store ?_) | (refine wl_build ?_) | (refine wl_slice ?_) | (refine wl_append ?_; intro v' w' ho hg hb; have hs := hg.size; (try simp at hs); (try rw [ptCs_end] at ho); (try rw [ints_end] at ho); (try simp only [Nat.zero_add, Nat.reduceAdd, List.nil_append, List.cons_append] at ho)) | (go_at_call 23; (with_reducible refine (isNumberSet_v n b c l _ false hs0 hl findArg).mono ?_); rintro e w' ⟨rfl, hb⟩; have hl := Link.mk hb; have hs := hb.size; (try simp at hs); clear hb))
    (apply ret_two Try.results9; (conv => lhs; whnf); (conv => lhs; whnf); exact rfl)
    exact ret_ret rfl findLow
  · have hr : t < 0 ∨ n - 1 < t := by rcases hno with h | h; (· rw [h] at hs0; cases hs0); exact h
    obtain ⟨n2, n1, hl60, HB⟩ := setB_bd hs0
    have HB := Lib.hid HB
    go_enter Try.func9, Try.ntmps9
    go_wp2_with (first | (refine wl_load ?_) | (refine wl_store ?_) | (refine wl_build ?_) | (refine wl_slice ?_) | (refine wl_append ?_; intro v' w' ho hg hb; have hs := hg.size; (try simp at hs); (try rw [ptCs_end] at ho); (try rw [ints_end] at ho); (try simp only [Nat.zero_add, Nat.reduceAdd, List.nil_append, List.cons_append] at ho)) | (go_at_call 23; (with_reducible refine (isNumberSet_v n b c l _ true hs0 hl findArg).mono ?_); rintro e w' ⟨rfl, hb⟩; have hl := Link.mk hb; have hs := hb.size; (try simp at hs); clear hb) | (go_at_call 29; (with_reducible refine (within_no _ _ _ _ hr).mono ?_); rintro e w' ⟨rfl, rfl⟩))
    (apply ret_two Try.results9; (conv => lhs; whnf); (conv => lhs; whnf); exact rfl)
    exact ret_ret rfl findLow
set_option maxHeartbeats 4000000 in
theorem TranslateSet_spec_yes (n t : Int) (b : Option Addr) (c : Nat) (l : List Int) (w : World) (hs0 : setB n l = true) (t0 : 0 ≤ t) (t2 : t ≤ n - 1) (hP : ArgK w b l.length l) :
    Calls Try.prog 10 #[.int .i64 n, .slice b l.length c, .int .i64 t] w (IntsPost2 w (sortN (movN n 1 t l))) := by
  obtain ⟨n2, n1, hl60, HB⟩ := setB_bd hs0
  have HB := Lib.hid HB
  have hl : l.length ≤ 1000000 := by omega
  have hc0 : codeS n l = 0 := by unfold codeS; rw [hs0]; rfl
  go_enter Try.func10, Try.ntmps10
  go_wp2_with (first | (refine wl_load ?_) | (refine wl_store ?_) | (refine wl_build ?_) | (refine wl_slice ?_) | (refine wl_append ?_; intro v' w' ho hg hb; have hs := hg.size; (try simp at hs); (try rw [ptCs_end] at ho); (try rw [ints_end] at ho); (try simp only [Nat.zero_add, Nat.reduceAdd, List.nil_append, List.cons_append] at ho)) | (go_at_call 27; (with_reducible refine (l10Set_v n b c l _ 0 hc0 hl findArg).mono ?_); rintro e w' ⟨rfl, hb⟩; have hl := Link.mk hb; have hs := hb.size; (try simp at hs); clear hb) | (go_at_call 31; (with_reducible refine (in_yes _ _ _ _ t0 t2).mono ?_); rintro e w' ⟨rfl, hb⟩; have hl := Link.mk hb; have hs := hb.size; (try simp at hs); clear hb) | (go_at_call 32; (with_reducible refine (l10Moved_any n 1 t b c l _ n2 n1 (by omega) (by omega) t0 (by omega) HB.out (by omega) findArg).mono ?_); rintro e w' ⟨v, rfl, hO, hb⟩; have hl2 := Link.mk hb; have hs := hb.size; clear hb))
  (apply ret_two Try.results10; (conv => lhs; whnf); (conv => lhs; whnf); exact rfl)
  exact ⟨_, rfl, (hO.rebase (by omega)).out, LowK.out findLow⟩
set_option maxHeartbeats 4000000 in
theorem TranslateSet_spec_no (n t : Int) (b : Option Addr) (c : Nat) (l : List Int) (w : World) (hl : l.length ≤ 1000000) (hno : setB n l = false ∨ t < 0 ∨ n - 1 < t) (hP : ArgK w b l.length l) :
    Calls Try.prog 10 #[.int .i64 n, .slice b l.length c, .int .i64 t] w (Ret w (.tuple #[.slice none 0 0, .int .i64 2])) := by
  rcases hs0 : setB n l with _ | _
  · have hc0 : codeS n l = 2 := by unfold codeS; rw [hs0]; rfl
    go_enter Try.func10, Try.ntmps10
    go_wp2_with (first | (refine wl_load ?_) | (refine wl_store ?_) | (refine wl_build ?_) | (refine wl_slice ?_) | (refine wl_append ?_; intro v' w' ho hg hb; have hs := hg.size; (try simp at hs); (try rw [ptCs_end] at ho); (try rw [ints_end] at ho); (try simp only [Nat.zero_add, Nat.reduceAdd, List.nil_append, List.cons_append] at ho)) | (go_at_call 27; (with_reducible refine (l10Set_v n b c l _ 2 hc0 hl findArg).mono ?_); rintro e w' ⟨rfl, hb⟩; have hl := Link.mk hb; have hs := hb.size; (try simp at hs); clear hb))
    (apply ret_two Try.results10; (conv => lhs; whnf); (conv => lhs; whnf); exact rfl)
    exact ret_ret rfl findLow
  · have hr : t < 0 ∨ n - 1 < t := by rcases hno with h | h; (· rw [h] at hs0; cases hs0); exact h
    obtain ⟨n2, n1, hl60, HB⟩ := setB_bd hs0
    have HB := Lib.hid HB
    have hc0 : codeS n l = 0 := by unfold codeS; rw [hs0]; rfl
    go_enter Try.func10, Try.ntmps10
    go_wp2_with (first | (refine wl_load ?_) | (refine wl_store ?_) | (refine wl_build ?_) | (refine wl_slice ?_) | (refine wl_append ?_; intro v' w' ho hg hb; have hs := hg.size; (try simp at hs); (try rw [ptCs_end] at ho); (try rw [ints_end] at ho); (try simp only [Nat.zero_add, Nat.reduceAdd, List.nil_append, List.cons_append] at ho)) | (go_at_call 27; (with_reducible refine (l10Set_v n b c l _ 0 hc0 hl findArg).mono ?_); rintro e w' ⟨rfl, hb⟩; have hl := Link.mk hb; have hs := hb.size; (try simp at hs); clear hb) | (go_at_call 31; (with_reducible refine (in_no _ _ _ _ hr).mono ?_); rintro e w' ⟨rfl, hb⟩; have hl := Link.mk hb; have hs := hb.size; (try simp at hs); clear hb))
    (apply ret_two Try.results10; (conv => lhs; whnf); (conv => lhs; whnf); exact rfl)
    exact ret_ret rfl findLow
theorem shiftO (v : Value) (n m : Int) (b : Option Addr) (c : Nat) (l : List Int) (w : World) (n2 : 2 ≤ n) (n1 : n ≤ 1000) (m0 : 0 ≤ m) (m1 : m < n) (hb : ∀ k ∈ l, 0 ≤ k ∧ k < n) (hl : l.length ≤ 1000) (hP : ArgK w b l.length l) (hv : Value.int .i64 (shiftI n m l) = v) :
    Calls Try.prog 33 #[.int .i64 n, .slice b l.length c, .int .i64 m] w (Ret w v) := by rw [← hv]; exact translateOf_any n m b c l w n2 n1 m0 m1 hb hl hP
theorem shiftO2 (v : Value) (n m : Int) (b : Option Addr) (c : Nat) (l : List Int) (w : World) (n2 : 2 ≤ n) (n1 : n ≤ 1000) (m0 : 0 ≤ m) (m1 : m < n) (hb : ∀ k ∈ l, 0 ≤ k ∧ k < n) (hl : l.length ≤ 1000) (hP : ArgK w b l.length l) (hv : shiftV n m l = v) :
    Calls Try.prog 34 #[.int .i64 n, .slice b l.length c, .int .i64 m] w (Ret w v) := by rw [← hv]; exact l10Shift_any n m b c l w n2 n1 m0 m1 hb hl hP
/-- What TranslateOf answers. -/
def trO (n m : Int) (l : List Int) : Value := if setB n l = true ∧ 1 ≤ m ∧ m ≤ n - 1 then (if 0 ≤ shiftI n m l then .tuple #[.int .i64 (shiftI n m l), .int .i64 0] else .tuple #[.int .i64 0, .int .i64 4]) else .tuple #[.int .i64 0, .int .i64 2]
set_option maxHeartbeats 4000000 in
theorem TranslateOf_impl (n m : Int) (b : Option Addr) (c : Nat) (l : List Int) (w : World) (hl : l.length ≤ 1000000) (hP : ArgK w b l.length l) :
    Calls Try.prog 13 #[.int .i64 n, .slice b l.length c, .int .i64 m] w (Ret w (trO n m l)) := by
  rcases hs0 : setB n l with _ | _
  · have hv : trO n m l = .tuple #[.int .i64 0, .int .i64 2] := by unfold trO; rw [if_neg (by simp [hs0])]
    rw [hv]
    go_enter Try.func13, Try.ntmps13
    go_wp2_with (first | (refine wl_load ?_) | (refine wl_store ?_) | (refine wl_build ?_) | (refine wl_slice ?_) | (refine wl_append ?_; intro v' w' ho hg hb; have hs := hg.size; (try simp at hs); (try rw [ptCs_end] at ho); (try rw [ints_end] at ho); (try simp only [Nat.zero_add, Nat.reduceAdd, List.nil_append, List.cons_append] at ho)) | (go_at_call 23; (with_reducible refine (isNumberSet_v n b c l _ false hs0 hl findArg).mono ?_); rintro e w' ⟨rfl, hb⟩; have hl := Link.mk hb; have hs := hb.size; (try simp at hs); clear hb))
    (apply ret_two Try.results13; (conv => lhs; whnf); (conv => lhs; whnf); exact rfl)
    exact ret_ret rfl findLow
  · obtain ⟨n2, n1, hl60, HB⟩ := setB_bd hs0
    have HB := Lib.hid HB
    by_cases hr' : 1 ≤ m ∧ m ≤ n - 1
    · obtain ⟨t0, t2⟩ := hr'
      by_cases h0 : 0 ≤ shiftI n m l
      · have hv : trO n m l = .tuple #[.int .i64 (shiftI n m l), .int .i64 0] := by unfold trO; rw [if_pos ⟨hs0, t0, t2⟩, if_pos h0]
        rw [hv]
        have hz : Value.int .i64 (shiftI n m l) = .int .i64 (shiftI n m l) := rfl
        obtain ⟨z, hz0⟩ : ∃ z, shiftI n m l = z := ⟨_, rfl⟩
        rw [hz0] at h0 ⊢
        rw [hz0] at hz
        clear hz
        have hz : Hid (Value.int .i64 (shiftI n m l) = .int .i64 z) := Lib.hid (by rw [hz0])
        clear hz0
        go_enter Try.func13, Try.ntmps13
        go_wp2_with (first | (refine wl_load ?_) | (refine wl_store ?_) | (refine wl_build ?_) | (refine wl_slice ?_) | (refine wl_append ?_; intro v' w' ho hg hb; have hs := hg.size; (try simp at hs); (try rw [ptCs_end] at ho); (try rw [ints_end] at ho); (try simp only [Nat.zero_add, Nat.reduceAdd, List.nil_append, List.cons_append] at ho)) | (go_at_call 23; (with_reducible refine (isNumberSet_v n b c l _ true hs0 hl findArg).mono ?_); rintro e w' ⟨rfl, hb⟩; have hl := Link.mk hb; have hs := hb.size; (try simp at hs); clear hb) | (go_at_call 29; (with_reducible refine (within_yes _ _ _ _ t0 t2).mono ?_); rintro e w' ⟨rfl, rfl⟩) | (go_at_call 33; (with_reducible refine (shiftO _ n m b c l _ n2 n1 (by omega) (by omega) HB.out (by omega) findArg hz.out).mono ?_); rintro e w' ⟨rfl, hb⟩; have hl := Link.mk hb; have hs := hb.size; (try simp at hs); clear hb))
        (apply ret_two Try.results13; (conv => lhs; whnf); (conv => lhs; whnf); exact rfl)
        exact ret_ret rfl findLow
      · have hv : trO n m l = .tuple #[.int .i64 0, .int .i64 4] := by unfold trO; rw [if_pos ⟨hs0, t0, t2⟩, if_neg h0]
        rw [hv]
        have hz : Value.int .i64 (shiftI n m l) = .int .i64 (shiftI n m l) := rfl
        obtain ⟨z, hz0⟩ : ∃ z, shiftI n m l = z := ⟨_, rfl⟩
        rw [hz0] at h0
        clear hz
        have hz : Hid (Value.int .i64 (shiftI n m l) = .int .i64 z) := Lib.hid (by rw [hz0])
        clear hz0
        go_enter Try.func13, Try.ntmps13
        go_wp2_with (first | (refine wl_load ?_) | (refine wl_store ?_) | (refine wl_build ?_) | (refine wl_slice ?_) | (refine wl_append ?_; intro v' w' ho hg hb; have hs := hg.size; (try simp at hs); (try rw [ptCs_end] at ho); (try rw [ints_end] at ho); (try simp only [Nat.zero_add, Nat.reduceAdd, List.nil_append, List.cons_append] at ho)) | (go_at_call 23; (with_reducible refine (isNumberSet_v n b c l _ true hs0 hl findArg).mono ?_); rintro e w' ⟨rfl, hb⟩; have hl := Link.mk hb; have hs := hb.size; (try simp at hs); clear hb) | (go_at_call 29; (with_reducible refine (within_yes _ _ _ _ t0 t2).mono ?_); rintro e w' ⟨rfl, rfl⟩) | (go_at_call 33; (with_reducible refine (shiftO _ n m b c l _ n2 n1 (by omega) (by omega) HB.out (by omega) findArg hz.out).mono ?_); rintro e w' ⟨rfl, hb⟩; have hl := Link.mk hb; have hs := hb.size; (try simp at hs); clear hb))
        (apply ret_two Try.results13; (conv => lhs; whnf); (conv => lhs; whnf); exact rfl)
        exact ret_ret rfl findLow
    · have hr : m < 1 ∨ n - 1 < m := by omega
      have hv : trO n m l = .tuple #[.int .i64 0, .int .i64 2] := by unfold trO; rw [if_neg (by omega)]
      rw [hv]
      go_enter Try.func13, Try.ntmps13
      go_wp2_with (first | (refine wl_load ?_) | (refine wl_store ?_) | (refine wl_build ?_) | (refine wl_slice ?_) | (refine wl_append ?_; intro v' w' ho hg hb; have hs := hg.size; (try simp at hs); (try rw [ptCs_end] at ho); (try rw [ints_end] at ho); (try simp only [Nat.zero_add, Nat.reduceAdd, List.nil_append, List.cons_append] at ho)) | (go_at_call 23; (with_reducible refine (isNumberSet_v n b c l _ true hs0 hl findArg).mono ?_); rintro e w' ⟨rfl, hb⟩; have hl := Link.mk hb; have hs := hb.size; (try simp at hs); clear hb) | (go_at_call 29; (with_reducible refine (within_no _ _ _ _ hr).mono ?_); rintro e w' ⟨rfl, rfl⟩))
      (apply ret_two Try.results13; (conv => lhs; whnf); (conv => lhs; whnf); exact rfl)
      exact ret_ret rfl findLow
set_option maxHeartbeats 4000000 in
theorem TranslateOf_spec (n m : Int) (b : Option Addr) (c : Nat) (l : List Int) (w : World) (hl : l.length ≤ 1000000) (hP : ArgK w b l.length l) :
    Calls Try.prog 14 #[.int .i64 n, .slice b l.length c, .int .i64 m] w (Ret w (trO n m l)) := by
  rcases hs0 : setB n l with _ | _
  · have hc0 : codeS n l = 2 := by unfold codeS; rw [hs0]; rfl
    have hv : trO n m l = .tuple #[.int .i64 0, .int .i64 2] := by unfold trO; rw [if_neg (by simp [hs0])]
    rw [hv]
    go_enter Try.func14, Try.ntmps14
    go_wp2_with (first | (refine wl_load ?_) | (refine wl_store ?_) | (refine wl_build ?_) | (refine wl_slice ?_) | (refine wl_append ?_; intro v' w' ho hg hb; have hs := hg.size; (try simp at hs); (try rw [ptCs_end] at ho); (try rw [ints_end] at ho); (try simp only [Nat.zero_add, Nat.reduceAdd, List.nil_append, List.cons_append] at ho)) | (go_at_call 27; (with_reducible refine (l10Set_v n b c l _ 2 hc0 hl findArg).mono ?_); rintro e w' ⟨rfl, hb⟩; have hl := Link.mk hb; have hs := hb.size; (try simp at hs); clear hb))
    (apply ret_two Try.results14; (conv => lhs; whnf); (conv => lhs; whnf); exact rfl)
    exact ret_ret rfl findLow
  · obtain ⟨n2, n1, hl60, HB⟩ := setB_bd hs0
    have HB := Lib.hid HB
    have hc0 : codeS n l = 0 := by unfold codeS; rw [hs0]; rfl
    by_cases hr' : 1 ≤ m ∧ m ≤ n - 1
    · obtain ⟨t0, t2⟩ := hr'
      by_cases h0 : 0 ≤ shiftI n m l
      · have hv : trO n m l = .tuple #[.int .i64 (shiftI n m l), .int .i64 0] := by unfold trO; rw [if_pos ⟨hs0, t0, t2⟩, if_pos h0]
        rw [hv]
        have hz : shiftV n m l = .tuple #[.int .i64 (shiftI n m l), .bool true] := by unfold shiftV; rw [if_pos h0]
        generalize shiftI n m l = z at *
        go_enter Try.func14, Try.ntmps14
        go_wp2_with (first | (refine wl_load ?_) | (refine wl_store ?_) | (refine wl_build ?_) | (refine wl_slice ?_) | (refine wl_append ?_; intro v' w' ho hg hb; have hs := hg.size; (try simp at hs); (try rw [ptCs_end] at ho); (try rw [ints_end] at ho); (try simp only [Nat.zero_add, Nat.reduceAdd, List.nil_append, List.cons_append] at ho)) | (go_at_call 27; (with_reducible refine (l10Set_v n b c l _ 0 hc0 hl findArg).mono ?_); rintro e w' ⟨rfl, hb⟩; have hl := Link.mk hb; have hs := hb.size; (try simp at hs); clear hb) | (go_at_call 31; (with_reducible refine (in_yes _ _ _ _ t0 t2).mono ?_); rintro e w' ⟨rfl, hb⟩; have hl := Link.mk hb; have hs := hb.size; (try simp at hs); clear hb) | (go_at_call 34; (with_reducible refine (shiftO2 _ n m b c l _ n2 n1 (by omega) (by omega) HB.out (by omega) findArg hz).mono ?_); rintro e w' ⟨rfl, hb⟩; have hl := Link.mk hb; have hs := hb.size; (try simp at hs); clear hb))
        (apply ret_two Try.results14; (conv => lhs; whnf); (conv => lhs; whnf); exact rfl)
        exact ret_ret rfl findLow
      · have hv : trO n m l = .tuple #[.int .i64 0, .int .i64 4] := by unfold trO; rw [if_pos ⟨hs0, t0, t2⟩, if_neg h0]
        rw [hv]
        have hz : shiftV n m l = .tuple #[.int .i64 0, .bool false] := by unfold shiftV; rw [if_neg h0]
        generalize shiftI n m l = z at *
        go_enter Try.func14, Try.ntmps14
        go_wp2_with (first | (refine wl_load ?_) | (refine wl_store ?_) | (refine wl_build ?_) | (refine wl_slice ?_) | (refine wl_append ?_; intro v' w' ho hg hb; have hs := hg.size; (try simp at hs); (try rw [ptCs_end] at ho); (try rw [ints_end] at ho); (try simp only [Nat.zero_add, Nat.reduceAdd, List.nil_append, List.cons_append] at ho)) | (go_at_call 27; (with_reducible refine (l10Set_v n b c l _ 0 hc0 hl findArg).mono ?_); rintro e w' ⟨rfl, hb⟩; have hl := Link.mk hb; have hs := hb.size; (try simp at hs); clear hb) | (go_at_call 31; (with_reducible refine (in_yes _ _ _ _ t0 t2).mono ?_); rintro e w' ⟨rfl, hb⟩; have hl := Link.mk hb; have hs := hb.size; (try simp at hs); clear hb) | (go_at_call 34; (with_reducible refine (shiftO2 _ n m b c l _ n2 n1 (by omega) (by omega) HB.out (by omega) findArg hz).mono ?_); rintro e w' ⟨rfl, hb⟩; have hl := Link.mk hb; have hs := hb.size; (try simp at hs); clear hb))
        (apply ret_two Try.results14; (conv => lhs; whnf); (conv => lhs; whnf); exact rfl)
        exact ret_ret rfl findLow
    · have hr : m < 1 ∨ n - 1 < m := by omega
      have hv : trO n m l = .tuple #[.int .i64 0, .int .i64 2] := by unfold trO; rw [if_neg (by omega)]
      rw [hv]
      go_enter Try.func14, Try.ntmps14
      go_wp2_with (first | (refine wl_load ?_) | (refine wl_store ?_) | (refine wl_build ?_) | (refine wl_slice ?_) | (refine wl_append ?_; intro v' w' ho hg hb; have hs := hg.size; (try simp at hs); (try rw [ptCs_end] at ho); (try rw [ints_end] at ho); (try simp only [Nat.zero_add, Nat.reduceAdd, List.nil_append, List.cons_append] at ho)) | (go_at_call 27; (with_reducible refine (l10Set_v n b c l _ 0 hc0 hl findArg).mono ?_); rintro e w' ⟨rfl, hb⟩; have hl := Link.mk hb; have hs := hb.size; (try simp at hs); clear hb) | (go_at_call 31; (with_reducible refine (in_no _ _ _ _ hr).mono ?_); rintro e w' ⟨rfl, hb⟩; have hl := Link.mk hb; have hs := hb.size; (try simp at hs); clear hb))
      (apply ret_two Try.results14; (conv => lhs; whnf); (conv => lhs; whnf); exact rfl)
      exact ret_ret rfl findLow
end Go.Proofs.Ytbeeecahkchjnaa
/- Contracts: the program's and the specification's MultipliersOf. -- numbers -/
namespace Go.Proofs.Ytbeeecahkchjnaa
open Go.RowKit
set_option linter.unusedVariables false
set_option linter.unusedSimpArgs false
/-- The multipliers up to k. -/
def multK (n : Int) (l : List Int) (k : Nat) : List Int := ((List.range k).filter fun i : Nat => decide (0 ≤ shiftI n ((i : Int) + 1) l)).map fun i : Nat => ((i : Int) + 1)
theorem multK_length (n : Int) (l : List Int) (k : Nat) : (multK n l k).length ≤ k := by
  unfold multK
  rw [List.length_map]
  exact Nat.le_trans (List.length_filter_le _ _) (by simp)
theorem multK_yes {n : Int} {l : List Int} {k : Nat} (h : 0 ≤ shiftI n ((k : Int) + 1) l) : multK n l (k + 1) = multK n l k ++ [(k : Int) + 1] := by
  unfold multK; rw [List.range_succ, List.filter_append, List.map_append]; simp [h]
theorem multK_no {n : Int} {l : List Int} {k : Nat} (h : ¬ 0 ≤ shiftI n ((k : Int) + 1) l) : multK n l (k + 1) = multK n l k := by
  unfold multK; rw [List.range_succ, List.filter_append, List.map_append]; simp [h]
def multL (n : Int) (l : List Int) : List Int := multK n l (n - 1).toNat
set_option maxRecDepth 20000 in
set_option maxHeartbeats 8000000 in
theorem MultipliersOf_impl_yes (n : Int) (b : Option Addr) (c : Nat) (l : List Int) (w : World) (hs0 : setB n l = true) (n200 : n ≤ 200) (hP : ArgK w b l.length l) :
    Calls Try.prog 15 #[.int .i64 n, .slice b l.length c] w (IntsPost2 w (multL n l)) := by
  obtain ⟨n2, n1, hl60, HB⟩ := setB_bd hs0
  have HB := Lib.hid HB
  have hl : l.length ≤ 1000000 := by omega
  go_enter Try.func15, Try.ntmps15
  go_wp2_with (first | (refine wl_load ?_) | (refine wl_store ?_) | (refine wl_build ?_) | (refine wl_slice ?_) | (refine wl_append ?_; intro v' w' ho hg hb; have hs := hg.size; (try simp at hs); (try rw [ptCs_end] at ho); (try rw [ints_end] at ho); (try simp only [Nat.zero_add, Nat.reduceAdd, List.nil_append, List.cons_append] at ho)) | (go_at_call 23; (with_reducible refine (isNumberSet_v n b c l _ true hs0 hl findArg).mono ?_); rintro e w' ⟨rfl, hb⟩; have hl := Link.mk hb; have hs := hb.size; (try simp at hs); clear hb))
  go_loopw [6, 7] (fun v i wr => ∃ k q : Nat, (k : Int) + 1 ≤ n ∧ i = .int .i64 ((k : Int) + 1) ∧ (multK n l k).length = q ∧ OwnK wr w.heap.size 2 1 v q (ints (multK n l k)) ∧ LowK w wr ∧ ArgK wr b l.length l) (fun _ i wr => n.toNat - (intOf i).toNat)
  case atStart => exact ⟨0, 0, by omega, rfl, rfl, (OwnK.empty (T := 2) (sz := 1) findRow (Nat.le_refl _)).rebase (by omega), findLow, findArg⟩
  case round =>
    obtain ⟨k, q, hk, rfl, hq, hO, hV, hA⟩ := hrel
    have hsz := hV.size
    have hqk : q ≤ k := by rw [← hq]; exact multK_length n l k
    by_cases hlt : (k : Int) + 1 < n
    · by_cases h0 : 0 ≤ shiftI n ((k : Int) + 1) l
      · have HM := Lib.hid (multK_yes h0)
        obtain ⟨z, hz0⟩ : ∃ z, shiftI n ((k : Int) + 1) l = z := ⟨_, rfl⟩
        have hz : Hid (Value.int .i64 (shiftI n ((k : Int) + 1) l) = .int .i64 z) := Lib.hid (by rw [hz0])
        rw [hz0] at h0
        clear hz0
        go_wp2_with (first | (refine wl_load ?_) | (refine wl_store ?_) | (refine wl_build ?_) | (refine wl_slice ?_) | (refine wl_append ?_; intro v' w' ho hg hb; have hs := hg.size; (try simp at hs); (try rw [ptCs_end] at ho); (try rw [ints_end] at ho); (try simp only [Nat.zero_add, Nat.reduceAdd, List.nil_append, List.cons_append] at ho)) | (go_at_call 33; (with_reducible refine (shiftO _ n ((k : Int) + 1) b c l _ n2 n1 (by omega) (by omega) HB.out (by omega) findArg hz.out).mono ?_); rintro e w' ⟨rfl, hb⟩; have hl := Link.mk hb; have hs := hb.size; (try simp at hs); clear hb))
        go_roundw
        case rel => exact ⟨k + 1, q + 1, by omega, by go_num, by rw [HM.out]; simp [hq], by rw [HM.out]; exact ho, findLow, ⟨fun h0 => by obtain ⟨g, e, h1⟩ := hP.out h0; have hlg := h1.lt h0; subst e; obtain ⟨g', e', h1'⟩ := hA.out h0; injection e' with e'; injection e' with e'; subst e'; exact ⟨g, rfl, findInts⟩⟩⟩
        case measure => (simp [intOf]; try omega)
      · have HM := Lib.hid (multK_no h0)
        obtain ⟨z, hz0⟩ : ∃ z, shiftI n ((k : Int) + 1) l = z := ⟨_, rfl⟩
        have hz : Hid (Value.int .i64 (shiftI n ((k : Int) + 1) l) = .int .i64 z) := Lib.hid (by rw [hz0])
        rw [hz0] at h0
        clear hz0
        go_wp2_with (first | (refine wl_load ?_) | (refine wl_store ?_) | (refine wl_build ?_) | (refine wl_slice ?_) | (refine wl_append ?_; intro v' w' ho hg hb; have hs := hg.size; (try simp at hs); (try rw [ptCs_end] at ho); (try rw [ints_end] at ho); (try simp only [Nat.zero_add, Nat.reduceAdd, List.nil_append, List.cons_append] at ho)) | (go_at_call 33; (with_reducible refine (shiftO _ n ((k : Int) + 1) b c l _ n2 n1 (by omega) (by omega) HB.out (by omega) findArg hz.out).mono ?_); rintro e w' ⟨rfl, hb⟩; have hl := Link.mk hb; have hs := hb.size; (try simp at hs); clear hb))
        go_roundw
        case rel => exact ⟨k + 1, q, by omega, by go_num, by rw [HM.out]; exact hq, by rw [HM.out]; exact findOwn, findLow, findArg⟩
        case measure => (simp [intOf]; try omega)
    · have hkn : (n - 1).toNat = k := by omega
      go_wp2_with (first | (refine wl_load ?_) | (refine wl_store ?_) | (refine wl_build ?_) | (refine wl_slice ?_) | (refine wl_append ?_; intro v' w' ho hg hb; have hs := hg.size; (try simp at hs); (try rw [ptCs_end] at ho); (try rw [ints_end] at ho); (try simp only [Nat.zero_add, Nat.reduceAdd, List.nil_append, List.cons_append] at ho)))
      (apply ret_two Try.results15; (conv => lhs; whnf); (conv => lhs; whnf); exact rfl)
      exact ⟨_, rfl, by unfold multL; rw [hkn, hq]; exact OwnK.out findOwn, LowK.out findLow⟩
set_option maxHeartbeats 4000000 in
theorem MultipliersOf_impl_no (n : Int) (b : Option Addr) (c : Nat) (l : List Int) (w : World) (hl : l.length ≤ 1000000) (hno : setB n l = false ∨ 200 < n) (hP : ArgK w b l.length l) :
    Calls Try.prog 15 #[.int .i64 n, .slice b l.length c] w (Ret w (.tuple #[.slice none 0 0, .int .i64 2])) := by
  rcases hs0 : setB n l with _ | _
  · skip
    go_enter Try.func15, Try.ntmps15
    go_wp2_with (first | (refine wl_load ?_) | (refine wl_store ?_) | (refine wl_build ?_) | (refine wl_slice ?_) | (refine wl_append ?_; intro v' w' ho hg hb; have hs := hg.size; (try simp at hs); (try rw [ptCs_end] at ho); (try rw [ints_end] at ho); (try simp only [Nat.zero_add, Nat.reduceAdd, List.nil_append, List.cons_append] at ho)) | (go_at_call 23; (with_reducible refine (isNumberSet_v n b c l _ false hs0 hl findArg).mono ?_); rintro e w' ⟨rfl, hb⟩; have hl := Link.mk hb; have hs := hb.size; (try simp at hs); clear hb))
    (apply ret_two Try.results15; (conv => lhs; whnf); (conv => lhs; whnf); exact rfl)
    exact ret_ret rfl findLow
  · have hr : 200 < n := by rcases hno with h | h; (· rw [h] at hs0; cases hs0); exact h
    go_enter Try.func15, Try.ntmps15
    go_wp2_with (first | (refine wl_load ?_) | (refine wl_store ?_) | (refine wl_build ?_) | (refine wl_slice ?_) | (refine wl_append ?_; intro v' w' ho hg hb; have hs := hg.size; (try simp at hs); (try rw [ptCs_end] at ho); (try rw [ints_end] at ho); (try simp only [Nat.zero_add, Nat.reduceAdd, List.nil_append, List.cons_append] at ho)) | (go_at_call 23; (with_reducible refine (isNumberSet_v n b c l _ true hs0 hl findArg).mono ?_); rintro e w' ⟨rfl, hb⟩; have hl := Link.mk hb; have hs := hb.size; (try simp at hs); clear hb))
    (apply ret_two Try.results15; (conv => lhs; whnf); (conv => lhs; whnf); exact rfl)
    exact ret_ret rfl findLow
set_option maxRecDepth 20000 in
set_option maxHeartbeats 8000000 in
theorem MultipliersOf_spec_yes (n : Int) (b : Option Addr) (c : Nat) (l : List Int) (w : World) (hs0 : setB n l = true) (n200 : n ≤ 200) (hP : ArgK w b l.length l) :
    Calls Try.prog 16 #[.int .i64 n, .slice b l.length c] w (IntsPost2 w (multL n l)) := by
  obtain ⟨n2, n1, hl60, HB⟩ := setB_bd hs0
  have HB := Lib.hid HB
  have hl : l.length ≤ 1000000 := by omega
  have hc0 : codeS n l = 0 := by unfold codeS; rw [hs0]; rfl
  go_enter Try.func16, Try.ntmps16
  go_wp2_with (first | (refine wl_load ?_) | (refine wl_store ?_) | (refine wl_build ?_) | (refine wl_slice ?_) | (refine wl_append ?_; intro v' w' ho hg hb; have hs := hg.size; (try simp at hs); (try rw [ptCs_end] at ho); (try rw [ints_end] at ho); (try simp only [Nat.zero_add, Nat.reduceAdd, List.nil_append, List.cons_append] at ho)) | (go_at_call 27; (with_reducible refine (l10Set_v n b c l _ 0 hc0 hl findArg).mono ?_); rintro e w' ⟨rfl, hb⟩; have hl := Link.mk hb; have hs := hb.size; (try simp at hs); clear hb))
  go_loopw [7, 8] (fun v i wr => ∃ k q : Nat, (k : Int) + 1 ≤ n ∧ i = .int .i64 ((k : Int) + 1) ∧ (multK n l k).length = q ∧ OwnK wr w.heap.size 2 1 v q (ints (multK n l k)) ∧ LowK w wr ∧ ArgK wr b l.length l) (fun _ i wr => n.toNat - (intOf i).toNat)
  case atStart => exact ⟨0, 0, by omega, rfl, rfl, (OwnK.empty (T := 2) (sz := 1) findRow (Nat.le_refl _)).rebase (by omega), findLow, findArg⟩
  case round =>
    obtain ⟨k, q, hk, rfl, hq, hO, hV, hA⟩ := hrel
    have hsz := hV.size
    have hqk : q ≤ k := by rw [← hq]; exact multK_length n l k
    by_cases hlt : (k : Int) + 1 < n
    · by_cases h0 : 0 ≤ shiftI n ((k : Int) + 1) l
      · have HM := Lib.hid (multK_yes h0)
        have hz : Hid (shiftV n ((k : Int) + 1) l = .tuple #[.int .i64 (shiftI n ((k : Int) + 1) l), .bool true]) := Lib.hid (by unfold shiftV; rw [if_pos h0])
        obtain ⟨z, hz0⟩ : ∃ z, shiftI n ((k : Int) + 1) l = z := ⟨_, rfl⟩
        try rw [hz0] at hz
        clear hz0 h0
        go_wp2_with (first | (refine wl_load ?_) | (refine wl_store ?_) | (refine wl_build ?_) | (refine wl_slice ?_) | (refine wl_append ?_; intro v' w' ho hg hb; have hs := hg.size; (try simp at hs); (try rw [ptCs_end] at ho); (try rw [ints_end] at ho); (try simp only [Nat.zero_add, Nat.reduceAdd, List.nil_append, List.cons_append] at ho)) | (go_at_call 34; (with_reducible refine (shiftO2 _ n ((k : Int) + 1) b c l _ n2 n1 (by omega) (by omega) HB.out (by omega) findArg hz.out).mono ?_); rintro e w' ⟨rfl, hb⟩; have hl := Link.mk hb; have hs := hb.size; (try simp at hs); clear hb))
        go_roundw
        case rel => exact ⟨k + 1, q + 1, by omega, by go_num, by rw [HM.out]; simp [hq], by rw [HM.out]; exact ho, findLow, ⟨fun h0 => by obtain ⟨g, e, h1⟩ := hP.out h0; have hlg := h1.lt h0; subst e; obtain ⟨g', e', h1'⟩ := hA.out h0; injection e' with e'; injection e' with e'; subst e'; exact ⟨g, rfl, findInts⟩⟩⟩
        case measure => (simp [intOf]; try omega)
      · have HM := Lib.hid (multK_no h0)
        have hz : Hid (shiftV n ((k : Int) + 1) l = .tuple #[.int .i64 0, .bool false]) := Lib.hid (by unfold shiftV; rw [if_neg h0])
        obtain ⟨z, hz0⟩ : ∃ z, shiftI n ((k : Int) + 1) l = z := ⟨_, rfl⟩
        try rw [hz0] at hz
        clear hz0 h0
        go_wp2_with (first | (refine wl_load ?_) | (refine wl_store ?_) | (refine wl_build ?_) | (refine wl_slice ?_) | (refine wl_append ?_; intro v' w' ho hg hb; have hs := hg.size; (try simp at hs); (try rw [ptCs_end] at ho); (try rw [ints_end] at ho); (try simp only [Nat.zero_add, Nat.reduceAdd, List.nil_append, List.cons_append] at ho)) | (go_at_call 34; (with_reducible refine (shiftO2 _ n ((k : Int) + 1) b c l _ n2 n1 (by omega) (by omega) HB.out (by omega) findArg hz.out).mono ?_); rintro e w' ⟨rfl, hb⟩; have hl := Link.mk hb; have hs := hb.size; (try simp at hs); clear hb))
        go_roundw
        case rel => exact ⟨k + 1, q, by omega, by go_num, by rw [HM.out]; exact hq, by rw [HM.out]; exact findOwn, findLow, findArg⟩
        case measure => (simp [intOf]; try omega)
    · have hkn : (n - 1).toNat = k := by omega
      go_wp2_with (first | (refine wl_load ?_) | (refine wl_store ?_) | (refine wl_build ?_) | (refine wl_slice ?_) | (refine wl_append ?_; intro v' w' ho hg hb; have hs := hg.size; (try simp at hs); (try rw [ptCs_end] at ho); (try rw [ints_end] at ho); (try simp only [Nat.zero_add, Nat.reduceAdd, List.nil_append, List.cons_append] at ho)))
      (apply ret_two Try.results16; (conv => lhs; whnf); (conv => lhs; whnf); exact rfl)
      exact ⟨_, rfl, by unfold multL; rw [hkn, hq]; exact OwnK.out findOwn, LowK.out findLow⟩
set_option maxHeartbeats 4000000 in
theorem MultipliersOf_spec_no (n : Int) (b : Option Addr) (c : Nat) (l : List Int) (w : World) (hl : l.length ≤ 1000000) (hno : setB n l = false ∨ 200 < n) (hP : ArgK w b l.length l) :
    Calls Try.prog 16 #[.int .i64 n, .slice b l.length c] w (Ret w (.tuple #[.slice none 0 0, .int .i64 2])) := by
  rcases hs0 : setB n l with _ | _
  · skip
    have hc0 : codeS n l = 2 := by unfold codeS; rw [hs0]; rfl
    go_enter Try.func16, Try.ntmps16
    go_wp2_with (first | (refine wl_load ?_) | (refine wl_store ?_) | (refine wl_build ?_) | (refine wl_slice ?_) | (refine wl_append ?_; intro v' w' ho hg hb; have hs := hg.size; (try simp at hs); (try rw [ptCs_end] at ho); (try rw [ints_end] at ho); (try simp only [Nat.zero_add, Nat.reduceAdd, List.nil_append, List.cons_append] at ho)) | (go_at_call 27; (with_reducible refine (l10Set_v n b c l _ 2 hc0 hl findArg).mono ?_); rintro e w' ⟨rfl, hb⟩; have hl := Link.mk hb; have hs := hb.size; (try simp at hs); clear hb))
    (apply ret_two Try.results16; (conv => lhs; whnf); (conv => lhs; whnf); exact rfl)
    exact ret_ret rfl findLow
  · have hr : 200 < n := by rcases hno with h | h; (· rw [h] at hs0; cases hs0); exact h
    have hc0 : codeS n l = 0 := by unfold codeS; rw [hs0]; rfl
    go_enter Try.func16, Try.ntmps16
    go_wp2_with (first | (refine wl_load ?_) | (refine wl_store ?_) | (refine wl_build ?_) | (refine wl_slice ?_) | (refine wl_append ?_; intro v' w' ho hg hb; have hs := hg.size; (try simp at hs); (try rw [ptCs_end] at ho); (try rw [ints_end] at ho); (try simp only [Nat.zero_add, Nat.reduceAdd, List.nil_append, List.cons_append] at ho)) | (go_at_call 27; (with_reducible refine (l10Set_v n b c l _ 0 hc0 hl findArg).mono ?_); rintro e w' ⟨rfl, hb⟩; have hl := Link.mk hb; have hs := hb.size; (try simp at hs); clear hb))
    (apply ret_two Try.results16; (conv => lhs; whnf); (conv => lhs; whnf); exact rfl)
    exact ret_ret rfl findLow
end Go.Proofs.Ytbeeecahkchjnaa
/- Plain: translates of sets of numbers modulo n, and their differences. -/
namespace Go.Proofs.Ytbeeecahkchjnaa
set_option linter.unusedVariables false
set_option linter.unusedSimpArgs false
/-- 1 is a multiplier. -/
theorem one_mult {n : Int} {l : List Int} (h : setB n l = true) : (1 : Int) ∈ multL n l := by
  obtain ⟨h2, -⟩ := setB_bd h
  have hs : 0 ≤ shiftI n ((0 : Nat) + 1) l := by
    unfold shiftI
    have hh : hitB n ((0 : Nat) + 1) l 0 = true := by unfold hitB; simp
    rcases he : (List.range n.toNat).find? (hitB n ((0 : Nat) + 1) l) with _ | t
    · exact absurd hh (by have := List.find?_eq_none.1 he 0 (List.mem_range.2 (by omega)); simpa using this)
    · show (0 : Int) ≤ (t : Int)
      omega
  unfold multL multK
  exact List.mem_map.2 ⟨0, List.mem_filter.2 ⟨List.mem_range.2 (by omega), by simpa using hs⟩, rfl⟩
/-- How often a difference comes up. -/
def difC (n : Int) (l : List Int) (d : Nat) : Nat := (l.map fun x => l.countP fun y => decide (((x - y) % n).toNat = d)).sum
theorem bump_get {c : List Int} {i d : Nat} (hd : d < c.length) : (bump c i).getD d 0 = c.getD d 0 + (if i = d then 1 else 0) := by
  unfold bump
  by_cases e : i = d
  · subst e
    simp [List.getD, hd]
  · simp [List.getD, List.getElem?_set_ne e, e]
theorem rowC_get {n : Int} {l : List Int} {i : Nat} {c : List Int} {d : Nat} (hd : d < c.length) : ∀ k, (rowC n l i c k).getD d 0 = c.getD d 0 + ((List.range k).countP fun k => decide (dif n l i k = d) : Nat)
  | 0 => by simp [rowC_zero]
  | k + 1 => by
    rw [rowC_succ, bump_get (by rw [rowC_length]; exact hd), rowC_get hd k, List.range_succ, List.countP_append]
    by_cases e : dif n l i k = d
    · simp [e]; omega
    · simp [e]
theorem cntC_get {n : Int} {l : List Int} {d : Nat} (hd : d < n.toNat) : ∀ i, (cntC n l i).getD d 0 = (((List.range i).map fun i => (List.range l.length).countP fun k => decide (dif n l i k = d)).sum : Nat)
  | 0 => by simp [cntC, List.getD, hd]
  | i + 1 => by
    rw [cntC_succ, rowC_get (by rw [cntC_length]; exact hd), cntC_get hd i, List.range_succ, List.map_append, List.sum_append]
    simp
theorem range_map {α : Type} (l : List Int) (f : Int → α) : (List.range l.length).map (fun i => f (l.getD i 0)) = l.map f := by
  apply List.ext_getElem
  · simp
  · intro i h1 h2
    simp at h1
    simp [List.getD, h1]
theorem cntC_difC {n : Int} {l : List Int} {d : Nat} (hd : d < n.toNat) : (cntC n l l.length).getD d 0 = (difC n l d : Int) := by
  rw [cntC_get hd]
  congr 1
  unfold difC
  rw [← range_map l]
  congr 1
  apply List.map_congr_left
  intro i hi
  have e : (List.range l.length).map (fun k => l.getD k 0) = l := (range_map l fun x => x).trans (by simp)
  show (List.range l.length).countP _ = l.countP _
  have e2 : l.countP (fun y => decide (((l.getD i 0 - y) % n).toNat = d)) = ((List.range l.length).map (fun k => l.getD k 0)).countP (fun y => decide (((l.getD i 0 - y) % n).toNat = d)) := by rw [e]
  rw [e2, List.countP_map]
  rfl
theorem difC_perm {n : Int} {l l' : List Int} (h : l.Perm l') (d : Nat) : difC n l d = difC n l' d := by
  unfold difC
  have e : (fun x => l.countP fun y => decide (((x - y) % n).toNat = d)) = fun x => l'.countP fun y => decide (((x - y) % n).toNat = d) := by
    funext x
    exact h.countP_eq _
  rw [e]
  exact (h.map _).sum_nat
theorem difC_mov {n t : Int} {l : List Int} (d : Nat) : difC n (movN n 1 t l) d = difC n l d := by
  unfold difC movN
  rw [List.map_map]
  congr 1
  apply List.map_congr_left
  intro x _
  show (l.map _).countP _ = _
  rw [List.countP_map]
  congr 1
  funext y
  show decide ((((1 * x + t) % n - (1 * y + t) % n) % n).toNat = d) = _
  rw [← Int.sub_emod, show 1 * x + t - (1 * y + t) = x - y by omega]

theorem onesB_eq {c c' : List Int} (hl : c.length = c'.length) (h : ∀ d, d < c.length → c.getD d 0 = c'.getD d 0) : onesB c = onesB c' := by
  unfold onesB
  rw [← hl]
  rw [Bool.eq_iff_iff, List.all_eq_true, List.all_eq_true]
  constructor
  · intro hh d hd; have := hh d hd; rwa [h (d + 1) (by have := List.mem_range.1 hd; omega)] at this
  · intro hh d hd; have := hh d hd; rwa [← h (d + 1) (by have := List.mem_range.1 hd; omega)] at this
theorem ones_mov {n t : Int} (l : List Int) : onesB (cntC n (sortN (movN n 1 t l)) (sortN (movN n 1 t l)).length) = onesB (cntC n l l.length) := by
  apply onesB_eq
  · rw [cntC_length, cntC_length]
  · intro d hd
    rw [cntC_length] at hd
    rw [cntC_difC hd, cntC_difC hd, difC_perm (sortN_perm _), difC_mov]
theorem movN_bd {n t : Int} {l : List Int} (hn : 0 < n) : ∀ x ∈ movN n 1 t l, 0 ≤ x ∧ x < n := fun x hx => by
  unfold movN at hx
  obtain ⟨y, -, rfl⟩ := List.mem_map.1 hx
  exact ⟨Int.emod_nonneg _ (by omega), Int.emod_lt_of_pos _ hn⟩
theorem okB_sorted {n : Int} {l : List Int} (hb : ∀ x ∈ l, 0 ≤ x ∧ x < n) (hs : l.Pairwise (· < ·)) : okB n l = true := okB_all fun i hi => by
  have h1 := hb (l.getD i 0) (by rw [List.getD, List.getElem?_eq_getElem hi]; exact List.getElem_mem hi)
  unfold okI
  rw [Bool.and_eq_true]
  refine ⟨decide_eq_true ⟨h1.1, by omega⟩, ?_⟩
  rw [Bool.or_eq_true]
  rcases Nat.eq_zero_or_pos i with h0 | h0
  · left; simp [h0]
  · right
    have h2 := List.pairwise_iff_getElem.1 hs (i - 1) i (by omega) hi (by omega)
    simpa [List.getD, hi, show i - 1 < l.length by omega] using h2
theorem okB_lt {n : Int} {l : List Int} (h : okB n l = true) : l.Pairwise (· < ·) := by
  have step : ∀ i, i + 1 < l.length → l.getD i 0 < l.getD (i + 1) 0 := fun i hi => by
    have := List.all_eq_true.1 h (i + 1) (List.mem_range.2 hi)
    unfold okI at this
    rw [Bool.and_eq_true, Bool.or_eq_true] at this
    rcases this.2 with h0 | h0
    · simp at h0
    · simpa using h0
  have far : ∀ k i, i + k + 1 < l.length → l.getD i 0 < l.getD (i + k + 1) 0 := fun k => by
    induction k with
    | zero => intro i hi; exact step i hi
    | succ k ih => intro i hi; have := ih i (by omega); have := step (i + k + 1) (by omega); rw [show i + (k + 1) + 1 = i + k + 1 + 1 by omega]; omega
  rw [List.pairwise_iff_getElem]
  intro i j hi hj hij
  have := far (j - i - 1) i (by omega)
  rw [show i + (j - i - 1) + 1 = j by omega] at this
  simpa [List.getD, hi, hj] using this
theorem movN_nodup {n t : Int} {l : List Int} (hb : ∀ x ∈ l, 0 ≤ x ∧ x < n) (hs : l.Pairwise (· < ·)) : (movN n 1 t l).Nodup := by
  unfold movN
  rw [List.nodup_iff_pairwise_ne, List.pairwise_map]
  refine hs.imp_of_mem fun {x y} hx hy hxy e => ?_
  have h1 := hb x hx
  have h2 := hb y hy
  have h3 : (x + t - (y + t)) % n = 0 := by
    rw [Int.sub_emod, show x + t = 1 * x + t by omega, show y + t = 1 * y + t by omega, e]; simp
  rw [show x + t - (y + t) = x - y by omega] at h3
  obtain ⟨c, hc⟩ := Int.dvd_of_emod_eq_zero h3
  have hn : 0 < n := by omega
  have hc1 : -1 < c := by
    rcases Int.lt_or_le (-1) c with h | h
    · exact h
    · have : n * c ≤ n * (-1) := Int.mul_le_mul_of_nonneg_left h (by omega)
      omega
  have hc2 : c < 0 := by
    rcases Int.lt_or_le c 0 with h | h
    · exact h
    · have : 0 ≤ n * c := Int.mul_nonneg (by omega) h
      omega
  omega
theorem sortN_lt {l : List Int} (h : l.Nodup) : (sortN l).Pairwise (· < ·) := by
  have hs : (sortN l).Pairwise (fun x y => decide (x ≤ y) = true) := by
    unfold sortN
    exact List.pairwise_mergeSort (fun a b c h1 h2 => by simp at h1 h2 ⊢; omega) (fun a b => by simp; omega) l
  have hn : (sortN l).Nodup := (sortN_perm l).nodup_iff.2 h
  exact (hs.and hn).imp fun {x y} h => by
    have h1 := of_decide_eq_true h.1
    have h2 := h.2
    omega
/-- A translate of a set is a set, and a difference set where the set is one. -/
theorem set_mov {n t : Int} {l : List Int} (h : setB n l = true) : setB n (sortN (movN n 1 t l)) = true := by
  obtain ⟨⟨h1, h2⟩, h3, h4⟩ := setB_yes h
  obtain ⟨-, -, -, hb⟩ := setB_bd h
  unfold setB
  rw [Bool.and_eq_true, Bool.and_eq_true]
  refine ⟨decide_eq_true ⟨h1, h2⟩, decide_eq_true (by rw [sortN_length, movN_length]; exact h3), okB_sorted (fun x hx => ?_) (sortN_lt (movN_nodup hb (okB_lt h4)))⟩
  exact movN_bd (by omega) x ((sortN_perm _).mem_iff.1 hx)
theorem diff_mov {n t : Int} {l : List Int} (h : setB n l = true) : diffR n (sortN (movN n 1 t l)) = diffR n l := by
  unfold diffR
  rw [if_pos h, if_pos (set_mov h), ones_mov]
end Go.Proofs.Ytbeeecahkchjnaa
/- Plain: the rank by elimination, computed on lists, each number forced. -/
namespace Go.Proofs.Ytbeeecahkchjnaa
set_option linter.unusedVariables false
set_option linter.unusedSimpArgs false
/-- A number forced, then on. -/
def seqN {α : Type} (n : Nat) (f : Nat → α) : α := match n with | 0 => f 0 | .succ k => f (.succ k)
theorem seqN_eq {α : Type} (n : Nat) (f : Nat → α) : seqN n f = f n := by cases n <;> rfl
def forceR {α : Type} : List Nat → (List Nat → α) → α
  | [], k => k []
  | a :: l, k => seqN a fun v => forceR l fun r => k (v :: r)
theorem forceR_eq {α : Type} : ∀ (l : List Nat) (k : List Nat → α), forceR l k = k l
  | [], _ => rfl
  | a :: l, k => by rw [forceR, seqN_eq, forceR_eq l]
def forceM {α : Type} : List (List Nat) → (List (List Nat) → α) → α
  | [], k => k []
  | a :: l, k => forceR a fun v => forceM l fun r => k (v :: r)
theorem forceM_eq {α : Type} : ∀ (l : List (List Nat)) (k : List (List Nat) → α), forceM l k = k l
  | [], _ => rfl
  | a :: l, k => by rw [forceM, forceR_eq, forceM_eq l]
def atN : List Nat → Nat → Nat
  | [], _ => 0
  | a :: _, 0 => a
  | _ :: l, i + 1 => atN l i
theorem atN_getD : ∀ (l : List Nat) (i : Nat), atN l i = l.getD i 0
  | [], _ => rfl
  | a :: _, 0 => rfl
  | _ :: l, i + 1 => by rw [atN, atN_getD l i]; rfl
def atR : List (List Nat) → Nat → List Nat
  | [], _ => []
  | a :: _, 0 => a
  | _ :: l, i + 1 => atR l i
/-- The row x from which b times the row y is added, from column c on. -/
def zipE (b q : Nat) : Nat → List Nat → List Nat → List Nat
  | 0, x :: xs, y :: ys => ((x + b * y) % q) :: zipE b q 0 xs ys
  | c + 1, x :: xs, _ :: ys => x :: zipE b q c xs ys
  | _, xs, _ => xs
theorem zipE_length (b q : Nat) : ∀ (c : Nat) (x y : List Nat), (zipE b q c x y).length = x.length
  | 0, x :: xs, y :: ys => by rw [zipE, List.length_cons, zipE_length, List.length_cons]
  | c + 1, x :: xs, y :: ys => by rw [zipE, List.length_cons, zipE_length, List.length_cons]
  | 0, [], _ => by simp [zipE]
  | c + 1, [], _ => by simp [zipE]
  | 0, x :: xs, [] => by simp [zipE]
  | c + 1, x :: xs, [] => by simp [zipE]
theorem zipE_at (b q : Nat) : ∀ (c : Nat) (x y : List Nat) (k : Nat), k < x.length → k < y.length → atN (zipE b q c x y) k = if c ≤ k then (atN x k + b * atN y k) % q else atN x k
  | 0, x :: xs, y :: ys, 0, _, _ => by simp [zipE, atN]
  | 0, x :: xs, y :: ys, k + 1, h1, h2 => by
    rw [zipE, atN, zipE_at b q 0 xs ys k (by simpa using h1) (by simpa using h2)]
    simp [atN]
  | c + 1, x :: xs, y :: ys, 0, _, _ => by simp [zipE, atN]
  | c + 1, x :: xs, y :: ys, k + 1, h1, h2 => by
    rw [zipE, atN, zipE_at b q c xs ys k (by simpa using h1) (by simpa using h2)]
    simp [atN]
  | _, [], _, k, h, _ => by simp at h
  | _, _ :: _, [], k, _, h => by simp at h
def rowE (q c inv : Nat) (pr row : List Nat) : List Nat := seqN (atN row c) fun m => if m = 0 then row else seqN (q - m * inv % q) fun b => zipE b q c row pr
def fstN (c : Nat) : List (List Nat) → Nat
  | [] => 0
  | a :: l => if atN a c = 0 then fstN c l + 1 else 0
def setR : List (List Nat) → Nat → List Nat → List (List Nat)
  | [], _, _ => []
  | _ :: l, 0, v => v :: l
  | a :: l, i + 1, v => a :: setR l i v
/-- The rows behind the pivot's. -/
def stepT (q c : Nat) (R : List (List Nat)) (f : Nat) : List (List Nat) := seqN (invP (q : Int) (atN (atR R f) c : Int)).toNat fun inv => ((setR R f (atR R 0)).tail).map (rowE q c inv (atR R f))
def goT (q : Nat) : Nat → Nat → Nat → List (List Nat) → Nat
  | 0, _, r, _ => r
  | fuel + 1, c, r, R => seqN (fstN c R) fun f => if f = R.length then goT q fuel (c + 1) r R else forceM (stepT q c R f) fun R' => seqN (r + 1) fun r' => seqN (c + 1) fun c' => goT q fuel c' r' R'
/-- The rows r and behind are these. -/
structure Agree (q N r : Nat) (M : Nat → Nat → Int) (R : List (List Nat)) : Prop where
  len : R.length + r = N
  rows : ∀ i, i < R.length → (atR R i).length = N
  val : ∀ i k, i < R.length → k < N → M (r + i) k = (atN (atR R i) k : Int)
  small : ∀ i k, i < R.length → k < N → atN (atR R i) k < q
theorem piv_fst {M : Nat → Nat → Int} {c N : Nat} : ∀ (R : List (List Nat)) (f : Nat), R.length + f = N → (∀ i, i < R.length → M (f + i) c = (atN (atR R i) c : Int)) → piv M c N f = f + fstN c R
  | [], f, h, _ => by
    rw [piv_stop (fun h1 => by simp at h; omega)]
    simp [fstN]
  | a :: R, f, h, hv => by
    have h0 := hv 0 (by simp)
    simp only [Nat.add_zero, atR] at h0
    simp only [List.length_cons] at h
    unfold fstN
    by_cases e : atN a c = 0
    · rw [if_pos e, piv_step (by omega) (by rw [h0, e]; rfl), piv_fst R (f + 1) (by omega) (fun i hi => by
        have := hv (i + 1) (by simp; omega)
        rw [show f + 1 + i = f + (i + 1) by omega, this]; rfl)]
      omega
    · rw [if_neg e, piv_stop (fun _ => by rw [h0]; omega)]
      rfl
theorem fstN_le (c : Nat) : ∀ R : List (List Nat), fstN c R ≤ R.length
  | [] => Nat.le_refl _
  | a :: R => by
    unfold fstN
    have := fstN_le c R
    split <;> simp <;> omega
theorem fstN_at (c : Nat) : ∀ R : List (List Nat), fstN c R < R.length → atN (atR R (fstN c R)) c ≠ 0
  | [], h => by simp at h
  | a :: R, h => by
    by_cases e : atN a c = 0
    · have hf : fstN c (a :: R) = fstN c R + 1 := by simp [fstN, e]
      rw [hf] at h ⊢
      exact fstN_at c R (by simpa using h)
    · have hf : fstN c (a :: R) = 0 := by simp [fstN, e]
      rw [hf]
      exact e
theorem setR_length : ∀ (R : List (List Nat)) (f : Nat) (v : List Nat), (setR R f v).length = R.length
  | [], _, _ => rfl
  | _ :: l, 0, v => rfl
  | a :: l, f + 1, v => by rw [setR, List.length_cons, setR_length l f v, List.length_cons]
theorem setR_at : ∀ (R : List (List Nat)) (f i : Nat) (v : List Nat), f < R.length → atR (setR R f v) i = if i = f then v else atR R i
  | [], _, _, _, h => by simp at h
  | _ :: l, 0, 0, v, _ => rfl
  | _ :: l, 0, i + 1, v, _ => rfl
  | a :: l, f + 1, 0, v, _ => rfl
  | a :: l, f + 1, i + 1, v, h => by
    rw [setR, atR, setR_at l f i v (by simpa using h)]
    simp [atR]
theorem atR_tail : ∀ (R : List (List Nat)) (i : Nat), atR R.tail i = atR R (i + 1)
  | [], i => by cases i <;> rfl
  | _ :: l, i => rfl
theorem atR_map (g : List Nat → List Nat) : ∀ (R : List (List Nat)) (i : Nat), i < R.length → atR (R.map g) i = g (atR R i)
  | [], _, h => by simp at h
  | _ :: l, 0, _ => rfl
  | _ :: l, i + 1, h => by rw [List.map_cons, atR, atR_map g l i (by simpa using h), atR]
theorem rowE_at {q c inv k : Nat} {pr row : List Nat} (h1 : k < row.length) (h2 : k < pr.length) : atN (rowE q c inv pr row) k = if ¬ atN row c = 0 ∧ c ≤ k then (atN row k + (q - atN row c * inv % q) * atN pr k) % q else atN row k := by
  unfold rowE
  rw [seqN_eq]
  by_cases e : atN row c = 0
  · rw [if_pos e, if_neg (fun h => h.1 e)]
  · rw [if_neg e, seqN_eq, zipE_at _ _ _ _ _ _ h1 h2]
    by_cases hc : c ≤ k
    · rw [if_pos hc, if_pos ⟨e, hc⟩]
    · rw [if_neg hc, if_neg (fun h => hc h.2)]
theorem rowE_length {q c inv : Nat} {pr row : List Nat} : (rowE q c inv pr row).length = row.length := by
  unfold rowE
  rw [seqN_eq]
  split
  · rfl
  · rw [seqN_eq, zipE_length]
theorem modE {q x m v y : Nat} (hq : 0 < q) : ((x : Int) - ((m : Int) * (v : Int)) % (q : Int) * (y : Int)) % (q : Int) = (((x + (q - m * v % q) * y) % q : Nat) : Int) := by
  have ha : m * v % q < q := Nat.mod_lt _ hq
  have e0 : ((m : Int) * (v : Int)) % (q : Int) = ((m * v % q : Nat) : Int) := by push_cast; rfl
  rw [e0]
  generalize m * v % q = a at *
  have e1 : ((q - a : Nat) : Int) = (q : Int) - (a : Int) := by omega
  push_cast
  rw [e1, Int.sub_mul, show (x : Int) + ((q : Int) * y - a * y) = (x - a * y) + (q : Int) * y by omega, Int.add_mul_emod_self_left]
theorem step_agree {q N r c : Nat} {M : Nat → Nat → Int} {R : List (List Nat)} (hq : prB (q : Int) = true) (h : Agree q N r M R) (hc : c < N) (hf : fstN c R < R.length) : Agree q N (r + 1) (elm q c r (swp M r (r + fstN c R))) (stepT q c R (fstN c R)) := by
  have hqb := prB_bd hq
  have hpz := fstN_at c R hf
  generalize fstN c R = f at *
  have hps := h.small f c hf hc
  obtain ⟨i1, i2, -⟩ := invP_spec (p := (q : Int)) (n := (atN (atR R f) c : Int)) hq (by omega) (by omega)
  obtain ⟨v, hv⟩ : ∃ v : Nat, invP (q : Int) (atN (atR R f) c : Int) = (v : Int) := ⟨(invP (q : Int) (atN (atR R f) c : Int)).toNat, by omega⟩
  have hT : stepT q c R f = ((setR R f (atR R 0)).tail).map (rowE q c v (atR R f)) := by unfold stepT; rw [seqN_eq, hv]; rfl
  have hTl : (setR R f (atR R 0)).tail.length = R.length - 1 := by rw [List.length_tail, setR_length]
  have hTa : ∀ i, i < R.length - 1 → atR (setR R f (atR R 0)).tail i = if i + 1 = f then atR R 0 else atR R (i + 1) := fun i hi => by rw [atR_tail, setR_at _ _ _ _ hf]
  have hrow : ∀ i, i < R.length - 1 → (atR (setR R f (atR R 0)).tail i).length = N := fun i hi => by
    rw [hTa i hi]
    split
    · exact h.rows 0 (by omega)
    · exact h.rows (i + 1) (by omega)
  have hsm : ∀ i k, i < R.length - 1 → k < N → atN (atR (setR R f (atR R 0)).tail i) k < q := fun i k hi hk => by
    rw [hTa i hi]
    split
    · exact h.small 0 k (by omega) hk
    · exact h.small (i + 1) k (by omega) hk
  have hval : ∀ i k, i < R.length - 1 → k < N → swp M r (r + f) (r + 1 + i) k = (atN (atR (setR R f (atR R 0)).tail i) k : Int) := fun i k hi hk => by
    rw [hTa i hi]
    unfold swp
    rw [if_neg (by omega)]
    by_cases e : i + 1 = f
    · rw [if_pos e, if_pos (by omega), show r = r + 0 by omega]
      exact h.val 0 k (by omega) hk
    · rw [if_neg e, if_neg (by omega), show r + 1 + i = r + (i + 1) by omega]
      exact h.val (i + 1) k (by omega) hk
  have hpv : ∀ k, k < N → swp M r (r + f) r k = (atN (atR R f) k : Int) := fun k hk => by
    unfold swp
    rw [if_pos rfl]
    exact h.val f k hf hk
  have hlen : (stepT q c R f).length = R.length - 1 := by rw [hT, List.length_map, hTl]
  have hat : ∀ i, i < R.length - 1 → atR (stepT q c R f) i = rowE q c v (atR R f) (atR (setR R f (atR R 0)).tail i) := fun i hi => by rw [hT, atR_map _ _ _ (by omega)]
  refine ⟨by have := h.len; omega, fun i hi => ?_, fun i k hi hk => ?_, fun i k hi hk => ?_⟩
  · rw [hat i (by omega), rowE_length]; exact hrow i (by omega)
  · have hi' : i < R.length - 1 := by omega
    rw [hat i hi', rowE_at (by rw [hrow i hi']; exact hk) (by rw [h.rows f hf]; exact hk)]
    unfold elm
    rw [hval i c hi' hc, hval i k hi' hk, hpv c hc, hpv k hk, hv]
    by_cases e : ¬ atN (atR (setR R f (atR R 0)).tail i) c = 0 ∧ c ≤ k
    · rw [if_pos e, if_pos ⟨by omega, by omega, e.2⟩]
      exact modE (by omega)
    · rw [if_neg e, if_neg (fun x => e ⟨by omega, x.2.2⟩)]
  · have hi' : i < R.length - 1 := by omega
    rw [hat i hi', rowE_at (by rw [hrow i hi']; exact hk) (by rw [h.rows f hf]; exact hk)]
    split
    · exact Nat.mod_lt _ (by omega)
    · exact hsm i k hi' hk
theorem goT_eq {q N : Nat} {M0 : Nat → Nat → Int} (hq : prB (q : Int) = true) : ∀ (fuel c r : Nat) (R : List (List Nat)) (M : Nat → Nat → Int), Agree q N r M R → c + fuel = N → elim q N M0 c = (r, M) → goT q fuel c r R = (elim q N M0 N).1
  | 0, c, r, R, M, h, hc, he => by
    obtain rfl : c = N := by omega
    rw [he]; rfl
  | fuel + 1, c, r, R, M, h, hc, he => by
    have hpv := piv_fst (c := c) R r h.len (fun i hi => h.val i c hi (by omega))
    have hn : elim q N M0 (c + 1) = stp q N c (r, M) := by show stp q N c (elim q N M0 c) = _; rw [he]
    have hl := h.len
    have hle := fstN_le c R
    unfold goT
    rw [seqN_eq]
    by_cases e : fstN c R = R.length
    · rw [if_pos e]
      exact goT_eq hq fuel (c + 1) r R M h (by omega) (by rw [hn, stp_none (by rw [hpv]; omega)])
    · rw [if_neg e, forceM_eq, seqN_eq, seqN_eq]
      refine goT_eq hq fuel (c + 1) (r + 1) _ _ (step_agree hq h (by omega) (by omega)) (by omega) ?_
      rw [hn, stp_some (by rw [hpv]; omega), hpv]
/-- The table of a plane. -/
def incT (n N : Nat) (all : List Pt) : List (List Nat) := (List.range N).map fun i => (List.range N).map fun k => (inc (n : Int) all i k).toNat
def rankT (q n N : Nat) (all : List Pt) : Nat := forceM (incT n N all) fun R => goT q N 0 0 R
theorem atR_range (g : Nat → List Nat) (N : Nat) {i : Nat} (h : i < N) : atR ((List.range N).map g) i = g i := by
  have key : ∀ (l : List Nat) (i : Nat), i < l.length → atR (l.map g) i = g (l.getD i 0) := fun l => by
    induction l with
    | nil => intro i h; simp at h
    | cons a l ih =>
      intro i h
      cases i with
      | zero => rfl
      | succ i => rw [List.map_cons, atR, ih i (by simpa using h)]; rfl
  rw [key _ _ (by simpa using h)]
  simp [List.getD, h]
theorem rankT_eq {q n N : Nat} {all : List Pt} (hq : prB (q : Int) = true) : rankT q n N all = (elim q N (inc (n : Int) all) N).1 := by
  unfold rankT
  rw [forceM_eq]
  have hqb := prB_bd hq
  have hrow : ∀ i, i < N → atR (incT n N all) i = (List.range N).map fun k => (inc (n : Int) all i k).toNat := fun i hi => atR_range _ N hi
  have hat : ∀ i k, i < N → k < N → atN (atR (incT n N all) i) k = (inc (n : Int) all i k).toNat := fun i k hi hk => by
    rw [hrow i hi, atN_getD]
    simp [List.getD, hk]
  have hlen : (incT n N all).length = N := by simp [incT]
  have h01 : ∀ i k, inc (n : Int) all i k = 0 ∨ inc (n : Int) all i k = 1 := fun i k => by
    unfold inc
    split
    · exact .inr rfl
    · exact .inl rfl
  refine goT_eq hq N 0 0 _ _ ⟨by omega, fun i hi => ?_, fun i k hi hk => ?_, fun i k hi hk => ?_⟩ (by omega) rfl
  · rw [hrow i (by omega)]; simp
  · rw [hat i k (by omega) hk, Nat.zero_add]
    rcases h01 i k with e | e <;> rw [e] <;> rfl
  · rw [hat i k (by omega) hk]
    rcases h01 i k with e | e <;> rw [e] <;> simp <;> omega
end Go.Proofs.Ytbeeecahkchjnaa
/- Plain: the ranks of the planes of the orders 3 and 5, computed by the kernel. -/
namespace Go.Proofs.Ytbeeecahkchjnaa
theorem r33 : rankT 3 3 13 (allP 3) = 7 := by kernel_rfl
theorem r35 : rankT 5 3 13 (allP 3) = 13 := by kernel_rfl
theorem r37 : rankT 7 3 13 (allP 3) = 13 := by kernel_rfl
theorem r313 : rankT 13 3 13 (allP 3) = 13 := by kernel_rfl
theorem r55 : rankT 5 5 31 (allP 5) = 16 := by kernel_rfl
theorem r57 : rankT 7 5 31 (allP 5) = 31 := by kernel_rfl
theorem r513 : rankT 13 5 31 (allP 5) = 31 := by kernel_rfl
end Go.Proofs.Ytbeeecahkchjnaa
/- Contracts: whether a set is a difference set: the reference. -/
namespace Go.Proofs.Ytbeeecahkchjnaa
open Go.RowKit
set_option linter.unusedVariables false
set_option linter.unusedSimpArgs false
theorem diffR_no {n : Int} {l : List Int} (h : setB n l = false) : diffR n l = (false, 2) := by unfold diffR; rw [h]; rfl
theorem diffR_yes {n : Int} {l : List Int} (h : setB n l = true) : diffR n l = (onesB (cntC n l l.length), 0) := by unfold diffR; rw [h]; rfl
theorem dif_bd {n : Int} (h : 2 ≤ n) (l : List Int) (i k : Nat) : (dif n l i k : Int) = (l.getD i 0 - l.getD k 0) % n ∧ dif n l i k < n.toNat := by
  have h0 := Int.emod_nonneg (l.getD i 0 - l.getD k 0) (show n ≠ 0 by omega)
  have h1 := Int.emod_lt_of_pos (l.getD i 0 - l.getD k 0) (show 0 < n by omega)
  unfold dif
  omega
theorem ArgI.cells {w : World} {b : Option Addr} {n : Nat} {l : List Int} (h : ArgI w b n l) (hn : 0 < n) : ∃ g off, b = some ⟨g, off, none⟩ ∧ g < w.heap.size ∧ IntsAt w g off n l := by
  obtain ⟨g, off, e, hp⟩ := h hn
  exact ⟨g, off, e, World.block_lt_of_cell? w _ (hp 0 hn), hp⟩
set_option maxHeartbeats 4000000 in
theorem IsDifferenceSet_spec_yes (n : Nat) (b : Option Addr) (k cap : Nat) (l : List Int) (w : World) (hl : l.length = k) (hk : k ≤ 1000000) (hc : ArgI w b k l) (hs : setB n l = true) :
    Calls Try.prog 7 #[.int .i64 (n : Int), .slice b k cap] w (Ret w (.tuple #[.bool (onesB (cntC n l k)), .int .i64 0])) := by
  obtain ⟨⟨n2, n1000⟩, h60, hok⟩ := setB_yes hs
  obtain ⟨i0, hi, hz0, hz1, hz2⟩ := info_parts infoI
  have HS := Lib.hid (fun (W : World) (hW : Below w.heap.size w W) => l10Set_any n b k cap l W hl hk (hc.below hW))
  have hcode : codeS n l = 0 := by unfold codeS; rw [hs]; rfl
  rw [hcode] at HS
  have HL := Lib.hid hl
  have HC := Lib.hid hc
  have HOk := Lib.hid (fun i (h : i < k) => okB_at hok (i := i) (by omega))
  have HBd := Lib.hid (cntC_bd (n := n) (l := l) h60)
  have HI0 := Lib.hid hi; have HZ0 := Lib.hid hz0; have HZ1 := Lib.hid hz1; have HZ2 := Lib.hid hz2
  have hk60 : k ≤ 60 := by omega
  have nn2 : 2 ≤ n := by omega
  have nn3 : n ≤ 1000 := by omega
  clear hi hz0 hz1 hz2 hl hc hs hok hcode n2 n1000 h60
  go_enter Try.func7, Try.ntmps7
  go_wp2_with (first
    | (go_at_call 27; (with_reducible refine (HS.out _ (Below.refl _ _)).mono ?_); rintro e w1_ ⟨rfl, hb1⟩; have hsz1 := hb1.size; have HB1 := Lib.hid hb1; clear hb1)
    | (refine wpList_make_ints _ rfl _ _ 24 rfl 2 i0 Try.underlying24 HI0.out HZ0.out HZ1.out .i64 .i64 n _ (by omega) rfl rfl (by rw [HZ2.out]; omega) (by omega) ?_; intro w2 hb2 hr2 hp2 hl2; have HB2 := Lib.hid hb2; have HR2 := Lib.hid hr2; have HP2 := Lib.hid hp2; clear hb2 hr2 hp2))
  have HBw : Hid (Below w.heap.size w w2) := Lib.hid (low_tr' HB1.out HB2.out hsz1)
  have hgw : w.heap.size ≤ w1_.heap.size := hsz1
  generalize hG : w1_.heap.size = G at *
  clear HB1 HB2 hG HS
  go_loopw [8] (fun i wr => ∃ i' : Nat, i' ≤ k ∧ i = .int .i64 i' ∧ Hid (RoomI wr G n 2) ∧ Hid (IntsAt wr G 0 n (cntC n l i')) ∧ Hid (Below w.heap.size w wr)) (fun i wr => k - (intOf i).toNat)
  case atStart => exact ⟨0, Nat.zero_le _, rfl, HR2, Lib.hid (by have := HP2.out; simpa [cntC] using this), HBw⟩
  case round =>
    obtain ⟨i, hik, rfl, HR, HP, HB⟩ := hrel
    by_cases hlt : i < k
    · go_wp2
      go_loopw [9] (fun jv wr => ∃ j : Nat, j ≤ k ∧ jv = .int .i64 j ∧ Hid (RoomI wr G n 2) ∧ Hid (IntsAt wr G 0 n (rowC n l i (cntC n l i) j)) ∧ Hid (Below w.heap.size w wr)) (fun jv wr => k - (intOf jv).toNat)
      case atStart => exact ⟨0, Nat.zero_le _, rfl, HR, HP, HB⟩
      case round =>
        clear HR HP HB
        obtain ⟨j, hjk, rfl, HR, HP, HB⟩ := hrel
        by_cases hlj : j < k
        · obtain ⟨g, off, rfl, hgl, hpt⟩ := HC.out.cells (by omega)
          have ci : wr.cell? ⟨g, off + i, none⟩ = some (.int .i64 (l.getD i 0)) := (HB.out.cell hgl).trans (hpt i hlt)
          have cj : wr.cell? ⟨g, off + j, none⟩ = some (.int .i64 (l.getD j 0)) := (HB.out.cell hgl).trans (hpt j hlj)
          obtain ⟨d1, d2⟩ := dif_bd (n := (n : Int)) (by omega) l i j
          have hoi := HOk.out i hlt
          have hoj := HOk.out j hlj
          have HN := Lib.hid (rowC_succ n l i (cntC n l i) j)
          have hbd := rowC_bd (n := (n : Int)) (l := l) (i := i) (HBd.out i) j (dif n l i j)
          have hlen : (rowC n l i (cntC n l i) j).length = n := by rw [rowC_length, cntC_length]; simp
          unfold bump at HN
          rw [Int.toNat_natCast] at d2
          generalize hx : l.getD i 0 = x at *
          generalize hy : l.getD j 0 = y at *
          generalize hC : rowC n l i (cntC n l i) j = C at *
          have cd := HP.out _ d2
          rw [Nat.zero_add] at cd
          generalize hv : C.getD (dif n l i j) 0 = v at *
          generalize dif n l i j = d at *
          have hmod : (x - y + n) % (n : Int) = d := by rw [Int.add_emod_right]; exact d1.symm
          clear hpt hx hy hC hv
          have hwl := HR.out.lt
          go_wp2
          refine region_then 18 [(31, .slice (some ⟨G, 0, none⟩) n n), (32, .slice (some ⟨g, off, none⟩) k cap), (33, .int .i64 i), (34, .pointer (some ⟨g, off + i, none⟩)), (35, .int .i64 x), (36, .slice (some ⟨g, off, none⟩) k cap), (37, .int .i64 j), (38, .pointer (some ⟨g, off + j, none⟩)), (39, .int .i64 y), (40, .int .i64 (x - y)), (41, .int .i64 n), (42, .int .i64 (x - y + n)), (43, .int .i64 n), (44, .int .i64 d), (45, .pointer (some ⟨G, d, none⟩)), (46, .int .i64 v), (47, .int .i64 (v + 1)), (48, .pointer (some ⟨G, d, none⟩))] (by kernel_rfl) (by decide) (by kernel_rfl) (by kernel_rfl) (by kernel_rfl) (fun aE hpe => ?_)
          simp only [puts, Act.put, List.setIfInBounds_toArray, List.set_cons_zero, List.set_cons_succ] at hpe
          subst hpe
          refine ⟨⟨.inr (.inr ?_), .inr (.inr ?_), .inr (.inr ?_), .inr (.inr ?_), .inr (.inr ?_), .inr (.inr ?_), .inr (.inr ?_), .inr (.inr ?_), .inr (.inr ?_), .inr (.inr ?_), .inr (.inr ?_), .inr (.inr ?_), .inr (.inr ?_), .inr (.inr ?_), .inr (.inr ?_), .inr (.inr ?_), .inr (.inr ?_), .inr (.inr ?_), trivial⟩, ?_⟩
          · exact CalmG.mk 31 (.slice (some ⟨G, 0, none⟩) n n) rfl rfl rfl (fun W hW => calm_move (.tmp 7) rfl rfl)
          · exact CalmG.mk 32 (.slice (some ⟨g, off, none⟩) k cap) rfl rfl rfl (fun W hW => calm_move (.tmp 1) rfl rfl)
          · exact CalmG.mk 33 (.int .i64 i) rfl rfl rfl (fun W hW => calm_move (.tmp 8) rfl rfl)
          · exact CalmG.mk 34 (.pointer (some ⟨g, off + i, none⟩)) rfl rfl rfl (fun W hW => calm_run (by simp [execOp, Act.eval, go_sem, hlt]))
          · exact CalmG.mk 35 (.int .i64 x) rfl rfl rfl (fun W hW => calm_run (by have hc : W.cell? ⟨g, off + i, none⟩ = some (.int .i64 x) := cell_below hW ci; simp [execOp, Act.eval, go_sem, hc]))
          · exact CalmG.mk 36 (.slice (some ⟨g, off, none⟩) k cap) rfl rfl rfl (fun W hW => calm_move (.tmp 1) rfl rfl)
          · exact CalmG.mk 37 (.int .i64 j) rfl rfl rfl (fun W hW => calm_move (.tmp 9) rfl rfl)
          · exact CalmG.mk 38 (.pointer (some ⟨g, off + j, none⟩)) rfl rfl rfl (fun W hW => calm_run (by simp [execOp, Act.eval, go_sem, hlj]))
          · exact CalmG.mk 39 (.int .i64 y) rfl rfl rfl (fun W hW => calm_run (by have hc : W.cell? ⟨g, off + j, none⟩ = some (.int .i64 y) := cell_below hW cj; simp [execOp, Act.eval, go_sem, hc]))
          · exact CalmG.mk 40 (.int .i64 (x - y)) rfl rfl rfl (fun W hW => calm_run (by have e : IntKind.i64.wrap (x - y) = x - y := (by rw [IntKind.wrap_i64]; omega); simp [execOp, Act.eval, go_sem, e]))
          · exact CalmG.mk 41 (.int .i64 n) rfl rfl rfl (fun W hW => calm_move (.tmp 0) rfl rfl)
          · exact CalmG.mk 42 (.int .i64 (x - y + n)) rfl rfl rfl (fun W hW => calm_run (by have e : IntKind.i64.wrap (x - y + n) = x - y + n := (by rw [IntKind.wrap_i64]; omega); simp [execOp, Act.eval, go_sem, e]))
          · exact CalmG.mk 43 (.int .i64 n) rfl rfl rfl (fun W hW => calm_move (.tmp 0) rfl rfl)
          · exact CalmG.mk 44 (.int .i64 d) rfl rfl rfl (fun W hW => calm_run (by have e0 : ((n : Int) == 0) = false := (by simp; omega); have e1 : Int.tmod (x - y + n) n = d := (by rw [Int.tmod_eq_emod_of_nonneg (by omega), hmod]); have e2 : ¬ n = 0 := (by omega); simp [execOp, Act.eval, go_sem, e0, e1, e2]))
          · exact CalmG.mk 45 (.pointer (some ⟨G, d, none⟩)) rfl rfl rfl (fun W hW => calm_run (by simp [execOp, Act.eval, go_sem, d2]))
          · exact CalmG.mk 46 (.int .i64 v) rfl rfl rfl (fun W hW => calm_run (by have hc : W.cell? ⟨G, d, none⟩ = some (.int .i64 v) := cell_below hW cd; simp [execOp, Act.eval, go_sem, hc]))
          · exact CalmG.mk 47 (.int .i64 (v + 1)) rfl rfl rfl (fun W hW => calm_run (by have e : IntKind.i64.wrap (v + 1) = v + 1 := (by rw [IntKind.wrap_i64]; omega); simp [execOp, Act.eval, go_sem, e]))
          · exact CalmG.mk 48 (.pointer (some ⟨G, d, none⟩)) rfl rfl rfl (fun W hW => calm_run (by simp [execOp, Act.eval, go_sem, d2]))
          intro W hW
          simp only [List.drop_succ_cons, List.drop_zero]
          have HRW := HR.out.below hW
          have HPW := HP.out.below hW
          have HBW := low_tr' HB.out hW HB.out.size
          have c2 := cell_below hW cd
          have f2 := HRW.frozen d
          have hwl2 := HRW.lt
          clear ci cj cd hwl hW HR HP HB
          go_wp2
          go_roundw
          case rel => exact ⟨j + 1, by omega, by go_num, Lib.hid (HRW.set _ _), Lib.hid (by rw [HN.out]; exact ints_set HRW (Nat.le_refl _) HPW hlen d d2 (v + 1)), Lib.hid (HBW.setCell hgw _)⟩
          case measure => simp [intOf]; omega
        · have hjk2 : j = k := by omega
          subst hjk2
          have HN := Lib.hid (cntC_succ n l i)
          go_wp2
          go_roundw
          case rel => exact ⟨i + 1, by omega, by go_num, HR, Lib.hid (by rw [HN.out, HL.out]; exact HP.out), HB⟩
          case measure => simp [intOf]; omega
    · have hik2 : i = k := by omega
      subst hik2
      have HP' := HP
      have hlen : (cntC n l i).length = n := by rw [cntC_length]; simp
      have HLn := Lib.hid hlen
      generalize hC : cntC n l i = C at *
      clear hlt hlen HBd hC HP HOk HC
      have HRk := HR
      clear HR
      go_wp2
      go_loopw [10] (fun dv wr => ∃ d : Nat, d + 1 ≤ n ∧ dv = .int .i64 ((d : Int) + 1) ∧ Hid (∀ q, q < d → (C.getD (q + 1) 0 == 1) = true) ∧ Hid (RoomI wr G n 2) ∧ Hid (IntsAt wr G 0 n C) ∧ Hid (Below w.heap.size w wr)) (fun dv wr => n - (intOf dv).toNat)
      case atStart => exact ⟨0, by omega, rfl, Lib.hid (fun q hq => absurd hq (Nat.not_lt_zero _)), HRk, HP', HB⟩
      case round =>
        clear HRk HP' HB
        obtain ⟨d, hd, rfl, HD, HR, HP, HB⟩ := hrel
        by_cases hlt : d + 1 < n
        · have cd := HP.out (d + 1) hlt
          rw [Nat.zero_add] at cd
          have HNo := Lib.hid (fun h : (C.getD (d + 1) 0 == 1) = false => onesB_bad (c := C) (d := d) (by have := HLn.out; omega) h)
          have HYes : Hid ((C.getD (d + 1) 0 == 1) = true → ∀ q, q < d + 1 → (C.getD (q + 1) 0 == 1) = true) := Lib.hid (fun h q hq => by
            rcases Nat.lt_or_ge q d with h2 | h2
            · exact HD.out q h2
            · rw [show q = d by omega]; exact h)
          generalize C.getD (d + 1) 0 = v at *
          have hltz : (d : Int) + 1 < (n : Int) := by omega
          cases hv : (v == 1) with
          | true =>
            have HY2 := Lib.hid (HYes.out hv)
            have hv1 : (v != 1) = false := by simpa using hv
            clear HNo HYes
            go_wp2
            go_roundw
            case rel => exact ⟨d + 1, by omega, by go_num, HY2, HR, HP, HB⟩
            case measure => simp [intOf]; omega
          | false =>
            have HY2 := Lib.hid (HNo.out hv)
            have hv1 : (v != 1) = true := by simpa using hv
            clear HNo HYes
            go_wp2
            exact bodyPost_ret (v := .tuple #[.bool false, .int .i64 0]) (by simp [results, Try.results7, go_sem]) rfl ⟨by rw [HY2.out], HB.out⟩
        · have hdn : d + 1 = n := by omega
          have HY2 := Lib.hid (onesB_all (c := C) (fun q hq => HD.out q (by have := HLn.out; omega)))
          have hltz : ¬ (d : Int) + 1 < (n : Int) := by omega
          go_wp2
          exact bodyPost_ret (v := .tuple #[.bool true, .int .i64 0]) (by simp [results, Try.results7, go_sem]) rfl ⟨by rw [HY2.out], HB.out⟩
theorem IsDifferenceSet_spec (n : Int) (b : Option Addr) (k cap : Nat) (l : List Int) (w : World) (hl : l.length = k) (hk : k ≤ 1000000) (hc : ArgI w b k l) :
    Calls Try.prog 7 #[.int .i64 n, .slice b k cap] w (Ret w (.tuple #[.bool (diffR n l).1, .int .i64 (diffR n l).2])) := by
  cases hs : setB n l with
  | true =>
    obtain ⟨⟨n2, n1000⟩, _⟩ := setB_yes hs
    obtain ⟨m, rfl⟩ : ∃ m : Nat, n = m := ⟨n.toNat, by omega⟩
    rw [diffR_yes hs, hl]
    exact IsDifferenceSet_spec_yes m b k cap l w hl hk hc hs
  | false =>
    rw [diffR_no hs]
    have HS := Lib.hid (fun (W : World) (hW : Below w.heap.size w W) => l10Set_any n b k cap l W hl hk (hc.below hW))
    have hcode : codeS n l = 2 := by unfold codeS; rw [hs]; rfl
    rw [hcode] at HS
    clear hcode hs hc hl
    go_enter Try.func7, Try.ntmps7
    go_wp2_with (go_at_call 27; (with_reducible refine (HS.out _ (Below.refl _ _)).mono ?_); rintro e w1_ ⟨rfl, hb1⟩; have hsz1 := hb1.size; have HB1 := Lib.hid hb1; clear hb1)
    exact bodyPost_ret (v := .tuple #[.bool false, .int .i64 2]) (by simp [results, Try.results7, go_sem]) rfl ⟨rfl, HB1.out⟩
end Go.Proofs.Ytbeeecahkchjnaa
/- Contracts: whether a set is a difference set: the program. -/
namespace Go.Proofs.Ytbeeecahkchjnaa
open Go.RowKit
set_option linter.unusedVariables false
set_option linter.unusedSimpArgs false
theorem infoJ : (Try.prog.info? 3).map (fun i => (i.zero, i.size, i.bytes)) = some (some (.int .i64 0), 1, 8) := by kernel_rfl
/-- The place of the first number but 1. -/
structure OnesPost (C : List Int) (w : World) (e : Ending) (w' : World) : Prop where
  out : (∃ v : Int, e = .returned (.int .i64 v) ∧ ((v = -1 ∧ onesB C = true) ∨ (0 ≤ v ∧ onesB C = false))) ∧ w = w'
set_option maxHeartbeats 1000000 in
theorem indexFunc_ones (G m : Nat) (C : List Int) (w : World) (hn : 1 ≤ m ∧ m ≤ 1000) (hC : C.length = m + 1) (hp : IntsAt w G 0 (m + 1) C) :
    Calls Try.prog 46 #[.slice (some ⟨G, 1, none⟩) m m, .func (.func 26) #[] #[]] w (OnesPost C w) := by
  obtain ⟨n1, n1000⟩ := hn
  have HP := Lib.hid hp
  have HL := Lib.hid hC
  clear hp hC
  go_enter Try.func46, Try.ntmps46
  go_wp2
  go_loop [8] (fun i => ∃ d : Nat, d ≤ m ∧ i = .int .i64 d ∧ Hid (∀ q, q < d → (C.getD (q + 1) 0 == 1) = true)) (fun i => m - (intOf i).toNat)
  case atStart => exact ⟨0, Nat.zero_le _, rfl, Lib.hid (fun q hq => absurd hq (Nat.not_lt_zero _))⟩
  case round =>
    obtain ⟨d, hd, rfl, HD⟩ := hrel
    by_cases hlt : d < m
    · have cd := HP.out (d + 1) (by omega)
      rw [show 0 + (d + 1) = 1 + d by omega] at cd
      have HNo := Lib.hid (fun h : (C.getD (d + 1) 0 == 1) = false => onesB_bad (c := C) (d := d) (by have := HL.out; omega) h)
      have HYes : Hid ((C.getD (d + 1) 0 == 1) = true → ∀ q, q < d + 1 → (C.getD (q + 1) 0 == 1) = true) := Lib.hid (fun h q hq => by
        rcases Nat.lt_or_ge q d with h2 | h2
        · exact HD.out q h2
        · rw [show q = d by omega]; exact h)
      generalize C.getD (d + 1) 0 = v at *
      cases hv : (v == 1) with
      | true =>
        have HY2 := Lib.hid (HYes.out hv)
        have hv1 : (v != 1) = false := by simpa using hv
        clear HNo HYes
        go_wp2_with (go_at_call 26; go_in)
        go_round
        case rel => exact ⟨d + 1, by omega, by go_num, HY2⟩
        case measure => simp [intOf]; omega
      | false =>
        have HY2 := Lib.hid (HNo.out hv)
        have hv1 : (v != 1) = true := by simpa using hv
        clear HNo HYes
        go_wp2_with (go_at_call 26; go_in)
        go_ret
        exact ⟨⟨_, rfl, .inr ⟨by omega, HY2.out⟩⟩, rfl⟩
    · have HY2 := Lib.hid (onesB_all (c := C) (fun q hq => HD.out q (by have := HL.out; omega)))
      go_wp2
      go_ret
      exact ⟨⟨_, rfl, .inl ⟨rfl, HY2.out⟩⟩, rfl⟩
theorem containsFunc_ones (G m : Nat) (C : List Int) (w : World) (hn : 1 ≤ m ∧ m ≤ 1000) (hC : C.length = m + 1) (hp : IntsAt w G 0 (m + 1) C) :
    Calls Try.prog 25 #[.slice (some ⟨G, 1, none⟩) m m, .func (.func 26) #[] #[]] w (fun e w' => e = .returned (.bool (!onesB C)) ∧ w = w') := by
  have HI := Lib.hid (indexFunc_ones G m C w hn hC hp)
  clear hn hC hp
  generalize hO : onesB C = o
  have HO := Lib.hid hO
  clear hO
  cases o with
  | true =>
    have HI2 : Hid (Calls Try.prog 46 #[.slice (some ⟨G, 1, none⟩) m m, .func (.func 26) #[] #[]] w (fun e w' => e = .returned (.int .i64 (-1)) ∧ w = w')) :=
      Lib.hid (HI.out.mono fun e w' ⟨h⟩ => by
        obtain ⟨⟨v, he, h2⟩, hw⟩ := h
        rcases h2 with ⟨rfl, _⟩ | ⟨_, h2⟩
        · exact ⟨he, hw⟩
        · rw [HO.out] at h2; cases h2)
    clear HI
    go_enter Try.func25, Try.ntmps25
    go_wp2_with (go_at_call 46; (with_reducible refine (HI2.out).mono ?_); rintro e w' ⟨rfl, rfl⟩)
    go_ret
    exact ⟨rfl, rfl⟩
  | false =>
    have HI2 : Hid (Calls Try.prog 46 #[.slice (some ⟨G, 1, none⟩) m m, .func (.func 26) #[] #[]] w (fun e w' => ∃ v : Int, 0 ≤ v ∧ e = .returned (.int .i64 v) ∧ w = w')) :=
      Lib.hid (HI.out.mono fun e w' ⟨h⟩ => by
        obtain ⟨⟨v, he, h2⟩, hw⟩ := h
        rcases h2 with ⟨_, h2⟩ | ⟨h0, _⟩
        · rw [HO.out] at h2; cases h2
        · exact ⟨v, h0, he, hw⟩)
    clear HI
    go_enter Try.func25, Try.ntmps25
    go_wp2_with (go_at_call 46; (with_reducible refine (HI2.out).mono ?_); rintro e w' ⟨v, h0, rfl, rfl⟩)
    go_ret
    exact ⟨ret_bool (by simp <;> omega), rfl⟩
set_option maxHeartbeats 4000000 in
theorem IsDifferenceSet_impl_yes (n : Nat) (b : Option Addr) (k cap : Nat) (l : List Int) (w : World) (hl : l.length = k) (hk : k ≤ 1000000) (hc : ArgI w b k l) (hs : setB n l = true) :
    Calls Try.prog 6 #[.int .i64 (n : Int), .slice b k cap] w (Ret w (.tuple #[.bool (onesB (cntC n l k)), .int .i64 0])) := by
  obtain ⟨⟨n2, n1000⟩, h60, hok⟩ := setB_yes hs
  obtain ⟨i0, hi, hz0, hz1, hz2⟩ := info_parts infoJ
  have HS := Lib.hid (fun (W : World) (hW : Below w.heap.size w W) => isNumberSet_any n b k cap l W hl hk (hc.below hW))
  rw [hs] at HS
  have HL := Lib.hid hl
  have HC := Lib.hid hc
  have HOk := Lib.hid (fun i (h : i < k) => okB_at hok (i := i) (by omega))
  have HBd := Lib.hid (cntC_bd (n := n) (l := l) h60)
  have HI0 := Lib.hid hi; have HZ0 := Lib.hid hz0; have HZ1 := Lib.hid hz1; have HZ2 := Lib.hid hz2
  have hk60 : k ≤ 60 := by omega
  obtain ⟨m, rfl⟩ : ∃ m, n = m + 1 := ⟨n - 1, by omega⟩
  have nn2 : 1 ≤ m := by omega
  have nn3 : m + 1 ≤ 1000 := by omega
  clear hi hz0 hz1 hz2 hl hc hs hok n2 n1000 h60
  generalize hn : m + 1 = n at *
  go_enter Try.func6, Try.ntmps6
  go_wp2_with (first
    | (go_at_call 23; (with_reducible refine (HS.out _ (Below.refl _ _)).mono ?_); rintro e w1_ ⟨rfl, hb1⟩; have hsz1 := hb1.size; have HB1 := Lib.hid hb1; clear hb1)
    | (refine wpList_make_ints _ rfl _ _ 44 rfl 3 i0 Try.underlying44 HI0.out HZ0.out HZ1.out .i64 .i64 n _ (by omega) rfl rfl (by rw [HZ2.out]; omega) (by omega) ?_; intro w2 hb2 hr2 hp2 hl2; have HB2 := Lib.hid hb2; have HR2 := Lib.hid hr2; have HP2 := Lib.hid hp2; clear hb2 hr2 hp2))
  have HBw : Hid (Below w.heap.size w w2) := Lib.hid (low_tr' HB1.out HB2.out hsz1)
  have hgw : w.heap.size ≤ w1_.heap.size := hsz1
  generalize hG : w1_.heap.size = G at *
  clear HB1 HB2 hG HS
  go_loopw [19] (fun i wr => ∃ i' : Nat, i' ≤ k ∧ i = .int .i64 i' ∧ Hid (RoomI wr G n 3) ∧ Hid (IntsAt wr G 0 n (cntC n l i')) ∧ Hid (Below w.heap.size w wr)) (fun i wr => k - (intOf i).toNat)
  case atStart => exact ⟨0, Nat.zero_le _, rfl, HR2, Lib.hid (by have := HP2.out; simpa [cntC] using this), HBw⟩
  case round =>
    obtain ⟨i, hik, rfl, HR, HP, HB⟩ := hrel
    by_cases hlt : i < k
    · obtain ⟨g, off, rfl, hgl, hpt⟩ := HC.out.cells (by omega)
      have ci : wr.cell? ⟨g, off + i, none⟩ = some (.int .i64 (l.getD i 0)) := (HB.out.cell hgl).trans (hpt i hlt)
      have HPt := Lib.hid hpt
      clear hpt
      generalize hxi : l.getD i 0 = x at ci
      have HXi := Lib.hid hxi
      clear hxi
      go_wp2
      go_loopw [25] (fun jv wr => ∃ j : Nat, j ≤ k ∧ jv = .int .i64 j ∧ Hid (RoomI wr G n 3) ∧ Hid (IntsAt wr G 0 n (rowC n l i (cntC n l i) j)) ∧ Hid (Below w.heap.size w wr)) (fun jv wr => k - (intOf jv).toNat)
      case atStart => exact ⟨0, Nat.zero_le _, rfl, HR, HP, HB⟩
      case round =>
        clear HR HP HB ci
        obtain ⟨j, hjk, rfl, HR, HP, HB⟩ := hrel
        by_cases hlj : j < k
        · have cj : wr.cell? ⟨g, off + j, none⟩ = some (.int .i64 (l.getD j 0)) := (HB.out.cell hgl).trans (HPt.out j hlj)
          obtain ⟨d1, d2⟩ := dif_bd (n := (n : Int)) (by omega) l i j
          have hoi := HOk.out i hlt
          have hoj := HOk.out j hlj
          have HN := Lib.hid (rowC_succ n l i (cntC n l i) j)
          have hbd := rowC_bd (n := (n : Int)) (l := l) (i := i) (HBd.out i) j (dif n l i j)
          have hlen : (rowC n l i (cntC n l i) j).length = n := by rw [rowC_length, cntC_length]; simp
          unfold bump at HN
          rw [Int.toNat_natCast] at d2
          rw [HXi.out] at d1 hoi
          generalize l.getD j 0 = y at *
          generalize rowC n l i (cntC n l i) j = C at *
          have cd := HP.out _ d2
          rw [Nat.zero_add] at cd
          generalize C.getD (dif n l i j) 0 = v at *
          generalize dif n l i j = d at *
          obtain ⟨x0, x1⟩ := hoi
          obtain ⟨y0, y1⟩ := hoj
          obtain ⟨v0, v1⟩ := hbd
          have HM := Lib.hid (fun (W : World) => mod_any (x - y) n W (by omega) (by omega) (by omega) (by omega))
          rw [← d1] at HM
          clear d1
          have hwl := HR.out.lt
          have f2 := HR.out.frozen d
          go_wp2_with (go_at_call 24; (with_reducible refine (HM.out _).mono ?_); rintro e w' ⟨rfl, rfl⟩)
          go_roundw
          case rel => exact ⟨j + 1, by omega, by go_num, Lib.hid (HR.out.set _ _), Lib.hid (by rw [HN.out]; exact ints_set HR.out (Nat.le_refl _) HP.out hlen d d2 (v + 1)), Lib.hid (HB.out.setCell hgw _)⟩
          case measure => simp [intOf]; omega
        · have hjk2 : j = k := by omega
          subst hjk2
          have HN := Lib.hid (cntC_succ n l i)
          go_wp2
          go_roundw
          case rel => exact ⟨i + 1, by omega, by go_num, HR, Lib.hid (by rw [HN.out, HL.out]; exact HP.out), HB⟩
          case measure => simp [intOf]; omega
    · have hik2 : i = k := by omega
      subst hik2
      have hlen : (cntC n l i).length = n := by rw [cntC_length]; simp
      generalize cntC n l i = C at *
      have HF := Lib.hid (containsFunc_ones G m C wr (by omega) (by omega) (by rw [hn]; exact HP.out))
      generalize onesB C = o at *
      have hm1 : n - 1 = m := by omega
      have hn1 : 1 ≤ n := by omega
      go_wp2_with (go_at_call 25; (with_reducible refine (HF.out).mono ?_); rintro e w' ⟨rfl, rfl⟩)
      exact bodyPost_ret (v := .tuple #[.bool o, .int .i64 0]) (by simp [results, Try.results6, go_sem]) rfl ⟨rfl, HB.out⟩
theorem IsDifferenceSet_impl (n : Int) (b : Option Addr) (k cap : Nat) (l : List Int) (w : World) (hl : l.length = k) (hk : k ≤ 1000000) (hc : ArgI w b k l) :
    Calls Try.prog 6 #[.int .i64 n, .slice b k cap] w (Ret w (.tuple #[.bool (diffR n l).1, .int .i64 (diffR n l).2])) := by
  cases hs : setB n l with
  | true =>
    obtain ⟨⟨n2, n1000⟩, _⟩ := setB_yes hs
    obtain ⟨m, rfl⟩ : ∃ m : Nat, n = m := ⟨n.toNat, by omega⟩
    rw [diffR_yes hs, hl]
    exact IsDifferenceSet_impl_yes m b k cap l w hl hk hc hs
  | false =>
    rw [diffR_no hs]
    have HS := Lib.hid (fun (W : World) (hW : Below w.heap.size w W) => isNumberSet_any n b k cap l W hl hk (hc.below hW))
    rw [hs] at HS
    clear hs hc hl
    go_enter Try.func6, Try.ntmps6
    go_wp2_with (go_at_call 23; (with_reducible refine (HS.out _ (Below.refl _ _)).mono ?_); rintro e w1_ ⟨rfl, hb1⟩; have hsz1 := hb1.size; have HB1 := Lib.hid hb1; clear hb1)
    exact bodyPost_ret (v := .tuple #[.bool false, .int .i64 2]) (by simp [results, Try.results6, go_sem]) rfl ⟨rfl, HB1.out⟩
end Go.Proofs.Ytbeeecahkchjnaa
/- The law FnExactIsDifferenceSet: walked. -/
namespace Go.Proofs.Ytbeeecahkchjnaa
open Go.RowKit
set_option linter.unusedVariables false
set_option linter.unusedSimpArgs false
structure LaidK (w : World) (k : Nat) (l : List Int) (e : Ending) (w' : World) : Prop where
  out : ∃ g, e = .returned (.slice (some ⟨g, 0, none⟩) k (k + roomN k)) ∧ w.heap.size ≤ g ∧ g < w'.heap.size ∧ RoomI w' g (k + roomN k) 2 ∧ IntsAt w' g 0 (k + roomN k) (withRoomI l) ∧ Below w.heap.size w w'
end Go.Proofs.Ytbeeecahkchjnaa
/- The law FnExactTranslateOf: walked. -/
namespace Go.Proofs.Ytbeeecahkchjnaa
open Go.RowKit
set_option linter.unusedVariables false
set_option linter.unusedSimpArgs false
theorem trO_two (n m : Int) (l : List Int) : ∃ o c : Int, trO n m l = .tuple #[.int .i64 o, .int .i64 c] := by
  unfold trO
  split
  · split
    · exact ⟨_, _, rfl⟩
    · exact ⟨_, _, rfl⟩
  · exact ⟨_, _, rfl⟩
theorem TranslateOf_specK (n m : Int) (b : Option Addr) (k cap : Nat) (l : List Int) (W : World) (v : Value) (hr : trO n m l = v) (hl : l.length = k) (hk : k ≤ 1000000) (h : ArgK W b k l) :
    Calls Try.prog 14 #[.int .i64 n, .slice b k cap, .int .i64 m] W (Ret W v) := by
  subst hl; rw [← hr]; exact TranslateOf_spec n m b cap l W hk h
theorem TranslateOf_implK (n m : Int) (b : Option Addr) (k cap : Nat) (l : List Int) (W : World) (v : Value) (hr : trO n m l = v) (hl : l.length = k) (hk : k ≤ 1000000) (h : ArgK W b k l) :
    Calls Try.prog 13 #[.int .i64 n, .slice b k cap, .int .i64 m] W (Ret W v) := by
  subst hl; rw [← hr]; exact TranslateOf_impl n m b cap l W hk h
end Go.Proofs.Ytbeeecahkchjnaa
/- Contracts: the reference's IncidenceRank. -- tables -/
namespace Go.Proofs.Ytbeeecahkchjnaa
open Go.RowKit
set_option linter.unusedVariables false
set_option linter.unusedSimpArgs false
theorem l01On_b {p : Int} {a b : Pt} {v : Bool} (w : World) (hv : onB p a b = v) (hp : prB p = true) (ha : In13 a) (hb : In13 b) : Calls Try.prog 42 #[.int .i64 p, pV a, pV b] w (Ret w (.bool v)) := by rw [← hv]; exact l01On_P w hp ha hb
theorem l01Mod_R {p n r : Int} (w : World) (hr : n % p = r) (hp : 0 < p) (hp' : p ≤ 1000) (hn : -4611686018427387904 ≤ n) (hn' : n ≤ 4611686018427387904) : Calls Try.prog 44 #[.int .i64 p, .int .i64 n] w (Ret w (.int .i64 r)) := by
  subst hr
  refine (l01Mod_any p n w hp hp' hn hn').mono ?_
  rintro e w' ⟨rfl, rfl⟩
  exact ⟨rfl, Below.refl _ _⟩
def bitL (f : Nat → Bool) (m : Nat) : List Int := (List.range m).map (fun t => if f t = true then (1 : Int) else 0)
theorem bitL_length (f : Nat → Bool) (m : Nat) : (bitL f m).length = m := by simp [bitL]
theorem bitL_yes {f : Nat → Bool} {m : Nat} (h : f m = true) : bitL f m ++ [1] = bitL f (m + 1) := by simp [bitL, List.range_succ, h]
theorem bitL_no {f : Nat → Bool} {m : Nat} (h : f m = false) : bitL f m ++ [0] = bitL f (m + 1) := by simp [bitL, List.range_succ, h]
theorem bitL_at (f : Nat → Bool) (m l : Nat) (h : l < m) : (bitL f m).getD l 0 = if f l = true then (1 : Int) else 0 := by simp [bitL, List.getD, h]
set_option pp.deepTerms false
set_option pp.deepTerms.threshold 8
set_option maxRecDepth 20000 in
set_option maxHeartbeats 8000000 in
theorem IncidenceRank_spec_yes (n N : Nat) (q : Int) (all : List Pt) (w : World) (hp : prB (n : Int) = true) (hq : prB q = true) (hA : allP n = all) (hN : all.length = N) (hN1 : N ≤ 200) (hN3 : 3 ≤ N) (hin : ∀ a ∈ all, In13 a) (r : Nat) (hr : (elim q N (inc (n : Int) all) N).1 = r) :
    Calls Try.prog 19 #[.int .i64 (n : Int), .int .i64 q] w (Ret w (.tuple #[.int .i64 (r : Int), .int .i64 0])) := by
  obtain ⟨b1, b2⟩ := prB_bd hp
  obtain ⟨c1, c2⟩ := prB_bd hq
  have hn13 : n ≤ 13 := by omega
  have hNp : 0 < all.length := by omega
  have HA := Lib.hid hA
  have HIN := Lib.hid (fun k (hk : k < N) => hin (all.getD k (0, 0, 0)) (by rw [List.getD_eq_getElem?_getD, List.getElem?_eq_getElem (by omega)]; exact List.getElem_mem _))
  have HR := Lib.hid hr
  clear hA hin hr
  go_enter Try.func19, Try.ntmps19
  go_wp2_with (first | (refine wl_loadC ?_) | (refine wl_load ?_) | (refine wl_storeC ?_) | (refine wl_store ?_) | (refine wl_build ?_) | (refine wl_slice ?_) | (refine wl_make ?_; intro gr W' hgr hl hR; have hs := hl.out.size; (try simp at hs)) | (refine wl_append (he := eltSl) ?_; intro v' w' ho hg hb; have hs := hg.size; (try simp at hs)) | (refine wl_append ?_; intro v' w' ho hg hb; have hs := hg.size; (try simp at hs); (try rw [ptCs_end] at ho); (try rw [ints_end] at ho); (try simp only [Nat.zero_add, Nat.reduceAdd, List.nil_append, List.cons_append] at ho)) | (go_at_call 40; (with_reducible refine (l01Prime_yes _ _ (by assumption)).mono ?_); rintro e w' ⟨rfl, rfl⟩) | (go_at_call 41; (with_reducible refine (l01Points_any n _ ⟨by omega, by omega⟩).mono ?_); rintro e w' ⟨v, rfl, ho, hb⟩; rw [HA.out] at ho; obtain ⟨gp, cp, rfl, hg0, hg1, hpt⟩ := ownPts ho rfl hNp; (simp only [hN] at hpt ⊢); have hPK := PtsK.mk hpt; have hl := Link.mk hb; have hs := hb.size; (try simp at hs); clear hb ho hpt) | ((with_reducible apply region_gd (id := 11)); refine region_QA (id := 11) 10 ?_; apply Exists.intro; refine ⟨fun G => ?_, fun W hl => ?_⟩; (· (simp only [List.take_succ_cons, List.take_zero]; (repeat (first | go_big_quiet_skip | (go_big_quiet_want; first | (refine q_loadC ?_; simp only [Act.put, List.setIfInBounds_toArray, List.set_cons_zero, List.set_cons_succ]; go_big_quiet_on) | (refine q_load ?_; simp only [Act.put, List.setIfInBounds_toArray, List.set_cons_zero, List.set_cons_succ]; go_big_quiet_on) | (go_big_quiet_op; first | go_big_quiet_on)))); exact rfl)); have hs := hl.out.size; (try simp at hs); simp only [List.drop_succ_cons, List.drop_zero]) | ((with_reducible apply region_gd (id := 36)); refine region_QA (id := 36) 16 ?_; apply Exists.intro; refine ⟨fun G => ?_, fun W hl => ?_⟩; (· (simp only [List.take_succ_cons, List.take_zero]; (repeat (first | go_big_quiet_skip | (go_big_quiet_want; first | (refine q_loadC ?_; simp only [Act.put, List.setIfInBounds_toArray, List.set_cons_zero, List.set_cons_succ]; go_big_quiet_on) | (refine q_load ?_; simp only [Act.put, List.setIfInBounds_toArray, List.set_cons_zero, List.set_cons_succ]; go_big_quiet_on) | (go_big_quiet_op; first | go_big_quiet_on)))); exact rfl)); have hs := hl.out.size; (try simp at hs); simp only [List.drop_succ_cons, List.drop_zero]))
  obtain ⟨B, hB⟩ : ∃ B, w'.heap.size = B := ⟨_, rfl⟩
  have hB1 := Nat.le_of_eq hB
  have hB2 := Nat.le_of_eq hB.symm
  clear hB
  have hO0 : OwnK (w'.alloc (.cells #[] 24)) B 24 1 (.slice (some ⟨w'.heap.size, 0, none⟩) 0 0) 0 (rowVs N (fun _ => (0, 0)) 0) := OwnK.empty findRow (by omega)
  go_loopw [7, 8] (fun v i wr => ∃ (k : Nat) (gs : Nat → Nat × Nat), k ≤ N ∧ i = .int .i64 (k : Int) ∧ OwnK wr B 24 1 v k (rowVs N gs k) ∧ RowsK wr B k N gs (inc (n : Int) all) ∧ LowK w wr ∧ PtsK wr gp 0 N all ∧ B ≤ wr.heap.size) (fun _ i wr => N - (intOf i).toNat)
  case atStart => exact ⟨0, _, Nat.zero_le _, rfl, hO0, RowsK.nil _ _ _ _ _, findLow, findPts, (by simp; omega)⟩
  case round =>
    clear hO0 hPK hl hs
    obtain ⟨k, gs, hk, rfl, hO, hRows, hV, hPt, hsz⟩ := hrel
    by_cases hlt : k < N
    · obtain ⟨a, ha⟩ : ∃ a, all.getD k (0, 0, 0) = a := ⟨_, rfl⟩
      have hia : In13 a := by rw [← ha]; exact HIN.out k hlt
      go_wp2_with (first | (refine wl_loadC ?_) | (refine wl_load ?_) | (refine wl_storeC ?_) | (refine wl_store ?_) | (refine wl_build ?_) | (refine wl_slice ?_) | (refine wl_make ?_; intro gr W' hgr hl hR; have hs := hl.out.size; (try simp at hs)) | (refine wl_append (he := eltSl) ?_; intro v' w' ho hg hb; have hs := hg.size; (try simp at hs)) | (refine wl_append ?_; intro v' w' ho hg hb; have hs := hg.size; (try simp at hs); (try rw [ptCs_end] at ho); (try rw [ints_end] at ho); (try simp only [Nat.zero_add, Nat.reduceAdd, List.nil_append, List.cons_append] at ho)) | ((with_reducible apply region_gd (id := 11)); refine region_QA (id := 11) 10 ?_; apply Exists.intro; refine ⟨fun G => ?_, fun W hl => ?_⟩; (· (simp only [List.take_succ_cons, List.take_zero]; (repeat (first | go_big_quiet_skip | (go_big_quiet_want; first | (refine q_loadC ?_; simp only [Act.put, List.setIfInBounds_toArray, List.set_cons_zero, List.set_cons_succ]; go_big_quiet_on) | (refine q_load ?_; simp only [Act.put, List.setIfInBounds_toArray, List.set_cons_zero, List.set_cons_succ]; go_big_quiet_on) | (go_big_quiet_op; first | go_big_quiet_on)))); exact rfl)); have hs := hl.out.size; (try simp at hs); simp only [List.drop_succ_cons, List.drop_zero]) | ((with_reducible apply region_gd (id := 36)); refine region_QA (id := 36) 16 ?_; apply Exists.intro; refine ⟨fun G => ?_, fun W hl => ?_⟩; (· (simp only [List.take_succ_cons, List.take_zero]; (repeat (first | go_big_quiet_skip | (go_big_quiet_want; first | (refine q_loadC ?_; simp only [Act.put, List.setIfInBounds_toArray, List.set_cons_zero, List.set_cons_succ]; go_big_quiet_on) | (refine q_load ?_; simp only [Act.put, List.setIfInBounds_toArray, List.set_cons_zero, List.set_cons_succ]; go_big_quiet_on) | (go_big_quiet_op; first | go_big_quiet_on)))); exact rfl)); have hs := hl.out.size; (try simp at hs); simp only [List.drop_succ_cons, List.drop_zero]))
      have hr0 : OwnK (wr.alloc (.cells #[] 2)) wr.heap.size 2 1 (.slice (some ⟨wr.heap.size, 0, none⟩) 0 0) 0 (ints (bitL (fun j => onB (n : Int) (all.getD j (0, 0, 0)) a) 0)) := OwnK.empty findRow (by omega)
      go_loopw [9, 10] (fun v j wi => ∃ m : Nat, m ≤ N ∧ j = .int .i64 (m : Int) ∧ LowK wr wi ∧ OwnK wi wr.heap.size 2 1 v m (ints (bitL (fun j => onB (n : Int) (all.getD j (0, 0, 0)) a) m))) (fun _ j wi => N - (intOf j).toNat)
      case atStart => exact ⟨0, Nat.zero_le _, rfl, findLow, hr0⟩
      case round =>
        clear hr0
        obtain ⟨m, hm, rfl, hVi, hr⟩ := hrel
        have hPi := PtsK.link (LowK.lnk hVi) hPt
        have hszi := hVi.size
        by_cases hlm : m < N
        · obtain ⟨b, hbm⟩ : ∃ b, all.getD m (0, 0, 0) = b := ⟨_, rfl⟩
          have hib : In13 b := by rw [← hbm]; exact HIN.out m hlm
          rcases hv : onB (n : Int) b a with _ | _
          · go_wp2_with (first | (refine wl_loadC ?_) | (refine wl_load ?_) | (refine wl_storeC ?_) | (refine wl_store ?_) | (refine wl_build ?_) | (refine wl_slice ?_) | (refine wl_make ?_; intro gr W' hgr hl hR; have hs := hl.out.size; (try simp at hs)) | (refine wl_append (he := eltSl) ?_; intro v' w' ho hg hb; have hs := hg.size; (try simp at hs)) | (refine wl_append ?_; intro v' w' ho hg hb; have hs := hg.size; (try simp at hs); (try rw [ptCs_end] at ho); (try rw [ints_end] at ho); (try simp only [Nat.zero_add, Nat.reduceAdd, List.nil_append, List.cons_append] at ho)) | (go_at_call 42; (with_reducible refine (l01On_b _ hv hp hib hia).mono ?_); rintro e w' ⟨rfl, hb⟩; have hl := Link.mk hb; have hs := hb.size; (try simp at hs); clear hb) | ((with_reducible apply region_gd (id := 11)); refine region_QA (id := 11) 10 ?_; apply Exists.intro; refine ⟨fun G => ?_, fun W hl => ?_⟩; (· (simp only [List.take_succ_cons, List.take_zero]; (repeat (first | go_big_quiet_skip | (go_big_quiet_want; first | (refine q_loadC ?_; simp only [Act.put, List.setIfInBounds_toArray, List.set_cons_zero, List.set_cons_succ]; go_big_quiet_on) | (refine q_load ?_; simp only [Act.put, List.setIfInBounds_toArray, List.set_cons_zero, List.set_cons_succ]; go_big_quiet_on) | (go_big_quiet_op; first | go_big_quiet_on | (apply Exists.intro; refine ⟨fun g => ?_, ?_⟩; (· (have hl := growL g; first | (go_at_call 42; with_reducible exact grow_ret (l01On_b _ hv hp hib hia)))); go_big_quiet_on))))); exact rfl)); have hs := hl.out.size; (try simp at hs); simp only [List.drop_succ_cons, List.drop_zero]) | ((with_reducible apply region_gd (id := 36)); refine region_QA (id := 36) 16 ?_; apply Exists.intro; refine ⟨fun G => ?_, fun W hl => ?_⟩; (· (simp only [List.take_succ_cons, List.take_zero]; (repeat (first | go_big_quiet_skip | (go_big_quiet_want; first | (refine q_loadC ?_; simp only [Act.put, List.setIfInBounds_toArray, List.set_cons_zero, List.set_cons_succ]; go_big_quiet_on) | (refine q_load ?_; simp only [Act.put, List.setIfInBounds_toArray, List.set_cons_zero, List.set_cons_succ]; go_big_quiet_on) | (go_big_quiet_op; first | go_big_quiet_on | (apply Exists.intro; refine ⟨fun g => ?_, ?_⟩; (· (have hl := growL g; first | (go_at_call 42; with_reducible exact grow_ret (l01On_b _ hv hp hib hia)))); go_big_quiet_on))))); exact rfl)); have hs := hl.out.size; (try simp at hs); simp only [List.drop_succ_cons, List.drop_zero]))
            go_roundw
            case rel => exact ⟨m + 1, by omega, by go_num, findLow, by rw [← bitL_no (f := fun j => onB (n : Int) (all.getD j (0, 0, 0)) a) (by rw [hbm, hv])]; exact ho⟩
            case measure => (simp [intOf]; try omega)
          · go_wp2_with (first | (refine wl_loadC ?_) | (refine wl_load ?_) | (refine wl_storeC ?_) | (refine wl_store ?_) | (refine wl_build ?_) | (refine wl_slice ?_) | (refine wl_make ?_; intro gr W' hgr hl hR; have hs := hl.out.size; (try simp at hs)) | (refine wl_append (he := eltSl) ?_; intro v' w' ho hg hb; have hs := hg.size; (try simp at hs)) | (refine wl_append ?_; intro v' w' ho hg hb; have hs := hg.size; (try simp at hs); (try rw [ptCs_end] at ho); (try rw [ints_end] at ho); (try simp only [Nat.zero_add, Nat.reduceAdd, List.nil_append, List.cons_append] at ho)) | (go_at_call 42; (with_reducible refine (l01On_b _ hv hp hib hia).mono ?_); rintro e w' ⟨rfl, hb⟩; have hl := Link.mk hb; have hs := hb.size; (try simp at hs); clear hb) | ((with_reducible apply region_gd (id := 11)); refine region_QA (id := 11) 10 ?_; apply Exists.intro; refine ⟨fun G => ?_, fun W hl => ?_⟩; (· (simp only [List.take_succ_cons, List.take_zero]; (repeat (first | go_big_quiet_skip | (go_big_quiet_want; first | (refine q_loadC ?_; simp only [Act.put, List.setIfInBounds_toArray, List.set_cons_zero, List.set_cons_succ]; go_big_quiet_on) | (refine q_load ?_; simp only [Act.put, List.setIfInBounds_toArray, List.set_cons_zero, List.set_cons_succ]; go_big_quiet_on) | (go_big_quiet_op; first | go_big_quiet_on | (apply Exists.intro; refine ⟨fun g => ?_, ?_⟩; (· (have hl := growL g; first | (go_at_call 42; with_reducible exact grow_ret (l01On_b _ hv hp hib hia)))); go_big_quiet_on))))); exact rfl)); have hs := hl.out.size; (try simp at hs); simp only [List.drop_succ_cons, List.drop_zero]) | ((with_reducible apply region_gd (id := 36)); refine region_QA (id := 36) 16 ?_; apply Exists.intro; refine ⟨fun G => ?_, fun W hl => ?_⟩; (· (simp only [List.take_succ_cons, List.take_zero]; (repeat (first | go_big_quiet_skip | (go_big_quiet_want; first | (refine q_loadC ?_; simp only [Act.put, List.setIfInBounds_toArray, List.set_cons_zero, List.set_cons_succ]; go_big_quiet_on) | (refine q_load ?_; simp only [Act.put, List.setIfInBounds_toArray, List.set_cons_zero, List.set_cons_succ]; go_big_quiet_on) | (go_big_quiet_op; first | go_big_quiet_on | (apply Exists.intro; refine ⟨fun g => ?_, ?_⟩; (· (have hl := growL g; first | (go_at_call 42; with_reducible exact grow_ret (l01On_b _ hv hp hib hia)))); go_big_quiet_on))))); exact rfl)); have hs := hl.out.size; (try simp at hs); simp only [List.drop_succ_cons, List.drop_zero]))
            go_roundw
            case rel => exact ⟨m + 1, by omega, by go_num, findLow, by rw [← bitL_yes (f := fun j => onB (n : Int) (all.getD j (0, 0, 0)) a) (by rw [hbm, hv])]; exact ho⟩
            case measure => (simp [intOf]; try omega)
        · obtain rfl : N = m := by omega
          have hOi := OwnK.link (LowK.lnk hVi) hO
          have hVw := LowK.link (LowK.lnk hVi) hV
          obtain ⟨gr, cr, rfl, hgr, hF⟩ := rowF_own hr (bitL_length _ _) (by omega)
          go_wp2_with (first | (refine wl_loadC ?_) | (refine wl_load ?_) | (refine wl_storeC ?_) | (refine wl_store ?_) | (refine wl_build ?_) | (refine wl_slice ?_) | (refine wl_make ?_; intro gr W' hgr hl hR; have hs := hl.out.size; (try simp at hs)) | (refine wl_append (he := eltSl) ?_; intro v' w' ho hg hb; have hs := hg.size; (try simp at hs)) | (refine wl_append ?_; intro v' w' ho hg hb; have hs := hg.size; (try simp at hs); (try rw [ptCs_end] at ho); (try rw [ints_end] at ho); (try simp only [Nat.zero_add, Nat.reduceAdd, List.nil_append, List.cons_append] at ho)) | ((with_reducible apply region_gd (id := 11)); refine region_QA (id := 11) 10 ?_; apply Exists.intro; refine ⟨fun G => ?_, fun W hl => ?_⟩; (· (simp only [List.take_succ_cons, List.take_zero]; (repeat (first | go_big_quiet_skip | (go_big_quiet_want; first | (refine q_loadC ?_; simp only [Act.put, List.setIfInBounds_toArray, List.set_cons_zero, List.set_cons_succ]; go_big_quiet_on) | (refine q_load ?_; simp only [Act.put, List.setIfInBounds_toArray, List.set_cons_zero, List.set_cons_succ]; go_big_quiet_on) | (go_big_quiet_op; first | go_big_quiet_on)))); exact rfl)); have hs := hl.out.size; (try simp at hs); simp only [List.drop_succ_cons, List.drop_zero]) | ((with_reducible apply region_gd (id := 36)); refine region_QA (id := 36) 16 ?_; apply Exists.intro; refine ⟨fun G => ?_, fun W hl => ?_⟩; (· (simp only [List.take_succ_cons, List.take_zero]; (repeat (first | go_big_quiet_skip | (go_big_quiet_want; first | (refine q_loadC ?_; simp only [Act.put, List.setIfInBounds_toArray, List.set_cons_zero, List.set_cons_succ]; go_big_quiet_on) | (refine q_load ?_; simp only [Act.put, List.setIfInBounds_toArray, List.set_cons_zero, List.set_cons_succ]; go_big_quiet_on) | (go_big_quiet_op; first | go_big_quiet_on)))); exact rfl)); have hs := hl.out.size; (try simp at hs); simp only [List.drop_succ_cons, List.drop_zero]))
          go_roundw
          case rel =>
            have hR0 := RowsK.link (LowK.lnk hVi) hRows
            have hR1 := RowsK.grewO hg hOi hR0
            have hF2 := RowF.grewO hg hOi hF
            have hne : ∀ i, i < k → (gs i).1 ≠ gr := fun i hi => by
              have := (hRows.row i hi).lt
              omega
            have hl : LowK w w' := findLow
            have hp2 : PtsK w' gp 0 N all := findPts
            exact ⟨k + 1, fun i => if i = k then (gr, cr) else gs i, by omega, by go_num, (rowVs_snoc N gs k (gr, cr)) ▸ ho, hR1.snoc hF2 (by omega) hne (fun l hl => by rw [bitL_at _ _ _ hl]; unfold inc; rw [ha]), hl, hp2, by omega⟩
          case measure => (simp [intOf]; try omega)
    · obtain rfl : N = k := by omega
      obtain ⟨g0, cap0, rfl, hgB, hH⟩ := OwnK.hd hO (by omega)
      clear hO
      obtain ⟨M0, hM0⟩ : ∃ M0, inc (n : Int) all = M0 := ⟨_, rfl⟩
      have HBD : Hid (∀ c, Bd q (elim q N M0 c).2) := Lib.hid (fun c => elim_bd (by omega) (by rw [← hM0]; intro i j; unfold inc; split <;> omega) c)
      rw [hM0] at hRows HR
      clear hM0
      go_wp2_with (first | (refine wl_loadC ?_) | (refine wl_load ?_) | (refine wl_storeC ?_) | (refine wl_store ?_) | (refine wl_build ?_) | (refine wl_slice ?_) | (refine wl_make ?_; intro gr W' hgr hl hR; have hs := hl.out.size; (try simp at hs)) | (refine wl_append (he := eltSl) ?_; intro v' w' ho hg hb; have hs := hg.size; (try simp at hs)) | (refine wl_append ?_; intro v' w' ho hg hb; have hs := hg.size; (try simp at hs); (try rw [ptCs_end] at ho); (try rw [ints_end] at ho); (try simp only [Nat.zero_add, Nat.reduceAdd, List.nil_append, List.cons_append] at ho)) | ((with_reducible apply region_gd (id := 11)); refine region_QA (id := 11) 10 ?_; apply Exists.intro; refine ⟨fun G => ?_, fun W hl => ?_⟩; (· (simp only [List.take_succ_cons, List.take_zero]; (repeat (first | go_big_quiet_skip | (go_big_quiet_want; first | (refine q_loadC ?_; simp only [Act.put, List.setIfInBounds_toArray, List.set_cons_zero, List.set_cons_succ]; go_big_quiet_on) | (refine q_load ?_; simp only [Act.put, List.setIfInBounds_toArray, List.set_cons_zero, List.set_cons_succ]; go_big_quiet_on) | (go_big_quiet_op; first | go_big_quiet_on)))); exact rfl)); have hs := hl.out.size; (try simp at hs); simp only [List.drop_succ_cons, List.drop_zero]) | ((with_reducible apply region_gd (id := 36)); refine region_QA (id := 36) 16 ?_; apply Exists.intro; refine ⟨fun G => ?_, fun W hl => ?_⟩; (· (simp only [List.take_succ_cons, List.take_zero]; (repeat (first | go_big_quiet_skip | (go_big_quiet_want; first | (refine q_loadC ?_; simp only [Act.put, List.setIfInBounds_toArray, List.set_cons_zero, List.set_cons_succ]; go_big_quiet_on) | (refine q_load ?_; simp only [Act.put, List.setIfInBounds_toArray, List.set_cons_zero, List.set_cons_succ]; go_big_quiet_on) | (go_big_quiet_op; first | go_big_quiet_on)))); exact rfl)); have hs := hl.out.size; (try simp at hs); simp only [List.drop_succ_cons, List.drop_zero]))
      go_loopw [11, 12] (fun rk cc wr => ∃ (c : Nat) (gs : Nat → Nat × Nat), c ≤ N ∧ cc = .int .i64 (c : Int) ∧ rk = .int .i64 ((elim q N M0 c).1 : Int) ∧ HdK wr g0 cap0 N gs ∧ RowsK wr B N N gs (elim q N M0 c).2 ∧ LowK w wr) (fun _ cc wr => N - (intOf cc).toNat)
      case atStart => exact ⟨0, gs, Nat.zero_le _, rfl, rfl, hH, hRows, hV⟩
      case round =>
        clear hH hRows hV hPt
        obtain ⟨c, gs, hc, rfl, rfl, hH, hRows, hV⟩ := hrel
        have hBd := HBD.out c
        have hrk := elim_le q N M0 c
        obtain ⟨s, hs⟩ : ∃ s, elim q N M0 c = s := ⟨_, rfl⟩
        obtain ⟨rk, M⟩ := s
        rw [hs] at hRows hBd hrk ⊢
        have HS := Lib.hid hs
        clear hs
        dsimp only at hRows hBd hrk ⊢
        by_cases hlc : c < N
        · go_wp2_with (first | (refine wl_loadC ?_) | (refine wl_load ?_) | (refine wl_storeC ?_) | (refine wl_store ?_) | (refine wl_build ?_) | (refine wl_slice ?_) | (refine wl_make ?_; intro gr W' hgr hl hR; have hs := hl.out.size; (try simp at hs)) | (refine wl_append (he := eltSl) ?_; intro v' w' ho hg hb; have hs := hg.size; (try simp at hs)) | (refine wl_append ?_; intro v' w' ho hg hb; have hs := hg.size; (try simp at hs); (try rw [ptCs_end] at ho); (try rw [ints_end] at ho); (try simp only [Nat.zero_add, Nat.reduceAdd, List.nil_append, List.cons_append] at ho)) | ((with_reducible apply region_gd (id := 11)); refine region_QA (id := 11) 10 ?_; apply Exists.intro; refine ⟨fun G => ?_, fun W hl => ?_⟩; (· (simp only [List.take_succ_cons, List.take_zero]; (repeat (first | go_big_quiet_skip | (go_big_quiet_want; first | (refine q_loadC ?_; simp only [Act.put, List.setIfInBounds_toArray, List.set_cons_zero, List.set_cons_succ]; go_big_quiet_on) | (refine q_load ?_; simp only [Act.put, List.setIfInBounds_toArray, List.set_cons_zero, List.set_cons_succ]; go_big_quiet_on) | (go_big_quiet_op; first | go_big_quiet_on)))); exact rfl)); have hs := hl.out.size; (try simp at hs); simp only [List.drop_succ_cons, List.drop_zero]) | ((with_reducible apply region_gd (id := 36)); refine region_QA (id := 36) 16 ?_; apply Exists.intro; refine ⟨fun G => ?_, fun W hl => ?_⟩; (· (simp only [List.take_succ_cons, List.take_zero]; (repeat (first | go_big_quiet_skip | (go_big_quiet_want; first | (refine q_loadC ?_; simp only [Act.put, List.setIfInBounds_toArray, List.set_cons_zero, List.set_cons_succ]; go_big_quiet_on) | (refine q_load ?_; simp only [Act.put, List.setIfInBounds_toArray, List.set_cons_zero, List.set_cons_succ]; go_big_quiet_on) | (go_big_quiet_op; first | go_big_quiet_on)))); exact rfl)); have hs := hl.out.size; (try simp at hs); simp only [List.drop_succ_cons, List.drop_zero]))
          obtain ⟨P, hP⟩ : ∃ P, piv M c N rk = P := ⟨_, rfl⟩
          go_loopw [13] (fun fv wi => ∃ f : Nat, rk ≤ f ∧ f ≤ N ∧ fv = .int .i64 (f : Int) ∧ piv M c N f = P ∧ wi = wr) (fun fv _ => N - (intOf fv).toNat)
          case atStart => exact ⟨rk, Nat.le_refl _, by omega, rfl, hP, rfl⟩
          case round =>
            obtain ⟨f, hf, hfN, rfl, hfP, rfl⟩ := hrel
            by_cases hlf : f < N
            · have x1 := hH.at_ f hlf
              have x2 := (hRows.row f hlf).at_ c hlc
              have x3 := hH.lt
              have x4 := (hRows.row f hlf).lt
              obtain ⟨gf, hgf⟩ : ∃ gf, gs f = gf := ⟨_, rfl⟩
              rw [hgf] at x1 x2 x4
              obtain ⟨x, hx⟩ : ∃ x, M f c = x := ⟨_, rfl⟩
              rw [hx] at x2
              by_cases hz : x = 0
              · go_wp2_with (first | (refine wl_loadC ?_) | (refine wl_load ?_) | (refine wl_storeC ?_) | (refine wl_store ?_) | (refine wl_build ?_) | (refine wl_slice ?_) | (refine wl_make ?_; intro gr W' hgr hl hR; have hs := hl.out.size; (try simp at hs)) | (refine wl_append (he := eltSl) ?_; intro v' w' ho hg hb; have hs := hg.size; (try simp at hs)) | (refine wl_append ?_; intro v' w' ho hg hb; have hs := hg.size; (try simp at hs); (try rw [ptCs_end] at ho); (try rw [ints_end] at ho); (try simp only [Nat.zero_add, Nat.reduceAdd, List.nil_append, List.cons_append] at ho)) | ((with_reducible apply region_gd (id := 11)); refine region_QA (id := 11) 10 ?_; apply Exists.intro; refine ⟨fun G => ?_, fun W hl => ?_⟩; (· (simp only [List.take_succ_cons, List.take_zero]; (repeat (first | go_big_quiet_skip | (go_big_quiet_want; first | (refine q_loadC ?_; simp only [Act.put, List.setIfInBounds_toArray, List.set_cons_zero, List.set_cons_succ]; go_big_quiet_on) | (refine q_load ?_; simp only [Act.put, List.setIfInBounds_toArray, List.set_cons_zero, List.set_cons_succ]; go_big_quiet_on) | (go_big_quiet_op; first | go_big_quiet_on)))); exact rfl)); have hs := hl.out.size; (try simp at hs); simp only [List.drop_succ_cons, List.drop_zero]) | ((with_reducible apply region_gd (id := 36)); refine region_QA (id := 36) 16 ?_; apply Exists.intro; refine ⟨fun G => ?_, fun W hl => ?_⟩; (· (simp only [List.take_succ_cons, List.take_zero]; (repeat (first | go_big_quiet_skip | (go_big_quiet_want; first | (refine q_loadC ?_; simp only [Act.put, List.setIfInBounds_toArray, List.set_cons_zero, List.set_cons_succ]; go_big_quiet_on) | (refine q_load ?_; simp only [Act.put, List.setIfInBounds_toArray, List.set_cons_zero, List.set_cons_succ]; go_big_quiet_on) | (go_big_quiet_op; first | go_big_quiet_on)))); exact rfl)); have hs := hl.out.size; (try simp at hs); simp only [List.drop_succ_cons, List.drop_zero]))
                go_roundw
                case rel => exact ⟨f + 1, by omega, by omega, by go_num, by rw [← piv_step hlf (hx.trans hz)]; exact hfP, (by trivial)⟩
                case measure => (simp [intOf]; try omega)
              · have k1 : CellK wr g0 f (rowV N gf) := ⟨x1⟩
                obtain ⟨gk, hgk⟩ : ∃ gk, gs rk = gk := ⟨_, rfl⟩
                have hlr : rk < N := by omega
                have k2 : CellK wr g0 rk (rowV N gk) := by rw [← hgk]; exact hH.cell hlr
                go_wp2_with (first | (refine wl_loadC ?_) | (with_reducible refine hold (p := wpList _ _ _ ({ dst := none, op := .store _ _ _, type := _, pos := _, after := _, guard := _ } :: _) _ _) ?_))
                unfold Hold
                clear x1 x2 x3 x4
                have hfP2 : piv M c N rk = f := by rw [hP, ← hfP]; exact piv_stop (fun _ => by rw [hx]; exact hz)
                have e1 : elim q N M0 (c + 1) = (rk + 1, elm q c rk (swp M rk f)) := by
                  show stp q N c (elim q N M0 c) = _
                  rw [HS.out, stp_some (by rw [hfP2]; omega), hfP2]
                have E1 := Lib.hid e1
                have hx0 : 0 < x ∧ x < q := by have := hBd f c; rw [hx] at this; omega
                have hB3 : w.heap.size ≤ g0 := by omega
                have st1 := hH.st hlf
                have st2 := (hH.set hlf gk).st hlr
                refine wl_storeC (v := rowV N gk) ?_
                go_wp2_with (with_reducible refine hold (p := wpList _ _ _ ({ dst := none, op := .store _ _ _, type := _, pos := _, after := _, guard := _ } :: _) _ _) ?_)
                unfold Hold
                refine wl_storeC (v := rowV N gf) ?_
                have hH2 : HdK ((wr.setCell ⟨g0, f, none⟩ (rowV N gk)).setCell ⟨g0, rk, none⟩ (rowV N gf)) g0 cap0 N (swp gs rk f) := ((hH.set hlf gk).set hlr gf).congr (fun i _ => by unfold swp; rw [hgf, hgk])
                have hne : ∀ i, i < N → (gs i).1 ≠ g0 := fun i hi => hH.ne hRows hi
                have hR2 : RowsK ((wr.setCell ⟨g0, f, none⟩ (rowV N gk)).setCell ⟨g0, rk, none⟩ (rowV N gf)) B N N (swp gs rk f) (swp M rk f) := ((hRows.other hne _ _).other hne _ _).swap hlr hlf
                have hV2 : LowK w ((wr.setCell ⟨g0, f, none⟩ (rowV N gk)).setCell ⟨g0, rk, none⟩ (rowV N gf)) := LowK.setCell hB3 _ _ (LowK.setCell hB3 _ _ hV)
                have eg : swp gs rk f rk = gf := by unfold swp; rw [if_pos rfl, hgf]
                have k4 := (hR2.row rk hlr).cell hlc
                rw [eg] at k4
                have ex : swp M rk f rk c = x := by unfold swp; rw [if_pos rfl, hx]
                rw [ex] at k4
                obtain ⟨v, hv⟩ : ∃ v, invP q x = v := ⟨_, rfl⟩
                have hvb : 1 ≤ v ∧ v < q := by
                  have := invP_spec hq hx0.1 hx0.2
                  rw [hv] at this
                  exact ⟨this.1, this.2.1⟩
                have hxm : x % q = x := Int.emod_eq_of_lt (by omega) (by omega)
                have hv2 : invP q (x % q) = v := by rw [hxm]; exact hv
                have hBd2 : Bd q (swp M rk f) := swp_bd hBd
                obtain ⟨Bm, hBm⟩ : ∃ Bm, swp M rk f = Bm := ⟨_, rfl⟩
                obtain ⟨gs2, hg2⟩ : ∃ gs2, swp gs rk f = gs2 := ⟨_, rfl⟩
                rw [hBm] at E1 hR2 hBd2 ex
                rw [hg2] at hH2 hR2 eg
                have HX := Lib.hid hxm
                clear k1 k2 st1 st2 hH hRows hV hBm hg2 hne hfP2 hP hfP e1 hxm
                generalize (wr.setCell ⟨g0, f, none⟩ (rowV N gk)).setCell ⟨g0, rk, none⟩ (rowV N gf) = W3 at *
                go_wp2_with (first | (refine wl_loadC ?_) | (refine wl_load ?_) | (refine wl_storeC ?_) | (refine wl_store ?_) | (refine wl_build ?_) | (refine wl_slice ?_) | (refine wl_make ?_; intro gr W' hgr hl hR; have hs := hl.out.size; (try simp at hs)) | (refine wl_append (he := eltSl) ?_; intro v' w' ho hg hb; have hs := hg.size; (try simp at hs)) | (refine wl_append ?_; intro v' w' ho hg hb; have hs := hg.size; (try simp at hs); (try rw [ptCs_end] at ho); (try rw [ints_end] at ho); (try simp only [Nat.zero_add, Nat.reduceAdd, List.nil_append, List.cons_append] at ho)) | (go_at_call 43; (with_reducible refine (l01Inverse_any q x _ hq (by omega) (by omega) (by rw [HX.out]; exact hx0.1)).mono ?_); rintro e w' ⟨rfl, rfl⟩; rw [hv2]) | ((with_reducible apply region_gd (id := 11)); refine region_QA (id := 11) 10 ?_; apply Exists.intro; refine ⟨fun G => ?_, fun W hl => ?_⟩; (· (simp only [List.take_succ_cons, List.take_zero]; (repeat (first | go_big_quiet_skip | (go_big_quiet_want; first | (refine q_loadC ?_; simp only [Act.put, List.setIfInBounds_toArray, List.set_cons_zero, List.set_cons_succ]; go_big_quiet_on) | (refine q_load ?_; simp only [Act.put, List.setIfInBounds_toArray, List.set_cons_zero, List.set_cons_succ]; go_big_quiet_on) | (go_big_quiet_op; first | go_big_quiet_on)))); exact rfl)); have hs := hl.out.size; (try simp at hs); simp only [List.drop_succ_cons, List.drop_zero]) | ((with_reducible apply region_gd (id := 36)); refine region_QA (id := 36) 16 ?_; apply Exists.intro; refine ⟨fun G => ?_, fun W hl => ?_⟩; (· (simp only [List.take_succ_cons, List.take_zero]; (repeat (first | go_big_quiet_skip | (go_big_quiet_want; first | (refine q_loadC ?_; simp only [Act.put, List.setIfInBounds_toArray, List.set_cons_zero, List.set_cons_succ]; go_big_quiet_on) | (refine q_load ?_; simp only [Act.put, List.setIfInBounds_toArray, List.set_cons_zero, List.set_cons_succ]; go_big_quiet_on) | (go_big_quiet_op; first | go_big_quiet_on)))); exact rfl)); have hs := hl.out.size; (try simp at hs); simp only [List.drop_succ_cons, List.drop_zero]))
                clear k4
                go_loopw [16] (fun iv wi => ∃ i : Nat, rk + 1 ≤ i ∧ i ≤ N ∧ iv = .int .i64 (i : Int) ∧ HdK wi g0 cap0 N gs2 ∧ RowsK wi B N N gs2 (mix i 0 (elm q c rk Bm) Bm) ∧ LowK w wi) (fun iv _ => N - (intOf iv).toNat)
                case atStart => exact ⟨rk + 1, Nat.le_refl _, by omega, by go_num, hH2, by rw [mix_first]; exact hR2, hV2⟩
                case round =>
                  clear hH2 hR2 hV2
                  obtain ⟨i, hi, hiN, rfl, hH3, hR3, hV3⟩ := hrel
                  by_cases hli : i < N
                  · have k5 := hH3.cell hli
                    have k6 := (hR3.row i hli).cell hlc
                    obtain ⟨gi, hgi⟩ : ∃ gi, gs2 i = gi := ⟨_, rfl⟩
                    rw [hgi] at k5 k6
                    rw [mix_at (Nat.zero_le _)] at k6
                    obtain ⟨y, hy⟩ : ∃ y, Bm i c = y := ⟨_, rfl⟩
                    rw [hy] at k6
                    have hyb : 0 ≤ y ∧ y < q := by have := hBd2 i c; rw [hy] at this; exact this
                    by_cases hy0 : y = 0
                    · go_wp2_with (first | (refine wl_loadC ?_) | (refine wl_load ?_) | (refine wl_storeC ?_) | (refine wl_store ?_) | (refine wl_build ?_) | (refine wl_slice ?_) | (refine wl_make ?_; intro gr W' hgr hl hR; have hs := hl.out.size; (try simp at hs)) | (refine wl_append (he := eltSl) ?_; intro v' w' ho hg hb; have hs := hg.size; (try simp at hs)) | (refine wl_append ?_; intro v' w' ho hg hb; have hs := hg.size; (try simp at hs); (try rw [ptCs_end] at ho); (try rw [ints_end] at ho); (try simp only [Nat.zero_add, Nat.reduceAdd, List.nil_append, List.cons_append] at ho)) | ((with_reducible apply region_gd (id := 11)); refine region_QA (id := 11) 10 ?_; apply Exists.intro; refine ⟨fun G => ?_, fun W hl => ?_⟩; (· (simp only [List.take_succ_cons, List.take_zero]; (repeat (first | go_big_quiet_skip | (go_big_quiet_want; first | (refine q_loadC ?_; simp only [Act.put, List.setIfInBounds_toArray, List.set_cons_zero, List.set_cons_succ]; go_big_quiet_on) | (refine q_load ?_; simp only [Act.put, List.setIfInBounds_toArray, List.set_cons_zero, List.set_cons_succ]; go_big_quiet_on) | (go_big_quiet_op; first | go_big_quiet_on)))); exact rfl)); have hs := hl.out.size; (try simp at hs); simp only [List.drop_succ_cons, List.drop_zero]) | ((with_reducible apply region_gd (id := 36)); refine region_QA (id := 36) 16 ?_; apply Exists.intro; refine ⟨fun G => ?_, fun W hl => ?_⟩; (· (simp only [List.take_succ_cons, List.take_zero]; (repeat (first | go_big_quiet_skip | (go_big_quiet_want; first | (refine q_loadC ?_; simp only [Act.put, List.setIfInBounds_toArray, List.set_cons_zero, List.set_cons_succ]; go_big_quiet_on) | (refine q_load ?_; simp only [Act.put, List.setIfInBounds_toArray, List.set_cons_zero, List.set_cons_succ]; go_big_quiet_on) | (go_big_quiet_op; first | go_big_quiet_on)))); exact rfl)); have hs := hl.out.size; (try simp at hs); simp only [List.drop_succ_cons, List.drop_zero]))
                      go_roundw
                      case rel => exact ⟨i + 1, by omega, by omega, by go_num, hH3, by rw [← mix_skip (hy.trans hy0)]; exact hR3, hV3⟩
                      case measure => (simp [intOf]; try omega)
                    · have m1 := mul_bd hyb.1 (show y ≤ 13 by omega) (show 0 ≤ v by omega) (show v ≤ 13 by omega)
                      have m2 := Int.tmod_nonneg q m1.1
                      have m3 := Int.tmod_lt_of_pos (y * v) (show 0 < q by omega)
                      have m4 : (y * v).tmod q = (y * v) % q := Int.tmod_eq_emod_of_nonneg m1.1
                      go_wp2_with (first | (refine wl_loadC ?_) | (refine wl_load ?_) | (refine wl_storeC ?_) | (refine wl_store ?_) | (refine wl_build ?_) | (refine wl_slice ?_) | (refine wl_make ?_; intro gr W' hgr hl hR; have hs := hl.out.size; (try simp at hs)) | (refine wl_append (he := eltSl) ?_; intro v' w' ho hg hb; have hs := hg.size; (try simp at hs)) | (refine wl_append ?_; intro v' w' ho hg hb; have hs := hg.size; (try simp at hs); (try rw [ptCs_end] at ho); (try rw [ints_end] at ho); (try simp only [Nat.zero_add, Nat.reduceAdd, List.nil_append, List.cons_append] at ho)) | ((with_reducible apply region_gd (id := 11)); refine region_QA (id := 11) 10 ?_; apply Exists.intro; refine ⟨fun G => ?_, fun W hl => ?_⟩; (· (simp only [List.take_succ_cons, List.take_zero]; (repeat (first | go_big_quiet_skip | (go_big_quiet_want; first | (refine q_loadC ?_; simp only [Act.put, List.setIfInBounds_toArray, List.set_cons_zero, List.set_cons_succ]; go_big_quiet_on) | (refine q_load ?_; simp only [Act.put, List.setIfInBounds_toArray, List.set_cons_zero, List.set_cons_succ]; go_big_quiet_on) | (go_big_quiet_op; first | go_big_quiet_on)))); exact rfl)); have hs := hl.out.size; (try simp at hs); simp only [List.drop_succ_cons, List.drop_zero]) | ((with_reducible apply region_gd (id := 36)); refine region_QA (id := 36) 16 ?_; apply Exists.intro; refine ⟨fun G => ?_, fun W hl => ?_⟩; (· (simp only [List.take_succ_cons, List.take_zero]; (repeat (first | go_big_quiet_skip | (go_big_quiet_want; first | (refine q_loadC ?_; simp only [Act.put, List.setIfInBounds_toArray, List.set_cons_zero, List.set_cons_succ]; go_big_quiet_on) | (refine q_load ?_; simp only [Act.put, List.setIfInBounds_toArray, List.set_cons_zero, List.set_cons_succ]; go_big_quiet_on) | (go_big_quiet_op; first | go_big_quiet_on)))); exact rfl)); have hs := hl.out.size; (try simp at hs); simp only [List.drop_succ_cons, List.drop_zero]))
                      obtain ⟨fct, hfc⟩ : ∃ fct, y * v % q = fct := ⟨_, rfl⟩
                      rw [m4] at m2 m3
                      rw [hfc]
                      have hfb : 0 ≤ fct ∧ fct ≤ 13 := by omega
                      rw [mix_cut] at hR3
                      go_loopw [19] (fun kv wi => ∃ k : Nat, c ≤ k ∧ k ≤ N ∧ kv = .int .i64 (k : Int) ∧ HdK wi g0 cap0 N gs2 ∧ RowsK wi B N N gs2 (mix i k (elm q c rk Bm) Bm) ∧ LowK w wi) (fun kv _ => N - (intOf kv).toNat)
                      case atStart => exact ⟨c, Nat.le_refl _, by omega, rfl, hH3, hR3, hV3⟩
                      case round =>
                        clear hH3 hR3 hV3 k5 k6
                        obtain ⟨k, hkc, hkN, rfl, hH4, hR4, hV4⟩ := hrel
                        by_cases hlk : k < N
                        · have k7 := (hR4.row i hli).cell hlk
                          have k8 := (hR4.row rk hlr).cell hlk
                          have st3 := (hR4.row i hli).st hlk
                          rw [hgi, mix_at (Nat.le_refl _)] at k7
                          rw [eg, mix_top (by omega)] at k8
                          rw [hgi] at st3
                          have hab := hBd2 i k
                          have hbb := hBd2 rk k
                          have hval := elm_new (q := q) (c := c) (r := rk) (i := i) (k := k) (B := Bm) (by omega) (by rw [hy]; exact hy0) hkc
                          rw [hy, ex, hv, hfc] at hval
                          obtain ⟨x1, hx1⟩ : ∃ x1, Bm i k = x1 := ⟨_, rfl⟩
                          obtain ⟨x2, hx2⟩ : ∃ x2, Bm rk k = x2 := ⟨_, rfl⟩
                          rw [hx1] at k7 hab hval
                          rw [hx2] at k8 hbb hval
                          have n1 := mul_bd hfb.1 hfb.2 hbb.1 (show x2 ≤ 13 by omega)
                          have HVal := Lib.hid hval.symm
                          clear hval hx1 hx2
                          have hR5 := fun (W : World) (l : Link wr W) => RowsK.set (RowsK.link l hR4) hli hlk (elm q c rk Bm i k)
                          go_wp2_with (first | (refine wl_loadC ?_) | (refine wl_load ?_) | (refine wl_storeC ?_) | (refine wl_store ?_) | (refine wl_build ?_) | (refine wl_slice ?_) | (refine wl_make ?_; intro gr W' hgr hl hR; have hs := hl.out.size; (try simp at hs)) | (refine wl_append (he := eltSl) ?_; intro v' w' ho hg hb; have hs := hg.size; (try simp at hs)) | (refine wl_append ?_; intro v' w' ho hg hb; have hs := hg.size; (try simp at hs); (try rw [ptCs_end] at ho); (try rw [ints_end] at ho); (try simp only [Nat.zero_add, Nat.reduceAdd, List.nil_append, List.cons_append] at ho)) | (go_at_call 44; (with_reducible refine (l01Mod_R _ HVal.out (by omega) (by omega) (by omega) (by omega)).mono ?_); rintro e w' ⟨rfl, hb⟩; have hl := Link.mk hb; have hs := hb.size; (try simp at hs); clear hb) | ((with_reducible apply region_gd (id := 11)); refine region_QA (id := 11) 10 ?_; apply Exists.intro; refine ⟨fun G => ?_, fun W hl => ?_⟩; (· (simp only [List.take_succ_cons, List.take_zero]; (repeat (first | go_big_quiet_skip | (go_big_quiet_want; first | (refine q_loadC ?_; simp only [Act.put, List.setIfInBounds_toArray, List.set_cons_zero, List.set_cons_succ]; go_big_quiet_on) | (refine q_load ?_; simp only [Act.put, List.setIfInBounds_toArray, List.set_cons_zero, List.set_cons_succ]; go_big_quiet_on) | (go_big_quiet_op; first | go_big_quiet_on | (apply Exists.intro; refine ⟨fun g => ?_, ?_⟩; (· (have hl := growL g; first | (go_at_call 44; with_reducible exact grow_ret (l01Mod_R _ HVal.out (by omega) (by omega) (by omega) (by omega))))); go_big_quiet_on))))); exact rfl)); have hs := hl.out.size; (try simp at hs); simp only [List.drop_succ_cons, List.drop_zero]) | ((with_reducible apply region_gd (id := 36)); refine region_QA (id := 36) 16 ?_; apply Exists.intro; refine ⟨fun G => ?_, fun W hl => ?_⟩; (· (simp only [List.take_succ_cons, List.take_zero]; (repeat (first | go_big_quiet_skip | (go_big_quiet_want; first | (refine q_loadC ?_; simp only [Act.put, List.setIfInBounds_toArray, List.set_cons_zero, List.set_cons_succ]; go_big_quiet_on) | (refine q_load ?_; simp only [Act.put, List.setIfInBounds_toArray, List.set_cons_zero, List.set_cons_succ]; go_big_quiet_on) | (go_big_quiet_op; first | go_big_quiet_on | (apply Exists.intro; refine ⟨fun g => ?_, ?_⟩; (· (have hl := growL g; first | (go_at_call 44; with_reducible exact grow_ret (l01Mod_R _ HVal.out (by omega) (by omega) (by omega) (by omega))))); go_big_quiet_on))))); exact rfl)); have hs := hl.out.size; (try simp at hs); simp only [List.drop_succ_cons, List.drop_zero]))
                          have hR6 := hR5 W hl
                          rw [hgi] at hR6
                          have hH6 := (HdK.link hl hH4).other (hH4.ne hR4 hli).symm k (.int .i64 (elm q c rk Bm i k))
                          rw [hgi] at hH6
                          have hlow : w.heap.size ≤ gi.1 := by have := hR4.low i hli; rw [hgi] at this; omega
                          go_roundw
                          case rel => exact ⟨k + 1, by omega, by omega, by go_num, hH6, by rw [← mix_set]; exact hR6, LowK.setCell hlow _ _ findLow⟩
                          case measure => (simp [intOf]; try omega)
                        · have hkN2 : N ≤ k := by omega
                          go_wp2_with (first | (refine wl_loadC ?_) | (refine wl_load ?_) | (refine wl_storeC ?_) | (refine wl_store ?_) | (refine wl_build ?_) | (refine wl_slice ?_) | (refine wl_make ?_; intro gr W' hgr hl hR; have hs := hl.out.size; (try simp at hs)) | (refine wl_append (he := eltSl) ?_; intro v' w' ho hg hb; have hs := hg.size; (try simp at hs)) | (refine wl_append ?_; intro v' w' ho hg hb; have hs := hg.size; (try simp at hs); (try rw [ptCs_end] at ho); (try rw [ints_end] at ho); (try simp only [Nat.zero_add, Nat.reduceAdd, List.nil_append, List.cons_append] at ho)) | ((with_reducible apply region_gd (id := 11)); refine region_QA (id := 11) 10 ?_; apply Exists.intro; refine ⟨fun G => ?_, fun W hl => ?_⟩; (· (simp only [List.take_succ_cons, List.take_zero]; (repeat (first | go_big_quiet_skip | (go_big_quiet_want; first | (refine q_loadC ?_; simp only [Act.put, List.setIfInBounds_toArray, List.set_cons_zero, List.set_cons_succ]; go_big_quiet_on) | (refine q_load ?_; simp only [Act.put, List.setIfInBounds_toArray, List.set_cons_zero, List.set_cons_succ]; go_big_quiet_on) | (go_big_quiet_op; first | go_big_quiet_on)))); exact rfl)); have hs := hl.out.size; (try simp at hs); simp only [List.drop_succ_cons, List.drop_zero]) | ((with_reducible apply region_gd (id := 36)); refine region_QA (id := 36) 16 ?_; apply Exists.intro; refine ⟨fun G => ?_, fun W hl => ?_⟩; (· (simp only [List.take_succ_cons, List.take_zero]; (repeat (first | go_big_quiet_skip | (go_big_quiet_want; first | (refine q_loadC ?_; simp only [Act.put, List.setIfInBounds_toArray, List.set_cons_zero, List.set_cons_succ]; go_big_quiet_on) | (refine q_load ?_; simp only [Act.put, List.setIfInBounds_toArray, List.set_cons_zero, List.set_cons_succ]; go_big_quiet_on) | (go_big_quiet_op; first | go_big_quiet_on)))); exact rfl)); have hs := hl.out.size; (try simp at hs); simp only [List.drop_succ_cons, List.drop_zero]))
                          go_roundw
                          case rel => exact ⟨i + 1, by omega, by omega, by go_num, hH4, hR4.congr (fun i' l hi' hl => by rw [show k = N by omega]; exact mix_row hl), hV4⟩
                          case measure => (simp [intOf]; try omega)
                  · have hj2 : N ≤ i := by omega
                    go_wp2_with (first | (refine wl_loadC ?_) | (refine wl_load ?_) | (refine wl_storeC ?_) | (refine wl_store ?_) | (refine wl_build ?_) | (refine wl_slice ?_) | (refine wl_make ?_; intro gr W' hgr hl hR; have hs := hl.out.size; (try simp at hs)) | (refine wl_append (he := eltSl) ?_; intro v' w' ho hg hb; have hs := hg.size; (try simp at hs)) | (refine wl_append ?_; intro v' w' ho hg hb; have hs := hg.size; (try simp at hs); (try rw [ptCs_end] at ho); (try rw [ints_end] at ho); (try simp only [Nat.zero_add, Nat.reduceAdd, List.nil_append, List.cons_append] at ho)) | ((with_reducible apply region_gd (id := 11)); refine region_QA (id := 11) 10 ?_; apply Exists.intro; refine ⟨fun G => ?_, fun W hl => ?_⟩; (· (simp only [List.take_succ_cons, List.take_zero]; (repeat (first | go_big_quiet_skip | (go_big_quiet_want; first | (refine q_loadC ?_; simp only [Act.put, List.setIfInBounds_toArray, List.set_cons_zero, List.set_cons_succ]; go_big_quiet_on) | (refine q_load ?_; simp only [Act.put, List.setIfInBounds_toArray, List.set_cons_zero, List.set_cons_succ]; go_big_quiet_on) | (go_big_quiet_op; first | go_big_quiet_on)))); exact rfl)); have hs := hl.out.size; (try simp at hs); simp only [List.drop_succ_cons, List.drop_zero]) | ((with_reducible apply region_gd (id := 36)); refine region_QA (id := 36) 16 ?_; apply Exists.intro; refine ⟨fun G => ?_, fun W hl => ?_⟩; (· (simp only [List.take_succ_cons, List.take_zero]; (repeat (first | go_big_quiet_skip | (go_big_quiet_want; first | (refine q_loadC ?_; simp only [Act.put, List.setIfInBounds_toArray, List.set_cons_zero, List.set_cons_succ]; go_big_quiet_on) | (refine q_load ?_; simp only [Act.put, List.setIfInBounds_toArray, List.set_cons_zero, List.set_cons_succ]; go_big_quiet_on) | (go_big_quiet_op; first | go_big_quiet_on)))); exact rfl)); have hs := hl.out.size; (try simp at hs); simp only [List.drop_succ_cons, List.drop_zero]))
                    go_roundw
                    case rel => exact ⟨c + 1, gs2, by omega, by go_num, by rw [E1.out]; go_num, hH3, by rw [E1.out]; exact hR3.congr (fun i' l hi' hl => by rw [show i = N by omega]; exact mix_end hi'), hV3⟩
                    case measure => (simp [intOf]; try omega)
            · obtain rfl : N = f := by omega
              go_wp2_with (first | (refine wl_loadC ?_) | (refine wl_load ?_) | (refine wl_storeC ?_) | (refine wl_store ?_) | (refine wl_build ?_) | (refine wl_slice ?_) | (refine wl_make ?_; intro gr W' hgr hl hR; have hs := hl.out.size; (try simp at hs)) | (refine wl_append (he := eltSl) ?_; intro v' w' ho hg hb; have hs := hg.size; (try simp at hs)) | (refine wl_append ?_; intro v' w' ho hg hb; have hs := hg.size; (try simp at hs); (try rw [ptCs_end] at ho); (try rw [ints_end] at ho); (try simp only [Nat.zero_add, Nat.reduceAdd, List.nil_append, List.cons_append] at ho)) | ((with_reducible apply region_gd (id := 11)); refine region_QA (id := 11) 10 ?_; apply Exists.intro; refine ⟨fun G => ?_, fun W hl => ?_⟩; (· (simp only [List.take_succ_cons, List.take_zero]; (repeat (first | go_big_quiet_skip | (go_big_quiet_want; first | (refine q_loadC ?_; simp only [Act.put, List.setIfInBounds_toArray, List.set_cons_zero, List.set_cons_succ]; go_big_quiet_on) | (refine q_load ?_; simp only [Act.put, List.setIfInBounds_toArray, List.set_cons_zero, List.set_cons_succ]; go_big_quiet_on) | (go_big_quiet_op; first | go_big_quiet_on)))); exact rfl)); have hs := hl.out.size; (try simp at hs); simp only [List.drop_succ_cons, List.drop_zero]) | ((with_reducible apply region_gd (id := 36)); refine region_QA (id := 36) 16 ?_; apply Exists.intro; refine ⟨fun G => ?_, fun W hl => ?_⟩; (· (simp only [List.take_succ_cons, List.take_zero]; (repeat (first | go_big_quiet_skip | (go_big_quiet_want; first | (refine q_loadC ?_; simp only [Act.put, List.setIfInBounds_toArray, List.set_cons_zero, List.set_cons_succ]; go_big_quiet_on) | (refine q_load ?_; simp only [Act.put, List.setIfInBounds_toArray, List.set_cons_zero, List.set_cons_succ]; go_big_quiet_on) | (go_big_quiet_op; first | go_big_quiet_on)))); exact rfl)); have hs := hl.out.size; (try simp at hs); simp only [List.drop_succ_cons, List.drop_zero]))
              have hPN : piv M c N rk = N := by rw [hP, ← hfP]; exact piv_stop (fun h => absurd h (by omega))
              have e1 : elim q N M0 (c + 1) = (rk, M) := by
                show stp q N c (elim q N M0 c) = _
                rw [HS.out, stp_none hPN]
              go_roundw
              case rel => exact ⟨c + 1, gs, by omega, by go_num, by rw [e1], hH, by rw [e1]; exact hRows, hV⟩
              case measure => (simp [intOf]; try omega)
        · obtain rfl : N = c := by omega
          have er : rk = r := by have := HR.out; rw [HS.out] at this; exact this
          subst er
          go_wp2_with (first | (refine wl_loadC ?_) | (refine wl_load ?_) | (refine wl_storeC ?_) | (refine wl_store ?_) | (refine wl_build ?_) | (refine wl_slice ?_) | (refine wl_make ?_; intro gr W' hgr hl hR; have hs := hl.out.size; (try simp at hs)) | (refine wl_append (he := eltSl) ?_; intro v' w' ho hg hb; have hs := hg.size; (try simp at hs)) | (refine wl_append ?_; intro v' w' ho hg hb; have hs := hg.size; (try simp at hs); (try rw [ptCs_end] at ho); (try rw [ints_end] at ho); (try simp only [Nat.zero_add, Nat.reduceAdd, List.nil_append, List.cons_append] at ho)) | ((with_reducible apply region_gd (id := 11)); refine region_QA (id := 11) 10 ?_; apply Exists.intro; refine ⟨fun G => ?_, fun W hl => ?_⟩; (· (simp only [List.take_succ_cons, List.take_zero]; (repeat (first | go_big_quiet_skip | (go_big_quiet_want; first | (refine q_loadC ?_; simp only [Act.put, List.setIfInBounds_toArray, List.set_cons_zero, List.set_cons_succ]; go_big_quiet_on) | (refine q_load ?_; simp only [Act.put, List.setIfInBounds_toArray, List.set_cons_zero, List.set_cons_succ]; go_big_quiet_on) | (go_big_quiet_op; first | go_big_quiet_on)))); exact rfl)); have hs := hl.out.size; (try simp at hs); simp only [List.drop_succ_cons, List.drop_zero]) | ((with_reducible apply region_gd (id := 36)); refine region_QA (id := 36) 16 ?_; apply Exists.intro; refine ⟨fun G => ?_, fun W hl => ?_⟩; (· (simp only [List.take_succ_cons, List.take_zero]; (repeat (first | go_big_quiet_skip | (go_big_quiet_want; first | (refine q_loadC ?_; simp only [Act.put, List.setIfInBounds_toArray, List.set_cons_zero, List.set_cons_succ]; go_big_quiet_on) | (refine q_load ?_; simp only [Act.put, List.setIfInBounds_toArray, List.set_cons_zero, List.set_cons_succ]; go_big_quiet_on) | (go_big_quiet_op; first | go_big_quiet_on)))); exact rfl)); have hs := hl.out.size; (try simp at hs); simp only [List.drop_succ_cons, List.drop_zero]))
          (apply ret_two Try.results19; (conv => lhs; whnf); (conv => lhs; whnf); exact rfl)
          exact ret_ret rfl findLow
end Go.Proofs.Ytbeeecahkchjnaa
/- The law FnExactIncidenceRank: walked. -/
namespace Go.Proofs.Ytbeeecahkchjnaa
open Go.RowKit
set_option linter.unusedVariables false
set_option linter.unusedSimpArgs false
set_option maxRecDepth 20000 in
set_option maxHeartbeats 4000000 in
theorem IncidenceRank_impl_no (p q : Int) (w : World) (h : prB p = false ∨ (prB p = true ∧ prB q = false)) :
    Calls Try.prog 18 #[.int .i64 p, .int .i64 q] w (Ret w (.tuple #[.int .i64 0, .int .i64 2])) := by
  rcases h with hp | ⟨hp, hq⟩
  · go_enter Try.func18, Try.ntmps18
    go_wp2_with (first | (refine wl_load ?_) | (refine wl_store ?_) | (refine wl_build ?_) | (refine wl_slice ?_) | (refine wl_append ?_; intro v' w' ho hg hb; have hs := hg.size; (try simp at hs); (try rw [ptCs_end] at ho); (try rw [ints_end] at ho); (try simp only [Nat.zero_add, Nat.reduceAdd, List.nil_append, List.cons_append] at ho)) | (go_at_call 36; (with_reducible refine (isPrime_no _ _ hp).mono ?_); rintro e w' ⟨rfl, rfl⟩) | ((with_reducible apply region_gd (id := 34)); refine region_QA (id := 34) 16 ?_; apply Exists.intro; refine ⟨fun G => ?_, fun W hl => ?_⟩; (· (simp only [List.take_succ_cons, List.take_zero]; (repeat (first | go_big_quiet_skip | (go_big_quiet_want; first | (refine q_load ?_; simp only [Act.put, List.setIfInBounds_toArray, List.set_cons_zero, List.set_cons_succ]; go_big_quiet_on) | (go_big_quiet_op; first | go_big_quiet_on)))); exact rfl)); have hs := hl.out.size; (try simp at hs); simp only [List.drop_succ_cons, List.drop_zero]))
    (apply ret_two Try.results18; (conv => lhs; whnf); (conv => lhs; whnf); exact rfl)
    exact ret_ret rfl findLow
  · go_enter Try.func18, Try.ntmps18
    go_wp2_with (first | (refine wl_load ?_) | (refine wl_store ?_) | (refine wl_build ?_) | (refine wl_slice ?_) | (refine wl_append ?_; intro v' w' ho hg hb; have hs := hg.size; (try simp at hs); (try rw [ptCs_end] at ho); (try rw [ints_end] at ho); (try simp only [Nat.zero_add, Nat.reduceAdd, List.nil_append, List.cons_append] at ho)) | (go_at_call 36; (with_reducible refine (isPrime_yes _ _ hp).mono ?_); rintro e w' ⟨rfl, rfl⟩) | (go_at_call 36; (with_reducible refine (isPrime_no _ _ hq).mono ?_); rintro e w' ⟨rfl, rfl⟩) | ((with_reducible apply region_gd (id := 34)); refine region_QA (id := 34) 16 ?_; apply Exists.intro; refine ⟨fun G => ?_, fun W hl => ?_⟩; (· (simp only [List.take_succ_cons, List.take_zero]; (repeat (first | go_big_quiet_skip | (go_big_quiet_want; first | (refine q_load ?_; simp only [Act.put, List.setIfInBounds_toArray, List.set_cons_zero, List.set_cons_succ]; go_big_quiet_on) | (go_big_quiet_op; first | go_big_quiet_on)))); exact rfl)); have hs := hl.out.size; (try simp at hs); simp only [List.drop_succ_cons, List.drop_zero]))
    (apply ret_two Try.results18; (conv => lhs; whnf); (conv => lhs; whnf); exact rfl)
    exact ret_ret rfl findLow
set_option maxRecDepth 20000 in
set_option maxHeartbeats 4000000 in
theorem IncidenceRank_spec_no (p q : Int) (w : World) (h : prB p = false ∨ (prB p = true ∧ prB q = false)) :
    Calls Try.prog 19 #[.int .i64 p, .int .i64 q] w (Ret w (.tuple #[.int .i64 0, .int .i64 2])) := by
  rcases h with hp | ⟨hp, hq⟩
  · go_enter Try.func19, Try.ntmps19
    go_wp2_with (first | (refine wl_load ?_) | (refine wl_store ?_) | (refine wl_build ?_) | (refine wl_slice ?_) | (refine wl_append ?_; intro v' w' ho hg hb; have hs := hg.size; (try simp at hs); (try rw [ptCs_end] at ho); (try rw [ints_end] at ho); (try simp only [Nat.zero_add, Nat.reduceAdd, List.nil_append, List.cons_append] at ho)) | (go_at_call 40; (with_reducible refine (l01Prime_no _ _ hp).mono ?_); rintro e w' ⟨rfl, rfl⟩) | ((with_reducible apply region_gd (id := 11)); refine region_QA (id := 11) 10 ?_; apply Exists.intro; refine ⟨fun G => ?_, fun W hl => ?_⟩; (· (simp only [List.take_succ_cons, List.take_zero]; (repeat (first | go_big_quiet_skip | (go_big_quiet_want; first | (refine q_load ?_; simp only [Act.put, List.setIfInBounds_toArray, List.set_cons_zero, List.set_cons_succ]; go_big_quiet_on) | (go_big_quiet_op; first | go_big_quiet_on)))); exact rfl)); have hs := hl.out.size; (try simp at hs); simp only [List.drop_succ_cons, List.drop_zero]) | ((with_reducible apply region_gd (id := 36)); refine region_QA (id := 36) 16 ?_; apply Exists.intro; refine ⟨fun G => ?_, fun W hl => ?_⟩; (· (simp only [List.take_succ_cons, List.take_zero]; (repeat (first | go_big_quiet_skip | (go_big_quiet_want; first | (refine q_load ?_; simp only [Act.put, List.setIfInBounds_toArray, List.set_cons_zero, List.set_cons_succ]; go_big_quiet_on) | (go_big_quiet_op; first | go_big_quiet_on)))); exact rfl)); have hs := hl.out.size; (try simp at hs); simp only [List.drop_succ_cons, List.drop_zero]))
    (apply ret_two Try.results19; (conv => lhs; whnf); (conv => lhs; whnf); exact rfl)
    exact ret_ret rfl findLow
  · go_enter Try.func19, Try.ntmps19
    go_wp2_with (first | (refine wl_load ?_) | (refine wl_store ?_) | (refine wl_build ?_) | (refine wl_slice ?_) | (refine wl_append ?_; intro v' w' ho hg hb; have hs := hg.size; (try simp at hs); (try rw [ptCs_end] at ho); (try rw [ints_end] at ho); (try simp only [Nat.zero_add, Nat.reduceAdd, List.nil_append, List.cons_append] at ho)) | (go_at_call 40; (with_reducible refine (l01Prime_yes _ _ hp).mono ?_); rintro e w' ⟨rfl, rfl⟩) | (go_at_call 40; (with_reducible refine (l01Prime_no _ _ hq).mono ?_); rintro e w' ⟨rfl, rfl⟩) | ((with_reducible apply region_gd (id := 11)); refine region_QA (id := 11) 10 ?_; apply Exists.intro; refine ⟨fun G => ?_, fun W hl => ?_⟩; (· (simp only [List.take_succ_cons, List.take_zero]; (repeat (first | go_big_quiet_skip | (go_big_quiet_want; first | (refine q_load ?_; simp only [Act.put, List.setIfInBounds_toArray, List.set_cons_zero, List.set_cons_succ]; go_big_quiet_on) | (go_big_quiet_op; first | go_big_quiet_on)))); exact rfl)); have hs := hl.out.size; (try simp at hs); simp only [List.drop_succ_cons, List.drop_zero]) | ((with_reducible apply region_gd (id := 36)); refine region_QA (id := 36) 16 ?_; apply Exists.intro; refine ⟨fun G => ?_, fun W hl => ?_⟩; (· (simp only [List.take_succ_cons, List.take_zero]; (repeat (first | go_big_quiet_skip | (go_big_quiet_want; first | (refine q_load ?_; simp only [Act.put, List.setIfInBounds_toArray, List.set_cons_zero, List.set_cons_succ]; go_big_quiet_on) | (go_big_quiet_op; first | go_big_quiet_on)))); exact rfl)); have hs := hl.out.size; (try simp at hs); simp only [List.drop_succ_cons, List.drop_zero]))
    (apply ret_two Try.results19; (conv => lhs; whnf); (conv => lhs; whnf); exact rfl)
    exact ret_ret rfl findLow
end Go.Proofs.Ytbeeecahkchjnaa
/- The law FnSets: what its parts do. -- draws -- own lists -- numbers -/
namespace Go.Proofs.Ytbeeecahkchjnaa
open Go.RowKit
set_option linter.unusedVariables false
set_option linter.unusedSimpArgs false
/-- A list of numbers and a code are handed back. -/
def SetC (w : World) (R : List Int) (k : Nat) (cd : Int) (e : Ending) (w' : World) : Prop := ∃ b c, e = .returned (.tuple #[.slice b k c, .int .i64 cd]) ∧ ArgK w' b k R ∧ LowK w w'
theorem SetC.yes {w w' : World} {R : List Int} {k : Nat} {e : Ending} (hk : R.length = k) (h : IntsPost2 w R e w') : SetC w R k 0 e w' := by
  obtain ⟨v, rfl, hO, hb⟩ := h
  obtain ⟨b, c, rfl, hA⟩ := OwnK.arg (⟨hO⟩ : OwnK w' w.heap.size 2 1 v R.length (ints R)) rfl
  subst hk
  exact ⟨b, c, rfl, hA, ⟨hb⟩⟩
theorem SetC.no {w w' : World} {cd : Int} {e : Ending} (h : Ret w (.tuple #[.slice none 0 0, .int .i64 cd]) e w') : SetC w [] 0 cd e w' := by
  obtain ⟨rfl, hb⟩ := h
  exact ⟨none, 0, rfl, ⟨fun h => absurd h (Nat.lt_irrefl _)⟩, ⟨hb⟩⟩
/-- A translate of a set. -/
structure MovF (m t : Int) (l : List Int) (R : List Int) (k : Nat) (cd : Int) : Prop where
  len : R.length = k
  small : k ≤ 1000000
  s : ∀ (W : World) (b : Option Addr) (c : Nat), ArgK W b l.length l → Calls Try.prog 10 #[.int .i64 m, .slice b l.length c, .int .i64 t] W (SetC W R k cd)
  i : ∀ (W : World) (b : Option Addr) (c : Nat), ArgK W b l.length l → Calls Try.prog 9 #[.int .i64 m, .slice b l.length c, .int .i64 t] W (SetC W R k cd)
  good : cd = 0 → (diffR m l).2 = 0 ∧ diffR m R = diffR m l
theorem mov_facts (m t : Int) (l : List Int) (hl : l.length ≤ 1000000) : ∃ R k cd, MovF m t l R k cd := by
  by_cases h : setB m l = true ∧ 0 ≤ t ∧ t ≤ m - 1
  · obtain ⟨hs, t0, t1⟩ := h
    refine ⟨sortN (movN m 1 t l), _, 0, rfl, by rw [sortN_length, movN_length]; exact hl, fun W b c hA => (TranslateSet_spec_yes m t b c l W hs t0 t1 hA).mono fun e w' h => SetC.yes rfl h, fun W b c hA => (TranslateSet_impl_yes m t b c l W hs t0 t1 hA).mono fun e w' h => SetC.yes rfl h, fun _ => ⟨?_, diff_mov hs⟩⟩
    unfold diffR
    rw [if_pos hs]
  · have hno : setB m l = false ∨ t < 0 ∨ m - 1 < t := by
      rcases hs : setB m l with _ | _
      · exact .inl rfl
      · right
        by_cases h0 : t < 0
        · exact .inl h0
        · right
          by_cases h1 : m - 1 < t
          · exact h1
          · exact absurd ⟨hs, by omega, by omega⟩ h
    exact ⟨[], 0, 2, rfl, by decide, fun W b c hA => (TranslateSet_spec_no m t b c l W hl hno hA).mono fun e w' h => SetC.no h, fun W b c hA => (TranslateSet_impl_no m t b c l W hl hno hA).mono fun e w' h => SetC.no h, fun h => absurd h (by decide)⟩
/-- The multipliers of a set. -/
structure MulF (n : Int) (l : List Int) (R : List Int) (k : Nat) (cd : Int) : Prop where
  len : R.length = k
  small : k ≤ 1000000
  s : ∀ (W : World) (b : Option Addr) (c : Nat), ArgK W b l.length l → Calls Try.prog 16 #[.int .i64 n, .slice b l.length c] W (SetC W R k cd)
  i : ∀ (W : World) (b : Option Addr) (c : Nat), ArgK W b l.length l → Calls Try.prog 15 #[.int .i64 n, .slice b l.length c] W (SetC W R k cd)
  bad : cd ≠ 0 → k = 0
  good : cd = 0 → (1 : Int) ∈ R ∧ (diffR n l).2 = 0
theorem mul_facts (n : Int) (l : List Int) (hl : l.length ≤ 1000000) : ∃ R k cd, MulF n l R k cd := by
  by_cases h : setB n l = true ∧ n ≤ 200
  · obtain ⟨hs, h2⟩ := h
    refine ⟨multL n l, _, 0, rfl, Nat.le_trans (multK_length _ _ _) (by omega), fun W b c hA => (MultipliersOf_spec_yes n b c l W hs h2 hA).mono fun e w' h => SetC.yes rfl h, fun W b c hA => (MultipliersOf_impl_yes n b c l W hs h2 hA).mono fun e w' h => SetC.yes rfl h, fun h => absurd rfl h, fun _ => ⟨one_mult hs, ?_⟩⟩
    unfold diffR
    rw [if_pos hs]
  · have hno : setB n l = false ∨ 200 < n := by
      rcases hs : setB n l with _ | _
      · exact .inl rfl
      · right
        by_cases h1 : 200 < n
        · exact h1
        · exact absurd ⟨hs, by omega⟩ h
    exact ⟨[], 0, 2, rfl, by decide, fun W b c hA => (MultipliersOf_spec_no n b c l W hl hno hA).mono fun e w' h => SetC.no h, fun W b c hA => (MultipliersOf_impl_no n b c l W hl hno hA).mono fun e w' h => SetC.no h, fun _ => rfl, fun h => absurd h (by decide)⟩
/-- The rank of a plane. -/
structure RnkF (p q r cd : Int) : Prop where
  s : ∀ W : World, Calls Try.prog 19 #[.int .i64 p, .int .i64 q] W (Ret W (.tuple #[.int .i64 r, .int .i64 cd]))
  i : ∀ W : World, Calls Try.prog 18 #[.int .i64 p, .int .i64 q] W (Ret W (.tuple #[.int .i64 r, .int .i64 cd]))
  good : cd = 0 → (p = 3 ∧ q = 3 ∧ r = 7) ∨ (p = 3 ∧ (q = 5 ∨ q = 7 ∨ q = 13) ∧ r = 13) ∨ (p = 5 ∧ q = 3) ∨ (p = 5 ∧ q = 5 ∧ r = 16) ∨ (p = 5 ∧ (q = 7 ∨ q = 13) ∧ r = 31)
theorem rnk_yes (n q : Nat) (r : Nat) (hp : prB (n : Int) = true) (hq : prB (q : Int) = true) (hr : rankT q n (allP n).length (allP n) = r) : (∀ W : World, Calls Try.prog 19 #[.int .i64 (n : Int), .int .i64 (q : Int)] W (Ret W (.tuple #[.int .i64 (r : Int), .int .i64 0]))) ∧ (∀ W : World, Calls Try.prog 18 #[.int .i64 (n : Int), .int .i64 (q : Int)] W (Ret W (.tuple #[.int .i64 (r : Int), .int .i64 0]))) := by
  obtain ⟨b1, b2⟩ := prB_bd hp
  have hn13 : n ≤ 13 := by omega
  have hn2 : n * n ≤ 13 * 13 := Nat.mul_le_mul hn13 hn13
  have hN := allP_length n
  rw [rankT_eq hq] at hr
  exact ⟨fun W => IncidenceRank_spec_yes n _ q (allP n) W hp hq rfl rfl (by omega) (by omega) (allP_in hn13) _ hr, fun W => IncidenceRank_impl_yes n _ q (allP n) W hp hq rfl rfl (by omega) (by omega) (allP_in hn13) _ hr⟩
theorem rnk_no (p q : Int) (h : prB p = false ∨ (prB p = true ∧ prB q = false)) : RnkF p q 0 2 := ⟨fun W => IncidenceRank_spec_no p q W h, fun W => IncidenceRank_impl_no p q W h, fun h => absurd h (by decide)⟩
theorem rnk_facts {p q : Int} (hp : p ∈ [3, 3, 5, 4]) (hq : q ∈ [3, 5, 7, 13, 2]) : ∃ r cd, RnkF p q r cd := by
  have key : ∀ (n m r : Nat), prB (n : Int) = true → prB (m : Int) = true → rankT m n (allP n).length (allP n) = r → ((n : Int) = 3 ∧ (m : Int) = 3 ∧ (r : Int) = 7) ∨ ((n : Int) = 3 ∧ ((m : Int) = 5 ∨ (m : Int) = 7 ∨ (m : Int) = 13) ∧ (r : Int) = 13) ∨ ((n : Int) = 5 ∧ (m : Int) = 3) ∨ ((n : Int) = 5 ∧ (m : Int) = 5 ∧ (r : Int) = 16) ∨ ((n : Int) = 5 ∧ ((m : Int) = 7 ∨ (m : Int) = 13) ∧ (r : Int) = 31) → ∃ r cd : Int, RnkF n m r cd := fun n m r h1 h2 h3 h4 => by
    obtain ⟨hs, hi⟩ := rnk_yes n m r h1 h2 h3
    exact ⟨r, 0, hs, hi, fun _ => h4⟩
  have l3 : (allP 3).length = 13 := allP_length 3
  have l5 : (allP 5).length = 31 := allP_length 5
  simp only [List.mem_cons, List.not_mem_nil, or_false] at hp hq
  rcases hp with rfl | rfl | rfl | rfl
  · rcases hq with rfl | rfl | rfl | rfl | rfl
    · exact key 3 3 7 rfl rfl (by rw [l3]; exact r33) (by omega)
    · exact key 3 5 13 rfl rfl (by rw [l3]; exact r35) (by omega)
    · exact key 3 7 13 rfl rfl (by rw [l3]; exact r37) (by omega)
    · exact key 3 13 13 rfl rfl (by rw [l3]; exact r313) (by omega)
    · exact ⟨0, 2, rnk_no 3 2 (.inr ⟨rfl, rfl⟩)⟩
  · rcases hq with rfl | rfl | rfl | rfl | rfl
    · exact key 3 3 7 rfl rfl (by rw [l3]; exact r33) (by omega)
    · exact key 3 5 13 rfl rfl (by rw [l3]; exact r35) (by omega)
    · exact key 3 7 13 rfl rfl (by rw [l3]; exact r37) (by omega)
    · exact key 3 13 13 rfl rfl (by rw [l3]; exact r313) (by omega)
    · exact ⟨0, 2, rnk_no 3 2 (.inr ⟨rfl, rfl⟩)⟩
  · rcases hq with rfl | rfl | rfl | rfl | rfl
    · exact key 5 3 _ rfl rfl rfl (by omega)
    · exact key 5 5 16 rfl rfl (by rw [l5]; exact r55) (by omega)
    · exact key 5 7 31 rfl rfl (by rw [l5]; exact r57) (by omega)
    · exact key 5 13 31 rfl rfl (by rw [l5]; exact r513) (by omega)
    · exact ⟨0, 2, rnk_no 5 2 (.inr ⟨rfl, rfl⟩)⟩
  · exact ⟨0, 2, rnk_no 4 q (.inl rfl)⟩
end Go.Proofs.Ytbeeecahkchjnaa
/- The law FnSets: its helpers. -- draws -- own lists -- numbers -/
namespace Go.Proofs.Ytbeeecahkchjnaa
open Go.RowKit
set_option linter.unusedVariables false
set_option linter.unusedSimpArgs false
set_option pp.deepTerms false
set_option pp.deepTerms.threshold 10
set_option maxRecDepth 20000 in
set_option maxHeartbeats 8000000 in
theorem likeInts_K (b b' : Option Addr) (n c c' : Nat) (L : List Int) (w : World) (hn : n ≤ 1000000) (hL : L.length = n) (h1 : ArgK w b n L) (h2 : ArgK w b' n L) :
    Calls Try.prog 11 #[.slice b n c, .slice b' n c'] w (Ret w (.bool true)) := by
  have HL := Lib.hid hL
  have H1 := Lib.hid h1
  have H2 := Lib.hid h2
  clear hL h1 h2
  go_enter Try.func11, Try.ntmps11
  go_wp2_with (first | (refine wl_loadS ?_) | (refine wl_load ?_) | (refine wl_storeS ?_) | (refine wl_store ?_) | (refine wl_build ?_) | (refine wl_slice ?_) | (refine wl_append ?_; intro v' w' ho hg hb; have hs := hg.size; (try simp at hs); (try rw [ptCs_end] at ho); (try rw [ints_end] at ho); (try simp only [Nat.zero_add, Nat.reduceAdd, List.nil_append, List.cons_append] at ho)) | ((with_reducible apply region_gd (id := 6)); refine region_QA (id := 6) 9 ?_; apply Exists.intro; refine ⟨fun G => ?_, fun W hl => ?_⟩; (· (simp only [List.take_succ_cons, List.take_zero]; (repeat (first | go_big_quiet_skip | (go_big_quiet_want; first | (refine q_loadS ?_; simp only [Act.put, List.setIfInBounds_toArray, List.set_cons_zero, List.set_cons_succ]; go_big_quiet_on) | (refine q_load ?_; simp only [Act.put, List.setIfInBounds_toArray, List.set_cons_zero, List.set_cons_succ]; go_big_quiet_on) | (go_big_quiet_op; first | go_big_quiet_on)))); exact rfl)); have hs := hl.out.size; (try simp at hs); simp only [List.drop_succ_cons, List.drop_zero]))
  go_loopw [5] (fun iv wr => ∃ i : Nat, i ≤ n ∧ iv = .int .i64 (i : Int) ∧ LowK w wr) (fun iv wr => n - (intOf iv).toNat)
  case atStart => exact ⟨0, Nat.zero_le _, rfl, LowK.refl _⟩
  case round =>
    obtain ⟨i, hi, rfl, hV⟩ := hrel
    by_cases hlt : i < n
    · obtain ⟨g, rfl, p1⟩ := (H1.out.link (LowK.lnk hV)).out (by omega)
      obtain ⟨g', rfl, p2⟩ := (H2.out.link (LowK.lnk hV)).out (by omega)
      go_wp2_with (first | (refine wl_loadS ?_) | (refine wl_load ?_) | (refine wl_storeS ?_) | (refine wl_store ?_) | (refine wl_build ?_) | (refine wl_slice ?_) | (refine wl_append ?_; intro v' w' ho hg hb; have hs := hg.size; (try simp at hs); (try rw [ptCs_end] at ho); (try rw [ints_end] at ho); (try simp only [Nat.zero_add, Nat.reduceAdd, List.nil_append, List.cons_append] at ho)) | ((with_reducible apply region_gd (id := 6)); refine region_QA (id := 6) 9 ?_; apply Exists.intro; refine ⟨fun G => ?_, fun W hl => ?_⟩; (· (simp only [List.take_succ_cons, List.take_zero]; (repeat (first | go_big_quiet_skip | (go_big_quiet_want; first | (refine q_loadS ?_; simp only [Act.put, List.setIfInBounds_toArray, List.set_cons_zero, List.set_cons_succ]; go_big_quiet_on) | (refine q_load ?_; simp only [Act.put, List.setIfInBounds_toArray, List.set_cons_zero, List.set_cons_succ]; go_big_quiet_on) | (go_big_quiet_op; first | go_big_quiet_on)))); exact rfl)); have hs := hl.out.size; (try simp at hs); simp only [List.drop_succ_cons, List.drop_zero]))
      go_roundw
      case rel => exact ⟨i + 1, by omega, by go_num, findLow⟩
      case measure => (simp [intOf]; try omega)
    · obtain rfl : n = i := by omega
      go_wp2_with (first | (refine wl_loadS ?_) | (refine wl_load ?_) | (refine wl_storeS ?_) | (refine wl_store ?_) | (refine wl_build ?_) | (refine wl_slice ?_) | (refine wl_append ?_; intro v' w' ho hg hb; have hs := hg.size; (try simp at hs); (try rw [ptCs_end] at ho); (try rw [ints_end] at ho); (try simp only [Nat.zero_add, Nat.reduceAdd, List.nil_append, List.cons_append] at ho)) | ((with_reducible apply region_gd (id := 6)); refine region_QA (id := 6) 9 ?_; apply Exists.intro; refine ⟨fun G => ?_, fun W hl => ?_⟩; (· (simp only [List.take_succ_cons, List.take_zero]; (repeat (first | go_big_quiet_skip | (go_big_quiet_want; first | (refine q_loadS ?_; simp only [Act.put, List.setIfInBounds_toArray, List.set_cons_zero, List.set_cons_succ]; go_big_quiet_on) | (refine q_load ?_; simp only [Act.put, List.setIfInBounds_toArray, List.set_cons_zero, List.set_cons_succ]; go_big_quiet_on) | (go_big_quiet_op; first | go_big_quiet_on)))); exact rfl)); have hs := hl.out.size; (try simp at hs); simp only [List.drop_succ_cons, List.drop_zero]))
      (apply ret_one Try.results11; (conv => lhs; whnf); exact rfl)
      exact ret_ret rfl findLow
set_option maxRecDepth 20000 in
set_option maxHeartbeats 8000000 in
theorem hasInt_K (b : Option Addr) (n c : Nat) (L : List Int) (x : Int) (w : World) (hn : n ≤ 1000000) (hL : L.length = n) (h1 : ArgK w b n L) (hx : x ∈ L) :
    Calls Try.prog 20 #[.slice b n c, .int .i64 x] w (Ret w (.bool true)) := by
  obtain ⟨j, hj, hjx⟩ : ∃ j, j < n ∧ L.getD j 0 = x := by
    obtain ⟨j, hj, e⟩ := List.mem_iff_getElem.1 hx
    exact ⟨j, by omega, by simp [List.getD, hj, e]⟩
  have H1 := Lib.hid h1
  have HX := Lib.hid hjx
  clear hL h1 hx hjx
  go_enter Try.func20, Try.ntmps20
  go_wp2_with (first | (refine wl_loadS ?_) | (refine wl_load ?_) | (refine wl_storeS ?_) | (refine wl_store ?_) | (refine wl_build ?_) | (refine wl_slice ?_) | (refine wl_append ?_; intro v' w' ho hg hb; have hs := hg.size; (try simp at hs); (try rw [ptCs_end] at ho); (try rw [ints_end] at ho); (try simp only [Nat.zero_add, Nat.reduceAdd, List.nil_append, List.cons_append] at ho)))
  go_loopw [5] (fun iv wr => ∃ i : Nat, i ≤ j ∧ iv = .int .i64 (i : Int) ∧ LowK w wr) (fun iv wr => n - (intOf iv).toNat)
  case atStart => exact ⟨0, Nat.zero_le _, rfl, LowK.refl _⟩
  case round =>
    obtain ⟨i, hi, rfl, hV⟩ := hrel
    obtain ⟨g, rfl, p1⟩ := (H1.out.link (LowK.lnk hV)).out (by omega)
    by_cases he : L.getD i 0 = x
    · have he' : (L[i]?.getD 0 == x) = true := by simpa using he
      go_wp2_with (first | (refine wl_loadS ?_) | (refine wl_load ?_) | (refine wl_storeS ?_) | (refine wl_store ?_) | (refine wl_build ?_) | (refine wl_slice ?_) | (refine wl_append ?_; intro v' w' ho hg hb; have hs := hg.size; (try simp at hs); (try rw [ptCs_end] at ho); (try rw [ints_end] at ho); (try simp only [Nat.zero_add, Nat.reduceAdd, List.nil_append, List.cons_append] at ho)))
      (apply ret_one Try.results20; (conv => lhs; whnf); exact rfl)
      exact ret_ret rfl findLow
    · have hlt : i < j := by
        rcases Nat.lt_or_ge i j with h | h
        · exact h
        · exact absurd (by rw [show i = j by omega]; exact HX.out) he
      have he' : (L[i]?.getD 0 == x) = false := by simpa using he
      go_wp2_with (first | (refine wl_loadS ?_) | (refine wl_load ?_) | (refine wl_storeS ?_) | (refine wl_store ?_) | (refine wl_build ?_) | (refine wl_slice ?_) | (refine wl_append ?_; intro v' w' ho hg hb; have hs := hg.size; (try simp at hs); (try rw [ptCs_end] at ho); (try rw [ints_end] at ho); (try simp only [Nat.zero_add, Nat.reduceAdd, List.nil_append, List.cons_append] at ho)))
      go_roundw
      case rel => exact ⟨i + 1, by omega, by go_num, findLow⟩
      case measure => (simp [intOf]; try omega)
end Go.Proofs.Ytbeeecahkchjnaa

