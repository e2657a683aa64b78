/- Texts of the claim, in build order: T5, T7, U8, H5, H6, H7, U9. No condition. -/
import Derived.Test.YtkhaiphipdpgeaaZTranslateOf9
/- The law FnExactSingerOrder, walked. -/
namespace Go.Proofs.Ytkhaiphipdpgeaa
open Go.RowKit
set_option linter.unusedVariables false
set_option linter.unusedSimpArgs false
theorem own_room {W : World} {base : Nat} {T : TypeId} {v : Value} {l : List Pt} {n : Nat} (h : W.ownsRow base T 3 v n (ptCs l)) (hl : l.length = n) (hn : 0 < n) :
    ∃ g cap, v = .slice (some ⟨g, 0, none⟩) n cap ∧ base ≤ g ∧ g < W.heap.size ∧ n ≤ cap ∧ RoomP W g cap T ∧ PtsAt W g 0 n l := by
  obtain ⟨g, cap, e, hb, hg, hp⟩ := ownPts h hl hn
  rcases h.2 with ⟨_, h0⟩ | ⟨g', cap', cur, e', hb', hg', hle, _, hsz, htk⟩
  · omega
  · rw [e] at e'
    cases e'
    exact ⟨g, cap, e, hb, hg, hle, ⟨cur, hg', hsz⟩, hp⟩
theorem PtsAt.save {w W : World} {g0 b o n : Nat} {l : List Pt} (h : PtsAt w b o n l) (hs : Save g0 w W) (hne : b ≠ g0) (hlt : b < w.heap.size) : PtsAt W b o n l := by
  have hc : ∀ i, W.cell? ⟨b, i, none⟩ = w.cell? ⟨b, i, none⟩ := fun i => by
    unfold World.cell?
    rw [hs.block b hlt hne]
  intro i hi
  rw [hc, hc, hc]
  exact h i hi
end Go.Proofs.Ytkhaiphipdpgeaa
/- Contracts: the laws' marks on lists of numbers; DifferenceSetOf, the program's and the reference's. -/
namespace Go.Proofs.Ytkhaiphipdpgeaa
open Go.RowKit
set_option linter.unusedVariables false
set_option linter.unusedSimpArgs false
def markI (k n : Nat) : List Int := (List.range n).map (fun i : Nat => ((k + i : Nat) : Int))
theorem markI_at (k n i : Nat) (h : i < n) : (markI k n).getD i 0 = ((k + i : Nat) : Int) := by simp [markI, List.getD, h]
theorem ints_grow {W : World} {g cap i : Nat} {T : TypeId} {M : List Int} {x : Int} (hr : RoomI W g cap T) (hi : i < cap) (h : IntsAt W g 0 i M) (hM : M.getD i 0 = x) :
    IntsAt (W.setCell ⟨g, i, none⟩ (.int .i64 x)) g 0 (i + 1) M := by
  have ne : ∀ a b : Nat, a ≠ b → (⟨g, a, none⟩ : Addr) ≠ ⟨g, b, none⟩ := fun a b h e => h (by cases e; rfl)
  obtain ⟨u0, s0⟩ := Option.isSome_iff_exists.1 (hr.some i hi)
  intro j hj
  simp only [Nat.zero_add]
  by_cases e : j = i
  · subst e
    rw [hM]
    exact World.cell?_setCell_same (u := u0) _ _ _ s0
  · have c0 := h j (by omega)
    simp only [Nat.zero_add] at c0
    rw [World.cell?_setCell_other _ _ _ _ (ne _ _ (by omega))]; exact c0
/-- What marks leave. -/
structure MarkPostI (g n k cap : Nat) (T : TypeId) (w : World) (e : Ending) (w' : World) : Prop where
  out : e = .returned (.int .i64 ((k + n : Nat) : Int)) ∧ Save g w w' ∧ RoomI w' g cap T ∧ IntsAt w' g 0 n (markI k n)
set_option maxHeartbeats 1000000 in
theorem markInt64S_any (g n c k cap : Nat) (T : TypeId) (w : World) (hr : RoomI w g cap T) (hn : n ≤ cap) (hn1 : n ≤ 1000000) (hk : k ≤ 10000000) :
    Calls Try.prog 13 #[.slice (some ⟨g, 0, none⟩) n c, .int .i64 (k : Int)] w (MarkPostI g n k cap T w) := by
  have HR0 := Lib.hid hr
  clear hr
  go_enter Try.func13, Try.ntmps13
  go_wp2
  go_loopw [1, 5] (fun q i wr => ∃ ii : Nat, ii ≤ n ∧ i = .int .i64 ii ∧ q = .int .i64 ((k + ii : Nat) : Int) ∧ Hid (Save g w wr) ∧ Hid (RoomI wr g cap T) ∧ Hid (IntsAt wr g 0 ii (markI k n))) (fun _ i wr => n - (intOf i).toNat)
  case atStart => exact ⟨0, Nat.zero_le _, rfl, rfl, Lib.hid (Save.refl _ _), HR0, Lib.hid (fun j hj => absurd hj (by omega))⟩
  case round =>
    obtain ⟨ii, hi, rfl, rfl, HS, HR, HP⟩ := hrel
    by_cases hlt : ii < n
    · obtain ⟨u0, s0⟩ := Option.isSome_iff_exists.1 (HR.out.some ii (by omega))
      have r0 := HR.out.frozen ii
      go_wp2
      go_roundw
      case rel => exact ⟨ii + 1, by omega, by go_num, ret_num (by omega), Lib.hid (HS.out.setCell _ _), Lib.hid (HR.out.set _ _), Lib.hid (ints_grow HR.out (by omega) HP.out (by rw [markI_at _ _ _ hlt]; simp))⟩
      case measure => simp [intOf]; omega
    · have : ii = n := by omega
      subst this
      go_wp2
      go_ret
      exact ⟨rfl, HS.out, HR.out, HP.out⟩
theorem heldInt64S_any (g n c k : Nat) (w : World) (hn1 : n ≤ 1000000) (hk : k ≤ 10000000) (hp : IntsAt w g 0 n (markI k n)) :
    Calls Try.prog 14 #[.slice (some ⟨g, 0, none⟩) n c, .int .i64 (k : Int)] w (Ret w (.int .i64 ((k + n : Nat) : Int))) := by
  have HP := Lib.hid hp
  clear hp
  go_enter Try.func14, Try.ntmps14
  go_wp2
  go_loopw [1, 5] (fun q i wr => ∃ ii : Nat, ii ≤ n ∧ i = .int .i64 ii ∧ q = .int .i64 ((k + ii : Nat) : Int) ∧ Hid (Below w.heap.size w wr)) (fun _ i wr => n - (intOf i).toNat)
  case atStart => exact ⟨0, Nat.zero_le _, rfl, rfl, Lib.hid (Below.refl _ _)⟩
  case round =>
    obtain ⟨ii, hi, rfl, rfl, HB⟩ := hrel
    by_cases hlt : ii < n
    · have c0 := (HP.out.below HB.out) ii hlt
      rw [markI_at _ _ _ hlt] at c0
      simp only [Nat.zero_add, Int.natCast_add] at c0
      go_wp2
      go_roundw
      case rel => exact ⟨ii + 1, by omega, by go_num, ret_num (by omega), HB⟩
      case measure => simp [intOf]; omega
    · have : ii = n := by omega
      subst this
      go_wp2
      go_ret
      exact ⟨rfl, HB.out⟩
theorem markInt64S_nil (b : Option Addr) (c : Nat) (k : Int) (w : World) : Calls Try.prog 13 #[.slice b 0 c, .int .i64 k] w fun e w' => e = .returned (.int .i64 k) ∧ w = w' := by
  go_enter Try.func13, Try.ntmps13
  go_wp2
  refine wp_loop_rounds 1 ?_
  rw [rounds_succ]; go_wp2
  go_ret
  exact ⟨rfl, rfl⟩
theorem heldInt64S_nil (b : Option Addr) (c : Nat) (k : Int) (w : World) : Calls Try.prog 14 #[.slice b 0 c, .int .i64 k] w fun e w' => e = .returned (.int .i64 k) ∧ w = w' := by
  go_enter Try.func14, Try.ntmps14
  go_wp2
  refine wp_loop_rounds 1 ?_
  rw [rounds_succ]; go_wp2
  go_ret
  exact ⟨rfl, rfl⟩
theorem eqInt64S_nil (b b2 : Option Addr) (c c2 : Nat) (w : World) : Calls Try.prog 11 #[.slice b 0 c, .slice b2 0 c2] w fun e w' => e = .returned (.bool true) ∧ w = w' := by
  go_enter Try.func11, Try.ntmps11
  go_wp2
  refine wp_loop_rounds 1 ?_
  rw [rounds_succ]; go_wp2
  go_ret
  exact ⟨rfl, rfl⟩
theorem own_roomI {W : World} {base : Nat} {T : TypeId} {v : Value} {l : List Int} {n : Nat} (h : W.ownsRow base T 1 v n (ints l)) (hl : l.length = n) (hn : 0 < n) :
    ∃ g cap, v = .slice (some ⟨g, 0, none⟩) n cap ∧ base ≤ g ∧ g < W.heap.size ∧ n ≤ cap ∧ RoomI W g cap T ∧ IntsAt W g 0 n l := by
  obtain ⟨g, cap, e, hb, hg, hle, hp, _⟩ := ownInts2 h hl hn
  rcases h.2 with ⟨_, h0⟩ | ⟨g', cap', cur, e', hb', hg', hle', _, hsz, htk⟩
  · omega
  · rw [e] at e'
    cases e'
    exact ⟨g, cap, e, hb, hg, hle, ⟨cur, hg', by simpa using hsz⟩, hp⟩
theorem IntsAt.save {w W : World} {g0 b o n : Nat} {l : List Int} (h : IntsAt w b o n l) (hs : Save g0 w W) (hne : b ≠ g0) (hlt : b < w.heap.size) : IntsAt W b o n l := by
  have hc : ∀ i, W.cell? ⟨b, i, none⟩ = w.cell? ⟨b, i, none⟩ := fun i => by
    unfold World.cell?
    rw [hs.block b hlt hne]
  intro i hi
  rw [hc]
  exact h i hi
theorem markI_101 (g Q c cap : Nat) (T : TypeId) (W : World) (hr : RoomI W g cap T) (hn : Q ≤ cap) (hQ : Q ≤ 1000000) (M : Int) (hM : ((101 + Q : Nat) : Int) = M) :
    Calls Try.prog 13 #[.slice (some ⟨g, 0, none⟩) Q c, .int .i64 101] W (fun e w' => e = .returned (.int .i64 M) ∧ Save g W w' ∧ IntsAt w' g 0 Q (markI 101 Q)) := by
  have h := markInt64S_any g Q c 101 cap T W hr hn hQ (by omega)
  rw [← hM]
  exact h.mono fun e w' ⟨h1, h2, _, h4⟩ => ⟨h1, h2, h4⟩
theorem heldI_101 (g Q c : Nat) (W : World) (hQ : Q ≤ 1000000) (hp : IntsAt W g 0 Q (markI 101 Q)) (M : Int) (hM : ((101 + Q : Nat) : Int) = M) :
    Calls Try.prog 14 #[.slice (some ⟨g, 0, none⟩) Q c, .int .i64 101] W (Ret W (.int .i64 M)) := by
  rw [← hM]
  exact heldInt64S_any g Q c 101 W hQ (by omega) hp
/-- A new list of numbers, and no error. -/
structure IntsPost2 (w : World) (l : List Int) (e : Ending) (w' : World) : Prop where
  out : ∃ v, e = .returned (.tuple #[v, .int .i64 0]) ∧ w'.ownsRow w.heap.size 2 1 v l.length (ints l) ∧ Below w.heap.size w w'
/-- The difference set of a prime. -/
def diffL (n : Nat) : List Int := numU (onN (n : Int) (singL n) (1, 0, 0)) (singL n).length
theorem diffL_bd {n : Nat} (hp : prB (n : Int) = true) : 0 < (diffL n).length ∧ (diffL n).length ≤ 1000 := by
  have hb := prB_bd hp
  have h1 := numU_length (onN (n : Int) (singL n) (1, 0, 0)) (singL n).length
  have h2 : n * n ≤ 13 * 13 := Nat.mul_le_mul (by omega) (by omega)
  have h3 := singL_length n
  have h4 : (0 : Int) ∈ diffL n := by
    unfold diffL numU
    refine List.mem_map.2 ⟨0, List.mem_filter.2 ⟨List.mem_range.2 (by omega), ?_⟩, rfl⟩
    unfold onN singL
    rw [orbL_at _ _ _ _ _ (by omega)]
    unfold onB orbA
    simp
  refine ⟨List.length_pos_of_mem h4, ?_⟩
  unfold diffL
  omega
end Go.Proofs.Ytkhaiphipdpgeaa
/- Contracts: the program's and the specification's TranslateSet and TranslateOf. -- numbers -/
namespace Go.Proofs.Ytkhaiphipdpgeaa
open Go.RowKit
set_option linter.unusedVariables false
set_option linter.unusedSimpArgs false
theorem ArgK.toI {w : World} {b : Option Addr} {n : Nat} {l : List Int} (h : ArgK w b n l) : ArgI w b n l := fun h0 => by
  obtain ⟨g, e, h1⟩ := h.out h0
  exact ⟨g, 0, e, h1.out⟩
theorem setB_bd {n : Int} {l : List Int} (h : setB n l = true) : 2 ≤ n ∧ n ≤ 1000 ∧ l.length ≤ 60 ∧ ∀ k ∈ l, 0 ≤ k ∧ k < n := by
  obtain ⟨⟨h1, h2⟩, h3, h4⟩ := setB_yes h
  refine ⟨h1, h2, h3, fun k hk => ?_⟩
  obtain ⟨i, hi, rfl⟩ := List.mem_iff_getElem.1 hk
  have := okB_at h4 hi
  simp [List.getD, hi] at this
  omega
theorem isNumberSet_v (n : Int) (b : Option Addr) (c : Nat) (l : List Int) (w : World) (v : Bool) (hv : setB n l = v) (hl : l.length ≤ 1000000) (hA : ArgK w b l.length l) :
    Calls Try.prog 29 #[.int .i64 n, .slice b l.length c] w (Ret w (.bool v)) := by
  rw [← hv]; exact isNumberSet_any n b l.length c l w rfl hl hA.toI
theorem l10Set_v (n : Int) (b : Option Addr) (c : Nat) (l : List Int) (w : World) (v : Int) (hv : codeS n l = v) (hl : l.length ≤ 1000000) (hA : ArgK w b l.length l) :
    Calls Try.prog 25 #[.int .i64 n, .slice b l.length c] w (Ret w (.int .i64 v)) := by
  rw [← hv]; exact l10Set_any n b l.length c l w rfl hl hA.toI
set_option maxHeartbeats 4000000 in
theorem TranslateSet_impl_yes (n t : Int) (b : Option Addr) (c : Nat) (l : List Int) (w : World) (hs0 : setB n l = true) (t0 : 0 ≤ t) (t2 : t ≤ n - 1) (hP : ArgK w b l.length l) :
    Calls Try.prog 10 #[.int .i64 n, .slice b l.length c, .int .i64 t] w (IntsPost2 w (sortN (movN n 1 t l))) := by
  obtain ⟨n2, n1, hl60, HB⟩ := setB_bd hs0
  have HB := Lib.hid HB
  have hl : l.length ≤ 1000000 := by omega
  go_enter Try.func10, Try.ntmps10
  go_wp2_with (first | (refine wl_load ?_) | (refine wl_store ?_) | (refine wl_build ?_) | (refine wl_slice ?_) | (refine wl_append ?_; intro v' w' ho hg hb; have hs := hg.size; (try simp at hs); (try rw [ptCs_end] at ho); (try rw [ints_end] at ho); (try simp only [Nat.zero_add, Nat.reduceAdd, List.nil_append, List.cons_append] at ho)) | (go_at_call 29; (with_reducible refine (isNumberSet_v n b c l _ true hs0 hl findArg).mono ?_); rintro e w' ⟨rfl, hb⟩; have hl := Link.mk hb; have hs := hb.size; (try simp at hs); clear hb) | (go_at_call 30; (with_reducible refine (within_yes _ _ _ _ t0 t2).mono ?_); rintro e w' ⟨rfl, rfl⟩) | (go_at_call 31; (with_reducible refine (moved_any n 1 t b c l _ n2 n1 (by omega) (by omega) t0 (by omega) HB.out (by omega) findArg).mono ?_); rintro e w' ⟨v, rfl, hO, hb⟩; have hl2 := Link.mk hb; have hs := hb.size; clear hb))
  (apply ret_two Try.results10; (conv => lhs; whnf); (conv => lhs; whnf); exact rfl)
  exact ⟨_, rfl, (hO.rebase (by omega)).out, LowK.out findLow⟩
set_option maxHeartbeats 4000000 in
theorem TranslateSet_impl_no (n t : Int) (b : Option Addr) (c : Nat) (l : List Int) (w : World) (hl : l.length ≤ 1000000) (hno : setB n l = false ∨ t < 0 ∨ n - 1 < t) (hP : ArgK w b l.length l) :
    Calls Try.prog 10 #[.int .i64 n, .slice b l.length c, .int .i64 t] w (Ret w (.tuple #[.slice none 0 0, .int .i64 2])) := by
  rcases hs0 : setB n l with _ | _
  · go_enter Try.func10, Try.ntmps10
    go_wp2_with (first | (refine wl_load ?_) | (refine wl_store ?_) | (refine wl_build ?_) | (refine wl_slice ?_) | (refine wl_append ?_; intro v' w' ho hg hb; have hs := hg.size; (try simp at hs); (try rw [ptCs_end] at ho); (try rw [ints_end] at ho); (try simp only [Nat.zero_add, Nat.reduceAdd, List.nil_append, List.cons_append] at ho)) | (go_at_call 29; (with_reducible refine (isNumberSet_v n b c l _ false hs0 hl findArg).mono ?_); rintro e w' ⟨rfl, hb⟩; have hl := Link.mk hb; have hs := hb.size; (try simp at hs); clear hb))
    (apply ret_two Try.results10; (conv => lhs; whnf); (conv => lhs; whnf); exact rfl)
    exact ret_ret rfl findLow
  · have hr : t < 0 ∨ n - 1 < t := by rcases hno with h | h; (· rw [h] at hs0; cases hs0); exact h
    obtain ⟨n2, n1, hl60, HB⟩ := setB_bd hs0
    have HB := Lib.hid HB
    go_enter Try.func10, Try.ntmps10
    go_wp2_with (first | (refine wl_load ?_) | (refine wl_store ?_) | (refine wl_build ?_) | (refine wl_slice ?_) | (refine wl_append ?_; intro v' w' ho hg hb; have hs := hg.size; (try simp at hs); (try rw [ptCs_end] at ho); (try rw [ints_end] at ho); (try simp only [Nat.zero_add, Nat.reduceAdd, List.nil_append, List.cons_append] at ho)) | (go_at_call 29; (with_reducible refine (isNumberSet_v n b c l _ true hs0 hl findArg).mono ?_); rintro e w' ⟨rfl, hb⟩; have hl := Link.mk hb; have hs := hb.size; (try simp at hs); clear hb) | (go_at_call 30; (with_reducible refine (within_no _ _ _ _ hr).mono ?_); rintro e w' ⟨rfl, rfl⟩))
    (apply ret_two Try.results10; (conv => lhs; whnf); (conv => lhs; whnf); exact rfl)
    exact ret_ret rfl findLow
set_option maxHeartbeats 4000000 in
theorem TranslateSet_spec_yes (n t : Int) (b : Option Addr) (c : Nat) (l : List Int) (w : World) (hs0 : setB n l = true) (t0 : 0 ≤ t) (t2 : t ≤ n - 1) (hP : ArgK w b l.length l) :
    Calls Try.prog 8 #[.int .i64 n, .slice b l.length c, .int .i64 t] w (IntsPost2 w (sortN (movN n 1 t l))) := by
  obtain ⟨n2, n1, hl60, HB⟩ := setB_bd hs0
  have HB := Lib.hid HB
  have hl : l.length ≤ 1000000 := by omega
  have hc0 : codeS n l = 0 := by unfold codeS; rw [hs0]; rfl
  go_enter Try.func8, Try.ntmps8
  go_wp2_with (first | (refine wl_load ?_) | (refine wl_store ?_) | (refine wl_build ?_) | (refine wl_slice ?_) | (refine wl_append ?_; intro v' w' ho hg hb; have hs := hg.size; (try simp at hs); (try rw [ptCs_end] at ho); (try rw [ints_end] at ho); (try simp only [Nat.zero_add, Nat.reduceAdd, List.nil_append, List.cons_append] at ho)) | (go_at_call 25; (with_reducible refine (l10Set_v n b c l _ 0 hc0 hl findArg).mono ?_); rintro e w' ⟨rfl, hb⟩; have hl := Link.mk hb; have hs := hb.size; (try simp at hs); clear hb) | (go_at_call 26; (with_reducible refine (in_yes _ _ _ _ t0 t2).mono ?_); rintro e w' ⟨rfl, hb⟩; have hl := Link.mk hb; have hs := hb.size; (try simp at hs); clear hb) | (go_at_call 27; (with_reducible refine (l10Moved_any n 1 t b c l _ n2 n1 (by omega) (by omega) t0 (by omega) HB.out (by omega) findArg).mono ?_); rintro e w' ⟨v, rfl, hO, hb⟩; have hl2 := Link.mk hb; have hs := hb.size; clear hb))
  (apply ret_two Try.results8; (conv => lhs; whnf); (conv => lhs; whnf); exact rfl)
  exact ⟨_, rfl, (hO.rebase (by omega)).out, LowK.out findLow⟩
set_option maxHeartbeats 4000000 in
theorem TranslateSet_spec_no (n t : Int) (b : Option Addr) (c : Nat) (l : List Int) (w : World) (hl : l.length ≤ 1000000) (hno : setB n l = false ∨ t < 0 ∨ n - 1 < t) (hP : ArgK w b l.length l) :
    Calls Try.prog 8 #[.int .i64 n, .slice b l.length c, .int .i64 t] w (Ret w (.tuple #[.slice none 0 0, .int .i64 2])) := by
  rcases hs0 : setB n l with _ | _
  · have hc0 : codeS n l = 2 := by unfold codeS; rw [hs0]; rfl
    go_enter Try.func8, Try.ntmps8
    go_wp2_with (first | (refine wl_load ?_) | (refine wl_store ?_) | (refine wl_build ?_) | (refine wl_slice ?_) | (refine wl_append ?_; intro v' w' ho hg hb; have hs := hg.size; (try simp at hs); (try rw [ptCs_end] at ho); (try rw [ints_end] at ho); (try simp only [Nat.zero_add, Nat.reduceAdd, List.nil_append, List.cons_append] at ho)) | (go_at_call 25; (with_reducible refine (l10Set_v n b c l _ 2 hc0 hl findArg).mono ?_); rintro e w' ⟨rfl, hb⟩; have hl := Link.mk hb; have hs := hb.size; (try simp at hs); clear hb))
    (apply ret_two Try.results8; (conv => lhs; whnf); (conv => lhs; whnf); exact rfl)
    exact ret_ret rfl findLow
  · have hr : t < 0 ∨ n - 1 < t := by rcases hno with h | h; (· rw [h] at hs0; cases hs0); exact h
    obtain ⟨n2, n1, hl60, HB⟩ := setB_bd hs0
    have HB := Lib.hid HB
    have hc0 : codeS n l = 0 := by unfold codeS; rw [hs0]; rfl
    go_enter Try.func8, Try.ntmps8
    go_wp2_with (first | (refine wl_load ?_) | (refine wl_store ?_) | (refine wl_build ?_) | (refine wl_slice ?_) | (refine wl_append ?_; intro v' w' ho hg hb; have hs := hg.size; (try simp at hs); (try rw [ptCs_end] at ho); (try rw [ints_end] at ho); (try simp only [Nat.zero_add, Nat.reduceAdd, List.nil_append, List.cons_append] at ho)) | (go_at_call 25; (with_reducible refine (l10Set_v n b c l _ 0 hc0 hl findArg).mono ?_); rintro e w' ⟨rfl, hb⟩; have hl := Link.mk hb; have hs := hb.size; (try simp at hs); clear hb) | (go_at_call 26; (with_reducible refine (in_no _ _ _ _ hr).mono ?_); rintro e w' ⟨rfl, hb⟩; have hl := Link.mk hb; have hs := hb.size; (try simp at hs); clear hb))
    (apply ret_two Try.results8; (conv => lhs; whnf); (conv => lhs; whnf); exact rfl)
    exact ret_ret rfl findLow
theorem shiftO (v : Value) (n m : Int) (b : Option Addr) (c : Nat) (l : List Int) (w : World) (n2 : 2 ≤ n) (n1 : n ≤ 1000) (m0 : 0 ≤ m) (m1 : m < n) (hb : ∀ k ∈ l, 0 ≤ k ∧ k < n) (hl : l.length ≤ 1000) (hP : ArgK w b l.length l) (hv : Value.int .i64 (shiftI n m l) = v) :
    Calls Try.prog 33 #[.int .i64 n, .slice b l.length c, .int .i64 m] w (Ret w v) := by rw [← hv]; exact translateOf_any n m b c l w n2 n1 m0 m1 hb hl hP
theorem shiftO2 (v : Value) (n m : Int) (b : Option Addr) (c : Nat) (l : List Int) (w : World) (n2 : 2 ≤ n) (n1 : n ≤ 1000) (m0 : 0 ≤ m) (m1 : m < n) (hb : ∀ k ∈ l, 0 ≤ k ∧ k < n) (hl : l.length ≤ 1000) (hP : ArgK w b l.length l) (hv : shiftV n m l = v) :
    Calls Try.prog 32 #[.int .i64 n, .slice b l.length c, .int .i64 m] w (Ret w v) := by rw [← hv]; exact l10Shift_any n m b c l w n2 n1 m0 m1 hb hl hP
/-- What TranslateOf answers. -/
def trO (n m : Int) (l : List Int) : Value := if setB n l = true ∧ 1 ≤ m ∧ m ≤ n - 1 then (if 0 ≤ shiftI n m l then .tuple #[.int .i64 (shiftI n m l), .int .i64 0] else .tuple #[.int .i64 0, .int .i64 4]) else .tuple #[.int .i64 0, .int .i64 2]
set_option maxHeartbeats 4000000 in
theorem TranslateOf_impl (n m : Int) (b : Option Addr) (c : Nat) (l : List Int) (w : World) (hl : l.length ≤ 1000000) (hP : ArgK w b l.length l) :
    Calls Try.prog 16 #[.int .i64 n, .slice b l.length c, .int .i64 m] w (Ret w (trO n m l)) := by
  rcases hs0 : setB n l with _ | _
  · have hv : trO n m l = .tuple #[.int .i64 0, .int .i64 2] := by unfold trO; rw [if_neg (by simp [hs0])]
    rw [hv]
    go_enter Try.func16, Try.ntmps16
    go_wp2_with (first | (refine wl_load ?_) | (refine wl_store ?_) | (refine wl_build ?_) | (refine wl_slice ?_) | (refine wl_append ?_; intro v' w' ho hg hb; have hs := hg.size; (try simp at hs); (try rw [ptCs_end] at ho); (try rw [ints_end] at ho); (try simp only [Nat.zero_add, Nat.reduceAdd, List.nil_append, List.cons_append] at ho)) | (go_at_call 29; (with_reducible refine (isNumberSet_v n b c l _ false hs0 hl findArg).mono ?_); rintro e w' ⟨rfl, hb⟩; have hl := Link.mk hb; have hs := hb.size; (try simp at hs); clear hb))
    (apply ret_two Try.results16; (conv => lhs; whnf); (conv => lhs; whnf); exact rfl)
    exact ret_ret rfl findLow
  · obtain ⟨n2, n1, hl60, HB⟩ := setB_bd hs0
    have HB := Lib.hid HB
    by_cases hr' : 1 ≤ m ∧ m ≤ n - 1
    · obtain ⟨t0, t2⟩ := hr'
      by_cases h0 : 0 ≤ shiftI n m l
      · have hv : trO n m l = .tuple #[.int .i64 (shiftI n m l), .int .i64 0] := by unfold trO; rw [if_pos ⟨hs0, t0, t2⟩, if_pos h0]
        rw [hv]
        have hz : Value.int .i64 (shiftI n m l) = .int .i64 (shiftI n m l) := rfl
        obtain ⟨z, hz0⟩ : ∃ z, shiftI n m l = z := ⟨_, rfl⟩
        rw [hz0] at h0 ⊢
        rw [hz0] at hz
        clear hz
        have hz : Hid (Value.int .i64 (shiftI n m l) = .int .i64 z) := Lib.hid (by rw [hz0])
        clear hz0
        go_enter Try.func16, Try.ntmps16
        go_wp2_with (first | (refine wl_load ?_) | (refine wl_store ?_) | (refine wl_build ?_) | (refine wl_slice ?_) | (refine wl_append ?_; intro v' w' ho hg hb; have hs := hg.size; (try simp at hs); (try rw [ptCs_end] at ho); (try rw [ints_end] at ho); (try simp only [Nat.zero_add, Nat.reduceAdd, List.nil_append, List.cons_append] at ho)) | (go_at_call 29; (with_reducible refine (isNumberSet_v n b c l _ true hs0 hl findArg).mono ?_); rintro e w' ⟨rfl, hb⟩; have hl := Link.mk hb; have hs := hb.size; (try simp at hs); clear hb) | (go_at_call 30; (with_reducible refine (within_yes _ _ _ _ t0 t2).mono ?_); rintro e w' ⟨rfl, rfl⟩) | (go_at_call 33; (with_reducible refine (shiftO _ n m b c l _ n2 n1 (by omega) (by omega) HB.out (by omega) findArg hz.out).mono ?_); rintro e w' ⟨rfl, hb⟩; have hl := Link.mk hb; have hs := hb.size; (try simp at hs); clear hb))
        (apply ret_two Try.results16; (conv => lhs; whnf); (conv => lhs; whnf); exact rfl)
        exact ret_ret rfl findLow
      · have hv : trO n m l = .tuple #[.int .i64 0, .int .i64 4] := by unfold trO; rw [if_pos ⟨hs0, t0, t2⟩, if_neg h0]
        rw [hv]
        have hz : Value.int .i64 (shiftI n m l) = .int .i64 (shiftI n m l) := rfl
        obtain ⟨z, hz0⟩ : ∃ z, shiftI n m l = z := ⟨_, rfl⟩
        rw [hz0] at h0
        clear hz
        have hz : Hid (Value.int .i64 (shiftI n m l) = .int .i64 z) := Lib.hid (by rw [hz0])
        clear hz0
        go_enter Try.func16, Try.ntmps16
        go_wp2_with (first | (refine wl_load ?_) | (refine wl_store ?_) | (refine wl_build ?_) | (refine wl_slice ?_) | (refine wl_append ?_; intro v' w' ho hg hb; have hs := hg.size; (try simp at hs); (try rw [ptCs_end] at ho); (try rw [ints_end] at ho); (try simp only [Nat.zero_add, Nat.reduceAdd, List.nil_append, List.cons_append] at ho)) | (go_at_call 29; (with_reducible refine (isNumberSet_v n b c l _ true hs0 hl findArg).mono ?_); rintro e w' ⟨rfl, hb⟩; have hl := Link.mk hb; have hs := hb.size; (try simp at hs); clear hb) | (go_at_call 30; (with_reducible refine (within_yes _ _ _ _ t0 t2).mono ?_); rintro e w' ⟨rfl, rfl⟩) | (go_at_call 33; (with_reducible refine (shiftO _ n m b c l _ n2 n1 (by omega) (by omega) HB.out (by omega) findArg hz.out).mono ?_); rintro e w' ⟨rfl, hb⟩; have hl := Link.mk hb; have hs := hb.size; (try simp at hs); clear hb))
        (apply ret_two Try.results16; (conv => lhs; whnf); (conv => lhs; whnf); exact rfl)
        exact ret_ret rfl findLow
    · have hr : m < 1 ∨ n - 1 < m := by omega
      have hv : trO n m l = .tuple #[.int .i64 0, .int .i64 2] := by unfold trO; rw [if_neg (by omega)]
      rw [hv]
      go_enter Try.func16, Try.ntmps16
      go_wp2_with (first | (refine wl_load ?_) | (refine wl_store ?_) | (refine wl_build ?_) | (refine wl_slice ?_) | (refine wl_append ?_; intro v' w' ho hg hb; have hs := hg.size; (try simp at hs); (try rw [ptCs_end] at ho); (try rw [ints_end] at ho); (try simp only [Nat.zero_add, Nat.reduceAdd, List.nil_append, List.cons_append] at ho)) | (go_at_call 29; (with_reducible refine (isNumberSet_v n b c l _ true hs0 hl findArg).mono ?_); rintro e w' ⟨rfl, hb⟩; have hl := Link.mk hb; have hs := hb.size; (try simp at hs); clear hb) | (go_at_call 30; (with_reducible refine (within_no _ _ _ _ hr).mono ?_); rintro e w' ⟨rfl, rfl⟩))
      (apply ret_two Try.results16; (conv => lhs; whnf); (conv => lhs; whnf); exact rfl)
      exact ret_ret rfl findLow
set_option maxHeartbeats 4000000 in
theorem TranslateOf_spec (n m : Int) (b : Option Addr) (c : Nat) (l : List Int) (w : World) (hl : l.length ≤ 1000000) (hP : ArgK w b l.length l) :
    Calls Try.prog 15 #[.int .i64 n, .slice b l.length c, .int .i64 m] w (Ret w (trO n m l)) := by
  rcases hs0 : setB n l with _ | _
  · have hc0 : codeS n l = 2 := by unfold codeS; rw [hs0]; rfl
    have hv : trO n m l = .tuple #[.int .i64 0, .int .i64 2] := by unfold trO; rw [if_neg (by simp [hs0])]
    rw [hv]
    go_enter Try.func15, Try.ntmps15
    go_wp2_with (first | (refine wl_load ?_) | (refine wl_store ?_) | (refine wl_build ?_) | (refine wl_slice ?_) | (refine wl_append ?_; intro v' w' ho hg hb; have hs := hg.size; (try simp at hs); (try rw [ptCs_end] at ho); (try rw [ints_end] at ho); (try simp only [Nat.zero_add, Nat.reduceAdd, List.nil_append, List.cons_append] at ho)) | (go_at_call 25; (with_reducible refine (l10Set_v n b c l _ 2 hc0 hl findArg).mono ?_); rintro e w' ⟨rfl, hb⟩; have hl := Link.mk hb; have hs := hb.size; (try simp at hs); clear hb))
    (apply ret_two Try.results15; (conv => lhs; whnf); (conv => lhs; whnf); exact rfl)
    exact ret_ret rfl findLow
  · obtain ⟨n2, n1, hl60, HB⟩ := setB_bd hs0
    have HB := Lib.hid HB
    have hc0 : codeS n l = 0 := by unfold codeS; rw [hs0]; rfl
    by_cases hr' : 1 ≤ m ∧ m ≤ n - 1
    · obtain ⟨t0, t2⟩ := hr'
      by_cases h0 : 0 ≤ shiftI n m l
      · have hv : trO n m l = .tuple #[.int .i64 (shiftI n m l), .int .i64 0] := by unfold trO; rw [if_pos ⟨hs0, t0, t2⟩, if_pos h0]
        rw [hv]
        have hz : shiftV n m l = .tuple #[.int .i64 (shiftI n m l), .bool true] := by unfold shiftV; rw [if_pos h0]
        generalize shiftI n m l = z at *
        go_enter Try.func15, Try.ntmps15
        go_wp2_with (first | (refine wl_load ?_) | (refine wl_store ?_) | (refine wl_build ?_) | (refine wl_slice ?_) | (refine wl_append ?_; intro v' w' ho hg hb; have hs := hg.size; (try simp at hs); (try rw [ptCs_end] at ho); (try rw [ints_end] at ho); (try simp only [Nat.zero_add, Nat.reduceAdd, List.nil_append, List.cons_append] at ho)) | (go_at_call 25; (with_reducible refine (l10Set_v n b c l _ 0 hc0 hl findArg).mono ?_); rintro e w' ⟨rfl, hb⟩; have hl := Link.mk hb; have hs := hb.size; (try simp at hs); clear hb) | (go_at_call 26; (with_reducible refine (in_yes _ _ _ _ t0 t2).mono ?_); rintro e w' ⟨rfl, hb⟩; have hl := Link.mk hb; have hs := hb.size; (try simp at hs); clear hb) | (go_at_call 32; (with_reducible refine (shiftO2 _ n m b c l _ n2 n1 (by omega) (by omega) HB.out (by omega) findArg hz).mono ?_); rintro e w' ⟨rfl, hb⟩; have hl := Link.mk hb; have hs := hb.size; (try simp at hs); clear hb))
        (apply ret_two Try.results15; (conv => lhs; whnf); (conv => lhs; whnf); exact rfl)
        exact ret_ret rfl findLow
      · have hv : trO n m l = .tuple #[.int .i64 0, .int .i64 4] := by unfold trO; rw [if_pos ⟨hs0, t0, t2⟩, if_neg h0]
        rw [hv]
        have hz : shiftV n m l = .tuple #[.int .i64 0, .bool false] := by unfold shiftV; rw [if_neg h0]
        generalize shiftI n m l = z at *
        go_enter Try.func15, Try.ntmps15
        go_wp2_with (first | (refine wl_load ?_) | (refine wl_store ?_) | (refine wl_build ?_) | (refine wl_slice ?_) | (refine wl_append ?_; intro v' w' ho hg hb; have hs := hg.size; (try simp at hs); (try rw [ptCs_end] at ho); (try rw [ints_end] at ho); (try simp only [Nat.zero_add, Nat.reduceAdd, List.nil_append, List.cons_append] at ho)) | (go_at_call 25; (with_reducible refine (l10Set_v n b c l _ 0 hc0 hl findArg).mono ?_); rintro e w' ⟨rfl, hb⟩; have hl := Link.mk hb; have hs := hb.size; (try simp at hs); clear hb) | (go_at_call 26; (with_reducible refine (in_yes _ _ _ _ t0 t2).mono ?_); rintro e w' ⟨rfl, hb⟩; have hl := Link.mk hb; have hs := hb.size; (try simp at hs); clear hb) | (go_at_call 32; (with_reducible refine (shiftO2 _ n m b c l _ n2 n1 (by omega) (by omega) HB.out (by omega) findArg hz).mono ?_); rintro e w' ⟨rfl, hb⟩; have hl := Link.mk hb; have hs := hb.size; (try simp at hs); clear hb))
        (apply ret_two Try.results15; (conv => lhs; whnf); (conv => lhs; whnf); exact rfl)
        exact ret_ret rfl findLow
    · have hr : m < 1 ∨ n - 1 < m := by omega
      have hv : trO n m l = .tuple #[.int .i64 0, .int .i64 2] := by unfold trO; rw [if_neg (by omega)]
      rw [hv]
      go_enter Try.func15, Try.ntmps15
      go_wp2_with (first | (refine wl_load ?_) | (refine wl_store ?_) | (refine wl_build ?_) | (refine wl_slice ?_) | (refine wl_append ?_; intro v' w' ho hg hb; have hs := hg.size; (try simp at hs); (try rw [ptCs_end] at ho); (try rw [ints_end] at ho); (try simp only [Nat.zero_add, Nat.reduceAdd, List.nil_append, List.cons_append] at ho)) | (go_at_call 25; (with_reducible refine (l10Set_v n b c l _ 0 hc0 hl findArg).mono ?_); rintro e w' ⟨rfl, hb⟩; have hl := Link.mk hb; have hs := hb.size; (try simp at hs); clear hb) | (go_at_call 26; (with_reducible refine (in_no _ _ _ _ hr).mono ?_); rintro e w' ⟨rfl, hb⟩; have hl := Link.mk hb; have hs := hb.size; (try simp at hs); clear hb))
      (apply ret_two Try.results15; (conv => lhs; whnf); (conv => lhs; whnf); exact rfl)
      exact ret_ret rfl findLow
end Go.Proofs.Ytkhaiphipdpgeaa
/- Contracts: whether a set is a difference set: the reference. -/
namespace Go.Proofs.Ytkhaiphipdpgeaa
open Go.RowKit
set_option linter.unusedVariables false
set_option linter.unusedSimpArgs false
theorem diffR_no {n : Int} {l : List Int} (h : setB n l = false) : diffR n l = (false, 2) := by unfold diffR; rw [h]; rfl
theorem diffR_yes {n : Int} {l : List Int} (h : setB n l = true) : diffR n l = (onesB (cntC n l l.length), 0) := by unfold diffR; rw [h]; rfl
theorem dif_bd {n : Int} (h : 2 ≤ n) (l : List Int) (i k : Nat) : (dif n l i k : Int) = (l.getD i 0 - l.getD k 0) % n ∧ dif n l i k < n.toNat := by
  have h0 := Int.emod_nonneg (l.getD i 0 - l.getD k 0) (show n ≠ 0 by omega)
  have h1 := Int.emod_lt_of_pos (l.getD i 0 - l.getD k 0) (show 0 < n by omega)
  unfold dif
  omega
theorem ArgI.cells {w : World} {b : Option Addr} {n : Nat} {l : List Int} (h : ArgI w b n l) (hn : 0 < n) : ∃ g off, b = some ⟨g, off, none⟩ ∧ g < w.heap.size ∧ IntsAt w g off n l := by
  obtain ⟨g, off, e, hp⟩ := h hn
  exact ⟨g, off, e, World.block_lt_of_cell? w _ (hp 0 hn), hp⟩
end Go.Proofs.Ytkhaiphipdpgeaa
/- Contracts: whether a set is a difference set: the program. -/
namespace Go.Proofs.Ytkhaiphipdpgeaa
open Go.RowKit
set_option linter.unusedVariables false
set_option linter.unusedSimpArgs false
theorem infoJ : (Try.prog.info? 3).map (fun i => (i.zero, i.size, i.bytes)) = some (some (.int .i64 0), 1, 8) := by kernel_rfl
/-- The place of the first number but 1. -/
structure OnesPost (C : List Int) (w : World) (e : Ending) (w' : World) : Prop where
  out : (∃ v : Int, e = .returned (.int .i64 v) ∧ ((v = -1 ∧ onesB C = true) ∨ (0 ≤ v ∧ onesB C = false))) ∧ w = w'
end Go.Proofs.Ytkhaiphipdpgeaa
/- The law FnExactIsDifferenceSet: walked. -/
namespace Go.Proofs.Ytkhaiphipdpgeaa
open Go.RowKit
set_option linter.unusedVariables false
set_option linter.unusedSimpArgs false
structure LaidK (w : World) (k : Nat) (l : List Int) (e : Ending) (w' : World) : Prop where
  out : ∃ g, e = .returned (.slice (some ⟨g, 0, none⟩) k (k + roomN k)) ∧ w.heap.size ≤ g ∧ g < w'.heap.size ∧ RoomI w' g (k + roomN k) 2 ∧ IntsAt w' g 0 (k + roomN k) (withRoomI l) ∧ Below w.heap.size w w'
theorem toInt64S_k (b : Option Addr) (k cap : Nat) (bare : Bool) (l : List Int) (w : World) (hl : l.length = k) (hn : k ≤ 1000000) (hb : bare = false ∨ 0 < k) (hc : ArgI w b k l) :
    Calls Try.prog 9 #[.slice b k cap, .bool bare] w (LaidK w k l) := by
  subst hl
  exact (toInt64S_any b l.length cap bare l w rfl hn hb hc).mono fun e w' ⟨g, he, h1, h2, h3, h4⟩ => ⟨g, he, h1, h2.lt, h2, h3, h4⟩
theorem toInt64S_zero (b : Option Addr) (k cap : Nat) (w : World) (hk : k = 0) : Calls Try.prog 9 #[.slice b k cap, .bool true] w fun e w' => e = .returned (.slice none 0 0) ∧ w = w' := by
  subst hk; exact toInt64S_nil cap b w
theorem laid_arg {w' : World} {g k : Nat} {l : List Int} (hl : l.length = k) (h : IntsAt w' g 0 (k + roomN k) (withRoomI l)) : ArgI w' (some ⟨g, 0, none⟩) k l := by
  subst hl
  exact fun _ => ⟨g, 0, rfl, fun i hi => by rw [h i (by omega), withRoomI_at l i hi]⟩
end Go.Proofs.Ytkhaiphipdpgeaa
/- The law FnExactTranslateOf: walked. -/
namespace Go.Proofs.Ytkhaiphipdpgeaa
open Go.RowKit
set_option linter.unusedVariables false
set_option linter.unusedSimpArgs false
theorem laid_argK {w' : World} {g k : Nat} {l : List Int} (hl : l.length = k) (h : IntsAt w' g 0 (k + roomN k) (withRoomI l)) : ArgK w' (some ⟨g, 0, none⟩) k l := by
  subst hl
  exact ⟨fun _ => ⟨g, rfl, ⟨fun i hi => by rw [h i (by omega), withRoomI_at l i hi]⟩⟩⟩
theorem trO_two (n m : Int) (l : List Int) : ∃ o c : Int, trO n m l = .tuple #[.int .i64 o, .int .i64 c] := by
  unfold trO
  split
  · split
    · exact ⟨_, _, rfl⟩
    · exact ⟨_, _, rfl⟩
  · exact ⟨_, _, rfl⟩
theorem TranslateOf_specK (n m : Int) (b : Option Addr) (k cap : Nat) (l : List Int) (W : World) (v : Value) (hr : trO n m l = v) (hl : l.length = k) (hk : k ≤ 1000000) (h : ArgK W b k l) :
    Calls Try.prog 15 #[.int .i64 n, .slice b k cap, .int .i64 m] W (Ret W v) := by
  subst hl; rw [← hr]; exact TranslateOf_spec n m b cap l W hk h
theorem TranslateOf_implK (n m : Int) (b : Option Addr) (k cap : Nat) (l : List Int) (W : World) (v : Value) (hr : trO n m l = v) (hl : l.length = k) (hk : k ≤ 1000000) (h : ArgK W b k l) :
    Calls Try.prog 16 #[.int .i64 n, .slice b k cap, .int .i64 m] W (Ret W v) := by
  subst hl; rw [← hr]; exact TranslateOf_impl n m b cap l W hk h
set_option maxHeartbeats 4000000 in
theorem FnExactTranslateOf_big (n m : Int) (b : Option Addr) (k cap : Nat) (w : World) (hk : 1000000 < k) :
    Calls Try.prog 4 #[.int .i64 n, .slice b k cap, .int .i64 m] w (Ret w (.bool true)) := by
  have hz : (1000000 : Int) < (k : Int) := by omega
  go_enter Try.func4, Try.ntmps4
  go_wp2
  go_ret
  exact ⟨rfl, Below.refl _ _⟩
set_option maxHeartbeats 4000000 in
theorem FnExactTranslateOf_pos (n m : Int) (b : Option Addr) (k cap : Nat) (l : List Int) (w : World) (hl : l.length = k) (hk : k ≤ 1000000) (hc : ArgI w b k l) (h0 : 0 < k) :
    Calls Try.prog 4 #[.int .i64 n, .slice b k cap, .int .i64 m] w (Ret w (.bool true)) := by
  obtain ⟨o, c, hr⟩ := trO_two n m l
  have HT := Lib.hid (fun (W : World) (hW : Below w.heap.size w W) => toInt64S_k b k cap false l W hl hk (.inl rfl) (hc.below hW))
  have HU := Lib.hid (fun (W : World) (hW : Below w.heap.size w W) => toInt64S_k b k cap true l W hl hk (.inr h0) (hc.below hW))
  have hk0 : ((k : Int) == 0) = false := beqf (by omega)
  have HS := Lib.hid (fun (W : World) (g cap : Nat) (h : ArgK W (some ⟨g, 0, none⟩) k l) => TranslateOf_specK n m (some ⟨g, 0, none⟩) k cap l W _ hr hl hk h)
  have HI := Lib.hid (fun (W : World) (b : Option Addr) (cap : Nat) (h : ArgK W b k l) => TranslateOf_implK n m b k cap l W _ hr hl hk h)
  have HN := Lib.hid (fun (W : World) (g g2 : Nat) h1 h2 => intactInt64S_same g g2 k (withRoomI l) W hk h1 h2)
  have HL := Lib.hid hl
  have hz : ¬ (1000000 : Int) < (k : Int) := by omega
  have tok1 : True := trivial
  have tok2 : True := trivial
  have tok3 : True := trivial
  have tok4 : True := trivial
  have tok5 : True := trivial
  have tok6 : True := trivial
  have tok7 : True := trivial
  have tok8 : True := trivial
  clear hc hl hr
  go_enter Try.func4, Try.ntmps4
  go_wp2_with (first
    | (have _t := tok1; go_at_call 9; (with_reducible refine (HT.out _ (Below.refl _ _)).mono ?_); rintro e w1_ ⟨g1, rfl, hg1, hgl1, hr1, hp1, hb1⟩; have hsz1 := hb1.size; have HB1 := Lib.hid hb1; have HP1 := Lib.hid hp1; clear hr1 hp1 hb1 tok1)
    | (have _t := tok2; go_at_call 15; (with_reducible refine (HS.out _ _ _ (laid_argK HL.out HP1.out)).mono ?_); rintro e w2_ ⟨rfl, hb2⟩; have hsz2 := hb2.size; have HB2 := Lib.hid hb2; clear hb2 tok2)
    | (have _t := tok3; go_at_call 9; (with_reducible refine (HT.out _ (by refine low_tr' ?_ HB2.out (by omega); refine low_tr' ?_ HB1.out (by omega); exact Below.refl _ _)).mono ?_); rintro e w3_ ⟨g3, rfl, hg3, hgl3, hr3, hp3, hb3⟩; have hsz3 := hb3.size; have HB3 := Lib.hid hb3; have HP3 := Lib.hid hp3; clear hr3 hp3 hb3 tok3)
    | (have _t := tok4; go_at_call 16; (with_reducible refine (HI.out _ _ _ (laid_argK HL.out HP3.out)).mono ?_); rintro e w4_ ⟨rfl, hb4⟩; have hsz4 := hb4.size; have HB4 := Lib.hid hb4; clear hb4 tok4)
    | (have _t := tok5; go_at_call 9; (with_reducible refine (HT.out _ (by refine low_tr' ?_ HB4.out (by omega); refine low_tr' ?_ HB3.out (by omega); refine low_tr' ?_ HB2.out (by omega); refine low_tr' ?_ HB1.out (by omega); exact Below.refl _ _)).mono ?_); rintro e w5_ ⟨g5, rfl, hg5, hgl5, hr5, hp5, hb5⟩; have hsz5 := hb5.size; have HB5 := Lib.hid hb5; have HP5 := Lib.hid hp5; clear hr5 hp5 hb5 tok5)
    | (have _t := tok6; go_at_call 12; (with_reducible refine (HN.out _ _ _ ((HP3.out.below HB4.out).below HB5.out) HP5.out).mono ?_); rintro e w6_ ⟨rfl, hb6⟩; have hsz6 := hb6.size; have HB6 := Lib.hid hb6; clear hb6 tok6)
    | (have _t := tok7; go_at_call 9; (with_reducible refine (HU.out _ (low_tr' (low_tr' (low_tr' (low_tr' (low_tr' (low_tr' (Below.refl _ _) HB1.out (by omega)) HB2.out (by omega)) HB3.out (by omega)) HB4.out (by omega)) HB5.out (by omega)) HB6.out (by omega))).mono ?_); rintro e w7_ ⟨g7, rfl, hg7, hgl7, hr7, hp7, hb7⟩; have hsz7 := hb7.size; have HB7 := Lib.hid hb7; have HP7 := Lib.hid hp7; clear hr7 hp7 hb7 tok7)
    | (have _t := tok8; go_at_call 16; (with_reducible refine (HI.out _ _ _ (laid_argK HL.out HP7.out)).mono ?_); rintro e w8_ ⟨rfl, hb8⟩; have hsz8 := hb8.size; have HB8 := Lib.hid hb8; clear hb8 tok8))
  go_ret
  exact ⟨rfl, low_tr' (low_tr' (low_tr' (low_tr' (low_tr' (low_tr' (low_tr' (low_tr' (Below.refl _ _) HB1.out (by omega)) HB2.out (by omega)) HB3.out (by omega)) HB4.out (by omega)) HB5.out (by omega)) HB6.out (by omega)) HB7.out (by omega)) HB8.out (by omega)⟩
set_option maxHeartbeats 4000000 in
theorem FnExactTranslateOf_zero (n m : Int) (b : Option Addr) (k cap : Nat) (l : List Int) (w : World) (hl : l.length = k) (hk : k ≤ 1000000) (hc : ArgI w b k l) (h0 : k = 0) :
    Calls Try.prog 4 #[.int .i64 n, .slice b k cap, .int .i64 m] w (Ret w (.bool true)) := by
  have hk0 : ((k : Int) == 0) = true := by simp [h0]
  obtain ⟨o, c, hr⟩ := trO_two n m l
  have HT := Lib.hid (fun (W : World) (hW : Below w.heap.size w W) => toInt64S_k b k cap false l W hl hk (.inl rfl) (hc.below hW))
  have HS := Lib.hid (fun (W : World) (g cap : Nat) (h : ArgK W (some ⟨g, 0, none⟩) k l) => TranslateOf_specK n m (some ⟨g, 0, none⟩) k cap l W _ hr hl hk h)
  have HI := Lib.hid (fun (W : World) (b : Option Addr) (cap : Nat) (h : ArgK W b k l) => TranslateOf_implK n m b k cap l W _ hr hl hk h)
  have HU := Lib.hid (fun (W : World) => toInt64S_zero b k cap W h0)
  have HI0 := Lib.hid (fun (W : World) => TranslateOf_implK n m none 0 0 l W _ hr (by omega) (by omega) ⟨fun h => absurd h (Nat.lt_irrefl _)⟩)
  have HN := Lib.hid (fun (W : World) (g g2 : Nat) h1 h2 => intactInt64S_same g g2 k (withRoomI l) W hk h1 h2)
  have HL := Lib.hid hl
  have hz : ¬ (1000000 : Int) < (k : Int) := by omega
  have tok1 : True := trivial
  have tok2 : True := trivial
  have tok3 : True := trivial
  have tok4 : True := trivial
  have tok5 : True := trivial
  have tok6 : True := trivial
  have tok7 : True := trivial
  have tok8 : True := trivial
  clear hc hl h0 hr
  go_enter Try.func4, Try.ntmps4
  go_wp2_with (first
    | (have _t := tok1; go_at_call 9; (with_reducible refine (HT.out _ (Below.refl _ _)).mono ?_); rintro e w1_ ⟨g1, rfl, hg1, hgl1, hr1, hp1, hb1⟩; have hsz1 := hb1.size; have HB1 := Lib.hid hb1; have HP1 := Lib.hid hp1; clear hr1 hp1 hb1 tok1)
    | (have _t := tok2; go_at_call 15; (with_reducible refine (HS.out _ _ _ (laid_argK HL.out HP1.out)).mono ?_); rintro e w2_ ⟨rfl, hb2⟩; have hsz2 := hb2.size; have HB2 := Lib.hid hb2; clear hb2 tok2)
    | (have _t := tok3; go_at_call 9; (with_reducible refine (HT.out _ (by refine low_tr' ?_ HB2.out (by omega); refine low_tr' ?_ HB1.out (by omega); exact Below.refl _ _)).mono ?_); rintro e w3_ ⟨g3, rfl, hg3, hgl3, hr3, hp3, hb3⟩; have hsz3 := hb3.size; have HB3 := Lib.hid hb3; have HP3 := Lib.hid hp3; clear hr3 hp3 hb3 tok3)
    | (have _t := tok4; go_at_call 16; (with_reducible refine (HI.out _ _ _ (laid_argK HL.out HP3.out)).mono ?_); rintro e w4_ ⟨rfl, hb4⟩; have hsz4 := hb4.size; have HB4 := Lib.hid hb4; clear hb4 tok4)
    | (have _t := tok5; go_at_call 9; (with_reducible refine (HT.out _ (by refine low_tr' ?_ HB4.out (by omega); refine low_tr' ?_ HB3.out (by omega); refine low_tr' ?_ HB2.out (by omega); refine low_tr' ?_ HB1.out (by omega); exact Below.refl _ _)).mono ?_); rintro e w5_ ⟨g5, rfl, hg5, hgl5, hr5, hp5, hb5⟩; have hsz5 := hb5.size; have HB5 := Lib.hid hb5; have HP5 := Lib.hid hp5; clear hr5 hp5 hb5 tok5)
    | (have _t := tok6; go_at_call 12; (with_reducible refine (HN.out _ _ _ ((HP3.out.below HB4.out).below HB5.out) HP5.out).mono ?_); rintro e w6_ ⟨rfl, hb6⟩; have hsz6 := hb6.size; have HB6 := Lib.hid hb6; clear hb6 tok6)
    | (have _t := tok7; go_at_call 9; (with_reducible refine (HU.out _).mono ?_); rintro e w' ⟨rfl, rfl⟩; clear tok7)
    | (have _t := tok8; go_at_call 16; (with_reducible refine (HI0.out _).mono ?_); rintro e w8_ ⟨rfl, hb8⟩; have hsz8 := hb8.size; have HB8 := Lib.hid hb8; clear hb8 tok8))
  go_ret
  exact ⟨rfl, low_tr' (low_tr' (low_tr' (low_tr' (low_tr' (low_tr' (low_tr' (Below.refl _ _) HB1.out (by omega)) HB2.out (by omega)) HB3.out (by omega)) HB4.out (by omega)) HB5.out (by omega)) HB6.out (by omega)) HB8.out (by omega)⟩
theorem FnExactTranslateOf_walk (n : Int) (b : Option Addr) (k cap : Nat) (l : List Int) (m : Int) (w : World) (hl : l.length = k) (hc : ArgI w b k l) :
    Calls Try.prog 4 #[.int .i64 n, .slice b k cap, .int .i64 m] w (Ret w (.bool true)) := by
  rcases Nat.lt_or_ge 1000000 k with h | h
  · exact FnExactTranslateOf_big n m b k cap w h
  · rcases Nat.eq_zero_or_pos k with h0 | h0
    · exact FnExactTranslateOf_zero n m b k cap l w hl h hc h0
    · exact FnExactTranslateOf_pos n m b k cap l w hl h hc h0
end Go.Proofs.Ytkhaiphipdpgeaa
