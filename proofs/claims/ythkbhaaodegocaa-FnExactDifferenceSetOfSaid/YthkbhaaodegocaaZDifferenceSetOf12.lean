/- Texts of the claim, in build order: T7, T8, Open. No condition. -/
import Derived.Laws.IdiomArrays
import Derived.OpenShut
import Derived.ChangeOld
import Derived.SizedLaws
import Derived.Test.YthkbhaaodegocaaZDifferenceSetOf11
/- Contracts: the laws' marks on lists of numbers; DifferenceSetOf, the program's and the reference's. -/
namespace Go.Proofs.Ythkbhaaodegocaa
open Go.RowKit
set_option linter.unusedVariables false
set_option linter.unusedSimpArgs false
def markI (k n : Nat) : List Int := (List.range n).map (fun i : Nat => ((k + i : Nat) : Int))
theorem markI_at (k n i : Nat) (h : i < n) : (markI k n).getD i 0 = ((k + i : Nat) : Int) := by simp [markI, List.getD, h]
theorem ints_grow {W : World} {g cap i : Nat} {T : TypeId} {M : List Int} {x : Int} (hr : RoomI W g cap T) (hi : i < cap) (h : IntsAt W g 0 i M) (hM : M.getD i 0 = x) :
    IntsAt (W.setCell ⟨g, i, none⟩ (.int .i64 x)) g 0 (i + 1) M := by
  have ne : ∀ a b : Nat, a ≠ b → (⟨g, a, none⟩ : Addr) ≠ ⟨g, b, none⟩ := fun a b h e => h (by cases e; rfl)
  obtain ⟨u0, s0⟩ := Option.isSome_iff_exists.1 (hr.some i hi)
  intro j hj
  simp only [Nat.zero_add]
  by_cases e : j = i
  · subst e
    rw [hM]
    exact World.cell?_setCell_same (u := u0) _ _ _ s0
  · have c0 := h j (by omega)
    simp only [Nat.zero_add] at c0
    rw [World.cell?_setCell_other _ _ _ _ (ne _ _ (by omega))]; exact c0
/-- What marks leave. -/
structure MarkPostI (g n k cap : Nat) (T : TypeId) (w : World) (e : Ending) (w' : World) : Prop where
  out : e = .returned (.int .i64 ((k + n : Nat) : Int)) ∧ Save g w w' ∧ RoomI w' g cap T ∧ IntsAt w' g 0 n (markI k n)
set_option maxHeartbeats 1000000 in
theorem markInt64S_any (g n c k cap : Nat) (T : TypeId) (w : World) (hr : RoomI w g cap T) (hn : n ≤ cap) (hn1 : n ≤ 1000000) (hk : k ≤ 10000000) :
    Calls Try.prog 38 #[.slice (some ⟨g, 0, none⟩) n c, .int .i64 (k : Int)] w (MarkPostI g n k cap T w) := by
  have HR0 := Lib.hid hr
  clear hr
  go_enter Try.func38, Try.ntmps38
  go_wp2
  go_loopw [1, 5] (fun q i wr => ∃ ii : Nat, ii ≤ n ∧ i = .int .i64 ii ∧ q = .int .i64 ((k + ii : Nat) : Int) ∧ Hid (Save g w wr) ∧ Hid (RoomI wr g cap T) ∧ Hid (IntsAt wr g 0 ii (markI k n))) (fun _ i wr => n - (intOf i).toNat)
  case atStart => exact ⟨0, Nat.zero_le _, rfl, rfl, Lib.hid (Save.refl _ _), HR0, Lib.hid (fun j hj => absurd hj (by omega))⟩
  case round =>
    obtain ⟨ii, hi, rfl, rfl, HS, HR, HP⟩ := hrel
    by_cases hlt : ii < n
    · obtain ⟨u0, s0⟩ := Option.isSome_iff_exists.1 (HR.out.some ii (by omega))
      have r0 := HR.out.frozen ii
      go_wp2
      go_roundw
      case rel => exact ⟨ii + 1, by omega, by go_num, ret_num (by omega), Lib.hid (HS.out.setCell _ _), Lib.hid (HR.out.set _ _), Lib.hid (ints_grow HR.out (by omega) HP.out (by rw [markI_at _ _ _ hlt]; simp))⟩
      case measure => simp [intOf]; omega
    · have : ii = n := by omega
      subst this
      go_wp2
      go_ret
      exact ⟨rfl, HS.out, HR.out, HP.out⟩
theorem heldInt64S_any (g n c k : Nat) (w : World) (hn1 : n ≤ 1000000) (hk : k ≤ 10000000) (hp : IntsAt w g 0 n (markI k n)) :
    Calls Try.prog 39 #[.slice (some ⟨g, 0, none⟩) n c, .int .i64 (k : Int)] w (Ret w (.int .i64 ((k + n : Nat) : Int))) := by
  have HP := Lib.hid hp
  clear hp
  go_enter Try.func39, Try.ntmps39
  go_wp2
  go_loopw [1, 5] (fun q i wr => ∃ ii : Nat, ii ≤ n ∧ i = .int .i64 ii ∧ q = .int .i64 ((k + ii : Nat) : Int) ∧ Hid (Below w.heap.size w wr)) (fun _ i wr => n - (intOf i).toNat)
  case atStart => exact ⟨0, Nat.zero_le _, rfl, rfl, Lib.hid (Below.refl _ _)⟩
  case round =>
    obtain ⟨ii, hi, rfl, rfl, HB⟩ := hrel
    by_cases hlt : ii < n
    · have c0 := (HP.out.below HB.out) ii hlt
      rw [markI_at _ _ _ hlt] at c0
      simp only [Nat.zero_add, Int.natCast_add] at c0
      go_wp2
      go_roundw
      case rel => exact ⟨ii + 1, by omega, by go_num, ret_num (by omega), HB⟩
      case measure => simp [intOf]; omega
    · have : ii = n := by omega
      subst this
      go_wp2
      go_ret
      exact ⟨rfl, HB.out⟩
theorem markInt64S_nil (b : Option Addr) (c : Nat) (k : Int) (w : World) : Calls Try.prog 38 #[.slice b 0 c, .int .i64 k] w fun e w' => e = .returned (.int .i64 k) ∧ w = w' := by
  go_enter Try.func38, Try.ntmps38
  go_wp2
  refine wp_loop_rounds 1 ?_
  rw [rounds_succ]; go_wp2
  go_ret
  exact ⟨rfl, rfl⟩
theorem heldInt64S_nil (b : Option Addr) (c : Nat) (k : Int) (w : World) : Calls Try.prog 39 #[.slice b 0 c, .int .i64 k] w fun e w' => e = .returned (.int .i64 k) ∧ w = w' := by
  go_enter Try.func39, Try.ntmps39
  go_wp2
  refine wp_loop_rounds 1 ?_
  rw [rounds_succ]; go_wp2
  go_ret
  exact ⟨rfl, rfl⟩
theorem eqInt64S_nil (b b2 : Option Addr) (c c2 : Nat) (w : World) : Calls Try.prog 37 #[.slice b 0 c, .slice b2 0 c2] w fun e w' => e = .returned (.bool true) ∧ w = w' := by
  go_enter Try.func37, Try.ntmps37
  go_wp2
  refine wp_loop_rounds 1 ?_
  rw [rounds_succ]; go_wp2
  go_ret
  exact ⟨rfl, rfl⟩
theorem own_roomI {W : World} {base : Nat} {T : TypeId} {v : Value} {l : List Int} {n : Nat} (h : W.ownsRow base T 1 v n (ints l)) (hl : l.length = n) (hn : 0 < n) :
    ∃ g cap, v = .slice (some ⟨g, 0, none⟩) n cap ∧ base ≤ g ∧ g < W.heap.size ∧ n ≤ cap ∧ RoomI W g cap T ∧ IntsAt W g 0 n l := by
  obtain ⟨g, cap, e, hb, hg, hle, hp, _⟩ := ownInts2 h hl hn
  rcases h.2 with ⟨_, h0⟩ | ⟨g', cap', cur, e', hb', hg', hle', _, hsz, htk⟩
  · omega
  · rw [e] at e'
    cases e'
    exact ⟨g, cap, e, hb, hg, hle, ⟨cur, hg', by simpa using hsz⟩, hp⟩
theorem IntsAt.save {w W : World} {g0 b o n : Nat} {l : List Int} (h : IntsAt w b o n l) (hs : Save g0 w W) (hne : b ≠ g0) (hlt : b < w.heap.size) : IntsAt W b o n l := by
  have hc : ∀ i, W.cell? ⟨b, i, none⟩ = w.cell? ⟨b, i, none⟩ := fun i => by
    unfold World.cell?
    rw [hs.block b hlt hne]
  intro i hi
  rw [hc]
  exact h i hi
theorem markI_101 (g Q c cap : Nat) (T : TypeId) (W : World) (hr : RoomI W g cap T) (hn : Q ≤ cap) (hQ : Q ≤ 1000000) (M : Int) (hM : ((101 + Q : Nat) : Int) = M) :
    Calls Try.prog 38 #[.slice (some ⟨g, 0, none⟩) Q c, .int .i64 101] W (fun e w' => e = .returned (.int .i64 M) ∧ Save g W w' ∧ IntsAt w' g 0 Q (markI 101 Q)) := by
  have h := markInt64S_any g Q c 101 cap T W hr hn hQ (by omega)
  rw [← hM]
  exact h.mono fun e w' ⟨h1, h2, _, h4⟩ => ⟨h1, h2, h4⟩
theorem heldI_101 (g Q c : Nat) (W : World) (hQ : Q ≤ 1000000) (hp : IntsAt W g 0 Q (markI 101 Q)) (M : Int) (hM : ((101 + Q : Nat) : Int) = M) :
    Calls Try.prog 39 #[.slice (some ⟨g, 0, none⟩) Q c, .int .i64 101] W (Ret W (.int .i64 M)) := by
  rw [← hM]
  exact heldInt64S_any g Q c 101 W hQ (by omega) hp
/-- A new list of numbers, and no error. -/
structure IntsPost2 (w : World) (l : List Int) (e : Ending) (w' : World) : Prop where
  out : ∃ v, e = .returned (.tuple #[v, .int .i64 0]) ∧ w'.ownsRow w.heap.size 2 1 v l.length (ints l) ∧ Below w.heap.size w w'
/-- The difference set of a prime. -/
def diffL (n : Nat) : List Int := numU (onN (n : Int) (singL n) (1, 0, 0)) (singL n).length
theorem diffL_bd {n : Nat} (hp : prB (n : Int) = true) : 0 < (diffL n).length ∧ (diffL n).length ≤ 1000 := by
  have hb := prB_bd hp
  have h1 := numU_length (onN (n : Int) (singL n) (1, 0, 0)) (singL n).length
  have h2 : n * n ≤ 13 * 13 := Nat.mul_le_mul (by omega) (by omega)
  have h3 := singL_length n
  have h4 : (0 : Int) ∈ diffL n := by
    unfold diffL numU
    refine List.mem_map.2 ⟨0, List.mem_filter.2 ⟨List.mem_range.2 (by omega), ?_⟩, rfl⟩
    unfold onN singL
    rw [orbL_at _ _ _ _ _ (by omega)]
    unfold onB orbA
    simp
  refine ⟨List.length_pos_of_mem h4, ?_⟩
  unfold diffL
  omega
theorem DifferenceSetOf_impl_yes (n : Nat) (w : World) (hp : prB (n : Int) = true) : Calls Try.prog 36 #[.int .i64 (n : Int)] w (IntsPost2 w (diffL n)) := by
  have HO := Lib.hid (fun (W : World) => singerOrder_any n W hp)
  have hpos : 0 < (singL n).length := by rw [singL_length]; omega
  have hle : (singL n).length ≤ 1000 := by
    have hb := prB_bd hp
    have h2 : n * n ≤ 13 * 13 := Nat.mul_le_mul (by omega) (by omega)
    rw [singL_length]; omega
  have HN : Hid (∀ (g cap : Nat) (W : World), PtsAt W g 0 (singL n).length (singL n) → Calls Try.prog 92 #[.int .i64 (n : Int), .slice (some ⟨g, 0, none⟩) (singL n).length cap, ptV 1 0 0] W (IntsPost W (diffL n))) :=
    Lib.hid (fun g cap W h => numbersOn_any n g cap (singL n).length (singL n) 1 0 0 W hp ⟨by decide, by decide, by decide⟩ rfl hle (singL_in hp) h)
  have HP := Lib.hid hp
  generalize diffL n = D at *
  generalize singL n = L at *
  clear hp
  go_enter Try.func36, Try.ntmps36
  go_wp2_with (first
    | (go_at_call 73; refine (isPrime_yes _ _ HP.out).mono ?_; rintro e w' ⟨rfl, rfl⟩)
    | (go_at_call 90; refine (HO.out _).mono ?_; rintro e w1_ ⟨v, rfl, ho, hb⟩; obtain ⟨g, cap, rfl, hg0, hg1, hpt⟩ := ownPts ho rfl hpos; have HB1 := Lib.hid hb; have HP1 := Lib.hid hpt; clear hb hpt ho)
    | (go_at_call 93; (with_reducible refine (far_any _).mono ?_); rintro e w2_ ⟨rfl, hb2⟩; obtain ⟨hcb2, hfb2, hlb2⟩ := bcell hb2; have hsz2 := hb2.size; (try simp at hsz2); have HB2 := Lib.hid hb2; clear hb2)
    | (go_at_call 92; refine (HN.out _ _ _ (HP1.out.below HB2.out)).mono ?_; rintro e w3_ ⟨v, rfl, ho, hb⟩; have HO3 := Lib.hid ho; have HB3 := Lib.hid hb; clear ho hb))
  exact bodyPost_ret (v := .tuple #[v, .int .i64 0]) (by simp [results, Try.results36, go_sem]) rfl ⟨_, rfl, own_low HO3.out (by have := HB1.out.size; have := HB2.out.size; omega), (by repeat (first | exact Below.refl _ _ | refine bset ?_ _ _ (by omega) _ | refine bal ?_ _ | refine bdrN ?_ _ | refine bdr ?_ | refine below_tr' ?_ HB3.out | refine below_tr' ?_ HB2.out | refine below_tr' ?_ HB1.out))⟩
theorem DifferenceSetOf_spec_yes (n : Nat) (w : World) (hp : prB (n : Int) = true) : Calls Try.prog 35 #[.int .i64 (n : Int)] w (IntsPost2 w (diffL n)) := by
  have HO : Hid (∀ W, Calls Try.prog 91 #[.int .i64 (n : Int), ptV 1 0 0] W (IntsPost W (diffL n))) := Lib.hid (fun W => l10Numbers_any n 1 0 0 W hp ⟨by decide, by decide, by decide⟩)
  have HP := Lib.hid hp
  generalize diffL n = D at *
  clear hp
  go_enter Try.func35, Try.ntmps35
  go_wp2_with (first
    | (go_at_call 85; refine (l10Prime_yes _ _ HP.out).mono ?_; rintro e w' ⟨rfl, rfl⟩)
    | (go_at_call 91; refine (HO.out _).mono ?_; rintro e w2 ⟨v, rfl, ho, hb⟩; have HO2 := Lib.hid ho; have HB2 := Lib.hid hb; clear ho hb))
  exact bodyPost_ret (v := .tuple #[v, .int .i64 0]) (by simp [results, Try.results35, go_sem]) rfl ⟨_, rfl, HO2.out, HB2.out⟩
theorem DifferenceSetOf_impl_no (p : Int) (w : World) (hp : prB p = false) : Calls Try.prog 36 #[.int .i64 p] w fun e w' => e = .returned (.tuple #[.slice none 0 0, .int .i64 2]) ∧ w = w' := by
  go_enter Try.func36, Try.ntmps36
  go_wp2_with (go_at_call 73; refine (isPrime_no _ _ hp).mono ?_; rintro e w' ⟨rfl, rfl⟩)
  exact bodyPost_ret (v := .tuple #[.slice none 0 0, .int .i64 2]) (by simp [results, Try.results36, go_sem]) rfl ⟨rfl, rfl⟩
theorem DifferenceSetOf_spec_no (p : Int) (w : World) (hp : prB p = false) : Calls Try.prog 35 #[.int .i64 p] w fun e w' => e = .returned (.tuple #[.slice none 0 0, .int .i64 2]) ∧ w = w' := by
  go_enter Try.func35, Try.ntmps35
  go_wp2_with (go_at_call 85; refine (l10Prime_no _ _ hp).mono ?_; rintro e w' ⟨rfl, rfl⟩)
  exact bodyPost_ret (v := .tuple #[.slice none 0 0, .int .i64 2]) (by simp [results, Try.results35, go_sem]) rfl ⟨rfl, rfl⟩
end Go.Proofs.Ythkbhaaodegocaa
/- The law FnExactDifferenceSetOf, walked. -/
namespace Go.Proofs.Ythkbhaaodegocaa
open Go.RowKit
set_option linter.unusedVariables false
set_option linter.unusedSimpArgs false
set_option maxHeartbeats 4000000 in
theorem FnExactDifferenceSetOf_yes (n : Nat) (w : World) (hp : prB (n : Int) = true) : Calls Try.prog 9 #[.int .i64 (n : Int)] w (Ret w (.bool true)) := by
  have HS := Lib.hid (fun (W : World) => DifferenceSetOf_spec_yes n W hp)
  have HI := Lib.hid (fun (W : World) => DifferenceSetOf_impl_yes n W hp)
  obtain ⟨Q, hQ⟩ : ∃ Q, (diffL n).length = Q := ⟨_, rfl⟩
  have hQ1 : Q ≤ 1000 ∧ 0 < Q := by
    have := diffL_bd hp
    omega
  obtain ⟨hQ1, hQ0⟩ := hQ1
  obtain ⟨M, hM⟩ : ∃ M : Int, ((101 + Q : Nat) : Int) = M := ⟨_, rfl⟩
  have hM0 : ¬ M < 0 := by omega
  have HQ := Lib.hid hQ
  have HM := Lib.hid hM
  generalize diffL n = L at *
  clear hp hM hQ
  have tok2 : True := trivial
  have tok3 : True := trivial
  have tok5 : True := trivial
  have tok6 : True := trivial
  have tok7 : True := trivial
  go_enter Try.func9, Try.ntmps9
  go_wp2_with (first
    | (go_at_call 35; refine (HS.out _).mono ?_; rintro e w1_ ⟨v1, rfl, ho, hb⟩; rw [HQ.out] at ho; obtain ⟨g1, c1, rfl, hg1, hg1', hc1, hr1, hp1⟩ := own_roomI ho HQ.out hQ0; have HP1 := Lib.hid hp1; have HB1 := Lib.hid hb; clear ho hb hp1 hr1)
    | (have _t := tok2; go_at_call 36; refine (HI.out _).mono ?_; rintro e w2_ ⟨v2, rfl, ho, hb⟩; rw [HQ.out] at ho; obtain ⟨g2, c2, rfl, hg2, hg2', hc2, hr2, hp2⟩ := own_roomI ho HQ.out hQ0; have HP2 := Lib.hid hp2; have HR2 := Lib.hid hr2; have HB2 := Lib.hid hb; clear ho hb hp2 hr2 tok2)
    | (have _t := tok3; (go_at_call 37; (with_reducible refine (eqInt64S_same g2 g1 Q c2 c1 L w2_ (by omega) HP2.out (HP1.out.below HB2.out)).mono ?_); rintro e w3_ ⟨rfl, hb3⟩; obtain ⟨hcb3, hfb3, hlb3⟩ := bcell hb3; have hsz3 := hb3.size; (try simp at hsz3); have HB3 := Lib.hid hb3; clear hb3); clear tok3)
    | (go_at_call 38; refine (markI_101 g2 Q c2 c2 _ _ (HR2.out.below HB3.out) hc2 (by omega) M HM.out).mono ?_; rintro e w4_ ⟨rfl, hs, hm⟩; have HS4 := Lib.hid hs; have HM4 := Lib.hid hm; clear hs hm)
    | (have _t := tok5; (go_at_call 39; (with_reducible refine (heldI_101 g2 Q c2 w4_ (by omega) HM4.out M HM.out).mono ?_); rintro e w5_ ⟨rfl, hb5⟩; obtain ⟨hcb5, hfb5, hlb5⟩ := bcell hb5; have hsz5 := hb5.size; (try simp at hsz5); have HB5 := Lib.hid hb5; clear hb5); clear tok5)
    | (have _t := tok6; go_at_call 36; refine (HI.out _).mono ?_; rintro e w6_ ⟨v6, rfl, ho, hb⟩; rw [HQ.out] at ho; obtain ⟨g6, c6, rfl, hg6, hg6', hc6, hr6, hp6⟩ := own_roomI ho HQ.out hQ0; have HP6 := Lib.hid hp6; have HB6 := Lib.hid hb; clear ho hb hp6 hr6 tok6)
    | (have _t := tok7; (go_at_call 37; (with_reducible refine (eqInt64S_same g6 g1 Q c6 c1 L w6_ (by omega) HP6.out ((((((HP1.out.below HB2.out).below HB3.out).save HS4.out (by omega) (by have := HB2.out.size; have := HB3.out.size; omega)).below HB5.out)).below HB6.out)).mono ?_); rintro e w7_ ⟨rfl, hb7⟩; obtain ⟨hcb7, hfb7, hlb7⟩ := bcell hb7; have hsz7 := hb7.size; (try simp at hsz7); have HB7 := Lib.hid hb7; clear hb7); clear tok7)
    | (go_at_call 39; (with_reducible refine (heldI_101 g2 Q c2 _ (by omega) (((HM4.out.below HB5.out).below HB6.out).below HB7.out) M HM.out).mono ?_); rintro e w8_ ⟨rfl, hb8⟩; obtain ⟨hcb8, hfb8, hlb8⟩ := bcell hb8; have hsz8 := hb8.size; (try simp at hsz8); have HB8 := Lib.hid hb8; clear hb8))
  go_ret
  have s1 := HB1.out.size
  have s2 := HB2.out.size
  have s3 := HB3.out.size
  have b3 : Below w.heap.size w w3_ := low_tr' (low_tr' HB1.out HB2.out s1) HB3.out (by omega)
  have b4 : Below w.heap.size w w4_ := HS4.out.below b3 (by omega) (by omega)
  have b5 := low_tr' b4 HB5.out b4.size
  have b6 := low_tr' b5 HB6.out b5.size
  have b7 := low_tr' b6 HB7.out b6.size
  exact ⟨rfl, low_tr' b7 HB8.out b7.size⟩
theorem FnExactDifferenceSetOf_no (p : Int) (w : World) (hp : prB p = false) : Calls Try.prog 9 #[.int .i64 p] w (Ret w (.bool true)) := by
  have tok2 : True := trivial
  have tok3 : True := trivial
  have tok5 : True := trivial
  go_enter Try.func9, Try.ntmps9
  go_wp2_with (first
    | (go_at_call 35; refine (DifferenceSetOf_spec_no _ _ hp).mono ?_; rintro e w1_ ⟨rfl, rfl⟩)
    | (go_at_call 36; refine (DifferenceSetOf_impl_no _ _ hp).mono ?_; rintro e w2_ ⟨rfl, rfl⟩)
    | (go_at_call 37; refine (eqInt64S_nil none none 0 0 _).mono ?_; rintro e w4_ ⟨rfl, rfl⟩)
    | (go_at_call 38; refine (markInt64S_nil none 0 101 _).mono ?_; rintro e w4_ ⟨rfl, rfl⟩)
    | (go_at_call 39; refine (heldInt64S_nil none 0 101 _).mono ?_; rintro e w4_ ⟨rfl, rfl⟩))
  go_ret
  exact ⟨rfl, Below.refl _ _⟩
theorem FnExactDifferenceSetOf_walk (p : Int) (w : World) : Calls Try.prog 9 #[.int .i64 p] w (Ret w (.bool true)) := by
  cases hp : prB p with
  | false => exact FnExactDifferenceSetOf_no p w hp
  | true =>
    obtain ⟨n, rfl⟩ : ∃ n : Nat, p = n := ⟨p.toNat, by have := prB_bd hp; omega⟩
    exact FnExactDifferenceSetOf_yes n w hp
end Go.Proofs.Ythkbhaaodegocaa
/- Arrays of whole numbers as arguments: opened and shut. -/
namespace Go.Proofs.Ythkbhaaodegocaa
open Go.ChangeShapes Go.WideShapes Go.ChangeAt Go.RowKit
set_option linter.unusedVariables false
theorem listO3 {α : Type} (l : List α) (h : (⟨l⟩ : Array α).size = 3) : ∃ a b c, l = [a, b, c] := by
  match l, h with
  | [a, b, c], _ => exact ⟨a, b, c, rfl⟩
section
variable {H : Type} {enc : TypeId × Value → H} {P : Program} {W : World} {b0 base : Nat} {spare : Nat → Bool} {held : Bool}
theorem open_arr3 {r : Reach} {t e : TypeId} {v : Value} {d : DataW H} {p : List MemPlace} (ht : P.underlying t = some (.array 3 e)) (he : P.underlying e = some (.int .i64)) (hce : P.cellsOf e = 1) (hct : P.cellsOf t = 3)
    (hv : Value.okWide P W r b0 t v) (h : DataW.Trod enc P W base spare held t v d p) :
    ∃ x y z : Int, v = .agg #[.int .i64 x, .int .i64 y, .int .i64 z] ∧ d = .agg [.lit (.int .i64 x), .lit (.int .i64 y), .lit (.int .i64 z)] ∧ p = [] ∧ (Lit.int .i64 x).wf = true ∧ (Lit.int .i64 y).wf = true ∧ (Lit.int .i64 z).wf = true := by
  obtain ⟨cs, rfl, hsz, _⟩ : ∃ cs, v = .agg cs ∧ cs.size = P.cellsOf t ∧ Row.okWide P W r b0 t cs := by
    simpa [Value.okWide, ht] using hv
  rw [hct] at hsz
  obtain ⟨l⟩ := cs
  obtain ⟨c0, c1, c2, rfl⟩ := listO3 l hsz
  obtain ⟨fuel, hf⟩ := h
  obtain ⟨y0, y1, y2, m, hx, hy0, hy1, hy2⟩ := trod_array3 ht hce hf
  obtain ⟨x0, e0, rfl, w0⟩ := DataW.trod_int he hy0
  obtain ⟨x1, e1, rfl, w1⟩ := DataW.trod_int he hy1
  obtain ⟨x2, e2, rfl, w2⟩ := DataW.trod_int he hy2
  simp at e0 e1 e2
  subst e0 e1 e2
  simp only [Prod.mk.injEq] at hx
  obtain ⟨rfl, rfl⟩ := hx
  exact ⟨x0, x1, x2, rfl, rfl, rfl, w0, w1, w2⟩
theorem shut_arr3 {t e : TypeId} {x y z : Int} (ht : P.underlying t = some (.array 3 e)) (he : P.underlying e = some (.int .i64)) (hce : P.cellsOf e = 1) (hct : P.cellsOf t = 3)
    (w0 : (Lit.int .i64 x).wf = true) (w1 : (Lit.int .i64 y).wf = true) (w2 : (Lit.int .i64 z).wf = true) :
    DataW.Trod enc P W base spare held t (.agg #[.int .i64 x, .int .i64 y, .int .i64 z]) (.agg [.lit (.int .i64 x), .lit (.int .i64 y), .lit (.int .i64 z)]) [] :=
  ⟨2, by simp [DataW.trod, Value.cells, ht, he, hct, hce, w0, w1, w2, show List.range 3 = [0, 1, 2] from rfl]⟩
end
end Go.Proofs.Ythkbhaaodegocaa
