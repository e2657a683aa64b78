/- Texts of the claim, in build order: FS3. No condition. -/
import Derived.Deep.CutRange
import Derived.Test.YtbeeecahkchjnaaZFnSets9
/- The law FnSets: walked. -- draws -- own lists -- numbers -/
namespace Go.Proofs.Ytbeeecahkchjnaa
open Go.RowKit
set_option linter.unusedVariables false
set_option linter.unusedSimpArgs false
set_option maxRecDepth 20000 in
set_option maxHeartbeats 4000000 in
theorem FnSets_big (b : Option Addr) (n c : Nat) (w : World) (hn : 4096 < n) : Calls Try.prog 3 #[.slice b n c] w (Ret w (.bool true)) := by
  go_enter Try.func3, Try.ntmps3
  go_wp2_with (first | (refine wl_loadS ?_) | (refine wl_load ?_) | (refine wl_storeS ?_) | (refine wl_store ?_) | (refine wl_build ?_) | (refine wl_slice ?_) | (refine wl_append ?_; intro v' w' ho hg hb; have hs := hg.size; (try simp at hs); (try rw [ptCs_end] at ho); (try rw [ints_end] at ho); (try simp only [Nat.zero_add, Nat.reduceAdd, List.nil_append, List.cons_append] at ho)) | (go_at_call 4; (with_reducible refine (big_E b n c _ (decide_eq_true hn)).mono ?_); rintro e w' ⟨rfl, hb⟩; have hl := Link.mk hb; have hs := hb.size; (try simp at hs); clear hb))
  (apply ret_one Try.results3; (conv => lhs; whnf); exact rfl)
  exact ret_ret rfl findLow
theorem at_list {P : Program} {ops l : _} {Q : Exit → Act → World → Prop} {a : Act} (W : World) (F : World → Prop) (h : F W) (k : ∀ V, F V → wpList P ops Q l a V) : wpList P ops Q l a W := k W h
theorem ArgI_of {w : World} {b : Option Addr} {k : Nat} {L : List Int} (hk : L.length = k) (h : ArgK w b k L) : ArgI w b k L := by
  subst hk; exact h.toI
theorem diff_both (x : Int) (b : Option Addr) (c : Nat) (L : List Int) (k : Nat) (w : World) (hk : L.length = k) (hl : k ≤ 1000000) (hA : ArgK w b k L) {v : Bool} {e : Int} (h : diffR x L = (v, e)) :
    (∀ W, Link w W → Calls Try.prog 6 #[.int .i64 x, .slice b k c] W (Ret W (.tuple #[.bool v, .int .i64 e]))) ∧ (∀ W, Link w W → Calls Try.prog 7 #[.int .i64 x, .slice b k c] W (Ret W (.tuple #[.bool v, .int .i64 e]))) := by
  refine ⟨fun W l => ?_, fun W l => ?_⟩
  · have := IsDifferenceSet_impl x b k c L W hk hl (ArgI_of hk (hA.link l))
    rwa [h] at this
  · have := IsDifferenceSet_spec x b k c L W hk hl (ArgI_of hk (hA.link l))
    rwa [h] at this
set_option pp.deepTerms false
set_option pp.deepTerms.threshold 10
set_option maxRecDepth 20000 in
set_option maxHeartbeats 16000000 in
theorem FnSets_small (b : Option Addr) (n c : Nat) (w : World) (hC : CodeK w b n) (hn : n ≤ 4096) (hb : ∀ a, b = some a → a.block < w.heap.size) : Calls Try.prog 3 #[.slice b n c] w (Ret w (.bool true)) := by
  have HB := Lib.hid hb
  have HC := Lib.hid hC
  clear hb hC
  have tok : True := trivial
  go_enter Try.func3, Try.ntmps3
  go_wp2_with (first | (with_reducible refine hold (p := wpList _ _ _ ({ dst := some 168, op := _, type := _, pos := _, after := _, guard := _ } :: _) _ _) ?_) | (refine wl_loadS ?_) | (refine wl_load ?_) | (refine wl_storeS ?_) | (refine wl_store ?_) | (refine wl_build ?_) | (refine wl_slice ?_) | (refine wl_append ?_; intro v' w' ho hg hb; have hs := hg.size; (try simp at hs); (try rw [ptCs_end] at ho); (try rw [ints_end] at ho); (try simp only [Nat.zero_add, Nat.reduceAdd, List.nil_append, List.cons_append] at ho)) | (go_at_call 4; (with_reducible refine (big_E b n c _ (decide_eq_false (by omega))).mono ?_); rintro e w' ⟨rfl, hb⟩; have hl := Link.mk hb; have hs := hb.size; (try simp at hs); clear hb) | (go_at_call 5; (with_reducible refine (DrawIsDifferenceSet_E b n c _ (HC.out.link (LowK.lnk findLow)) hn (fun a ha => Nat.lt_of_lt_of_le (HB.out a ha) (LowK.size findLow))).mono ?_); (rintro e w1 ⟨x, v, L, rfl, hO, hL, hl1⟩; obtain ⟨bL, cL, rfl, hA⟩ := OwnK.arg hO rfl; have HA := Lib.hid hA; have hlk1 := LowK.lnk hl1; have hz1 := LowK.size hl1; obtain ⟨R4, k4, cd4, F4⟩ := mul_facts x L (by omega); have HF4 := Lib.hid F4; obtain ⟨dv, de, hde⟩ : ∃ dv de, diffR x L = (dv, de) := ⟨_, _, rfl⟩; have HD1 := Lib.hid hde; obtain ⟨hi1, hs1'⟩ := diff_both x bL cL L L.length w1 rfl (by omega) hA hde; have HDi := Lib.hid hi1; have HDs := Lib.hid hs1'; clear hO hA F4 hde hi1 hs1')) | (go_at_call 6; (with_reducible refine (HDi.out _ (LowK.lnk (findLow (w := w1)))).mono ?_); rintro e w' ⟨rfl, hb⟩; have hl := Link.mk hb; have hs := hb.size; (try simp at hs); clear hb) | (go_at_call 7; (with_reducible refine (HDs.out _ (LowK.lnk (findLow (w := w1)))).mono ?_); rintro e w' ⟨rfl, hb⟩; have hl := Link.mk hb; have hs := hb.size; (try simp at hs); clear hb) | (go_at_call 8; (with_reducible refine (DrawTranslateSet_E b n c _ (HC.out.link (LowK.lnk findLow)) hn (fun a ha => Nat.lt_of_lt_of_le (HB.out a ha) (LowK.size findLow))).mono ?_); (rintro e w2 ⟨x2, v2, L2, t2, rfl, hO, hL2, hl2⟩; obtain ⟨bL2, cL2, rfl, hA⟩ := OwnK.arg hO rfl; have HA2 := Lib.hid hA; have hlk2 := LowK.lnk hl2; have hz2 := LowK.size hl2; obtain ⟨R2, k2, cd2, F2⟩ := mov_facts x2 t2 L2 (by omega); have HF2 := Lib.hid F2; obtain ⟨dv2, de2, hde2⟩ : ∃ dv de, diffR x2 L2 = (dv, de) := ⟨_, _, rfl⟩; have HD2 := Lib.hid hde2; have HDi2 := Lib.hid (diff_both x2 bL2 cL2 L2 L2.length w2 rfl (by omega) hA hde2).1; clear hO hA F2 hde2)) | (go_at_call 9; (with_reducible refine (HF2.out.i _ bL2 cL2 (HA2.out.link (LowK.lnk (findLow (w := w2))))).mono ?_); (rintro e w3 ⟨b3, c3, rfl, hA3, hl3⟩; have HA3 := Lib.hid hA3; have hlk3 := LowK.lnk hl3; have hz3 := LowK.size hl3; obtain ⟨dv3, de3, hde3⟩ : ∃ dv de, diffR x2 R2 = (dv, de) := ⟨_, _, rfl⟩; have HD3 := Lib.hid hde3; have HDi3 := Lib.hid (diff_both x2 b3 c3 R2 k2 w3 HF2.out.len HF2.out.small hA3 hde3).1; clear hA3 hde3)) | (go_at_call 10; (with_reducible refine (HF2.out.s _ bL2 cL2 (HA2.out.link (LowK.lnk (findLow (w := w2))))).mono ?_); (rintro e w4 ⟨b4, c4, rfl, hA4, hl4⟩; have HA4 := Lib.hid hA4; have hlk4 := LowK.lnk hl4; have hz4 := LowK.size hl4; clear hA4)) | (go_at_call 11; (with_reducible refine (likeInts_K b3 b4 k2 c3 c4 R2 _ HF2.out.small HF2.out.len (HA3.out.link (LowK.lnk (findLow (w := w3)))) (HA4.out.link (LowK.lnk (findLow (w := w4))))).mono ?_); rintro e w' ⟨rfl, hb⟩; have hl := Link.mk hb; have hs := hb.size; (try simp at hs); clear hb) | (go_at_call 12; (with_reducible refine (DrawTranslateOf_E b n c _ (HC.out.link (LowK.lnk findLow)) hn (fun a ha => Nat.lt_of_lt_of_le (HB.out a ha) (LowK.size findLow))).mono ?_); (rintro e w5 ⟨x5, v5, L5, t5, rfl, hO, hL5, hl5⟩; obtain ⟨bL5, cL5, rfl, hA⟩ := OwnK.arg hO rfl; have HA5 := Lib.hid hA; have hlk5 := LowK.lnk hl5; have hz5 := LowK.size hl5; obtain ⟨s5, cd5, h5⟩ := trO_two x5 t5 L5; have HT5 := Lib.hid h5; clear hO hA h5)) | (go_at_call 13; (with_reducible refine (TranslateOf_implK x5 t5 bL5 _ cL5 L5 _ _ HT5.out rfl (by omega) (HA5.out.link (LowK.lnk (findLow (w := w5))))).mono ?_); rintro e w' ⟨rfl, hb⟩; have hl := Link.mk hb; have hs := hb.size; (try simp at hs); clear hb) | (go_at_call 14; (with_reducible refine (TranslateOf_specK x5 t5 bL5 _ cL5 L5 _ _ HT5.out rfl (by omega) (HA5.out.link (LowK.lnk (findLow (w := w5))))).mono ?_); rintro e w' ⟨rfl, hb⟩; have hl := Link.mk hb; have hs := hb.size; (try simp at hs); clear hb) | (go_at_call 15; (with_reducible refine (HF4.out.i _ bL cL (HA.out.link (LowK.lnk (findLow (w := w1))))).mono ?_); (rintro e w6 ⟨b6, c6, rfl, hA6, hl6⟩; have HA6 := Lib.hid hA6; have hlk6 := LowK.lnk hl6; have hz6 := LowK.size hl6; clear hA6)) | (go_at_call 16; (with_reducible refine (HF4.out.s _ bL cL (HA.out.link (LowK.lnk (findLow (w := w1))))).mono ?_); (rintro e w7 ⟨b7, c7, rfl, hA7, hl7⟩; have HA7 := Lib.hid hA7; have hlk7 := LowK.lnk hl7; have hz7 := LowK.size hl7; clear hA7)) | (go_at_call 11; (with_reducible refine (likeInts_K b6 b7 k4 c6 c7 R4 _ HF4.out.small HF4.out.len (HA6.out.link (LowK.lnk (findLow (w := w6)))) (HA7.out.link (LowK.lnk (findLow (w := w7))))).mono ?_); rintro e w' ⟨rfl, hb⟩; have hl := Link.mk hb; have hs := hb.size; (try simp at hs); clear hb) | (go_at_call 17; (with_reducible refine (DrawIncidenceRank_E b n c _ (HC.out.link (LowK.lnk findLow)) hn (fun a ha => Nat.lt_of_lt_of_le (HB.out a ha) (LowK.size findLow))).mono ?_); (rintro e w8 ⟨p, q, rfl, hp, hq, hl8⟩; have hlk8 := LowK.lnk hl8; have hz8 := LowK.size hl8; obtain ⟨r, cd8, F8⟩ := rnk_facts hp hq; have HF8 := Lib.hid F8; clear hp hq F8)) | (go_at_call 18; (with_reducible refine (HF8.out.i _).mono ?_); rintro e w' ⟨rfl, hb⟩; have hl := Link.mk hb; have hs := hb.size; (try simp at hs); clear hb) | (go_at_call 19; (with_reducible refine (HF8.out.s _).mono ?_); rintro e w' ⟨rfl, hb⟩; have hl := Link.mk hb; have hs := hb.size; (try simp at hs); clear hb))
  unfold Hold
  refine at_list _ (fun V => ArgK V bL2 L2.length L2 ∧ ArgK V b3 k2 R2 ∧ ArgK V b6 k4 R4 ∧ LowK w V) ⟨HA2.out.link (LowK.lnk (findLow (w := w2))), HA3.out.link (LowK.lnk (findLow (w := w3))), HA6.out.link (LowK.lnk (findLow (w := w6))), findLow⟩ (fun V hV => ?_)
  obtain ⟨A2, A3, A6, hlow⟩ := hV
  have hi2 := (diff_both x2 bL2 cL2 L2 L2.length V rfl (by omega) A2 HD2.out).1
  have hi3 := (diff_both x2 b3 c3 R2 k2 V HF2.out.len HF2.out.small A3 HD3.out).1
  have hok2 : cd2 = 0 → de2 = 0 ∧ de3 = 0 ∧ dv3 = dv2 := fun h => by
    obtain ⟨e1, e2⟩ := HF2.out.good h
    rw [HD2.out] at e1 e2
    rw [HD3.out] at e2
    injection e2 with e3 e4
    exact ⟨e1, by rw [e4]; exact e1, e3⟩
  have hok4 : cd4 = 0 → (1 : Int) ∈ R4 ∧ de = 0 := fun h => by
    obtain ⟨e1, e2⟩ := HF4.out.good h
    rw [HD1.out] at e2
    exact ⟨e1, e2⟩
  have hbad4 := HF4.out.bad
  have hlen4 := HF4.out.len
  have hsm4 := HF4.out.small
  have hgood8 := HF8.out.good
  have HI2 := Lib.hid hi2
  have HI3 := Lib.hid hi3
  have HO2 := Lib.hid hok2
  have HO4 := Lib.hid hok4
  have HB4 := Lib.hid hbad4
  have HL4 := Lib.hid hlen4
  have HG8 := Lib.hid hgood8
  have HA66 := Lib.hid A6
  clear hi2 hi3 hok2 hok4 hbad4 hlen4 hgood8 A2 A3 A6 HA HA2 HA3 HA4 HA5 HA6 HA7 HD1 HD2 HD3 HF2 HF4 HF8 HDi HDs HDi2 HDi3 HT5
  have hcases : (cd8 == 0) = false ∨ (cd8 = 0 ∧ ((p = 3 ∧ q = 3 ∧ r = 7) ∨ (p = 3 ∧ (q = 5 ∨ q = 7 ∨ q = 13) ∧ r = 13) ∨ (p = 5 ∧ q = 3) ∨ (p = 5 ∧ q = 5 ∧ r = 16) ∨ (p = 5 ∧ (q = 7 ∨ q = 13) ∧ r = 31))) := by
    by_cases c8 : cd8 = 0
    · exact .inr ⟨c8, HG8.out c8⟩
    · exact .inl (by simpa using c8)
  have hc2 : (cd2 == 0) = false ∨ (cd2 = 0 ∧ de2 = 0 ∧ de3 = 0 ∧ dv3 = dv2) := by
    by_cases c2 : cd2 = 0
    · exact .inr ⟨c2, HO2.out c2⟩
    · exact .inl (by simpa using c2)
  have hc4 : ((cd4 != 0) = true ∧ k4 = 0) ∨ (cd4 = 0 ∧ de = 0 ∧ (1 : Int) ∈ R4) := by
    by_cases c4 : cd4 = 0
    · exact .inr ⟨c4, (HO4.out c4).2, (HO4.out c4).1⟩
    · exact .inl ⟨by simpa using c4, HB4.out c4⟩
  clear HO2 HO4 HB4 HG8
  clear hlk1 hlk2 hlk3 hlk4 hlk5 hlk6 hlk7 hlk8 hl1 hl2 hl3 hl4 hl5 hl6 hl7 hl8
  go_upto_if 168 with fail
  go_cut [] from 167 to 203 (fun wx => V = wx)
  case first =>
   as_aux_lemma =>
    rcases hcases with h8 | ⟨rfl, ⟨rfl, rfl, rfl⟩ | ⟨rfl, rfl | rfl | rfl, rfl⟩ | ⟨rfl, rfl⟩ | ⟨rfl, rfl, rfl⟩ | ⟨rfl, rfl | rfl, rfl⟩⟩
    all_goals
      go_wp2_with fail
      go_meet
      exact rfl
  case rest =>
   as_aux_lemma =>
    obtain rfl := hcut
    clear hcases
    go_upto_if 205 with fail
    go_cut [] from 204 to 228 (fun wx => LowK V wx)
    case first =>
     as_aux_lemma =>
      rcases hc2 with h2 | ⟨rfl, rfl, rfl, rfl⟩
      all_goals
        go_wp2_with (first | (refine wl_loadS ?_) | (refine wl_load ?_) | (refine wl_storeS ?_) | (refine wl_store ?_) | (refine wl_build ?_) | (refine wl_slice ?_) | (refine wl_append ?_; intro v' w' ho hg hb; have hs := hg.size; (try simp at hs); (try rw [ptCs_end] at ho); (try rw [ints_end] at ho); (try simp only [Nat.zero_add, Nat.reduceAdd, List.nil_append, List.cons_append] at ho)) | (go_at_call 6; (with_reducible refine (HI2.out _ (LowK.lnk (findLow (w := V)))).mono ?_); rintro e w' ⟨rfl, hb⟩; have hl := Link.mk hb; have hs := hb.size; (try simp at hs); clear hb) | (go_at_call 6; (with_reducible refine (HI3.out _ (LowK.lnk (findLow (w := V)))).mono ?_); rintro e w' ⟨rfl, hb⟩; have hl := Link.mk hb; have hs := hb.size; (try simp at hs); clear hb))
        go_meet
        exact findLow
    case rest =>
     as_aux_lemma =>
      clear hc2
      rcases hc4 with ⟨h4, rfl⟩ | ⟨rfl, rfl, h4⟩
      · go_wp2_with (first | (refine wl_loadS ?_) | (refine wl_load ?_) | (refine wl_storeS ?_) | (refine wl_store ?_) | (refine wl_build ?_) | (refine wl_slice ?_) | (refine wl_append ?_; intro v' w' ho hg hb; have hs := hg.size; (try simp at hs); (try rw [ptCs_end] at ho); (try rw [ints_end] at ho); (try simp only [Nat.zero_add, Nat.reduceAdd, List.nil_append, List.cons_append] at ho)))
        (apply ret_one Try.results3; (conv => lhs; whnf); exact rfl)
        exact ret_ret (by simp) (LowK.link (LowK.lnk (LowK.link (LowK.lnk (findLow (w := wc))) hcut)) hlow)
      · have HM4 := Lib.hid h4
        go_wp2_with (first | (refine wl_loadS ?_) | (refine wl_load ?_) | (refine wl_storeS ?_) | (refine wl_store ?_) | (refine wl_build ?_) | (refine wl_slice ?_) | (refine wl_append ?_; intro v' w' ho hg hb; have hs := hg.size; (try simp at hs); (try rw [ptCs_end] at ho); (try rw [ints_end] at ho); (try simp only [Nat.zero_add, Nat.reduceAdd, List.nil_append, List.cons_append] at ho)) | (go_at_call 20; (with_reducible refine (hasInt_K b6 k4 c6 R4 1 _ hsm4 HL4.out (HA66.out.link (LowK.lnk (findLow (w := V)))) HM4.out).mono ?_); rintro e w' ⟨rfl, hb⟩; have hl := Link.mk hb; have hs := hb.size; (try simp at hs); clear hb))
        (apply ret_one Try.results3; (conv => lhs; whnf); exact rfl)
        exact ret_ret (by simp) (LowK.link (LowK.lnk (LowK.link (LowK.lnk (findLow (w := wc))) hcut)) hlow)
theorem FnSets_walk (b : Option Addr) (n c : Nat) (w : World) (hC : CodeK w b n) (hb : ∀ a, b = some a → a.block < w.heap.size) : Calls Try.prog 3 #[.slice b n c] w (Ret w (.bool true)) := by
  by_cases hn : n ≤ 4096
  · exact FnSets_small b n c w hC hn hb
  · exact FnSets_big b n c w (by omega)
end Go.Proofs.Ytbeeecahkchjnaa

