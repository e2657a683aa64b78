/- Texts of the claim, in build order: UC, UJ, UM, UB, UD, UI, UK, UL, UE, UH, UN. No condition. -/
import Derived.Test.YtkhaiphipdpgeaaZTranslateOf10
/- Contracts: the program's and the specification's LineOfShift. -- numbers -- build100 -/
namespace Go.Proofs.Ytkhaiphipdpgeaa
open Go.RowKit
set_option linter.unusedVariables false
set_option linter.unusedSimpArgs false
section
variable {ops : Array Oper} {rest : List Oper} {o : Oper} {a : Act} {w : World} {Q : Exit → Act → World → Prop}
theorem wl_build100 {t : TypeId} (hK : wpList Try.prog ops Q rest (a.put o.dst (.agg (pC (1, 0, 0)))) w) (hgd : o.guard = none := by exact rfl) (hop : o.op = .build t #[(0, .const (.int .i64 1)), (1, .const (.int .i64 0)), (2, .const (.int .i64 0))] := by exact rfl)
    (hb : Program.built Try.prog t (#[(0, .const (.int .i64 1)), (1, .const (.int .i64 0)), (2, .const (.int .i64 0))].map fun ((i, x) : Nat × Operand) => (i, a.eval x)).toList = some (pC (1, 0, 0)) := by kernel_rfl) : wpList Try.prog ops Q (o :: rest) a w := wpList_build w hgd t _ hop _ hb hK
end
theorem l10Numbers_P (n : Nat) (l : Pt) (w : World) (hp : prB (n : Int) = true) (hl : In13 l) :
    Calls Try.prog 35 #[.int .i64 (n : Int), pV l] w (IntsPost w (numU (onN (n : Int) (singL n) l) (singL n).length)) := l10Numbers_any n l.1 l.2.1 l.2.2 w hp hl
theorem far_P (w : World) : Calls Try.prog 42 #[] w (Ret w (pV (1, 0, 0))) := far_any w
theorem moved_D (n m t : Int) (b : Option Addr) (c D : Nat) (l : List Int) (w : World) (hD : l.length = D) (n2 : 2 ≤ n) (n1 : n ≤ 1000) (m0 : 0 ≤ m) (m1 : m < n) (t0 : 0 ≤ t) (t1 : t < n) (hb : ∀ k ∈ l, 0 ≤ k ∧ k < n) (hl : D ≤ 1000) (hP : ArgK w b D l) :
    Calls Try.prog 31 #[.int .i64 n, .slice b D c, .int .i64 m, .int .i64 t] w (NewI w (sortN (movN n m t l))) := by
  subst hD; exact moved_any n m t b c l w n2 n1 m0 m1 t0 t1 hb hl hP
theorem numbersOn_K (n g cap N : Nat) (all : List Pt) (l : Pt) (w : World) (hp : prB (n : Int) = true) (hl : In13 l) (hN : all.length = N) (hN1 : N ≤ 1000) (hin : ∀ a ∈ all, In13 a) (hpt : PtsK w g 0 N all) :
    Calls Try.prog 41 #[.int .i64 (n : Int), .slice (some ⟨g, 0, none⟩) N cap, pV l] w (IntsPost w (numU (onN (n : Int) all l) N)) := numbersOn_any n g cap N all l.1 l.2.1 l.2.2 w hp hl hN hN1 hin hpt.out
set_option maxRecDepth 20000 in
set_option maxHeartbeats 8000000 in
theorem LineOfShift_impl_yes (n t i0 i1 N D : Nat) (S : List Pt) (d L : List Int) (c : Pt) (w : World) (hp : prB (n : Int) = true) (hN : n * n + n + 1 = N) (ht : t < N) (hS : singL n = S) (hd : numU (onN (n : Int) S (1, 0, 0)) N = d) (hL : sortN (movN (N : Int) 1 (t : Int) d) = L)
    (hD : d.length = D) (hD2 : 2 ≤ D) (hD1 : D ≤ 1000) (hmem : ∀ k ∈ d, 0 ≤ k ∧ k < (N : Int)) (h0 : L.getD 0 0 = (i0 : Int)) (h1 : L.getD 1 0 = (i1 : Int)) (hi0 : i0 < N) (hi1 : i1 < N) (hc : crsN (n : Int) (S.getD i0 (0, 0, 0)) (S.getD i1 (0, 0, 0)) = c) :
    Calls Try.prog 20 #[.int .i64 (n : Int), .int .i64 (t : Int)] w (Ret w (.tuple #[pV c, .int .i64 0])) := by
  obtain ⟨b1, b2⟩ := prB_bd hp
  have hn13 : n ≤ 13 := by omega
  have hn2 : n * n ≤ 13 * 13 := Nat.mul_le_mul hn13 hn13
  have hSl : S.length = N := by rw [← hS, singL_length]; exact hN
  have hin : ∀ a ∈ S, In13 a := by rw [← hS]; exact singL_in hp
  have HIN := Lib.hid hin
  have HMEM := Lib.hid hmem
  have hN1 : N ≤ 1000 := by omega
  have hN3 : 3 ≤ N := by omega
  have q0 : (0 : Int) ≤ (n : Int) * n := by have : (0 : Int) ≤ ((n * n : Nat) : Int) := by omega
                                            simpa using this
  have q1 : (n : Int) * n ≤ 169 := by have : ((n * n : Nat) : Int) ≤ 169 := by omega
                                      simpa using this
  have q2 : (t : Int) ≤ (n : Int) * n + n := by have : ((t : Nat) : Int) ≤ ((n * n + n : Nat) : Int) := by omega
                                                simpa using this
  have hNp : 0 < S.length := by omega
  have hLl : L.length = D := by rw [← hL, sml]; exact hD
  obtain ⟨x, hx⟩ : ∃ x, S.getD i0 (0, 0, 0) = x := ⟨_, rfl⟩
  obtain ⟨y, hy⟩ : ∃ y, S.getD i1 (0, 0, 0) = y := ⟨_, rfl⟩
  have hxi : In13 x := by rw [← hx, List.getD_eq_getElem?_getD, List.getElem?_eq_getElem (by omega)]; exact hin _ (List.getElem_mem _)
  have hyi : In13 y := by rw [← hy, List.getD_eq_getElem?_getD, List.getElem?_eq_getElem (by omega)]; exact hin _ (List.getElem_mem _)
  rw [hx, hy] at hc
  have HD := Lib.hid hd
  have HL := Lib.hid hL
  have HS := Lib.hid hS
  have HNN := Lib.hid hN
  clear hd hL hS hin hmem hN
  go_enter Try.func20, Try.ntmps20
  go_wp2_with (first | (refine wl_load ?_) | (refine wl_store ?_) | (refine wl_build100 ?_) | (refine wl_build ?_) | (refine wl_slice ?_) | (refine wl_append ?_; intro v' w' ho hg hb; have hs := hg.size; (try simp at hs); (try rw [ptCs_end] at ho); (try rw [ints_end] at ho); (try simp only [Nat.zero_add, Nat.reduceAdd, List.nil_append, List.cons_append] at ho)) | (go_at_call 38; (with_reducible refine (isPrime_yes _ _ hp).mono ?_); rintro e w' ⟨rfl, rfl⟩) | (go_at_call 30; (with_reducible refine (within_yes _ _ _ _ (by omega) q2).mono ?_); rintro e w' ⟨rfl, rfl⟩) | (go_at_call 39; (with_reducible refine (singerOrder_any n _ hp).mono ?_); rintro e w' ⟨v, rfl, ho, hb⟩; rw [HS.out] at ho; obtain ⟨g, cap, rfl, hg0, hg1, hpt⟩ := ownPts ho rfl hNp; (simp only [hSl] at hpt ⊢); have hPK := PtsK.mk hpt; have hl := Link.mk hb; have hs := hb.size; (try simp at hs); clear hb ho hpt) | (go_at_call 40; (with_reducible refine (count_any n _ hn13).mono ?_); rintro e w' ⟨rfl, rfl⟩; (simp only [HNN.out])) | (go_at_call 42; (with_reducible refine (far_P _).mono ?_); rintro e w' ⟨rfl, hb⟩; have hl := Link.mk hb; have hs := hb.size; (try simp at hs); clear hb) | (go_at_call 41; (with_reducible refine (numbersOn_K n _ _ N S (1, 0, 0) _ hp in13_far hSl hN1 HIN.out findPts).mono ?_); go_loud (rintro e w' ⟨v, rfl, ho, hb⟩; rw [HD.out, hD] at ho; obtain ⟨b2, c2, rfl, hG⟩ := OwnK.arg (OwnK.mk ho) hD; have hl2 := Link.mk hb; have hs := hb.size; clear hb ho)) | (go_at_call 31; (with_reducible refine (moved_D (N : Int) 1 (t : Int) _ _ D d _ hD (by omega) (by omega) (by omega) (by omega) (by omega) (by omega) HMEM.out (by omega) findArg).mono ?_); go_loud (rintro e w' ⟨v, rfl, hO, hb⟩; rw [HL.out, hLl] at hO; obtain ⟨g3, c3, rfl, hg3, hg4, hI⟩ := OwnK.ints hO hLl (by omega); have hl3 := Link.mk hb; have hs := hb.size; clear hb hO)) | (go_at_call 43; (with_reducible refine (join_P _ hp hxi hyi).mono ?_); rintro e w' ⟨rfl, hb⟩; have hl := Link.mk hb; have hs := hb.size; (try simp at hs); clear hb) | ((with_reducible apply region_gd (id := 5)); refine region_QA (id := 5) 14 ?_; apply Exists.intro; refine ⟨fun G => ?_, fun W hl => ?_⟩; (· (simp only [List.take_succ_cons, List.take_zero]; (repeat (first | go_big_quiet_skip | (go_big_quiet_want; first | (refine q_load ?_; simp only [Act.put, List.setIfInBounds_toArray, List.set_cons_zero, List.set_cons_succ]; go_big_quiet_on) | (go_big_quiet_op; first | go_big_quiet_on | (apply Exists.intro; refine ⟨fun g => ?_, ?_⟩; (· (have hl := growL g; first | (go_at_call 42; with_reducible exact grow_ret (far_P _)) | (go_at_call 43; with_reducible exact grow_ret (join_P _ hp hxi hyi)))); go_big_quiet_on))))); exact rfl)); have hs := hl.out.size; (try simp at hs); simp only [List.drop_succ_cons, List.drop_zero]))
  subst hc
  (first | (go_ret; refine ⟨?_, LowK.out findLow⟩; first | exact rfl | skip) | (apply ret_rowT Try.results20; exact rfl; exact rfl; (exact findRow); exact rfl; (first | exact Try.sizeOf55 | exact Try.sizeOf34 | exact Try.sizeOf68); (first | exact Try.isAgg55 | exact Try.isAgg34 | exact Try.isAgg68); exact rfl; refine ret_ret ?_ findLow; first | exact rfl | skip) | (apply ret_row Try.results20; exact rfl; (exact findRow); exact rfl; (first | exact Try.sizeOf55 | exact Try.sizeOf34 | exact Try.sizeOf68); (first | exact Try.isAgg55 | exact Try.isAgg34 | exact Try.isAgg68); exact rfl; refine ret_ret ?_ findLow; first | exact rfl | skip))
set_option maxRecDepth 20000 in
set_option maxHeartbeats 8000000 in
theorem LineOfShift_spec_yes (n t e0 e1 i0 i1 N D : Nat) (S : List Pt) (d : List Int) (c : Pt) (w : World) (hp : prB (n : Int) = true) (hN : n * n + n + 1 = N) (ht : t < N) (hS : singL n = S) (hd : numU (onN (n : Int) S (1, 0, 0)) N = d)
    (hD : d.length = D) (hD2 : 2 ≤ D) (hD1 : D ≤ 1000) (h0 : d.getD 0 0 = (e0 : Int)) (h1 : d.getD 1 0 = (e1 : Int)) (he0 : e0 < N) (he1 : e1 < N) (hm0 : ((e0 : Int) + t) % (N : Int) = (i0 : Int)) (hm1 : ((e1 : Int) + t) % (N : Int) = (i1 : Int)) (hi0 : i0 < N) (hi1 : i1 < N) (hc : crsN (n : Int) (S.getD i0 (0, 0, 0)) (S.getD i1 (0, 0, 0)) = c) :
    Calls Try.prog 19 #[.int .i64 (n : Int), .int .i64 (t : Int)] w (Ret w (.tuple #[pV c, .int .i64 0])) := by
  obtain ⟨b1, b2⟩ := prB_bd hp
  have hn13 : n ≤ 13 := by omega
  have hn2 : n * n ≤ 13 * 13 := Nat.mul_le_mul hn13 hn13
  have hSl : S.length = N := by rw [← hS, singL_length]; exact hN
  have hin : ∀ a ∈ S, In13 a := by rw [← hS]; exact singL_in hp
  have HIN := Lib.hid hin
  have hN1 : N ≤ 1000 := by omega
  have hN3 : 3 ≤ N := by omega
  have q0 : (0 : Int) ≤ (n : Int) * n := by have : (0 : Int) ≤ ((n * n : Nat) : Int) := by omega
                                            simpa using this
  have q1 : (n : Int) * n ≤ 169 := by have : ((n * n : Nat) : Int) ≤ 169 := by omega
                                      simpa using this
  have q2 : (t : Int) ≤ (n : Int) * n + n := by have : ((t : Nat) : Int) ≤ ((n * n + n : Nat) : Int) := by omega
                                                simpa using this
  have hNp : 0 < S.length := by omega
  obtain ⟨x, hx⟩ : ∃ x, S.getD i0 (0, 0, 0) = x := ⟨_, rfl⟩
  obtain ⟨y, hy⟩ : ∃ y, S.getD i1 (0, 0, 0) = y := ⟨_, rfl⟩
  have hxi : In13 x := by rw [← hx, List.getD_eq_getElem?_getD, List.getElem?_eq_getElem (by omega)]; exact hin _ (List.getElem_mem _)
  have hyi : In13 y := by rw [← hy, List.getD_eq_getElem?_getD, List.getElem?_eq_getElem (by omega)]; exact hin _ (List.getElem_mem _)
  rw [hx, hy] at hc
  have hNz : ((n : Int) * n + n + 1) = (N : Int) := by have : ((n * n + n + 1 : Nat) : Int) = (N : Int) := by rw [hN]
                                                       simpa using this
  have HD := Lib.hid hd
  have HS := Lib.hid hS
  have HNN := Lib.hid hN
  clear hd hS hin hN
  go_enter Try.func19, Try.ntmps19
  go_wp2_with (first | (refine wl_load ?_) | (refine wl_store ?_) | (refine wl_build100 ?_) | (refine wl_build ?_) | (refine wl_slice ?_) | (refine wl_append ?_; intro v' w' ho hg hb; have hs := hg.size; (try simp at hs); (try rw [ptCs_end] at ho); (try rw [ints_end] at ho); (try simp only [Nat.zero_add, Nat.reduceAdd, List.nil_append, List.cons_append] at ho)) | (go_at_call 34; (with_reducible refine (l01Prime_yes _ _ hp).mono ?_); rintro e w' ⟨rfl, rfl⟩) | (go_at_call 26; (with_reducible refine (in_yes _ _ _ _ (by omega) q2).mono ?_); rintro e w' ⟨rfl, hb⟩; have hl := Link.mk hb; have hs := hb.size; (try simp at hs); clear hb) | (go_at_call 35; (with_reducible refine (l10Numbers_P n (1, 0, 0) _ hp in13_far).mono ?_); go_loud (rintro e w' ⟨v, rfl, ho, hb⟩; rw [HS.out, hSl, HD.out, hD] at ho; obtain ⟨g3, c3, rfl, hg3, hg4, hI⟩ := OwnK.ints (OwnK.mk ho) hD (by omega); have hl2 := Link.mk hb; have hs := hb.size; (try simp at hs); clear hb ho)) | (go_at_call 36; (with_reducible refine (l10Points_any n _ hp).mono ?_); go_loud (rintro e w' ⟨v, rfl, ho, hb⟩; rw [HS.out] at ho; obtain ⟨g, cap, rfl, hg0, hg1, hpt⟩ := ownPts ho rfl hNp; (simp only [hSl] at hpt ⊢); have hPK := PtsK.mk hpt; have hl := Link.mk hb; have hs := hb.size; (try simp at hs); clear hb ho hpt)) | (go_at_call 37; (with_reducible refine (l01Join_P _ hp hxi hyi).mono ?_); rintro e w' ⟨rfl, hb⟩; have hl := Link.mk hb; have hs := hb.size; (try simp at hs); clear hb) | ((with_reducible apply region_gd (id := 5)); refine region_CHA (id := 5) 28 [25, 26] (LowK _) (.k (.k (.k (.k (.k (.k (.k (.k (.k (.k (.k (.k (.k (.k (.k (.k (.k (.k (.k (.k (.k (.k (.k (.k (.k (.d (.d (.k .n)))))))))))))))))))))))))))) (.d (.d (.d (.d (.d (.d (.d (.d (.d (.d (.d (.d (.d (.d (.d (.d (.d (.d (.d (.d (.d (.d (.d (.d (.d (.k (.k (.d .n)))))))))))))))))))))))))))) (fun W W' h l => LowK.link l h) (LowK.refl _) ?_; apply Exists.intro; refine ⟨fun W0 hk G => ?_, ?_⟩; (· (have hl := LowK.lnk hk; (repeat (first | go_big_quiet_skip | (go_big_quiet_want; first | (refine q_load ?_; simp only [Act.put, List.setIfInBounds_toArray, List.set_cons_zero, List.set_cons_succ]; go_big_quiet_on) | (go_big_quiet_op; first | go_big_quiet_on | (apply Exists.intro; refine ⟨fun g => ?_, ?_⟩; (· (have hl := growL g; first | (go_at_call 26; with_reducible exact grow_ret (in_yes _ _ _ _ (by omega) q2)) | (go_at_call 37; with_reducible exact grow_ret (l01Join_P _ hp hxi hyi)))); go_big_quiet_on))))); exact rfl)); refine ch_step fun W1 hl => ?_; have hs := hl.out.size; (try simp at hs); go_wp2_with (first | (refine wl_load ?_) | (refine wl_store ?_) | (refine wl_build100 ?_) | (refine wl_build ?_) | (refine wl_slice ?_) | (refine wl_append ?_; intro v' w' ho hg hb; have hs := hg.size; (try simp at hs); (try rw [ptCs_end] at ho); (try rw [ints_end] at ho); (try simp only [Nat.zero_add, Nat.reduceAdd, List.nil_append, List.cons_append] at ho))); refine ⟨rfl, ⟨_, rfl⟩, findLow, ?_⟩; refine ch_step fun W1 hl => ?_; have hs := hl.out.size; (try simp at hs); go_wp2_with (first | (refine wl_load ?_) | (refine wl_store ?_) | (refine wl_build100 ?_) | (refine wl_build ?_) | (refine wl_slice ?_) | (refine wl_append ?_; intro v' w' ho hg hb; have hs := hg.size; (try simp at hs); (try rw [ptCs_end] at ho); (try rw [ints_end] at ho); (try simp only [Nat.zero_add, Nat.reduceAdd, List.nil_append, List.cons_append] at ho))); refine ⟨rfl, ⟨undef, rfl⟩, findLow, ?_⟩;  refine ch_nil fun W1 hl => ?_; have hs := hl.out.size; (try simp at hs); (try simp only [List.drop_succ_cons, List.drop_zero])))
  subst hc
  (first | (go_ret; refine ⟨?_, LowK.out findLow⟩; first | exact rfl | skip) | (apply ret_rowT Try.results19; exact rfl; exact rfl; (exact findRow); exact rfl; (first | exact Try.sizeOf55 | exact Try.sizeOf34 | exact Try.sizeOf68); (first | exact Try.isAgg55 | exact Try.isAgg34 | exact Try.isAgg68); exact rfl; refine ret_ret ?_ findLow; first | exact rfl | skip) | (apply ret_row Try.results19; exact rfl; (exact findRow); exact rfl; (first | exact Try.sizeOf55 | exact Try.sizeOf34 | exact Try.sizeOf68); (first | exact Try.isAgg55 | exact Try.isAgg34 | exact Try.isAgg68); exact rfl; refine ret_ret ?_ findLow; first | exact rfl | skip))
end Go.Proofs.Ytkhaiphipdpgeaa
/- Contracts: the program's ShiftOfLine. -- numbers (under way) -/
namespace Go.Proofs.Ytkhaiphipdpgeaa
open Go.RowKit
set_option linter.unusedVariables false
set_option linter.unusedSimpArgs false
theorem linesCode_one (p : Int) (g c : Nat) (l : Pt) (T : TypeId) (w : World) (v : Int) (hv : codeOf p (ptsB p [l]) = v) (h : RowK w g (pC l) T) : Calls Try.prog 46 #[.int .i64 p, .slice (some ⟨g, 0, none⟩) 1 c] w (Ret w (.int .i64 v)) := by
  rw [← hv]
  refine linesCode_any p g 0 1 c [l] w rfl (by decide) (fun i hi => ?_)
  obtain rfl : i = 0 := by omega
  refine ⟨?_, ?_, ?_⟩ <;> (simp only [Nat.zero_mul, Nat.add_zero, Nat.zero_add]; rw [cell_of_row w g _ _ _ _ h.out]; rfl)
set_option maxRecDepth 20000 in
set_option maxHeartbeats 8000000 in
theorem ShiftOfLine_impl_no (p : Int) (l : Pt) (c : Int) (w : World) (hv : codeOf p (ptsB p [l]) = c) (hc : (c == 0) = false) (hc2 : ¬ c = 0) :
    Calls Try.prog 24 #[.int .i64 p, pV l] w (Ret w (.tuple #[.int .i64 0, .int .i64 c])) := by
  have HV := Lib.hid hv
  clear hv
  go_enter Try.func24, Try.ntmps24
  go_wp2_with (first | (refine wl_load ?_) | (refine wl_store ?_) | (refine wl_build ?_) | (refine wl_slice ?_) | (refine wl_append ?_; intro v' w' ho hg hb; have hs := hg.size; (try simp at hs); (try rw [ptCs_end] at ho); (try rw [ints_end] at ho); (try simp only [Nat.zero_add, Nat.reduceAdd, List.nil_append, List.cons_append] at ho)) | (go_at_call 46; (with_reducible refine (linesCode_one p _ _ l _ _ c HV.out findRow).mono ?_); rintro e w' ⟨rfl, hb⟩; have hl := Link.mk hb; have hs := hb.size; (try simp at hs); clear hb))
  (apply ret_two Try.results24; (conv => lhs; whnf); (conv => lhs; whnf); exact rfl)
  exact ret_ret rfl findLow
theorem Equal_D (b1 b2 : Option Addr) (n1 n2 c1 c2 : Nat) (S1 S2 : List Int) (w : World) (v : Bool) (hv : decide (S1 = S2) = v) (h1 : S1.length = n1) (h2 : S2.length = n2) (hm : n1 ≤ 1000) (hm2 : n2 ≤ 1000) (hA1 : ArgK w b1 n1 S1) (hA2 : ArgK w b2 n2 S2) :
    Calls Try.prog 47 #[.slice b1 n1 c1, .slice b2 n2 c2] w (Ret w (.bool v)) := Equal_b b1 b2 n1 n2 c1 c2 S1 S2 w v hv h1 h2 (by omega) (by omega) hA1 hA2
set_option maxRecDepth 20000 in
set_option maxHeartbeats 8000000 in
theorem ShiftOfLine_impl_yes (n N D Z T : Nat) (S : List Pt) (d R : List Int) (l : Pt) (w : World) (hp : prB (n : Int) = true) (hN : n * n + n + 1 = N) (hv : codeOf (n : Int) (ptsB (n : Int) [l]) = 0) (hli : In13 l) (hS : singL n = S) (hd : numU (onN (n : Int) S (1, 0, 0)) N = d) (hR : numU (onN (n : Int) S l) N = R)
    (hD : d.length = D) (hD1 : D ≤ 1000) (hZ : R.length = Z) (hZ1 : Z ≤ 1000) (hmem : ∀ k ∈ d, 0 ≤ k ∧ k < (N : Int)) (hT : T < N) (hhit : sortN (movN (N : Int) 1 (T : Int) d) = R) (hmin : ∀ j, j < T → ¬ sortN (movN (N : Int) 1 (j : Int) d) = R) :
    Calls Try.prog 24 #[.int .i64 (n : Int), pV l] w (Ret w (.tuple #[.int .i64 (T : Int), .int .i64 0])) := by
  obtain ⟨b1, b2⟩ := prB_bd hp
  have hn13 : n ≤ 13 := by omega
  have hn2 : n * n ≤ 13 * 13 := Nat.mul_le_mul hn13 hn13
  have hSl : S.length = N := by rw [← hS, singL_length]; exact hN
  have hin : ∀ a ∈ S, In13 a := by rw [← hS]; exact singL_in hp
  have hN1 : N ≤ 1000 := by omega
  have hN3 : 3 ≤ N := by omega
  have hNp : 0 < S.length := by omega
  have HV := Lib.hid hv
  have HIN := Lib.hid hin
  have HMEM := Lib.hid hmem
  have HD := Lib.hid hd
  have HR := Lib.hid hR
  have HS := Lib.hid hS
  have HNN := Lib.hid hN
  have HIT := Lib.hid hhit
  have HMIN := Lib.hid hmin
  clear hv hd hR hS hin hmem hN hhit hmin
  go_enter Try.func24, Try.ntmps24
  go_wp2_with (first | (refine wl_load ?_) | (refine wl_store ?_) | (refine wl_build ?_) | (refine wl_slice ?_) | (refine wl_append ?_; intro v' w' ho hg hb; have hs := hg.size; (try simp at hs); (try rw [ptCs_end] at ho); (try rw [ints_end] at ho); (try simp only [Nat.zero_add, Nat.reduceAdd, List.nil_append, List.cons_append] at ho)) | (go_at_call 46; (with_reducible refine (linesCode_one (n : Int) _ _ l _ _ 0 HV.out findRow).mono ?_); rintro e w' ⟨rfl, hb⟩; have hl := Link.mk hb; have hs := hb.size; (try simp at hs); clear hb) | (go_at_call 39; (with_reducible refine (singerOrder_any n _ hp).mono ?_); rintro e w' ⟨v, rfl, ho, hb⟩; rw [HS.out] at ho; obtain ⟨g, cap, rfl, hg0, hg1, hpt⟩ := ownPts ho rfl hNp; (simp only [hSl] at hpt ⊢); have hPK := PtsK.mk hpt; have hl := Link.mk hb; have hs := hb.size; (try simp at hs); clear hb ho hpt) | (go_at_call 42; (with_reducible refine (far_P _).mono ?_); rintro e w' ⟨rfl, hb⟩; have hl := Link.mk hb; have hs := hb.size; (try simp at hs); clear hb) | (go_at_call 41; (with_reducible refine (numbersOn_K n _ _ N S (1, 0, 0) _ hp in13_far hSl hN1 HIN.out findPts).mono ?_); rintro e w' ⟨v, rfl, ho, hb⟩; rw [HD.out, hD] at ho; obtain ⟨bd, cd, rfl, hG⟩ := OwnK.arg (OwnK.mk ho) hD; have hl2 := Link.mk hb; have hs := hb.size; clear hb ho) | (go_at_call 41; (with_reducible refine (numbersOn_K n _ _ N S l _ hp hli hSl hN1 HIN.out findPts).mono ?_); rintro e w' ⟨v, rfl, ho, hb⟩; rw [HR.out, hZ] at ho; obtain ⟨br, cr, rfl, hG2⟩ := OwnK.arg (OwnK.mk ho) hZ; have hl2 := Link.mk hb; have hs := hb.size; clear hb ho))
  go_loopw [10] (fun i wr => ∃ k : Nat, k ≤ T ∧ i = .int .i64 (k : Int) ∧ LowK w wr ∧ ArgK wr bd D d ∧ ArgK wr br Z R) (fun i wr => T - (intOf i).toNat)
  case atStart => exact ⟨0, Nat.zero_le _, rfl, findLow, findArg, findArg⟩
  case round =>
    obtain ⟨k, hk, rfl, hV, hA, hB2⟩ := hrel
    have hsz := hV.size
    have hkN : (k : Int) < N := by omega
    by_cases hlt : k < T
    · have hh2 : decide (sortN (movN (N : Int) 1 (k : Int) d) = R) = false := by simpa using HMIN.out k hlt
      go_wp2_with (first | (refine wl_load ?_) | (refine wl_store ?_) | (refine wl_build ?_) | (refine wl_slice ?_) | (refine wl_append ?_; intro v' w' ho hg hb; have hs := hg.size; (try simp at hs); (try rw [ptCs_end] at ho); (try rw [ints_end] at ho); (try simp only [Nat.zero_add, Nat.reduceAdd, List.nil_append, List.cons_append] at ho)) | (go_at_call 40; (with_reducible refine (count_any n _ hn13).mono ?_); rintro e w' ⟨rfl, rfl⟩; (simp only [HNN.out])) | (go_at_call 31; (with_reducible refine (moved_D (N : Int) 1 (k : Int) _ _ D d _ hD (by omega) (by omega) (by omega) (by omega) (by omega) (by omega) HMEM.out (by omega) findArg).mono ?_); rintro e w' ⟨v, rfl, hO, hb⟩; obtain ⟨b3, c3, rfl, hG3⟩ := hO.arg rfl; rw [sml, hD] at hG3 hO; (simp only [sml, hD]); have hl2 := Link.mk hb; have hs := hb.size; clear hb hO) | (go_at_call 47; (with_reducible refine (Equal_D _ _ _ _ _ _ _ _ _ false hh2 ((sml _ _ _ _).trans hD) hZ (by omega) (by omega) findArg findArg).mono ?_); rintro e w' ⟨rfl, hb⟩; have hl := Link.mk hb; have hs := hb.size; (try simp at hs); clear hb))
      go_roundw
      case rel => exact ⟨k + 1, by omega, by go_num, findLow, findArg, findArg⟩
      case measure => (simp [intOf]; try omega)
    · obtain rfl : k = T := by omega
      have hh2 : decide (sortN (movN (N : Int) 1 (k : Int) d) = R) = true := by simpa using HIT.out
      go_wp2_with (first | (refine wl_load ?_) | (refine wl_store ?_) | (refine wl_build ?_) | (refine wl_slice ?_) | (refine wl_append ?_; intro v' w' ho hg hb; have hs := hg.size; (try simp at hs); (try rw [ptCs_end] at ho); (try rw [ints_end] at ho); (try simp only [Nat.zero_add, Nat.reduceAdd, List.nil_append, List.cons_append] at ho)) | (go_at_call 40; (with_reducible refine (count_any n _ hn13).mono ?_); rintro e w' ⟨rfl, rfl⟩; (simp only [HNN.out])) | (go_at_call 31; (with_reducible refine (moved_D (N : Int) 1 (k : Int) _ _ D d _ hD (by omega) (by omega) (by omega) (by omega) (by omega) (by omega) HMEM.out (by omega) findArg).mono ?_); rintro e w' ⟨v, rfl, hO, hb⟩; obtain ⟨b3, c3, rfl, hG3⟩ := hO.arg rfl; rw [sml, hD] at hG3 hO; (simp only [sml, hD]); have hl2 := Link.mk hb; have hs := hb.size; clear hb hO) | (go_at_call 47; (with_reducible refine (Equal_D _ _ _ _ _ _ _ _ _ true hh2 ((sml _ _ _ _).trans hD) hZ (by omega) (by omega) findArg findArg).mono ?_); rintro e w' ⟨rfl, hb⟩; have hl := Link.mk hb; have hs := hb.size; (try simp at hs); clear hb))
      (apply ret_two Try.results24; (conv => lhs; whnf); (conv => lhs; whnf); exact rfl)
      exact ret_ret rfl findLow
end Go.Proofs.Ytkhaiphipdpgeaa
/- Contracts: the specification's ShiftOfLine. -- numbers -- build100 -/
namespace Go.Proofs.Ytkhaiphipdpgeaa
open Go.RowKit
set_option linter.unusedVariables false
set_option linter.unusedSimpArgs false
theorem l10Numbers_far (n : Nat) (w : World) (hp : prB (n : Int) = true) :
    Calls Try.prog 35 #[.int .i64 (n : Int), .agg #[.int .i64 1, .int .i64 0, .int .i64 0]] w (IntsPost w (numU (onN (n : Int) (singL n) (1, 0, 0)) (singL n).length)) := l10Numbers_P n (1, 0, 0) w hp in13_far
theorem l10Moved_D (n m t : Int) (b : Option Addr) (c D : Nat) (l : List Int) (w : World) (hD : l.length = D) (n2 : 2 ≤ n) (n1 : n ≤ 1000) (m0 : 0 ≤ m) (m1 : m < n) (t0 : 0 ≤ t) (t1 : t < n) (hb : ∀ k ∈ l, 0 ≤ k ∧ k < n) (hl : D ≤ 1000) (hP : ArgK w b D l) :
    Calls Try.prog 27 #[.int .i64 n, .slice b D c, .int .i64 m, .int .i64 t] w (NewI w (sortN (movN n m t l))) := by
  subst hD; exact l10Moved_any n m t b c l w n2 n1 m0 m1 t0 t1 hb hl hP
theorem l10Same_D (b1 b2 : Option Addr) (n1 n2 c1 c2 : Nat) (S1 S2 : List Int) (w : World) (v : Bool) (hv : decide (S1 = S2) = v) (h1 : S1.length = n1) (h2 : S2.length = n2) (hm : n1 ≤ 1000) (hm2 : n2 ≤ 1000) (hA1 : ArgK w b1 n1 S1) (hA2 : ArgK w b2 n2 S2) :
    Calls Try.prog 50 #[.slice b1 n1 c1, .slice b2 n2 c2] w (Ret w (.bool v)) := l10Same_b b1 b2 n1 n2 c1 c2 S1 S2 w v hv h1 h2 (by omega) (by omega) hA1 hA2
theorem l01Code_one (p : Int) (g c : Nat) (l : Pt) (T : TypeId) (w : World) (v : Int) (hv : codeOf p (ptsB p [l]) = v) (h : RowK w g (pC l) T) : Calls Try.prog 44 #[.int .i64 p, .slice (some ⟨g, 0, none⟩) 1 c] w (Ret w (.int .i64 v)) := by
  rw [← hv]
  refine l01Code_any p g 0 1 c [l] w rfl (by decide) (fun i hi => ?_)
  obtain rfl : i = 0 := by omega
  refine ⟨?_, ?_, ?_⟩ <;> (simp only [Nat.zero_mul, Nat.add_zero, Nat.zero_add]; rw [cell_of_row w g _ _ _ _ h.out]; rfl)
set_option maxRecDepth 20000 in
set_option maxHeartbeats 8000000 in
theorem ShiftOfLine_spec_no (p : Int) (l : Pt) (c : Int) (w : World) (hv : codeOf p (ptsB p [l]) = c) (hc : (c == 0) = false) (hc2 : ¬ c = 0) :
    Calls Try.prog 22 #[.int .i64 p, pV l] w (Ret w (.tuple #[.int .i64 0, .int .i64 c])) := by
  have HV := Lib.hid hv
  clear hv
  go_enter Try.func22, Try.ntmps22
  go_wp2_with (first | (refine wl_load ?_) | (refine wl_store ?_) | (refine wl_build100 ?_) | (refine wl_build ?_) | (refine wl_slice ?_) | (refine wl_append ?_; intro v' w' ho hg hb; have hs := hg.size; (try simp at hs); (try rw [ptCs_end] at ho); (try rw [ints_end] at ho); (try simp only [Nat.zero_add, Nat.reduceAdd, List.nil_append, List.cons_append] at ho)) | (go_at_call 44; (with_reducible refine (l01Code_one p _ _ l _ _ c HV.out findRow).mono ?_); rintro e w' ⟨rfl, hb⟩; have hl := Link.mk hb; have hs := hb.size; (try simp at hs); clear hb))
  (apply ret_two Try.results22; (conv => lhs; whnf); (conv => lhs; whnf); exact rfl)
  exact ret_ret rfl findLow
set_option maxRecDepth 20000 in
set_option maxHeartbeats 8000000 in
theorem l10ShiftOf_yes (n N D Z T : Nat) (S : List Pt) (d R : List Int) (l : Pt) (w : World) (hp : prB (n : Int) = true) (hN : n * n + n + 1 = N) (hli : In13 l) (hS : singL n = S) (hd : numU (onN (n : Int) S (1, 0, 0)) N = d) (hR : numU (onN (n : Int) S l) N = R)
    (hD : d.length = D) (hD1 : D ≤ 1000) (hZ : R.length = Z) (hZ1 : Z ≤ 1000) (hmem : ∀ k ∈ d, 0 ≤ k ∧ k < (N : Int)) (hT : T < N) (hhit : sortN (movN (N : Int) 1 (T : Int) d) = R) (hmin : ∀ j, j < T → ¬ sortN (movN (N : Int) 1 (j : Int) d) = R) :
    Calls Try.prog 45 #[.int .i64 (n : Int), pV l] w (Ret w (.int .i64 (T : Int))) := by
  obtain ⟨b1, b2⟩ := prB_bd hp
  have hn13 : n ≤ 13 := by omega
  have hn2 : n * n ≤ 13 * 13 := Nat.mul_le_mul hn13 hn13
  have hSl : S.length = N := by rw [← hS, singL_length]; exact hN
  have hN1 : N ≤ 1000 := by omega
  have hN3 : 3 ≤ N := by omega
  have q0 : (0 : Int) ≤ (n : Int) * n := by have : (0 : Int) ≤ ((n * n : Nat) : Int) := by omega
                                            simpa using this
  have q1 : (n : Int) * n ≤ 169 := by have : ((n * n : Nat) : Int) ≤ 169 := by omega
                                      simpa using this
  have hNz : ((n : Int) * n + n + 1) = (N : Int) := by have : ((n * n + n + 1 : Nat) : Int) = (N : Int) := by rw [hN]
                                                       simpa using this
  have HMEM := Lib.hid hmem
  have HD := Lib.hid hd
  have HR := Lib.hid hR
  have HS := Lib.hid hS
  have HNN := Lib.hid hN
  have HIT := Lib.hid hhit
  have HMIN := Lib.hid hmin
  clear hd hR hS hmem hN hhit hmin
  go_enter Try.func45, Try.ntmps45
  go_wp2_with (first | (refine wl_load ?_) | (refine wl_store ?_) | (refine wl_build100 ?_) | (refine wl_build ?_) | (refine wl_slice ?_) | (refine wl_append ?_; intro v' w' ho hg hb; have hs := hg.size; (try simp at hs); (try rw [ptCs_end] at ho); (try rw [ints_end] at ho); (try simp only [Nat.zero_add, Nat.reduceAdd, List.nil_append, List.cons_append] at ho)))
  refine region_CHA (id := 1) 6 [2, 5] (fun W => LowK w W ∧ RowK W w.heap.size (pC l) 34) (.k (.k (.d (.k (.k (.d (.d (.d .n)))))))) (.d (.d (.k (.d (.d (.k (.d (.d .n)))))))) (fun W W' h l => ⟨LowK.link l h.1, h.2.link l⟩) ⟨findLow, findRow⟩ ?_
  apply Exists.intro
  refine ⟨fun W0 hk G => ?_, ?_⟩
  · obtain ⟨k1, k2⟩ := hk
    repeat (first | go_big_quiet_skip | (go_big_quiet_want; first | (refine q_load ?_; simp only [Act.put, List.setIfInBounds_toArray, List.set_cons_zero, List.set_cons_succ]; go_big_quiet_on) | (go_big_quiet_op; first | go_big_quiet_on)))
    exact rfl
  refine ch_step fun W1 hl1 => ?_
  have hs1 := hl1.out.size
  (try simp at hs1)
  go_wp2_with (first | (refine wl_load ?_) | (refine wl_store ?_) | (refine wl_build100 ?_) | (refine wl_build ?_) | (refine wl_slice ?_) | (refine wl_append ?_; intro v' w' ho hg hb; have hs := hg.size; (try simp at hs); (try rw [ptCs_end] at ho); (try rw [ints_end] at ho); (try simp only [Nat.zero_add, Nat.reduceAdd, List.nil_append, List.cons_append] at ho)) | (go_at_call 35; (with_reducible refine (l10Numbers_far n _ hp).mono ?_); go_loud (rintro e w' ⟨v, rfl, ho, hb⟩; rw [HS.out, hSl, HD.out, hD] at ho; obtain ⟨bd, cd, rfl, hG⟩ := OwnK.arg (OwnK.mk ho) hD; have hl2 := Link.mk hb; have hs := hb.size; clear hb ho)))
  refine ⟨rfl, ⟨_, rfl⟩, ⟨findLow, findRow⟩, ?_⟩
  refine ch_step fun W2 hl3 => ?_
  have hs2 := hl3.out.size
  (try simp at hs2)
  go_wp2_with (first | (refine wl_load ?_) | (refine wl_store ?_) | (refine wl_build100 ?_) | (refine wl_build ?_) | (refine wl_slice ?_) | (refine wl_append ?_; intro v' w' ho hg hb; have hs := hg.size; (try simp at hs); (try rw [ptCs_end] at ho); (try rw [ints_end] at ho); (try simp only [Nat.zero_add, Nat.reduceAdd, List.nil_append, List.cons_append] at ho)) | (go_at_call 35; (with_reducible refine (l10Numbers_P n l _ hp hli).mono ?_); go_loud (rintro e w' ⟨v, rfl, ho, hb⟩; rw [HS.out, hSl, HR.out, hZ] at ho; obtain ⟨br, cr, rfl, hG2⟩ := OwnK.arg (OwnK.mk ho) hZ; have hl4 := Link.mk hb; have hs := hb.size; clear hb ho)))
  refine ⟨rfl, ⟨_, rfl⟩, ⟨findLow, findRow⟩, ?_⟩
  refine ch_nil fun W3 hl5 => ?_
  have hs3 := hl5.out.size
  (try simp at hs3)
  (try simp only [List.drop_succ_cons, List.drop_zero])
  go_wp2_with (first | (refine wl_load ?_) | (refine wl_store ?_) | (refine wl_build100 ?_) | (refine wl_build ?_) | (refine wl_slice ?_) | (refine wl_append ?_; intro v' w' ho hg hb; have hs := hg.size; (try simp at hs); (try rw [ptCs_end] at ho); (try rw [ints_end] at ho); (try simp only [Nat.zero_add, Nat.reduceAdd, List.nil_append, List.cons_append] at ho)))
  go_loopw [7] (fun i wr => ∃ k : Nat, k ≤ T ∧ i = .int .i64 (k : Int) ∧ LowK w wr ∧ ArgK wr bd D d ∧ ArgK wr br Z R) (fun i wr => T - (intOf i).toNat)
  case atStart => exact ⟨0, Nat.zero_le _, rfl, findLow, findArg, findArg⟩
  case round =>
    obtain ⟨k, hk, rfl, hV, hA, hB2⟩ := hrel
    have hsz := hV.size
    have hkN : (k : Int) < N := by omega
    by_cases hlt : k < T
    · have hh2 : decide (sortN (movN (N : Int) 1 (k : Int) d) = R) = false := by simpa using HMIN.out k hlt
      go_wp2_with (first | (refine wl_load ?_) | (refine wl_store ?_) | (refine wl_build100 ?_) | (refine wl_build ?_) | (refine wl_slice ?_) | (refine wl_append ?_; intro v' w' ho hg hb; have hs := hg.size; (try simp at hs); (try rw [ptCs_end] at ho); (try rw [ints_end] at ho); (try simp only [Nat.zero_add, Nat.reduceAdd, List.nil_append, List.cons_append] at ho)) | (go_at_call 27; (with_reducible refine (l10Moved_D (N : Int) 1 (k : Int) _ _ D d _ hD (by omega) (by omega) (by omega) (by omega) (by omega) (by omega) HMEM.out (by omega) findArg).mono ?_); rintro e w' ⟨v, rfl, hO, hb⟩; obtain ⟨b3, c3, rfl, hG3⟩ := hO.arg rfl; rw [sml, hD] at hG3 hO; (simp only [sml, hD]); have hl2 := Link.mk hb; have hs := hb.size; clear hb hO) | (go_at_call 50; (with_reducible refine (l10Same_D _ _ _ _ _ _ _ _ _ false hh2 ((sml _ _ _ _).trans hD) hZ (by omega) (by omega) findArg findArg).mono ?_); rintro e w' ⟨rfl, hb⟩; have hl := Link.mk hb; have hs := hb.size; (try simp at hs); clear hb))
      go_roundw
      case rel => exact ⟨k + 1, by omega, by go_num, findLow, findArg, findArg⟩
      case measure => (simp [intOf]; try omega)
    · obtain rfl : k = T := by omega
      have hh2 : decide (sortN (movN (N : Int) 1 (k : Int) d) = R) = true := by simpa using HIT.out
      go_wp2_with (first | (refine wl_load ?_) | (refine wl_store ?_) | (refine wl_build100 ?_) | (refine wl_build ?_) | (refine wl_slice ?_) | (refine wl_append ?_; intro v' w' ho hg hb; have hs := hg.size; (try simp at hs); (try rw [ptCs_end] at ho); (try rw [ints_end] at ho); (try simp only [Nat.zero_add, Nat.reduceAdd, List.nil_append, List.cons_append] at ho)) | (go_at_call 27; (with_reducible refine (l10Moved_D (N : Int) 1 (k : Int) _ _ D d _ hD (by omega) (by omega) (by omega) (by omega) (by omega) (by omega) HMEM.out (by omega) findArg).mono ?_); rintro e w' ⟨v, rfl, hO, hb⟩; obtain ⟨b3, c3, rfl, hG3⟩ := hO.arg rfl; rw [sml, hD] at hG3 hO; (simp only [sml, hD]); have hl2 := Link.mk hb; have hs := hb.size; clear hb hO) | (go_at_call 50; (with_reducible refine (l10Same_D _ _ _ _ _ _ _ _ _ true hh2 ((sml _ _ _ _).trans hD) hZ (by omega) (by omega) findArg findArg).mono ?_); rintro e w' ⟨rfl, hb⟩; have hl := Link.mk hb; have hs := hb.size; (try simp at hs); clear hb))
      (apply ret_one Try.results45; (conv => lhs; whnf); exact rfl)
      exact ret_ret rfl findLow
set_option maxRecDepth 20000 in
set_option maxHeartbeats 8000000 in
theorem ShiftOfLine_spec_yes (n N D Z T : Nat) (S : List Pt) (d R : List Int) (l : Pt) (w : World) (hp : prB (n : Int) = true) (hN : n * n + n + 1 = N) (hv : codeOf (n : Int) (ptsB (n : Int) [l]) = 0) (hli : In13 l) (hS : singL n = S) (hd : numU (onN (n : Int) S (1, 0, 0)) N = d) (hR : numU (onN (n : Int) S l) N = R)
    (hD : d.length = D) (hD1 : D ≤ 1000) (hZ : R.length = Z) (hZ1 : Z ≤ 1000) (hmem : ∀ k ∈ d, 0 ≤ k ∧ k < (N : Int)) (hT : T < N) (hhit : sortN (movN (N : Int) 1 (T : Int) d) = R) (hmin : ∀ j, j < T → ¬ sortN (movN (N : Int) 1 (j : Int) d) = R) :
    Calls Try.prog 22 #[.int .i64 (n : Int), pV l] w (Ret w (.tuple #[.int .i64 (T : Int), .int .i64 0])) := by
  have HV := Lib.hid hv
  have HT := Lib.hid (fun w => l10ShiftOf_yes n N D Z T S d R l w hp hN hli hS hd hR hD hD1 hZ hZ1 hmem hT hhit hmin)
  clear hv hN hS hd hR hmem hhit hmin
  go_enter Try.func22, Try.ntmps22
  go_wp2_with (first | (refine wl_load ?_) | (refine wl_store ?_) | (refine wl_build100 ?_) | (refine wl_build ?_) | (refine wl_slice ?_) | (refine wl_append ?_; intro v' w' ho hg hb; have hs := hg.size; (try simp at hs); (try rw [ptCs_end] at ho); (try rw [ints_end] at ho); (try simp only [Nat.zero_add, Nat.reduceAdd, List.nil_append, List.cons_append] at ho)) | (go_at_call 44; (with_reducible refine (l01Code_one (n : Int) _ _ l _ _ 0 HV.out findRow).mono ?_); rintro e w' ⟨rfl, hb⟩; have hl := Link.mk hb; have hs := hb.size; (try simp at hs); clear hb) | (go_at_call 45; (with_reducible refine (HT.out _).mono ?_); rintro e w' ⟨rfl, hb⟩; have hl := Link.mk hb; have hs := hb.size; (try simp at hs); clear hb))
  (apply ret_two Try.results22; (conv => lhs; whnf); (conv => lhs; whnf); exact rfl)
  exact ret_ret rfl findLow
end Go.Proofs.Ytkhaiphipdpgeaa
/- The Singer orders and the difference sets of the five primes, written out; that the shifts of the set are the lines. -/
namespace Go.Proofs.Ytkhaiphipdpgeaa
open Go.RowKit
set_option linter.unusedVariables false
set_option linter.unusedSimpArgs false
def sL (p : Nat) : List Pt :=
  if p = 3 then [(0,(0,1)), (0,(1,0)), (1,(0,1)), (0,(1,1)), (1,(1,1)), (1,(1,2)), (1,(2,2)), (1,(1,0)), (1,(0,2)), (0,(1,2)), (1,(2,1)), (1,(2,0)), (1,(0,0))] else
  if p = 5 then [(0,(0,1)), (0,(1,0)), (1,(0,1)), (0,(1,2)), (1,(2,1)), (1,(3,2)), (1,(4,0)), (1,(0,4)), (0,(1,3)), (1,(3,1)), (1,(2,0)), (1,(0,2)), (0,(1,1)), (1,(1,1)), (1,(1,3)), (1,(3,3)), (1,(1,0)), (1,(0,3)), (0,(1,4)), (1,(4,1)), (1,(4,4)), (1,(1,4)), (1,(4,3)), (1,(2,4)), (1,(2,2)), (1,(1,2)), (1,(2,3)), (1,(4,2)), (1,(3,4)), (1,(3,0)), (1,(0,0))] else
  if p = 7 then [(0,(0,1)), (0,(1,0)), (1,(0,1)), (0,(1,2)), (1,(2,1)), (1,(4,2)), (1,(4,5)), (1,(3,5)), (1,(4,4)), (1,(1,5)), (1,(5,3)), (1,(2,0)), (1,(0,2)), (0,(1,1)), (1,(1,1)), (1,(1,3)), (1,(3,3)), (1,(1,4)), (1,(4,3)), (1,(6,5)), (1,(2,6)), (1,(3,2)), (1,(3,4)), (1,(6,4)), (1,(3,6)), (1,(2,4)), (1,(2,2)), (1,(1,2)), (1,(2,3)), (1,(5,2)), (1,(6,0)), (1,(0,6)), (0,(1,5)), (1,(5,1)), (1,(3,0)), (1,(0,4)), (0,(1,4)), (1,(4,1)), (1,(2,5)), (1,(6,2)), (1,(5,6)), (1,(4,0)), (1,(0,5)), (0,(1,6)), (1,(6,1)), (1,(6,6)), (1,(1,6)), (1,(6,3)), (1,(4,6)), (1,(5,5)), (1,(1,0)), (1,(0,3)), (0,(1,3)), (1,(3,1)), (1,(5,4)), (1,(5,0)), (1,(0,0))] else
  if p = 11 then [(0,(0,1)), (0,(1,0)), (1,(0,1)), (0,(1,3)), (1,(3,1)), (1,(4,2)), (1,(6,10)), (1,(9,7)), (1,(2,5)), (1,(8,8)), (1,(1,0)), (1,(0,4)), (0,(1,9)), (1,(9,1)), (1,(5,5)), (1,(1,6)), (1,(6,4)), (1,(8,7)), (1,(5,0)), (1,(0,6)), (0,(1,6)), (1,(6,1)), (1,(2,7)), (1,(9,8)), (1,(7,5)), (1,(7,3)), (1,(2,3)), (1,(7,8)), (1,(9,3)), (1,(4,5)), (1,(4,10)), (1,(8,10)), (1,(4,0)), (1,(0,10)), (0,(1,8)), (1,(8,1)), (1,(7,0)), (1,(0,3)), (0,(1,1)), (1,(1,1)), (1,(1,4)), (1,(4,4)), (1,(1,10)), (1,(10,4)), (1,(7,9)), (1,(6,3)), (1,(6,7)), (1,(3,7)), (1,(6,2)), (1,(4,7)), (1,(10,10)), (1,(1,9)), (1,(9,4)), (1,(9,5)), (1,(3,5)), (1,(9,2)), (1,(10,5)), (1,(6,9)), (1,(7,7)), (1,(1,3)), (1,(3,4)), (1,(5,2)), (1,(7,6)), (1,(4,3)), (1,(9,10)), (1,(6,5)), (1,(10,7)), (1,(4,9)), (1,(5,10)), (1,(2,6)), (1,(3,8)), (1,(10,2)), (1,(9,9)), (1,(1,5)), (1,(5,4)), (1,(3,6)), (1,(2,2)), (1,(1,8)), (1,(8,4)), (1,(6,0)), (1,(0,7)), (0,(1,2)), (1,(2,1)), (1,(6,8)), (1,(5,7)), (1,(8,6)), (1,(9,0)), (1,(0,5)), (0,(1,5)), (1,(5,1)), (1,(9,6)), (1,(8,5)), (1,(2,0)), (1,(0,8)), (0,(1,10)), (1,(10,1)), (1,(10,9)), (1,(2,9)), (1,(10,8)), (1,(3,9)), (1,(3,2)), (1,(8,2)), (1,(3,0)), (1,(0,2)), (0,(1,7)), (1,(7,1)), (1,(8,3)), (1,(10,0)), (1,(0,9)), (0,(1,4)), (1,(4,1)), (1,(3,10)), (1,(7,2)), (1,(5,3)), (1,(5,6)), (1,(10,6)), (1,(5,9)), (1,(4,6)), (1,(7,10)), (1,(3,3)), (1,(1,2)), (1,(2,4)), (1,(2,8)), (1,(4,8)), (1,(2,10)), (1,(5,8)), (1,(6,6)), (1,(1,7)), (1,(7,4)), (1,(10,3)), (1,(8,9)), (1,(8,0)), (1,(0,0))] else
  [(0,(0,1)), (0,(1,0)), (1,(0,1)), (0,(1,4)), (1,(4,1)), (1,(10,2)), (1,(8,4)), (1,(7,8)), (1,(3,9)), (1,(3,11)), (1,(8,11)), (1,(3,8)), (1,(7,11)), (1,(9,9)), (1,(1,0)), (1,(0,5)), (0,(1,6)), (1,(6,1)), (1,(11,6)), (1,(10,12)), (1,(9,4)), (1,(12,0)), (1,(0,10)), (0,(1,3)), (1,(3,1)), (1,(9,11)), (1,(7,0)), (1,(0,9)), (0,(1,12)), (1,(12,1)), (1,(12,10)), (1,(3,10)), (1,(12,11)), (1,(2,10)), (1,(5,3)), (1,(11,7)), (1,(3,12)), (1,(4,11)), (1,(6,2)), (1,(9,6)), (1,(5,0)), (1,(0,7)), (0,(1,8)), (1,(8,1)), (1,(5,8)), (1,(12,7)), (1,(6,10)), (1,(6,6)), (1,(1,6)), (1,(6,5)), (1,(3,6)), (1,(2,11)), (1,(12,3)), (1,(10,10)), (1,(1,4)), (1,(4,5)), (1,(11,2)), (1,(12,12)), (1,(1,10)), (1,(10,5)), (1,(7,4)), (1,(8,9)), (1,(6,8)), (1,(10,6)), (1,(11,4)), (1,(11,12)), (1,(7,12)), (1,(11,9)), (1,(2,12)), (1,(6,3)), (1,(7,6)), (1,(12,9)), (1,(4,10)), (1,(9,2)), (1,(6,0)), (1,(0,6)), (0,(1,5)), (1,(5,1)), (1,(8,7)), (1,(9,8)), (1,(11,0)), (1,(0,12)), (0,(1,9)), (1,(9,1)), (1,(3,0)), (1,(0,11)), (0,(1,11)), (1,(11,1)), (1,(6,12)), (1,(2,6)), (1,(3,3)), (1,(1,11)), (1,(11,5)), (1,(4,12)), (1,(3,2)), (1,(5,11)), (1,(10,7)), (1,(2,4)), (1,(2,3)), (1,(8,3)), (1,(2,8)), (1,(4,3)), (1,(4,2)), (1,(7,2)), (1,(4,9)), (1,(12,2)), (1,(11,10)), (1,(8,12)), (1,(8,8)), (1,(1,8)), (1,(8,5)), (1,(12,8)), (1,(5,10)), (1,(2,7)), (1,(10,3)), (1,(12,4)), (1,(9,10)), (1,(4,0)), (1,(0,2)), (0,(1,2)), (1,(2,1)), (1,(7,3)), (1,(6,9)), (1,(8,6)), (1,(4,8)), (1,(2,2)), (1,(1,3)), (1,(3,5)), (1,(6,11)), (1,(4,6)), (1,(8,2)), (1,(10,8)), (1,(6,4)), (1,(5,6)), (1,(9,7)), (1,(8,0)), (1,(0,8)), (0,(1,7)), (1,(7,1)), (1,(2,9)), (1,(11,3)), (1,(5,12)), (1,(5,7)), (1,(4,7)), (1,(5,2)), (1,(3,7)), (1,(11,11)), (1,(1,12)), (1,(12,5)), (1,(8,10)), (1,(11,8)), (1,(9,12)), (1,(10,0)), (1,(0,4)), (0,(1,1)), (1,(1,1)), (1,(1,5)), (1,(5,5)), (1,(1,7)), (1,(7,5)), (1,(10,9)), (1,(10,4)), (1,(3,4)), (1,(10,11)), (1,(5,4)), (1,(6,7)), (1,(12,6)), (1,(7,10)), (1,(7,9)), (1,(5,9)), (1,(7,7)), (1,(1,9)), (1,(9,5)), (1,(2,0)), (1,(0,3)), (0,(1,10)), (1,(10,1)), (1,(4,4)), (1,(1,2)), (1,(2,5)), (1,(9,3)), (1,(9,0)), (1,(0,0))]
def dL (p : Nat) : List Int :=
  if p = 3 then [0, 1, 3, 9] else
  if p = 5 then [0, 1, 3, 8, 12, 18] else
  if p = 7 then [0, 1, 3, 13, 32, 36, 43, 52] else
  if p = 11 then [0, 1, 3, 12, 20, 34, 38, 81, 88, 94, 104, 109] else
  [0, 1, 3, 16, 23, 28, 42, 76, 82, 86, 119, 137, 154, 175]
set_option maxRecDepth 100000 in
theorem sL_eq : ∀ p ∈ ([3, 5, 7, 11, 13] : List Nat), singL p = sL p := by decide +kernel
set_option maxRecDepth 100000 in
theorem dL_eq0 : ∀ p ∈ ([3, 5, 7, 11, 13] : List Nat), numU (onN (p : Int) (sL p) (1, 0, 0)) (p * p + p + 1) = dL p := by decide +kernel
end Go.Proofs.Ytkhaiphipdpgeaa
/- The shifts of the difference sets, sorted by insertion; the first two give the line that the first two give unsorted: checked by the kernel. -/
namespace Go.Proofs.Ytkhaiphipdpgeaa
open Go.RowKit
set_option linter.unusedVariables false
set_option linter.unusedSimpArgs false
def insI (x : Int) : List Int → List Int
  | [] => [x]
  | y :: r => if x ≤ y then x :: y :: r else y :: insI x r
def insS : List Int → List Int
  | [] => []
  | x :: r => insI x (insS r)
theorem insI_perm (x : Int) : ∀ l : List Int, (insI x l).Perm (x :: l)
  | [] => List.Perm.refl _
  | y :: r => by
    unfold insI
    split
    · exact List.Perm.refl _
    · exact ((insI_perm x r).cons y).trans (List.Perm.swap x y r)
theorem insI_pair (x : Int) : ∀ l : List Int, l.Pairwise (fun a b => a ≤ b) → (insI x l).Pairwise (fun a b => a ≤ b)
  | [], _ => List.pairwise_cons.2 ⟨fun _ h => (by cases h), List.Pairwise.nil⟩
  | y :: r, h => by
    obtain ⟨h1, h2⟩ := List.pairwise_cons.1 h
    unfold insI
    split
    · rename_i hxy
      refine List.pairwise_cons.2 ⟨fun b hb => ?_, h⟩
      rcases List.mem_cons.1 hb with rfl | hb
      · exact hxy
      · exact Int.le_trans hxy (h1 b hb)
    · rename_i hxy
      refine List.pairwise_cons.2 ⟨fun b hb => ?_, insI_pair x r h2⟩
      rcases List.mem_cons.1 ((insI_perm x r).mem_iff.1 hb) with rfl | hb
      · omega
      · exact h1 b hb
theorem insS_perm : ∀ l : List Int, (insS l).Perm l
  | [] => List.Perm.refl _
  | x :: r => (insI_perm x _).trans ((insS_perm r).cons x)
theorem insS_pair : ∀ l : List Int, (insS l).Pairwise (fun a b => a ≤ b)
  | [] => List.Pairwise.nil
  | x :: r => insI_pair x _ (insS_pair r)
theorem sortN_ins (l : List Int) : sortN l = insS l :=
  List.Perm.eq_of_pairwise (le := fun x y : Int => x ≤ y) (fun a b _ _ h1 h2 => Int.le_antisymm h1 h2) (sortN_pair _) (insS_pair _) ((sortN_perm l).trans (insS_perm l).symm)
/-- What is to hold of a shift. -/
def chkB (p t : Nat) (M L : List Int) (d : List Int) (S : List Pt) : Bool :=
  decide (crsN (p : Int) (S.getD (L.getD 0 0).toNat (0, 0, 0)) (S.getD (L.getD 1 0).toNat (0, 0, 0)) = crsN (p : Int) (S.getD (M.getD 0 0).toNat (0, 0, 0)) (S.getD (M.getD 1 0).toNat (0, 0, 0)))
    && decide (0 ≤ L.getD 0 0 ∧ L.getD 0 0 < ((p * p + p + 1 : Nat) : Int) ∧ 0 ≤ L.getD 1 0 ∧ L.getD 1 0 < ((p * p + p + 1 : Nat) : Int))
    && decide ((d.getD 0 0 + (t : Int)) % ((p * p + p + 1 : Nat) : Int) = M.getD 0 0 ∧ (d.getD 1 0 + (t : Int)) % ((p * p + p + 1 : Nat) : Int) = M.getD 1 0)
def chkS (p t : Nat) : Bool := chkB p t (movN ((p * p + p + 1 : Nat) : Int) 1 (t : Int) (dL p)) (insS (movN ((p * p + p + 1 : Nat) : Int) 1 (t : Int) (dL p))) (dL p) (sL p)
set_option maxRecDepth 100000 in
set_option maxHeartbeats 4000000 in
theorem chk_all : ∀ p ∈ ([3, 5, 7, 11, 13] : List Nat), (List.range (p * p + p + 1)).all (chkS p) = true := by decide +kernel
end Go.Proofs.Ytkhaiphipdpgeaa
/- Every line is a shift of the difference set: checked by the kernel. -/
namespace Go.Proofs.Ytkhaiphipdpgeaa
open Go.RowKit
set_option linter.unusedVariables false
set_option linter.unusedSimpArgs false
/-- This shift of the set is the line. -/
def lnB (p : Nat) (l : Pt) (t : Nat) : Bool :=
  onB (p : Int) ((sL p).getD t (0, 0, 0)) l && (onB (p : Int) ((sL p).getD ((1 + t) % (p * p + p + 1)) (0, 0, 0)) l
    && decide (insS (movN ((p * p + p + 1 : Nat) : Int) 1 (t : Int) (dL p)) = numU (onN (p : Int) (sL p) l) (p * p + p + 1)))
def linesB (p : Nat) : Bool := (sL p).all fun l => (List.range (p * p + p + 1)).any (lnB p l)
set_option maxRecDepth 100000 in
set_option maxHeartbeats 4000000 in
theorem lines_3 : linesB 3 = true ∧ linesB 5 = true ∧ linesB 7 = true := by decide +kernel
set_option maxRecDepth 100000 in
set_option maxHeartbeats 4000000 in
theorem lines_11 : linesB 11 = true := by decide +kernel
set_option maxRecDepth 100000 in
set_option maxHeartbeats 4000000 in
theorem lines_13 : linesB 13 = true := by decide +kernel
end Go.Proofs.Ytkhaiphipdpgeaa
/- Every normal triple stands in the Singer order: checked by the kernel. -/
namespace Go.Proofs.Ytkhaiphipdpgeaa
open Go.RowKit
set_option linter.unusedVariables false
set_option linter.unusedSimpArgs false
def allInB (p : Nat) : Bool := (List.range p).all fun a => (List.range p).all fun b => (List.range p).all fun c => !ptB (p : Int) (a : Int) (b : Int) (c : Int) || (sL p).contains ((a : Int), (b : Int), (c : Int))
set_option maxRecDepth 100000 in
set_option maxHeartbeats 4000000 in
theorem all_in : ∀ p ∈ ([3, 5, 7, 11, 13] : List Nat), allInB p = true := by decide +kernel
end Go.Proofs.Ytkhaiphipdpgeaa
/- Plain: the shift of a line: the least hit. -/
namespace Go.Proofs.Ytkhaiphipdpgeaa
open Go.RowKit
set_option linter.unusedVariables false
set_option linter.unusedSimpArgs false
theorem least_of {f : Nat → Bool} : ∀ {t : Nat}, f t = true → ∃ T, T ≤ t ∧ f T = true ∧ ∀ j, j < T → f j = false
  | 0, h => ⟨0, Nat.le_refl _, h, fun j hj => absurd hj (Nat.not_lt_zero _)⟩
  | t + 1, h => by
    by_cases h1 : ∃ s, s ≤ t ∧ f s = true
    · obtain ⟨s, hs, hf⟩ := h1
      rcases Nat.lt_or_ge s (t + 1) with h2 | h2
      · have hw : ∀ n, n ≤ t → f n = true → ∃ T, T ≤ n ∧ f T = true ∧ ∀ j, j < T → f j = false := by
          intro n
          induction n using Nat.strongRecOn with
          | _ n ih =>
            intro hn hf
            by_cases h3 : ∃ m, m < n ∧ f m = true
            · obtain ⟨m, hm, hfm⟩ := h3
              obtain ⟨T, a, b, c⟩ := ih m hm (by omega) hfm
              exact ⟨T, by omega, b, c⟩
            · refine ⟨n, Nat.le_refl _, hf, fun j hj => ?_⟩
              cases e : f j with
              | false => rfl
              | true => exact absurd ⟨j, hj, e⟩ h3
        obtain ⟨T, a, b, c⟩ := hw s hs hf
        exact ⟨T, by omega, b, c⟩
      · omega
    · refine ⟨t + 1, Nat.le_refl _, h, fun j hj => ?_⟩
      cases e : f j with
      | false => rfl
      | true => exact absurd ⟨j, by omega, e⟩ h1
theorem lines_all {n : Nat} (hn : n ∈ ([3, 5, 7, 11, 13] : List Nat)) : linesB n = true := by
  simp only [List.mem_cons, List.not_mem_nil, or_false] at hn
  rcases hn with rfl | rfl | rfl | rfl | rfl
  · exact lines_3.1
  · exact lines_3.2.1
  · exact lines_3.2.2
  · exact lines_11
  · exact lines_13
/-- The least shift that is the line. -/
theorem shift_of {n : Nat} {l : Pt} (hn : n ∈ ([3, 5, 7, 11, 13] : List Nat)) (hl : l ∈ sL n) :
    ∃ T, T < n * n + n + 1 ∧ sortN (movN ((n * n + n + 1 : Nat) : Int) 1 (T : Int) (dL n)) = numU (onN (n : Int) (sL n) l) (n * n + n + 1) ∧ ∀ j, j < T → ¬ sortN (movN ((n * n + n + 1 : Nat) : Int) 1 (j : Int) (dL n)) = numU (onN (n : Int) (sL n) l) (n * n + n + 1) := by
  have h1 := List.all_eq_true.1 (lines_all hn) l hl
  obtain ⟨t, ht, hf⟩ := List.any_eq_true.1 h1
  unfold lnB at hf
  simp only [Bool.and_eq_true, decide_eq_true_eq] at hf
  have h2 := hf.2.2
  rw [← sortN_ins] at h2
  obtain ⟨T, a, b, c⟩ := least_of (f := fun j => decide (sortN (movN ((n * n + n + 1 : Nat) : Int) 1 (j : Int) (dL n)) = numU (onN (n : Int) (sL n) l) (n * n + n + 1))) (t := t) (by simpa using h2)
  have := List.mem_range.1 ht
  exact ⟨T, by omega, by simpa using b, fun j hj => by simpa using c j hj⟩
end Go.Proofs.Ytkhaiphipdpgeaa
/- Contracts: LineOfShift, refused. -- numbers -/
namespace Go.Proofs.Ytkhaiphipdpgeaa
open Go.RowKit
set_option linter.unusedVariables false
set_option linter.unusedSimpArgs false
theorem prime_sq {p : Int} (hp : prB p = true) : 3 ≤ p ∧ p ≤ 13 ∧ 0 ≤ p * p ∧ p * p ≤ 169 := by
  obtain ⟨h1, h2⟩ := prB_bd hp
  have h3 : p * p ≤ 13 * 13 := Int.mul_le_mul h2 h2 (by omega) (by omega)
  have h4 : 0 ≤ p * p := Int.mul_nonneg (by omega) (by omega)
  exact ⟨h1, h2, h4, by omega⟩
set_option maxRecDepth 20000 in
set_option maxHeartbeats 4000000 in
theorem LineOfShift_impl_no (p t : Int) (w : World) (hno : prB p = true → t < 0 ∨ p * p + p < t) :
    Calls Try.prog 20 #[.int .i64 p, .int .i64 t] w (Ret w (.tuple #[pV (0, 0, 0), .int .i64 2])) := by
  rcases hp : prB p with _ | _
  · go_enter Try.func20, Try.ntmps20
    go_wp2_with (first | (refine wl_load ?_) | (refine wl_store ?_) | (refine wl_build ?_) | (refine wl_slice ?_) | (refine wl_append ?_; intro v' w' ho hg hb; have hs := hg.size; (try simp at hs); (try rw [ptCs_end] at ho); (try rw [ints_end] at ho); (try simp only [Nat.zero_add, Nat.reduceAdd, List.nil_append, List.cons_append] at ho)) | (go_at_call 38; (with_reducible refine (isPrime_no _ _ hp).mono ?_); rintro e w' ⟨rfl, rfl⟩) | ((with_reducible apply region_gd (id := 5)); refine region_QA (id := 5) 14 ?_; apply Exists.intro; refine ⟨fun G => ?_, fun W hl => ?_⟩; (· (simp only [List.take_succ_cons, List.take_zero]; (repeat (first | go_big_quiet_skip | (go_big_quiet_want; first | (refine q_load ?_; simp only [Act.put, List.setIfInBounds_toArray, List.set_cons_zero, List.set_cons_succ]; go_big_quiet_on) | (go_big_quiet_op; first | go_big_quiet_on)))); exact rfl)); have hs := hl.out.size; (try simp at hs); simp only [List.drop_succ_cons, List.drop_zero]))
    (first | (go_ret; refine ⟨?_, LowK.out findLow⟩; first | exact rfl | skip) | (apply ret_rowT Try.results20; exact rfl; exact rfl; (exact findRow); exact rfl; (first | exact Try.sizeOf55 | exact Try.sizeOf34 | exact Try.sizeOf68); (first | exact Try.isAgg55 | exact Try.isAgg34 | exact Try.isAgg68); exact rfl; refine ret_ret ?_ findLow; first | exact rfl | skip) | (apply ret_row Try.results20; exact rfl; (exact findRow); exact rfl; (first | exact Try.sizeOf55 | exact Try.sizeOf34 | exact Try.sizeOf68); (first | exact Try.isAgg55 | exact Try.isAgg34 | exact Try.isAgg68); exact rfl; refine ret_ret ?_ findLow; first | exact rfl | skip))
  · have hr := hno hp
    obtain ⟨h1, h2, h3, h4⟩ := prime_sq hp
    go_enter Try.func20, Try.ntmps20
    go_wp2_with (first | (refine wl_load ?_) | (refine wl_store ?_) | (refine wl_build ?_) | (refine wl_slice ?_) | (refine wl_append ?_; intro v' w' ho hg hb; have hs := hg.size; (try simp at hs); (try rw [ptCs_end] at ho); (try rw [ints_end] at ho); (try simp only [Nat.zero_add, Nat.reduceAdd, List.nil_append, List.cons_append] at ho)) | (go_at_call 38; (with_reducible refine (isPrime_yes _ _ hp).mono ?_); rintro e w' ⟨rfl, rfl⟩) | (go_at_call 30; (with_reducible refine (within_no _ _ _ _ hr).mono ?_); rintro e w' ⟨rfl, rfl⟩) | ((with_reducible apply region_gd (id := 5)); refine region_QA (id := 5) 14 ?_; apply Exists.intro; refine ⟨fun G => ?_, fun W hl => ?_⟩; (· (simp only [List.take_succ_cons, List.take_zero]; (repeat (first | go_big_quiet_skip | (go_big_quiet_want; first | (refine q_load ?_; simp only [Act.put, List.setIfInBounds_toArray, List.set_cons_zero, List.set_cons_succ]; go_big_quiet_on) | (go_big_quiet_op; first | go_big_quiet_on)))); exact rfl)); have hs := hl.out.size; (try simp at hs); simp only [List.drop_succ_cons, List.drop_zero]))
    (first | (go_ret; refine ⟨?_, LowK.out findLow⟩; first | exact rfl | skip) | (apply ret_rowT Try.results20; exact rfl; exact rfl; (exact findRow); exact rfl; (first | exact Try.sizeOf55 | exact Try.sizeOf34 | exact Try.sizeOf68); (first | exact Try.isAgg55 | exact Try.isAgg34 | exact Try.isAgg68); exact rfl; refine ret_ret ?_ findLow; first | exact rfl | skip) | (apply ret_row Try.results20; exact rfl; (exact findRow); exact rfl; (first | exact Try.sizeOf55 | exact Try.sizeOf34 | exact Try.sizeOf68); (first | exact Try.isAgg55 | exact Try.isAgg34 | exact Try.isAgg68); exact rfl; refine ret_ret ?_ findLow; first | exact rfl | skip))
set_option maxRecDepth 20000 in
set_option maxHeartbeats 4000000 in
theorem LineOfShift_spec_no (p t : Int) (w : World) (hno : prB p = true → t < 0 ∨ p * p + p < t) :
    Calls Try.prog 19 #[.int .i64 p, .int .i64 t] w (Ret w (.tuple #[pV (0, 0, 0), .int .i64 2])) := by
  rcases hp : prB p with _ | _
  · go_enter Try.func19, Try.ntmps19
    go_wp2_with (first | (refine wl_load ?_) | (refine wl_store ?_) | (refine wl_build ?_) | (refine wl_slice ?_) | (refine wl_append ?_; intro v' w' ho hg hb; have hs := hg.size; (try simp at hs); (try rw [ptCs_end] at ho); (try rw [ints_end] at ho); (try simp only [Nat.zero_add, Nat.reduceAdd, List.nil_append, List.cons_append] at ho)) | (go_at_call 34; (with_reducible refine (l01Prime_no _ _ hp).mono ?_); rintro e w' ⟨rfl, rfl⟩) | ((with_reducible apply region_gd (id := 5)); refine region_CHA (id := 5) 28 [25, 26] (LowK _) (.k (.k (.k (.k (.k (.k (.k (.k (.k (.k (.k (.k (.k (.k (.k (.k (.k (.k (.k (.k (.k (.k (.k (.k (.k (.d (.d (.k .n)))))))))))))))))))))))))))) (.d (.d (.d (.d (.d (.d (.d (.d (.d (.d (.d (.d (.d (.d (.d (.d (.d (.d (.d (.d (.d (.d (.d (.d (.d (.k (.k (.d .n)))))))))))))))))))))))))))) (fun W W' h l => LowK.link l h) (LowK.refl _) ?_; apply Exists.intro; refine ⟨fun W0 hk G => ?_, ?_⟩; (· (have hl := LowK.lnk hk; (repeat (first | go_big_quiet_skip | (go_big_quiet_want; first | (refine q_load ?_; simp only [Act.put, List.setIfInBounds_toArray, List.set_cons_zero, List.set_cons_succ]; go_big_quiet_on) | (go_big_quiet_op; first | go_big_quiet_on)))); exact rfl)); refine ch_step fun W1 hl => ?_; have hs := hl.out.size; (try simp at hs); go_wp2_with (first | (refine wl_load ?_) | (refine wl_store ?_) | (refine wl_build ?_) | (refine wl_slice ?_) | (refine wl_append ?_; intro v' w' ho hg hb; have hs := hg.size; (try simp at hs); (try rw [ptCs_end] at ho); (try rw [ints_end] at ho); (try simp only [Nat.zero_add, Nat.reduceAdd, List.nil_append, List.cons_append] at ho))); refine ⟨rfl, ⟨_, rfl⟩, findLow, ?_⟩; refine ch_step fun W1 hl => ?_; have hs := hl.out.size; (try simp at hs); go_wp2_with (first | (refine wl_load ?_) | (refine wl_store ?_) | (refine wl_build ?_) | (refine wl_slice ?_) | (refine wl_append ?_; intro v' w' ho hg hb; have hs := hg.size; (try simp at hs); (try rw [ptCs_end] at ho); (try rw [ints_end] at ho); (try simp only [Nat.zero_add, Nat.reduceAdd, List.nil_append, List.cons_append] at ho))); refine ⟨rfl, ⟨undef, rfl⟩, findLow, ?_⟩;  refine ch_nil fun W1 hl => ?_; have hs := hl.out.size; (try simp at hs); (try simp only [List.drop_succ_cons, List.drop_zero])))
    (first | (go_ret; refine ⟨?_, LowK.out findLow⟩; first | exact rfl | skip) | (apply ret_rowT Try.results19; exact rfl; exact rfl; (exact findRow); exact rfl; (first | exact Try.sizeOf55 | exact Try.sizeOf34 | exact Try.sizeOf68); (first | exact Try.isAgg55 | exact Try.isAgg34 | exact Try.isAgg68); exact rfl; refine ret_ret ?_ findLow; first | exact rfl | skip) | (apply ret_row Try.results19; exact rfl; (exact findRow); exact rfl; (first | exact Try.sizeOf55 | exact Try.sizeOf34 | exact Try.sizeOf68); (first | exact Try.isAgg55 | exact Try.isAgg34 | exact Try.isAgg68); exact rfl; refine ret_ret ?_ findLow; first | exact rfl | skip))
  · have hr := hno hp
    obtain ⟨h1, h2, h3, h4⟩ := prime_sq hp
    go_enter Try.func19, Try.ntmps19
    go_wp2_with (first | (refine wl_load ?_) | (refine wl_store ?_) | (refine wl_build ?_) | (refine wl_slice ?_) | (refine wl_append ?_; intro v' w' ho hg hb; have hs := hg.size; (try simp at hs); (try rw [ptCs_end] at ho); (try rw [ints_end] at ho); (try simp only [Nat.zero_add, Nat.reduceAdd, List.nil_append, List.cons_append] at ho)) | (go_at_call 34; (with_reducible refine (l01Prime_yes _ _ hp).mono ?_); rintro e w' ⟨rfl, rfl⟩) | (go_at_call 26; (with_reducible refine (in_no _ _ _ _ hr).mono ?_); rintro e w' ⟨rfl, hb⟩; have hl := Link.mk hb; have hs := hb.size; (try simp at hs); clear hb) | ((with_reducible apply region_gd (id := 5)); refine region_CHA (id := 5) 28 [25, 26] (LowK _) (.k (.k (.k (.k (.k (.k (.k (.k (.k (.k (.k (.k (.k (.k (.k (.k (.k (.k (.k (.k (.k (.k (.k (.k (.k (.d (.d (.k .n)))))))))))))))))))))))))))) (.d (.d (.d (.d (.d (.d (.d (.d (.d (.d (.d (.d (.d (.d (.d (.d (.d (.d (.d (.d (.d (.d (.d (.d (.d (.k (.k (.d .n)))))))))))))))))))))))))))) (fun W W' h l => LowK.link l h) (LowK.refl _) ?_; apply Exists.intro; refine ⟨fun W0 hk G => ?_, ?_⟩; (· (have hl := LowK.lnk hk; (repeat (first | go_big_quiet_skip | (go_big_quiet_want; first | (refine q_load ?_; simp only [Act.put, List.setIfInBounds_toArray, List.set_cons_zero, List.set_cons_succ]; go_big_quiet_on) | (go_big_quiet_op; first | go_big_quiet_on | (apply Exists.intro; refine ⟨fun g => ?_, ?_⟩; (· (have hl := growL g; first | (go_at_call 26; with_reducible exact grow_ret (in_no _ _ _ _ hr)))); go_big_quiet_on))))); exact rfl)); refine ch_step fun W1 hl => ?_; have hs := hl.out.size; (try simp at hs); go_wp2_with (first | (refine wl_load ?_) | (refine wl_store ?_) | (refine wl_build ?_) | (refine wl_slice ?_) | (refine wl_append ?_; intro v' w' ho hg hb; have hs := hg.size; (try simp at hs); (try rw [ptCs_end] at ho); (try rw [ints_end] at ho); (try simp only [Nat.zero_add, Nat.reduceAdd, List.nil_append, List.cons_append] at ho))); refine ⟨rfl, ⟨_, rfl⟩, findLow, ?_⟩; refine ch_step fun W1 hl => ?_; have hs := hl.out.size; (try simp at hs); go_wp2_with (first | (refine wl_load ?_) | (refine wl_store ?_) | (refine wl_build ?_) | (refine wl_slice ?_) | (refine wl_append ?_; intro v' w' ho hg hb; have hs := hg.size; (try simp at hs); (try rw [ptCs_end] at ho); (try rw [ints_end] at ho); (try simp only [Nat.zero_add, Nat.reduceAdd, List.nil_append, List.cons_append] at ho))); refine ⟨rfl, ⟨undef, rfl⟩, findLow, ?_⟩;  refine ch_nil fun W1 hl => ?_; have hs := hl.out.size; (try simp at hs); (try simp only [List.drop_succ_cons, List.drop_zero])))
    (first | (go_ret; refine ⟨?_, LowK.out findLow⟩; first | exact rfl | skip) | (apply ret_rowT Try.results19; exact rfl; exact rfl; (exact findRow); exact rfl; (first | exact Try.sizeOf55 | exact Try.sizeOf34 | exact Try.sizeOf68); (first | exact Try.isAgg55 | exact Try.isAgg34 | exact Try.isAgg68); exact rfl; refine ret_ret ?_ findLow; first | exact rfl | skip) | (apply ret_row Try.results19; exact rfl; (exact findRow); exact rfl; (first | exact Try.sizeOf55 | exact Try.sizeOf34 | exact Try.sizeOf68); (first | exact Try.isAgg55 | exact Try.isAgg34 | exact Try.isAgg68); exact rfl; refine ret_ret ?_ findLow; first | exact rfl | skip))
end Go.Proofs.Ytkhaiphipdpgeaa
/- The law FnExactLineOfShift: walked. -- numbers -/
namespace Go.Proofs.Ytkhaiphipdpgeaa
open Go.RowKit
set_option linter.unusedVariables false
set_option linter.unusedSimpArgs false
theorem prime_mem {n : Nat} (hp : prB (n : Int) = true) : n ∈ ([3, 5, 7, 11, 13] : List Nat) := by
  rcases prB_cases hp with h | h | h | h | h
  · obtain rfl : n = 3 := by omega
    simp
  · obtain rfl : n = 5 := by omega
    simp
  · obtain rfl : n = 7 := by omega
    simp
  · obtain rfl : n = 11 := by omega
    simp
  · obtain rfl : n = 13 := by omega
    simp
theorem eqLine_P (c : Pt) (w : World) : Calls Try.prog 21 #[pV c, pV c] w (Ret w (.bool true)) := eqLine_same c.1 c.2.1 c.2.2 w
theorem dS {n : Nat} (hp : prB (n : Int) = true) : singL n = sL n ∧ numU (onN (n : Int) (singL n) (1, 0, 0)) (n * n + n + 1) = dL n ∧ 2 ≤ (dL n).length ∧ (dL n).length ≤ 1000 ∧ ∀ k ∈ dL n, 0 ≤ k ∧ k < ((n * n + n + 1 : Nat) : Int) := by
  have hm : n ∈ ([3, 5, 7, 11, 13] : List Nat) := by
    rcases prB_cases hp with h | h | h | h | h
    · obtain rfl : n = 3 := by omega
      simp
    · obtain rfl : n = 5 := by omega
      simp
    · obtain rfl : n = 7 := by omega
      simp
    · obtain rfl : n = 11 := by omega
      simp
    · obtain rfl : n = 13 := by omega
      simp
  have hS := sL_eq n hm
  refine ⟨hS, by rw [hS]; exact dL_eq0 n hm, ?_⟩
  have h1 : ∀ p ∈ ([3, 5, 7, 11, 13] : List Nat), 2 ≤ (dL p).length ∧ (dL p).length ≤ 1000 ∧ ∀ k ∈ dL p, 0 ≤ k ∧ k < ((p * p + p + 1 : Nat) : Int) := by decide +kernel
  exact h1 n hm
theorem shift_facts2 (n t : Nat) (hp : prB (n : Int) = true) (ht : t < n * n + n + 1) :
    ∃ e0 e1 i0 i1 j0 j1 : Nat, (dL n).getD 0 0 = (e0 : Int) ∧ (dL n).getD 1 0 = (e1 : Int) ∧ e0 < n * n + n + 1 ∧ e1 < n * n + n + 1 ∧ ((e0 : Int) + t) % ((n * n + n + 1 : Nat) : Int) = (i0 : Int) ∧ ((e1 : Int) + t) % ((n * n + n + 1 : Nat) : Int) = (i1 : Int) ∧ i0 < n * n + n + 1 ∧ i1 < n * n + n + 1 ∧
      (sortN (movN ((n * n + n + 1 : Nat) : Int) 1 (t : Int) (dL n))).getD 0 0 = (j0 : Int) ∧ (sortN (movN ((n * n + n + 1 : Nat) : Int) 1 (t : Int) (dL n))).getD 1 0 = (j1 : Int) ∧ j0 < n * n + n + 1 ∧ j1 < n * n + n + 1 ∧ crsN (n : Int) ((sL n).getD j0 (0, 0, 0)) ((sL n).getD j1 (0, 0, 0)) = crsN (n : Int) ((sL n).getD i0 (0, 0, 0)) ((sL n).getD i1 (0, 0, 0)) := by
  obtain ⟨hS, hd, hd2, hd3, hmem⟩ := dS hp
  have hk := List.all_eq_true.1 (chk_all n (prime_mem hp)) t (List.mem_range.2 ht)
  unfold chkS at hk
  rw [← sortN_ins] at hk
  generalize hL : sortN (movN ((n * n + n + 1 : Nat) : Int) 1 (t : Int) (dL n)) = L at hk ⊢
  generalize hM : movN ((n * n + n + 1 : Nat) : Int) 1 (t : Int) (dL n) = M at hk
  unfold chkB at hk
  simp only [Bool.and_eq_true, decide_eq_true_eq] at hk
  obtain ⟨⟨hc, l0, l1, l2, l3⟩, m0, m1⟩ := hk
  have g0 : ∀ i, i < (dL n).length → 0 ≤ (dL n).getD i 0 ∧ (dL n).getD i 0 < ((n * n + n + 1 : Nat) : Int) := fun i hi => by
    have : (dL n).getD i 0 = (dL n)[i] := by simp [List.getD, hi]
    rw [this]; exact hmem _ (List.getElem_mem _)
  have a0 := g0 0 (by omega)
  have a1 := g0 1 (by omega)
  generalize (dL n).getD 0 0 = u0 at *
  generalize (dL n).getD 1 0 = u1 at *
  have hNp : (0 : Int) < ((n * n + n + 1 : Nat) : Int) := by omega
  generalize hN : n * n + n + 1 = N at *
  have b0 := Int.emod_nonneg (u0 + t) (show (N : Int) ≠ 0 by omega)
  have b0' := Int.emod_lt_of_pos (u0 + t) hNp
  have b1 := Int.emod_nonneg (u1 + t) (show (N : Int) ≠ 0 by omega)
  have b1' := Int.emod_lt_of_pos (u1 + t) hNp
  rw [m0] at b0 b0'
  rw [m1] at b1 b1'
  obtain ⟨v0, rfl⟩ := Int.eq_ofNat_of_zero_le a0.1
  obtain ⟨v1, rfl⟩ := Int.eq_ofNat_of_zero_le a1.1
  refine ⟨v0, v1, (M.getD 0 0).toNat, (M.getD 1 0).toNat, (L.getD 0 0).toNat, (L.getD 1 0).toNat, rfl, rfl, by omega, by omega, by rw [m0]; omega, by rw [m1]; omega, by omega, by omega, by omega, by omega, by omega, by omega, hc⟩
theorem LineOfShift_both (n t : Nat) (hp : prB (n : Int) = true) (ht : t < n * n + n + 1) :
    ∃ c : Pt, (∀ w : World, Calls Try.prog 20 #[.int .i64 (n : Int), .int .i64 (t : Int)] w (Ret w (.tuple #[pV c, .int .i64 0]))) ∧ (∀ w : World, Calls Try.prog 19 #[.int .i64 (n : Int), .int .i64 (t : Int)] w (Ret w (.tuple #[pV c, .int .i64 0]))) := by
  obtain ⟨hS, hd, hd2, hd3, hmem⟩ := dS hp
  obtain ⟨e0, e1, i0, i1, j0, j1, f0, f1, be0, be1, m0, m1, bi0, bi1, s0, s1, bj0, bj1, hc⟩ := shift_facts2 n t hp ht
  refine ⟨_, fun w => LineOfShift_impl_yes n t j0 j1 (n * n + n + 1) (dL n).length (sL n) (dL n) _ _ w hp rfl ht hS (by rw [← hS]; exact hd) rfl rfl hd2 hd3 hmem s0 s1 bj0 bj1 rfl, fun w => LineOfShift_spec_yes n t e0 e1 i0 i1 (n * n + n + 1) (dL n).length (sL n) (dL n) _ w hp rfl ht hS (by rw [← hS]; exact hd) rfl hd2 hd3 f0 f1 be0 be1 m0 m1 bi0 bi1 hc.symm⟩
set_option maxRecDepth 20000 in
set_option maxHeartbeats 4000000 in
theorem FnExactLineOfShift_of (p t : Int) (c : Pt) (q : Int) (w : World) (HI0 : ∀ w : World, Calls Try.prog 20 #[.int .i64 p, .int .i64 t] w (Ret w (.tuple #[pV c, .int .i64 q]))) (HS0 : ∀ w : World, Calls Try.prog 19 #[.int .i64 p, .int .i64 t] w (Ret w (.tuple #[pV c, .int .i64 q]))) :
    Calls Try.prog 6 #[.int .i64 p, .int .i64 t] w (Ret w (.bool true)) := by
  have HI := Lib.hid HI0
  have HS := Lib.hid HS0
  clear HI0 HS0
  go_enter Try.func6, Try.ntmps6
  go_wp2_with (first | (refine wl_load ?_) | (refine wl_store ?_) | (refine wl_build ?_) | (refine wl_slice ?_) | (refine wl_append ?_; intro v' w' ho hg hb; have hs := hg.size; (try simp at hs); (try rw [ptCs_end] at ho); (try rw [ints_end] at ho); (try simp only [Nat.zero_add, Nat.reduceAdd, List.nil_append, List.cons_append] at ho)) | (go_at_call 19; (with_reducible refine (HS.out _).mono ?_); rintro e w' ⟨rfl, hb⟩; have hl := Link.mk hb; have hs := hb.size; (try simp at hs); clear hb) | (go_at_call 20; (with_reducible refine (HI.out _).mono ?_); rintro e w' ⟨rfl, hb⟩; have hl := Link.mk hb; have hs := hb.size; (try simp at hs); clear hb) | (go_at_call 21; (with_reducible refine (eqLine_P c _).mono ?_); rintro e w' ⟨rfl, hb⟩; have hl := Link.mk hb; have hs := hb.size; (try simp at hs); clear hb))
  (first | (go_ret; refine ⟨?_, LowK.out findLow⟩; first | exact rfl | skip) | (apply ret_rowT Try.results6; exact rfl; exact rfl; (exact findRow); exact rfl; (first | exact Try.sizeOf55 | exact Try.sizeOf34 | exact Try.sizeOf68); (first | exact Try.isAgg55 | exact Try.isAgg34 | exact Try.isAgg68); exact rfl; refine ret_ret ?_ findLow; first | exact rfl | skip) | (apply ret_row Try.results6; exact rfl; (exact findRow); exact rfl; (first | exact Try.sizeOf55 | exact Try.sizeOf34 | exact Try.sizeOf68); (first | exact Try.isAgg55 | exact Try.isAgg34 | exact Try.isAgg68); exact rfl; refine ret_ret ?_ findLow; first | exact rfl | skip))
theorem FnExactLineOfShift_walk (p t : Int) (w : World) : Calls Try.prog 6 #[.int .i64 p, .int .i64 t] w (Ret w (.bool true)) := by
  by_cases h : prB p = true ∧ 0 ≤ t ∧ t ≤ p * p + p
  · obtain ⟨hp, h0, h1⟩ := h
    obtain ⟨h3, h13, -, -⟩ := prime_sq hp
    obtain ⟨n, rfl⟩ := Int.eq_ofNat_of_zero_le (show 0 ≤ p by omega)
    obtain ⟨u, rfl⟩ := Int.eq_ofNat_of_zero_le h0
    have hu : u < n * n + n + 1 := by
      have : ((u : Nat) : Int) ≤ ((n * n + n : Nat) : Int) := by simpa using h1
      omega
    obtain ⟨c, HI, HS⟩ := LineOfShift_both n u hp hu
    exact FnExactLineOfShift_of _ _ c 0 w HI HS
  · have hno : prB p = true → t < 0 ∨ p * p + p < t := fun hp => by
      by_cases h0 : 0 ≤ t
      · right
        have : ¬ t ≤ p * p + p := fun h1 => h ⟨hp, h0, h1⟩
        omega
      · left; omega
    exact FnExactLineOfShift_of _ _ (0, 0, 0) 2 w (fun w => LineOfShift_impl_no p t w hno) (fun w => LineOfShift_spec_no p t w hno)
end Go.Proofs.Ytkhaiphipdpgeaa
/- The law FnExactShiftOfLine: walked. -- numbers -/
namespace Go.Proofs.Ytkhaiphipdpgeaa
open Go.RowKit
set_option linter.unusedVariables false
set_option linter.unusedSimpArgs false
theorem toLine_P (l : Pt) (w : World) : Calls Try.prog 23 #[pV l] w (Ret w (pV l)) := toLine_any l.1 l.2.1 l.2.2 w
theorem ptB_mem {n : Nat} {l : Pt} (hp : prB (n : Int) = true) (h : ptB (n : Int) l.1 l.2.1 l.2.2 = true) : l ∈ sL n := by
  obtain ⟨x, y, z⟩ := l
  have hall := all_in n (prime_mem hp)
  have h2 : ptB (n : Int) x y z = true := h
  unfold ptB normB numsB at h2
  simp only [Bool.and_eq_true, List.all_cons, List.all_nil, numB_iff] at h2
  obtain ⟨-, -, ⟨x0, x1⟩, ⟨y0, y1⟩, ⟨z0, z1⟩, -⟩ := h2
  obtain ⟨a, rfl⟩ := Int.eq_ofNat_of_zero_le x0
  obtain ⟨b, rfl⟩ := Int.eq_ofNat_of_zero_le y0
  obtain ⟨c, rfl⟩ := Int.eq_ofNat_of_zero_le z0
  unfold allInB at hall
  have h3 := List.all_eq_true.1 (List.all_eq_true.1 (List.all_eq_true.1 hall a (List.mem_range.2 (by omega))) b (List.mem_range.2 (by omega))) c (List.mem_range.2 (by omega))
  rw [show ptB (n : Int) (a : Int) (b : Int) (c : Int) = true from h] at h3
  exact List.contains_iff_mem.1 (by simpa using h3)
theorem ShiftOfLine_both (n : Nat) (l : Pt) (hp : prB (n : Int) = true) (hl : ptB (n : Int) l.1 l.2.1 l.2.2 = true) (hlen : (numU (onN (n : Int) (sL n) l) (n * n + n + 1)).length ≤ 1000) :
    ∃ T : Nat, (∀ w : World, Calls Try.prog 24 #[.int .i64 (n : Int), pV l] w (Ret w (.tuple #[.int .i64 (T : Int), .int .i64 0]))) ∧ (∀ w : World, Calls Try.prog 22 #[.int .i64 (n : Int), pV l] w (Ret w (.tuple #[.int .i64 (T : Int), .int .i64 0]))) := by
  obtain ⟨hS, hd, hd2, hd3, hmem⟩ := dS hp
  obtain ⟨T, hT, hhit, hmin⟩ := shift_of (prime_mem hp) (ptB_mem hp hl)
  have hv : codeOf (n : Int) (ptsB (n : Int) [l]) = 0 := by simp [codeOf, ptsB, hp, hl]
  have hli : In13 l := in13' hl
  exact ⟨T, fun w => ShiftOfLine_impl_yes n _ _ _ T (sL n) (dL n) _ l w hp rfl hv hli hS (by rw [← hS]; exact hd) rfl rfl hd3 rfl hlen hmem hT hhit hmin, fun w => ShiftOfLine_spec_yes n _ _ _ T (sL n) (dL n) _ l w hp rfl hv hli hS (by rw [← hS]; exact hd) rfl rfl hd3 rfl hlen hmem hT hhit hmin⟩
set_option maxRecDepth 20000 in
set_option maxHeartbeats 4000000 in
theorem FnExactShiftOfLine_of (p : Int) (l : Pt) (t q : Int) (w : World) (HI0 : ∀ w : World, Calls Try.prog 24 #[.int .i64 p, pV l] w (Ret w (.tuple #[.int .i64 t, .int .i64 q]))) (HS0 : ∀ w : World, Calls Try.prog 22 #[.int .i64 p, pV l] w (Ret w (.tuple #[.int .i64 t, .int .i64 q]))) :
    Calls Try.prog 7 #[.int .i64 p, pV l] w (Ret w (.bool true)) := by
  have HI := Lib.hid HI0
  have HS := Lib.hid HS0
  clear HI0 HS0
  go_enter Try.func7, Try.ntmps7
  go_wp2_with (first | (refine wl_load ?_) | (refine wl_store ?_) | (refine wl_build ?_) | (refine wl_slice ?_) | (refine wl_append ?_; intro v' w' ho hg hb; have hs := hg.size; (try simp at hs); (try rw [ptCs_end] at ho); (try rw [ints_end] at ho); (try simp only [Nat.zero_add, Nat.reduceAdd, List.nil_append, List.cons_append] at ho)) | (go_at_call 22; (with_reducible refine (HS.out _).mono ?_); rintro e w' ⟨rfl, hb⟩; have hl := Link.mk hb; have hs := hb.size; (try simp at hs); clear hb) | (go_at_call 24; (with_reducible refine (HI.out _).mono ?_); rintro e w' ⟨rfl, hb⟩; have hl := Link.mk hb; have hs := hb.size; (try simp at hs); clear hb) | (go_at_call 23; (with_reducible refine (toLine_P l _).mono ?_); rintro e w' ⟨rfl, hb⟩; have hl := Link.mk hb; have hs := hb.size; (try simp at hs); clear hb))
  (first | (go_ret; refine ⟨?_, LowK.out findLow⟩; first | exact rfl | skip) | (apply ret_rowT Try.results7; exact rfl; exact rfl; (exact findRow); exact rfl; (first | exact Try.sizeOf55 | exact Try.sizeOf34 | exact Try.sizeOf68); (first | exact Try.isAgg55 | exact Try.isAgg34 | exact Try.isAgg68); exact rfl; refine ret_ret ?_ findLow; first | exact rfl | skip) | (apply ret_row Try.results7; exact rfl; (exact findRow); exact rfl; (first | exact Try.sizeOf55 | exact Try.sizeOf34 | exact Try.sizeOf68); (first | exact Try.isAgg55 | exact Try.isAgg34 | exact Try.isAgg68); exact rfl; refine ret_ret ?_ findLow; first | exact rfl | skip))
theorem FnExactShiftOfLine_walk (p x y z : Int) (w : World) : Calls Try.prog 7 #[.int .i64 p, ptV x y z] w (Ret w (.bool true)) := by
  show Calls Try.prog 7 #[.int .i64 p, pV (x, y, z)] w (Ret w (.bool true))
  cases hc : (codeOf p (ptsB p [(x, y, z)]) == 0) with
  | false => exact FnExactShiftOfLine_of _ _ 0 _ w (fun w => ShiftOfLine_impl_no p (x, y, z) _ w rfl hc (by simpa using hc)) (fun w => ShiftOfLine_spec_no p (x, y, z) _ w rfl hc (by simpa using hc))
  | true =>
    have h0 : codeOf p (ptsB p [(x, y, z)]) = 0 := by simpa using hc
    have hp : prB p = true := by
      cases h : prB p with
      | true => rfl
      | false => simp [codeOf, h] at h0
    have hl : ptB p x y z = true := by
      cases h : ptB p x y z with
      | true => rfl
      | false => simp [codeOf, ptsB, hp, h] at h0
    obtain ⟨h3, h13, -, -⟩ := prime_sq hp
    obtain ⟨n, rfl⟩ := Int.eq_ofNat_of_zero_le (show 0 ≤ p by omega)
    have hlen : (numU (onN (n : Int) (sL n) (x, y, z)) (n * n + n + 1)).length ≤ 1000 := by
      have h1 := numU_length (onN (n : Int) (sL n) (x, y, z)) (n * n + n + 1)
      have hn13 : n ≤ 13 := by omega
      have h2 : n * n ≤ 13 * 13 := Nat.mul_le_mul hn13 hn13
      omega
    obtain ⟨T, HI, HS⟩ := ShiftOfLine_both n (x, y, z) hp hl hlen
    exact FnExactShiftOfLine_of _ _ _ 0 w HI HS
end Go.Proofs.Ytkhaiphipdpgeaa
