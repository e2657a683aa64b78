/- Contracts: the Singer map, as the program and as the reference find it. (Printed by gens6.py, a program of this session.) -/
import Derived.Test.YthkbhaaodegocaaS5
namespace Go.Proofs.Ythkbhaaodegocaa
open Go.RowKit
set_option linter.unusedVariables false
set_option linter.unusedSimpArgs false
theorem count_any (n : Nat) (w : World) (hn : n ≤ 13) : Calls Try.prog 139 #[.int .i64 (n : Int)] w fun e w' => e = .returned (.int .i64 ((n * n + n + 1 : Nat) : Int)) ∧ w = w' := by
  have h2 : 0 ≤ (n : Int) * (n : Int) ∧ (n : Int) * (n : Int) ≤ 169 := by
    refine ⟨Int.mul_nonneg (by omega) (by omega), ?_⟩
    have : (n : Int) * (n : Int) ≤ 13 * 13 := Int.mul_le_mul (by omega) (by omega) (by omega) (by omega)
    omega
  have e1 := wrap_small (z := (n : Int) * (n : Int)) (by omega)
  generalize hq : (n : Int) * (n : Int) = q at *
  have e2 := wrap_small (z := q + (n : Int)) (by omega)
  have e3 := wrap_small (z := q + (n : Int) + 1) (by omega)
  go_enter Try.func139, Try.ntmps139
  go_wp2
  go_ret
  exact ⟨ret_int (by simp only [Int.natCast_add, Int.natCast_mul]; omega), rfl⟩
theorem det_comp (n c : Nat) (hn : 3 ≤ n) : detZ (0, 1, 0) (0, 0, 1) ((c : Int) % (n : Int), (c : Int) / (n : Int) % (n : Int), (c : Int) / ((n : Int) * (n : Int))) % (n : Int) = ((c % n : Nat) : Int) := by
  unfold detZ
  simp
theorem comp_cells (n c : Nat) : cellsM9 (compM n c) = #[.int .i64 0, .int .i64 1, .int .i64 0, .int .i64 0, .int .i64 0, .int .i64 1, .int .i64 ((c : Int) % (n : Int)), .int .i64 ((c : Int) / (n : Int) % (n : Int)), .int .i64 ((c : Int) / ((n : Int) * (n : Int)))] := rfl
structure Codes (n : Nat) : Prop where
  pr : prB (n : Int) = true
  lt : firstC n < n * n * n
  no : ∀ c, c < firstC n → c % n = 0 ∨ (c % n ≠ 0 ∧ ordM n (compM n c) ≠ 0 ∧ ordM n (compM n c) ≠ n * n + n + 1)
  yes : firstC n % n ≠ 0 ∧ ordM n (compM n (firstC n)) = n * n + n + 1
theorem codes_of {n : Nat} (hp : prB (n : Int) = true) : Codes n := by
  have hm : n ∈ [3, 5, 7, 11, 13] := by
    have := prB_cases hp
    simp only [List.mem_cons, List.not_mem_nil, or_false]
    omega
  have hk := checks n hm
  unfold checkC at hk
  simp only [Bool.and_eq_true, bne_iff_ne, ne_eq, beq_iff_eq] at hk
  refine ⟨hp, ?_, fun c hc => ?_, hk.2⟩
  · simp only [List.mem_cons, List.not_mem_nil, or_false] at hm
    rcases hm with rfl | rfl | rfl | rfl | rfl <;> decide
  · have := List.all_eq_true.1 hk.1 c (List.mem_range.2 hc)
    simp only [Bool.or_eq_true, beq_iff_eq, Bool.and_eq_true, bne_iff_ne, ne_eq] at this
    rcases this with h | h
    · exact .inl h
    · by_cases h0 : c % n = 0
      · exact .inl h0
      · exact .inr ⟨h0, h.1, h.2⟩
set_option maxRecDepth 20000 in
set_option maxHeartbeats 8000000 in
theorem singer_any (n : Nat) (w : World) (hC : Codes n) :
    Calls Try.prog 87 #[.int .i64 (n : Int)] w (Ret w (.agg (cellsM9 (compM n (firstC n))))) := by
  have HC := Lib.hid hC
  obtain ⟨hn3, hn13⟩ := prB_bd hC.pr
  have hlt := hC.lt
  obtain ⟨M, hM⟩ : ∃ M : Int, (n : Int) * (n : Int) = M := ⟨_, rfl⟩
  obtain ⟨N3, hN3⟩ : ∃ N3 : Int, M * (n : Int) = N3 := ⟨_, rfl⟩
  have h2le : n * n ≤ 13 * 13 := Nat.mul_le_mul (by omega) (by omega)
  have h3le : n * n * n ≤ 13 * 13 * 13 := Nat.mul_le_mul h2le (by omega)
  have h2pos : 0 < n * n := Nat.mul_pos (by omega) (by omega)
  have hMv : M = ((n * n : Nat) : Int) := by rw [← hM]; simp
  have hNv : N3 = ((n * n * n : Nat) : Int) := by rw [← hN3, hMv]; simp
  obtain ⟨N2, hN2⟩ : ∃ N2 : Nat, n * n = N2 := ⟨_, rfl⟩
  obtain ⟨N4, hN4⟩ : ∃ N4 : Nat, N2 * n = N4 := ⟨_, rfl⟩
  rw [hN2] at hMv hNv h2le h3le h2pos hlt
  rw [hN4] at hNv h3le hlt
  have w1 : IntKind.wrap .i64 M = M := wrap_small (by omega)
  have w2 : IntKind.wrap .i64 N3 = N3 := wrap_small (by omega)
  have HN2 := Lib.hid hN2
  have HMv := Lib.hid hMv
  obtain ⟨F, hF⟩ : ∃ F : Nat, firstC n = F := ⟨_, rfl⟩
  have HF := Lib.hid hF
  rw [hF] at hlt
  have hltz : (F : Int) < N3 := by omega
  have hF2 : F < 2197 := by omega
  have HlN := Lib.hid hlt
  have hM0 : 0 < M := by omega
  have HN4 := Lib.hid hN4
  clear hN2 hN4 hMv hNv hF h2le h3le h2pos hlt
  go_enter Try.func87, Try.ntmps87
  go_wp2
  go_loopw [10] (fun q wr => ∃ c : Nat, c ≤ F ∧ q = .int .i64 (c : Int) ∧ Hid (wr.heap[w.heap.size]? = some (.cells #[.int .i64 0, .int .i64 0, .int .i64 0, .int .i64 0, .int .i64 0, .int .i64 0, .int .i64 0, .int .i64 0, .int .i64 0] 26 (0, 0))) ∧ Hid (Below w.heap.size w wr)) (fun q wr => F + 1 - (intOf q).toNat)
  case atStart => exact ⟨0, Nat.zero_le _, rfl, Lib.hid (by rw [hn_atN _ _ _ (by simp)]), Lib.hid (by repeat (first | exact Below.refl _ _ | refine bset ?_ _ _ (by omega) _ | refine bal ?_ _ | refine bdrN ?_ _ | refine bdr ?_))⟩
  case round =>
    obtain ⟨c, hc, rfl, HR, HB⟩ := hrel
    have hcN : (c : Int) < N3 := by omega
    have hc2 : c < 2197 := by omega
    obtain ⟨a, ha⟩ : ∃ a : Int, (c : Int) % (n : Int) = a := ⟨_, rfl⟩
    obtain ⟨d0, hd0⟩ : ∃ d0 : Int, (c : Int) / (n : Int) = d0 := ⟨_, rfl⟩
    obtain ⟨b, hb⟩ : ∃ b : Int, d0 % (n : Int) = b := ⟨_, rfl⟩
    obtain ⟨d, hd⟩ : ∃ d : Int, (c : Int) / M = d := ⟨_, rfl⟩
    obtain ⟨dv, hdv⟩ : ∃ dv : Nat, c % n = dv := ⟨_, rfl⟩
    have nz : ¬ n = 0 := by omega
    have nz2 : ¬ M = 0 := by omega
    have e17 : Int.tmod (c : Int) (n : Int) = a := by rw [← ha]; exact Int.tmod_eq_emod_of_nonneg (by omega)
    have w17 : IntKind.wrap .i64 a = a := by rw [← ha]; exact wrap_small (modb (by omega))
    have b20 : 0 ≤ d0 ∧ d0 ≤ 1000000 := by rw [← hd0]; exact ⟨Int.ediv_nonneg (by omega) (by omega), Int.le_trans (Int.ediv_le_self _ (by omega)) (by omega)⟩
    have e20 : Int.tdiv (c : Int) (n : Int) = d0 := by rw [← hd0]; exact Int.tdiv_eq_ediv_of_nonneg (by omega)
    have w20 : IntKind.wrap .i64 d0 = d0 := wrap_small b20
    have e22 : Int.tmod d0 (n : Int) = b := by rw [← hb]; exact Int.tmod_eq_emod_of_nonneg b20.1
    have w22 : IntKind.wrap .i64 b = b := by rw [← hb]; exact wrap_small (modb (by omega))
    have e27 : Int.tdiv (c : Int) M = d := by rw [← hd]; exact Int.tdiv_eq_ediv_of_nonneg (by omega)
    have w27 : IntKind.wrap .i64 d = d := by rw [← hd]; exact wrap_small ⟨Int.ediv_nonneg (by omega) (by omega), Int.le_trans (Int.ediv_le_self _ (by omega)) (by omega)⟩
    have hcell : cellsM9 (compM n c) = #[.int .i64 0, .int .i64 1, .int .i64 0, .int .i64 0, .int .i64 0, .int .i64 1, .int .i64 a, .int .i64 b, .int .i64 d] := by rw [comp_cells, ha, hM, hd, hd0, hb]
    have hin : InM (compM n c) := inM_comp HC.out.pr (by rw [HN2.out, HN4.out]; have := HlN.out; omega)
    have hdz : (dv : Int) = a := by rw [← ha, ← hdv]; simp
    have HDt : Hid (∀ W, Calls Try.prog 136 #[.agg #[.int .i64 0, .int .i64 1, .int .i64 0, .int .i64 0, .int .i64 0, .int .i64 1, .int .i64 a, .int .i64 b, .int .i64 d], .int .i64 (n : Int)] W (Ret W (.int .i64 (dv : Int)))) := Lib.hid (fun W => by
      have h1 := det_comp n c (by omega)
      rw [ha, hd0, hM, hd, hb, hdv] at h1
      obtain ⟨i0, i1, i2, _⟩ := inM_at hin
      have h2 := det_any n 0 1 0 0 0 1 a b d W HC.out.pr ⟨by decide, by decide, by decide⟩ ⟨by decide, by decide, by decide⟩ (by have h3 := i2; simp only [compM] at h3; rw [ha, hd0, hM, hd, hb] at h3; exact h3)
      rw [h1] at h2
      exact h2)
    have hHB := HB.out.size
    have lr0 := (Array.getElem?_eq_some_iff.1 HR.out).1
    have HKeep := Lib.hid (show True ∧ (c : Int) % (n : Int) = a ∧ (c : Int) / (n : Int) = d0 ∧ d0 % (n : Int) = b ∧ (c : Int) / M = d ∧ c % n = dv ∧ cellsM9 (compM n c) = #[.int .i64 0, .int .i64 1, .int .i64 0, .int .i64 0, .int .i64 0, .int .i64 1, .int .i64 a, .int .i64 b, .int .i64 d] ∧ InM (compM n c) from ⟨trivial, ha, hd0, hb, hd, hdv, hcell, hin⟩)
    clear ha hd0 hb hd hdv hcell hin
    go_wp2
    refine region_boxes [⟨17, 18, 4, 26, #[.int .i64 0, .int .i64 0, .int .i64 0, .int .i64 0, .int .i64 0, .int .i64 0, .int .i64 0, .int .i64 0, .int .i64 0], #[.int .i64 0, .int .i64 1, .int .i64 0, .int .i64 0, .int .i64 0, .int .i64 1, .int .i64 a, .int .i64 b, .int .i64 d]⟩] [(13, ptV 0 1 0), (14, ptV 0 0 1), (15, .int .i64 (c : Int)), (16, .int .i64 (n : Int)), (17, .int .i64 a), (18, .int .i64 (c : Int)), (19, .int .i64 (n : Int)), (20, .int .i64 d0), (21, .int .i64 (n : Int)), (22, .int .i64 b), (23, .int .i64 (c : Int)), (24, .int .i64 (n : Int)), (25, .int .i64 (n : Int)), (26, .int .i64 M), (27, .int .i64 d), (28, ptV a b d), (29, .agg #[.int .i64 0, .int .i64 1, .int .i64 0, .int .i64 0, .int .i64 0, .int .i64 1, .int .i64 a, .int .i64 b, .int .i64 d])] (by kernel_rfl) (by kernel_rfl) (by kernel_rfl) (fun aE hpe => ?_)
    simp only [puts, Act.put, List.setIfInBounds_toArray, List.set_cons_zero, List.set_cons_succ] at hpe
    subst hpe
    refine ⟨⟨⟨?_, ?_⟩, trivial⟩, ⟨.inr ?_, .inr ?_, .inr ?_, .inr ?_, .inr ?_, .inr ?_, .inr ?_, .inr ?_, .inr ?_, .inr ?_, .inr ?_, .inr ?_, .inr ?_, .inr ?_, .inr ?_, .inr ?_, .inr ?_, .inl rfl, .inl rfl, trivial⟩, ?_⟩
    · intro o ho ρ W
      obtain rfl : _ = o := Option.some.inj ho
      simp [execOp, go_sem]
    · intro o ho ρ W g hv hp hg
      obtain rfl : _ = o := Option.some.inj ho
      exact run_store_row (U := #[.int .i64 0, .int .i64 1, .int .i64 0, .int .i64 0, .int .i64 0, .int .i64 1, .int .i64 a, .int .i64 b, .int .i64 d]) 26 (.tmp 4) (.tmp 29) rfl hp (hv 29 (by simp [readsOf, Op.operands]) (by show (29 : Nat) ≠ 4; decide)) hg rfl Try.sizeOf26 (by simp [Value.oneCell'])
    · exact CalmG.mk 13 (ptV 0 1 0) rfl rfl rfl (fun W hW => calm_run (by simp [execOp, Act.eval, go_sem]))
    · exact CalmG.mk 14 (ptV 0 0 1) rfl rfl rfl (fun W hW => calm_run (by simp [execOp, Act.eval, go_sem]))
    · exact CalmG.mk 15 (.int .i64 (c : Int)) rfl rfl rfl (fun W hW => calm_move (.tmp 3) rfl rfl)
    · exact CalmG.mk 16 (.int .i64 (n : Int)) rfl rfl rfl (fun W hW => calm_move (.tmp 0) rfl rfl)
    · exact CalmG.mk 17 (.int .i64 a) rfl rfl rfl (fun W hW => calm_run (by simp [execOp, Act.eval, go_sem, nz, e17, w17]))
    · exact CalmG.mk 18 (.int .i64 (c : Int)) rfl rfl rfl (fun W hW => calm_move (.tmp 3) rfl rfl)
    · exact CalmG.mk 19 (.int .i64 (n : Int)) rfl rfl rfl (fun W hW => calm_move (.tmp 0) rfl rfl)
    · exact CalmG.mk 20 (.int .i64 d0) rfl rfl rfl (fun W hW => calm_run (by simp [execOp, Act.eval, go_sem, nz, e20, w20]))
    · exact CalmG.mk 21 (.int .i64 (n : Int)) rfl rfl rfl (fun W hW => calm_move (.tmp 0) rfl rfl)
    · exact CalmG.mk 22 (.int .i64 b) rfl rfl rfl (fun W hW => calm_run (by simp [execOp, Act.eval, go_sem, nz, e22, w22]))
    · exact CalmG.mk 23 (.int .i64 (c : Int)) rfl rfl rfl (fun W hW => calm_move (.tmp 3) rfl rfl)
    · exact CalmG.mk 24 (.int .i64 (n : Int)) rfl rfl rfl (fun W hW => calm_move (.tmp 0) rfl rfl)
    · exact CalmG.mk 25 (.int .i64 (n : Int)) rfl rfl rfl (fun W hW => calm_move (.tmp 0) rfl rfl)
    · exact CalmG.mk 26 (.int .i64 M) rfl rfl rfl (fun W hW => calm_run (by simp [execOp, Act.eval, go_sem, hM, w1]))
    · exact CalmG.mk 27 (.int .i64 d) rfl rfl rfl (fun W hW => calm_run (by simp [execOp, Act.eval, go_sem, nz2, e27, w27]))
    · exact CalmG.mk 28 (ptV a b d) rfl rfl rfl (fun W hW => calm_run (by simp [execOp, Act.eval, go_sem]))
    · exact CalmG.mk 29 (.agg #[.int .i64 0, .int .i64 1, .int .i64 0, .int .i64 0, .int .i64 0, .int .i64 1, .int .i64 a, .int .i64 b, .int .i64 d]) rfl rfl rfl (fun W hW => calm_run (by simp [execOp, Act.eval, go_sem]))
    intro g W2 hW2 hbx _
    obtain ⟨hg0, kb⟩ := hbx _ (.head _)
    dsimp only at hg0 kb
    simp only [List.map_cons, List.map_nil, puts, Act.put, List.setIfInBounds_toArray, List.set_cons_zero, List.set_cons_succ]
    generalize g 4 = gm at *
    clear hbx
    have lb := (Array.getElem?_eq_some_iff.1 kb).1
    have q0 : W2.cell? ⟨gm, 0, none⟩ = some (.int .i64 0) := row_int kb rfl
    have q1 : W2.cell? ⟨gm, 1, none⟩ = some (.int .i64 1) := row_int kb rfl
    have q2 : W2.cell? ⟨gm, 2, none⟩ = some (.int .i64 0) := row_int kb rfl
    have q3 : W2.cell? ⟨gm, 3, none⟩ = some (.int .i64 0) := row_int kb rfl
    have q4 : W2.cell? ⟨gm, 4, none⟩ = some (.int .i64 0) := row_int kb rfl
    have q5 : W2.cell? ⟨gm, 5, none⟩ = some (.int .i64 1) := row_int kb rfl
    have q6 : W2.cell? ⟨gm, 6, none⟩ = some (.int .i64 a) := row_int kb rfl
    have q7 : W2.cell? ⟨gm, 7, none⟩ = some (.int .i64 b) := row_int kb rfl
    have q8 : W2.cell? ⟨gm, 8, none⟩ = some (.int .i64 d) := row_int kb rfl
    have kr := (hW2.block _ lr0).trans HR.out
    have lr := (Array.getElem?_eq_some_iff.1 kr).1
    have HB2 := Lib.hid (low_tr' HB.out hW2 hHB)
    have hs2 := HB2.out.size
    clear hW2 HB HR lr0 hHB e17 w17 b20 e20 w20 e22 w22 e27 w27 nz2
    obtain ⟨_, ha, hd0, hb, hd, hdv, hcell, hin⟩ := HKeep.out
    have HOr := Lib.hid (fun (W : World) (K : Nat) (h1 : ordM n (compM n c) = K) (h2 : K ≠ 0) => (by have h3 := order_any n (compM n c) K W HC.out.pr hin h1 h2; rw [hcell] at h3; exact h3 : Calls Try.prog 138 #[.int .i64 (n : Int), .agg #[.int .i64 0, .int .i64 1, .int .i64 0, .int .i64 0, .int .i64 0, .int .i64 1, .int .i64 a, .int .i64 b, .int .i64 d]] W (Ret W (.int .i64 (K : Int)))))
    have HCo := Lib.hid (fun (W : World) => count_any n W (by omega))
    obtain ⟨Q, hQ⟩ : ∃ Q : Nat, n * n + n + 1 = Q := ⟨_, rfl⟩
    rw [hQ] at HCo
    have HCs := Lib.hid HC.out.no
    have HCy := Lib.hid HC.out.yes
    rw [HF.out, hQ] at HCy
    rw [HF.out, hQ] at HCs
    have HCell := Lib.hid hcell
    have HDv := Lib.hid hdv
    clear ha hd0 hb hd hdv hcell hin hdz HKeep hQ
    have tok1 : True := trivial
    have tok2 : True := trivial
    have tok3 : True := trivial
    by_cases hcF : c = F
    · subst hcF
      have hK : ordM n (compM n c) = Q := HCy.out.2
      have hQ0 : Q ≠ 0 := by have h1 := HC.out.yes.2; rw [HF.out, hK] at h1; omega
      have HO := Lib.hid (fun (W : World) => HOr.out W Q hK hQ0)
      have hz : ((dv : Int) == 0) = false := by have := HCy.out.1; rw [HDv.out] at this; simp; omega
      have hzn : ¬ dv = 0 := by have := HCy.out.1; rw [HDv.out] at this; exact this
      have hqq : ((Q : Int) == (Q : Int)) = true := by simp
      clear HCs HCy HOr hK hQ0
      go_wp2_with (first
      | (refine wpList_load_row _ rfl 26 _ rfl (g := gm) (T := 26) (cs := #[.int .i64 0, .int .i64 1, .int .i64 0, .int .i64 0, .int .i64 0, .int .i64 1, .int .i64 a, .int .i64 b, .int .i64 d]) (fr := (0, 0)) rfl kb 9 rfl Try.sizeOf26 Try.isAgg26 ?_)
      | (go_at_call 136; (with_reducible refine (HDt.out _).mono ?_); rintro e w3_ ⟨rfl, hb3⟩; obtain ⟨hcb3, hfb3, hlb3⟩ := bcell hb3; have hsz3 := hb3.size; (try simp at hsz3); have HB3 := Lib.hid hb3; clear hb3)
      | (refine wpList_load_row _ rfl 26 _ rfl (g := gm) (T := 26) (cs := #[.int .i64 0, .int .i64 1, .int .i64 0, .int .i64 0, .int .i64 0, .int .i64 1, .int .i64 a, .int .i64 b, .int .i64 d]) (fr := (0, 0)) rfl (by rw [HB3.out.block _ lb]; exact kb) 9 rfl Try.sizeOf26 Try.isAgg26 ?_)
      | (go_at_call 138; (with_reducible refine (HO.out _).mono ?_); rintro e w4_ ⟨rfl, hb4⟩; obtain ⟨hcb4, hfb4, hlb4⟩ := bcell hb4; have hsz4 := hb4.size; (try simp at hsz4); have HB4 := Lib.hid hb4; clear hb4)
      | (go_at_call 139; (with_reducible refine (HCo.out _).mono ?_); rintro e w' ⟨rfl, rfl⟩)
      | (refine wpList_load_row _ rfl 26 _ rfl (g := gm) (T := 26) (cs := #[.int .i64 0, .int .i64 1, .int .i64 0, .int .i64 0, .int .i64 0, .int .i64 1, .int .i64 a, .int .i64 b, .int .i64 d]) (fr := (0, 0)) rfl (by rw [HB4.out.block _ (by omega), HB3.out.block _ lb]; exact kb) 9 rfl Try.sizeOf26 Try.isAgg26 ?_)
      | (refine wpList_store_row _ rfl 26 _ _ rfl rfl (g := w.heap.size) (T := 26) (cs := #[.int .i64 0, .int .i64 0, .int .i64 0, .int .i64 0, .int .i64 0, .int .i64 0, .int .i64 0, .int .i64 0, .int .i64 0]) (U := #[.int .i64 0, .int .i64 1, .int .i64 0, .int .i64 0, .int .i64 0, .int .i64 1, .int .i64 a, .int .i64 b, .int .i64 d]) rfl rfl (by rw [HB4.out.block _ (by omega), HB3.out.block _ (by omega)]; exact kr) rfl Try.sizeOf26 (by simp [Value.oneCell']) ?_))
      exact bodyPost_ret (v := .agg #[.int .i64 0, .int .i64 1, .int .i64 0, .int .i64 0, .int .i64 0, .int .i64 1, .int .i64 a, .int .i64 b, .int .i64 d]) (results_row Try.results87 rfl (setRow_heap _ _ #[.int .i64 0, .int .i64 0, .int .i64 0, .int .i64 0, .int .i64 0, .int .i64 0, .int .i64 0, .int .i64 0, .int .i64 0] _ _ _ (by rw [HB4.out.block _ (by omega), HB3.out.block _ (by omega)]; exact kr)) 9 rfl Try.sizeOf26 Try.isAgg26) rfl ⟨by rw [HF.out, HCell.out], below_setRowN (low_tr' (low_tr' HB2.out HB3.out (by omega)) HB4.out (by omega)) (by omega) _⟩
    · have hclt : c < F := by omega
      rcases HCs.out c hclt with h0 | ⟨h0, h1, h2⟩
      · have h00 : dv = 0 := by rw [← HDv.out]; exact h0
        subst h00
        clear HCs HCy HOr h0
        go_wp2_with (first
          | (refine wpList_load_row _ rfl 26 _ rfl (g := gm) (T := 26) (cs := #[.int .i64 0, .int .i64 1, .int .i64 0, .int .i64 0, .int .i64 0, .int .i64 1, .int .i64 a, .int .i64 b, .int .i64 d]) (fr := (0, 0)) rfl kb 9 rfl Try.sizeOf26 Try.isAgg26 ?_)
          | (go_at_call 136; (with_reducible refine (HDt.out _).mono ?_); rintro e w3_ ⟨rfl, hb3⟩; obtain ⟨hcb3, hfb3, hlb3⟩ := bcell hb3; have hsz3 := hb3.size; (try simp at hsz3); have HB3 := Lib.hid hb3; clear hb3))
        go_roundw
        case rel => exact ⟨c + 1, by omega, numW (by omega), Lib.hid (by rw [HB3.out.block _ (by omega)]; exact kr), Lib.hid (low_tr' HB2.out HB3.out (by omega))⟩
        case measure => simp [intOf]; omega
      · obtain ⟨K, hK⟩ : ∃ K, ordM n (compM n c) = K := ⟨_, rfl⟩
        rw [hK] at h1 h2
        have HO := Lib.hid (fun (W : World) => HOr.out W K hK h1)
        have hz : ((dv : Int) == 0) = false := by rw [HDv.out] at h0; simp; omega
        have hzn : ¬ dv = 0 := by rw [HDv.out] at h0; exact h0
        have hkq : ¬ K = Q := h2
        have hqq : ((K : Int) == (Q : Int)) = false := by simp; omega
        clear HCs HCy HOr h0 h1 h2 hK
        go_wp2_with (first
        | (refine wpList_load_row _ rfl 26 _ rfl (g := gm) (T := 26) (cs := #[.int .i64 0, .int .i64 1, .int .i64 0, .int .i64 0, .int .i64 0, .int .i64 1, .int .i64 a, .int .i64 b, .int .i64 d]) (fr := (0, 0)) rfl kb 9 rfl Try.sizeOf26 Try.isAgg26 ?_)
        | (go_at_call 136; (with_reducible refine (HDt.out _).mono ?_); rintro e w3_ ⟨rfl, hb3⟩; obtain ⟨hcb3, hfb3, hlb3⟩ := bcell hb3; have hsz3 := hb3.size; (try simp at hsz3); have HB3 := Lib.hid hb3; clear hb3)
        | (refine wpList_load_row _ rfl 26 _ rfl (g := gm) (T := 26) (cs := #[.int .i64 0, .int .i64 1, .int .i64 0, .int .i64 0, .int .i64 0, .int .i64 1, .int .i64 a, .int .i64 b, .int .i64 d]) (fr := (0, 0)) rfl (by rw [HB3.out.block _ lb]; exact kb) 9 rfl Try.sizeOf26 Try.isAgg26 ?_)
        | (go_at_call 138; (with_reducible refine (HO.out _).mono ?_); rintro e w4_ ⟨rfl, hb4⟩; obtain ⟨hcb4, hfb4, hlb4⟩ := bcell hb4; have hsz4 := hb4.size; (try simp at hsz4); have HB4 := Lib.hid hb4; clear hb4)
        | (go_at_call 139; (with_reducible refine (HCo.out _).mono ?_); rintro e w' ⟨rfl, rfl⟩)
        | (refine wpList_load_row _ rfl 26 _ rfl (g := gm) (T := 26) (cs := #[.int .i64 0, .int .i64 1, .int .i64 0, .int .i64 0, .int .i64 0, .int .i64 1, .int .i64 a, .int .i64 b, .int .i64 d]) (fr := (0, 0)) rfl (by rw [HB4.out.block _ (by omega), HB3.out.block _ lb]; exact kb) 9 rfl Try.sizeOf26 Try.isAgg26 ?_)
        | (refine wpList_store_row _ rfl 26 _ _ rfl rfl (g := w.heap.size) (T := 26) (cs := #[.int .i64 0, .int .i64 0, .int .i64 0, .int .i64 0, .int .i64 0, .int .i64 0, .int .i64 0, .int .i64 0, .int .i64 0]) (U := #[.int .i64 0, .int .i64 1, .int .i64 0, .int .i64 0, .int .i64 0, .int .i64 1, .int .i64 a, .int .i64 b, .int .i64 d]) rfl rfl (by rw [HB4.out.block _ (by omega), HB3.out.block _ (by omega)]; exact kr) rfl Try.sizeOf26 (by simp [Value.oneCell']) ?_))
        go_roundw
        case rel => exact ⟨c + 1, by omega, numW (by omega), Lib.hid (by rw [HB4.out.block _ (by omega), HB3.out.block _ (by omega)]; exact kr), Lib.hid (low_tr' (low_tr' HB2.out HB3.out (by omega)) HB4.out (by omega))⟩
        case measure => simp [intOf]; omega
end Go.Proofs.Ythkbhaaodegocaa
