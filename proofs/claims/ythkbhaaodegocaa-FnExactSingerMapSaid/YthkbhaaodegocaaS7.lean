/- Contracts: the Singer map, as the reference finds it; SingerMap. (Printed by gens7.py, a program of this session.) -/
import Derived.Test.YthkbhaaodegocaaS6
namespace Go.Proofs.Ythkbhaaodegocaa
open Go.RowKit
set_option linter.unusedVariables false
set_option linter.unusedSimpArgs false
set_option maxRecDepth 20000 in
set_option maxHeartbeats 8000000 in
theorem l10Singer_any (n : Nat) (w : World) (hC : Codes n) :
    Calls Try.prog 86 #[.int .i64 (n : Int)] w (Ret w (.agg (cellsM9 (compM n (firstC n))))) := by
  have HC := Lib.hid hC
  obtain ⟨hn3, hn13⟩ := prB_bd hC.pr
  have hlt := hC.lt
  obtain ⟨M, hM⟩ : ∃ M : Int, (n : Int) * (n : Int) = M := ⟨_, rfl⟩
  obtain ⟨N3, hN3⟩ : ∃ N3 : Int, M * (n : Int) = N3 := ⟨_, rfl⟩
  have h2le : n * n ≤ 13 * 13 := Nat.mul_le_mul (by omega) (by omega)
  have h3le : n * n * n ≤ 13 * 13 * 13 := Nat.mul_le_mul h2le (by omega)
  have h2pos : 0 < n * n := Nat.mul_pos (by omega) (by omega)
  have hMv : M = ((n * n : Nat) : Int) := by rw [← hM]; simp
  have hNv : N3 = ((n * n * n : Nat) : Int) := by rw [← hN3, hMv]; simp
  obtain ⟨N2, hN2⟩ : ∃ N2 : Nat, n * n = N2 := ⟨_, rfl⟩
  obtain ⟨N4, hN4⟩ : ∃ N4 : Nat, N2 * n = N4 := ⟨_, rfl⟩
  rw [hN2] at hMv hNv h2le h3le h2pos hlt
  rw [hN4] at hNv h3le hlt
  have w1 : IntKind.wrap .i64 M = M := wrap_small (by omega)
  have w2 : IntKind.wrap .i64 N3 = N3 := wrap_small (by omega)
  have HN2 := Lib.hid hN2
  have HMv := Lib.hid hMv
  obtain ⟨F, hF⟩ : ∃ F : Nat, firstC n = F := ⟨_, rfl⟩
  have HF := Lib.hid hF
  rw [hF] at hlt
  have hltz : (F : Int) < N3 := by omega
  have hF2 : F < 2197 := by omega
  have HlN := Lib.hid hlt
  have hM0 : 0 < M := by omega
  have HN4 := Lib.hid hN4
  clear hN2 hN4 hMv hNv hF h2le h3le h2pos hlt
  obtain ⟨Q, hQ⟩ : ∃ Q : Nat, n * n + n + 1 = Q := ⟨_, rfl⟩
  have hQv : M + (n : Int) + 1 = (Q : Int) := by rw [HMv.out, ← hQ, HN2.out]; simp
  have hM169 : M ≤ 169 := by rw [← hM]; exact Int.le_trans (Int.mul_le_mul (by omega) (by omega) (by omega) (by omega : (0 : Int) ≤ 13)) (by decide : (13 : Int) * 13 ≤ 169)
  have hQ1 : Q ≤ 1000 := by omega
  have w3 : IntKind.wrap .i64 (M + (n : Int)) = M + (n : Int) := wrap_small (by omega)
  have w4 : IntKind.wrap .i64 (M + (n : Int) + 1) = (Q : Int) := by rw [hQv]; exact wrap_small (by omega)
  have HQ := Lib.hid hQ
  have HQv := Lib.hid hQv
  clear hQ hQv
  go_enter Try.func86, Try.ntmps86
  go_wp2
  go_loopw [4] (fun q wr => ∃ c : Nat, c ≤ F ∧ q = .int .i64 (c : Int) ∧ Hid (wr.heap[w.heap.size]? = some (.cells #[.int .i64 0, .int .i64 0, .int .i64 0, .int .i64 0, .int .i64 0, .int .i64 0, .int .i64 0, .int .i64 0, .int .i64 0] 26 (0, 0))) ∧ Hid (Below w.heap.size w wr)) (fun q wr => F + 1 - (intOf q).toNat)
  case atStart => exact ⟨0, Nat.zero_le _, rfl, Lib.hid (by rw [hn_atN _ _ _ (by simp)]), Lib.hid (by repeat (first | exact Below.refl _ _ | refine bset ?_ _ _ (by omega) _ | refine bal ?_ _ | refine bdrN ?_ _ | refine bdr ?_))⟩
  case round =>
    obtain ⟨c, hc, rfl, HR, HB⟩ := hrel
    have hc2 : c < 2197 := by omega
    obtain ⟨a, ha⟩ : ∃ a : Int, (c : Int) % (n : Int) = a := ⟨_, rfl⟩
    obtain ⟨d0, hd0⟩ : ∃ d0 : Int, (c : Int) / (n : Int) = d0 := ⟨_, rfl⟩
    obtain ⟨b, hb⟩ : ∃ b : Int, d0 % (n : Int) = b := ⟨_, rfl⟩
    obtain ⟨d, hd⟩ : ∃ d : Int, (c : Int) / M = d := ⟨_, rfl⟩
    obtain ⟨dv, hdv⟩ : ∃ dv : Nat, c % n = dv := ⟨_, rfl⟩
    have nz : ¬ n = 0 := by omega
    have nz2 : ¬ M = 0 := by omega
    have e17 : Int.tmod (c : Int) (n : Int) = a := by rw [← ha]; exact Int.tmod_eq_emod_of_nonneg (by omega)
    have w17 : IntKind.wrap .i64 a = a := by rw [← ha]; exact wrap_small (modb (by omega))
    have b20 : 0 ≤ d0 ∧ d0 ≤ 1000000 := by rw [← hd0]; exact ⟨Int.ediv_nonneg (by omega) (by omega), Int.le_trans (Int.ediv_le_self _ (by omega)) (by omega)⟩
    have e20 : Int.tdiv (c : Int) (n : Int) = d0 := by rw [← hd0]; exact Int.tdiv_eq_ediv_of_nonneg (by omega)
    have w20 : IntKind.wrap .i64 d0 = d0 := wrap_small b20
    have e22 : Int.tmod d0 (n : Int) = b := by rw [← hb]; exact Int.tmod_eq_emod_of_nonneg b20.1
    have w22 : IntKind.wrap .i64 b = b := by rw [← hb]; exact wrap_small (modb (by omega))
    have e27 : Int.tdiv (c : Int) M = d := by rw [← hd]; exact Int.tdiv_eq_ediv_of_nonneg (by omega)
    have w27 : IntKind.wrap .i64 d = d := by rw [← hd]; exact wrap_small ⟨Int.ediv_nonneg (by omega) (by omega), Int.le_trans (Int.ediv_le_self _ (by omega)) (by omega)⟩
    have hcell : cellsM9 (compM n c) = #[.int .i64 0, .int .i64 1, .int .i64 0, .int .i64 0, .int .i64 0, .int .i64 1, .int .i64 a, .int .i64 b, .int .i64 d] := by rw [comp_cells, ha, hM, hd, hd0, hb]
    have hin : InM (compM n c) := inM_comp HC.out.pr (by rw [HN2.out, HN4.out]; have := HlN.out; omega)
    have hdz : (dv : Int) = a := by rw [← ha, ← hdv]; simp
    have hHB := HB.out.size
    have lr0 := (Array.getElem?_eq_some_iff.1 HR.out).1
    have HKeep := Lib.hid (show True ∧ c % n = dv ∧ cellsM9 (compM n c) = #[.int .i64 0, .int .i64 1, .int .i64 0, .int .i64 0, .int .i64 0, .int .i64 1, .int .i64 a, .int .i64 b, .int .i64 d] ∧ InM (compM n c) from ⟨trivial, hdv, hcell, hin⟩)
    clear ha hd0 hb hd hdv hcell hin
    go_wp2
    refine region_calm [(17, .int .i64 (c : Int)), (18, .int .i64 (n : Int)), (19, .int .i64 (n : Int)), (20, .int .i64 M), (21, .int .i64 d), (22, .int .i64 (c : Int)), (23, .int .i64 (n : Int)), (24, .int .i64 d0), (25, .int .i64 (n : Int)), (26, .int .i64 b), (27, .int .i64 (c : Int)), (28, .int .i64 (n : Int)), (29, .int .i64 a), (5, .int .i64 d), (6, .int .i64 b), (7, .int .i64 a)] (by kernel_rfl) (by kernel_rfl) (by kernel_rfl) (fun aE hpe => ?_)
    simp only [puts, Act.put, List.setIfInBounds_toArray, List.set_cons_zero, List.set_cons_succ] at hpe
    subst hpe
    refine ⟨⟨.inr (.inr ?_), .inr (.inr ?_), .inr (.inr ?_), .inr (.inr ?_), .inr (.inr ?_), .inr (.inr ?_), .inr (.inr ?_), .inr (.inr ?_), .inr (.inr ?_), .inr (.inr ?_), .inr (.inr ?_), .inr (.inr ?_), .inr (.inr ?_), .inr (.inr ?_), .inr (.inr ?_), .inr (.inr ?_), trivial⟩, ?_⟩
    · exact Calm.mk 17 (.int .i64 (c : Int)) rfl rfl (fun W hW => calm_move (.tmp 4) rfl rfl)
    · exact Calm.mk 18 (.int .i64 (n : Int)) rfl rfl (fun W hW => calm_move (.tmp 0) rfl rfl)
    · exact Calm.mk 19 (.int .i64 (n : Int)) rfl rfl (fun W hW => calm_move (.tmp 0) rfl rfl)
    · exact Calm.mk 20 (.int .i64 M) rfl rfl (fun W hW => calm_run (by simp [execOp, Act.eval, go_sem, hM, w1]))
    · exact Calm.mk 21 (.int .i64 d) rfl rfl (fun W hW => calm_run (by simp [execOp, Act.eval, go_sem, nz2, e27, w27]))
    · exact Calm.mk 22 (.int .i64 (c : Int)) rfl rfl (fun W hW => calm_move (.tmp 4) rfl rfl)
    · exact Calm.mk 23 (.int .i64 (n : Int)) rfl rfl (fun W hW => calm_move (.tmp 0) rfl rfl)
    · exact Calm.mk 24 (.int .i64 d0) rfl rfl (fun W hW => calm_run (by simp [execOp, Act.eval, go_sem, nz, e20, w20]))
    · exact Calm.mk 25 (.int .i64 (n : Int)) rfl rfl (fun W hW => calm_move (.tmp 0) rfl rfl)
    · exact Calm.mk 26 (.int .i64 b) rfl rfl (fun W hW => calm_run (by simp [execOp, Act.eval, go_sem, nz, e22, w22]))
    · exact Calm.mk 27 (.int .i64 (c : Int)) rfl rfl (fun W hW => calm_move (.tmp 4) rfl rfl)
    · exact Calm.mk 28 (.int .i64 (n : Int)) rfl rfl (fun W hW => calm_move (.tmp 0) rfl rfl)
    · exact Calm.mk 29 (.int .i64 a) rfl rfl (fun W hW => calm_run (by simp [execOp, Act.eval, go_sem, nz, e17, w17]))
    · exact Calm.mk 5 (.int .i64 d) rfl rfl (fun W hW => calm_assign (.tmp 21) rfl rfl)
    · exact Calm.mk 6 (.int .i64 b) rfl rfl (fun W hW => calm_assign (.tmp 26) rfl rfl)
    · exact Calm.mk 7 (.int .i64 a) rfl rfl (fun W hW => calm_assign (.tmp 29) rfl rfl)
    intro W2 hW2
    have kr := (hW2.block _ lr0).trans HR.out
    have lr := (Array.getElem?_eq_some_iff.1 kr).1
    have HB2 := Lib.hid (low_tr' HB.out hW2 hHB)
    have hs2 := HB2.out.size
    clear hW2 HB HR lr0 hHB e17 w17 b20 e20 w20 e22 w22 e27 w27 nz2
    obtain ⟨_, hdv, hcell, hin⟩ := HKeep.out
    have HOr := Lib.hid (fun (W : World) (K : Nat) (h1 : ordM n (compM n c) = K) (h2 : K ≠ 0) => (by have h3 := l10Order_any n (compM n c) K Q W HC.out.pr hin h1 h2 hQ1; rw [hcell] at h3; exact h3 : Calls Try.prog 137 #[.int .i64 (n : Int), .agg #[.int .i64 0, .int .i64 1, .int .i64 0, .int .i64 0, .int .i64 0, .int .i64 1, .int .i64 a, .int .i64 b, .int .i64 d], .int .i64 (Q : Int)] W (Ret W (.int .i64 (ordT K Q)))))
    have HCs := Lib.hid HC.out.no
    have HCy := Lib.hid HC.out.yes
    rw [HF.out, HQ.out] at HCy
    rw [HF.out, HQ.out] at HCs
    have HCell := Lib.hid hcell
    have HDv := Lib.hid hdv
    have HDz := Lib.hid hdz
    clear hdv hcell hin HKeep hdz
    by_cases hcF : c = F
    · subst hcF
      have hK : ordM n (compM n c) = Q := HCy.out.2
      have hQ0 : Q ≠ 0 := by have h1 := HC.out.yes.2; rw [HF.out, hK] at h1; have := HQ.out; omega
      have HO := Lib.hid (fun (W : World) => HOr.out W Q hK hQ0)
      rw [show ordT Q Q = (Q : Int) by unfold ordT; rw [if_pos (Nat.le_refl _)]] at HO
      have hzn : ¬ a = 0 := by have := HCy.out.1; rw [HDv.out] at this; have := HDz.out; omega
      clear HCs HCy HOr hK hQ0
      go_wp2_with (first
        | (go_at_call 137; (with_reducible refine (HO.out _).mono ?_); rintro e w4_ ⟨rfl, hb4⟩; obtain ⟨hcb4, hfb4, hlb4⟩ := bcell hb4; have hsz4 := hb4.size; (try simp at hsz4); have HB4 := Lib.hid hb4; clear hb4; (try (have hl04 : W2.heap.size < w4_.heap.size := by omega)))
        | (refine wpList_store_row _ rfl 26 _ _ rfl rfl (g := w.heap.size) (T := 26) (cs := #[.int .i64 0, .int .i64 0, .int .i64 0, .int .i64 0, .int .i64 0, .int .i64 0, .int .i64 0, .int .i64 0, .int .i64 0]) (U := #[.int .i64 0, .int .i64 1, .int .i64 0, .int .i64 0, .int .i64 0, .int .i64 1, .int .i64 a, .int .i64 b, .int .i64 d]) rfl rfl (by rw [HB4.out.block _ (by simp; omega), hn_pastN _ _ _ (by omega)]; exact kr) rfl Try.sizeOf26 (by simp [Value.oneCell']) ?_))
      exact bodyPost_ret (v := .agg #[.int .i64 0, .int .i64 1, .int .i64 0, .int .i64 0, .int .i64 0, .int .i64 1, .int .i64 a, .int .i64 b, .int .i64 d]) (results_row Try.results86 rfl (setRow_heap _ _ #[.int .i64 0, .int .i64 0, .int .i64 0, .int .i64 0, .int .i64 0, .int .i64 0, .int .i64 0, .int .i64 0, .int .i64 0] _ _ _ (by rw [HB4.out.block _ (by simp; omega), hn_pastN _ _ _ (by omega)]; exact kr)) 9 rfl Try.sizeOf26 Try.isAgg26) rfl ⟨by rw [HF.out, HCell.out], below_setRowN (low_tr' (bal HB2.out _) HB4.out (by simp; omega)) (by omega) _⟩
    · have hclt : c < F := by omega
      rcases HCs.out c hclt with h0 | ⟨h0, h1, h2⟩
      · have h00 : a = 0 := by rw [HDv.out] at h0; have := HDz.out; omega
        subst h00
        clear HCs HCy HOr h0
        go_wp2
        go_roundw
        case rel => exact ⟨c + 1, by omega, numW (by omega), Lib.hid (by rw [hn_pastN _ _ _ (by omega)]; exact kr), Lib.hid (bal HB2.out _)⟩
        case measure => simp [intOf]; omega
      · obtain ⟨K, hK⟩ : ∃ K, ordM n (compM n c) = K := ⟨_, rfl⟩
        rw [hK] at h1 h2
        have HO := Lib.hid (fun (W : World) => HOr.out W K hK h1)
        have hQp : 0 < Q := by have := HQv.out; omega
        have hv : ¬ ordT K Q = (Q : Int) := by unfold ordT; split <;> omega
        generalize ordT K Q = v at *
        have hvb : (v == (Q : Int)) = false := by simpa using hv
        have hzn : ¬ a = 0 := by rw [HDv.out] at h0; have := HDz.out; omega
        clear HCs HCy HOr h0 h1 h2 hK
        go_wp2_with (go_at_call 137; (with_reducible refine (HO.out _).mono ?_); rintro e w4_ ⟨rfl, hb4⟩; obtain ⟨hcb4, hfb4, hlb4⟩ := bcell hb4; have hsz4 := hb4.size; (try simp at hsz4); have HB4 := Lib.hid hb4; clear hb4; (try (have hl04 : W2.heap.size < w4_.heap.size := by omega)))
        go_roundw
        case rel => exact ⟨c + 1, by omega, numW (by omega), Lib.hid (by rw [HB4.out.block _ (by simp; omega), hn_pastN _ _ _ (by omega)]; exact kr), Lib.hid (low_tr' (bal HB2.out _) HB4.out (by simp; omega))⟩
        case measure => simp [intOf]; omega
/-- What SingerMap returns. -/
def singM (n : Nat) : Value := .agg (cellsM9 (compM n (firstC n)))
theorem l10Prime_yes (n : Nat) (w : World) (hp : prB (n : Int) = true) : Calls Try.prog 85 #[.int .i64 (n : Int)] w fun e w' => e = .returned (.int .i64 0) ∧ w = w' := by
  go_enter Try.func85, Try.ntmps85
  go_wp2_with (go_at_call 68; refine (l01Prime_yes _ _ hp).mono ?_; rintro e w' ⟨rfl, rfl⟩)
  go_ret
  exact ⟨rfl, rfl⟩
theorem l10Prime_no (p : Int) (w : World) (hp : prB p = false) : Calls Try.prog 85 #[.int .i64 p] w fun e w' => e = .returned (.int .i64 2) ∧ w = w' := by
  go_enter Try.func85, Try.ntmps85
  go_wp2_with (go_at_call 68; refine (l01Prime_no _ _ hp).mono ?_; rintro e w' ⟨rfl, rfl⟩)
  go_ret
  exact ⟨rfl, rfl⟩
end Go.Proofs.Ythkbhaaodegocaa
