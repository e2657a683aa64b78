/- Texts of the claim, in build order: M2, M3, N3, RegW, M4, M5. No condition. -/
import Derived.Test.YthkbhaaodegocaaZDifferenceSetOf3
/- Contracts: a map's numbers in one list; its determinant; whether numbers are a map, a conic: the program. -/
namespace Go.Proofs.Ythkbhaaodegocaa
open Go.RowKit
set_option linter.unusedVariables false
set_option linter.unusedSimpArgs false
set_option maxRecDepth 10000 in
theorem flat_any (x0 x1 x2 x3 x4 x5 x6 x7 x8 : Int) (w : World) :
    Calls Try.prog 135 #[.agg #[.int .i64 x0, .int .i64 x1, .int .i64 x2, .int .i64 x3, .int .i64 x4, .int .i64 x5, .int .i64 x6, .int .i64 x7, .int .i64 x8]] w (OwnI w.heap.size w [x0, x1, x2, x3, x4, x5, x6, x7, x8]) := by
  go_enter Try.func135, Try.ntmps135
  go_wp2
  refine region_via 6 [(3, .pointer (some ⟨w.heap.size, 0, none⟩)), (4, .slice (some ⟨w.heap.size, 0, none⟩) 3 3), (5, .pointer (some ⟨w.heap.size, 3, none⟩)), (6, .slice (some ⟨w.heap.size, 3, none⟩) 3 3), (7, .pointer (some ⟨w.heap.size, 6, none⟩)), (8, .slice (some ⟨w.heap.size, 6, none⟩) 3 3)] (by kernel_rfl) (by decide) (by kernel_rfl) (by kernel_rfl) (by kernel_rfl) (fun aE hpe => ?_)
  simp only [puts, Act.put, List.setIfInBounds_toArray, List.set_cons_zero, List.set_cons_succ] at hpe
  subst hpe
  refine ⟨⟨.inr (.inr ?_), .inr (.inr ?_), .inr (.inr ?_), .inr (.inr ?_), .inr (.inr ?_), .inr (.inr ?_), trivial⟩, ?_⟩
  · exact CalmG.mk 3 (.pointer (some ⟨w.heap.size, 0, none⟩)) rfl rfl rfl (fun W hW => calm_run (by simp [execOp, Act.eval, go_sem]))
  · exact CalmG.mk 4 (.slice (some ⟨w.heap.size, 0, none⟩) 3 3) rfl rfl rfl (fun W hW => calm_run (by simp [execOp, Act.eval, go_sem]))
  · exact CalmG.mk 5 (.pointer (some ⟨w.heap.size, 3, none⟩)) rfl rfl rfl (fun W hW => calm_run (by simp [execOp, Act.eval, go_sem]))
  · exact CalmG.mk 6 (.slice (some ⟨w.heap.size, 3, none⟩) 3 3) rfl rfl rfl (fun W hW => calm_run (by simp [execOp, Act.eval, go_sem]))
  · exact CalmG.mk 7 (.pointer (some ⟨w.heap.size, 6, none⟩)) rfl rfl rfl (fun W hW => calm_run (by simp [execOp, Act.eval, go_sem]))
  · exact CalmG.mk 8 (.slice (some ⟨w.heap.size, 6, none⟩) 3 3) rfl rfl rfl (fun W hW => calm_run (by simp [execOp, Act.eval, go_sem]))
  intro W hW
  simp only [List.drop_succ_cons, List.drop_zero]
  have hg : W.heap[w.heap.size]? = some (.cells #[.int .i64 x0, .int .i64 x1, .int .i64 x2, .int .i64 x3, .int .i64 x4, .int .i64 x5, .int .i64 x6, .int .i64 x7, .int .i64 x8] 26 (0, 0)) := by rw [hW.block _ (by simp), hn_atN _ _ _ (by simp)]
  have HB := Lib.hid hW
  have hgl := (Array.getElem?_eq_some_iff.1 hg).1
  have HC := Lib.hid (fun (W' : World) (hW' : Below W.heap.size W W') (h : Nat) h0 h1 h2 => concat9 h w.heap.size 3 3 3 [x0, x1, x2, x3, x4, x5, x6, x7, x8] W' rfl (fun i hi => by
    rw [cell_of_row W' _ (0 + i) _ _ _ (by rw [hW'.block _ hgl]; exact hg), Nat.zero_add]
    match i, hi with
    | 0, _ => rfl
    | 1, _ => rfl
    | 2, _ => rfl
    | 3, _ => rfl
    | 4, _ => rfl
    | 5, _ => rfl
    | 6, _ => rfl
    | 7, _ => rfl
    | 8, _ => rfl) h0 h1 h2)
  clear hW hg
  go_wp2_with (go_at_call 165; (refine (HC.out _ (bal (Below.refl _ _) _) _ (by exact (World.cell?_alloc_at _ _ _ _ rfl)) (by exact (World.cell?_alloc_at _ _ _ _ rfl)) (by exact (World.cell?_alloc_at _ _ _ _ rfl))).mono ?_); rintro e w1 ⟨v1, rfl, ho, hb⟩; have HO1 := Lib.hid ho; have HB1 := Lib.hid hb; have hs1 := hb.size; clear ho hb)
  go_ret
  have hq : Below w.heap.size w w1 := (by repeat (first | exact Below.refl _ _ | refine bset ?_ _ _ (by omega) _ | refine bal ?_ _ | refine bdrN ?_ _ | refine bdr ?_ | refine below_tr' ?_ HB1.out | refine below_tr' ?_ HB.out))
  refine ⟨_, rfl, own_low HO1.out (by have := HB.out.size; simp at this ⊢; omega), hq⟩
/-- An owned list of numbers, laid open. -/
theorem ownInts {W : World} {base : Nat} {T : TypeId} {v : Value} {l : List Int} {n : Nat} (h : W.ownsRow base T 1 v n (ints l)) (hl : l.length = n) (hn : 0 < n) :
    ∃ g cap, v = .slice (some ⟨g, 0, none⟩) n cap ∧ ∀ i, i < n → W.cell? ⟨g, 0 + i, none⟩ = some (.int .i64 (l.getD i 0)) := by
  rcases h.2 with ⟨_, h0⟩ | ⟨g, cap, cur, rfl, hb, hg, hle, _, hsz, htk⟩
  · omega
  · refine ⟨g, cap, rfl, fun i hi => ?_⟩
    rw [cell_of_row W g _ _ _ _ hg, Nat.zero_add]
    have h1 : cur.toList[i]? = (ints l)[i]? := by rw [← htk, List.getElem?_take_of_lt (by omega)]
    have h2 : cur[i]? = cur.toList[i]? := by simp
    rw [h2, h1]
    have : i < l.length := by omega
    simp [ints, List.getD, this]
theorem cells6 (x0 x1 x2 x3 x4 x5 : Int) (w : World) (T : TypeId) : ∀ i, i < 6 → (w.alloc (.cells #[.int .i64 x0, .int .i64 x1, .int .i64 x2, .int .i64 x3, .int .i64 x4, .int .i64 x5] T)).cell? ⟨w.heap.size, 0 + i, none⟩ = some (.int .i64 ([x0, x1, x2, x3, x4, x5].getD i 0)) := by
  intro i hi
  rw [World.cell?_alloc_at _ _ _ _ rfl, Nat.zero_add]
  match i, hi with
  | 0, _ => rfl
  | 1, _ => rfl
  | 2, _ => rfl
  | 3, _ => rfl
  | 4, _ => rfl
  | 5, _ => rfl
def mapB (p : Int) (l : List Int) (d : Int) : Bool := prB p && (normB p l && (d % p != 0))
theorem nums_at {p : Int} {l : List Int} (h : normB p l = true) {x : Int} (hx : x ∈ l) : 0 ≤ x ∧ x ≤ p - 1 := by
  unfold normB numsB at h
  simp only [Bool.and_eq_true] at h
  exact numB_iff.1 (List.all_eq_true.1 h.2 x hx)
theorem map_in13 {p x0 x1 x2 x3 x4 x5 x6 x7 x8 : Int} (hp : prB p = true) (h : normB p [x0, x1, x2, x3, x4, x5, x6, x7, x8] = true) : In13 (x0, x1, x2) ∧ In13 (x3, x4, x5) ∧ In13 (x6, x7, x8) := by
  have hb := prB_bd hp
  have k : ∀ x ∈ [x0, x1, x2, x3, x4, x5, x6, x7, x8], 0 ≤ x ∧ x ≤ 12 := fun x hx => by have := nums_at h hx; omega
  exact ⟨⟨k _ (by simp), k _ (by simp), k _ (by simp)⟩, ⟨k _ (by simp), k _ (by simp), k _ (by simp)⟩, ⟨k _ (by simp), k _ (by simp), k _ (by simp)⟩⟩
theorem det_any (p x0 x1 x2 x3 x4 x5 x6 x7 x8 : Int) (w : World) (hp : prB p = true) (h0 : In13 (x0, x1, x2)) (h1 : In13 (x3, x4, x5)) (h2 : In13 (x6, x7, x8)) :
    Calls Try.prog 136 #[.agg #[.int .i64 x0, .int .i64 x1, .int .i64 x2, .int .i64 x3, .int .i64 x4, .int .i64 x5, .int .i64 x6, .int .i64 x7, .int .i64 x8], .int .i64 p] w (Ret w (.int .i64 (detZ (x0, x1, x2) (x3, x4, x5) (x6, x7, x8) % p))) := by
  have HD := Lib.hid (fun (W : World) => determinant_any p x0 x1 x2 x3 x4 x5 x6 x7 x8 W hp h0 h1 h2)
  generalize detZ (x0, x1, x2) (x3, x4, x5) (x6, x7, x8) % p = d at *
  clear hp h0 h1 h2
  go_enter Try.func136, Try.ntmps136
  go_wp2_with (go_at_call 123; (with_reducible refine (HD.out _).mono ?_); rintro e w1_ ⟨rfl, hb1⟩; obtain ⟨hcb1, hfb1, hlb1⟩ := bcell hb1; have hsz1 := hb1.size; (try simp at hsz1); have HB1 := Lib.hid hb1; clear hb1)
  go_ret
  exact ⟨rfl, (by repeat (first | exact Below.refl _ _ | refine bset ?_ _ _ (by omega) _ | refine bal ?_ _ | refine bdrN ?_ _ | refine bdr ?_ | refine below_tr' ?_ HB1.out))⟩
set_option maxRecDepth 10000 in
theorem IsMap_any (p x0 x1 x2 x3 x4 x5 x6 x7 x8 : Int) (w : World) :
    Calls Try.prog 83 #[.int .i64 p, .agg #[.int .i64 x0, .int .i64 x1, .int .i64 x2, .int .i64 x3, .int .i64 x4, .int .i64 x5, .int .i64 x6, .int .i64 x7, .int .i64 x8]] w (Ret w (.bool (mapB p [x0, x1, x2, x3, x4, x5, x6, x7, x8] (detZ (x0, x1, x2) (x3, x4, x5) (x6, x7, x8))))) := by
  generalize hd : detZ (x0, x1, x2) (x3, x4, x5) (x6, x7, x8) = d
  cases hp : prB p with
  | false =>
    have HP := Lib.hid hp
    have HE := Lib.hid (show mapB p [x0, x1, x2, x3, x4, x5, x6, x7, x8] d = false by unfold mapB; rw [hp]; rfl)
    clear hp hd
    go_enter Try.func83, Try.ntmps83
    go_wp2_with (go_at_call 73; refine (isPrime_no _ _ HP.out).mono ?_; rintro e w' ⟨rfl, rfl⟩)
    go_ret
    exact ⟨ret_bool HE.out.symm, (by repeat (first | exact Below.refl _ _ | refine bset ?_ _ _ (by omega) _ | refine bal ?_ _ | refine bdrN ?_ _ | refine bdr ?_))⟩
  | true =>
    have HP := Lib.hid hp
    have hb := prB_bd hp
    have HF := Lib.hid (fun (W : World) => flat_any x0 x1 x2 x3 x4 x5 x6 x7 x8 W)
    have HN := Lib.hid (fun (W : World) (g cap : Nat) hc => isNormal_any p g 0 9 cap [x0, x1, x2, x3, x4, x5, x6, x7, x8] W hb.1 hb.2 rfl (by omega) hc)
    cases hn : normB p [x0, x1, x2, x3, x4, x5, x6, x7, x8] with
    | false =>
      have HE := Lib.hid (show mapB p [x0, x1, x2, x3, x4, x5, x6, x7, x8] d = false by unfold mapB; rw [hp, hn]; rfl)
      rw [hn] at HN
      clear hp hn hd hb
      go_enter Try.func83, Try.ntmps83
      go_wp2_with (first
        | (go_at_call 73; refine (isPrime_yes _ _ HP.out).mono ?_; rintro e w' ⟨rfl, rfl⟩)
        | (go_at_call 135; (with_reducible refine (HF.out _).mono ?_); rintro e w1 ⟨v1, rfl, ho, hb⟩; obtain ⟨g, cap, rfl, hpt⟩ := ownInts (n := 9) ho rfl (by omega); have HO1 := Lib.hid hpt; have HB1 := Lib.hid hb; clear ho hb hpt)
        | (go_at_call 134; refine (HN.out _ _ _ HO1.out).mono ?_; rintro e w' ⟨rfl, rfl⟩))
      go_ret
      exact ⟨ret_bool HE.out.symm, (by repeat (first | exact Below.refl _ _ | refine bset ?_ _ _ (by omega) _ | refine bal ?_ _ | refine bdrN ?_ _ | refine bdr ?_ | refine below_tr' ?_ HB1.out))⟩
    | true =>
      obtain ⟨i0, i1, i2⟩ := map_in13 hp hn
      have HE := Lib.hid (show mapB p [x0, x1, x2, x3, x4, x5, x6, x7, x8] d = (d % p != 0) by unfold mapB; rw [hp, hn]; rfl)
      have HD := Lib.hid (fun (W : World) => det_any p x0 x1 x2 x3 x4 x5 x6 x7 x8 W hp i0 i1 i2)
      rw [hn] at HN
      rw [hd] at HD
      clear hp hn hd hb i0 i1 i2
      generalize d % p = r at *
      go_enter Try.func83, Try.ntmps83
      go_wp2_with (first
        | (go_at_call 73; refine (isPrime_yes _ _ HP.out).mono ?_; rintro e w' ⟨rfl, rfl⟩)
        | (go_at_call 135; (with_reducible refine (HF.out _).mono ?_); rintro e w1 ⟨v1, rfl, ho, hb⟩; obtain ⟨g, cap, rfl, hpt⟩ := ownInts (n := 9) ho rfl (by omega); obtain ⟨hcb1, hfb1, hlb1⟩ := bcell hb; have hsz1 := hb.size; (try simp at hsz1); have hl1 : w.heap.size < w1.heap.size := (by omega); have HO1 := Lib.hid hpt; have HB1 := Lib.hid hb; clear ho hb hpt)
        | (go_at_call 134; refine (HN.out _ _ _ HO1.out).mono ?_; rintro e w' ⟨rfl, rfl⟩)
        | (go_at_call 136; (with_reducible refine (HD.out _).mono ?_); rintro e w2_ ⟨rfl, hb2⟩; obtain ⟨hcb2, hfb2, hlb2⟩ := bcell hb2; have hsz2 := hb2.size; (try simp at hsz2); have HB2 := Lib.hid hb2; clear hb2))
      go_ret
      exact ⟨ret_bool HE.out.symm, (by repeat (first | exact Below.refl _ _ | refine bset ?_ _ _ (by omega) _ | refine bal ?_ _ | refine bdrN ?_ _ | refine bdr ?_ | refine below_tr' ?_ HB2.out | refine below_tr' ?_ HB1.out))⟩
theorem IsConic_any (p x0 x1 x2 x3 x4 x5 : Int) (w : World) :
    Calls Try.prog 84 #[.int .i64 p, .agg #[.int .i64 x0, .int .i64 x1, .int .i64 x2, .int .i64 x3, .int .i64 x4, .int .i64 x5]] w (Ret w (.bool (prB p && normB p [x0, x1, x2, x3, x4, x5]))) := by
  cases hp : prB p with
  | false =>
    have HP := Lib.hid hp
    clear hp
    generalize normB p [x0, x1, x2, x3, x4, x5] = v
    go_enter Try.func84, Try.ntmps84
    go_wp2_with (go_at_call 73; refine (isPrime_no _ _ HP.out).mono ?_; rintro e w' ⟨rfl, rfl⟩)
    go_ret
    exact ⟨rfl, (by repeat (first | exact Below.refl _ _ | refine bset ?_ _ _ (by omega) _ | refine bal ?_ _ | refine bdrN ?_ _ | refine bdr ?_))⟩
  | true =>
    have HP := Lib.hid hp
    have hb := prB_bd hp
    have HN := Lib.hid (fun (W : World) (g : Nat) hc => isNormal_any p g 0 6 6 [x0, x1, x2, x3, x4, x5] W hb.1 hb.2 rfl (by omega) hc)
    clear hp hb
    generalize normB p [x0, x1, x2, x3, x4, x5] = v at *
    go_enter Try.func84, Try.ntmps84
    go_wp2_with (first
        | (go_at_call 73; refine (isPrime_yes _ _ HP.out).mono ?_; rintro e w' ⟨rfl, rfl⟩)
        | (go_at_call 134; refine (HN.out _ _ (cells6 _ _ _ _ _ _ _ _)).mono ?_; rintro e w' ⟨rfl, rfl⟩))
    go_ret
    exact ⟨by simp, (by repeat (first | exact Below.refl _ _ | refine bset ?_ _ _ (by omega) _ | refine bal ?_ _ | refine bdrN ?_ _ | refine bdr ?_))⟩
end Go.Proofs.Ythkbhaaodegocaa
/- Contracts: whether a desk is one: the program. -/
namespace Go.Proofs.Ythkbhaaodegocaa
open Go.RowKit
set_option linter.unusedVariables false
set_option linter.unusedSimpArgs false
def deskB (p a0 a1 a2 b0 b1 b2 m0 m1 m2 m3 m4 m5 m6 m7 m8 c0 c1 c2 c3 c4 c5 : Int) : Bool := ptB p a0 a1 a2 && (ptB p b0 b1 b2 && (mapB p [m0, m1, m2, m3, m4, m5, m6, m7, m8] (detZ (m0, m1, m2) (m3, m4, m5) (m6, m7, m8)) && (prB p && normB p [c0, c1, c2, c3, c4, c5])))
set_option maxRecDepth 10000 in
set_option maxHeartbeats 2000000 in
theorem IsDesk_impl (p a0 a1 a2 b0 b1 b2 m0 m1 m2 m3 m4 m5 m6 m7 m8 c0 c1 c2 c3 c4 c5 : Int) (w : World) :
    Calls Try.prog 26 #[.agg #[.int .i64 p, .int .i64 a0, .int .i64 a1, .int .i64 a2, .int .i64 b0, .int .i64 b1, .int .i64 b2, .int .i64 m0, .int .i64 m1, .int .i64 m2, .int .i64 m3, .int .i64 m4, .int .i64 m5, .int .i64 m6, .int .i64 m7, .int .i64 m8, .int .i64 c0, .int .i64 c1, .int .i64 c2, .int .i64 c3, .int .i64 c4, .int .i64 c5]] w (Ret w (.bool (deskB p a0 a1 a2 b0 b1 b2 m0 m1 m2 m3 m4 m5 m6 m7 m8 c0 c1 c2 c3 c4 c5))) := by
  have H1 := Lib.hid (fun (W : World) => IsPoint_any p a0 a1 a2 W)
  have H2 := Lib.hid (fun (W : World) => IsLine_any p b0 b1 b2 W)
  have H3 := Lib.hid (fun (W : World) => IsMap_any p m0 m1 m2 m3 m4 m5 m6 m7 m8 W)
  have H4 := Lib.hid (fun (W : World) => IsConic_any p c0 c1 c2 c3 c4 c5 W)
  have HE0 : deskB p a0 a1 a2 b0 b1 b2 m0 m1 m2 m3 m4 m5 m6 m7 m8 c0 c1 c2 c3 c4 c5 = (ptB p a0 a1 a2 && (ptB p b0 b1 b2 && (mapB p [m0, m1, m2, m3, m4, m5, m6, m7, m8] (detZ (m0, m1, m2) (m3, m4, m5) (m6, m7, m8)) && (prB p && normB p [c0, c1, c2, c3, c4, c5])))) := rfl
  generalize ptB p a0 a1 a2 = v1 at *
  generalize ptB p b0 b1 b2 = v2 at *
  generalize mapB p [m0, m1, m2, m3, m4, m5, m6, m7, m8] (detZ (m0, m1, m2) (m3, m4, m5) (m6, m7, m8)) = v3 at *
  generalize (prB p && normB p [c0, c1, c2, c3, c4, c5]) = v4 at *
  cases v1 with
  | false =>
    have HE := Lib.hid (show deskB p a0 a1 a2 b0 b1 b2 m0 m1 m2 m3 m4 m5 m6 m7 m8 c0 c1 c2 c3 c4 c5 = false by rw [HE0]; first | rfl | simp)
    clear HE0
    go_enter Try.func26, Try.ntmps26
    go_wp2_with (first
      | (go_at_call 81; (with_reducible refine (H1.out _).mono ?_); rintro e w1_ ⟨rfl, hb1⟩; obtain ⟨hcb1, hfb1, hlb1⟩ := bcell hb1; have hsz1 := hb1.size; (try simp at hsz1); have HB1 := Lib.hid hb1; clear hb1; (try (have hl01 : w.heap.size < w1_.heap.size := by omega))))
    go_ret
    exact ⟨ret_bool HE.out.symm, (by repeat (first | exact Below.refl _ _ | refine bset ?_ _ _ (by omega) _ | refine bal ?_ _ | refine bdrN ?_ _ | refine bdr ?_ | refine below_tr' ?_ HB1.out))⟩
  | true =>
    cases v2 with
    | false =>
      have HE := Lib.hid (show deskB p a0 a1 a2 b0 b1 b2 m0 m1 m2 m3 m4 m5 m6 m7 m8 c0 c1 c2 c3 c4 c5 = false by rw [HE0]; first | rfl | simp)
      clear HE0
      go_enter Try.func26, Try.ntmps26
      go_wp2_with (first
        | (go_at_call 81; (with_reducible refine (H1.out _).mono ?_); rintro e w1_ ⟨rfl, hb1⟩; obtain ⟨hcb1, hfb1, hlb1⟩ := bcell hb1; have hsz1 := hb1.size; (try simp at hsz1); have HB1 := Lib.hid hb1; clear hb1; (try (have hl01 : w.heap.size < w1_.heap.size := by omega)))
        | (go_at_call 82; (with_reducible refine (H2.out _).mono ?_); rintro e w2_ ⟨rfl, hb2⟩; obtain ⟨hcb2, hfb2, hlb2⟩ := bcell hb2; have hsz2 := hb2.size; (try simp at hsz2); have HB2 := Lib.hid hb2; clear hb2; (try (have hl02 : w.heap.size < w2_.heap.size := by omega))))
      go_ret
      exact ⟨ret_bool HE.out.symm, (by repeat (first | exact Below.refl _ _ | refine bset ?_ _ _ (by omega) _ | refine bal ?_ _ | refine bdrN ?_ _ | refine bdr ?_ | refine below_tr' ?_ HB2.out | refine below_tr' ?_ HB1.out))⟩
    | true =>
      cases v3 with
      | false =>
        have HE := Lib.hid (show deskB p a0 a1 a2 b0 b1 b2 m0 m1 m2 m3 m4 m5 m6 m7 m8 c0 c1 c2 c3 c4 c5 = false by rw [HE0]; first | rfl | simp)
        clear HE0
        go_enter Try.func26, Try.ntmps26
        go_wp2_with (first
          | (go_at_call 81; (with_reducible refine (H1.out _).mono ?_); rintro e w1_ ⟨rfl, hb1⟩; obtain ⟨hcb1, hfb1, hlb1⟩ := bcell hb1; have hsz1 := hb1.size; (try simp at hsz1); have HB1 := Lib.hid hb1; clear hb1; (try (have hl01 : w.heap.size < w1_.heap.size := by omega)))
          | (go_at_call 82; (with_reducible refine (H2.out _).mono ?_); rintro e w2_ ⟨rfl, hb2⟩; obtain ⟨hcb2, hfb2, hlb2⟩ := bcell hb2; have hsz2 := hb2.size; (try simp at hsz2); have HB2 := Lib.hid hb2; clear hb2; (try (have hl02 : w.heap.size < w2_.heap.size := by omega)))
          | (go_at_call 83; (with_reducible refine (H3.out _).mono ?_); rintro e w3_ ⟨rfl, hb3⟩; obtain ⟨hcb3, hfb3, hlb3⟩ := bcell hb3; have hsz3 := hb3.size; (try simp at hsz3); have HB3 := Lib.hid hb3; clear hb3; (try (have hl03 : w.heap.size < w3_.heap.size := by omega))))
        go_ret
        exact ⟨ret_bool HE.out.symm, (by repeat (first | exact Below.refl _ _ | refine bset ?_ _ _ (by omega) _ | refine bal ?_ _ | refine bdrN ?_ _ | refine bdr ?_ | refine below_tr' ?_ HB3.out | refine below_tr' ?_ HB2.out | refine below_tr' ?_ HB1.out))⟩
      | true =>
        have HE := Lib.hid (show deskB p a0 a1 a2 b0 b1 b2 m0 m1 m2 m3 m4 m5 m6 m7 m8 c0 c1 c2 c3 c4 c5 = v4 by rw [HE0]; first | rfl | simp)
        clear HE0
        go_enter Try.func26, Try.ntmps26
        go_wp2_with (first
          | (go_at_call 81; (with_reducible refine (H1.out _).mono ?_); rintro e w1_ ⟨rfl, hb1⟩; obtain ⟨hcb1, hfb1, hlb1⟩ := bcell hb1; have hsz1 := hb1.size; (try simp at hsz1); have HB1 := Lib.hid hb1; clear hb1; (try (have hl01 : w.heap.size < w1_.heap.size := by omega)))
          | (go_at_call 82; (with_reducible refine (H2.out _).mono ?_); rintro e w2_ ⟨rfl, hb2⟩; obtain ⟨hcb2, hfb2, hlb2⟩ := bcell hb2; have hsz2 := hb2.size; (try simp at hsz2); have HB2 := Lib.hid hb2; clear hb2; (try (have hl02 : w.heap.size < w2_.heap.size := by omega)))
          | (go_at_call 83; (with_reducible refine (H3.out _).mono ?_); rintro e w3_ ⟨rfl, hb3⟩; obtain ⟨hcb3, hfb3, hlb3⟩ := bcell hb3; have hsz3 := hb3.size; (try simp at hsz3); have HB3 := Lib.hid hb3; clear hb3; (try (have hl03 : w.heap.size < w3_.heap.size := by omega)))
          | (go_at_call 84; (with_reducible refine (H4.out _).mono ?_); rintro e w4_ ⟨rfl, hb4⟩; obtain ⟨hcb4, hfb4, hlb4⟩ := bcell hb4; have hsz4 := hb4.size; (try simp at hsz4); have HB4 := Lib.hid hb4; clear hb4; (try (have hl04 : w.heap.size < w4_.heap.size := by omega))))
        go_ret
        exact ⟨ret_bool HE.out.symm, (by repeat (first | exact Below.refl _ _ | refine bset ?_ _ _ (by omega) _ | refine bal ?_ _ | refine bdrN ?_ _ | refine bdr ?_ | refine below_tr' ?_ HB4.out | refine below_tr' ?_ HB3.out | refine below_tr' ?_ HB2.out | refine below_tr' ?_ HB1.out))⟩
end Go.Proofs.Ythkbhaaodegocaa
/- The law FnExactNewDesk: walked. -/
namespace Go.Proofs.Ythkbhaaodegocaa
open Go.RowKit
set_option linter.unusedVariables false
set_option linter.unusedSimpArgs false
theorem wpList_load_row {P : Program} (w : World) {ops : Array Oper} {rest : List Oper} {o : Oper} {a : Act} {Q : Exit → Act → World → Prop}
    (hgd : o.guard = none) (ty : TypeId) (x : Operand) (hop : o.op = .load ty x) {g : Nat} {T : TypeId} {cs : Array Value} {fr : Nat × Nat} (hx : a.eval x = .pointer (some ⟨g, 0, none⟩))
    (hg : w.heap[g]? = some (.cells cs T fr)) (n : Nat) (hn : cs.size = n) (hs : ∀ W, (sizeOf ty).run P W = .ok n W) (ha : ∀ W, (isAgg ty).run P W = .ok true W) (hK : wpList P ops Q rest (a.put o.dst (.agg cs)) w) : wpList P ops Q (o :: rest) a w := by
  refine wpList_plain hgd fun K hK' => ?_
  have hv := run_loadRow (P := P) ty hg n hn hs ha
  have hr : (execOp a.eval o).run P w = .ok (.value (.agg cs)) w := by
    unfold execOp
    simp only [hop, hx, Instr.loadAt, Instr.sureAddr, Sem.run_bind, Sem.run_pure, Result.andThen_ok, hv]
  unfold Oper.wp
  rw [hr]
  simp only [Oper.upon]
  exact hK' _ _ hK
theorem alloc_setRow (w : World) (Z U : Array Value) (T : TypeId) : (w.alloc (.cells Z T)).setRow w.heap.size U = w.alloc (.cells U T) := by
  unfold World.setRow World.alloc
  congr 1
  apply Array.ext
  · simp
  · intro i h1 h2
    simp only [Array.getElem_modify, Array.getElem_push]
    by_cases e : i < w.heap.size
    · have : w.heap.size ≠ i := by omega
      simp [e, this]
    · have : w.heap.size = i := by simp at h2; omega
      simp [e, this]
theorem FnExactNewDesk_walk (w : World) : Calls Try.prog 3 #[] w (Ret w (.bool true)) := by
  go_enter Try.func3, Try.ntmps3
  go_wp2_with (first
    | (go_at_call 15; (with_reducible refine (NewDesk_spec _).mono ?_); rintro e w1_ ⟨rfl, hb1⟩; obtain ⟨hcb1, hfb1, hlb1⟩ := bcell hb1; have hsz1 := hb1.size; (try simp at hsz1); have HB1 := Lib.hid hb1; clear hb1)
    | (go_at_call 16; (with_reducible refine (NewDesk_impl _).mono ?_); rintro e w2_ ⟨rfl, hb2⟩; obtain ⟨hcb2, hfb2, hlb2⟩ := bcell hb2; have hsz2 := hb2.size; (try simp at hsz2); have HB2 := Lib.hid hb2; clear hb2)
    | (refine wpList_store_row _ rfl 30 _ _ rfl rfl rfl rfl (heap_alloc_new _ _) rfl Try.sizeOf30 (by simp [deskC, Value.oneCell']) ?_; rw [alloc_setRow])
    | (refine wpList_load_row _ rfl 30 _ rfl (g := w1_.heap.size) (T := 30) (cs := deskC) (fr := (0, 0)) rfl (by rw [hn_pastN _ _ _ (by first | omega | (simp; done) | (simp; omega)), HB2.out.block _ (by first | omega | (simp; done) | (simp; omega)), hn_atN _ _ _ (by simp)]) 22 rfl Try.sizeOf30 Try.isAgg30 ?_)
    | (refine wpList_load_row _ rfl 30 _ rfl (g := w2_.heap.size) (T := 30) (cs := deskC) (fr := (0, 0)) rfl (by rw [hn_atN _ _ _ (by simp)]) 22 rfl Try.sizeOf30 Try.isAgg30 ?_)
    | (go_at_call 17; (with_reducible refine (eqDesk_5 _).mono ?_); rintro e w3_ ⟨rfl, hb3⟩; obtain ⟨hcb3, hfb3, hlb3⟩ := bcell hb3; have hsz3 := hb3.size; (try simp at hsz3); have HB3 := Lib.hid hb3; clear hb3))
  go_ret
  exact ⟨rfl, (by repeat (first | exact Below.refl _ _ | refine bset ?_ _ _ (by omega) _ | refine bal ?_ _ | refine bdrN ?_ _ | refine bdr ?_ | refine below_tr' ?_ HB3.out | refine below_tr' ?_ HB2.out | refine below_tr' ?_ HB1.out))⟩
end Go.Proofs.Ythkbhaaodegocaa
/- A region whose first m operations draw their order and yield values, one of them by making a new block; the others come behind them, in the text's order. -/
namespace Go.Proofs.Ythkbhaaodegocaa
open Go.RowKit
set_option linter.unusedVariables false
set_option linter.unusedSimpArgs false
structure RInvW (l : List Oper) (m q d : Nat) (V : Nat → Value) (U : Array Value) (T : TypeId) (a0 aE : Act) (w0 : World) (listed : Array Bool) (a : Act) (w : World) : Prop where
  df : a.defers = aE.defers
  sz : a.tmps.size = aE.tmps.size
  len : listed.size = l.length
  fr1 : ∀ (j : Nat) (o : Oper) (t : Nat), j < m → l[j]? = some o → o.dst = some t → t ≠ d → listed.getD j false = true → a.tmps.getD t undef = aE.tmps.getD t undef
  fr0 : ∀ t : Nat, t ≠ d → (∀ (j : Nat) (o : Oper), j < m → l[j]? = some o → o.dst = some t → listed.getD j false = false) → a.tmps.getD t undef = a0.tmps.getD t undef
  bl : Below w0.heap.size w0 w
  box : listed.getD q false = true → ∃ g, a.tmps.getD d undef = V g ∧ w0.heap.size ≤ g ∧ w.heap[g]? = some (.cells U T (0, 0))
  rest : ∀ j, m ≤ j → listed.getD j false = false
  dc : ∀ (i : Nat) (o : Oper), l[i]? = some o → listed.getD i false = true → ∀ e ∈ o.after, Region.binds .any e = true → listed.getD e.on false = true
/-- Only operation q writes slot d, and no other of the first m reads it. -/
def onlyChk (l : List Oper) (m q d : Nat) : Bool := (List.range m).all fun i => match l[i]? with
  | none => true
  | some o => if i = q then (o.dst == some d && o.guard.isNone) && !(readsOf o).contains d else !(o.dst == some d) && !(readsOf o).contains d
theorem onlyChk_at {l : List Oper} {m q d : Nat} (h : onlyChk l m q d = true) {i : Nat} {o : Oper} (him : i < m) (hi : l[i]? = some o) : (i = q → (o.dst = some d ∧ o.guard = none) ∧ d ∉ readsOf o) ∧ (i ≠ q → o.dst ≠ some d ∧ d ∉ readsOf o) := by
  have := List.all_eq_true.1 h i (List.mem_range.2 him)
  rw [hi] at this
  simp only at this
  constructor
  · intro e; rw [if_pos e] at this; simp only [Bool.and_eq_true, beq_iff_eq, Option.isNone_iff_eq_none, Bool.not_eq_true'] at this; exact ⟨this.1, by have := this.2; simpa using this⟩
  · intro e; rw [if_neg e] at this; simp only [Bool.and_eq_true, Bool.not_eq_true', beq_eq_false_iff_ne] at this; exact ⟨this.1, by have := this.2; simpa using this⟩
section
variable {P : Program} {Q : Exit → Act → World → Prop} {l : List Oper} {a0 : Act} {w : World} {vs : List (Nat × Value)} {m q d : Nat} {V : Nat → Value} {U : Array Value} {T : TypeId} {oq : Oper}
theorem wp_region_boxvia {id : Nat} (hm : P.follows .mixedOrders = true) (hml : m ≤ l.length)
    (chk : viaChk l m a0.tmps.size = true) (hkeys : vs.all (fun kv => (l.take m).any (·.dst == some kv.1)) = true)
    (hqm : q < m) (hoq : l[q]? = some oq) (hd : d < a0.tmps.size) (only : onlyChk l m q d = true)
    (hmk : ∀ (ρ : Operand → Value) (W : World), (∀ t ∈ readsOf oq, ρ (.tmp t) = (puts a0 vs).tmps.getD t undef) → (execOp ρ oq).run P W = .ok (.value (V W.heap.size)) (W.alloc (.cells U T)))
    (hop : ∀ (i : Nat) (o : Oper) (t : Nat), i < m → i ≠ q → l[i]? = some o → o.dst = some t → (Region.wanted o (yielded l.toArray (puts a0 vs).tmps) = true ∧ ∀ W, Below w.heap.size w W → calmAt P o (puts a0 vs).eval W ((puts a0 vs).tmps.getD t undef)) ∨ (Region.wanted o (yielded l.toArray (puts a0 vs).tmps) = false ∧ (puts a0 vs).tmps.getD t undef = undef))
    (hgd : ∀ (i : Nat) (o : Oper) (k : Nat) (b : Bool), i < m → l[i]? = some o → o.guard = some (k, b) → k < m ∧ k ≠ q)
    (hQ : ∀ g W, Below w.heap.size w W → w.heap.size ≤ g → W.heap[g]? = some (.cells U T (0, 0)) → wpList P l.toArray Q (l.drop m) ((puts a0 vs).put (some d) (V g)) W) :
    (Code.region id l.toArray true).wp P Q a0 w := by
  have hE : ∀ t, (∀ (j : Nat) (o : Oper), j < m → l[j]? = some o → o.dst ≠ some t) → a0.tmps.getD t undef = (puts a0 vs).tmps.getD t undef := by
    intro t hno
    refine (puts_other t vs a0 (fun kv hkv e => ?_)).symm
    have := List.all_eq_true.1 hkeys kv hkv
    obtain ⟨o, ho, hod⟩ := List.any_eq_true.1 this
    obtain ⟨j, hj, hjo⟩ := List.mem_take_iff_getElem.1 ho
    exact hno j o (by omega) (by rw [← hjo]; exact List.getElem?_eq_getElem (by omega)) (by rw [← e]; simpa using hod)
  have hEs : (puts a0 vs).tmps.size = a0.tmps.size := puts_size _ _
  have hEd : (puts a0 vs).defers = a0.defers := puts_defers _ _
  generalize puts a0 vs = aE at *
  refine wp_region_any hm ?_
  have key : ∀ (fuel : Nat) (listed : Array Bool) (a : Act) (W : World), RInvW l m q d V U T a0 aE w listed a W →
      (List.range m).countP (fun i => !listed.getD i true) + (l.length - m) ≤ fuel → wpAny P .any l.toArray Q fuel listed a W := by
    intro fuel
    have fin : ∀ (fuel : Nat) (listed : Array Bool) (a : Act) (W : World), RInvW l m q d V U T a0 aE w listed a W → (∀ j, j < m → listed.getD j false = true) → l.length - m ≤ fuel → wpAny P .any l.toArray Q fuel listed a W := by
      intro fuel listed a W hI hall hf
      obtain ⟨g, hg, hg0, hgc⟩ := hI.box (hall q hqm)
      have ea : a = aE.put (some d) (V g) := by
        refine act_ext _ _ (by rw [put_defers]; exact hI.df) (by rw [put_size]; exact hI.sz) (fun t ht => ?_)
        by_cases htd : t = d
        · subst htd; rw [hg, put_get_same _ _ _ (by rw [hEs]; exact hd)]
        · rw [put_get_ne _ _ _ _ (Ne.symm htd)]
          by_cases hw : ∃ (j : Nat) (o : Oper), j < m ∧ l[j]? = some o ∧ o.dst = some t
          · obtain ⟨j, o, hjm, hj, ho⟩ := hw
            exact hI.fr1 j o t hjm hj ho htd (hall j hjm)
          · rw [hI.fr0 t htd (fun j o hjm hj ho => (hw ⟨j, o, hjm, hj, ho⟩).elim)]
            exact hE t (fun j o hjm hj ho => hw ⟨j, o, hjm, hj, ho⟩)
      subst ea
      refine any_tailV chk fuel m listed _ W (Nat.le_refl _) hml hI.len (fun j hj => ⟨fun h => ?_, fun h => hall j h⟩) hf (hQ g W hI.bl hg0 hgc)
      rcases Nat.lt_or_ge j m with h2 | h2
      · exact h2
      · rw [hI.rest j h2] at h; cases h
    -- what an operation that may come up reads is at hand
    have look : ∀ (listed : Array Bool) (a : Act) (W : World), RInvW l m q d V U T a0 aE w listed a W → ∀ (i : Nat) (o : Oper), i < m → l[i]? = some o →
        (∀ e ∈ o.after, Region.binds .any e = true → listed.getD e.on false = true) → ∀ t ∈ readsOf o, t ≠ d → a.tmps.getD t undef = aE.tmps.getD t undef := by
      intro listed a W hI i o him hi hall t ht htd
      have h := ((viaChk_at chk hi).2.2.1 him).2.2 t ht
      · by_cases hw : ∃ (j : Nat) (oj : Oper), j < m ∧ l[j]? = some oj ∧ oj.dst = some t
        · obtain ⟨j, oj, hjm, hj, hjd⟩ := hw
          obtain ⟨e, he, hb, hon⟩ := bindsTo_spec (h j oj hjm hj hjd)
          exact hI.fr1 j oj t hjm hj hjd htd (by rw [← hon]; exact hall e he hb)
        · rw [hI.fr0 t htd (fun j oj hjm hj ho => (hw ⟨j, oj, hjm, hj, ho⟩).elim)]
          exact hE t (fun j oj hjm hj ho => hw ⟨j, oj, hjm, hj, ho⟩)
    induction fuel with
    | zero =>
      intro listed a W hI hc
      refine fin 0 listed a W hI (fun j hj => ?_) (by omega)
      have h0 : (List.range m).countP (fun i => !listed.getD i true) = 0 := by omega
      rw [List.countP_eq_zero] at h0
      have := h0 j (List.mem_range.2 hj)
      have hj' : j < listed.size := by rw [hI.len]; omega
      simpa [hj'] using this
    | succ fuel ih =>
      intro listed a W hI hc
      by_cases hall : ∀ j, j < m → listed.getD j false = true
      · exact fin _ listed a W hI hall (by omega)
      · have hno : ∀ i, i ∈ Region.ready .any l.toArray listed → i < m := by
          intro i hi
          rcases Nat.lt_or_ge i m with h | h
          · exact h
          · exfalso
            obtain ⟨o, hio, hil, hi0, ha⟩ := ready_mem hi hI.len
            rcases Nat.eq_or_lt_of_le h with h2 | h2
            · refine hall (fun j hj => ?_)
              exact reach_listed hI.dc _ i j o hio ha ((viaChk_at chk hio).2.2.2.1 h2.symm j hj)
            · obtain ⟨e, he, hb, hon⟩ := bindsTo_spec ((viaChk_at chk hio).2.2.2.2 h2)
              have h3 := ha e he hb
              rw [hon, hI.rest (i - 1) (by omega)] at h3; cases h3
        refine ⟨fun hr => ?_, fun i hi => ?_⟩
        · exfalso
          have all : ∀ i, i < l.length → listed.getD i false = true := by
            intro i
            induction i using Nat.strongRecOn with
            | _ i ih2 =>
              intro hi
              cases hb : listed.getD i false with
              | true => rfl
              | false =>
                exfalso
                have ho : l[i]? = some l[i] := List.getElem?_eq_getElem hi
                have hmem : i ∈ Region.ready .any l.toArray listed := by
                  rw [mem_ready]
                  refine ⟨?_, l[i], by simp, fun e he hbd => ?_⟩
                  · have : i < listed.size := by have := hI.len; omega
                    simp [this] at hb ⊢; exact hb
                  · exact ih2 e.on ((viaChk_at chk ho).2.1 e he hbd) (by have := (viaChk_at chk ho).2.1 e he hbd; omega)
                rw [hr] at hmem; cases hmem
          exact hall (fun j hj => all j (by omega))
        · have him := hno i hi
          obtain ⟨o, hio, hil, hi0, hal⟩ := ready_mem hi hI.len
          have hil' : i < listed.size := by rw [hI.len]; exact hil
          have ho : l.toArray[i]? = some o := by simpa using hio
          have hC := viaChk_at chk hio
          have hCm := hC.2.2.1 him
          obtain ⟨t, hdst, htN⟩ := hCm.2.1
          have hwe : Region.wanted o (yielded l.toArray a.tmps) = Region.wanted o (yielded l.toArray aE.tmps) := by
            unfold Region.wanted
            cases hg : o.guard with
            | none => rfl
            | some kb =>
              obtain ⟨k, b⟩ := kb
              obtain ⟨e, he, hb, hon⟩ := bindsTo_spec (hCm.1 k b hg)
              have : yielded l.toArray a.tmps k = yielded l.toArray aE.tmps k := yielded_congr hI.sz (fun ok tk hk hdk => hI.fr1 k ok tk (hgd i o k b him hio hg).1 (by simpa using hk) hdk (fun e2 => ((onlyChk_at only (hgd i o k b him hio hg).1 (by simpa using hk)).2 (hgd i o k b him hio hg).2).1 (by rw [hdk, e2])) (by rw [← hon]; exact hal e he hb))
              simp only [this]
          have hcnt : (List.range m).countP (fun j => !(listed.setIfInBounds i true).getD j true) + (l.length - m) ≤ fuel := by
            have := count_lt (fun j => !listed.getD j true) (fun j => !(listed.setIfInBounds i true).getD j true) (fun j hj => by
                by_cases e : i = j
                · subst e; simp [hil'] at hj
                · rw [getD_set_ne true e] at hj; exact hj) i (by simpa [hil'] using hi0) (by simp [hil']) (List.range m) (List.mem_range.2 him)
            omega
          have dcS : ∀ (i2 : Nat) (o2 : Oper), l[i2]? = some o2 → (listed.setIfInBounds i true).getD i2 false = true → ∀ e ∈ o2.after, Region.binds .any e = true → (listed.setIfInBounds i true).getD e.on false = true := by
            intro j oj hj hl e he hb
            rw [getD_set _ _ _ hil']
            by_cases ei : i = e.on
            · rw [if_pos ei]
            · rw [if_neg ei]
              rw [getD_set _ _ _ hil'] at hl
              by_cases ej : i = j
              · subst ej; rw [hio] at hj; obtain rfl := Option.some.inj hj; exact hal e he hb
              · rw [if_neg ej] at hl; exact hI.dc j oj hj hl e he hb
          by_cases hiq : i = q
          · -- the new block
            subst hiq
            have eo : o = oq := by rw [hoq] at hio; exact (Option.some.inj hio).symm
            subst eo
            obtain ⟨⟨hod, hogd⟩, hord⟩ := (onlyChk_at only him hio).1 rfl
            have hrun := hmk a.eval W (fun t ht => look listed a W hI i o him hio hal t ht (fun e => hord (e ▸ ht)))
            have hw : Region.wanted o (yielded l.toArray a.tmps) = true := by unfold Region.wanted; rw [hogd]
            unfold wpOp
            simp only [ho, hw, if_true]
            refine .inl ?_
            unfold Oper.wp
            rw [hrun]
            simp only [Oper.upon, hod]
            refine ih _ _ _ ⟨by rw [put_defers]; exact hI.df, by rw [put_size]; exact hI.sz, by simpa using hI.len, ?_, ?_, bal hI.bl _, fun _ => ⟨W.heap.size, put_get_same _ _ _ (by rw [hI.sz, hEs]; exact hd), hI.bl.size, heap_alloc_new _ _⟩, ?_, dcS⟩ hcnt
            · intro j oj u hjm hj hjd hud hl
              rw [put_get_ne _ _ _ _ (Ne.symm hud)]
              rw [getD_set _ _ _ hil'] at hl
              by_cases e : i = j
              · subst e; rw [hio] at hj; obtain rfl := Option.some.inj hj; rw [hod] at hjd; exact (hud (Option.some.inj hjd).symm).elim
              · rw [if_neg e] at hl; exact hI.fr1 j oj u hjm hj hjd hud hl
            · intro u hud hnu
              rw [put_get_ne _ _ _ _ (Ne.symm hud)]
              refine hI.fr0 u hud (fun j oj hjm hj hjd => ?_)
              have := hnu j oj hjm hj hjd
              rw [getD_set _ _ _ hil'] at this
              by_cases e : i = j
              · rw [if_pos e] at this; cases this
              · rw [if_neg e] at this; exact this
            · intro j hj
              rw [getD_set _ _ _ hil', if_neg (by omega)]; exact hI.rest j hj
          · obtain ⟨hon1, hon2⟩ := (onlyChk_at only him hio).2 hiq
            have htd : t ≠ d := fun e => hon1 (by rw [hdst, e])
            have step : ∀ W', Below w.heap.size w W' → (∀ g, w.heap.size ≤ g → W.heap[g]? = some (.cells U T (0, 0)) → W'.heap[g]? = some (.cells U T (0, 0))) → wpAny P .any l.toArray Q fuel (listed.setIfInBounds i true) (a.put (some t) (aE.tmps.getD t undef)) W' := by
              intro W' hW' hkeep
              refine ih _ _ _ ⟨by rw [put_defers]; exact hI.df, by rw [put_size]; exact hI.sz, by simpa using hI.len, ?_, ?_, hW', ?_, ?_, dcS⟩ hcnt
              · intro j oj u hjm hj hjd hud hl
                by_cases htu : t = u
                · subst htu; rw [put_get_same _ _ _ (by rw [hI.sz, hEs]; exact htN)]
                · rw [put_get_ne _ _ _ _ htu]
                  rw [getD_set _ _ _ hil'] at hl
                  by_cases e : i = j
                  · subst e; rw [hio] at hj; obtain rfl := Option.some.inj hj; rw [hdst] at hjd; exact (htu (Option.some.inj hjd)).elim
                  · rw [if_neg e] at hl; exact hI.fr1 j oj u hjm hj hjd hud hl
              · intro u hud hnu
                have htu : t ≠ u := fun e => by
                  subst e
                  have := hnu i o him hio hdst
                  rw [getD_set _ _ _ hil', if_pos rfl] at this; cases this
                rw [put_get_ne _ _ _ _ htu]
                refine hI.fr0 u hud (fun j oj hjm hj hjd => ?_)
                have := hnu j oj hjm hj hjd
                rw [getD_set _ _ _ hil'] at this
                by_cases e : i = j
                · rw [if_pos e] at this; cases this
                · rw [if_neg e] at this; exact this
              · intro hl
                rw [getD_set _ _ _ hil', if_neg hiq] at hl
                obtain ⟨g, h1, h2, h3⟩ := hI.box hl
                exact ⟨g, by rw [put_get_ne _ _ _ _ htd]; exact h1, h2, hkeep g h2 h3⟩
              · intro j hj
                rw [getD_set _ _ _ hil', if_neg (by omega)]; exact hI.rest j hj
            unfold wpOp
            simp only [ho]
            rcases hop i o t him hiq hio hdst with ⟨hw, hcalm⟩ | ⟨hw, hun⟩
            · rw [hwe, hw]
              simp only [if_true]
              refine .inl ?_
              have heq : execOp aE.eval o = execOp a.eval o := execOp_congr o hC.1 (fun x hx => by
                  cases x with
                  | tmp u =>
                    have hu : u ∈ readsOf o := List.mem_filterMap.2 ⟨.tmp u, by simpa using hx, rfl⟩
                    exact (look listed a W hI i o him hio hal u hu (fun e => hon2 (e ▸ hu))).symm
                  | _ => rfl)
              have hcalm' : calmAt P o a.eval W (aE.tmps.getD t undef) := by
                  refine ⟨?_⟩; have hh := (hcalm W hI.bl).out; unfold calmRun at hh ⊢; rw [← heq]; exact hh
              refine wp_of_calm hcalm' (fun W' hb => ?_)
              rw [hdst]
              exact step W' (below_tr' hI.bl hb) (fun g _ hg => by rw [hb.block _ (Array.getElem?_eq_some_iff.1 hg).1]; exact hg)
            · rw [hwe, hw]
              simp only [Bool.false_eq_true, if_false, hdst]
              rw [hun] at step
              exact step W hI.bl (fun _ _ h => h)
  refine key _ _ _ _ ⟨by rw [hEd], hEs.symm, by simp, ?_, ?_, ⟨rfl, rfl, rfl, Nat.le_refl _, fun _ _ => rfl⟩, (fun h => by rw [rep_false] at h; cases h), ?_, ?_⟩ ?_
  · intro j o t _ hj hjd _ hl; rw [rep_false] at hl; cases hl
  · intro t _ _; rfl
  · intro j _; exact rep_false _ _
  · intro j o _ hl; rw [rep_false] at hl; cases hl
  · have : (List.range m).countP (fun i => !(Array.replicate l.toArray.size false).getD i true) ≤ m := Nat.le_trans List.countP_le_length (by simp)
    simp at this ⊢; omega
def guardsOff (l : List Oper) (m q : Nat) : Bool := (l.take m).all fun o => match o.guard with | none => true | some (k, _) => decide (k < m) && k != q
theorem guardsOff_at (h : guardsOff l m q = true) {i : Nat} {o : Oper} {k : Nat} {b : Bool} (him : i < m) (hi : l[i]? = some o) (hg : o.guard = some (k, b)) : k < m ∧ k ≠ q := by
  have hlt : i < l.length := (List.getElem?_eq_some_iff.1 hi).1
  have hmem : o ∈ l.take m := List.mem_take_iff_getElem.2 ⟨i, by omega, (List.getElem?_eq_some_iff.1 hi).2⟩
  have := List.all_eq_true.1 h o hmem
  rw [hg] at this
  simp only [Bool.and_eq_true, decide_eq_true_eq, bne_iff_ne] at this
  exact this
/-- m: the drawn ones; q: the one among them that makes the block (cells U, slot d, its value V of the block's number). -/
theorem region_boxvia {id : Nat} (m q d : Nat) (V : Nat → Value) (U : Array Value) (T : TypeId) (vs : List (Nat × Value)) (hm : P.follows .mixedOrders = true) (hml : m ≤ l.length) (hoq : l[q]? = some oq)
    (chk : viaChk l m a0.tmps.size = true) (hgd : guardsOff l m q = true) (hkeys : vs.all (fun kv => (l.take m).any (·.dst == some kv.1)) = true) (hqm : q < m) (hd : d < a0.tmps.size) (only : onlyChk l m q d = true)
    (H : ∀ aE, puts a0 vs = aE → (∀ (ρ : Operand → Value) (W : World), (∀ t ∈ readsOf oq, ρ (.tmp t) = aE.tmps.getD t undef) → (execOp ρ oq).run P W = .ok (.value (V W.heap.size)) (W.alloc (.cells U T))) ∧
      AllBut (CalmG P aE w l) q q 0 (l.take m) ∧ ∀ g W, Below w.heap.size w W → w.heap.size ≤ g → W.heap[g]? = some (.cells U T (0, 0)) → wpList P l.toArray Q (l.drop m) (aE.put (some d) (V g)) W) :
    (Code.region id l.toArray true).wp P Q a0 w := by
  obtain ⟨h1, h2, h3⟩ := H _ rfl
  refine wp_region_boxvia hm hml chk hkeys hqm hoq hd only h1 (fun i o t him hiq hi hd => ?_) (fun i o k b him hi hg => guardsOff_at hgd him hi hg) h3
  have hlt : i < l.length := (List.getElem?_eq_some_iff.1 hi).1
  exact AllBut.spec (l.take m) 0 h2 i o (by rw [List.getElem?_take_of_lt him]; exact hi) (by omega) (by omega) t hd
end
end Go.Proofs.Ythkbhaaodegocaa
/- Contracts: the reference's normal map. (Printed by genm4.py, a program of this session.) -/
namespace Go.Proofs.Ythkbhaaodegocaa
open Go.RowKit
set_option linter.unusedVariables false
set_option linter.unusedSimpArgs false
theorem own_ne {W : World} {base : Nat} {T T' : TypeId} {v : Value} {n g : Nat} {xs : List Value} {cs : Array Value} (h : W.ownsRow base T 1 v n xs) (hg : W.heap[g]? = some (.cells cs T' (0, 0))) (hT : T ≠ T') : v.ownBlock ≠ some g := by
  rcases h.2 with ⟨rfl, _⟩ | ⟨g', cap, cur, rfl, hb, hg', _⟩
  · intro e; simp [Value.ownBlock] at e
  · intro e
    have : g' = g := by simpa [Value.ownBlock] using e
    subst this
    rw [hg] at hg'
    simp only [Option.some.injEq, Obj.cells.injEq] at hg'
    exact hT hg'.2.1.symm
theorem setCell_heap {W : World} {g : Nat} {cs : Array Value} {T : TypeId} {fr : Nat × Nat} (h : W.heap[g]? = some (.cells cs T fr)) (j : Nat) (v : Value) : (W.setCell ⟨g, j, none⟩ v).heap[g]? = some (.cells (cs.setIfInBounds j v) T fr) := by
  simp [World.setCell, Array.getElem?_modify, h]
theorem calm_build {P : Program} {o : Oper} {ρ : Operand → Value} {W : World} (t : TypeId) (parts : Array (Nat × Operand)) (U : Array Value) (ho : o.op = .build t parts) (hb : P.built t (parts.map fun (i, x) => (i, ρ x)).toList = some U) : calmAt P o ρ W (.agg U) := by
  refine calm_run ?_
  unfold execOp
  simp only [ho, Sem.run_bind, run_build W t _ U hb, Result.andThen_ok, Sem.run_pure]
theorem ownInts' {W : World} {base : Nat} {T : TypeId} {v : Value} {l : List Int} {n : Nat} (h : W.ownsRow base T 1 v n (ints l)) (hl : l.length = n) (hn : 0 < n) :
    ∃ g cap, v = .slice (some ⟨g, 0, none⟩) n cap ∧ base ≤ g ∧ ∀ i, i < n → W.cell? ⟨g, 0 + i, none⟩ = some (.int .i64 (l.getD i 0)) := by
  obtain ⟨g, cap, rfl, hp⟩ := ownInts h hl hn
  refine ⟨g, cap, rfl, ?_, hp⟩
  rcases h.2 with ⟨h0, _⟩ | ⟨g', cap', cur, h1, hb, _⟩
  · cases h0
  · cases h1; exact hb
/-- What has been laid in of the normal map after k rows. -/
def outC (k : Nat) (n0 n1 n2 n3 n4 n5 n6 n7 n8 : Int) : Array Value := match k with
  | 0 => #[.int .i64 0, .int .i64 0, .int .i64 0, .int .i64 0, .int .i64 0, .int .i64 0, .int .i64 0, .int .i64 0, .int .i64 0]
  | 1 => #[.int .i64 n0, .int .i64 n1, .int .i64 n2, .int .i64 0, .int .i64 0, .int .i64 0, .int .i64 0, .int .i64 0, .int .i64 0]
  | 2 => #[.int .i64 n0, .int .i64 n1, .int .i64 n2, .int .i64 n3, .int .i64 n4, .int .i64 n5, .int .i64 0, .int .i64 0, .int .i64 0]
  | _ => #[.int .i64 n0, .int .i64 n1, .int .i64 n2, .int .i64 n3, .int .i64 n4, .int .i64 n5, .int .i64 n6, .int .i64 n7, .int .i64 n8]
theorem l02Det_any (p x0 x1 x2 x3 x4 x5 x6 x7 x8 : Int) (w : World) (hp : prB p = true) (h0 : In13 (x0, x1, x2)) (h1 : In13 (x3, x4, x5)) (h2 : In13 (x6, x7, x8)) :
    Calls Try.prog 162 #[.int .i64 p, .agg #[.int .i64 x0, .int .i64 x1, .int .i64 x2, .int .i64 x3, .int .i64 x4, .int .i64 x5, .int .i64 x6, .int .i64 x7, .int .i64 x8]] w (Ret w (.int .i64 (detZ (x0, x1, x2) (x3, x4, x5) (x6, x7, x8) % p))) := by
  have HD := Lib.hid (fun (W : World) => l01Det_any p x0 x1 x2 x3 x4 x5 x6 x7 x8 W hp h0 h1 h2)
  generalize detZ (x0, x1, x2) (x3, x4, x5) (x6, x7, x8) % p = d at *
  clear hp h0 h1 h2
  go_enter Try.func162, Try.ntmps162
  go_wp2_with (go_at_call 120; (with_reducible refine (HD.out _).mono ?_); rintro e w1_ ⟨rfl, hb1⟩; obtain ⟨hcb1, hfb1, hlb1⟩ := bcell hb1; have hsz1 := hb1.size; (try simp at hsz1); have HB1 := Lib.hid hb1; clear hb1)
  go_ret
  exact ⟨rfl, (by repeat (first | exact Below.refl _ _ | refine bset ?_ _ _ (by omega) _ | refine bal ?_ _ | refine bdrN ?_ _ | refine bdr ?_ | refine below_tr' ?_ HB1.out))⟩
set_option maxRecDepth 20000 in
set_option maxHeartbeats 4000000 in
theorem l02Normal_any (p x0 x1 x2 x3 x4 x5 x6 x7 x8 : Int) (w : World) (hp : prB p = true) (hx : ∀ x ∈ [x0, x1, x2, x3, x4, x5, x6, x7, x8], -4611686018427387904 ≤ x ∧ x ≤ 4611686018427387904) (f : Int) (hf : facL p [x0, x1, x2, x3, x4, x5, x6, x7, x8] = f) :
    Calls Try.prog 163 #[.int .i64 p, .agg #[.int .i64 x0, .int .i64 x1, .int .i64 x2, .int .i64 x3, .int .i64 x4, .int .i64 x5, .int .i64 x6, .int .i64 x7, .int .i64 x8]] w (Ret w (.agg #[.int .i64 (x0 % p * f % p), .int .i64 (x1 % p * f % p), .int .i64 (x2 % p * f % p), .int .i64 (x3 % p * f % p), .int .i64 (x4 % p * f % p), .int .i64 (x5 % p * f % p), .int .i64 (x6 % p * f % p), .int .i64 (x7 % p * f % p), .int .i64 (x8 % p * f % p)])) := by
  obtain ⟨i0, hi, hz0, hz1, hz2⟩ := info_parts info64
  have HI0 := Lib.hid hi; have HZ0 := Lib.hid hz0; have HZ1 := Lib.hid hz1; have HZ2 := Lib.hid hz2
  have HNo := Lib.hid (fun (W : World) (g cap : Nat) hc => l01Norm_any p g 0 9 cap [x0, x1, x2, x3, x4, x5, x6, x7, x8] W hp rfl (by omega) hc (fun i hi => hx _ (by
    have hl : i < [x0, x1, x2, x3, x4, x5, x6, x7, x8].length := hi
    simp only [List.getD, List.getElem?_eq_getElem hl, Option.getD_some]
    exact List.getElem_mem hl)))
  have HNl := Lib.hid (show normL p [x0, x1, x2, x3, x4, x5, x6, x7, x8] = [x0 % p * f % p, x1 % p * f % p, x2 % p * f % p, x3 % p * f % p, x4 % p * f % p, x5 % p * f % p, x6 % p * f % p, x7 % p * f % p, x8 % p * f % p] by unfold normL; rw [hf]; rfl)
  clear hi hz0 hz1 hz2 hp hx hf
  generalize x0 % p * f % p = n0 at *
  generalize x1 % p * f % p = n1 at *
  generalize x2 % p * f % p = n2 at *
  generalize x3 % p * f % p = n3 at *
  generalize x4 % p * f % p = n4 at *
  generalize x5 % p * f % p = n5 at *
  generalize x6 % p * f % p = n6 at *
  generalize x7 % p * f % p = n7 at *
  generalize x8 % p * f % p = n8 at *
  generalize nzB p [x0, x1, x2, x3, x4, x5, x6, x7, x8] = nz at *
  go_enter Try.func163, Try.ntmps163
  go_wp2_with (refine wpList_store_row _ rfl 26 _ _ rfl rfl rfl rfl (heap_alloc_new _ _) rfl Try.sizeOf26 (by simp [Value.oneCell']) ?_; rw [alloc_setRow])
  go_loopw [5, 7] (fun v i wr => ∃ k : Nat, k ≤ 3 ∧ i = .int .i64 k ∧ Hid (wr.ownsRow (w.heap.size + 1 + 1) 2 1 v (3 * k) (ints ([x0, x1, x2, x3, x4, x5, x6, x7, x8].take (3 * k)))) ∧ wr.heap[w.heap.size]? = some (.cells #[.int .i64 x0, .int .i64 x1, .int .i64 x2, .int .i64 x3, .int .i64 x4, .int .i64 x5, .int .i64 x6, .int .i64 x7, .int .i64 x8] 26 (0, 0)) ∧ wr.heap[w.heap.size + 1]? = some (.cells #[.int .i64 0, .int .i64 0, .int .i64 0, .int .i64 0, .int .i64 0, .int .i64 0, .int .i64 0, .int .i64 0, .int .i64 0] 26 (0, 0)) ∧ wr.heap[w.heap.size + 1 + 1 + 1]? = some (.cells #[.int .i64 0, .int .i64 0, .int .i64 0, .int .i64 0, .int .i64 0, .int .i64 0, .int .i64 0, .int .i64 0, .int .i64 0] 26 (0, 0)) ∧ Hid (Below w.heap.size w wr)) (fun _ i wr => 3 - (intOf i).toNat)
  case atStart =>
    refine ⟨0, by omega, rfl, Lib.hid ?_, ?_, ?_, ?_, Lib.hid (by repeat (first | exact Below.refl _ _ | refine bset ?_ _ _ (by omega) _ | refine bal ?_ _ | refine bdrN ?_ _ | refine bdr ?_))⟩
    · exact ⟨rfl, .inr ⟨w.heap.size + 1 + 1, 0, #[], rfl, Nat.le_refl _, by rw [hn_pastN _ _ _ (by first | omega | (simp; done) | (simp; omega)), hn_atN _ _ _ (by simp)], Nat.le_refl _, by unfold maxLen; omega, rfl, rfl⟩⟩
    · rw [hn_pastN _ _ _ (by first | omega | (simp; done) | (simp; omega)), hn_pastN _ _ _ (by first | omega | (simp; done) | (simp; omega)), hn_pastN _ _ _ (by first | omega | (simp; done) | (simp; omega)), hn_atN _ _ _ (by simp)]
    · rw [hn_pastN _ _ _ (by first | omega | (simp; done) | (simp; omega)), hn_pastN _ _ _ (by first | omega | (simp; done) | (simp; omega)), hn_atN _ _ _ (by simp)]
    · rw [hn_atN _ _ _ (by simp)]
  case round =>
    obtain ⟨k, hk, rfl, HO, km, kr, ko, HB⟩ := hrel
    rcases (show k = 0 ∨ k = 1 ∨ k = 2 ∨ k = 3 by omega) with rfl | rfl | rfl | rfl
    · clear hk
      have lm := (Array.getElem?_eq_some_iff.1 km).1
      have lr := (Array.getElem?_eq_some_iff.1 kr).1
      have lo := (Array.getElem?_eq_some_iff.1 ko).1
      go_wp2
      refine region_boxvia 14 13 30 (fun g => .slice (some ⟨g, 0, none⟩) 3 3) #[.int .i64 x0, .int .i64 x1, .int .i64 x2] 2 [(17, u5), (18, .int .i64 0), (19, .pointer (some ⟨w.heap.size, 0, none⟩)), (20, .pointer (some ⟨w.heap.size, 0, none⟩)), (21, .int .i64 x0), (22, .int .i64 0), (23, .pointer (some ⟨w.heap.size, 0, none⟩)), (24, .pointer (some ⟨w.heap.size, 1, none⟩)), (25, .int .i64 x1), (26, .int .i64 0), (27, .pointer (some ⟨w.heap.size, 0, none⟩)), (28, .pointer (some ⟨w.heap.size, 2, none⟩)), (29, .int .i64 x2)] (by kernel_rfl) (by decide) rfl (by kernel_rfl) (by kernel_rfl) (by kernel_rfl) (by decide) (by simp) (by kernel_rfl) (fun aE hpe => ?_)
      simp only [puts, Act.put, List.setIfInBounds_toArray, List.set_cons_zero, List.set_cons_succ] at hpe
      subst hpe
      refine ⟨?_, ⟨.inr (.inr ?_), .inr (.inr ?_), .inr (.inr ?_), .inr (.inr ?_), .inr (.inr ?_), .inr (.inr ?_), .inr (.inr ?_), .inr (.inr ?_), .inr (.inr ?_), .inr (.inr ?_), .inr (.inr ?_), .inr (.inr ?_), .inr (.inr ?_), .inl rfl, trivial⟩, ?_⟩
      · intro ρ W hr
        have r0 : ρ (.tmp 21) = .int .i64 x0 := hr 21 (by simp [readsOf, Op.operands])
        have r1 : ρ (.tmp 25) = .int .i64 x1 := hr 25 (by simp [readsOf, Op.operands])
        have r2 : ρ (.tmp 29) = .int .i64 x2 := hr 29 (by simp [readsOf, Op.operands])
        simp [execOp, go_sem, r0, r1, r2]
      · exact CalmG.mk 17 (u5) rfl rfl rfl (fun W hW => calm_move (.tmp 5) rfl rfl)
      · exact CalmG.mk 18 (.int .i64 0) rfl rfl rfl (fun W hW => calm_move (.tmp 7) rfl rfl)
      · exact CalmG.mk 19 (.pointer (some ⟨w.heap.size, 0, none⟩)) rfl rfl rfl (fun W hW => calm_run (by first | (simp [execOp, Act.eval, go_sem]; done) | (simp [execOp, Act.eval, go_sem]; rfl)))
      · exact CalmG.mk 20 (.pointer (some ⟨w.heap.size, 0, none⟩)) rfl rfl rfl (fun W hW => calm_run (by first | (simp [execOp, Act.eval, go_sem]; done) | (simp [execOp, Act.eval, go_sem]; rfl)))
      · exact CalmG.mk 21 (.int .i64 x0) rfl rfl rfl (fun W hW => calm_run (by have hc : W.cell? ⟨w.heap.size, 0, none⟩ = some (.int .i64 x0) := (by rw [cell_of_row W _ 0 _ _ _ (by rw [hW.block _ lm]; exact km)]; rfl); simp [execOp, Act.eval, go_sem, hc]))
      · exact CalmG.mk 22 (.int .i64 0) rfl rfl rfl (fun W hW => calm_move (.tmp 7) rfl rfl)
      · exact CalmG.mk 23 (.pointer (some ⟨w.heap.size, 0, none⟩)) rfl rfl rfl (fun W hW => calm_run (by first | (simp [execOp, Act.eval, go_sem]; done) | (simp [execOp, Act.eval, go_sem]; rfl)))
      · exact CalmG.mk 24 (.pointer (some ⟨w.heap.size, 1, none⟩)) rfl rfl rfl (fun W hW => calm_run (by first | (simp [execOp, Act.eval, go_sem]; done) | (simp [execOp, Act.eval, go_sem]; rfl)))
      · exact CalmG.mk 25 (.int .i64 x1) rfl rfl rfl (fun W hW => calm_run (by have hc : W.cell? ⟨w.heap.size, 1, none⟩ = some (.int .i64 x1) := (by rw [cell_of_row W _ 1 _ _ _ (by rw [hW.block _ lm]; exact km)]; rfl); simp [execOp, Act.eval, go_sem, hc]))
      · exact CalmG.mk 26 (.int .i64 0) rfl rfl rfl (fun W hW => calm_move (.tmp 7) rfl rfl)
      · exact CalmG.mk 27 (.pointer (some ⟨w.heap.size, 0, none⟩)) rfl rfl rfl (fun W hW => calm_run (by first | (simp [execOp, Act.eval, go_sem]; done) | (simp [execOp, Act.eval, go_sem]; rfl)))
      · exact CalmG.mk 28 (.pointer (some ⟨w.heap.size, 2, none⟩)) rfl rfl rfl (fun W hW => calm_run (by first | (simp [execOp, Act.eval, go_sem]; done) | (simp [execOp, Act.eval, go_sem]; rfl)))
      · exact CalmG.mk 29 (.int .i64 x2) rfl rfl rfl (fun W hW => calm_run (by have hc : W.cell? ⟨w.heap.size, 2, none⟩ = some (.int .i64 x2) := (by rw [cell_of_row W _ 2 _ _ _ (by rw [hW.block _ lm]; exact km)]; rfl); simp [execOp, Act.eval, go_sem, hc]))
      intro g W hW hg hgc
      simp only [List.drop_succ_cons, List.drop_zero, Act.put, List.setIfInBounds_toArray, List.set_cons_zero, List.set_cons_succ]
      have jm : W.heap[w.heap.size]? = some (.cells #[.int .i64 x0, .int .i64 x1, .int .i64 x2, .int .i64 x3, .int .i64 x4, .int .i64 x5, .int .i64 x6, .int .i64 x7, .int .i64 x8] 26 (0, 0)) := by rw [hW.block _ lm]; exact km
      have jr : W.heap[w.heap.size + 1]? = some (.cells #[.int .i64 0, .int .i64 0, .int .i64 0, .int .i64 0, .int .i64 0, .int .i64 0, .int .i64 0, .int .i64 0, .int .i64 0] 26 (0, 0)) := by rw [hW.block _ lr]; exact kr
      have jo : W.heap[w.heap.size + 1 + 1 + 1]? = some (.cells #[.int .i64 0, .int .i64 0, .int .i64 0, .int .i64 0, .int .i64 0, .int .i64 0, .int .i64 0, .int .i64 0, .int .i64 0] 26 (0, 0)) := by rw [hW.block _ lo]; exact ko
      have HO2 := Lib.hid (own_below HO.out hW)
      have HB2 := Lib.hid (low_tr' HB.out hW HB.out.size)
      have HS := Lib.hid (show [x0, x1, x2, x3, x4, x5, x6, x7, x8].take (3 * 0) ++ [x0, x1, x2] = [x0, x1, x2, x3, x4, x5, x6, x7, x8].take (3 * 1) from rfl)
      have d0 : W.cell? ⟨g, 0, none⟩ = some (.int .i64 x0) := by rw [cell_of_row W _ 0 _ _ _ hgc]; rfl
      have d1 : W.cell? ⟨g, 0 + 1, none⟩ = some (.int .i64 x1) := by rw [cell_of_row W _ 1 _ _ _ hgc]; rfl
      have d2 : W.cell? ⟨g, 0 + 2, none⟩ = some (.int .i64 x2) := by rw [cell_of_row W _ 2 _ _ _ hgc]; rfl
      have HD := Lib.hid (src3 d0 d1 d2)
      have hsz : w.heap.size + 1 + 1 ≤ W.heap.size := by have := (Array.getElem?_eq_some_iff.1 jo).1; omega
      have Jm := Lib.hid jm
      have Jr := Lib.hid jr
      have Jo := Lib.hid jo
      clear km kr ko HO HB hW hgc d0 d1 d2 jm jr jo lm lr lo
      go_wp2_with (at_builtin; refine wpList_append_own _ rfl _ _ 34 rfl (w.heap.size + 1 + 1) 2 i0 (.int .i64 0) 1 8 Try.underlying34 HI0.out HZ0.out HZ1.out HZ2.out rfl (by decide) _ _ _ rfl HO2.out ⟨g, 0, none⟩ 3 3 [.int .i64 x0, .int .i64 x1, .int .i64 x2] rfl rfl HD.out (oneP _ _ _) (by unfold maxLen; omega) (by omega) hsz ?_; intro v2 w2 hown hgrow _; have HO3 := Lib.hid hown; have HG := Lib.hid hgrow; clear hown hgrow)
      have hb := own_base' HO2.out
      have ne : ∀ a, a < w.heap.size + 1 + 1 → some a ≠ u5.ownBlock := fun a ha e => by have := hb a e.symm; omega
      have neo : some (w.heap.size + 1 + 1 + 1) ≠ u5.ownBlock := fun e => own_ne HO2.out Jo.out (by decide) e.symm
      go_roundw
      case rel => exact ⟨1, by omega, rfl, Lib.hid (by rw [← HS.out, ints_app]; exact HO3.out), by rw [HG.out.block _ (Array.getElem?_eq_some_iff.1 Jm.out).1 (ne _ (by omega))]; exact Jm.out, by rw [HG.out.block _ (Array.getElem?_eq_some_iff.1 Jr.out).1 (ne _ (by omega))]; exact Jr.out, by rw [HG.out.block _ (Array.getElem?_eq_some_iff.1 Jo.out).1 neo]; exact Jo.out, Lib.hid (HB2.out.grown HG.out HB2.out.size (fun k' hk' => by have := hb k' hk'; omega))⟩
      case measure => simp [intOf]
    · clear hk
      have lm := (Array.getElem?_eq_some_iff.1 km).1
      have lr := (Array.getElem?_eq_some_iff.1 kr).1
      have lo := (Array.getElem?_eq_some_iff.1 ko).1
      go_wp2
      refine region_boxvia 14 13 30 (fun g => .slice (some ⟨g, 0, none⟩) 3 3) #[.int .i64 x3, .int .i64 x4, .int .i64 x5] 2 [(17, u5), (18, .int .i64 1), (19, .pointer (some ⟨w.heap.size, 3, none⟩)), (20, .pointer (some ⟨w.heap.size, 3, none⟩)), (21, .int .i64 x3), (22, .int .i64 1), (23, .pointer (some ⟨w.heap.size, 3, none⟩)), (24, .pointer (some ⟨w.heap.size, 4, none⟩)), (25, .int .i64 x4), (26, .int .i64 1), (27, .pointer (some ⟨w.heap.size, 3, none⟩)), (28, .pointer (some ⟨w.heap.size, 5, none⟩)), (29, .int .i64 x5)] (by kernel_rfl) (by decide) rfl (by kernel_rfl) (by kernel_rfl) (by kernel_rfl) (by decide) (by simp) (by kernel_rfl) (fun aE hpe => ?_)
      simp only [puts, Act.put, List.setIfInBounds_toArray, List.set_cons_zero, List.set_cons_succ] at hpe
      subst hpe
      refine ⟨?_, ⟨.inr (.inr ?_), .inr (.inr ?_), .inr (.inr ?_), .inr (.inr ?_), .inr (.inr ?_), .inr (.inr ?_), .inr (.inr ?_), .inr (.inr ?_), .inr (.inr ?_), .inr (.inr ?_), .inr (.inr ?_), .inr (.inr ?_), .inr (.inr ?_), .inl rfl, trivial⟩, ?_⟩
      · intro ρ W hr
        have r0 : ρ (.tmp 21) = .int .i64 x3 := hr 21 (by simp [readsOf, Op.operands])
        have r1 : ρ (.tmp 25) = .int .i64 x4 := hr 25 (by simp [readsOf, Op.operands])
        have r2 : ρ (.tmp 29) = .int .i64 x5 := hr 29 (by simp [readsOf, Op.operands])
        simp [execOp, go_sem, r0, r1, r2]
      · exact CalmG.mk 17 (u5) rfl rfl rfl (fun W hW => calm_move (.tmp 5) rfl rfl)
      · exact CalmG.mk 18 (.int .i64 1) rfl rfl rfl (fun W hW => calm_move (.tmp 7) rfl rfl)
      · exact CalmG.mk 19 (.pointer (some ⟨w.heap.size, 3, none⟩)) rfl rfl rfl (fun W hW => calm_run (by first | (simp [execOp, Act.eval, go_sem]; done) | (simp [execOp, Act.eval, go_sem]; rfl)))
      · exact CalmG.mk 20 (.pointer (some ⟨w.heap.size, 3, none⟩)) rfl rfl rfl (fun W hW => calm_run (by first | (simp [execOp, Act.eval, go_sem]; done) | (simp [execOp, Act.eval, go_sem]; rfl)))
      · exact CalmG.mk 21 (.int .i64 x3) rfl rfl rfl (fun W hW => calm_run (by have hc : W.cell? ⟨w.heap.size, 3, none⟩ = some (.int .i64 x3) := (by rw [cell_of_row W _ 3 _ _ _ (by rw [hW.block _ lm]; exact km)]; rfl); simp [execOp, Act.eval, go_sem, hc]))
      · exact CalmG.mk 22 (.int .i64 1) rfl rfl rfl (fun W hW => calm_move (.tmp 7) rfl rfl)
      · exact CalmG.mk 23 (.pointer (some ⟨w.heap.size, 3, none⟩)) rfl rfl rfl (fun W hW => calm_run (by first | (simp [execOp, Act.eval, go_sem]; done) | (simp [execOp, Act.eval, go_sem]; rfl)))
      · exact CalmG.mk 24 (.pointer (some ⟨w.heap.size, 4, none⟩)) rfl rfl rfl (fun W hW => calm_run (by first | (simp [execOp, Act.eval, go_sem]; done) | (simp [execOp, Act.eval, go_sem]; rfl)))
      · exact CalmG.mk 25 (.int .i64 x4) rfl rfl rfl (fun W hW => calm_run (by have hc : W.cell? ⟨w.heap.size, 4, none⟩ = some (.int .i64 x4) := (by rw [cell_of_row W _ 4 _ _ _ (by rw [hW.block _ lm]; exact km)]; rfl); simp [execOp, Act.eval, go_sem, hc]))
      · exact CalmG.mk 26 (.int .i64 1) rfl rfl rfl (fun W hW => calm_move (.tmp 7) rfl rfl)
      · exact CalmG.mk 27 (.pointer (some ⟨w.heap.size, 3, none⟩)) rfl rfl rfl (fun W hW => calm_run (by first | (simp [execOp, Act.eval, go_sem]; done) | (simp [execOp, Act.eval, go_sem]; rfl)))
      · exact CalmG.mk 28 (.pointer (some ⟨w.heap.size, 5, none⟩)) rfl rfl rfl (fun W hW => calm_run (by first | (simp [execOp, Act.eval, go_sem]; done) | (simp [execOp, Act.eval, go_sem]; rfl)))
      · exact CalmG.mk 29 (.int .i64 x5) rfl rfl rfl (fun W hW => calm_run (by have hc : W.cell? ⟨w.heap.size, 5, none⟩ = some (.int .i64 x5) := (by rw [cell_of_row W _ 5 _ _ _ (by rw [hW.block _ lm]; exact km)]; rfl); simp [execOp, Act.eval, go_sem, hc]))
      intro g W hW hg hgc
      simp only [List.drop_succ_cons, List.drop_zero, Act.put, List.setIfInBounds_toArray, List.set_cons_zero, List.set_cons_succ]
      have jm : W.heap[w.heap.size]? = some (.cells #[.int .i64 x0, .int .i64 x1, .int .i64 x2, .int .i64 x3, .int .i64 x4, .int .i64 x5, .int .i64 x6, .int .i64 x7, .int .i64 x8] 26 (0, 0)) := by rw [hW.block _ lm]; exact km
      have jr : W.heap[w.heap.size + 1]? = some (.cells #[.int .i64 0, .int .i64 0, .int .i64 0, .int .i64 0, .int .i64 0, .int .i64 0, .int .i64 0, .int .i64 0, .int .i64 0] 26 (0, 0)) := by rw [hW.block _ lr]; exact kr
      have jo : W.heap[w.heap.size + 1 + 1 + 1]? = some (.cells #[.int .i64 0, .int .i64 0, .int .i64 0, .int .i64 0, .int .i64 0, .int .i64 0, .int .i64 0, .int .i64 0, .int .i64 0] 26 (0, 0)) := by rw [hW.block _ lo]; exact ko
      have HO2 := Lib.hid (own_below HO.out hW)
      have HB2 := Lib.hid (low_tr' HB.out hW HB.out.size)
      have HS := Lib.hid (show [x0, x1, x2, x3, x4, x5, x6, x7, x8].take (3 * 1) ++ [x3, x4, x5] = [x0, x1, x2, x3, x4, x5, x6, x7, x8].take (3 * 2) from rfl)
      have d0 : W.cell? ⟨g, 0, none⟩ = some (.int .i64 x3) := by rw [cell_of_row W _ 0 _ _ _ hgc]; rfl
      have d1 : W.cell? ⟨g, 0 + 1, none⟩ = some (.int .i64 x4) := by rw [cell_of_row W _ 1 _ _ _ hgc]; rfl
      have d2 : W.cell? ⟨g, 0 + 2, none⟩ = some (.int .i64 x5) := by rw [cell_of_row W _ 2 _ _ _ hgc]; rfl
      have HD := Lib.hid (src3 d0 d1 d2)
      have hsz : w.heap.size + 1 + 1 ≤ W.heap.size := by have := (Array.getElem?_eq_some_iff.1 jo).1; omega
      have Jm := Lib.hid jm
      have Jr := Lib.hid jr
      have Jo := Lib.hid jo
      clear km kr ko HO HB hW hgc d0 d1 d2 jm jr jo lm lr lo
      go_wp2_with (at_builtin; refine wpList_append_own _ rfl _ _ 34 rfl (w.heap.size + 1 + 1) 2 i0 (.int .i64 0) 1 8 Try.underlying34 HI0.out HZ0.out HZ1.out HZ2.out rfl (by decide) _ _ _ rfl HO2.out ⟨g, 0, none⟩ 3 3 [.int .i64 x3, .int .i64 x4, .int .i64 x5] rfl rfl HD.out (oneP _ _ _) (by unfold maxLen; omega) (by omega) hsz ?_; intro v2 w2 hown hgrow _; have HO3 := Lib.hid hown; have HG := Lib.hid hgrow; clear hown hgrow)
      have hb := own_base' HO2.out
      have ne : ∀ a, a < w.heap.size + 1 + 1 → some a ≠ u5.ownBlock := fun a ha e => by have := hb a e.symm; omega
      have neo : some (w.heap.size + 1 + 1 + 1) ≠ u5.ownBlock := fun e => own_ne HO2.out Jo.out (by decide) e.symm
      go_roundw
      case rel => exact ⟨2, by omega, rfl, Lib.hid (by rw [← HS.out, ints_app]; exact HO3.out), by rw [HG.out.block _ (Array.getElem?_eq_some_iff.1 Jm.out).1 (ne _ (by omega))]; exact Jm.out, by rw [HG.out.block _ (Array.getElem?_eq_some_iff.1 Jr.out).1 (ne _ (by omega))]; exact Jr.out, by rw [HG.out.block _ (Array.getElem?_eq_some_iff.1 Jo.out).1 neo]; exact Jo.out, Lib.hid (HB2.out.grown HG.out HB2.out.size (fun k' hk' => by have := hb k' hk'; omega))⟩
      case measure => simp [intOf]
    · clear hk
      have lm := (Array.getElem?_eq_some_iff.1 km).1
      have lr := (Array.getElem?_eq_some_iff.1 kr).1
      have lo := (Array.getElem?_eq_some_iff.1 ko).1
      go_wp2
      refine region_boxvia 14 13 30 (fun g => .slice (some ⟨g, 0, none⟩) 3 3) #[.int .i64 x6, .int .i64 x7, .int .i64 x8] 2 [(17, u5), (18, .int .i64 2), (19, .pointer (some ⟨w.heap.size, 6, none⟩)), (20, .pointer (some ⟨w.heap.size, 6, none⟩)), (21, .int .i64 x6), (22, .int .i64 2), (23, .pointer (some ⟨w.heap.size, 6, none⟩)), (24, .pointer (some ⟨w.heap.size, 7, none⟩)), (25, .int .i64 x7), (26, .int .i64 2), (27, .pointer (some ⟨w.heap.size, 6, none⟩)), (28, .pointer (some ⟨w.heap.size, 8, none⟩)), (29, .int .i64 x8)] (by kernel_rfl) (by decide) rfl (by kernel_rfl) (by kernel_rfl) (by kernel_rfl) (by decide) (by simp) (by kernel_rfl) (fun aE hpe => ?_)
      simp only [puts, Act.put, List.setIfInBounds_toArray, List.set_cons_zero, List.set_cons_succ] at hpe
      subst hpe
      refine ⟨?_, ⟨.inr (.inr ?_), .inr (.inr ?_), .inr (.inr ?_), .inr (.inr ?_), .inr (.inr ?_), .inr (.inr ?_), .inr (.inr ?_), .inr (.inr ?_), .inr (.inr ?_), .inr (.inr ?_), .inr (.inr ?_), .inr (.inr ?_), .inr (.inr ?_), .inl rfl, trivial⟩, ?_⟩
      · intro ρ W hr
        have r0 : ρ (.tmp 21) = .int .i64 x6 := hr 21 (by simp [readsOf, Op.operands])
        have r1 : ρ (.tmp 25) = .int .i64 x7 := hr 25 (by simp [readsOf, Op.operands])
        have r2 : ρ (.tmp 29) = .int .i64 x8 := hr 29 (by simp [readsOf, Op.operands])
        simp [execOp, go_sem, r0, r1, r2]
      · exact CalmG.mk 17 (u5) rfl rfl rfl (fun W hW => calm_move (.tmp 5) rfl rfl)
      · exact CalmG.mk 18 (.int .i64 2) rfl rfl rfl (fun W hW => calm_move (.tmp 7) rfl rfl)
      · exact CalmG.mk 19 (.pointer (some ⟨w.heap.size, 6, none⟩)) rfl rfl rfl (fun W hW => calm_run (by first | (simp [execOp, Act.eval, go_sem]; done) | (simp [execOp, Act.eval, go_sem]; rfl)))
      · exact CalmG.mk 20 (.pointer (some ⟨w.heap.size, 6, none⟩)) rfl rfl rfl (fun W hW => calm_run (by first | (simp [execOp, Act.eval, go_sem]; done) | (simp [execOp, Act.eval, go_sem]; rfl)))
      · exact CalmG.mk 21 (.int .i64 x6) rfl rfl rfl (fun W hW => calm_run (by have hc : W.cell? ⟨w.heap.size, 6, none⟩ = some (.int .i64 x6) := (by rw [cell_of_row W _ 6 _ _ _ (by rw [hW.block _ lm]; exact km)]; rfl); simp [execOp, Act.eval, go_sem, hc]))
      · exact CalmG.mk 22 (.int .i64 2) rfl rfl rfl (fun W hW => calm_move (.tmp 7) rfl rfl)
      · exact CalmG.mk 23 (.pointer (some ⟨w.heap.size, 6, none⟩)) rfl rfl rfl (fun W hW => calm_run (by first | (simp [execOp, Act.eval, go_sem]; done) | (simp [execOp, Act.eval, go_sem]; rfl)))
      · exact CalmG.mk 24 (.pointer (some ⟨w.heap.size, 7, none⟩)) rfl rfl rfl (fun W hW => calm_run (by first | (simp [execOp, Act.eval, go_sem]; done) | (simp [execOp, Act.eval, go_sem]; rfl)))
      · exact CalmG.mk 25 (.int .i64 x7) rfl rfl rfl (fun W hW => calm_run (by have hc : W.cell? ⟨w.heap.size, 7, none⟩ = some (.int .i64 x7) := (by rw [cell_of_row W _ 7 _ _ _ (by rw [hW.block _ lm]; exact km)]; rfl); simp [execOp, Act.eval, go_sem, hc]))
      · exact CalmG.mk 26 (.int .i64 2) rfl rfl rfl (fun W hW => calm_move (.tmp 7) rfl rfl)
      · exact CalmG.mk 27 (.pointer (some ⟨w.heap.size, 6, none⟩)) rfl rfl rfl (fun W hW => calm_run (by first | (simp [execOp, Act.eval, go_sem]; done) | (simp [execOp, Act.eval, go_sem]; rfl)))
      · exact CalmG.mk 28 (.pointer (some ⟨w.heap.size, 8, none⟩)) rfl rfl rfl (fun W hW => calm_run (by first | (simp [execOp, Act.eval, go_sem]; done) | (simp [execOp, Act.eval, go_sem]; rfl)))
      · exact CalmG.mk 29 (.int .i64 x8) rfl rfl rfl (fun W hW => calm_run (by have hc : W.cell? ⟨w.heap.size, 8, none⟩ = some (.int .i64 x8) := (by rw [cell_of_row W _ 8 _ _ _ (by rw [hW.block _ lm]; exact km)]; rfl); simp [execOp, Act.eval, go_sem, hc]))
      intro g W hW hg hgc
      simp only [List.drop_succ_cons, List.drop_zero, Act.put, List.setIfInBounds_toArray, List.set_cons_zero, List.set_cons_succ]
      have jm : W.heap[w.heap.size]? = some (.cells #[.int .i64 x0, .int .i64 x1, .int .i64 x2, .int .i64 x3, .int .i64 x4, .int .i64 x5, .int .i64 x6, .int .i64 x7, .int .i64 x8] 26 (0, 0)) := by rw [hW.block _ lm]; exact km
      have jr : W.heap[w.heap.size + 1]? = some (.cells #[.int .i64 0, .int .i64 0, .int .i64 0, .int .i64 0, .int .i64 0, .int .i64 0, .int .i64 0, .int .i64 0, .int .i64 0] 26 (0, 0)) := by rw [hW.block _ lr]; exact kr
      have jo : W.heap[w.heap.size + 1 + 1 + 1]? = some (.cells #[.int .i64 0, .int .i64 0, .int .i64 0, .int .i64 0, .int .i64 0, .int .i64 0, .int .i64 0, .int .i64 0, .int .i64 0] 26 (0, 0)) := by rw [hW.block _ lo]; exact ko
      have HO2 := Lib.hid (own_below HO.out hW)
      have HB2 := Lib.hid (low_tr' HB.out hW HB.out.size)
      have HS := Lib.hid (show [x0, x1, x2, x3, x4, x5, x6, x7, x8].take (3 * 2) ++ [x6, x7, x8] = [x0, x1, x2, x3, x4, x5, x6, x7, x8].take (3 * 3) from rfl)
      have d0 : W.cell? ⟨g, 0, none⟩ = some (.int .i64 x6) := by rw [cell_of_row W _ 0 _ _ _ hgc]; rfl
      have d1 : W.cell? ⟨g, 0 + 1, none⟩ = some (.int .i64 x7) := by rw [cell_of_row W _ 1 _ _ _ hgc]; rfl
      have d2 : W.cell? ⟨g, 0 + 2, none⟩ = some (.int .i64 x8) := by rw [cell_of_row W _ 2 _ _ _ hgc]; rfl
      have HD := Lib.hid (src3 d0 d1 d2)
      have hsz : w.heap.size + 1 + 1 ≤ W.heap.size := by have := (Array.getElem?_eq_some_iff.1 jo).1; omega
      have Jm := Lib.hid jm
      have Jr := Lib.hid jr
      have Jo := Lib.hid jo
      clear km kr ko HO HB hW hgc d0 d1 d2 jm jr jo lm lr lo
      go_wp2_with (at_builtin; refine wpList_append_own _ rfl _ _ 34 rfl (w.heap.size + 1 + 1) 2 i0 (.int .i64 0) 1 8 Try.underlying34 HI0.out HZ0.out HZ1.out HZ2.out rfl (by decide) _ _ _ rfl HO2.out ⟨g, 0, none⟩ 3 3 [.int .i64 x6, .int .i64 x7, .int .i64 x8] rfl rfl HD.out (oneP _ _ _) (by unfold maxLen; omega) (by omega) hsz ?_; intro v2 w2 hown hgrow _; have HO3 := Lib.hid hown; have HG := Lib.hid hgrow; clear hown hgrow)
      have hb := own_base' HO2.out
      have ne : ∀ a, a < w.heap.size + 1 + 1 → some a ≠ u5.ownBlock := fun a ha e => by have := hb a e.symm; omega
      have neo : some (w.heap.size + 1 + 1 + 1) ≠ u5.ownBlock := fun e => own_ne HO2.out Jo.out (by decide) e.symm
      go_roundw
      case rel => exact ⟨3, by omega, rfl, Lib.hid (by rw [← HS.out, ints_app]; exact HO3.out), by rw [HG.out.block _ (Array.getElem?_eq_some_iff.1 Jm.out).1 (ne _ (by omega))]; exact Jm.out, by rw [HG.out.block _ (Array.getElem?_eq_some_iff.1 Jr.out).1 (ne _ (by omega))]; exact Jr.out, by rw [HG.out.block _ (Array.getElem?_eq_some_iff.1 Jo.out).1 neo]; exact Jo.out, Lib.hid (HB2.out.grown HG.out HB2.out.size (fun k' hk' => by have := hb k' hk'; omega))⟩
      case measure => simp [intOf]
    · have ho9 : wr.ownsRow (w.heap.size + 1 + 1) 2 1 u5 9 (ints [x0, x1, x2, x3, x4, x5, x6, x7, x8]) := HO.out
      obtain ⟨g5, cap5, rfl, hb5, hpt5⟩ := ownInts' ho9 rfl (by omega)
      have HP5 := Lib.hid hpt5
      have HB5 := HB
      have lm := (Array.getElem?_eq_some_iff.1 km).1
      have lr := (Array.getElem?_eq_some_iff.1 kr).1
      have lo := (Array.getElem?_eq_some_iff.1 ko).1
      clear HO ho9 hpt5 HB hk
      go_wp2_with (go_at_call 179; refine (HNo.out _ _ _ HP5.out).mono ?_; rintro e w1 ⟨v1, rfl, ho, hb⟩; rw [HNl.out] at ho; obtain ⟨gN, capN, rfl, hbN, hptN⟩ := ownInts' (n := 9) ho rfl (by omega); have HPN := Lib.hid hptN; have HB1 := Lib.hid hb; clear ho hptN hb)
      have jr : w1.heap[w.heap.size + 1]? = some (.cells #[.int .i64 0, .int .i64 0, .int .i64 0, .int .i64 0, .int .i64 0, .int .i64 0, .int .i64 0, .int .i64 0, .int .i64 0] 26 (0, 0)) := by rw [HB1.out.block _ lr]; exact kr
      have jo : w1.heap[w.heap.size + 1 + 1 + 1]? = some (.cells #[.int .i64 0, .int .i64 0, .int .i64 0, .int .i64 0, .int .i64 0, .int .i64 0, .int .i64 0, .int .i64 0, .int .i64 0] 26 (0, 0)) := by rw [HB1.out.block _ lo]; exact ko
      have HBq := Lib.hid (low_tr' HB5.out HB1.out HB5.out.size)
      have hgN : w.heap.size + 1 + 1 + 1 < gN := by omega
      clear km kr ko HB5 HB1 lm lr lo HP5 HNo
      go_loopw [10] (fun i wr => ∃ k : Nat, k ≤ 3 ∧ i = .int .i64 k ∧ Hid (∀ i, i < 9 → wr.cell? ⟨gN, 0 + i, none⟩ = some (.int .i64 ([n0, n1, n2, n3, n4, n5, n6, n7, n8].getD i 0))) ∧ wr.heap[w.heap.size + 1]? = some (.cells #[.int .i64 0, .int .i64 0, .int .i64 0, .int .i64 0, .int .i64 0, .int .i64 0, .int .i64 0, .int .i64 0, .int .i64 0] 26 (0, 0)) ∧ wr.heap[w.heap.size + 1 + 1 + 1]? = some (.cells (outC k n0 n1 n2 n3 n4 n5 n6 n7 n8) 26 (0, 0)) ∧ Hid (Below w.heap.size w wr)) (fun i wr => 3 - (intOf i).toNat)
      case atStart => exact ⟨0, by omega, rfl, HPN, jr, jo, HBq⟩
      case round =>
        clear HPN jr jo HBq
        obtain ⟨k, hk, rfl, HP, kr, ko, HB⟩ := hrel
        rcases (show k = 0 ∨ k = 1 ∨ k = 2 ∨ k = 3 by omega) with rfl | rfl | rfl | rfl
        · clear hk
          have lo := (Array.getElem?_eq_some_iff.1 ko).1
          have lr := (Array.getElem?_eq_some_iff.1 kr).1
          go_wp2
          refine region_then 20 [(47, .int .i64 0), (48, .slice (some ⟨gN, 0, none⟩) 9 capN), (49, .int .i64 0), (50, .int .i64 0), (51, .pointer (some ⟨gN, 0, none⟩)), (52, .int .i64 n0), (53, .slice (some ⟨gN, 0, none⟩) 9 capN), (54, .int .i64 0), (55, .int .i64 0), (56, .int .i64 1), (57, .pointer (some ⟨gN, 1, none⟩)), (58, .int .i64 n1), (59, .slice (some ⟨gN, 0, none⟩) 9 capN), (60, .int .i64 0), (61, .int .i64 0), (62, .int .i64 2), (63, .pointer (some ⟨gN, 2, none⟩)), (64, .int .i64 n2), (65, ptV n0 n1 n2), (66, .pointer (some ⟨w.heap.size + 1 + 1 + 1, 0, none⟩))] (by kernel_rfl) (by decide) (by kernel_rfl) (by kernel_rfl) (by kernel_rfl) (fun aE hpe => ?_)
          simp only [puts, Act.put, List.setIfInBounds_toArray, List.set_cons_zero, List.set_cons_succ] at hpe
          subst hpe
          refine ⟨⟨.inr (.inr ?_), .inr (.inr ?_), .inr (.inr ?_), .inr (.inr ?_), .inr (.inr ?_), .inr (.inr ?_), .inr (.inr ?_), .inr (.inr ?_), .inr (.inr ?_), .inr (.inr ?_), .inr (.inr ?_), .inr (.inr ?_), .inr (.inr ?_), .inr (.inr ?_), .inr (.inr ?_), .inr (.inr ?_), .inr (.inr ?_), .inr (.inr ?_), .inr (.inr ?_), .inr (.inr ?_), trivial⟩, ?_⟩
          · exact CalmG.mk 47 (.int .i64 0) rfl rfl rfl (fun W hW => calm_move (.tmp 10) rfl rfl)
          · exact CalmG.mk 48 (.slice (some ⟨gN, 0, none⟩) 9 capN) rfl rfl rfl (fun W hW => calm_move (.tmp 8) rfl rfl)
          · exact CalmG.mk 49 (.int .i64 0) rfl rfl rfl (fun W hW => calm_move (.tmp 10) rfl rfl)
          · exact CalmG.mk 50 (.int .i64 0) rfl rfl rfl (fun W hW => calm_run (by first | (simp [execOp, Act.eval, go_sem]; done) | (simp [execOp, Act.eval, go_sem]; rfl)))
          · exact CalmG.mk 51 (.pointer (some ⟨gN, 0, none⟩)) rfl rfl rfl (fun W hW => calm_run (by first | (simp [execOp, Act.eval, go_sem]; done) | (simp [execOp, Act.eval, go_sem]; rfl)))
          · exact CalmG.mk 52 (.int .i64 n0) rfl rfl rfl (fun W hW => calm_run (by have hc : W.cell? ⟨gN, 0, none⟩ = some (.int .i64 n0) := cell_below hW (HP.out 0 (by omega)); simp [execOp, Act.eval, go_sem, hc]))
          · exact CalmG.mk 53 (.slice (some ⟨gN, 0, none⟩) 9 capN) rfl rfl rfl (fun W hW => calm_move (.tmp 8) rfl rfl)
          · exact CalmG.mk 54 (.int .i64 0) rfl rfl rfl (fun W hW => calm_move (.tmp 10) rfl rfl)
          · exact CalmG.mk 55 (.int .i64 0) rfl rfl rfl (fun W hW => calm_run (by first | (simp [execOp, Act.eval, go_sem]; done) | (simp [execOp, Act.eval, go_sem]; rfl)))
          · exact CalmG.mk 56 (.int .i64 1) rfl rfl rfl (fun W hW => calm_run (by first | (simp [execOp, Act.eval, go_sem]; done) | (simp [execOp, Act.eval, go_sem]; rfl)))
          · exact CalmG.mk 57 (.pointer (some ⟨gN, 1, none⟩)) rfl rfl rfl (fun W hW => calm_run (by first | (simp [execOp, Act.eval, go_sem]; done) | (simp [execOp, Act.eval, go_sem]; rfl)))
          · exact CalmG.mk 58 (.int .i64 n1) rfl rfl rfl (fun W hW => calm_run (by have hc : W.cell? ⟨gN, 1, none⟩ = some (.int .i64 n1) := cell_below hW (HP.out 1 (by omega)); simp [execOp, Act.eval, go_sem, hc]))
          · exact CalmG.mk 59 (.slice (some ⟨gN, 0, none⟩) 9 capN) rfl rfl rfl (fun W hW => calm_move (.tmp 8) rfl rfl)
          · exact CalmG.mk 60 (.int .i64 0) rfl rfl rfl (fun W hW => calm_move (.tmp 10) rfl rfl)
          · exact CalmG.mk 61 (.int .i64 0) rfl rfl rfl (fun W hW => calm_run (by first | (simp [execOp, Act.eval, go_sem]; done) | (simp [execOp, Act.eval, go_sem]; rfl)))
          · exact CalmG.mk 62 (.int .i64 2) rfl rfl rfl (fun W hW => calm_run (by first | (simp [execOp, Act.eval, go_sem]; done) | (simp [execOp, Act.eval, go_sem]; rfl)))
          · exact CalmG.mk 63 (.pointer (some ⟨gN, 2, none⟩)) rfl rfl rfl (fun W hW => calm_run (by first | (simp [execOp, Act.eval, go_sem]; done) | (simp [execOp, Act.eval, go_sem]; rfl)))
          · exact CalmG.mk 64 (.int .i64 n2) rfl rfl rfl (fun W hW => calm_run (by have hc : W.cell? ⟨gN, 2, none⟩ = some (.int .i64 n2) := cell_below hW (HP.out 2 (by omega)); simp [execOp, Act.eval, go_sem, hc]))
          · exact CalmG.mk 65 (ptV n0 n1 n2) rfl rfl rfl (fun W hW => calm_build 22 _ #[.int .i64 n0, .int .i64 n1, .int .i64 n2] rfl (by kernel_rfl))
          · exact CalmG.mk 66 (.pointer (some ⟨w.heap.size + 1 + 1 + 1, 0, none⟩)) rfl rfl rfl (fun W hW => calm_run (by first | (simp [execOp, Act.eval, go_sem]; done) | (simp [execOp, Act.eval, go_sem]; rfl)))
          intro W hW
          simp only [List.drop_succ_cons, List.drop_zero]
          have jr : W.heap[w.heap.size + 1]? = some (.cells #[.int .i64 0, .int .i64 0, .int .i64 0, .int .i64 0, .int .i64 0, .int .i64 0, .int .i64 0, .int .i64 0, .int .i64 0] 26 (0, 0)) := by rw [hW.block _ lr]; exact kr
          have jo : W.heap[w.heap.size + 1 + 1 + 1]? = some (.cells (outC 0 n0 n1 n2 n3 n4 n5 n6 n7 n8) 26 (0, 0)) := by rw [hW.block _ lo]; exact ko
          have HPW := Lib.hid (fun i (h : i < 9) => cell_below hW (HP.out i h))
          have HBW := Lib.hid (low_tr' HB.out hW HB.out.size)
          have c0 : W.cell? ⟨w.heap.size + 1 + 1 + 1, 0, none⟩ = some (.int .i64 0) := by rw [cell_of_row W _ 0 _ _ _ jo]; rfl
          have f0 := frozen_of_row W (w.heap.size + 1 + 1 + 1) 0 _ _ jo
          have c1 : W.cell? ⟨w.heap.size + 1 + 1 + 1, 1, none⟩ = some (.int .i64 0) := by rw [cell_of_row W _ 1 _ _ _ jo]; rfl
          have f1 := frozen_of_row W (w.heap.size + 1 + 1 + 1) 1 _ _ jo
          have c2 : W.cell? ⟨w.heap.size + 1 + 1 + 1, 2, none⟩ = some (.int .i64 0) := by rw [cell_of_row W _ 2 _ _ _ jo]; rfl
          have f2 := frozen_of_row W (w.heap.size + 1 + 1 + 1) 2 _ _ jo
          have Jr := Lib.hid jr
          have Jo := Lib.hid jo
          have hlo := (Array.getElem?_eq_some_iff.1 jo).1
          clear kr ko HP HB hW jr jo lo lr
          go_wp2
          go_roundw
          case rel => exact ⟨1, by omega, rfl, Lib.hid (fun i h => by rw [World.cell?_setCell_other _ _ _ _ (fun e => by have h2 := congrArg Addr.block e; simp at h2; omega), World.cell?_setCell_other _ _ _ _ (fun e => by have h2 := congrArg Addr.block e; simp at h2; omega), World.cell?_setCell_other _ _ _ _ (fun e => by have h2 := congrArg Addr.block e; simp at h2; omega)]; exact HPW.out i h), by rw [Below.heap_setCell _ _ _ _ (by simp), Below.heap_setCell _ _ _ _ (by simp), Below.heap_setCell _ _ _ _ (by simp)]; exact Jr.out, setCell_heap (setCell_heap (setCell_heap Jo.out _ _) _ _) _ _, Lib.hid (((HBW.out.setCell (by show w.heap.size ≤ w.heap.size + 1 + 1 + 1; omega) _).setCell (by show w.heap.size ≤ w.heap.size + 1 + 1 + 1; omega) _).setCell (by show w.heap.size ≤ w.heap.size + 1 + 1 + 1; omega) _)⟩
          case measure => simp [intOf]
        · clear hk
          have lo := (Array.getElem?_eq_some_iff.1 ko).1
          have lr := (Array.getElem?_eq_some_iff.1 kr).1
          go_wp2
          refine region_then 20 [(47, .int .i64 1), (48, .slice (some ⟨gN, 0, none⟩) 9 capN), (49, .int .i64 1), (50, .int .i64 3), (51, .pointer (some ⟨gN, 3, none⟩)), (52, .int .i64 n3), (53, .slice (some ⟨gN, 0, none⟩) 9 capN), (54, .int .i64 1), (55, .int .i64 3), (56, .int .i64 4), (57, .pointer (some ⟨gN, 4, none⟩)), (58, .int .i64 n4), (59, .slice (some ⟨gN, 0, none⟩) 9 capN), (60, .int .i64 1), (61, .int .i64 3), (62, .int .i64 5), (63, .pointer (some ⟨gN, 5, none⟩)), (64, .int .i64 n5), (65, ptV n3 n4 n5), (66, .pointer (some ⟨w.heap.size + 1 + 1 + 1, 3, none⟩))] (by kernel_rfl) (by decide) (by kernel_rfl) (by kernel_rfl) (by kernel_rfl) (fun aE hpe => ?_)
          simp only [puts, Act.put, List.setIfInBounds_toArray, List.set_cons_zero, List.set_cons_succ] at hpe
          subst hpe
          refine ⟨⟨.inr (.inr ?_), .inr (.inr ?_), .inr (.inr ?_), .inr (.inr ?_), .inr (.inr ?_), .inr (.inr ?_), .inr (.inr ?_), .inr (.inr ?_), .inr (.inr ?_), .inr (.inr ?_), .inr (.inr ?_), .inr (.inr ?_), .inr (.inr ?_), .inr (.inr ?_), .inr (.inr ?_), .inr (.inr ?_), .inr (.inr ?_), .inr (.inr ?_), .inr (.inr ?_), .inr (.inr ?_), trivial⟩, ?_⟩
          · exact CalmG.mk 47 (.int .i64 1) rfl rfl rfl (fun W hW => calm_move (.tmp 10) rfl rfl)
          · exact CalmG.mk 48 (.slice (some ⟨gN, 0, none⟩) 9 capN) rfl rfl rfl (fun W hW => calm_move (.tmp 8) rfl rfl)
          · exact CalmG.mk 49 (.int .i64 1) rfl rfl rfl (fun W hW => calm_move (.tmp 10) rfl rfl)
          · exact CalmG.mk 50 (.int .i64 3) rfl rfl rfl (fun W hW => calm_run (by first | (simp [execOp, Act.eval, go_sem]; done) | (simp [execOp, Act.eval, go_sem]; rfl)))
          · exact CalmG.mk 51 (.pointer (some ⟨gN, 3, none⟩)) rfl rfl rfl (fun W hW => calm_run (by first | (simp [execOp, Act.eval, go_sem]; done) | (simp [execOp, Act.eval, go_sem]; rfl)))
          · exact CalmG.mk 52 (.int .i64 n3) rfl rfl rfl (fun W hW => calm_run (by have hc : W.cell? ⟨gN, 3, none⟩ = some (.int .i64 n3) := cell_below hW (HP.out 3 (by omega)); simp [execOp, Act.eval, go_sem, hc]))
          · exact CalmG.mk 53 (.slice (some ⟨gN, 0, none⟩) 9 capN) rfl rfl rfl (fun W hW => calm_move (.tmp 8) rfl rfl)
          · exact CalmG.mk 54 (.int .i64 1) rfl rfl rfl (fun W hW => calm_move (.tmp 10) rfl rfl)
          · exact CalmG.mk 55 (.int .i64 3) rfl rfl rfl (fun W hW => calm_run (by first | (simp [execOp, Act.eval, go_sem]; done) | (simp [execOp, Act.eval, go_sem]; rfl)))
          · exact CalmG.mk 56 (.int .i64 4) rfl rfl rfl (fun W hW => calm_run (by first | (simp [execOp, Act.eval, go_sem]; done) | (simp [execOp, Act.eval, go_sem]; rfl)))
          · exact CalmG.mk 57 (.pointer (some ⟨gN, 4, none⟩)) rfl rfl rfl (fun W hW => calm_run (by first | (simp [execOp, Act.eval, go_sem]; done) | (simp [execOp, Act.eval, go_sem]; rfl)))
          · exact CalmG.mk 58 (.int .i64 n4) rfl rfl rfl (fun W hW => calm_run (by have hc : W.cell? ⟨gN, 4, none⟩ = some (.int .i64 n4) := cell_below hW (HP.out 4 (by omega)); simp [execOp, Act.eval, go_sem, hc]))
          · exact CalmG.mk 59 (.slice (some ⟨gN, 0, none⟩) 9 capN) rfl rfl rfl (fun W hW => calm_move (.tmp 8) rfl rfl)
          · exact CalmG.mk 60 (.int .i64 1) rfl rfl rfl (fun W hW => calm_move (.tmp 10) rfl rfl)
          · exact CalmG.mk 61 (.int .i64 3) rfl rfl rfl (fun W hW => calm_run (by first | (simp [execOp, Act.eval, go_sem]; done) | (simp [execOp, Act.eval, go_sem]; rfl)))
          · exact CalmG.mk 62 (.int .i64 5) rfl rfl rfl (fun W hW => calm_run (by first | (simp [execOp, Act.eval, go_sem]; done) | (simp [execOp, Act.eval, go_sem]; rfl)))
          · exact CalmG.mk 63 (.pointer (some ⟨gN, 5, none⟩)) rfl rfl rfl (fun W hW => calm_run (by first | (simp [execOp, Act.eval, go_sem]; done) | (simp [execOp, Act.eval, go_sem]; rfl)))
          · exact CalmG.mk 64 (.int .i64 n5) rfl rfl rfl (fun W hW => calm_run (by have hc : W.cell? ⟨gN, 5, none⟩ = some (.int .i64 n5) := cell_below hW (HP.out 5 (by omega)); simp [execOp, Act.eval, go_sem, hc]))
          · exact CalmG.mk 65 (ptV n3 n4 n5) rfl rfl rfl (fun W hW => calm_build 22 _ #[.int .i64 n3, .int .i64 n4, .int .i64 n5] rfl (by kernel_rfl))
          · exact CalmG.mk 66 (.pointer (some ⟨w.heap.size + 1 + 1 + 1, 3, none⟩)) rfl rfl rfl (fun W hW => calm_run (by first | (simp [execOp, Act.eval, go_sem]; done) | (simp [execOp, Act.eval, go_sem]; rfl)))
          intro W hW
          simp only [List.drop_succ_cons, List.drop_zero]
          have jr : W.heap[w.heap.size + 1]? = some (.cells #[.int .i64 0, .int .i64 0, .int .i64 0, .int .i64 0, .int .i64 0, .int .i64 0, .int .i64 0, .int .i64 0, .int .i64 0] 26 (0, 0)) := by rw [hW.block _ lr]; exact kr
          have jo : W.heap[w.heap.size + 1 + 1 + 1]? = some (.cells (outC 1 n0 n1 n2 n3 n4 n5 n6 n7 n8) 26 (0, 0)) := by rw [hW.block _ lo]; exact ko
          have HPW := Lib.hid (fun i (h : i < 9) => cell_below hW (HP.out i h))
          have HBW := Lib.hid (low_tr' HB.out hW HB.out.size)
          have c0 : W.cell? ⟨w.heap.size + 1 + 1 + 1, 3, none⟩ = some (.int .i64 0) := by rw [cell_of_row W _ 3 _ _ _ jo]; rfl
          have f0 := frozen_of_row W (w.heap.size + 1 + 1 + 1) 3 _ _ jo
          have c1 : W.cell? ⟨w.heap.size + 1 + 1 + 1, 4, none⟩ = some (.int .i64 0) := by rw [cell_of_row W _ 4 _ _ _ jo]; rfl
          have f1 := frozen_of_row W (w.heap.size + 1 + 1 + 1) 4 _ _ jo
          have c2 : W.cell? ⟨w.heap.size + 1 + 1 + 1, 5, none⟩ = some (.int .i64 0) := by rw [cell_of_row W _ 5 _ _ _ jo]; rfl
          have f2 := frozen_of_row W (w.heap.size + 1 + 1 + 1) 5 _ _ jo
          have Jr := Lib.hid jr
          have Jo := Lib.hid jo
          have hlo := (Array.getElem?_eq_some_iff.1 jo).1
          clear kr ko HP HB hW jr jo lo lr
          go_wp2
          go_roundw
          case rel => exact ⟨2, by omega, rfl, Lib.hid (fun i h => by rw [World.cell?_setCell_other _ _ _ _ (fun e => by have h2 := congrArg Addr.block e; simp at h2; omega), World.cell?_setCell_other _ _ _ _ (fun e => by have h2 := congrArg Addr.block e; simp at h2; omega), World.cell?_setCell_other _ _ _ _ (fun e => by have h2 := congrArg Addr.block e; simp at h2; omega)]; exact HPW.out i h), by rw [Below.heap_setCell _ _ _ _ (by simp), Below.heap_setCell _ _ _ _ (by simp), Below.heap_setCell _ _ _ _ (by simp)]; exact Jr.out, setCell_heap (setCell_heap (setCell_heap Jo.out _ _) _ _) _ _, Lib.hid (((HBW.out.setCell (by show w.heap.size ≤ w.heap.size + 1 + 1 + 1; omega) _).setCell (by show w.heap.size ≤ w.heap.size + 1 + 1 + 1; omega) _).setCell (by show w.heap.size ≤ w.heap.size + 1 + 1 + 1; omega) _)⟩
          case measure => simp [intOf]
        · clear hk
          have lo := (Array.getElem?_eq_some_iff.1 ko).1
          have lr := (Array.getElem?_eq_some_iff.1 kr).1
          go_wp2
          refine region_then 20 [(47, .int .i64 2), (48, .slice (some ⟨gN, 0, none⟩) 9 capN), (49, .int .i64 2), (50, .int .i64 6), (51, .pointer (some ⟨gN, 6, none⟩)), (52, .int .i64 n6), (53, .slice (some ⟨gN, 0, none⟩) 9 capN), (54, .int .i64 2), (55, .int .i64 6), (56, .int .i64 7), (57, .pointer (some ⟨gN, 7, none⟩)), (58, .int .i64 n7), (59, .slice (some ⟨gN, 0, none⟩) 9 capN), (60, .int .i64 2), (61, .int .i64 6), (62, .int .i64 8), (63, .pointer (some ⟨gN, 8, none⟩)), (64, .int .i64 n8), (65, ptV n6 n7 n8), (66, .pointer (some ⟨w.heap.size + 1 + 1 + 1, 6, none⟩))] (by kernel_rfl) (by decide) (by kernel_rfl) (by kernel_rfl) (by kernel_rfl) (fun aE hpe => ?_)
          simp only [puts, Act.put, List.setIfInBounds_toArray, List.set_cons_zero, List.set_cons_succ] at hpe
          subst hpe
          refine ⟨⟨.inr (.inr ?_), .inr (.inr ?_), .inr (.inr ?_), .inr (.inr ?_), .inr (.inr ?_), .inr (.inr ?_), .inr (.inr ?_), .inr (.inr ?_), .inr (.inr ?_), .inr (.inr ?_), .inr (.inr ?_), .inr (.inr ?_), .inr (.inr ?_), .inr (.inr ?_), .inr (.inr ?_), .inr (.inr ?_), .inr (.inr ?_), .inr (.inr ?_), .inr (.inr ?_), .inr (.inr ?_), trivial⟩, ?_⟩
          · exact CalmG.mk 47 (.int .i64 2) rfl rfl rfl (fun W hW => calm_move (.tmp 10) rfl rfl)
          · exact CalmG.mk 48 (.slice (some ⟨gN, 0, none⟩) 9 capN) rfl rfl rfl (fun W hW => calm_move (.tmp 8) rfl rfl)
          · exact CalmG.mk 49 (.int .i64 2) rfl rfl rfl (fun W hW => calm_move (.tmp 10) rfl rfl)
          · exact CalmG.mk 50 (.int .i64 6) rfl rfl rfl (fun W hW => calm_run (by first | (simp [execOp, Act.eval, go_sem]; done) | (simp [execOp, Act.eval, go_sem]; rfl)))
          · exact CalmG.mk 51 (.pointer (some ⟨gN, 6, none⟩)) rfl rfl rfl (fun W hW => calm_run (by first | (simp [execOp, Act.eval, go_sem]; done) | (simp [execOp, Act.eval, go_sem]; rfl)))
          · exact CalmG.mk 52 (.int .i64 n6) rfl rfl rfl (fun W hW => calm_run (by have hc : W.cell? ⟨gN, 6, none⟩ = some (.int .i64 n6) := cell_below hW (HP.out 6 (by omega)); simp [execOp, Act.eval, go_sem, hc]))
          · exact CalmG.mk 53 (.slice (some ⟨gN, 0, none⟩) 9 capN) rfl rfl rfl (fun W hW => calm_move (.tmp 8) rfl rfl)
          · exact CalmG.mk 54 (.int .i64 2) rfl rfl rfl (fun W hW => calm_move (.tmp 10) rfl rfl)
          · exact CalmG.mk 55 (.int .i64 6) rfl rfl rfl (fun W hW => calm_run (by first | (simp [execOp, Act.eval, go_sem]; done) | (simp [execOp, Act.eval, go_sem]; rfl)))
          · exact CalmG.mk 56 (.int .i64 7) rfl rfl rfl (fun W hW => calm_run (by first | (simp [execOp, Act.eval, go_sem]; done) | (simp [execOp, Act.eval, go_sem]; rfl)))
          · exact CalmG.mk 57 (.pointer (some ⟨gN, 7, none⟩)) rfl rfl rfl (fun W hW => calm_run (by first | (simp [execOp, Act.eval, go_sem]; done) | (simp [execOp, Act.eval, go_sem]; rfl)))
          · exact CalmG.mk 58 (.int .i64 n7) rfl rfl rfl (fun W hW => calm_run (by have hc : W.cell? ⟨gN, 7, none⟩ = some (.int .i64 n7) := cell_below hW (HP.out 7 (by omega)); simp [execOp, Act.eval, go_sem, hc]))
          · exact CalmG.mk 59 (.slice (some ⟨gN, 0, none⟩) 9 capN) rfl rfl rfl (fun W hW => calm_move (.tmp 8) rfl rfl)
          · exact CalmG.mk 60 (.int .i64 2) rfl rfl rfl (fun W hW => calm_move (.tmp 10) rfl rfl)
          · exact CalmG.mk 61 (.int .i64 6) rfl rfl rfl (fun W hW => calm_run (by first | (simp [execOp, Act.eval, go_sem]; done) | (simp [execOp, Act.eval, go_sem]; rfl)))
          · exact CalmG.mk 62 (.int .i64 8) rfl rfl rfl (fun W hW => calm_run (by first | (simp [execOp, Act.eval, go_sem]; done) | (simp [execOp, Act.eval, go_sem]; rfl)))
          · exact CalmG.mk 63 (.pointer (some ⟨gN, 8, none⟩)) rfl rfl rfl (fun W hW => calm_run (by first | (simp [execOp, Act.eval, go_sem]; done) | (simp [execOp, Act.eval, go_sem]; rfl)))
          · exact CalmG.mk 64 (.int .i64 n8) rfl rfl rfl (fun W hW => calm_run (by have hc : W.cell? ⟨gN, 8, none⟩ = some (.int .i64 n8) := cell_below hW (HP.out 8 (by omega)); simp [execOp, Act.eval, go_sem, hc]))
          · exact CalmG.mk 65 (ptV n6 n7 n8) rfl rfl rfl (fun W hW => calm_build 22 _ #[.int .i64 n6, .int .i64 n7, .int .i64 n8] rfl (by kernel_rfl))
          · exact CalmG.mk 66 (.pointer (some ⟨w.heap.size + 1 + 1 + 1, 6, none⟩)) rfl rfl rfl (fun W hW => calm_run (by first | (simp [execOp, Act.eval, go_sem]; done) | (simp [execOp, Act.eval, go_sem]; rfl)))
          intro W hW
          simp only [List.drop_succ_cons, List.drop_zero]
          have jr : W.heap[w.heap.size + 1]? = some (.cells #[.int .i64 0, .int .i64 0, .int .i64 0, .int .i64 0, .int .i64 0, .int .i64 0, .int .i64 0, .int .i64 0, .int .i64 0] 26 (0, 0)) := by rw [hW.block _ lr]; exact kr
          have jo : W.heap[w.heap.size + 1 + 1 + 1]? = some (.cells (outC 2 n0 n1 n2 n3 n4 n5 n6 n7 n8) 26 (0, 0)) := by rw [hW.block _ lo]; exact ko
          have HPW := Lib.hid (fun i (h : i < 9) => cell_below hW (HP.out i h))
          have HBW := Lib.hid (low_tr' HB.out hW HB.out.size)
          have c0 : W.cell? ⟨w.heap.size + 1 + 1 + 1, 6, none⟩ = some (.int .i64 0) := by rw [cell_of_row W _ 6 _ _ _ jo]; rfl
          have f0 := frozen_of_row W (w.heap.size + 1 + 1 + 1) 6 _ _ jo
          have c1 : W.cell? ⟨w.heap.size + 1 + 1 + 1, 7, none⟩ = some (.int .i64 0) := by rw [cell_of_row W _ 7 _ _ _ jo]; rfl
          have f1 := frozen_of_row W (w.heap.size + 1 + 1 + 1) 7 _ _ jo
          have c2 : W.cell? ⟨w.heap.size + 1 + 1 + 1, 8, none⟩ = some (.int .i64 0) := by rw [cell_of_row W _ 8 _ _ _ jo]; rfl
          have f2 := frozen_of_row W (w.heap.size + 1 + 1 + 1) 8 _ _ jo
          have Jr := Lib.hid jr
          have Jo := Lib.hid jo
          have hlo := (Array.getElem?_eq_some_iff.1 jo).1
          clear kr ko HP HB hW jr jo lo lr
          go_wp2
          go_roundw
          case rel => exact ⟨3, by omega, rfl, Lib.hid (fun i h => by rw [World.cell?_setCell_other _ _ _ _ (fun e => by have h2 := congrArg Addr.block e; simp at h2; omega), World.cell?_setCell_other _ _ _ _ (fun e => by have h2 := congrArg Addr.block e; simp at h2; omega), World.cell?_setCell_other _ _ _ _ (fun e => by have h2 := congrArg Addr.block e; simp at h2; omega)]; exact HPW.out i h), by rw [Below.heap_setCell _ _ _ _ (by simp), Below.heap_setCell _ _ _ _ (by simp), Below.heap_setCell _ _ _ _ (by simp)]; exact Jr.out, setCell_heap (setCell_heap (setCell_heap Jo.out _ _) _ _) _ _, Lib.hid (((HBW.out.setCell (by show w.heap.size ≤ w.heap.size + 1 + 1 + 1; omega) _).setCell (by show w.heap.size ≤ w.heap.size + 1 + 1 + 1; omega) _).setCell (by show w.heap.size ≤ w.heap.size + 1 + 1 + 1; omega) _)⟩
          case measure => simp [intOf]
        · have hlr := (Array.getElem?_eq_some_iff.1 kr).1
          go_wp2_with (first
            | (refine wpList_load_row _ rfl 26 _ rfl (g := w.heap.size + 1 + 1 + 1) (T := 26) (cs := #[.int .i64 n0, .int .i64 n1, .int .i64 n2, .int .i64 n3, .int .i64 n4, .int .i64 n5, .int .i64 n6, .int .i64 n7, .int .i64 n8]) (fr := (0, 0)) rfl ko 9 rfl Try.sizeOf26 Try.isAgg26 ?_)
            | (refine wpList_store_row _ rfl 26 _ _ rfl rfl (g := w.heap.size + 1) (T := 26) (cs := #[.int .i64 0, .int .i64 0, .int .i64 0, .int .i64 0, .int .i64 0, .int .i64 0, .int .i64 0, .int .i64 0, .int .i64 0]) (U := #[.int .i64 n0, .int .i64 n1, .int .i64 n2, .int .i64 n3, .int .i64 n4, .int .i64 n5, .int .i64 n6, .int .i64 n7, .int .i64 n8]) rfl rfl kr rfl Try.sizeOf26 (by simp [Value.oneCell']) ?_))
          exact bodyPost_ret (v := .agg #[.int .i64 n0, .int .i64 n1, .int .i64 n2, .int .i64 n3, .int .i64 n4, .int .i64 n5, .int .i64 n6, .int .i64 n7, .int .i64 n8]) (results_row Try.results163 rfl (setRow_heap _ _ _ _ _ _ kr) 9 rfl Try.sizeOf26 Try.isAgg26) rfl ⟨rfl, below_setRowN HB.out (by omega) _⟩

end Go.Proofs.Ythkbhaaodegocaa
/- '==' on maps. -/
namespace Go.Proofs.Ythkbhaaodegocaa
open Go.RowKit
set_option linter.unusedVariables false
set_option linter.unusedSimpArgs false
theorem partMap (w : World) (x0 x1 x2 x3 x4 x5 x6 x7 x8 : Int) :
    (part 22 #[.int .i64 x0, .int .i64 x1, .int .i64 x2, .int .i64 x3, .int .i64 x4, .int .i64 x5, .int .i64 x6, .int .i64 x7, .int .i64 x8] 0).run Try.prog w = .ok (ptV x0 x1 x2) w ∧ (part 22 #[.int .i64 x0, .int .i64 x1, .int .i64 x2, .int .i64 x3, .int .i64 x4, .int .i64 x5, .int .i64 x6, .int .i64 x7, .int .i64 x8] 3).run Try.prog w = .ok (ptV x3 x4 x5) w ∧ (part 22 #[.int .i64 x0, .int .i64 x1, .int .i64 x2, .int .i64 x3, .int .i64 x4, .int .i64 x5, .int .i64 x6, .int .i64 x7, .int .i64 x8] 6).run Try.prog w = .ok (ptV x6 x7 x8) w := by
  refine ⟨?_, ?_, ?_⟩
  · unfold part; rw [Sem.run_bind, Try.isAgg22]; simp only [Result.andThen_ok, if_true]; rw [Sem.run_bind, Try.sizeOf22]; rfl
  · unfold part; rw [Sem.run_bind, Try.isAgg22]; simp only [Result.andThen_ok, if_true]; rw [Sem.run_bind, Try.sizeOf22]; rfl
  · unfold part; rw [Sem.run_bind, Try.isAgg22]; simp only [Result.andThen_ok, if_true]; rw [Sem.run_bind, Try.sizeOf22]; rfl
theorem eqRow (w : World) (d : Nat) (a0 a1 a2 b0 b1 b2 : Int) : (Op.equalIn (d + 1 + 1) 22 (ptV a0 a1 a2) (ptV b0 b1 b2)).run Try.prog w = .ok (eqP (a0, a1, a2) (b0, b1, b2)) w :=
  eq_arr3 (i := Try.t2) w d Try.underlying22 (by kernel_rfl) (by kernel_rfl) Try.underlying2 (by kernel_rfl) _ _ _ _ _ _
theorem cellsRow : Try.prog.cellsOf 22 = 3 := by kernel_rfl
def eqM (a b c a' b' c' : Pt) : Bool := eqP a a' && (eqP b b' && eqP c c')
theorem eqM_iff {a b c a' b' c' : Pt} : eqM a b c a' b' c' = true ↔ a = a' ∧ b = b' ∧ c = c' := by
  unfold eqM; simp only [Bool.and_eq_true, eqP_iff]
theorem eqAMap (w : World) (x0 x1 x2 x3 x4 x5 x6 x7 x8 y0 y1 y2 y3 y4 y5 y6 y7 y8 : Int) : (Op.equalIn 10000 26 (.agg #[.int .i64 x0, .int .i64 x1, .int .i64 x2, .int .i64 x3, .int .i64 x4, .int .i64 x5, .int .i64 x6, .int .i64 x7, .int .i64 x8]) (.agg #[.int .i64 y0, .int .i64 y1, .int .i64 y2, .int .i64 y3, .int .i64 y4, .int .i64 y5, .int .i64 y6, .int .i64 y7, .int .i64 y8])).run Try.prog w = .ok (eqM (x0, x1, x2) (x3, x4, x5) (x6, x7, x8) (y0, y1, y2) (y3, y4, y5) (y6, y7, y8)) w := by
  obtain ⟨p0, p1, p2⟩ := partMap w x0 x1 x2 x3 x4 x5 x6 x7 x8
  obtain ⟨q0, q1, q2⟩ := partMap w y0 y1 y2 y3 y4 y5 y6 y7 y8
  have e := eqRow w 9997
  rw [run_equalIn_array (i := Try.t22) w 9999 _ _ Try.underlying26 (by kernel_rfl), cellsRow]
  simp only [List.range_succ_eq_map, List.range_zero, List.map_cons, List.map_nil, Op.eqItems, Nat.succ_eq_add_one, Nat.zero_add, Nat.reduceAdd, Nat.reduceMul, Nat.zero_mul, Sem.run_bind, p0, q0, Result.andThen_ok, e]
  unfold eqM
  cases h0 : eqP (x0, x1, x2) (y0, y1, y2) <;> cases h1 : eqP (x3, x4, x5) (y3, y4, y5) <;> cases h2 : eqP (x6, x7, x8) (y6, y7, y8) <;> simp [p1, q1, p2, q2, e, h0, h1, h2]
@[go_sem high] theorem eqMp (w : World) (x0 x1 x2 x3 x4 x5 x6 x7 x8 y0 y1 y2 y3 y4 y5 y6 y7 y8 : Int) : (binOp .eql 26 (.agg #[.int .i64 x0, .int .i64 x1, .int .i64 x2, .int .i64 x3, .int .i64 x4, .int .i64 x5, .int .i64 x6, .int .i64 x7, .int .i64 x8]) (.agg #[.int .i64 y0, .int .i64 y1, .int .i64 y2, .int .i64 y3, .int .i64 y4, .int .i64 y5, .int .i64 y6, .int .i64 y7, .int .i64 y8])).run Try.prog w = .ok (.bool (eqM (x0, x1, x2) (x3, x4, x5) (x6, x7, x8) (y0, y1, y2) (y3, y4, y5) (y6, y7, y8))) w := by
  rw [run_eql_struct, eqAMap]; rfl
theorem eqgMp : Try.prog.eqGuardType Try.prog.depth 26 = false := by kernel_rfl
theorem calm_eqMp {o : Oper} {ρ : Operand → Value} {W : World} {k : TypeId} (x y : Operand) {x0 x1 x2 x3 x4 x5 x6 x7 x8 y0 y1 y2 y3 y4 y5 y6 y7 y8 : Int} {v : Bool} (ho : o.op = .binOp .eql 26 x y k) (hx : ρ x = .agg #[.int .i64 x0, .int .i64 x1, .int .i64 x2, .int .i64 x3, .int .i64 x4, .int .i64 x5, .int .i64 x6, .int .i64 x7, .int .i64 x8]) (hy : ρ y = .agg #[.int .i64 y0, .int .i64 y1, .int .i64 y2, .int .i64 y3, .int .i64 y4, .int .i64 y5, .int .i64 y6, .int .i64 y7, .int .i64 y8]) (hv : eqM (x0, x1, x2) (x3, x4, x5) (x6, x7, x8) (y0, y1, y2) (y3, y4, y5) (y6, y7, y8) = v) : calmAt Try.prog o ρ W (.bool v) := by
  refine calm_run ?_
  unfold execOp
  subst hv
  simp only [ho, hx, hy, Sem.run_bind, run_eqGuard_agg W .eql 26 x y _ _ eqgMp, Result.andThen_ok, eqMp, Sem.run_pure]
end Go.Proofs.Ythkbhaaodegocaa
