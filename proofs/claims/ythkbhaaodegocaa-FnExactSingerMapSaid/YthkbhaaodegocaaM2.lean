/- Contracts: a map's numbers in one list; its determinant; whether numbers are a map, a conic: the program. -/
import Derived.Test.YthkbhaaodegocaaM1
import Derived.Test.YthkbhaaodegocaaRegV
import Derived.Test.YthkbhaaodegocaaN2
import Derived.Test.YthkbhaaodegocaaC1
namespace Go.Proofs.Ythkbhaaodegocaa
open Go.RowKit
set_option linter.unusedVariables false
set_option linter.unusedSimpArgs false
set_option maxRecDepth 10000 in
theorem flat_any (x0 x1 x2 x3 x4 x5 x6 x7 x8 : Int) (w : World) :
    Calls Try.prog 135 #[.agg #[.int .i64 x0, .int .i64 x1, .int .i64 x2, .int .i64 x3, .int .i64 x4, .int .i64 x5, .int .i64 x6, .int .i64 x7, .int .i64 x8]] w (OwnI w.heap.size w [x0, x1, x2, x3, x4, x5, x6, x7, x8]) := by
  go_enter Try.func135, Try.ntmps135
  go_wp2
  refine region_via 6 [(3, .pointer (some ⟨w.heap.size, 0, none⟩)), (4, .slice (some ⟨w.heap.size, 0, none⟩) 3 3), (5, .pointer (some ⟨w.heap.size, 3, none⟩)), (6, .slice (some ⟨w.heap.size, 3, none⟩) 3 3), (7, .pointer (some ⟨w.heap.size, 6, none⟩)), (8, .slice (some ⟨w.heap.size, 6, none⟩) 3 3)] (by kernel_rfl) (by decide) (by kernel_rfl) (by kernel_rfl) (by kernel_rfl) (fun aE hpe => ?_)
  simp only [puts, Act.put, List.setIfInBounds_toArray, List.set_cons_zero, List.set_cons_succ] at hpe
  subst hpe
  refine ⟨⟨.inr (.inr ?_), .inr (.inr ?_), .inr (.inr ?_), .inr (.inr ?_), .inr (.inr ?_), .inr (.inr ?_), trivial⟩, ?_⟩
  · exact CalmG.mk 3 (.pointer (some ⟨w.heap.size, 0, none⟩)) rfl rfl rfl (fun W hW => calm_run (by simp [execOp, Act.eval, go_sem]))
  · exact CalmG.mk 4 (.slice (some ⟨w.heap.size, 0, none⟩) 3 3) rfl rfl rfl (fun W hW => calm_run (by simp [execOp, Act.eval, go_sem]))
  · exact CalmG.mk 5 (.pointer (some ⟨w.heap.size, 3, none⟩)) rfl rfl rfl (fun W hW => calm_run (by simp [execOp, Act.eval, go_sem]))
  · exact CalmG.mk 6 (.slice (some ⟨w.heap.size, 3, none⟩) 3 3) rfl rfl rfl (fun W hW => calm_run (by simp [execOp, Act.eval, go_sem]))
  · exact CalmG.mk 7 (.pointer (some ⟨w.heap.size, 6, none⟩)) rfl rfl rfl (fun W hW => calm_run (by simp [execOp, Act.eval, go_sem]))
  · exact CalmG.mk 8 (.slice (some ⟨w.heap.size, 6, none⟩) 3 3) rfl rfl rfl (fun W hW => calm_run (by simp [execOp, Act.eval, go_sem]))
  intro W hW
  simp only [List.drop_succ_cons, List.drop_zero]
  have hg : W.heap[w.heap.size]? = some (.cells #[.int .i64 x0, .int .i64 x1, .int .i64 x2, .int .i64 x3, .int .i64 x4, .int .i64 x5, .int .i64 x6, .int .i64 x7, .int .i64 x8] 26 (0, 0)) := by rw [hW.block _ (by simp), hn_atN _ _ _ (by simp)]
  have HB := Lib.hid hW
  have hgl := (Array.getElem?_eq_some_iff.1 hg).1
  have HC := Lib.hid (fun (W' : World) (hW' : Below W.heap.size W W') (h : Nat) h0 h1 h2 => concat9 h w.heap.size 3 3 3 [x0, x1, x2, x3, x4, x5, x6, x7, x8] W' rfl (fun i hi => by
    rw [cell_of_row W' _ (0 + i) _ _ _ (by rw [hW'.block _ hgl]; exact hg), Nat.zero_add]
    match i, hi with
    | 0, _ => rfl
    | 1, _ => rfl
    | 2, _ => rfl
    | 3, _ => rfl
    | 4, _ => rfl
    | 5, _ => rfl
    | 6, _ => rfl
    | 7, _ => rfl
    | 8, _ => rfl) h0 h1 h2)
  clear hW hg
  go_wp2_with (go_at_call 165; (refine (HC.out _ (bal (Below.refl _ _) _) _ (by exact (World.cell?_alloc_at _ _ _ _ rfl)) (by exact (World.cell?_alloc_at _ _ _ _ rfl)) (by exact (World.cell?_alloc_at _ _ _ _ rfl))).mono ?_); rintro e w1 ⟨v1, rfl, ho, hb⟩; have HO1 := Lib.hid ho; have HB1 := Lib.hid hb; have hs1 := hb.size; clear ho hb)
  go_ret
  have hq : Below w.heap.size w w1 := (by repeat (first | exact Below.refl _ _ | refine bset ?_ _ _ (by omega) _ | refine bal ?_ _ | refine bdrN ?_ _ | refine bdr ?_ | refine below_tr' ?_ HB1.out | refine below_tr' ?_ HB.out))
  refine ⟨_, rfl, own_low HO1.out (by have := HB.out.size; simp at this ⊢; omega), hq⟩
/-- An owned list of numbers, laid open. -/
theorem ownInts {W : World} {base : Nat} {T : TypeId} {v : Value} {l : List Int} {n : Nat} (h : W.ownsRow base T 1 v n (ints l)) (hl : l.length = n) (hn : 0 < n) :
    ∃ g cap, v = .slice (some ⟨g, 0, none⟩) n cap ∧ ∀ i, i < n → W.cell? ⟨g, 0 + i, none⟩ = some (.int .i64 (l.getD i 0)) := by
  rcases h.2 with ⟨_, h0⟩ | ⟨g, cap, cur, rfl, hb, hg, hle, _, hsz, htk⟩
  · omega
  · refine ⟨g, cap, rfl, fun i hi => ?_⟩
    rw [cell_of_row W g _ _ _ _ hg, Nat.zero_add]
    have h1 : cur.toList[i]? = (ints l)[i]? := by rw [← htk, List.getElem?_take_of_lt (by omega)]
    have h2 : cur[i]? = cur.toList[i]? := by simp
    rw [h2, h1]
    have : i < l.length := by omega
    simp [ints, List.getD, this]
theorem cells6 (x0 x1 x2 x3 x4 x5 : Int) (w : World) (T : TypeId) : ∀ i, i < 6 → (w.alloc (.cells #[.int .i64 x0, .int .i64 x1, .int .i64 x2, .int .i64 x3, .int .i64 x4, .int .i64 x5] T)).cell? ⟨w.heap.size, 0 + i, none⟩ = some (.int .i64 ([x0, x1, x2, x3, x4, x5].getD i 0)) := by
  intro i hi
  rw [World.cell?_alloc_at _ _ _ _ rfl, Nat.zero_add]
  match i, hi with
  | 0, _ => rfl
  | 1, _ => rfl
  | 2, _ => rfl
  | 3, _ => rfl
  | 4, _ => rfl
  | 5, _ => rfl
def mapB (p : Int) (l : List Int) (d : Int) : Bool := prB p && (normB p l && (d % p != 0))
theorem nums_at {p : Int} {l : List Int} (h : normB p l = true) {x : Int} (hx : x ∈ l) : 0 ≤ x ∧ x ≤ p - 1 := by
  unfold normB numsB at h
  simp only [Bool.and_eq_true] at h
  exact numB_iff.1 (List.all_eq_true.1 h.2 x hx)
theorem map_in13 {p x0 x1 x2 x3 x4 x5 x6 x7 x8 : Int} (hp : prB p = true) (h : normB p [x0, x1, x2, x3, x4, x5, x6, x7, x8] = true) : In13 (x0, x1, x2) ∧ In13 (x3, x4, x5) ∧ In13 (x6, x7, x8) := by
  have hb := prB_bd hp
  have k : ∀ x ∈ [x0, x1, x2, x3, x4, x5, x6, x7, x8], 0 ≤ x ∧ x ≤ 12 := fun x hx => by have := nums_at h hx; omega
  exact ⟨⟨k _ (by simp), k _ (by simp), k _ (by simp)⟩, ⟨k _ (by simp), k _ (by simp), k _ (by simp)⟩, ⟨k _ (by simp), k _ (by simp), k _ (by simp)⟩⟩
theorem det_any (p x0 x1 x2 x3 x4 x5 x6 x7 x8 : Int) (w : World) (hp : prB p = true) (h0 : In13 (x0, x1, x2)) (h1 : In13 (x3, x4, x5)) (h2 : In13 (x6, x7, x8)) :
    Calls Try.prog 136 #[.agg #[.int .i64 x0, .int .i64 x1, .int .i64 x2, .int .i64 x3, .int .i64 x4, .int .i64 x5, .int .i64 x6, .int .i64 x7, .int .i64 x8], .int .i64 p] w (Ret w (.int .i64 (detZ (x0, x1, x2) (x3, x4, x5) (x6, x7, x8) % p))) := by
  have HD := Lib.hid (fun (W : World) => determinant_any p x0 x1 x2 x3 x4 x5 x6 x7 x8 W hp h0 h1 h2)
  generalize detZ (x0, x1, x2) (x3, x4, x5) (x6, x7, x8) % p = d at *
  clear hp h0 h1 h2
  go_enter Try.func136, Try.ntmps136
  go_wp2_with (go_at_call 123; (with_reducible refine (HD.out _).mono ?_); rintro e w1_ ⟨rfl, hb1⟩; obtain ⟨hcb1, hfb1, hlb1⟩ := bcell hb1; have hsz1 := hb1.size; (try simp at hsz1); have HB1 := Lib.hid hb1; clear hb1)
  go_ret
  exact ⟨rfl, (by repeat (first | exact Below.refl _ _ | refine bset ?_ _ _ (by omega) _ | refine bal ?_ _ | refine bdrN ?_ _ | refine bdr ?_ | refine below_tr' ?_ HB1.out))⟩
set_option maxRecDepth 10000 in
theorem IsMap_any (p x0 x1 x2 x3 x4 x5 x6 x7 x8 : Int) (w : World) :
    Calls Try.prog 83 #[.int .i64 p, .agg #[.int .i64 x0, .int .i64 x1, .int .i64 x2, .int .i64 x3, .int .i64 x4, .int .i64 x5, .int .i64 x6, .int .i64 x7, .int .i64 x8]] w (Ret w (.bool (mapB p [x0, x1, x2, x3, x4, x5, x6, x7, x8] (detZ (x0, x1, x2) (x3, x4, x5) (x6, x7, x8))))) := by
  generalize hd : detZ (x0, x1, x2) (x3, x4, x5) (x6, x7, x8) = d
  cases hp : prB p with
  | false =>
    have HP := Lib.hid hp
    have HE := Lib.hid (show mapB p [x0, x1, x2, x3, x4, x5, x6, x7, x8] d = false by unfold mapB; rw [hp]; rfl)
    clear hp hd
    go_enter Try.func83, Try.ntmps83
    go_wp2_with (go_at_call 73; refine (isPrime_no _ _ HP.out).mono ?_; rintro e w' ⟨rfl, rfl⟩)
    go_ret
    exact ⟨ret_bool HE.out.symm, (by repeat (first | exact Below.refl _ _ | refine bset ?_ _ _ (by omega) _ | refine bal ?_ _ | refine bdrN ?_ _ | refine bdr ?_))⟩
  | true =>
    have HP := Lib.hid hp
    have hb := prB_bd hp
    have HF := Lib.hid (fun (W : World) => flat_any x0 x1 x2 x3 x4 x5 x6 x7 x8 W)
    have HN := Lib.hid (fun (W : World) (g cap : Nat) hc => isNormal_any p g 0 9 cap [x0, x1, x2, x3, x4, x5, x6, x7, x8] W hb.1 hb.2 rfl (by omega) hc)
    cases hn : normB p [x0, x1, x2, x3, x4, x5, x6, x7, x8] with
    | false =>
      have HE := Lib.hid (show mapB p [x0, x1, x2, x3, x4, x5, x6, x7, x8] d = false by unfold mapB; rw [hp, hn]; rfl)
      rw [hn] at HN
      clear hp hn hd hb
      go_enter Try.func83, Try.ntmps83
      go_wp2_with (first
        | (go_at_call 73; refine (isPrime_yes _ _ HP.out).mono ?_; rintro e w' ⟨rfl, rfl⟩)
        | (go_at_call 135; (with_reducible refine (HF.out _).mono ?_); rintro e w1 ⟨v1, rfl, ho, hb⟩; obtain ⟨g, cap, rfl, hpt⟩ := ownInts (n := 9) ho rfl (by omega); have HO1 := Lib.hid hpt; have HB1 := Lib.hid hb; clear ho hb hpt)
        | (go_at_call 134; refine (HN.out _ _ _ HO1.out).mono ?_; rintro e w' ⟨rfl, rfl⟩))
      go_ret
      exact ⟨ret_bool HE.out.symm, (by repeat (first | exact Below.refl _ _ | refine bset ?_ _ _ (by omega) _ | refine bal ?_ _ | refine bdrN ?_ _ | refine bdr ?_ | refine below_tr' ?_ HB1.out))⟩
    | true =>
      obtain ⟨i0, i1, i2⟩ := map_in13 hp hn
      have HE := Lib.hid (show mapB p [x0, x1, x2, x3, x4, x5, x6, x7, x8] d = (d % p != 0) by unfold mapB; rw [hp, hn]; rfl)
      have HD := Lib.hid (fun (W : World) => det_any p x0 x1 x2 x3 x4 x5 x6 x7 x8 W hp i0 i1 i2)
      rw [hn] at HN
      rw [hd] at HD
      clear hp hn hd hb i0 i1 i2
      generalize d % p = r at *
      go_enter Try.func83, Try.ntmps83
      go_wp2_with (first
        | (go_at_call 73; refine (isPrime_yes _ _ HP.out).mono ?_; rintro e w' ⟨rfl, rfl⟩)
        | (go_at_call 135; (with_reducible refine (HF.out _).mono ?_); rintro e w1 ⟨v1, rfl, ho, hb⟩; obtain ⟨g, cap, rfl, hpt⟩ := ownInts (n := 9) ho rfl (by omega); obtain ⟨hcb1, hfb1, hlb1⟩ := bcell hb; have hsz1 := hb.size; (try simp at hsz1); have hl1 : w.heap.size < w1.heap.size := (by omega); have HO1 := Lib.hid hpt; have HB1 := Lib.hid hb; clear ho hb hpt)
        | (go_at_call 134; refine (HN.out _ _ _ HO1.out).mono ?_; rintro e w' ⟨rfl, rfl⟩)
        | (go_at_call 136; (with_reducible refine (HD.out _).mono ?_); rintro e w2_ ⟨rfl, hb2⟩; obtain ⟨hcb2, hfb2, hlb2⟩ := bcell hb2; have hsz2 := hb2.size; (try simp at hsz2); have HB2 := Lib.hid hb2; clear hb2))
      go_ret
      exact ⟨ret_bool HE.out.symm, (by repeat (first | exact Below.refl _ _ | refine bset ?_ _ _ (by omega) _ | refine bal ?_ _ | refine bdrN ?_ _ | refine bdr ?_ | refine below_tr' ?_ HB2.out | refine below_tr' ?_ HB1.out))⟩
theorem IsConic_any (p x0 x1 x2 x3 x4 x5 : Int) (w : World) :
    Calls Try.prog 84 #[.int .i64 p, .agg #[.int .i64 x0, .int .i64 x1, .int .i64 x2, .int .i64 x3, .int .i64 x4, .int .i64 x5]] w (Ret w (.bool (prB p && normB p [x0, x1, x2, x3, x4, x5]))) := by
  cases hp : prB p with
  | false =>
    have HP := Lib.hid hp
    clear hp
    generalize normB p [x0, x1, x2, x3, x4, x5] = v
    go_enter Try.func84, Try.ntmps84
    go_wp2_with (go_at_call 73; refine (isPrime_no _ _ HP.out).mono ?_; rintro e w' ⟨rfl, rfl⟩)
    go_ret
    exact ⟨rfl, (by repeat (first | exact Below.refl _ _ | refine bset ?_ _ _ (by omega) _ | refine bal ?_ _ | refine bdrN ?_ _ | refine bdr ?_))⟩
  | true =>
    have HP := Lib.hid hp
    have hb := prB_bd hp
    have HN := Lib.hid (fun (W : World) (g : Nat) hc => isNormal_any p g 0 6 6 [x0, x1, x2, x3, x4, x5] W hb.1 hb.2 rfl (by omega) hc)
    clear hp hb
    generalize normB p [x0, x1, x2, x3, x4, x5] = v at *
    go_enter Try.func84, Try.ntmps84
    go_wp2_with (first
        | (go_at_call 73; refine (isPrime_yes _ _ HP.out).mono ?_; rintro e w' ⟨rfl, rfl⟩)
        | (go_at_call 134; refine (HN.out _ _ (cells6 _ _ _ _ _ _ _ _)).mono ?_; rintro e w' ⟨rfl, rfl⟩))
    go_ret
    exact ⟨by simp, (by repeat (first | exact Below.refl _ _ | refine bset ?_ _ _ (by omega) _ | refine bal ?_ _ | refine bdrN ?_ _ | refine bdr ?_))⟩
end Go.Proofs.Ythkbhaaodegocaa
