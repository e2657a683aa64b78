/- Texts of the claim, in build order: M5, M6, M7, M8. No condition. -/
import Derived.Test.YtoagfpdicpcjnaaZGroupOrder5
/- '==' on maps. -/
namespace Go.Proofs.Ytoagfpdicpcjnaa
open Go.RowKit
set_option linter.unusedVariables false
set_option linter.unusedSimpArgs false
theorem partMap (w : World) (x0 x1 x2 x3 x4 x5 x6 x7 x8 : Int) :
    (part 30 #[.int .i64 x0, .int .i64 x1, .int .i64 x2, .int .i64 x3, .int .i64 x4, .int .i64 x5, .int .i64 x6, .int .i64 x7, .int .i64 x8] 0).run Try.prog w = .ok (ptV x0 x1 x2) w ∧ (part 30 #[.int .i64 x0, .int .i64 x1, .int .i64 x2, .int .i64 x3, .int .i64 x4, .int .i64 x5, .int .i64 x6, .int .i64 x7, .int .i64 x8] 3).run Try.prog w = .ok (ptV x3 x4 x5) w ∧ (part 30 #[.int .i64 x0, .int .i64 x1, .int .i64 x2, .int .i64 x3, .int .i64 x4, .int .i64 x5, .int .i64 x6, .int .i64 x7, .int .i64 x8] 6).run Try.prog w = .ok (ptV x6 x7 x8) w := by
  refine ⟨?_, ?_, ?_⟩
  · unfold part; rw [Sem.run_bind, Try.isAgg30]; simp only [Result.andThen_ok, if_true]; rw [Sem.run_bind, Try.sizeOf30]; rfl
  · unfold part; rw [Sem.run_bind, Try.isAgg30]; simp only [Result.andThen_ok, if_true]; rw [Sem.run_bind, Try.sizeOf30]; rfl
  · unfold part; rw [Sem.run_bind, Try.isAgg30]; simp only [Result.andThen_ok, if_true]; rw [Sem.run_bind, Try.sizeOf30]; rfl
theorem eqRow (w : World) (d : Nat) (a0 a1 a2 b0 b1 b2 : Int) : (Op.equalIn (d + 1 + 1) 30 (ptV a0 a1 a2) (ptV b0 b1 b2)).run Try.prog w = .ok (eqP (a0, a1, a2) (b0, b1, b2)) w :=
  eq_arr3 (i := Try.t2) w d Try.underlying30 (by kernel_rfl) (by kernel_rfl) Try.underlying2 (by kernel_rfl) _ _ _ _ _ _
theorem cellsRow : Try.prog.cellsOf 30 = 3 := by kernel_rfl
def eqM (a b c a' b' c' : Pt) : Bool := eqP a a' && (eqP b b' && eqP c c')
theorem eqM_iff {a b c a' b' c' : Pt} : eqM a b c a' b' c' = true ↔ a = a' ∧ b = b' ∧ c = c' := by
  unfold eqM; simp only [Bool.and_eq_true, eqP_iff]
theorem eqAMap (w : World) (x0 x1 x2 x3 x4 x5 x6 x7 x8 y0 y1 y2 y3 y4 y5 y6 y7 y8 : Int) : (Op.equalIn 10000 44 (.agg #[.int .i64 x0, .int .i64 x1, .int .i64 x2, .int .i64 x3, .int .i64 x4, .int .i64 x5, .int .i64 x6, .int .i64 x7, .int .i64 x8]) (.agg #[.int .i64 y0, .int .i64 y1, .int .i64 y2, .int .i64 y3, .int .i64 y4, .int .i64 y5, .int .i64 y6, .int .i64 y7, .int .i64 y8])).run Try.prog w = .ok (eqM (x0, x1, x2) (x3, x4, x5) (x6, x7, x8) (y0, y1, y2) (y3, y4, y5) (y6, y7, y8)) w := by
  obtain ⟨p0, p1, p2⟩ := partMap w x0 x1 x2 x3 x4 x5 x6 x7 x8
  obtain ⟨q0, q1, q2⟩ := partMap w y0 y1 y2 y3 y4 y5 y6 y7 y8
  have e := eqRow w 9997
  rw [run_equalIn_array (i := Try.t30) w 9999 _ _ Try.underlying44 (by kernel_rfl), cellsRow]
  simp only [List.range_succ_eq_map, List.range_zero, List.map_cons, List.map_nil, Op.eqItems, Nat.succ_eq_add_one, Nat.zero_add, Nat.reduceAdd, Nat.reduceMul, Nat.zero_mul, Sem.run_bind, p0, q0, Result.andThen_ok, e]
  unfold eqM
  cases h0 : eqP (x0, x1, x2) (y0, y1, y2) <;> cases h1 : eqP (x3, x4, x5) (y3, y4, y5) <;> cases h2 : eqP (x6, x7, x8) (y6, y7, y8) <;> simp [p1, q1, p2, q2, e, h0, h1, h2]
@[go_sem high] theorem eqMp (w : World) (x0 x1 x2 x3 x4 x5 x6 x7 x8 y0 y1 y2 y3 y4 y5 y6 y7 y8 : Int) : (binOp .eql 44 (.agg #[.int .i64 x0, .int .i64 x1, .int .i64 x2, .int .i64 x3, .int .i64 x4, .int .i64 x5, .int .i64 x6, .int .i64 x7, .int .i64 x8]) (.agg #[.int .i64 y0, .int .i64 y1, .int .i64 y2, .int .i64 y3, .int .i64 y4, .int .i64 y5, .int .i64 y6, .int .i64 y7, .int .i64 y8])).run Try.prog w = .ok (.bool (eqM (x0, x1, x2) (x3, x4, x5) (x6, x7, x8) (y0, y1, y2) (y3, y4, y5) (y6, y7, y8))) w := by
  rw [run_eql_struct, eqAMap]; rfl
theorem eqgMp : Try.prog.eqGuardType Try.prog.depth 44 = false := by kernel_rfl
theorem calm_eqMp {o : Oper} {ρ : Operand → Value} {W : World} {k : TypeId} (x y : Operand) {x0 x1 x2 x3 x4 x5 x6 x7 x8 y0 y1 y2 y3 y4 y5 y6 y7 y8 : Int} {v : Bool} (ho : o.op = .binOp .eql 44 x y k) (hx : ρ x = .agg #[.int .i64 x0, .int .i64 x1, .int .i64 x2, .int .i64 x3, .int .i64 x4, .int .i64 x5, .int .i64 x6, .int .i64 x7, .int .i64 x8]) (hy : ρ y = .agg #[.int .i64 y0, .int .i64 y1, .int .i64 y2, .int .i64 y3, .int .i64 y4, .int .i64 y5, .int .i64 y6, .int .i64 y7, .int .i64 y8]) (hv : eqM (x0, x1, x2) (x3, x4, x5) (x6, x7, x8) (y0, y1, y2) (y3, y4, y5) (y6, y7, y8) = v) : calmAt Try.prog o ρ W (.bool v) := by
  refine calm_run ?_
  unfold execOp
  subst hv
  simp only [ho, hx, hy, Sem.run_bind, run_eqGuard_agg W .eql 44 x y _ _ eqgMp, Result.andThen_ok, eqMp, Sem.run_pure]
end Go.Proofs.Ytoagfpdicpcjnaa
/- Contracts: whether numbers are a map, a conic, a desk: the reference. -/
namespace Go.Proofs.Ytoagfpdicpcjnaa
open Go.RowKit
set_option linter.unusedVariables false
set_option linter.unusedSimpArgs false
theorem cells6' (x0 x1 x2 x3 x4 x5 : Int) (w : World) (T : TypeId) (g : Nat) (hg : g = w.heap.size) : ∀ i, i < 6 → (w.alloc (.cells #[.int .i64 x0, .int .i64 x1, .int .i64 x2, .int .i64 x3, .int .i64 x4, .int .i64 x5] T)).cell? ⟨g, 0 + i, none⟩ = some (.int .i64 ([x0, x1, x2, x3, x4, x5].getD i 0)) := by
  subst hg; exact cells6 x0 x1 x2 x3 x4 x5 w T
theorem calm_pickI {P : Program} {o : Oper} {ρ : Operand → Value} {W : World} (x y z : Operand) {c : Bool} {v : Value} (ho : o.op = .pick x y z) (hx : ρ x = .bool c) (hv : (if c = true then ρ y else ρ z) = v) : calmAt P o ρ W v := by
  refine calm_run ?_
  unfold execOp
  subst hv
  simp only [ho, hx, asBool, Sem.run_bind, Sem.run_pure, Result.andThen_ok]
theorem norm_fix {p x0 x1 x2 x3 x4 x5 x6 x7 x8 f : Int} (hp : prB p = true) (hr : numsB p [x0, x1, x2, x3, x4, x5, x6, x7, x8] = true) (hf : facL p [x0, x1, x2, x3, x4, x5, x6, x7, x8] = f) (hd : (detZ (x0, x1, x2) (x3, x4, x5) (x6, x7, x8) % p != 0) = true) :
    eqM (x0 % p * f % p, x1 % p * f % p, x2 % p * f % p) (x3 % p * f % p, x4 % p * f % p, x5 % p * f % p) (x6 % p * f % p, x7 % p * f % p, x8 % p * f % p) (x0, x1, x2) (x3, x4, x5) (x6, x7, x8) = normB p [x0, x1, x2, x3, x4, x5, x6, x7, x8] := by
  have hb := prB_bd hp
  have bd : ∀ x ∈ [x0, x1, x2, x3, x4, x5, x6, x7, x8], 0 ≤ x ∧ x ≤ p - 1 := fun x hx => numB_iff.1 (List.all_eq_true.1 hr x hx)
  have hm : ∀ x ∈ [x0, x1, x2, x3, x4, x5, x6, x7, x8], x % p = x := fun x hx => Int.emod_eq_of_lt (bd x hx).1 (by have := (bd x hx).2; omega)
  have hmap : [x0, x1, x2, x3, x4, x5, x6, x7, x8].map (· % p) = [x0, x1, x2, x3, x4, x5, x6, x7, x8] := by
    conv => rhs; rw [← List.map_id [x0, x1, x2, x3, x4, x5, x6, x7, x8]]
    exact List.map_congr_left (fun x hx => hm x hx)
  have hz : firstNZ [x0, x1, x2, x3, x4, x5, x6, x7, x8] ≠ 0 := by
    intro e
    have h0 := firstNZ_eq_zero.1 e
    have z : ∀ x ∈ [x0, x1, x2, x3, x4, x5, x6, x7, x8], x = 0 := fun x hx => by simpa using List.all_eq_true.1 h0 x hx
    have z0 := z x0 (by simp); have z1 := z x1 (by simp); have z2 := z x2 (by simp)
    rw [z0, z1, z2] at hd
    simp [detZ] at hd
  have hmem : firstNZ [x0, x1, x2, x3, x4, x5, x6, x7, x8] ∈ [x0, x1, x2, x3, x4, x5, x6, x7, x8] := by
    rcases firstNZ_mem [x0, x1, x2, x3, x4, x5, x6, x7, x8] with h | h
    · exact absurd h hz
    · exact h
  have hbz := bd _ hmem
  have hfz : f = invP p (firstNZ [x0, x1, x2, x3, x4, x5, x6, x7, x8]) := by rw [← hf]; unfold facL; rw [hmap]
  have hnb : normB p [x0, x1, x2, x3, x4, x5, x6, x7, x8] = (firstNZ [x0, x1, x2, x3, x4, x5, x6, x7, x8] == 1) := by unfold normB; rw [hr]; simp
  rw [hnb]
  clear hnb hf
  generalize firstNZ [x0, x1, x2, x3, x4, x5, x6, x7, x8] = z at *
  obtain ⟨s1, s2, s3, _⟩ := invP_spec (p := p) (n := z) hp (by omega) (by omega)
  rw [← hfz] at s1 s2 s3
  by_cases h1 : z = 1
  · have hf1 : f = 1 := by
      rw [h1, Int.one_mul, Int.emod_eq_of_lt (by omega) s2] at s3; exact s3
    have k : ∀ x ∈ [x0, x1, x2, x3, x4, x5, x6, x7, x8], x % p * f % p = x := fun x hx => by rw [hf1, Int.mul_one, hm x hx, hm x hx]
    have e : (z == 1) = true := by simp [h1]
    rw [e]
    refine eqM_iff.2 ⟨?_, ?_, ?_⟩
    · rw [k x0 (by simp), k x1 (by simp), k x2 (by simp)]
    · rw [k x3 (by simp), k x4 (by simp), k x5 (by simp)]
    · rw [k x6 (by simp), k x7 (by simp), k x8 (by simp)]
  · have e : (z == 1) = false := by simp [h1]
    rw [e]
    cases he : eqM (x0 % p * f % p, x1 % p * f % p, x2 % p * f % p) (x3 % p * f % p, x4 % p * f % p, x5 % p * f % p) (x6 % p * f % p, x7 % p * f % p, x8 % p * f % p) (x0, x1, x2) (x3, x4, x5) (x6, x7, x8) with
    | false => rfl
    | true =>
      exfalso
      obtain ⟨e1, e2, e3⟩ := eqM_iff.1 he
      simp only [Prod.mk.injEq] at e1 e2 e3
      have k : ∀ x ∈ [x0, x1, x2, x3, x4, x5, x6, x7, x8], x % p * f % p = x := by
        intro x hx
        simp only [List.mem_cons, List.not_mem_nil, or_false] at hx
        rcases hx with rfl | rfl | rfl | rfl | rfl | rfl | rfl | rfl | rfl
        · exact e1.1
        · exact e1.2.1
        · exact e1.2.2
        · exact e2.1
        · exact e2.2.1
        · exact e2.2.2
        · exact e3.1
        · exact e3.2.1
        · exact e3.2.2
      have := k z hmem
      rw [hm z hmem, s3] at this
      exact h1 this.symm
theorem mapB_no {p d : Int} {l : List Int} (h : prB p = false) : mapB p l d = false := by unfold mapB; rw [h]; rfl
theorem mapB_range {p d : Int} {l : List Int} (h : numsB p l = false) : mapB p l d = false := by unfold mapB normB; rw [h]; simp
theorem mapB_det {p d : Int} {l : List Int} (h : (d % p != 0) = false) : mapB p l d = false := by unfold mapB; rw [h]; simp
theorem mapB_yes {p d : Int} {l : List Int} (hp : prB p = true) (h : (d % p != 0) = true) : mapB p l d = normB p l := by unfold mapB; rw [hp, h]; simp
theorem nums_all {p : Int} {l : List Int} (h : ∀ q, q < l.length → numB p (l.getD q 0) = true) : numsB p l = true := by
  unfold numsB
  rw [List.all_eq_true]
  intro x hx
  obtain ⟨q, hq, e⟩ := List.mem_iff_getElem.1 hx
  have := h q hq
  simpa [List.getD, hq, e] using this
set_option maxRecDepth 20000 in
set_option maxHeartbeats 4000000 in
theorem l02Is_any (p x0 x1 x2 x3 x4 x5 x6 x7 x8 : Int) (w : World) :
    Calls Try.prog 54 #[.int .i64 p, .agg #[.int .i64 x0, .int .i64 x1, .int .i64 x2, .int .i64 x3, .int .i64 x4, .int .i64 x5, .int .i64 x6, .int .i64 x7, .int .i64 x8]] w (Ret w (.bool (mapB p [x0, x1, x2, x3, x4, x5, x6, x7, x8] (detZ (x0, x1, x2) (x3, x4, x5) (x6, x7, x8))))) := by
  cases hp : prB p with
  | false =>
    have HP := Lib.hid hp
    rw [mapB_no hp]
    clear hp
    go_enter Try.func54, Try.ntmps54
    go_wp2_with (go_at_call 53; refine (l01Prime_no _ _ HP.out).mono ?_; rintro e w' ⟨rfl, rfl⟩)
    go_ret
    exact ⟨rfl, (by repeat (first | exact Below.refl _ _ | refine bset ?_ _ _ (by omega) _ | refine bal ?_ _ | refine bdrN ?_ _ | refine bdr ?_))⟩
  | true =>
    have hb := prB_bd hp
    have HP := Lib.hid hp
    generalize hD : detZ (x0, x1, x2) (x3, x4, x5) (x6, x7, x8) = d
    have HD := Lib.hid hD
    obtain ⟨Ll, hLl⟩ : ∃ Ll, Ll = [x0, x1, x2, x3, x4, x5, x6, x7, x8] := ⟨_, rfl⟩
    have HLl := Lib.hid hLl
    have HCell : Hid (∀ q, q < 9 → (w.alloc (.cells #[.int .i64 x0, .int .i64 x1, .int .i64 x2, .int .i64 x3, .int .i64 x4, .int .i64 x5, .int .i64 x6, .int .i64 x7, .int .i64 x8] 44)).cell? ⟨w.heap.size, q, none⟩ = some (.int .i64 (Ll.getD q 0))) := Lib.hid (fun q hq => by
      rw [World.cell?_alloc_at _ _ _ _ rfl, hLl]
      match q, hq with
      | 0, _ => rfl
      | 1, _ => rfl
      | 2, _ => rfl
      | 3, _ => rfl
      | 4, _ => rfl
      | 5, _ => rfl
      | 6, _ => rfl
      | 7, _ => rfl
      | 8, _ => rfl)
    rw [← hLl]
    have HLen : Hid (Ll.length = 9) := Lib.hid (by rw [hLl]; rfl)
    have HR := Lib.hid (fun (k : Nat) (hk : k < Ll.length) (h : numB p (Ll.getD k 0) = false) => mapB_range (d := d) (numsB_false hk h))
    have HF := Lib.hid (fun h => nums_all (p := p) (l := Ll) h)
    clear hD hLl hp
    go_enter Try.func54, Try.ntmps54
    go_wp2_with (go_at_call 53; refine (l01Prime_yes _ _ HP.out).mono ?_; rintro e w' ⟨rfl, rfl⟩)
    go_loop [5, 6] (fun i _ => ∃ k : Nat, k ≤ 3 ∧ i = .int .i64 k ∧ Hid (∀ q, q < k * 3 → numB p (Ll.getD q 0) = true)) (fun i _ => 3 - (intOf i).toNat)
    case atStart => exact ⟨0, by omega, rfl, Lib.hid (fun q hq => by omega)⟩
    case round =>
      obtain ⟨i, hi, rfl, HK⟩ := hrel
      by_cases hlt : i < 3
      · go_wp2
        go_loop [6] (fun jv => ∃ j : Nat, j ≤ 3 ∧ jv = .int .i64 j ∧ Hid (∀ q, q < i * 3 + j → numB p (Ll.getD q 0) = true)) (fun jv => 3 - (intOf jv).toNat)
        case atStart => exact ⟨0, by omega, rfl, HK⟩
        case round =>
          clear HK
          obtain ⟨j, hj, rfl, HK⟩ := hrel
          by_cases hlj : j < 3
          · have cq := HCell.out (i * 3 + j) (by omega)
            have HNo := Lib.hid (HR.out (i * 3 + j) (by have := HLen.out; omega))
            have HYes : Hid (numB p (Ll.getD (i * 3 + j) 0) = true → ∀ q, q < i * 3 + (j + 1) → numB p (Ll.getD q 0) = true) := Lib.hid (fun h q hq => by
              rcases Nat.lt_or_ge q (i * 3 + j) with h2 | h2
              · exact HK.out q h2
              · rw [show q = i * 3 + j by omega]; exact h)
            generalize Ll.getD (i * 3 + j) 0 = x at *
            by_cases hr : 0 ≤ x ∧ x ≤ p - 1
            · obtain ⟨r0, r1⟩ := hr
              have HY2 := Lib.hid (HYes.out (numB_iff.2 ⟨r0, r1⟩))
              clear HYes HNo
              go_wp2_with (go_at_call 69; refine (l01In_yes _ _ _ _ r0 r1).mono ?_; rintro e w' ⟨rfl, rfl⟩)
              go_round
              case rel => exact ⟨j + 1, by omega, by go_num, HY2⟩
              case measure => simp [intOf]; omega
            · have hr' : x < 0 ∨ p - 1 < x := by omega
              have HY2 := Lib.hid (HNo.out (by cases hnb : numB p x with | false => rfl | true => exact (hr (numB_iff.1 hnb)).elim))
              clear HYes HNo
              go_wp2_with (go_at_call 69; refine (l01In_no _ _ _ _ hr').mono ?_; rintro e w' ⟨rfl, rfl⟩)
              go_ret
              exact ⟨ret_bool HY2.out.symm, (by repeat (first | exact Below.refl _ _ | refine bset ?_ _ _ (by omega) _ | refine bal ?_ _ | refine bdrN ?_ _ | refine bdr ?_))⟩
          · have hj3 : j = 3 := by omega
            subst hj3
            go_wp2
            go_round
            case rel => exact ⟨i + 1, by omega, by go_num, Lib.hid (fun q hq => HK.out q (by omega))⟩
            case measure => simp [intOf]; omega
      · have hi3 : i = 3 := by omega
        subst hi3
        have hnums := HF.out (fun q hq => HK.out q (by have := HLen.out; omega))
        rw [HLl.out] at hnums ⊢
        have hin : ∀ x ∈ [x0, x1, x2, x3, x4, x5, x6, x7, x8], 0 ≤ x ∧ x ≤ 12 := fun x hx => by have := numB_iff.1 (List.all_eq_true.1 hnums x hx); omega
        have i0 : In13 (x0, x1, x2) := ⟨hin _ (by simp), hin _ (by simp), hin _ (by simp)⟩
        have i1 : In13 (x3, x4, x5) := ⟨hin _ (by simp), hin _ (by simp), hin _ (by simp)⟩
        have i2 : In13 (x6, x7, x8) := ⟨hin _ (by simp), hin _ (by simp), hin _ (by simp)⟩
        have HDt := Lib.hid (fun (W : World) => l02Det_any p x0 x1 x2 x3 x4 x5 x6 x7 x8 W HP.out i0 i1 i2)
        rw [HD.out] at HDt
        obtain ⟨f, hf⟩ : ∃ f, facL p [x0, x1, x2, x3, x4, x5, x6, x7, x8] = f := ⟨_, rfl⟩
        have HNm := Lib.hid (fun (W : World) => l02Normal_any p x0 x1 x2 x3 x4 x5 x6 x7 x8 W HP.out (fun x hx => by have := hin x hx; omega) f hf)
        have HFix := Lib.hid (fun h => norm_fix HP.out hnums hf (by rw [HD.out]; exact h))
        have HMd := Lib.hid (fun h => mapB_det (p := p) (d := d) (l := [x0, x1, x2, x3, x4, x5, x6, x7, x8]) h)
        have HMy := Lib.hid (fun h => mapB_yes (p := p) (d := d) (l := [x0, x1, x2, x3, x4, x5, x6, x7, x8]) HP.out h)
        clear hnums hin i0 i1 i2 HCell HR HF HK hf HLen
        generalize hdm : d % p = dm at *
        have hbx : (w.alloc (.cells #[.int .i64 x0, .int .i64 x1, .int .i64 x2, .int .i64 x3, .int .i64 x4, .int .i64 x5, .int .i64 x6, .int .i64 x7, .int .i64 x8] 44)).heap[w.heap.size]? = some (.cells #[.int .i64 x0, .int .i64 x1, .int .i64 x2, .int .i64 x3, .int .i64 x4, .int .i64 x5, .int .i64 x6, .int .i64 x7, .int .i64 x8] 44 (0, 0)) := by rw [hn_atN _ _ _ (by simp)]
        cases hdz : (dm != 0) with
        | false =>
          have HM := Lib.hid (HMd.out hdz)
          clear HFix HMd HMy HNm
          go_wp2
          refine region_calmG [(27, .int .i64 p), (28, .agg #[.int .i64 x0, .int .i64 x1, .int .i64 x2, .int .i64 x3, .int .i64 x4, .int .i64 x5, .int .i64 x6, .int .i64 x7, .int .i64 x8]), (29, .int .i64 dm), (30, .bool false), (31, .bool false), (32, undef), (33, undef), (34, undef), (35, undef), (36, undef), (37, .bool false), (4, .bool false)] (by kernel_rfl) (by kernel_rfl) (by kernel_rfl) (fun aE hpe => ?_)
          simp only [puts, Act.put, List.setIfInBounds_toArray, List.set_cons_zero, List.set_cons_succ] at hpe
          subst hpe
          refine ⟨⟨.inr (.inr ?_), .inr (.inr ?_), .inr (.inr ?_), .inr (.inr ?_), .inr (.inr ?_), .inr (.inr ?_), .inr (.inr ?_), .inr (.inr ?_), .inr (.inr ?_), .inr (.inr ?_), .inr (.inr ?_), .inr (.inr ?_), trivial⟩, ?_⟩
          · exact CalmG.mk 27 (.int .i64 p) rfl rfl rfl (fun W hW => calm_move (.tmp 0) rfl rfl)
          · exact CalmG.mk 28 (.agg #[.int .i64 x0, .int .i64 x1, .int .i64 x2, .int .i64 x3, .int .i64 x4, .int .i64 x5, .int .i64 x6, .int .i64 x7, .int .i64 x8]) rfl rfl rfl (fun W hW => calm_load (cs := #[.int .i64 x0, .int .i64 x1, .int .i64 x2, .int .i64 x3, .int .i64 x4, .int .i64 x5, .int .i64 x6, .int .i64 x7, .int .i64 x8]) (g := w.heap.size) (T := 44) (fr := (0, 0)) 44 (.tmp 3) rfl rfl (by rw [hW.block _ (by simp)]; exact hbx) 9 rfl Try.sizeOf44 Try.isAgg44)
          · exact CalmG.mk 29 (.int .i64 dm) rfl rfl rfl (fun W hW => calm_call 70 _ #[.int .i64 p, .agg #[.int .i64 x0, .int .i64 x1, .int .i64 x2, .int .i64 x3, .int .i64 x4, .int .i64 x5, .int .i64 x6, .int .i64 x7, .int .i64 x8]] rfl rfl rfl (by simp [Act.eval]) (Try.call70 _ _) (HDt.out W))
          · exact CalmG.mk 30 (.bool false) rfl rfl rfl (fun W hW => calm_run (by simp [execOp, Act.eval, go_sem, hdz]))
          · exact CalmG.mk 31 (.bool false) rfl rfl rfl (fun W hW => calm_move (.tmp 30) rfl rfl)
          · exact CalmG.out 32 rfl rfl rfl
          · exact CalmG.out 33 rfl rfl rfl
          · exact CalmG.out 34 rfl rfl rfl
          · exact CalmG.out 35 rfl rfl rfl
          · exact CalmG.out 36 rfl rfl rfl
          · exact CalmG.mk 37 (.bool false) rfl rfl rfl (fun W hW => calm_pickI (.tmp 31) (.tmp 36) (.const (.bool false)) rfl rfl rfl)
          · exact CalmG.mk 4 (.bool false) rfl rfl rfl (fun W hW => calm_assign (.tmp 37) rfl rfl)
          intro W2 hW2
          have HB2 := Lib.hid hW2
          go_wp2
          go_ret
          exact ⟨ret_bool (by rw [HLl.out, HM.out]), (by repeat (first | exact Below.refl _ _ | refine bset ?_ _ _ (by omega) _ | refine bal ?_ _ | refine bdrN ?_ _ | refine bdr ?_ | refine below_tr' ?_ HB2.out))⟩
        | true =>
          have HM := Lib.hid (HMy.out hdz)
          have HFx := HFix.out hdz
          clear HFix HMd HMy
          generalize normB p [x0, x1, x2, x3, x4, x5, x6, x7, x8] = nb at *
          go_wp2
          refine region_calmG [(27, .int .i64 p), (28, .agg #[.int .i64 x0, .int .i64 x1, .int .i64 x2, .int .i64 x3, .int .i64 x4, .int .i64 x5, .int .i64 x6, .int .i64 x7, .int .i64 x8]), (29, .int .i64 dm), (30, .bool true), (31, .bool true), (32, .int .i64 p), (33, .agg #[.int .i64 x0, .int .i64 x1, .int .i64 x2, .int .i64 x3, .int .i64 x4, .int .i64 x5, .int .i64 x6, .int .i64 x7, .int .i64 x8]), (34, .agg #[.int .i64 (x0 % p * f % p), .int .i64 (x1 % p * f % p), .int .i64 (x2 % p * f % p), .int .i64 (x3 % p * f % p), .int .i64 (x4 % p * f % p), .int .i64 (x5 % p * f % p), .int .i64 (x6 % p * f % p), .int .i64 (x7 % p * f % p), .int .i64 (x8 % p * f % p)]), (35, .agg #[.int .i64 x0, .int .i64 x1, .int .i64 x2, .int .i64 x3, .int .i64 x4, .int .i64 x5, .int .i64 x6, .int .i64 x7, .int .i64 x8]), (36, .bool nb), (37, .bool nb), (4, .bool nb)] (by kernel_rfl) (by kernel_rfl) (by kernel_rfl) (fun aE hpe => ?_)
          simp only [puts, Act.put, List.setIfInBounds_toArray, List.set_cons_zero, List.set_cons_succ] at hpe
          subst hpe
          refine ⟨⟨.inr (.inr ?_), .inr (.inr ?_), .inr (.inr ?_), .inr (.inr ?_), .inr (.inr ?_), .inr (.inr ?_), .inr (.inr ?_), .inr (.inr ?_), .inr (.inr ?_), .inr (.inr ?_), .inr (.inr ?_), .inr (.inr ?_), trivial⟩, ?_⟩
          · exact CalmG.mk 27 (.int .i64 p) rfl rfl rfl (fun W hW => calm_move (.tmp 0) rfl rfl)
          · exact CalmG.mk 28 (.agg #[.int .i64 x0, .int .i64 x1, .int .i64 x2, .int .i64 x3, .int .i64 x4, .int .i64 x5, .int .i64 x6, .int .i64 x7, .int .i64 x8]) rfl rfl rfl (fun W hW => calm_load (cs := #[.int .i64 x0, .int .i64 x1, .int .i64 x2, .int .i64 x3, .int .i64 x4, .int .i64 x5, .int .i64 x6, .int .i64 x7, .int .i64 x8]) (g := w.heap.size) (T := 44) (fr := (0, 0)) 44 (.tmp 3) rfl rfl (by rw [hW.block _ (by simp)]; exact hbx) 9 rfl Try.sizeOf44 Try.isAgg44)
          · exact CalmG.mk 29 (.int .i64 dm) rfl rfl rfl (fun W hW => calm_call 70 _ #[.int .i64 p, .agg #[.int .i64 x0, .int .i64 x1, .int .i64 x2, .int .i64 x3, .int .i64 x4, .int .i64 x5, .int .i64 x6, .int .i64 x7, .int .i64 x8]] rfl rfl rfl (by simp [Act.eval]) (Try.call70 _ _) (HDt.out W))
          · exact CalmG.mk 30 (.bool true) rfl rfl rfl (fun W hW => calm_run (by simp [execOp, Act.eval, go_sem, hdz]))
          · exact CalmG.mk 31 (.bool true) rfl rfl rfl (fun W hW => calm_move (.tmp 30) rfl rfl)
          · exact CalmG.mk 32 (.int .i64 p) rfl rfl rfl (fun W hW => calm_move (.tmp 0) rfl rfl)
          · exact CalmG.mk 33 (.agg #[.int .i64 x0, .int .i64 x1, .int .i64 x2, .int .i64 x3, .int .i64 x4, .int .i64 x5, .int .i64 x6, .int .i64 x7, .int .i64 x8]) rfl rfl rfl (fun W hW => calm_load (cs := #[.int .i64 x0, .int .i64 x1, .int .i64 x2, .int .i64 x3, .int .i64 x4, .int .i64 x5, .int .i64 x6, .int .i64 x7, .int .i64 x8]) (g := w.heap.size) (T := 44) (fr := (0, 0)) 44 (.tmp 3) rfl rfl (by rw [hW.block _ (by simp)]; exact hbx) 9 rfl Try.sizeOf44 Try.isAgg44)
          · exact CalmG.mk 34 (.agg #[.int .i64 (x0 % p * f % p), .int .i64 (x1 % p * f % p), .int .i64 (x2 % p * f % p), .int .i64 (x3 % p * f % p), .int .i64 (x4 % p * f % p), .int .i64 (x5 % p * f % p), .int .i64 (x6 % p * f % p), .int .i64 (x7 % p * f % p), .int .i64 (x8 % p * f % p)]) rfl rfl rfl (fun W hW => calm_call 39 _ #[.int .i64 p, .agg #[.int .i64 x0, .int .i64 x1, .int .i64 x2, .int .i64 x3, .int .i64 x4, .int .i64 x5, .int .i64 x6, .int .i64 x7, .int .i64 x8]] rfl rfl rfl (by simp [Act.eval]) (Try.call39 _ _) (HNm.out W))
          · exact CalmG.mk 35 (.agg #[.int .i64 x0, .int .i64 x1, .int .i64 x2, .int .i64 x3, .int .i64 x4, .int .i64 x5, .int .i64 x6, .int .i64 x7, .int .i64 x8]) rfl rfl rfl (fun W hW => calm_load (cs := #[.int .i64 x0, .int .i64 x1, .int .i64 x2, .int .i64 x3, .int .i64 x4, .int .i64 x5, .int .i64 x6, .int .i64 x7, .int .i64 x8]) (g := w.heap.size) (T := 44) (fr := (0, 0)) 44 (.tmp 3) rfl rfl (by rw [hW.block _ (by simp)]; exact hbx) 9 rfl Try.sizeOf44 Try.isAgg44)
          · exact CalmG.mk 36 (.bool nb) rfl rfl rfl (fun W hW => calm_eqMp (.tmp 34) (.tmp 35) rfl rfl rfl HFx)
          · exact CalmG.mk 37 (.bool nb) rfl rfl rfl (fun W hW => calm_pickI (.tmp 31) (.tmp 36) (.const (.bool false)) rfl rfl rfl)
          · exact CalmG.mk 4 (.bool nb) rfl rfl rfl (fun W hW => calm_assign (.tmp 37) rfl rfl)
          intro W2 hW2
          have HB2 := Lib.hid hW2
          go_wp2
          go_ret
          exact ⟨ret_bool (by rw [HLl.out, HM.out]), (by repeat (first | exact Below.refl _ _ | refine bset ?_ _ _ (by omega) _ | refine bal ?_ _ | refine bdrN ?_ _ | refine bdr ?_ | refine below_tr' ?_ HB2.out))⟩
end Go.Proofs.Ytoagfpdicpcjnaa
/- Contracts: the laws' own maps, conics, desks. (Printed by genm7.py, a program of this session.) -/
namespace Go.Proofs.Ytoagfpdicpcjnaa
open Go.RowKit
set_option linter.unusedVariables false
set_option linter.unusedSimpArgs false
theorem toInt64A3_any (x y z : Int) (w : World) :
    Calls Try.prog 40 #[ptV x y z] w (Ret w (ptV x y z)) := by
  go_enter Try.func40, Try.ntmps40
  go_wp2
  refine wp_loop_rounds 4 ?_
  repeat any_goals (rw [rounds_succ]; go_wp2)
  exact bodyPost_ret (v := ptV x y z) (by simp [results, Try.results40, go_sem]) rfl ⟨rfl, by repeat (first | exact Below.refl _ _ | refine bal ?_ _)⟩
set_option maxRecDepth 10000 in
set_option maxHeartbeats 4000000 in
theorem toMap_any (x0 x1 x2 x3 x4 x5 x6 x7 x8 : Int) (w : World) :
    Calls Try.prog 24 #[.agg #[.int .i64 x0, .int .i64 x1, .int .i64 x2, .int .i64 x3, .int .i64 x4, .int .i64 x5, .int .i64 x6, .int .i64 x7, .int .i64 x8]] w (Ret w (.agg #[.int .i64 x0, .int .i64 x1, .int .i64 x2, .int .i64 x3, .int .i64 x4, .int .i64 x5, .int .i64 x6, .int .i64 x7, .int .i64 x8])) := by
  go_enter Try.func24, Try.ntmps24
  go_wp2
  go_loopw [4] (fun i wr => ∃ k : Nat, k ≤ 3 ∧ i = .int .i64 k ∧ wr.heap[w.heap.size]? = some (.cells #[.int .i64 x0, .int .i64 x1, .int .i64 x2, .int .i64 x3, .int .i64 x4, .int .i64 x5, .int .i64 x6, .int .i64 x7, .int .i64 x8] 43 (0, 0)) ∧ wr.heap[w.heap.size + 1]? = some (.cells #[.int .i64 0, .int .i64 0, .int .i64 0, .int .i64 0, .int .i64 0, .int .i64 0, .int .i64 0, .int .i64 0, .int .i64 0] 44 (0, 0)) ∧ wr.heap[w.heap.size + 1 + 1]? = some (.cells (outC k x0 x1 x2 x3 x4 x5 x6 x7 x8) 44 (0, 0)) ∧ Hid (Below w.heap.size w wr)) (fun i wr => 3 - (intOf i).toNat)
  case atStart => exact ⟨0, by omega, rfl, by rw [hn_pastN _ _ _ (by first | omega | (simp; done) | (simp; omega)), hn_pastN _ _ _ (by first | omega | (simp; done) | (simp; omega)), hn_atN _ _ _ (by simp)], by rw [hn_pastN _ _ _ (by first | omega | (simp; done) | (simp; omega)), hn_atN _ _ _ (by simp)], by rw [hn_atN _ _ _ (by simp)]; rfl, Lib.hid (by repeat (first | exact Below.refl _ _ | refine bset ?_ _ _ (by omega) _ | refine bal ?_ _ | refine bdrN ?_ _ | refine bdr ?_))⟩
  case round =>
    obtain ⟨k, hk, rfl, kb, kr, ko, HB⟩ := hrel
    rcases (show k = 0 ∨ k = 1 ∨ k = 2 ∨ k = 3 by omega) with rfl | rfl | rfl | rfl
    · clear hk
      have lb := (Array.getElem?_eq_some_iff.1 kb).1
      have lr := (Array.getElem?_eq_some_iff.1 kr).1
      have lo := (Array.getElem?_eq_some_iff.1 ko).1
      have b0 : wr.cell? ⟨w.heap.size, 0, none⟩ = some (.int .i64 x0) := by rw [cell_of_row wr _ 0 _ _ _ kb]; rfl
      have c0 : wr.cell? ⟨w.heap.size + 1 + 1, 0, none⟩ = some (.int .i64 0) := by rw [cell_of_row wr _ 0 _ _ _ ko]; rfl
      have f0 := frozen_of_row wr (w.heap.size + 1 + 1) 0 _ _ ko
      have b1 : wr.cell? ⟨w.heap.size, 1, none⟩ = some (.int .i64 x1) := by rw [cell_of_row wr _ 1 _ _ _ kb]; rfl
      have c1 : wr.cell? ⟨w.heap.size + 1 + 1, 1, none⟩ = some (.int .i64 0) := by rw [cell_of_row wr _ 1 _ _ _ ko]; rfl
      have f1 := frozen_of_row wr (w.heap.size + 1 + 1) 1 _ _ ko
      have b2 : wr.cell? ⟨w.heap.size, 2, none⟩ = some (.int .i64 x2) := by rw [cell_of_row wr _ 2 _ _ _ kb]; rfl
      have c2 : wr.cell? ⟨w.heap.size + 1 + 1, 2, none⟩ = some (.int .i64 0) := by rw [cell_of_row wr _ 2 _ _ _ ko]; rfl
      have f2 := frozen_of_row wr (w.heap.size + 1 + 1) 2 _ _ ko
      have Kb := Lib.hid kb
      have Kr := Lib.hid kr
      have Ko := Lib.hid ko
      clear kb kr ko
      go_wp2_with (go_at_call 40; (with_reducible refine (toInt64A3_any x0 x1 x2 _).mono ?_); rintro e w1_ ⟨rfl, hb1⟩; obtain ⟨hcb1, hfb1, hlb1⟩ := bcell hb1; have hsz1 := hb1.size; (try simp at hsz1); have HB1 := Lib.hid hb1; clear hb1; (try (have hl01 : w.heap.size < w1_.heap.size := by omega)); (try (have hl11 : w.heap.size + 1 < w1_.heap.size := by omega)); (try (have hl21 : w.heap.size + 1 + 1 < w1_.heap.size := by omega)))
      go_roundw
      case rel => exact ⟨1, by omega, rfl, by rw [Below.heap_setCell _ _ _ _ (by first | (simp; done) | (simp; omega)), Below.heap_setCell _ _ _ _ (by first | (simp; done) | (simp; omega)), Below.heap_setCell _ _ _ _ (by first | (simp; done) | (simp; omega)), HB1.out.block _ lb]; exact Kb.out, by rw [Below.heap_setCell _ _ _ _ (by first | (simp; done) | (simp; omega)), Below.heap_setCell _ _ _ _ (by first | (simp; done) | (simp; omega)), Below.heap_setCell _ _ _ _ (by first | (simp; done) | (simp; omega)), HB1.out.block _ lr]; exact Kr.out, setCell_heap (setCell_heap (setCell_heap (by rw [HB1.out.block _ lo]; exact Ko.out) _ _) _ _) _ _, Lib.hid ((((low_tr' HB.out HB1.out HB.out.size).setCell (by show w.heap.size ≤ w.heap.size + 1 + 1; omega) _).setCell (by show w.heap.size ≤ w.heap.size + 1 + 1; omega) _).setCell (by show w.heap.size ≤ w.heap.size + 1 + 1; omega) _)⟩
      case measure => simp [intOf]
    · clear hk
      have lb := (Array.getElem?_eq_some_iff.1 kb).1
      have lr := (Array.getElem?_eq_some_iff.1 kr).1
      have lo := (Array.getElem?_eq_some_iff.1 ko).1
      have b0 : wr.cell? ⟨w.heap.size, 3, none⟩ = some (.int .i64 x3) := by rw [cell_of_row wr _ 3 _ _ _ kb]; rfl
      have c0 : wr.cell? ⟨w.heap.size + 1 + 1, 3, none⟩ = some (.int .i64 0) := by rw [cell_of_row wr _ 3 _ _ _ ko]; rfl
      have f0 := frozen_of_row wr (w.heap.size + 1 + 1) 3 _ _ ko
      have b1 : wr.cell? ⟨w.heap.size, 4, none⟩ = some (.int .i64 x4) := by rw [cell_of_row wr _ 4 _ _ _ kb]; rfl
      have c1 : wr.cell? ⟨w.heap.size + 1 + 1, 4, none⟩ = some (.int .i64 0) := by rw [cell_of_row wr _ 4 _ _ _ ko]; rfl
      have f1 := frozen_of_row wr (w.heap.size + 1 + 1) 4 _ _ ko
      have b2 : wr.cell? ⟨w.heap.size, 5, none⟩ = some (.int .i64 x5) := by rw [cell_of_row wr _ 5 _ _ _ kb]; rfl
      have c2 : wr.cell? ⟨w.heap.size + 1 + 1, 5, none⟩ = some (.int .i64 0) := by rw [cell_of_row wr _ 5 _ _ _ ko]; rfl
      have f2 := frozen_of_row wr (w.heap.size + 1 + 1) 5 _ _ ko
      have Kb := Lib.hid kb
      have Kr := Lib.hid kr
      have Ko := Lib.hid ko
      clear kb kr ko
      go_wp2_with (go_at_call 40; (with_reducible refine (toInt64A3_any x3 x4 x5 _).mono ?_); rintro e w1_ ⟨rfl, hb1⟩; obtain ⟨hcb1, hfb1, hlb1⟩ := bcell hb1; have hsz1 := hb1.size; (try simp at hsz1); have HB1 := Lib.hid hb1; clear hb1; (try (have hl01 : w.heap.size < w1_.heap.size := by omega)); (try (have hl11 : w.heap.size + 1 < w1_.heap.size := by omega)); (try (have hl21 : w.heap.size + 1 + 1 < w1_.heap.size := by omega)))
      go_roundw
      case rel => exact ⟨2, by omega, rfl, by rw [Below.heap_setCell _ _ _ _ (by first | (simp; done) | (simp; omega)), Below.heap_setCell _ _ _ _ (by first | (simp; done) | (simp; omega)), Below.heap_setCell _ _ _ _ (by first | (simp; done) | (simp; omega)), HB1.out.block _ lb]; exact Kb.out, by rw [Below.heap_setCell _ _ _ _ (by first | (simp; done) | (simp; omega)), Below.heap_setCell _ _ _ _ (by first | (simp; done) | (simp; omega)), Below.heap_setCell _ _ _ _ (by first | (simp; done) | (simp; omega)), HB1.out.block _ lr]; exact Kr.out, setCell_heap (setCell_heap (setCell_heap (by rw [HB1.out.block _ lo]; exact Ko.out) _ _) _ _) _ _, Lib.hid ((((low_tr' HB.out HB1.out HB.out.size).setCell (by show w.heap.size ≤ w.heap.size + 1 + 1; omega) _).setCell (by show w.heap.size ≤ w.heap.size + 1 + 1; omega) _).setCell (by show w.heap.size ≤ w.heap.size + 1 + 1; omega) _)⟩
      case measure => simp [intOf]
    · clear hk
      have lb := (Array.getElem?_eq_some_iff.1 kb).1
      have lr := (Array.getElem?_eq_some_iff.1 kr).1
      have lo := (Array.getElem?_eq_some_iff.1 ko).1
      have b0 : wr.cell? ⟨w.heap.size, 6, none⟩ = some (.int .i64 x6) := by rw [cell_of_row wr _ 6 _ _ _ kb]; rfl
      have c0 : wr.cell? ⟨w.heap.size + 1 + 1, 6, none⟩ = some (.int .i64 0) := by rw [cell_of_row wr _ 6 _ _ _ ko]; rfl
      have f0 := frozen_of_row wr (w.heap.size + 1 + 1) 6 _ _ ko
      have b1 : wr.cell? ⟨w.heap.size, 7, none⟩ = some (.int .i64 x7) := by rw [cell_of_row wr _ 7 _ _ _ kb]; rfl
      have c1 : wr.cell? ⟨w.heap.size + 1 + 1, 7, none⟩ = some (.int .i64 0) := by rw [cell_of_row wr _ 7 _ _ _ ko]; rfl
      have f1 := frozen_of_row wr (w.heap.size + 1 + 1) 7 _ _ ko
      have b2 : wr.cell? ⟨w.heap.size, 8, none⟩ = some (.int .i64 x8) := by rw [cell_of_row wr _ 8 _ _ _ kb]; rfl
      have c2 : wr.cell? ⟨w.heap.size + 1 + 1, 8, none⟩ = some (.int .i64 0) := by rw [cell_of_row wr _ 8 _ _ _ ko]; rfl
      have f2 := frozen_of_row wr (w.heap.size + 1 + 1) 8 _ _ ko
      have Kb := Lib.hid kb
      have Kr := Lib.hid kr
      have Ko := Lib.hid ko
      clear kb kr ko
      go_wp2_with (go_at_call 40; (with_reducible refine (toInt64A3_any x6 x7 x8 _).mono ?_); rintro e w1_ ⟨rfl, hb1⟩; obtain ⟨hcb1, hfb1, hlb1⟩ := bcell hb1; have hsz1 := hb1.size; (try simp at hsz1); have HB1 := Lib.hid hb1; clear hb1; (try (have hl01 : w.heap.size < w1_.heap.size := by omega)); (try (have hl11 : w.heap.size + 1 < w1_.heap.size := by omega)); (try (have hl21 : w.heap.size + 1 + 1 < w1_.heap.size := by omega)))
      go_roundw
      case rel => exact ⟨3, by omega, rfl, by rw [Below.heap_setCell _ _ _ _ (by first | (simp; done) | (simp; omega)), Below.heap_setCell _ _ _ _ (by first | (simp; done) | (simp; omega)), Below.heap_setCell _ _ _ _ (by first | (simp; done) | (simp; omega)), HB1.out.block _ lb]; exact Kb.out, by rw [Below.heap_setCell _ _ _ _ (by first | (simp; done) | (simp; omega)), Below.heap_setCell _ _ _ _ (by first | (simp; done) | (simp; omega)), Below.heap_setCell _ _ _ _ (by first | (simp; done) | (simp; omega)), HB1.out.block _ lr]; exact Kr.out, setCell_heap (setCell_heap (setCell_heap (by rw [HB1.out.block _ lo]; exact Ko.out) _ _) _ _) _ _, Lib.hid ((((low_tr' HB.out HB1.out HB.out.size).setCell (by show w.heap.size ≤ w.heap.size + 1 + 1; omega) _).setCell (by show w.heap.size ≤ w.heap.size + 1 + 1; omega) _).setCell (by show w.heap.size ≤ w.heap.size + 1 + 1; omega) _)⟩
      case measure => simp [intOf]
    · go_wp2_with (first
        | (refine wpList_load_row _ rfl 44 _ rfl (g := w.heap.size + 1 + 1) (T := 44) (cs := #[.int .i64 x0, .int .i64 x1, .int .i64 x2, .int .i64 x3, .int .i64 x4, .int .i64 x5, .int .i64 x6, .int .i64 x7, .int .i64 x8]) (fr := (0, 0)) rfl ko 9 rfl Try.sizeOf44 Try.isAgg44 ?_)
        | (refine wpList_store_row _ rfl 44 _ _ rfl rfl (g := w.heap.size + 1) (T := 44) (cs := #[.int .i64 0, .int .i64 0, .int .i64 0, .int .i64 0, .int .i64 0, .int .i64 0, .int .i64 0, .int .i64 0, .int .i64 0]) (U := #[.int .i64 x0, .int .i64 x1, .int .i64 x2, .int .i64 x3, .int .i64 x4, .int .i64 x5, .int .i64 x6, .int .i64 x7, .int .i64 x8]) rfl rfl kr rfl Try.sizeOf44 (by simp [Value.oneCell']) ?_))
      exact bodyPost_ret (v := .agg #[.int .i64 x0, .int .i64 x1, .int .i64 x2, .int .i64 x3, .int .i64 x4, .int .i64 x5, .int .i64 x6, .int .i64 x7, .int .i64 x8]) (results_row Try.results24 rfl (setRow_heap _ _ _ _ _ _ kr) 9 rfl Try.sizeOf44 Try.isAgg44) rfl ⟨rfl, below_setRowN HB.out (by omega) _⟩
end Go.Proofs.Ytoagfpdicpcjnaa
/- The law FnExactIsDesk: walked. -/
namespace Go.Proofs.Ytoagfpdicpcjnaa
open Go.RowKit
set_option linter.unusedVariables false
set_option linter.unusedSimpArgs false
/-- A part of a block is loaded, stored, with the block's cells known. -/
theorem wpList_load_at {P : Program} (w : World) {ops : Array Oper} {rest : List Oper} {o : Oper} {a : Act} {Q : Exit → Act → World → Prop}
    (hgd : o.guard = none) (ty : TypeId) (x : Operand) (hop : o.op = .load ty x) {g off : Nat} {T : TypeId} {cs U : Array Value} {fr : Nat × Nat} (hx : a.eval x = .pointer (some ⟨g, off, none⟩))
    (hg : w.heap[g]? = some (.cells cs T fr)) (n : Nat) (hn : U.size = n) (hU : ∀ j, j < n → cs[off + j]? = U[j]?) (hs : ∀ W, (sizeOf ty).run P W = .ok n W) (ha : ∀ W, (isAgg ty).run P W = .ok true W) (hK : wpList P ops Q rest (a.put o.dst (.agg U)) w) : wpList P ops Q (o :: rest) a w := by
  refine wpList_plain hgd fun K hK' => ?_
  subst hn
  have hl : (loadCells ⟨g, off, none⟩ U.toList.length).run P w = .ok U.toList.toArray w :=
    run_loadCells_list (P := P) w ⟨g, off, none⟩ U.toList (fun j v hv => by
      have hadd : (⟨g, off, none⟩ : Addr).add j = ⟨g, off + j, none⟩ := by unfold Addr.add; split <;> simp_all
      have hj : j < U.size := by simpa using (List.getElem?_eq_some_iff.1 hv).1
      rw [hadd, cell_of_row w g _ cs T fr hg, hU j hj]
      simpa using hv)
  simp only [Array.length_toList, Array.toArray_toList] at hl
  have hv : (loadVar ty ⟨g, off, none⟩).run P w = .ok (.agg U) w := by
    unfold loadVar
    rw [Sem.run_bind, ha]
    simp only [Result.andThen_ok, if_true]
    rw [Sem.run_bind, hs]
    simp only [Result.andThen_ok]
    rw [Sem.run_bind, hl]
    rfl
  have hr : (execOp a.eval o).run P w = .ok (.value (.agg U)) w := by
    unfold execOp
    simp only [hop, hx, Instr.loadAt, Instr.sureAddr, Sem.run_bind, Sem.run_pure, Result.andThen_ok, hv]
  unfold Oper.wp
  rw [hr]
  simp only [Oper.upon]
  exact hK' _ _ hK
theorem wpList_store_at {P : Program} (w : World) {ops : Array Oper} {rest : List Oper} {o : Oper} {a : Act} {Q : Exit → Act → World → Prop}
    (hgd : o.guard = none) (ty : TypeId) (x y : Operand) (hop : o.op = .store ty x y) (hd : o.dst = none) {g off : Nat} {T : TypeId} {cs cs' U : Array Value} (hx : a.eval x = .pointer (some ⟨g, off, none⟩)) (hy : a.eval y = .agg U)
    (hg : w.heap[g]? = some (.cells cs T (0, 0))) (hn : off + U.size ≤ cs.size) (he : (cs.toList.take off ++ U.toList ++ cs.toList.drop (off + U.toList.length)).toArray = cs') (hs : ∀ W, (sizeOf ty).run P W = .ok U.size W) (h1 : ∀ v ∈ U.toList, v.oneCell' = true) (hK : wpList P ops Q rest a (w.setRow g cs')) : wpList P ops Q (o :: rest) a w := by
  refine wpList_plain hgd fun K hK' => ?_
  have hst := run_storeCells_at (P := P) g off T U.toList 0 cs w hg (by simpa using hn) h1
  rw [Nat.add_zero, he] at hst
  have hv : (storeVar ty ⟨g, off, none⟩ (.agg U)).run P w = .ok () (w.setRow g cs') := by
    unfold storeVar
    rw [Sem.run_bind, hs]
    simp only [Result.andThen_ok, Value.cells, ne_eq, not_true_eq_false, if_false]
    exact hst
  have hr : (execOp a.eval o).run P w = .ok .skip (w.setRow g cs') := by
    unfold execOp
    simp only [hop, hx, hy, Instr.storeAt, Instr.sureAddr, Sem.run_bind, Sem.run_pure, Result.andThen_ok, hv]
  unfold Oper.wp
  rw [hr]
  simp only [Oper.upon, hd]
  exact hK' _ _ hK
end Go.Proofs.Ytoagfpdicpcjnaa
