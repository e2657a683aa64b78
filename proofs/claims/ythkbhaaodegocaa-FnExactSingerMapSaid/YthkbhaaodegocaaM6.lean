/- Contracts: whether numbers are a map, a conic, a desk: the reference. -/
import Derived.Test.YthkbhaaodegocaaM5
namespace Go.Proofs.Ythkbhaaodegocaa
open Go.RowKit
set_option linter.unusedVariables false
set_option linter.unusedSimpArgs false
theorem cells6' (x0 x1 x2 x3 x4 x5 : Int) (w : World) (T : TypeId) (g : Nat) (hg : g = w.heap.size) : ∀ i, i < 6 → (w.alloc (.cells #[.int .i64 x0, .int .i64 x1, .int .i64 x2, .int .i64 x3, .int .i64 x4, .int .i64 x5] T)).cell? ⟨g, 0 + i, none⟩ = some (.int .i64 ([x0, x1, x2, x3, x4, x5].getD i 0)) := by
  subst hg; exact cells6 x0 x1 x2 x3 x4 x5 w T
theorem calm_pickI {P : Program} {o : Oper} {ρ : Operand → Value} {W : World} (x y z : Operand) {c : Bool} {v : Value} (ho : o.op = .pick x y z) (hx : ρ x = .bool c) (hv : (if c = true then ρ y else ρ z) = v) : calmAt P o ρ W v := by
  refine calm_run ?_
  unfold execOp
  subst hv
  simp only [ho, hx, asBool, Sem.run_bind, Sem.run_pure, Result.andThen_ok]
theorem norm_fix {p x0 x1 x2 x3 x4 x5 x6 x7 x8 f : Int} (hp : prB p = true) (hr : numsB p [x0, x1, x2, x3, x4, x5, x6, x7, x8] = true) (hf : facL p [x0, x1, x2, x3, x4, x5, x6, x7, x8] = f) (hd : (detZ (x0, x1, x2) (x3, x4, x5) (x6, x7, x8) % p != 0) = true) :
    eqM (x0 % p * f % p, x1 % p * f % p, x2 % p * f % p) (x3 % p * f % p, x4 % p * f % p, x5 % p * f % p) (x6 % p * f % p, x7 % p * f % p, x8 % p * f % p) (x0, x1, x2) (x3, x4, x5) (x6, x7, x8) = normB p [x0, x1, x2, x3, x4, x5, x6, x7, x8] := by
  have hb := prB_bd hp
  have bd : ∀ x ∈ [x0, x1, x2, x3, x4, x5, x6, x7, x8], 0 ≤ x ∧ x ≤ p - 1 := fun x hx => numB_iff.1 (List.all_eq_true.1 hr x hx)
  have hm : ∀ x ∈ [x0, x1, x2, x3, x4, x5, x6, x7, x8], x % p = x := fun x hx => Int.emod_eq_of_lt (bd x hx).1 (by have := (bd x hx).2; omega)
  have hmap : [x0, x1, x2, x3, x4, x5, x6, x7, x8].map (· % p) = [x0, x1, x2, x3, x4, x5, x6, x7, x8] := by
    conv => rhs; rw [← List.map_id [x0, x1, x2, x3, x4, x5, x6, x7, x8]]
    exact List.map_congr_left (fun x hx => hm x hx)
  have hz : firstNZ [x0, x1, x2, x3, x4, x5, x6, x7, x8] ≠ 0 := by
    intro e
    have h0 := firstNZ_eq_zero.1 e
    have z : ∀ x ∈ [x0, x1, x2, x3, x4, x5, x6, x7, x8], x = 0 := fun x hx => by simpa using List.all_eq_true.1 h0 x hx
    have z0 := z x0 (by simp); have z1 := z x1 (by simp); have z2 := z x2 (by simp)
    rw [z0, z1, z2] at hd
    simp [detZ] at hd
  have hmem : firstNZ [x0, x1, x2, x3, x4, x5, x6, x7, x8] ∈ [x0, x1, x2, x3, x4, x5, x6, x7, x8] := by
    rcases firstNZ_mem [x0, x1, x2, x3, x4, x5, x6, x7, x8] with h | h
    · exact absurd h hz
    · exact h
  have hbz := bd _ hmem
  have hfz : f = invP p (firstNZ [x0, x1, x2, x3, x4, x5, x6, x7, x8]) := by rw [← hf]; unfold facL; rw [hmap]
  have hnb : normB p [x0, x1, x2, x3, x4, x5, x6, x7, x8] = (firstNZ [x0, x1, x2, x3, x4, x5, x6, x7, x8] == 1) := by unfold normB; rw [hr]; simp
  rw [hnb]
  clear hnb hf
  generalize firstNZ [x0, x1, x2, x3, x4, x5, x6, x7, x8] = z at *
  obtain ⟨s1, s2, s3, _⟩ := invP_spec (p := p) (n := z) hp (by omega) (by omega)
  rw [← hfz] at s1 s2 s3
  by_cases h1 : z = 1
  · have hf1 : f = 1 := by
      rw [h1, Int.one_mul, Int.emod_eq_of_lt (by omega) s2] at s3; exact s3
    have k : ∀ x ∈ [x0, x1, x2, x3, x4, x5, x6, x7, x8], x % p * f % p = x := fun x hx => by rw [hf1, Int.mul_one, hm x hx, hm x hx]
    have e : (z == 1) = true := by simp [h1]
    rw [e]
    refine eqM_iff.2 ⟨?_, ?_, ?_⟩
    · rw [k x0 (by simp), k x1 (by simp), k x2 (by simp)]
    · rw [k x3 (by simp), k x4 (by simp), k x5 (by simp)]
    · rw [k x6 (by simp), k x7 (by simp), k x8 (by simp)]
  · have e : (z == 1) = false := by simp [h1]
    rw [e]
    cases he : eqM (x0 % p * f % p, x1 % p * f % p, x2 % p * f % p) (x3 % p * f % p, x4 % p * f % p, x5 % p * f % p) (x6 % p * f % p, x7 % p * f % p, x8 % p * f % p) (x0, x1, x2) (x3, x4, x5) (x6, x7, x8) with
    | false => rfl
    | true =>
      exfalso
      obtain ⟨e1, e2, e3⟩ := eqM_iff.1 he
      simp only [Prod.mk.injEq] at e1 e2 e3
      have k : ∀ x ∈ [x0, x1, x2, x3, x4, x5, x6, x7, x8], x % p * f % p = x := by
        intro x hx
        simp only [List.mem_cons, List.not_mem_nil, or_false] at hx
        rcases hx with rfl | rfl | rfl | rfl | rfl | rfl | rfl | rfl | rfl
        · exact e1.1
        · exact e1.2.1
        · exact e1.2.2
        · exact e2.1
        · exact e2.2.1
        · exact e2.2.2
        · exact e3.1
        · exact e3.2.1
        · exact e3.2.2
      have := k z hmem
      rw [hm z hmem, s3] at this
      exact h1 this.symm
theorem mapB_no {p d : Int} {l : List Int} (h : prB p = false) : mapB p l d = false := by unfold mapB; rw [h]; rfl
theorem mapB_range {p d : Int} {l : List Int} (h : numsB p l = false) : mapB p l d = false := by unfold mapB normB; rw [h]; simp
theorem mapB_det {p d : Int} {l : List Int} (h : (d % p != 0) = false) : mapB p l d = false := by unfold mapB; rw [h]; simp
theorem mapB_yes {p d : Int} {l : List Int} (hp : prB p = true) (h : (d % p != 0) = true) : mapB p l d = normB p l := by unfold mapB; rw [hp, h]; simp
theorem nums_all {p : Int} {l : List Int} (h : ∀ q, q < l.length → numB p (l.getD q 0) = true) : numsB p l = true := by
  unfold numsB
  rw [List.all_eq_true]
  intro x hx
  obtain ⟨q, hq, e⟩ := List.mem_iff_getElem.1 hx
  have := h q hq
  simpa [List.getD, hq, e] using this
set_option maxRecDepth 20000 in
set_option maxHeartbeats 4000000 in
theorem l02Is_any (p x0 x1 x2 x3 x4 x5 x6 x7 x8 : Int) (w : World) :
    Calls Try.prog 131 #[.int .i64 p, .agg #[.int .i64 x0, .int .i64 x1, .int .i64 x2, .int .i64 x3, .int .i64 x4, .int .i64 x5, .int .i64 x6, .int .i64 x7, .int .i64 x8]] w (Ret w (.bool (mapB p [x0, x1, x2, x3, x4, x5, x6, x7, x8] (detZ (x0, x1, x2) (x3, x4, x5) (x6, x7, x8))))) := by
  cases hp : prB p with
  | false =>
    have HP := Lib.hid hp
    rw [mapB_no hp]
    clear hp
    go_enter Try.func131, Try.ntmps131
    go_wp2_with (go_at_call 68; refine (l01Prime_no _ _ HP.out).mono ?_; rintro e w' ⟨rfl, rfl⟩)
    go_ret
    exact ⟨rfl, (by repeat (first | exact Below.refl _ _ | refine bset ?_ _ _ (by omega) _ | refine bal ?_ _ | refine bdrN ?_ _ | refine bdr ?_))⟩
  | true =>
    have hb := prB_bd hp
    have HP := Lib.hid hp
    generalize hD : detZ (x0, x1, x2) (x3, x4, x5) (x6, x7, x8) = d
    have HD := Lib.hid hD
    obtain ⟨Ll, hLl⟩ : ∃ Ll, Ll = [x0, x1, x2, x3, x4, x5, x6, x7, x8] := ⟨_, rfl⟩
    have HLl := Lib.hid hLl
    have HCell : Hid (∀ q, q < 9 → (w.alloc (.cells #[.int .i64 x0, .int .i64 x1, .int .i64 x2, .int .i64 x3, .int .i64 x4, .int .i64 x5, .int .i64 x6, .int .i64 x7, .int .i64 x8] 26)).cell? ⟨w.heap.size, q, none⟩ = some (.int .i64 (Ll.getD q 0))) := Lib.hid (fun q hq => by
      rw [World.cell?_alloc_at _ _ _ _ rfl, hLl]
      match q, hq with
      | 0, _ => rfl
      | 1, _ => rfl
      | 2, _ => rfl
      | 3, _ => rfl
      | 4, _ => rfl
      | 5, _ => rfl
      | 6, _ => rfl
      | 7, _ => rfl
      | 8, _ => rfl)
    rw [← hLl]
    have HLen : Hid (Ll.length = 9) := Lib.hid (by rw [hLl]; rfl)
    have HR := Lib.hid (fun (k : Nat) (hk : k < Ll.length) (h : numB p (Ll.getD k 0) = false) => mapB_range (d := d) (numsB_false hk h))
    have HF := Lib.hid (fun h => nums_all (p := p) (l := Ll) h)
    clear hD hLl hp
    go_enter Try.func131, Try.ntmps131
    go_wp2_with (go_at_call 68; refine (l01Prime_yes _ _ HP.out).mono ?_; rintro e w' ⟨rfl, rfl⟩)
    go_loop [5, 6] (fun i _ => ∃ k : Nat, k ≤ 3 ∧ i = .int .i64 k ∧ Hid (∀ q, q < k * 3 → numB p (Ll.getD q 0) = true)) (fun i _ => 3 - (intOf i).toNat)
    case atStart => exact ⟨0, by omega, rfl, Lib.hid (fun q hq => by omega)⟩
    case round =>
      obtain ⟨i, hi, rfl, HK⟩ := hrel
      by_cases hlt : i < 3
      · go_wp2
        go_loop [6] (fun jv => ∃ j : Nat, j ≤ 3 ∧ jv = .int .i64 j ∧ Hid (∀ q, q < i * 3 + j → numB p (Ll.getD q 0) = true)) (fun jv => 3 - (intOf jv).toNat)
        case atStart => exact ⟨0, by omega, rfl, HK⟩
        case round =>
          clear HK
          obtain ⟨j, hj, rfl, HK⟩ := hrel
          by_cases hlj : j < 3
          · have cq := HCell.out (i * 3 + j) (by omega)
            have HNo := Lib.hid (HR.out (i * 3 + j) (by have := HLen.out; omega))
            have HYes : Hid (numB p (Ll.getD (i * 3 + j) 0) = true → ∀ q, q < i * 3 + (j + 1) → numB p (Ll.getD q 0) = true) := Lib.hid (fun h q hq => by
              rcases Nat.lt_or_ge q (i * 3 + j) with h2 | h2
              · exact HK.out q h2
              · rw [show q = i * 3 + j by omega]; exact h)
            generalize Ll.getD (i * 3 + j) 0 = x at *
            by_cases hr : 0 ≤ x ∧ x ≤ p - 1
            · obtain ⟨r0, r1⟩ := hr
              have HY2 := Lib.hid (HYes.out (numB_iff.2 ⟨r0, r1⟩))
              clear HYes HNo
              go_wp2_with (go_at_call 125; refine (l01In_yes _ _ _ _ r0 r1).mono ?_; rintro e w' ⟨rfl, rfl⟩)
              go_round
              case rel => exact ⟨j + 1, by omega, by go_num, HY2⟩
              case measure => simp [intOf]; omega
            · have hr' : x < 0 ∨ p - 1 < x := by omega
              have HY2 := Lib.hid (HNo.out (by cases hnb : numB p x with | false => rfl | true => exact (hr (numB_iff.1 hnb)).elim))
              clear HYes HNo
              go_wp2_with (go_at_call 125; refine (l01In_no _ _ _ _ hr').mono ?_; rintro e w' ⟨rfl, rfl⟩)
              go_ret
              exact ⟨ret_bool HY2.out.symm, (by repeat (first | exact Below.refl _ _ | refine bset ?_ _ _ (by omega) _ | refine bal ?_ _ | refine bdrN ?_ _ | refine bdr ?_))⟩
          · have hj3 : j = 3 := by omega
            subst hj3
            go_wp2
            go_round
            case rel => exact ⟨i + 1, by omega, by go_num, Lib.hid (fun q hq => HK.out q (by omega))⟩
            case measure => simp [intOf]; omega
      · have hi3 : i = 3 := by omega
        subst hi3
        have hnums := HF.out (fun q hq => HK.out q (by have := HLen.out; omega))
        rw [HLl.out] at hnums ⊢
        have hin : ∀ x ∈ [x0, x1, x2, x3, x4, x5, x6, x7, x8], 0 ≤ x ∧ x ≤ 12 := fun x hx => by have := numB_iff.1 (List.all_eq_true.1 hnums x hx); omega
        have i0 : In13 (x0, x1, x2) := ⟨hin _ (by simp), hin _ (by simp), hin _ (by simp)⟩
        have i1 : In13 (x3, x4, x5) := ⟨hin _ (by simp), hin _ (by simp), hin _ (by simp)⟩
        have i2 : In13 (x6, x7, x8) := ⟨hin _ (by simp), hin _ (by simp), hin _ (by simp)⟩
        have HDt := Lib.hid (fun (W : World) => l02Det_any p x0 x1 x2 x3 x4 x5 x6 x7 x8 W HP.out i0 i1 i2)
        rw [HD.out] at HDt
        obtain ⟨f, hf⟩ : ∃ f, facL p [x0, x1, x2, x3, x4, x5, x6, x7, x8] = f := ⟨_, rfl⟩
        have HNm := Lib.hid (fun (W : World) => l02Normal_any p x0 x1 x2 x3 x4 x5 x6 x7 x8 W HP.out (fun x hx => by have := hin x hx; omega) f hf)
        have HFix := Lib.hid (fun h => norm_fix HP.out hnums hf (by rw [HD.out]; exact h))
        have HMd := Lib.hid (fun h => mapB_det (p := p) (d := d) (l := [x0, x1, x2, x3, x4, x5, x6, x7, x8]) h)
        have HMy := Lib.hid (fun h => mapB_yes (p := p) (d := d) (l := [x0, x1, x2, x3, x4, x5, x6, x7, x8]) HP.out h)
        clear hnums hin i0 i1 i2 HCell HR HF HK hf HLen
        generalize hdm : d % p = dm at *
        have hbx : (w.alloc (.cells #[.int .i64 x0, .int .i64 x1, .int .i64 x2, .int .i64 x3, .int .i64 x4, .int .i64 x5, .int .i64 x6, .int .i64 x7, .int .i64 x8] 26)).heap[w.heap.size]? = some (.cells #[.int .i64 x0, .int .i64 x1, .int .i64 x2, .int .i64 x3, .int .i64 x4, .int .i64 x5, .int .i64 x6, .int .i64 x7, .int .i64 x8] 26 (0, 0)) := by rw [hn_atN _ _ _ (by simp)]
        cases hdz : (dm != 0) with
        | false =>
          have HM := Lib.hid (HMd.out hdz)
          clear HFix HMd HMy HNm
          go_wp2
          refine region_calmG [(27, .int .i64 p), (28, .agg #[.int .i64 x0, .int .i64 x1, .int .i64 x2, .int .i64 x3, .int .i64 x4, .int .i64 x5, .int .i64 x6, .int .i64 x7, .int .i64 x8]), (29, .int .i64 dm), (30, .bool false), (31, .bool false), (32, undef), (33, undef), (34, undef), (35, undef), (36, undef), (37, .bool false), (4, .bool false)] (by kernel_rfl) (by kernel_rfl) (by kernel_rfl) (fun aE hpe => ?_)
          simp only [puts, Act.put, List.setIfInBounds_toArray, List.set_cons_zero, List.set_cons_succ] at hpe
          subst hpe
          refine ⟨⟨.inr (.inr ?_), .inr (.inr ?_), .inr (.inr ?_), .inr (.inr ?_), .inr (.inr ?_), .inr (.inr ?_), .inr (.inr ?_), .inr (.inr ?_), .inr (.inr ?_), .inr (.inr ?_), .inr (.inr ?_), .inr (.inr ?_), trivial⟩, ?_⟩
          · exact CalmG.mk 27 (.int .i64 p) rfl rfl rfl (fun W hW => calm_move (.tmp 0) rfl rfl)
          · exact CalmG.mk 28 (.agg #[.int .i64 x0, .int .i64 x1, .int .i64 x2, .int .i64 x3, .int .i64 x4, .int .i64 x5, .int .i64 x6, .int .i64 x7, .int .i64 x8]) rfl rfl rfl (fun W hW => calm_load (cs := #[.int .i64 x0, .int .i64 x1, .int .i64 x2, .int .i64 x3, .int .i64 x4, .int .i64 x5, .int .i64 x6, .int .i64 x7, .int .i64 x8]) (g := w.heap.size) (T := 26) (fr := (0, 0)) 26 (.tmp 3) rfl rfl (by rw [hW.block _ (by simp)]; exact hbx) 9 rfl Try.sizeOf26 Try.isAgg26)
          · exact CalmG.mk 29 (.int .i64 dm) rfl rfl rfl (fun W hW => calm_call 162 _ #[.int .i64 p, .agg #[.int .i64 x0, .int .i64 x1, .int .i64 x2, .int .i64 x3, .int .i64 x4, .int .i64 x5, .int .i64 x6, .int .i64 x7, .int .i64 x8]] rfl rfl rfl (by simp [Act.eval]) (Try.call162 _ _) (HDt.out W))
          · exact CalmG.mk 30 (.bool false) rfl rfl rfl (fun W hW => calm_run (by simp [execOp, Act.eval, go_sem, hdz]))
          · exact CalmG.mk 31 (.bool false) rfl rfl rfl (fun W hW => calm_move (.tmp 30) rfl rfl)
          · exact CalmG.out 32 rfl rfl rfl
          · exact CalmG.out 33 rfl rfl rfl
          · exact CalmG.out 34 rfl rfl rfl
          · exact CalmG.out 35 rfl rfl rfl
          · exact CalmG.out 36 rfl rfl rfl
          · exact CalmG.mk 37 (.bool false) rfl rfl rfl (fun W hW => calm_pickI (.tmp 31) (.tmp 36) (.const (.bool false)) rfl rfl rfl)
          · exact CalmG.mk 4 (.bool false) rfl rfl rfl (fun W hW => calm_assign (.tmp 37) rfl rfl)
          intro W2 hW2
          have HB2 := Lib.hid hW2
          go_wp2
          go_ret
          exact ⟨ret_bool (by rw [HLl.out, HM.out]), (by repeat (first | exact Below.refl _ _ | refine bset ?_ _ _ (by omega) _ | refine bal ?_ _ | refine bdrN ?_ _ | refine bdr ?_ | refine below_tr' ?_ HB2.out))⟩
        | true =>
          have HM := Lib.hid (HMy.out hdz)
          have HFx := HFix.out hdz
          clear HFix HMd HMy
          generalize normB p [x0, x1, x2, x3, x4, x5, x6, x7, x8] = nb at *
          go_wp2
          refine region_calmG [(27, .int .i64 p), (28, .agg #[.int .i64 x0, .int .i64 x1, .int .i64 x2, .int .i64 x3, .int .i64 x4, .int .i64 x5, .int .i64 x6, .int .i64 x7, .int .i64 x8]), (29, .int .i64 dm), (30, .bool true), (31, .bool true), (32, .int .i64 p), (33, .agg #[.int .i64 x0, .int .i64 x1, .int .i64 x2, .int .i64 x3, .int .i64 x4, .int .i64 x5, .int .i64 x6, .int .i64 x7, .int .i64 x8]), (34, .agg #[.int .i64 (x0 % p * f % p), .int .i64 (x1 % p * f % p), .int .i64 (x2 % p * f % p), .int .i64 (x3 % p * f % p), .int .i64 (x4 % p * f % p), .int .i64 (x5 % p * f % p), .int .i64 (x6 % p * f % p), .int .i64 (x7 % p * f % p), .int .i64 (x8 % p * f % p)]), (35, .agg #[.int .i64 x0, .int .i64 x1, .int .i64 x2, .int .i64 x3, .int .i64 x4, .int .i64 x5, .int .i64 x6, .int .i64 x7, .int .i64 x8]), (36, .bool nb), (37, .bool nb), (4, .bool nb)] (by kernel_rfl) (by kernel_rfl) (by kernel_rfl) (fun aE hpe => ?_)
          simp only [puts, Act.put, List.setIfInBounds_toArray, List.set_cons_zero, List.set_cons_succ] at hpe
          subst hpe
          refine ⟨⟨.inr (.inr ?_), .inr (.inr ?_), .inr (.inr ?_), .inr (.inr ?_), .inr (.inr ?_), .inr (.inr ?_), .inr (.inr ?_), .inr (.inr ?_), .inr (.inr ?_), .inr (.inr ?_), .inr (.inr ?_), .inr (.inr ?_), trivial⟩, ?_⟩
          · exact CalmG.mk 27 (.int .i64 p) rfl rfl rfl (fun W hW => calm_move (.tmp 0) rfl rfl)
          · exact CalmG.mk 28 (.agg #[.int .i64 x0, .int .i64 x1, .int .i64 x2, .int .i64 x3, .int .i64 x4, .int .i64 x5, .int .i64 x6, .int .i64 x7, .int .i64 x8]) rfl rfl rfl (fun W hW => calm_load (cs := #[.int .i64 x0, .int .i64 x1, .int .i64 x2, .int .i64 x3, .int .i64 x4, .int .i64 x5, .int .i64 x6, .int .i64 x7, .int .i64 x8]) (g := w.heap.size) (T := 26) (fr := (0, 0)) 26 (.tmp 3) rfl rfl (by rw [hW.block _ (by simp)]; exact hbx) 9 rfl Try.sizeOf26 Try.isAgg26)
          · exact CalmG.mk 29 (.int .i64 dm) rfl rfl rfl (fun W hW => calm_call 162 _ #[.int .i64 p, .agg #[.int .i64 x0, .int .i64 x1, .int .i64 x2, .int .i64 x3, .int .i64 x4, .int .i64 x5, .int .i64 x6, .int .i64 x7, .int .i64 x8]] rfl rfl rfl (by simp [Act.eval]) (Try.call162 _ _) (HDt.out W))
          · exact CalmG.mk 30 (.bool true) rfl rfl rfl (fun W hW => calm_run (by simp [execOp, Act.eval, go_sem, hdz]))
          · exact CalmG.mk 31 (.bool true) rfl rfl rfl (fun W hW => calm_move (.tmp 30) rfl rfl)
          · exact CalmG.mk 32 (.int .i64 p) rfl rfl rfl (fun W hW => calm_move (.tmp 0) rfl rfl)
          · exact CalmG.mk 33 (.agg #[.int .i64 x0, .int .i64 x1, .int .i64 x2, .int .i64 x3, .int .i64 x4, .int .i64 x5, .int .i64 x6, .int .i64 x7, .int .i64 x8]) rfl rfl rfl (fun W hW => calm_load (cs := #[.int .i64 x0, .int .i64 x1, .int .i64 x2, .int .i64 x3, .int .i64 x4, .int .i64 x5, .int .i64 x6, .int .i64 x7, .int .i64 x8]) (g := w.heap.size) (T := 26) (fr := (0, 0)) 26 (.tmp 3) rfl rfl (by rw [hW.block _ (by simp)]; exact hbx) 9 rfl Try.sizeOf26 Try.isAgg26)
          · exact CalmG.mk 34 (.agg #[.int .i64 (x0 % p * f % p), .int .i64 (x1 % p * f % p), .int .i64 (x2 % p * f % p), .int .i64 (x3 % p * f % p), .int .i64 (x4 % p * f % p), .int .i64 (x5 % p * f % p), .int .i64 (x6 % p * f % p), .int .i64 (x7 % p * f % p), .int .i64 (x8 % p * f % p)]) rfl rfl rfl (fun W hW => calm_call 163 _ #[.int .i64 p, .agg #[.int .i64 x0, .int .i64 x1, .int .i64 x2, .int .i64 x3, .int .i64 x4, .int .i64 x5, .int .i64 x6, .int .i64 x7, .int .i64 x8]] rfl rfl rfl (by simp [Act.eval]) (Try.call163 _ _) (HNm.out W))
          · exact CalmG.mk 35 (.agg #[.int .i64 x0, .int .i64 x1, .int .i64 x2, .int .i64 x3, .int .i64 x4, .int .i64 x5, .int .i64 x6, .int .i64 x7, .int .i64 x8]) rfl rfl rfl (fun W hW => calm_load (cs := #[.int .i64 x0, .int .i64 x1, .int .i64 x2, .int .i64 x3, .int .i64 x4, .int .i64 x5, .int .i64 x6, .int .i64 x7, .int .i64 x8]) (g := w.heap.size) (T := 26) (fr := (0, 0)) 26 (.tmp 3) rfl rfl (by rw [hW.block _ (by simp)]; exact hbx) 9 rfl Try.sizeOf26 Try.isAgg26)
          · exact CalmG.mk 36 (.bool nb) rfl rfl rfl (fun W hW => calm_eqMp (.tmp 34) (.tmp 35) rfl rfl rfl HFx)
          · exact CalmG.mk 37 (.bool nb) rfl rfl rfl (fun W hW => calm_pickI (.tmp 31) (.tmp 36) (.const (.bool false)) rfl rfl rfl)
          · exact CalmG.mk 4 (.bool nb) rfl rfl rfl (fun W hW => calm_assign (.tmp 37) rfl rfl)
          intro W2 hW2
          have HB2 := Lib.hid hW2
          go_wp2
          go_ret
          exact ⟨ret_bool (by rw [HLl.out, HM.out]), (by repeat (first | exact Below.refl _ _ | refine bset ?_ _ _ (by omega) _ | refine bal ?_ _ | refine bdrN ?_ _ | refine bdr ?_ | refine below_tr' ?_ HB2.out))⟩
set_option maxRecDepth 10000 in
theorem l03Is_any (p x0 x1 x2 x3 x4 x5 : Int) (w : World) :
    Calls Try.prog 132 #[.int .i64 p, .agg #[.int .i64 x0, .int .i64 x1, .int .i64 x2, .int .i64 x3, .int .i64 x4, .int .i64 x5]] w (Ret w (.bool (prB p && normB p [x0, x1, x2, x3, x4, x5]))) := by
  cases hp : prB p with
  | false =>
    have HP := Lib.hid hp
    clear hp
    generalize normB p [x0, x1, x2, x3, x4, x5] = v
    go_enter Try.func132, Try.ntmps132
    go_wp2_with (go_at_call 68; refine (l01Prime_no _ _ HP.out).mono ?_; rintro e w' ⟨rfl, rfl⟩)
    go_ret
    exact ⟨rfl, (by repeat (first | exact Below.refl _ _ | refine bset ?_ _ _ (by omega) _ | refine bal ?_ _ | refine bdrN ?_ _ | refine bdr ?_))⟩
  | true =>
    have HP := Lib.hid hp
    have hb := prB_bd hp
    have HN := Lib.hid (fun (W : World) (g : Nat) hc => l01Normal_any p g 0 6 6 [x0, x1, x2, x3, x4, x5] W hb.1 hb.2 rfl (by omega) hc)
    clear hp hb
    generalize normB p [x0, x1, x2, x3, x4, x5] = v at *
    go_enter Try.func132, Try.ntmps132
    go_wp2_with (first
        | (go_at_call 68; refine (l01Prime_yes _ _ HP.out).mono ?_; rintro e w' ⟨rfl, rfl⟩)
        | (go_at_call 160; refine (HN.out _ _ (cells6' _ _ _ _ _ _ _ _ _ (by simp))).mono ?_; rintro e w' ⟨rfl, rfl⟩))
    go_ret
    exact ⟨by simp, (by repeat (first | exact Below.refl _ _ | refine bset ?_ _ _ (by omega) _ | refine bal ?_ _ | refine bdrN ?_ _ | refine bdr ?_))⟩
set_option maxRecDepth 10000 in
set_option maxHeartbeats 2000000 in
theorem l11Is_any (p a0 a1 a2 b0 b1 b2 m0 m1 m2 m3 m4 m5 m6 m7 m8 c0 c1 c2 c3 c4 c5 : Int) (w : World) :
    Calls Try.prog 77 #[.agg #[.int .i64 p, .int .i64 a0, .int .i64 a1, .int .i64 a2, .int .i64 b0, .int .i64 b1, .int .i64 b2, .int .i64 m0, .int .i64 m1, .int .i64 m2, .int .i64 m3, .int .i64 m4, .int .i64 m5, .int .i64 m6, .int .i64 m7, .int .i64 m8, .int .i64 c0, .int .i64 c1, .int .i64 c2, .int .i64 c3, .int .i64 c4, .int .i64 c5]] w (Ret w (.bool (deskB p a0 a1 a2 b0 b1 b2 m0 m1 m2 m3 m4 m5 m6 m7 m8 c0 c1 c2 c3 c4 c5))) := by
  have H1 := Lib.hid (fun (W : World) => l01Point_any p a0 a1 a2 W)
  have H2 := Lib.hid (fun (W : World) => l01Line_any p b0 b1 b2 W)
  have H3 := Lib.hid (fun (W : World) => l02Is_any p m0 m1 m2 m3 m4 m5 m6 m7 m8 W)
  have H4 := Lib.hid (fun (W : World) => l03Is_any p c0 c1 c2 c3 c4 c5 W)
  have HE0 : deskB p a0 a1 a2 b0 b1 b2 m0 m1 m2 m3 m4 m5 m6 m7 m8 c0 c1 c2 c3 c4 c5 = (ptB p a0 a1 a2 && (ptB p b0 b1 b2 && (mapB p [m0, m1, m2, m3, m4, m5, m6, m7, m8] (detZ (m0, m1, m2) (m3, m4, m5) (m6, m7, m8)) && (prB p && normB p [c0, c1, c2, c3, c4, c5])))) := rfl
  generalize ptB p a0 a1 a2 = v1 at *
  generalize ptB p b0 b1 b2 = v2 at *
  generalize mapB p [m0, m1, m2, m3, m4, m5, m6, m7, m8] (detZ (m0, m1, m2) (m3, m4, m5) (m6, m7, m8)) = v3 at *
  generalize (prB p && normB p [c0, c1, c2, c3, c4, c5]) = v4 at *
  cases v1 with
  | false =>
    have HE := Lib.hid (show deskB p a0 a1 a2 b0 b1 b2 m0 m1 m2 m3 m4 m5 m6 m7 m8 c0 c1 c2 c3 c4 c5 = false by rw [HE0]; first | rfl | simp)
    clear HE0
    go_enter Try.func77, Try.ntmps77
    go_wp2_with (first
      | (go_at_call 129; (with_reducible refine (H1.out _).mono ?_); rintro e w1_ ⟨rfl, hb1⟩; obtain ⟨hcb1, hfb1, hlb1⟩ := bcell hb1; have hsz1 := hb1.size; (try simp at hsz1); have HB1 := Lib.hid hb1; clear hb1; (try (have hl01 : w.heap.size < w1_.heap.size := by omega))))
    go_ret
    exact ⟨ret_bool HE.out.symm, (by repeat (first | exact Below.refl _ _ | refine bset ?_ _ _ (by omega) _ | refine bal ?_ _ | refine bdrN ?_ _ | refine bdr ?_ | refine below_tr' ?_ HB1.out))⟩
  | true =>
    cases v2 with
    | false =>
      have HE := Lib.hid (show deskB p a0 a1 a2 b0 b1 b2 m0 m1 m2 m3 m4 m5 m6 m7 m8 c0 c1 c2 c3 c4 c5 = false by rw [HE0]; first | rfl | simp)
      clear HE0
      go_enter Try.func77, Try.ntmps77
      go_wp2_with (first
        | (go_at_call 129; (with_reducible refine (H1.out _).mono ?_); rintro e w1_ ⟨rfl, hb1⟩; obtain ⟨hcb1, hfb1, hlb1⟩ := bcell hb1; have hsz1 := hb1.size; (try simp at hsz1); have HB1 := Lib.hid hb1; clear hb1; (try (have hl01 : w.heap.size < w1_.heap.size := by omega)))
        | (go_at_call 130; (with_reducible refine (H2.out _).mono ?_); rintro e w2_ ⟨rfl, hb2⟩; obtain ⟨hcb2, hfb2, hlb2⟩ := bcell hb2; have hsz2 := hb2.size; (try simp at hsz2); have HB2 := Lib.hid hb2; clear hb2; (try (have hl02 : w.heap.size < w2_.heap.size := by omega))))
      go_ret
      exact ⟨ret_bool HE.out.symm, (by repeat (first | exact Below.refl _ _ | refine bset ?_ _ _ (by omega) _ | refine bal ?_ _ | refine bdrN ?_ _ | refine bdr ?_ | refine below_tr' ?_ HB2.out | refine below_tr' ?_ HB1.out))⟩
    | true =>
      cases v3 with
      | false =>
        have HE := Lib.hid (show deskB p a0 a1 a2 b0 b1 b2 m0 m1 m2 m3 m4 m5 m6 m7 m8 c0 c1 c2 c3 c4 c5 = false by rw [HE0]; first | rfl | simp)
        clear HE0
        go_enter Try.func77, Try.ntmps77
        go_wp2_with (first
          | (go_at_call 129; (with_reducible refine (H1.out _).mono ?_); rintro e w1_ ⟨rfl, hb1⟩; obtain ⟨hcb1, hfb1, hlb1⟩ := bcell hb1; have hsz1 := hb1.size; (try simp at hsz1); have HB1 := Lib.hid hb1; clear hb1; (try (have hl01 : w.heap.size < w1_.heap.size := by omega)))
          | (go_at_call 130; (with_reducible refine (H2.out _).mono ?_); rintro e w2_ ⟨rfl, hb2⟩; obtain ⟨hcb2, hfb2, hlb2⟩ := bcell hb2; have hsz2 := hb2.size; (try simp at hsz2); have HB2 := Lib.hid hb2; clear hb2; (try (have hl02 : w.heap.size < w2_.heap.size := by omega)))
          | (go_at_call 131; (with_reducible refine (H3.out _).mono ?_); rintro e w3_ ⟨rfl, hb3⟩; obtain ⟨hcb3, hfb3, hlb3⟩ := bcell hb3; have hsz3 := hb3.size; (try simp at hsz3); have HB3 := Lib.hid hb3; clear hb3; (try (have hl03 : w.heap.size < w3_.heap.size := by omega))))
        go_ret
        exact ⟨ret_bool HE.out.symm, (by repeat (first | exact Below.refl _ _ | refine bset ?_ _ _ (by omega) _ | refine bal ?_ _ | refine bdrN ?_ _ | refine bdr ?_ | refine below_tr' ?_ HB3.out | refine below_tr' ?_ HB2.out | refine below_tr' ?_ HB1.out))⟩
      | true =>
        have HE := Lib.hid (show deskB p a0 a1 a2 b0 b1 b2 m0 m1 m2 m3 m4 m5 m6 m7 m8 c0 c1 c2 c3 c4 c5 = v4 by rw [HE0]; first | rfl | simp)
        clear HE0
        go_enter Try.func77, Try.ntmps77
        go_wp2_with (first
          | (go_at_call 129; (with_reducible refine (H1.out _).mono ?_); rintro e w1_ ⟨rfl, hb1⟩; obtain ⟨hcb1, hfb1, hlb1⟩ := bcell hb1; have hsz1 := hb1.size; (try simp at hsz1); have HB1 := Lib.hid hb1; clear hb1; (try (have hl01 : w.heap.size < w1_.heap.size := by omega)))
          | (go_at_call 130; (with_reducible refine (H2.out _).mono ?_); rintro e w2_ ⟨rfl, hb2⟩; obtain ⟨hcb2, hfb2, hlb2⟩ := bcell hb2; have hsz2 := hb2.size; (try simp at hsz2); have HB2 := Lib.hid hb2; clear hb2; (try (have hl02 : w.heap.size < w2_.heap.size := by omega)))
          | (go_at_call 131; (with_reducible refine (H3.out _).mono ?_); rintro e w3_ ⟨rfl, hb3⟩; obtain ⟨hcb3, hfb3, hlb3⟩ := bcell hb3; have hsz3 := hb3.size; (try simp at hsz3); have HB3 := Lib.hid hb3; clear hb3; (try (have hl03 : w.heap.size < w3_.heap.size := by omega)))
          | (go_at_call 132; (with_reducible refine (H4.out _).mono ?_); rintro e w4_ ⟨rfl, hb4⟩; obtain ⟨hcb4, hfb4, hlb4⟩ := bcell hb4; have hsz4 := hb4.size; (try simp at hsz4); have HB4 := Lib.hid hb4; clear hb4; (try (have hl04 : w.heap.size < w4_.heap.size := by omega))))
        go_ret
        exact ⟨ret_bool HE.out.symm, (by repeat (first | exact Below.refl _ _ | refine bset ?_ _ _ (by omega) _ | refine bal ?_ _ | refine bdrN ?_ _ | refine bdr ?_ | refine below_tr' ?_ HB4.out | refine below_tr' ?_ HB3.out | refine below_tr' ?_ HB2.out | refine below_tr' ?_ HB1.out))⟩
theorem IsDesk_spec (p a0 a1 a2 b0 b1 b2 m0 m1 m2 m3 m4 m5 m6 m7 m8 c0 c1 c2 c3 c4 c5 : Int) (w : World) :
    Calls Try.prog 24 #[.agg #[.int .i64 p, .int .i64 a0, .int .i64 a1, .int .i64 a2, .int .i64 b0, .int .i64 b1, .int .i64 b2, .int .i64 m0, .int .i64 m1, .int .i64 m2, .int .i64 m3, .int .i64 m4, .int .i64 m5, .int .i64 m6, .int .i64 m7, .int .i64 m8, .int .i64 c0, .int .i64 c1, .int .i64 c2, .int .i64 c3, .int .i64 c4, .int .i64 c5]] w (Ret w (.bool (deskB p a0 a1 a2 b0 b1 b2 m0 m1 m2 m3 m4 m5 m6 m7 m8 c0 c1 c2 c3 c4 c5))) := by
  have H1 := Lib.hid (fun (W : World) => l11Is_any p a0 a1 a2 b0 b1 b2 m0 m1 m2 m3 m4 m5 m6 m7 m8 c0 c1 c2 c3 c4 c5 W)
  generalize deskB p a0 a1 a2 b0 b1 b2 m0 m1 m2 m3 m4 m5 m6 m7 m8 c0 c1 c2 c3 c4 c5 = v at *
  go_enter Try.func24, Try.ntmps24
  go_wp2_with (first
    | (refine wpList_load_row _ rfl 30 _ rfl (g := w.heap.size) (T := 30) (cs := #[.int .i64 p, .int .i64 a0, .int .i64 a1, .int .i64 a2, .int .i64 b0, .int .i64 b1, .int .i64 b2, .int .i64 m0, .int .i64 m1, .int .i64 m2, .int .i64 m3, .int .i64 m4, .int .i64 m5, .int .i64 m6, .int .i64 m7, .int .i64 m8, .int .i64 c0, .int .i64 c1, .int .i64 c2, .int .i64 c3, .int .i64 c4, .int .i64 c5]) (fr := (0, 0)) rfl (heap_alloc_new _ _) 22 rfl Try.sizeOf30 Try.isAgg30 ?_)
    | (go_at_call 77; (with_reducible refine (H1.out _).mono ?_); rintro e w1_ ⟨rfl, hb1⟩; obtain ⟨hcb1, hfb1, hlb1⟩ := bcell hb1; have hsz1 := hb1.size; (try simp at hsz1); have HB1 := Lib.hid hb1; clear hb1))
  go_ret
  exact ⟨rfl, (by repeat (first | exact Below.refl _ _ | refine bset ?_ _ _ (by omega) _ | refine bal ?_ _ | refine bdrN ?_ _ | refine bdr ?_ | refine below_tr' ?_ HB1.out))⟩
end Go.Proofs.Ythkbhaaodegocaa
