/- Contracts: whether two lines are parallel: the program. -/
import Derived.Test.YtggkgaeebkbccaaA2
import Derived.Test.YtggkgaeebkbccaaRegG
namespace Go.Proofs.Ytggkgaeebkbccaa
open Go.RowKit
set_option linter.unusedVariables false
set_option linter.unusedSimpArgs false
theorem onB_far (p x y z : Int) : onB p (x % p, y, z) (1, 0, 0) = (x % p == 0) := by
  unfold onB
  simp
theorem nzB_false3 {p x y z : Int} (h : nzB p [x, y, z] = false) : x % p = 0 := by
  unfold nzB zerosB at h
  simp at h
  exact h.1
theorem par_same (p x0 y0 z0 x1 y1 z1 : Int) :
    (!(madeC p (x0, y0, z0) (x1, y1, z1)).2 || (madeC p (x0, y0, z0) (x1, y1, z1)).1.1 == 0) = (eqP (x0, y0, z0) (x1, y1, z1) || onB p (crsN p (x0, y0, z0) (x1, y1, z1)) (1, 0, 0)) := by
  have e1 : onB p (crsN p (x0, y0, z0) (x1, y1, z1)) (1, 0, 0) = ((crsN p (x0, y0, z0) (x1, y1, z1)).1 == 0) := by
    unfold crsN nrm3; exact onB_far _ _ _ _
  rw [e1]
  unfold madeC made
  cases h : nzB p [(crs (x0, y0, z0) (x1, y1, z1)).1, (crs (x0, y0, z0) (x1, y1, z1)).2.1, (crs (x0, y0, z0) (x1, y1, z1)).2.2] with
  | false =>
    have h0 := nzB_false3 h
    have : (crsN p (x0, y0, z0) (x1, y1, z1)).1 = 0 := by unfold crsN nrm3; simp only [h0]; simp
    rw [this]; simp
  | true =>
    cases he : eqP (x0, y0, z0) (x1, y1, z1) with
    | false => rfl
    | true =>
      exfalso
      rw [eqP_iff] at he
      injection he with a b
      injection b with b c
      subst a b c
      simp only [crs, Int.mul_comm, Int.sub_self] at h
      simp [nzB, zerosB, Int.mul_comm] at h
theorem crsN_in {p : Int} {a b : Pt} (hp : prB p = true) : In13 ((crsN p a b).1, (crsN p a b).2.1, (crsN p a b).2.2) := by
  obtain ⟨h1, h2⟩ := prB_bd hp
  have k : ∀ x : Int, 0 ≤ x % p ∧ x % p ≤ 12 := fun x => ⟨Int.emod_nonneg _ (by omega), by have := Int.emod_lt_of_pos x (show 0 < p by omega); omega⟩
  exact ⟨k _, k _, k _⟩
theorem hn_at (w : World) (o : Obj) (n : Nat) (h : n = w.heap.size) : (w.alloc o).heap[n]? = some o := by subst h; exact heap_alloc_new w o
theorem hn_past (w : World) (o : Obj) (n : Nat) (h : n < w.heap.size) : (w.alloc o).heap[n]? = w.heap[n]? := by
  rw [heap_alloc_old]; exact h
theorem eqg24 : Try.prog.eqGuardType Try.prog.depth 24 = false := by kernel_rfl
theorem calm_eqLn {o : Oper} {ρ : Operand → Value} {W : World} {k : TypeId} (x y : Operand) {a0 a1 a2 b0 b1 b2 : Int} {v : Bool} (ho : o.op = .binOp .eql 24 x y k) (hx : ρ x = ptV a0 a1 a2) (hy : ρ y = ptV b0 b1 b2) (hv : eqP (a0, a1, a2) (b0, b1, b2) = v) : calmAt Try.prog o ρ W (.bool v) := by
  refine calm_run ?_
  unfold execOp
  subst hv
  simp only [ho, hx, hy, Sem.run_bind, run_eqGuard_agg W .eql 24 x y _ _ eqg24, Result.andThen_ok, eqLn, Sem.run_pure]
theorem calm_pick {P : Program} {o : Oper} {ρ : Operand → Value} {W : World} (x y z : Operand) {c : Bool} {v : Value} (ho : o.op = .pick x y z) (hx : ρ x = .bool c) (hv : (if c = true then ρ y else ρ z) = v) : calmAt P o ρ W v := by
  refine calm_run ?_
  unfold execOp
  subst hv
  simp only [ho, hx, asBool, Sem.run_bind, Sem.run_pure, Result.andThen_ok]
set_option maxHeartbeats 3200000 in
theorem AreParallel_impl (p x0 y0 z0 x1 y1 z1 : Int) (w : World) :
    Calls Try.prog 27 #[.int .i64 p, ptV x0 y0 z0, ptV x1 y1 z1] w (Ret w (.tuple #[.bool (parR p (x0, y0, z0) (x1, y1, z1)).1, .int .i64 (parR p (x0, y0, z0) (x1, y1, z1)).2])) := by
  have HC := Lib.hid (fun (b : Nat) (W : World) hc => linesCode_any p b 0 2 2 [(x0, y0, z0), (x1, y1, z1)] W rfl (by omega) hc)
  have HF := Lib.hid (fun (W : World) => far_any W)
  by_cases hz : codeOf p (ptsB p [(x0, y0, z0), (x1, y1, z1)]) = 0
  · have HM0 : parR p (x0, y0, z0) (x1, y1, z1) = if farB (x0, y0, z0) = true ∨ farB (x1, y1, z1) = true then (false, 5) else
      (!(madeC p (x0, y0, z0) (x1, y1, z1)).2 || (madeC p (x0, y0, z0) (x1, y1, z1)).1.1 == 0, 0) := by unfold parR; rw [if_neg (by simpa using hz)]
    rw [par_same] at HM0
    unfold farB at HM0
    obtain ⟨hp, hpts⟩ := code_zero hz
    simp only [ptsB, List.all_cons, List.all_nil, Bool.and_true, Bool.and_eq_true] at hpts
    obtain ⟨q0, q1⟩ := hpts
    have HX := Lib.hid (fun (W : World) => meet_any p x0 y0 z0 x1 y1 z1 W hp (in13 q0) (in13 q1))
    have HO : Hid (∀ W : World, Calls Try.prog 50 #[.int .i64 p, ptV (crsN p (x0, y0, z0) (x1, y1, z1)).1 (crsN p (x0, y0, z0) (x1, y1, z1)).2.1 (crsN p (x0, y0, z0) (x1, y1, z1)).2.2, ptV 1 0 0] W (Ret W (.bool (onB p (crsN p (x0, y0, z0) (x1, y1, z1)) (1, 0, 0))))) :=
      Lib.hid (fun W => isOn_any p _ _ _ 1 0 0 W hp (crsN_in hp) ⟨⟨by decide, by decide⟩, ⟨by decide, by decide⟩, by decide, by decide⟩)
    rw [hz] at HC
    clear hz q0 q1 hp
    generalize onB p (crsN p (x0, y0, z0) (x1, y1, z1)) (1, 0, 0) = o at *
    generalize crsN p (x0, y0, z0) (x1, y1, z1) = r at *
    obtain ⟨u0, u1, u2⟩ := r
    cases hf0 : eqP (x0, y0, z0) (1, 0, 0) with
    | true =>
      have HM := Lib.hid (show parR p (x0, y0, z0) (x1, y1, z1) = (false, 5) by rw [HM0, if_pos (by simp [hf0])])
      clear HM0 HX HO
      go_enter Try.func27, Try.ntmps27
      go_wp2_with (go_at_call 56; (with_reducible refine (HC.out _ _ (ptsAt2 _ _ _ _ _ _ _ _ _ (by simp))).mono ?_); rintro e w1_ ⟨rfl, hb1⟩; obtain ⟨hcb1, hfb1, hlb1⟩ := bcell hb1; have hsz1 := hb1.size; (try simp at hsz1); have HB1 := Lib.hid hb1; clear hb1; (try (have hl01 : w.heap.size < w1_.heap.size := by omega)); (try (have hl11 : w.heap.size + 1 < w1_.heap.size := by omega)))
      have hbx0 : w1_.heap[w.heap.size]? = some (.cells #[.int .i64 x0, .int .i64 y0, .int .i64 z0] 24 (0, 0)) := by rw [HB1.out.block _ (by first | (simp; done) | (simp; omega)), hn_past _ _ _ (by first | (simp; done) | (simp; omega)), hn_past _ _ _ (by first | (simp; done) | (simp; omega)), hn_at _ _ _ (by simp)]
      have hbx1 : w1_.heap[w.heap.size + 1]? = some (.cells #[.int .i64 x1, .int .i64 y1, .int .i64 z1] 24 (0, 0)) := by rw [HB1.out.block _ (by first | (simp; done) | (simp; omega)), hn_past _ _ _ (by first | (simp; done) | (simp; omega)), hn_at _ _ _ (by simp)]
      have hlx0 : w.heap.size < w1_.heap.size := (Array.getElem?_eq_some_iff.1 hbx0).1
      have hlx1 : w.heap.size + 1 < w1_.heap.size := (Array.getElem?_eq_some_iff.1 hbx1).1
      refine region_calmG [(17, ptV x0 y0 z0), (18, ptV 1 0 0), (19, .bool true), (20, .bool true), (21, undef), (22, undef), (23, undef), (24, .bool true)] (by kernel_rfl) (by kernel_rfl) (by kernel_rfl) (fun aE hpe => ?_)
      simp only [puts, Act.put, List.setIfInBounds_toArray, List.set_cons_zero, List.set_cons_succ] at hpe
      subst hpe
      refine ⟨⟨.inr (.inr ?_), .inr (.inr ?_), .inr (.inr ?_), .inr (.inr ?_), .inr (.inr ?_), .inr (.inr ?_), .inr (.inr ?_), .inr (.inr ?_), trivial⟩, ?_⟩
      · exact CalmG.mk 17 (ptV x0 y0 z0) rfl rfl rfl (fun W hW => calm_load (cs := #[.int .i64 x0, .int .i64 y0, .int .i64 z0]) (g := w.heap.size) (T := 24) (fr := (0, 0)) 24 (.tmp 4) rfl rfl (by rw [hW.block _ hlx0]; exact hbx0) 3 rfl Try.sizeOf24 Try.isAgg24)
      · exact CalmG.mk 18 (ptV 1 0 0) rfl rfl rfl (fun W hW => calm_call 57 _ #[] rfl rfl rfl (by simp [Act.eval]) (Try.call57 _ _) (HF.out W))
      · exact CalmG.mk 19 (.bool true) rfl rfl rfl (fun W hW => calm_eqLn (.tmp 17) (.tmp 18) rfl rfl rfl hf0)
      · exact CalmG.mk 20 (.bool true) rfl rfl rfl (fun W hW => calm_move (.tmp 19) rfl rfl)
      · exact CalmG.out 21 rfl rfl rfl
      · exact CalmG.out 22 rfl rfl rfl
      · exact CalmG.out 23 rfl rfl rfl
      · exact CalmG.mk 24 (.bool true) rfl rfl rfl (fun W hW => calm_pick (.tmp 20) (.const (.bool true)) (.tmp 23) rfl rfl rfl)
      intro w2_ hW2
      obtain ⟨hcb2, hfb2, hlb2⟩ := bcell hW2
      have hl02 : w.heap.size < w2_.heap.size := hlb2 _ hlx0
      have hl12 : w.heap.size + 1 < w2_.heap.size := hlb2 _ hlx1
      have HB2 := Lib.hid hW2; clear hW2
      go_wp2
      exact bodyPost_ret (v := .tuple #[.bool false, .int .i64 5]) (by simp [results, Try.results27, go_sem]) rfl ⟨by rw [HM.out], (by repeat (first | exact Below.refl _ _ | refine bset ?_ _ _ (by omega) _ | refine bal ?_ _ | refine bdrN ?_ _ | refine bdr ?_ | refine below_tr' ?_ HB2.out | refine below_tr' ?_ HB1.out))⟩
    | false =>
      cases hf1 : eqP (x1, y1, z1) (1, 0, 0) with
      | true =>
        have HM := Lib.hid (show parR p (x0, y0, z0) (x1, y1, z1) = (false, 5) by rw [HM0, if_pos (by simp [hf1])])
        clear HM0 HX HO
        go_enter Try.func27, Try.ntmps27
        go_wp2_with (go_at_call 56; (with_reducible refine (HC.out _ _ (ptsAt2 _ _ _ _ _ _ _ _ _ (by simp))).mono ?_); rintro e w1_ ⟨rfl, hb1⟩; obtain ⟨hcb1, hfb1, hlb1⟩ := bcell hb1; have hsz1 := hb1.size; (try simp at hsz1); have HB1 := Lib.hid hb1; clear hb1; (try (have hl01 : w.heap.size < w1_.heap.size := by omega)); (try (have hl11 : w.heap.size + 1 < w1_.heap.size := by omega)))
        have hbx0 : w1_.heap[w.heap.size]? = some (.cells #[.int .i64 x0, .int .i64 y0, .int .i64 z0] 24 (0, 0)) := by rw [HB1.out.block _ (by first | (simp; done) | (simp; omega)), hn_past _ _ _ (by first | (simp; done) | (simp; omega)), hn_past _ _ _ (by first | (simp; done) | (simp; omega)), hn_at _ _ _ (by simp)]
        have hbx1 : w1_.heap[w.heap.size + 1]? = some (.cells #[.int .i64 x1, .int .i64 y1, .int .i64 z1] 24 (0, 0)) := by rw [HB1.out.block _ (by first | (simp; done) | (simp; omega)), hn_past _ _ _ (by first | (simp; done) | (simp; omega)), hn_at _ _ _ (by simp)]
        have hlx0 : w.heap.size < w1_.heap.size := (Array.getElem?_eq_some_iff.1 hbx0).1
        have hlx1 : w.heap.size + 1 < w1_.heap.size := (Array.getElem?_eq_some_iff.1 hbx1).1
        refine region_calmG [(17, ptV x0 y0 z0), (18, ptV 1 0 0), (19, .bool false), (20, .bool false), (21, ptV x1 y1 z1), (22, ptV 1 0 0), (23, .bool true), (24, .bool true)] (by kernel_rfl) (by kernel_rfl) (by kernel_rfl) (fun aE hpe => ?_)
        simp only [puts, Act.put, List.setIfInBounds_toArray, List.set_cons_zero, List.set_cons_succ] at hpe
        subst hpe
        refine ⟨⟨.inr (.inr ?_), .inr (.inr ?_), .inr (.inr ?_), .inr (.inr ?_), .inr (.inr ?_), .inr (.inr ?_), .inr (.inr ?_), .inr (.inr ?_), trivial⟩, ?_⟩
        · exact CalmG.mk 17 (ptV x0 y0 z0) rfl rfl rfl (fun W hW => calm_load (cs := #[.int .i64 x0, .int .i64 y0, .int .i64 z0]) (g := w.heap.size) (T := 24) (fr := (0, 0)) 24 (.tmp 4) rfl rfl (by rw [hW.block _ hlx0]; exact hbx0) 3 rfl Try.sizeOf24 Try.isAgg24)
        · exact CalmG.mk 18 (ptV 1 0 0) rfl rfl rfl (fun W hW => calm_call 57 _ #[] rfl rfl rfl (by simp [Act.eval]) (Try.call57 _ _) (HF.out W))
        · exact CalmG.mk 19 (.bool false) rfl rfl rfl (fun W hW => calm_eqLn (.tmp 17) (.tmp 18) rfl rfl rfl hf0)
        · exact CalmG.mk 20 (.bool false) rfl rfl rfl (fun W hW => calm_move (.tmp 19) rfl rfl)
        · exact CalmG.mk 21 (ptV x1 y1 z1) rfl rfl rfl (fun W hW => calm_load (cs := #[.int .i64 x1, .int .i64 y1, .int .i64 z1]) (g := w.heap.size + 1) (T := 24) (fr := (0, 0)) 24 (.tmp 5) rfl rfl (by rw [hW.block _ hlx1]; exact hbx1) 3 rfl Try.sizeOf24 Try.isAgg24)
        · exact CalmG.mk 22 (ptV 1 0 0) rfl rfl rfl (fun W hW => calm_call 57 _ #[] rfl rfl rfl (by simp [Act.eval]) (Try.call57 _ _) (HF.out W))
        · exact CalmG.mk 23 (.bool true) rfl rfl rfl (fun W hW => calm_eqLn (.tmp 21) (.tmp 22) rfl rfl rfl hf1)
        · exact CalmG.mk 24 (.bool true) rfl rfl rfl (fun W hW => calm_pick (.tmp 20) (.const (.bool true)) (.tmp 23) rfl rfl rfl)
        intro w2_ hW2
        obtain ⟨hcb2, hfb2, hlb2⟩ := bcell hW2
        have hl02 : w.heap.size < w2_.heap.size := hlb2 _ hlx0
        have hl12 : w.heap.size + 1 < w2_.heap.size := hlb2 _ hlx1
        have HB2 := Lib.hid hW2; clear hW2
        go_wp2
        exact bodyPost_ret (v := .tuple #[.bool false, .int .i64 5]) (by simp [results, Try.results27, go_sem]) rfl ⟨by rw [HM.out], (by repeat (first | exact Below.refl _ _ | refine bset ?_ _ _ (by omega) _ | refine bal ?_ _ | refine bdrN ?_ _ | refine bdr ?_ | refine below_tr' ?_ HB2.out | refine below_tr' ?_ HB1.out))⟩
      | false =>
        have HM1 : parR p (x0, y0, z0) (x1, y1, z1) = (eqP (x0, y0, z0) (x1, y1, z1) || o, 0) := by rw [HM0, if_neg (by simp [hf0, hf1])]
        clear HM0
        cases he : eqP (x0, y0, z0) (x1, y1, z1) with
        | true =>
          have HM := Lib.hid (show parR p (x0, y0, z0) (x1, y1, z1) = (true, 0) by rw [HM1, he]; rfl)
          clear HM1 HX HO
          go_enter Try.func27, Try.ntmps27
          go_wp2_with (go_at_call 56; (with_reducible refine (HC.out _ _ (ptsAt2 _ _ _ _ _ _ _ _ _ (by simp))).mono ?_); rintro e w1_ ⟨rfl, hb1⟩; obtain ⟨hcb1, hfb1, hlb1⟩ := bcell hb1; have hsz1 := hb1.size; (try simp at hsz1); have HB1 := Lib.hid hb1; clear hb1; (try (have hl01 : w.heap.size < w1_.heap.size := by omega)); (try (have hl11 : w.heap.size + 1 < w1_.heap.size := by omega)))
          have hbx0 : w1_.heap[w.heap.size]? = some (.cells #[.int .i64 x0, .int .i64 y0, .int .i64 z0] 24 (0, 0)) := by rw [HB1.out.block _ (by first | (simp; done) | (simp; omega)), hn_past _ _ _ (by first | (simp; done) | (simp; omega)), hn_past _ _ _ (by first | (simp; done) | (simp; omega)), hn_at _ _ _ (by simp)]
          have hbx1 : w1_.heap[w.heap.size + 1]? = some (.cells #[.int .i64 x1, .int .i64 y1, .int .i64 z1] 24 (0, 0)) := by rw [HB1.out.block _ (by first | (simp; done) | (simp; omega)), hn_past _ _ _ (by first | (simp; done) | (simp; omega)), hn_at _ _ _ (by simp)]
          have hlx0 : w.heap.size < w1_.heap.size := (Array.getElem?_eq_some_iff.1 hbx0).1
          have hlx1 : w.heap.size + 1 < w1_.heap.size := (Array.getElem?_eq_some_iff.1 hbx1).1
          refine region_calmG [(17, ptV x0 y0 z0), (18, ptV 1 0 0), (19, .bool false), (20, .bool false), (21, ptV x1 y1 z1), (22, ptV 1 0 0), (23, .bool false), (24, .bool false)] (by kernel_rfl) (by kernel_rfl) (by kernel_rfl) (fun aE hpe => ?_)
          simp only [puts, Act.put, List.setIfInBounds_toArray, List.set_cons_zero, List.set_cons_succ] at hpe
          subst hpe
          refine ⟨⟨.inr (.inr ?_), .inr (.inr ?_), .inr (.inr ?_), .inr (.inr ?_), .inr (.inr ?_), .inr (.inr ?_), .inr (.inr ?_), .inr (.inr ?_), trivial⟩, ?_⟩
          · exact CalmG.mk 17 (ptV x0 y0 z0) rfl rfl rfl (fun W hW => calm_load (cs := #[.int .i64 x0, .int .i64 y0, .int .i64 z0]) (g := w.heap.size) (T := 24) (fr := (0, 0)) 24 (.tmp 4) rfl rfl (by rw [hW.block _ hlx0]; exact hbx0) 3 rfl Try.sizeOf24 Try.isAgg24)
          · exact CalmG.mk 18 (ptV 1 0 0) rfl rfl rfl (fun W hW => calm_call 57 _ #[] rfl rfl rfl (by simp [Act.eval]) (Try.call57 _ _) (HF.out W))
          · exact CalmG.mk 19 (.bool false) rfl rfl rfl (fun W hW => calm_eqLn (.tmp 17) (.tmp 18) rfl rfl rfl hf0)
          · exact CalmG.mk 20 (.bool false) rfl rfl rfl (fun W hW => calm_move (.tmp 19) rfl rfl)
          · exact CalmG.mk 21 (ptV x1 y1 z1) rfl rfl rfl (fun W hW => calm_load (cs := #[.int .i64 x1, .int .i64 y1, .int .i64 z1]) (g := w.heap.size + 1) (T := 24) (fr := (0, 0)) 24 (.tmp 5) rfl rfl (by rw [hW.block _ hlx1]; exact hbx1) 3 rfl Try.sizeOf24 Try.isAgg24)
          · exact CalmG.mk 22 (ptV 1 0 0) rfl rfl rfl (fun W hW => calm_call 57 _ #[] rfl rfl rfl (by simp [Act.eval]) (Try.call57 _ _) (HF.out W))
          · exact CalmG.mk 23 (.bool false) rfl rfl rfl (fun W hW => calm_eqLn (.tmp 21) (.tmp 22) rfl rfl rfl hf1)
          · exact CalmG.mk 24 (.bool false) rfl rfl rfl (fun W hW => calm_pick (.tmp 20) (.const (.bool true)) (.tmp 23) rfl rfl rfl)
          intro w2_ hW2
          obtain ⟨hcb2, hfb2, hlb2⟩ := bcell hW2
          have hl02 : w.heap.size < w2_.heap.size := hlb2 _ hlx0
          have hl12 : w.heap.size + 1 < w2_.heap.size := hlb2 _ hlx1
          have HB2 := Lib.hid hW2; clear hW2
          go_wp2
          exact bodyPost_ret (v := .tuple #[.bool true, .int .i64 0]) (by simp [results, Try.results27, go_sem]) rfl ⟨by rw [HM.out], (by repeat (first | exact Below.refl _ _ | refine bset ?_ _ _ (by omega) _ | refine bal ?_ _ | refine bdrN ?_ _ | refine bdr ?_ | refine below_tr' ?_ HB2.out | refine below_tr' ?_ HB1.out))⟩
        | false =>
          have HM := Lib.hid (show parR p (x0, y0, z0) (x1, y1, z1) = (o, 0) by rw [HM1, he]; rfl)
          clear HM1
          go_enter Try.func27, Try.ntmps27
          go_wp2_with (go_at_call 56; (with_reducible refine (HC.out _ _ (ptsAt2 _ _ _ _ _ _ _ _ _ (by simp))).mono ?_); rintro e w1_ ⟨rfl, hb1⟩; obtain ⟨hcb1, hfb1, hlb1⟩ := bcell hb1; have hsz1 := hb1.size; (try simp at hsz1); have HB1 := Lib.hid hb1; clear hb1; (try (have hl01 : w.heap.size < w1_.heap.size := by omega)); (try (have hl11 : w.heap.size + 1 < w1_.heap.size := by omega)))
          have hbx0 : w1_.heap[w.heap.size]? = some (.cells #[.int .i64 x0, .int .i64 y0, .int .i64 z0] 24 (0, 0)) := by rw [HB1.out.block _ (by first | (simp; done) | (simp; omega)), hn_past _ _ _ (by first | (simp; done) | (simp; omega)), hn_past _ _ _ (by first | (simp; done) | (simp; omega)), hn_at _ _ _ (by simp)]
          have hbx1 : w1_.heap[w.heap.size + 1]? = some (.cells #[.int .i64 x1, .int .i64 y1, .int .i64 z1] 24 (0, 0)) := by rw [HB1.out.block _ (by first | (simp; done) | (simp; omega)), hn_past _ _ _ (by first | (simp; done) | (simp; omega)), hn_at _ _ _ (by simp)]
          have hlx0 : w.heap.size < w1_.heap.size := (Array.getElem?_eq_some_iff.1 hbx0).1
          have hlx1 : w.heap.size + 1 < w1_.heap.size := (Array.getElem?_eq_some_iff.1 hbx1).1
          refine region_calmG [(17, ptV x0 y0 z0), (18, ptV 1 0 0), (19, .bool false), (20, .bool false), (21, ptV x1 y1 z1), (22, ptV 1 0 0), (23, .bool false), (24, .bool false)] (by kernel_rfl) (by kernel_rfl) (by kernel_rfl) (fun aE hpe => ?_)
          simp only [puts, Act.put, List.setIfInBounds_toArray, List.set_cons_zero, List.set_cons_succ] at hpe
          subst hpe
          refine ⟨⟨.inr (.inr ?_), .inr (.inr ?_), .inr (.inr ?_), .inr (.inr ?_), .inr (.inr ?_), .inr (.inr ?_), .inr (.inr ?_), .inr (.inr ?_), trivial⟩, ?_⟩
          · exact CalmG.mk 17 (ptV x0 y0 z0) rfl rfl rfl (fun W hW => calm_load (cs := #[.int .i64 x0, .int .i64 y0, .int .i64 z0]) (g := w.heap.size) (T := 24) (fr := (0, 0)) 24 (.tmp 4) rfl rfl (by rw [hW.block _ hlx0]; exact hbx0) 3 rfl Try.sizeOf24 Try.isAgg24)
          · exact CalmG.mk 18 (ptV 1 0 0) rfl rfl rfl (fun W hW => calm_call 57 _ #[] rfl rfl rfl (by simp [Act.eval]) (Try.call57 _ _) (HF.out W))
          · exact CalmG.mk 19 (.bool false) rfl rfl rfl (fun W hW => calm_eqLn (.tmp 17) (.tmp 18) rfl rfl rfl hf0)
          · exact CalmG.mk 20 (.bool false) rfl rfl rfl (fun W hW => calm_move (.tmp 19) rfl rfl)
          · exact CalmG.mk 21 (ptV x1 y1 z1) rfl rfl rfl (fun W hW => calm_load (cs := #[.int .i64 x1, .int .i64 y1, .int .i64 z1]) (g := w.heap.size + 1) (T := 24) (fr := (0, 0)) 24 (.tmp 5) rfl rfl (by rw [hW.block _ hlx1]; exact hbx1) 3 rfl Try.sizeOf24 Try.isAgg24)
          · exact CalmG.mk 22 (ptV 1 0 0) rfl rfl rfl (fun W hW => calm_call 57 _ #[] rfl rfl rfl (by simp [Act.eval]) (Try.call57 _ _) (HF.out W))
          · exact CalmG.mk 23 (.bool false) rfl rfl rfl (fun W hW => calm_eqLn (.tmp 21) (.tmp 22) rfl rfl rfl hf1)
          · exact CalmG.mk 24 (.bool false) rfl rfl rfl (fun W hW => calm_pick (.tmp 20) (.const (.bool true)) (.tmp 23) rfl rfl rfl)
          intro w2_ hW2
          obtain ⟨hcb2, hfb2, hlb2⟩ := bcell hW2
          have hl02 : w.heap.size < w2_.heap.size := hlb2 _ hlx0
          have hl12 : w.heap.size + 1 < w2_.heap.size := hlb2 _ hlx1
          have HB2 := Lib.hid hW2; clear hW2
          go_wp2_with (first
            | (go_at_call 57; (with_reducible refine (HF.out _).mono ?_); rintro e w4_ ⟨rfl, hb4⟩; obtain ⟨hcb4, hfb4, hlb4⟩ := bcell hb4; have hsz4 := hb4.size; (try simp at hsz4); have HB4 := Lib.hid hb4; clear hb4)
            | (go_at_call 58; (with_reducible refine (HX.out _).mono ?_); rintro e w3_ ⟨rfl, hb3⟩; obtain ⟨hcb3, hfb3, hlb3⟩ := bcell hb3; have hsz3 := hb3.size; (try simp at hsz3); have HB3 := Lib.hid hb3; clear hb3; (try (have hl03 : w.heap.size < w3_.heap.size := by omega)); (try (have hl13 : w.heap.size + 1 < w3_.heap.size := by omega)))
            | (go_at_call 50; (with_reducible refine (HO.out _).mono ?_); rintro e w5_ ⟨rfl, hb5⟩; obtain ⟨hcb5, hfb5, hlb5⟩ := bcell hb5; have hsz5 := hb5.size; (try simp at hsz5); have HB5 := Lib.hid hb5; clear hb5))
          exact bodyPost_ret (v := .tuple #[.bool o, .int .i64 0]) (by simp [results, Try.results27, go_sem]) rfl ⟨by rw [HM.out], (by repeat (first | exact Below.refl _ _ | refine bset ?_ _ _ (by omega) _ | refine bal ?_ _ | refine bdrN ?_ _ | refine bdr ?_ | refine below_tr' ?_ HB5.out | refine below_tr' ?_ HB4.out | refine below_tr' ?_ HB3.out | refine below_tr' ?_ HB2.out | refine below_tr' ?_ HB1.out))⟩
  · have HM : Hid (parR p (x0, y0, z0) (x1, y1, z1) = (false, codeOf p (ptsB p [(x0, y0, z0), (x1, y1, z1)]))) := Lib.hid (by unfold parR; rw [if_pos hz])
    have hz' := codeOf_ne hz
    generalize codeOf p (ptsB p [(x0, y0, z0), (x1, y1, z1)]) = c at *
    clear hz
    go_enter Try.func27, Try.ntmps27
    go_wp2_with (go_at_call 56; (with_reducible refine (HC.out _ _ (ptsAt2 _ _ _ _ _ _ _ _ _ (by simp))).mono ?_); rintro e w1_ ⟨rfl, hb1⟩; obtain ⟨hcb1, hfb1, hlb1⟩ := bcell hb1; have hsz1 := hb1.size; (try simp at hsz1); have HB1 := Lib.hid hb1; clear hb1; (try (have hl01 : w.heap.size < w1_.heap.size := by omega)); (try (have hl11 : w.heap.size + 1 < w1_.heap.size := by omega)))
    exact bodyPost_ret (v := .tuple #[.bool false, .int .i64 c]) (by simp [results, Try.results27, go_sem]) rfl ⟨by rw [HM.out], (by repeat (first | exact Below.refl _ _ | refine bset ?_ _ _ (by omega) _ | refine bal ?_ _ | refine bdrN ?_ _ | refine bdr ?_ | refine below_tr' ?_ HB1.out))⟩
end Go.Proofs.Ytggkgaeebkbccaa
