/- Contracts: the parallel through a point: the program. (Printed by genthr.py, a program of this session.) -/
import Derived.Test.YtnlmeelcghiimaaB2
namespace Go.Proofs.Ytnlmeelcghiimaa
open Go.RowKit
set_option linter.unusedVariables false
set_option linter.unusedSimpArgs false
theorem hn_at (w : World) (o : Obj) (n : Nat) (h : n = w.heap.size) : (w.alloc o).heap[n]? = some o := by subst h; exact heap_alloc_new w o
theorem hn_past (w : World) (o : Obj) (n : Nat) (h : n < w.heap.size) : (w.alloc o).heap[n]? = w.heap[n]? := by
  rw [heap_alloc_old]; exact h
theorem eqg24 : Try.prog.eqGuardType Try.prog.depth 23 = false := by kernel_rfl
theorem calm_eqLn {o : Oper} {ρ : Operand → Value} {W : World} {k : TypeId} (x y : Operand) {a0 a1 a2 b0 b1 b2 : Int} {v : Bool} (ho : o.op = .binOp .eql 23 x y k) (hx : ρ x = ptV a0 a1 a2) (hy : ρ y = ptV b0 b1 b2) (hv : eqP (a0, a1, a2) (b0, b1, b2) = v) : calmAt Try.prog o ρ W (.bool v) := by
  refine calm_run ?_
  unfold execOp
  subst hv
  simp only [ho, hx, hy, Sem.run_bind, run_eqGuard_agg W .eql 23 x y _ _ eqg24, Result.andThen_ok, eqLn, Sem.run_pure]
theorem calm_pick {P : Program} {o : Oper} {ρ : Operand → Value} {W : World} (x y z : Operand) {c : Bool} {v : Value} (ho : o.op = .pick x y z) (hx : ρ x = .bool c) (hv : (if c = true then ρ y else ρ z) = v) : calmAt P o ρ W v := by
  refine calm_run ?_
  unfold execOp
  subst hv
  simp only [ho, hx, asBool, Sem.run_bind, Sem.run_pure, Result.andThen_ok]
theorem low_tr {b B : Nat} {w W W' : World} (h : Below b w W) (k : Below B W W') (hb : b ≤ B) : Below b w W' :=
  ⟨k.os.trans h.os, k.tape.trans h.tape, k.output.trans h.output, Nat.le_trans h.size k.size, fun n hn => (k.block n (Nat.lt_of_lt_of_le hn hb)).trans (h.block n hn)⟩
set_option maxHeartbeats 3200000 in
theorem ParallelThrough_impl (p x0 y0 z0 x1 y1 z1 : Int) (w : World) :
    Calls Try.prog 15 #[.int .i64 p, ptV x0 y0 z0, ptV x1 y1 z1] w (Ret w (.tuple #[ptV (thrR p (x0, y0, z0) (x1, y1, z1)).1.1 (thrR p (x0, y0, z0) (x1, y1, z1)).1.2.1 (thrR p (x0, y0, z0) (x1, y1, z1)).1.2.2, .int .i64 (thrR p (x0, y0, z0) (x1, y1, z1)).2])) := by
  have HL := Lib.hid (fun (b : Nat) (W : World) hc => areLines_any p b 0 1 1 [(x0, y0, z0)] W rfl (by omega) hc)
  have HA := Lib.hid (fun (b : Nat) (W : World) hc => arePoints_any p b 0 1 1 [(x1, y1, z1)] W rfl (by omega) hc)
  have HF := Lib.hid (fun (W : World) => far_any W)
  have HM0 : thrR p (x0, y0, z0) (x1, y1, z1) = if codeOf p (ptsB p [(x0, y0, z0), (x1, y1, z1)]) ≠ 0 then ((0, 0, 0), codeOf p (ptsB p [(x0, y0, z0), (x1, y1, z1)])) else if farB (x0, y0, z0) = true ∨ x1 = 0 then ((0, 0, 0), 5) else
      (crsN p (x1, y1, z1) (crsN p (x0, y0, z0) (1, 0, 0)), 0) := rfl
  have HS : ptsB p [(x0, y0, z0), (x1, y1, z1)] = (ptsB p [(x0, y0, z0)] && ptsB p [(x1, y1, z1)]) := by simp [ptsB]
  rw [HS] at HM0
  clear HS
  cases hp : prB p with
  | false =>
    have HP := Lib.hid hp
    have HM := Lib.hid (show thrR p (x0, y0, z0) (x1, y1, z1) = ((0, 0, 0), 2) by rw [HM0]; simp [codeOf, hp])
    clear HM0 hp HL HA
    go_enter Try.func15, Try.ntmps15
    go_wp2_with (go_at_call 51; refine (planeCode_no _ _ _ HP.out).mono ?_; rintro e w' ⟨rfl, rfl⟩)
    exact bodyPost_ret (v := .tuple #[ptV 0 0 0, .int .i64 2]) (by simp [results, Try.results15, go_sem]) rfl ⟨by rw [HM.out], (by repeat (first | exact Below.refl _ _ | refine bset ?_ _ _ (by omega) _ | refine bal ?_ _ | refine bdrN ?_ _ | refine bdr ?_))⟩
  | true =>
    have HP := Lib.hid hp
    cases hq0 : ptsB p [(x0, y0, z0)] with
    | false =>
      have HM := Lib.hid (show thrR p (x0, y0, z0) (x1, y1, z1) = ((0, 0, 0), 1) by rw [HM0]; simp [codeOf, hp, hq0])
      rw [hq0] at HL
      clear HM0 hp HA hq0
      go_enter Try.func15, Try.ntmps15
      go_wp2_with (first
        | (go_at_call 60; refine (isPrime_yes _ _ HP.out).mono ?_; rintro e w' ⟨rfl, rfl⟩)
        | (go_at_call 51; go_in)
        | (go_at_call 52; go_in)
        | (go_at_call 53; (with_reducible refine (HL.out _ _ (at1 _ _ _ _ _ _ (by simp))).mono ?_); rintro e w1_ ⟨rfl, hb1⟩; obtain ⟨hcb1, hfb1, hlb1⟩ := bcell hb1; have hsz1 := hb1.size; (try simp at hsz1); have HB1 := Lib.hid hb1; clear hb1; (try (have hl01 : w.heap.size < w1_.heap.size := by omega)); (try (have hl11 : w.heap.size + 1 < w1_.heap.size := by omega)); (try (have hl21 : w.heap.size + 1 + 1 < w1_.heap.size := by omega)); (try (have hl31 : w.heap.size + 1 + 1 + 1 < w1_.heap.size := by omega))))
      exact bodyPost_ret (v := .tuple #[ptV 0 0 0, .int .i64 1]) (by simp [results, Try.results15, go_sem, hcb1, hl01, hl11, hl21, hl31]) rfl ⟨by rw [HM.out], (by repeat (first | exact Below.refl _ _ | refine bset ?_ _ _ (by omega) _ | refine bal ?_ _ | refine bdrN ?_ _ | refine bdr ?_ | refine below_tr' ?_ HB1.out))⟩
    | true =>
      rw [hq0] at HL
      cases hq1 : ptsB p [(x1, y1, z1)] with
      | false =>
        have HM := Lib.hid (show thrR p (x0, y0, z0) (x1, y1, z1) = ((0, 0, 0), 1) by rw [HM0]; simp [codeOf, hp, hq0, hq1])
        rw [hq1] at HA
        clear HM0 hp hq0 hq1
        go_enter Try.func15, Try.ntmps15
        go_wp2_with (first
          | (go_at_call 60; refine (isPrime_yes _ _ HP.out).mono ?_; rintro e w' ⟨rfl, rfl⟩)
          | (go_at_call 51; go_in)
          | (go_at_call 52; go_in)
          | (go_at_call 53; (with_reducible refine (HL.out _ _ (at1 _ _ _ _ _ _ (by simp))).mono ?_); rintro e w1_ ⟨rfl, hb1⟩; obtain ⟨hcb1, hfb1, hlb1⟩ := bcell hb1; have hsz1 := hb1.size; (try simp at hsz1); have HB1 := Lib.hid hb1; clear hb1; (try (have hl01 : w.heap.size < w1_.heap.size := by omega)); (try (have hl11 : w.heap.size + 1 < w1_.heap.size := by omega)); (try (have hl21 : w.heap.size + 1 + 1 < w1_.heap.size := by omega)); (try (have hl31 : w.heap.size + 1 + 1 + 1 < w1_.heap.size := by omega)))
          | (go_at_call 54; (with_reducible refine (HA.out _ _ (at1 _ _ _ _ _ _ (by simp))).mono ?_); rintro e w2_ ⟨rfl, hb2⟩; obtain ⟨hcb2, hfb2, hlb2⟩ := bcell hb2; have hsz2 := hb2.size; (try simp at hsz2); have HB2 := Lib.hid hb2; clear hb2; (try (have hl02 : w.heap.size < w2_.heap.size := by omega)); (try (have hl12 : w.heap.size + 1 < w2_.heap.size := by omega)); (try (have hl22 : w.heap.size + 1 + 1 < w2_.heap.size := by omega)); (try (have hl32 : w.heap.size + 1 + 1 + 1 < w2_.heap.size := by omega))))
        exact bodyPost_ret (v := .tuple #[ptV 0 0 0, .int .i64 1]) (by simp [results, Try.results15, go_sem, hcb1, hl01, hl11, hl21, hl31, hcb2, hl02, hl12, hl22, hl32]) rfl ⟨by rw [HM.out], (by repeat (first | exact Below.refl _ _ | refine bset ?_ _ _ (by omega) _ | refine bal ?_ _ | refine bdrN ?_ _ | refine bdr ?_ | refine below_tr' ?_ HB2.out | refine below_tr' ?_ HB1.out))⟩
      | true =>
        rw [hq1] at HA
        have HM1 : thrR p (x0, y0, z0) (x1, y1, z1) = if farB (x0, y0, z0) = true ∨ x1 = 0 then ((0, 0, 0), 5) else
          (crsN p (x1, y1, z1) (crsN p (x0, y0, z0) (1, 0, 0)), 0) := by rw [HM0, hq0, hq1]; simp [codeOf, hp]
        clear HM0
        have q0 : ptB p x0 y0 z0 = true := by simpa [ptsB] using hq0
        have q1 : ptB p x1 y1 z1 = true := by simpa [ptsB] using hq1
        have HX := Lib.hid (fun (W : World) => meet_any p x0 y0 z0 1 0 0 W hp (in13' q0) in13_far)
        have HJ := Lib.hid (fun (W : World) => join_any p x1 y1 z1 _ _ _ W hp (in13' q1) (crsN_in' (a := (x0, y0, z0)) (b := (1, 0, 0)) hp))
        have hx1 : x1 = 0 ∨ x1 = 1 := by obtain ⟨_, _, _, _, h⟩ := pt_facts q1; omega
        clear hp hq0 hq1 q0 q1
        generalize crsN p (x0, y0, z0) (1, 0, 0) = r at *
        obtain ⟨v0, v1, v2⟩ := r
        simp only at HX HJ
        generalize crsN p (x1, y1, z1) (v0, v1, v2) = r at *
        obtain ⟨u0, u1, u2⟩ := r
        unfold farB at HM1
        cases hf0 : eqP (x0, y0, z0) (1, 0, 0) with
        | true =>
          have HM := Lib.hid (show thrR p (x0, y0, z0) (x1, y1, z1) = ((0, 0, 0), 5) by rw [HM1, if_pos (by simp [hf0])])
          clear HM1 HX HJ
          go_enter Try.func15, Try.ntmps15
          go_wp2_with (first
            | (go_at_call 60; refine (isPrime_yes _ _ HP.out).mono ?_; rintro e w' ⟨rfl, rfl⟩)
            | (go_at_call 51; go_in)
            | (go_at_call 52; go_in)
            | (go_at_call 53; (with_reducible refine (HL.out _ _ (at1 _ _ _ _ _ _ (by simp))).mono ?_); rintro e w1_ ⟨rfl, hb1⟩; obtain ⟨hcb1, hfb1, hlb1⟩ := bcell hb1; have hsz1 := hb1.size; (try simp at hsz1); have HB1 := Lib.hid hb1; clear hb1; (try (have hl01 : w.heap.size < w1_.heap.size := by omega)); (try (have hl11 : w.heap.size + 1 < w1_.heap.size := by omega)); (try (have hl21 : w.heap.size + 1 + 1 < w1_.heap.size := by omega)); (try (have hl31 : w.heap.size + 1 + 1 + 1 < w1_.heap.size := by omega)))
            | (go_at_call 54; (with_reducible refine (HA.out _ _ (at1 _ _ _ _ _ _ (by simp))).mono ?_); rintro e w2_ ⟨rfl, hb2⟩; obtain ⟨hcb2, hfb2, hlb2⟩ := bcell hb2; have hsz2 := hb2.size; (try simp at hsz2); have HB2 := Lib.hid hb2; clear hb2; (try (have hl02 : w.heap.size < w2_.heap.size := by omega)); (try (have hl12 : w.heap.size + 1 < w2_.heap.size := by omega)); (try (have hl22 : w.heap.size + 1 + 1 < w2_.heap.size := by omega)); (try (have hl32 : w.heap.size + 1 + 1 + 1 < w2_.heap.size := by omega))))
          have b0 : w2_.heap[w.heap.size]? = some (.cells #[.int .i64 p] 2 (0, 0)) := by rw [HB2.out.block _ (by first | omega | (simp; done) | (simp; omega)), hn_past _ _ _ (by first | omega | (simp; done) | (simp; omega)), HB1.out.block _ (by first | omega | (simp; done) | (simp; omega)), hn_past _ _ _ (by first | omega | (simp; done) | (simp; omega)), hn_past _ _ _ (by first | omega | (simp; done) | (simp; omega)), hn_past _ _ _ (by first | omega | (simp; done) | (simp; omega)), hn_past _ _ _ (by first | omega | (simp; done) | (simp; omega)), hn_at _ _ _ (by simp)]
          have lb0 : w.heap.size < w2_.heap.size := (Array.getElem?_eq_some_iff.1 b0).1
          have b1 : w2_.heap[w.heap.size + 1]? = some (.cells #[.int .i64 x0, .int .i64 y0, .int .i64 z0] 23 (0, 0)) := by rw [HB2.out.block _ (by first | omega | (simp; done) | (simp; omega)), hn_past _ _ _ (by first | omega | (simp; done) | (simp; omega)), HB1.out.block _ (by first | omega | (simp; done) | (simp; omega)), hn_past _ _ _ (by first | omega | (simp; done) | (simp; omega)), hn_past _ _ _ (by first | omega | (simp; done) | (simp; omega)), hn_past _ _ _ (by first | omega | (simp; done) | (simp; omega)), hn_at _ _ _ (by simp)]
          have lb1 : w.heap.size + 1 < w2_.heap.size := (Array.getElem?_eq_some_iff.1 b1).1
          have b2 : w2_.heap[w.heap.size + 1 + 1]? = some (.cells #[.int .i64 x1, .int .i64 y1, .int .i64 z1] 27 (0, 0)) := by rw [HB2.out.block _ (by first | omega | (simp; done) | (simp; omega)), hn_past _ _ _ (by first | omega | (simp; done) | (simp; omega)), HB1.out.block _ (by first | omega | (simp; done) | (simp; omega)), hn_past _ _ _ (by first | omega | (simp; done) | (simp; omega)), hn_past _ _ _ (by first | omega | (simp; done) | (simp; omega)), hn_at _ _ _ (by simp)]
          have lb2 : w.heap.size + 1 + 1 < w2_.heap.size := (Array.getElem?_eq_some_iff.1 b2).1
          have b3 : w2_.heap[w.heap.size + 1 + 1 + 1]? = some (.cells #[.int .i64 0, .int .i64 0, .int .i64 0] 23 (0, 0)) := by rw [HB2.out.block _ (by first | omega | (simp; done) | (simp; omega)), hn_past _ _ _ (by first | omega | (simp; done) | (simp; omega)), HB1.out.block _ (by first | omega | (simp; done) | (simp; omega)), hn_past _ _ _ (by first | omega | (simp; done) | (simp; omega)), hn_at _ _ _ (by simp)]
          have lb3 : w.heap.size + 1 + 1 + 1 < w2_.heap.size := (Array.getElem?_eq_some_iff.1 b3).1
          refine region_calmG [(16, ptV x0 y0 z0), (17, ptV 1 0 0), (18, .bool true), (19, .bool true), (20, undef), (21, undef), (22, undef), (23, .bool true)] (by kernel_rfl) (by kernel_rfl) (by kernel_rfl) (fun aE hpe => ?_)
          simp only [puts, Act.put, List.setIfInBounds_toArray, List.set_cons_zero, List.set_cons_succ] at hpe
          subst hpe
          refine ⟨⟨.inr (.inr ?_), .inr (.inr ?_), .inr (.inr ?_), .inr (.inr ?_), .inr (.inr ?_), .inr (.inr ?_), .inr (.inr ?_), .inr (.inr ?_), trivial⟩, ?_⟩
          · exact CalmG.mk 16 (ptV x0 y0 z0) rfl rfl rfl (fun W hW => calm_load (cs := #[.int .i64 x0, .int .i64 y0, .int .i64 z0]) (g := w.heap.size + 1) (T := 23) (fr := (0, 0)) 23 (.tmp 4) rfl rfl (by rw [hW.block _ lb1]; exact b1) 3 rfl Try.sizeOf23 Try.isAgg23)
          · exact CalmG.mk 17 (ptV 1 0 0) rfl rfl rfl (fun W hW => calm_call 55 _ #[] rfl rfl rfl (by simp [Act.eval]) (Try.call55 _ _) (HF.out W))
          · exact CalmG.mk 18 (.bool true) rfl rfl rfl (fun W hW => calm_eqLn (.tmp 16) (.tmp 17) rfl rfl rfl hf0)
          · exact CalmG.mk 19 (.bool true) rfl rfl rfl (fun W hW => calm_move (.tmp 18) rfl rfl)
          · exact CalmG.out 20 rfl rfl rfl
          · exact CalmG.out 21 rfl rfl rfl
          · exact CalmG.out 22 rfl rfl rfl
          · exact CalmG.mk 23 (.bool true) rfl rfl rfl (fun W hW => calm_pick (.tmp 19) (.const (.bool true)) (.tmp 22) rfl rfl rfl)
          intro w3_ hW3
          obtain ⟨hcb3, hfb3, hlb3⟩ := bcell hW3
          have cb0 : w3_.heap[w.heap.size]? = some (.cells #[.int .i64 p] 2 (0, 0)) := by rw [hW3.block _ lb0]; exact b0
          have kb0 : w.heap.size < w3_.heap.size := hlb3 _ lb0
          have cb1 : w3_.heap[w.heap.size + 1]? = some (.cells #[.int .i64 x0, .int .i64 y0, .int .i64 z0] 23 (0, 0)) := by rw [hW3.block _ lb1]; exact b1
          have kb1 : w.heap.size + 1 < w3_.heap.size := hlb3 _ lb1
          have cb2 : w3_.heap[w.heap.size + 1 + 1]? = some (.cells #[.int .i64 x1, .int .i64 y1, .int .i64 z1] 27 (0, 0)) := by rw [hW3.block _ lb2]; exact b2
          have kb2 : w.heap.size + 1 + 1 < w3_.heap.size := hlb3 _ lb2
          have cb3 : w3_.heap[w.heap.size + 1 + 1 + 1]? = some (.cells #[.int .i64 0, .int .i64 0, .int .i64 0] 23 (0, 0)) := by rw [hW3.block _ lb3]; exact b3
          have kb3 : w.heap.size + 1 + 1 + 1 < w3_.heap.size := hlb3 _ lb3
          have HB3 := Lib.hid hW3; clear hW3 hfb3 hlb3
          clear b0 b1 b2 b3 lb0 lb1 lb2 lb3
          have d0 : w3_.cell? ⟨w.heap.size + 1 + 1 + 1, 0, none⟩ = some (.int .i64 0) := by rw [cell_of_row w3_ _ 0 _ _ _ cb3]; rfl
          have d1 : w3_.cell? ⟨w.heap.size + 1 + 1 + 1, 1, none⟩ = some (.int .i64 0) := by rw [cell_of_row w3_ _ 1 _ _ _ cb3]; rfl
          have d2 : w3_.cell? ⟨w.heap.size + 1 + 1 + 1, 2, none⟩ = some (.int .i64 0) := by rw [cell_of_row w3_ _ 2 _ _ _ cb3]; rfl
          have g0 : w3_.frozen? ⟨w.heap.size + 1 + 1 + 1, 0, none⟩ = false := frozen_of_row w3_ _ 0 _ _ cb3
          have g1 : w3_.frozen? ⟨w.heap.size + 1 + 1 + 1, 1, none⟩ = false := frozen_of_row w3_ _ 1 _ _ cb3
          have g2 : w3_.frozen? ⟨w.heap.size + 1 + 1 + 1, 2, none⟩ = false := frozen_of_row w3_ _ 2 _ _ cb3
          go_wp2
          obtain ⟨s0, s1, s2⟩ := rd3 (.int .i64 0) (.int .i64 0) (.int .i64 0) d0 d1 d2
          exact bodyPost_ret (v := .tuple #[ptV 0 0 0, .int .i64 5]) (by simp [results, Try.results15, go_sem, s0, s1, s2]) rfl ⟨by rw [HM.out], (by repeat (first | exact Below.refl _ _ | refine bset ?_ _ _ (by omega) _ | refine bal ?_ _ | refine bdrN ?_ _ | refine bdr ?_ | refine below_tr' ?_ HB3.out | refine below_tr' ?_ HB2.out | refine below_tr' ?_ HB1.out))⟩
        | false =>
          rcases hx1 with rfl | rfl
          · have HM := Lib.hid (show thrR p (x0, y0, z0) (0, y1, z1) = ((0, 0, 0), 5) by rw [HM1, if_pos (by simp)])
            clear HM1 HX HJ
            have hn1 : True := trivial
            go_enter Try.func15, Try.ntmps15
            go_wp2_with (first
              | (go_at_call 60; refine (isPrime_yes _ _ HP.out).mono ?_; rintro e w' ⟨rfl, rfl⟩)
              | (go_at_call 51; go_in)
              | (go_at_call 52; go_in)
              | (go_at_call 53; (with_reducible refine (HL.out _ _ (at1 _ _ _ _ _ _ (by simp))).mono ?_); rintro e w1_ ⟨rfl, hb1⟩; obtain ⟨hcb1, hfb1, hlb1⟩ := bcell hb1; have hsz1 := hb1.size; (try simp at hsz1); have HB1 := Lib.hid hb1; clear hb1; (try (have hl01 : w.heap.size < w1_.heap.size := by omega)); (try (have hl11 : w.heap.size + 1 < w1_.heap.size := by omega)); (try (have hl21 : w.heap.size + 1 + 1 < w1_.heap.size := by omega)); (try (have hl31 : w.heap.size + 1 + 1 + 1 < w1_.heap.size := by omega)))
              | (go_at_call 54; (with_reducible refine (HA.out _ _ (at1 _ _ _ _ _ _ (by simp))).mono ?_); rintro e w2_ ⟨rfl, hb2⟩; obtain ⟨hcb2, hfb2, hlb2⟩ := bcell hb2; have hsz2 := hb2.size; (try simp at hsz2); have HB2 := Lib.hid hb2; clear hb2; (try (have hl02 : w.heap.size < w2_.heap.size := by omega)); (try (have hl12 : w.heap.size + 1 < w2_.heap.size := by omega)); (try (have hl22 : w.heap.size + 1 + 1 < w2_.heap.size := by omega)); (try (have hl32 : w.heap.size + 1 + 1 + 1 < w2_.heap.size := by omega))))
            have b0 : w2_.heap[w.heap.size]? = some (.cells #[.int .i64 p] 2 (0, 0)) := by rw [HB2.out.block _ (by first | omega | (simp; done) | (simp; omega)), hn_past _ _ _ (by first | omega | (simp; done) | (simp; omega)), HB1.out.block _ (by first | omega | (simp; done) | (simp; omega)), hn_past _ _ _ (by first | omega | (simp; done) | (simp; omega)), hn_past _ _ _ (by first | omega | (simp; done) | (simp; omega)), hn_past _ _ _ (by first | omega | (simp; done) | (simp; omega)), hn_past _ _ _ (by first | omega | (simp; done) | (simp; omega)), hn_at _ _ _ (by simp)]
            have lb0 : w.heap.size < w2_.heap.size := (Array.getElem?_eq_some_iff.1 b0).1
            have b1 : w2_.heap[w.heap.size + 1]? = some (.cells #[.int .i64 x0, .int .i64 y0, .int .i64 z0] 23 (0, 0)) := by rw [HB2.out.block _ (by first | omega | (simp; done) | (simp; omega)), hn_past _ _ _ (by first | omega | (simp; done) | (simp; omega)), HB1.out.block _ (by first | omega | (simp; done) | (simp; omega)), hn_past _ _ _ (by first | omega | (simp; done) | (simp; omega)), hn_past _ _ _ (by first | omega | (simp; done) | (simp; omega)), hn_past _ _ _ (by first | omega | (simp; done) | (simp; omega)), hn_at _ _ _ (by simp)]
            have lb1 : w.heap.size + 1 < w2_.heap.size := (Array.getElem?_eq_some_iff.1 b1).1
            have b2 : w2_.heap[w.heap.size + 1 + 1]? = some (.cells #[.int .i64 0, .int .i64 y1, .int .i64 z1] 27 (0, 0)) := by rw [HB2.out.block _ (by first | omega | (simp; done) | (simp; omega)), hn_past _ _ _ (by first | omega | (simp; done) | (simp; omega)), HB1.out.block _ (by first | omega | (simp; done) | (simp; omega)), hn_past _ _ _ (by first | omega | (simp; done) | (simp; omega)), hn_past _ _ _ (by first | omega | (simp; done) | (simp; omega)), hn_at _ _ _ (by simp)]
            have lb2 : w.heap.size + 1 + 1 < w2_.heap.size := (Array.getElem?_eq_some_iff.1 b2).1
            have b3 : w2_.heap[w.heap.size + 1 + 1 + 1]? = some (.cells #[.int .i64 0, .int .i64 0, .int .i64 0] 23 (0, 0)) := by rw [HB2.out.block _ (by first | omega | (simp; done) | (simp; omega)), hn_past _ _ _ (by first | omega | (simp; done) | (simp; omega)), HB1.out.block _ (by first | omega | (simp; done) | (simp; omega)), hn_past _ _ _ (by first | omega | (simp; done) | (simp; omega)), hn_at _ _ _ (by simp)]
            have lb3 : w.heap.size + 1 + 1 + 1 < w2_.heap.size := (Array.getElem?_eq_some_iff.1 b3).1
            refine region_calmG [(16, ptV x0 y0 z0), (17, ptV 1 0 0), (18, .bool false), (19, .bool false), (20, .pointer (some ⟨w.heap.size + 1 + 1, 0, none⟩)), (21, .int .i64 0), (22, .bool true), (23, .bool true)] (by kernel_rfl) (by kernel_rfl) (by kernel_rfl) (fun aE hpe => ?_)
            simp only [puts, Act.put, List.setIfInBounds_toArray, List.set_cons_zero, List.set_cons_succ] at hpe
            subst hpe
            refine ⟨⟨.inr (.inr ?_), .inr (.inr ?_), .inr (.inr ?_), .inr (.inr ?_), .inr (.inr ?_), .inr (.inr ?_), .inr (.inr ?_), .inr (.inr ?_), trivial⟩, ?_⟩
            · exact CalmG.mk 16 (ptV x0 y0 z0) rfl rfl rfl (fun W hW => calm_load (cs := #[.int .i64 x0, .int .i64 y0, .int .i64 z0]) (g := w.heap.size + 1) (T := 23) (fr := (0, 0)) 23 (.tmp 4) rfl rfl (by rw [hW.block _ lb1]; exact b1) 3 rfl Try.sizeOf23 Try.isAgg23)
            · exact CalmG.mk 17 (ptV 1 0 0) rfl rfl rfl (fun W hW => calm_call 55 _ #[] rfl rfl rfl (by simp [Act.eval]) (Try.call55 _ _) (HF.out W))
            · exact CalmG.mk 18 (.bool false) rfl rfl rfl (fun W hW => calm_eqLn (.tmp 16) (.tmp 17) rfl rfl rfl hf0)
            · exact CalmG.mk 19 (.bool false) rfl rfl rfl (fun W hW => calm_move (.tmp 18) rfl rfl)
            · exact CalmG.mk 20 (.pointer (some ⟨w.heap.size + 1 + 1, 0, none⟩)) rfl rfl rfl (fun W hW => calm_run (by simp [execOp, Act.eval, go_sem]))
            · exact CalmG.mk 21 (.int .i64 0) rfl rfl rfl (fun W hW => calm_run (by have hc : W.cell? ⟨w.heap.size + 1 + 1, 0, none⟩ = some (.int .i64 0) := (by rw [cell_of_row W _ 0 _ _ _ (by rw [hW.block _ lb2]; exact b2)]; rfl); simp [execOp, Act.eval, go_sem, hc]))
            · exact CalmG.mk 22 (.bool true) rfl rfl rfl (fun W hW => calm_run (by simp [execOp, Act.eval, go_sem, hn1]))
            · exact CalmG.mk 23 (.bool true) rfl rfl rfl (fun W hW => calm_pick (.tmp 19) (.const (.bool true)) (.tmp 22) rfl rfl rfl)
            intro w3_ hW3
            obtain ⟨hcb3, hfb3, hlb3⟩ := bcell hW3
            have cb0 : w3_.heap[w.heap.size]? = some (.cells #[.int .i64 p] 2 (0, 0)) := by rw [hW3.block _ lb0]; exact b0
            have kb0 : w.heap.size < w3_.heap.size := hlb3 _ lb0
            have cb1 : w3_.heap[w.heap.size + 1]? = some (.cells #[.int .i64 x0, .int .i64 y0, .int .i64 z0] 23 (0, 0)) := by rw [hW3.block _ lb1]; exact b1
            have kb1 : w.heap.size + 1 < w3_.heap.size := hlb3 _ lb1
            have cb2 : w3_.heap[w.heap.size + 1 + 1]? = some (.cells #[.int .i64 0, .int .i64 y1, .int .i64 z1] 27 (0, 0)) := by rw [hW3.block _ lb2]; exact b2
            have kb2 : w.heap.size + 1 + 1 < w3_.heap.size := hlb3 _ lb2
            have cb3 : w3_.heap[w.heap.size + 1 + 1 + 1]? = some (.cells #[.int .i64 0, .int .i64 0, .int .i64 0] 23 (0, 0)) := by rw [hW3.block _ lb3]; exact b3
            have kb3 : w.heap.size + 1 + 1 + 1 < w3_.heap.size := hlb3 _ lb3
            have HB3 := Lib.hid hW3; clear hW3 hfb3 hlb3
            clear b0 b1 b2 b3 lb0 lb1 lb2 lb3
            have d0 : w3_.cell? ⟨w.heap.size + 1 + 1 + 1, 0, none⟩ = some (.int .i64 0) := by rw [cell_of_row w3_ _ 0 _ _ _ cb3]; rfl
            have d1 : w3_.cell? ⟨w.heap.size + 1 + 1 + 1, 1, none⟩ = some (.int .i64 0) := by rw [cell_of_row w3_ _ 1 _ _ _ cb3]; rfl
            have d2 : w3_.cell? ⟨w.heap.size + 1 + 1 + 1, 2, none⟩ = some (.int .i64 0) := by rw [cell_of_row w3_ _ 2 _ _ _ cb3]; rfl
            have g0 : w3_.frozen? ⟨w.heap.size + 1 + 1 + 1, 0, none⟩ = false := frozen_of_row w3_ _ 0 _ _ cb3
            have g1 : w3_.frozen? ⟨w.heap.size + 1 + 1 + 1, 1, none⟩ = false := frozen_of_row w3_ _ 1 _ _ cb3
            have g2 : w3_.frozen? ⟨w.heap.size + 1 + 1 + 1, 2, none⟩ = false := frozen_of_row w3_ _ 2 _ _ cb3
            go_wp2
            obtain ⟨s0, s1, s2⟩ := rd3 (.int .i64 0) (.int .i64 0) (.int .i64 0) d0 d1 d2
            exact bodyPost_ret (v := .tuple #[ptV 0 0 0, .int .i64 5]) (by simp [results, Try.results15, go_sem, s0, s1, s2]) rfl ⟨by rw [HM.out], (by repeat (first | exact Below.refl _ _ | refine bset ?_ _ _ (by omega) _ | refine bal ?_ _ | refine bdrN ?_ _ | refine bdr ?_ | refine below_tr' ?_ HB3.out | refine below_tr' ?_ HB2.out | refine below_tr' ?_ HB1.out))⟩
          · have HM := Lib.hid (show thrR p (x0, y0, z0) (1, y1, z1) = ((u0, u1, u2), 0) by rw [HM1, if_neg (by simp [hf0])])
            clear HM1
            have hn1 : True := trivial
            go_enter Try.func15, Try.ntmps15
            go_wp2_with (first
              | (go_at_call 60; refine (isPrime_yes _ _ HP.out).mono ?_; rintro e w' ⟨rfl, rfl⟩)
              | (go_at_call 51; go_in)
              | (go_at_call 52; go_in)
              | (go_at_call 53; (with_reducible refine (HL.out _ _ (at1 _ _ _ _ _ _ (by simp))).mono ?_); rintro e w1_ ⟨rfl, hb1⟩; obtain ⟨hcb1, hfb1, hlb1⟩ := bcell hb1; have hsz1 := hb1.size; (try simp at hsz1); have HB1 := Lib.hid hb1; clear hb1; (try (have hl01 : w.heap.size < w1_.heap.size := by omega)); (try (have hl11 : w.heap.size + 1 < w1_.heap.size := by omega)); (try (have hl21 : w.heap.size + 1 + 1 < w1_.heap.size := by omega)); (try (have hl31 : w.heap.size + 1 + 1 + 1 < w1_.heap.size := by omega)))
              | (go_at_call 54; (with_reducible refine (HA.out _ _ (at1 _ _ _ _ _ _ (by simp))).mono ?_); rintro e w2_ ⟨rfl, hb2⟩; obtain ⟨hcb2, hfb2, hlb2⟩ := bcell hb2; have hsz2 := hb2.size; (try simp at hsz2); have HB2 := Lib.hid hb2; clear hb2; (try (have hl02 : w.heap.size < w2_.heap.size := by omega)); (try (have hl12 : w.heap.size + 1 < w2_.heap.size := by omega)); (try (have hl22 : w.heap.size + 1 + 1 < w2_.heap.size := by omega)); (try (have hl32 : w.heap.size + 1 + 1 + 1 < w2_.heap.size := by omega))))
            have b0 : w2_.heap[w.heap.size]? = some (.cells #[.int .i64 p] 2 (0, 0)) := by rw [HB2.out.block _ (by first | omega | (simp; done) | (simp; omega)), hn_past _ _ _ (by first | omega | (simp; done) | (simp; omega)), HB1.out.block _ (by first | omega | (simp; done) | (simp; omega)), hn_past _ _ _ (by first | omega | (simp; done) | (simp; omega)), hn_past _ _ _ (by first | omega | (simp; done) | (simp; omega)), hn_past _ _ _ (by first | omega | (simp; done) | (simp; omega)), hn_past _ _ _ (by first | omega | (simp; done) | (simp; omega)), hn_at _ _ _ (by simp)]
            have lb0 : w.heap.size < w2_.heap.size := (Array.getElem?_eq_some_iff.1 b0).1
            have b1 : w2_.heap[w.heap.size + 1]? = some (.cells #[.int .i64 x0, .int .i64 y0, .int .i64 z0] 23 (0, 0)) := by rw [HB2.out.block _ (by first | omega | (simp; done) | (simp; omega)), hn_past _ _ _ (by first | omega | (simp; done) | (simp; omega)), HB1.out.block _ (by first | omega | (simp; done) | (simp; omega)), hn_past _ _ _ (by first | omega | (simp; done) | (simp; omega)), hn_past _ _ _ (by first | omega | (simp; done) | (simp; omega)), hn_past _ _ _ (by first | omega | (simp; done) | (simp; omega)), hn_at _ _ _ (by simp)]
            have lb1 : w.heap.size + 1 < w2_.heap.size := (Array.getElem?_eq_some_iff.1 b1).1
            have b2 : w2_.heap[w.heap.size + 1 + 1]? = some (.cells #[.int .i64 1, .int .i64 y1, .int .i64 z1] 27 (0, 0)) := by rw [HB2.out.block _ (by first | omega | (simp; done) | (simp; omega)), hn_past _ _ _ (by first | omega | (simp; done) | (simp; omega)), HB1.out.block _ (by first | omega | (simp; done) | (simp; omega)), hn_past _ _ _ (by first | omega | (simp; done) | (simp; omega)), hn_past _ _ _ (by first | omega | (simp; done) | (simp; omega)), hn_at _ _ _ (by simp)]
            have lb2 : w.heap.size + 1 + 1 < w2_.heap.size := (Array.getElem?_eq_some_iff.1 b2).1
            have b3 : w2_.heap[w.heap.size + 1 + 1 + 1]? = some (.cells #[.int .i64 0, .int .i64 0, .int .i64 0] 23 (0, 0)) := by rw [HB2.out.block _ (by first | omega | (simp; done) | (simp; omega)), hn_past _ _ _ (by first | omega | (simp; done) | (simp; omega)), HB1.out.block _ (by first | omega | (simp; done) | (simp; omega)), hn_past _ _ _ (by first | omega | (simp; done) | (simp; omega)), hn_at _ _ _ (by simp)]
            have lb3 : w.heap.size + 1 + 1 + 1 < w2_.heap.size := (Array.getElem?_eq_some_iff.1 b3).1
            refine region_calmG [(16, ptV x0 y0 z0), (17, ptV 1 0 0), (18, .bool false), (19, .bool false), (20, .pointer (some ⟨w.heap.size + 1 + 1, 0, none⟩)), (21, .int .i64 1), (22, .bool false), (23, .bool false)] (by kernel_rfl) (by kernel_rfl) (by kernel_rfl) (fun aE hpe => ?_)
            simp only [puts, Act.put, List.setIfInBounds_toArray, List.set_cons_zero, List.set_cons_succ] at hpe
            subst hpe
            refine ⟨⟨.inr (.inr ?_), .inr (.inr ?_), .inr (.inr ?_), .inr (.inr ?_), .inr (.inr ?_), .inr (.inr ?_), .inr (.inr ?_), .inr (.inr ?_), trivial⟩, ?_⟩
            · exact CalmG.mk 16 (ptV x0 y0 z0) rfl rfl rfl (fun W hW => calm_load (cs := #[.int .i64 x0, .int .i64 y0, .int .i64 z0]) (g := w.heap.size + 1) (T := 23) (fr := (0, 0)) 23 (.tmp 4) rfl rfl (by rw [hW.block _ lb1]; exact b1) 3 rfl Try.sizeOf23 Try.isAgg23)
            · exact CalmG.mk 17 (ptV 1 0 0) rfl rfl rfl (fun W hW => calm_call 55 _ #[] rfl rfl rfl (by simp [Act.eval]) (Try.call55 _ _) (HF.out W))
            · exact CalmG.mk 18 (.bool false) rfl rfl rfl (fun W hW => calm_eqLn (.tmp 16) (.tmp 17) rfl rfl rfl hf0)
            · exact CalmG.mk 19 (.bool false) rfl rfl rfl (fun W hW => calm_move (.tmp 18) rfl rfl)
            · exact CalmG.mk 20 (.pointer (some ⟨w.heap.size + 1 + 1, 0, none⟩)) rfl rfl rfl (fun W hW => calm_run (by simp [execOp, Act.eval, go_sem]))
            · exact CalmG.mk 21 (.int .i64 1) rfl rfl rfl (fun W hW => calm_run (by have hc : W.cell? ⟨w.heap.size + 1 + 1, 0, none⟩ = some (.int .i64 1) := (by rw [cell_of_row W _ 0 _ _ _ (by rw [hW.block _ lb2]; exact b2)]; rfl); simp [execOp, Act.eval, go_sem, hc]))
            · exact CalmG.mk 22 (.bool false) rfl rfl rfl (fun W hW => calm_run (by simp [execOp, Act.eval, go_sem, hn1]))
            · exact CalmG.mk 23 (.bool false) rfl rfl rfl (fun W hW => calm_pick (.tmp 19) (.const (.bool true)) (.tmp 22) rfl rfl rfl)
            intro w3_ hW3
            obtain ⟨hcb3, hfb3, hlb3⟩ := bcell hW3
            have cb0 : w3_.heap[w.heap.size]? = some (.cells #[.int .i64 p] 2 (0, 0)) := by rw [hW3.block _ lb0]; exact b0
            have kb0 : w.heap.size < w3_.heap.size := hlb3 _ lb0
            have cb1 : w3_.heap[w.heap.size + 1]? = some (.cells #[.int .i64 x0, .int .i64 y0, .int .i64 z0] 23 (0, 0)) := by rw [hW3.block _ lb1]; exact b1
            have kb1 : w.heap.size + 1 < w3_.heap.size := hlb3 _ lb1
            have cb2 : w3_.heap[w.heap.size + 1 + 1]? = some (.cells #[.int .i64 1, .int .i64 y1, .int .i64 z1] 27 (0, 0)) := by rw [hW3.block _ lb2]; exact b2
            have kb2 : w.heap.size + 1 + 1 < w3_.heap.size := hlb3 _ lb2
            have cb3 : w3_.heap[w.heap.size + 1 + 1 + 1]? = some (.cells #[.int .i64 0, .int .i64 0, .int .i64 0] 23 (0, 0)) := by rw [hW3.block _ lb3]; exact b3
            have kb3 : w.heap.size + 1 + 1 + 1 < w3_.heap.size := hlb3 _ lb3
            have HB3 := Lib.hid hW3; clear hW3 hfb3 hlb3
            clear b0 b1 b2 b3 lb0 lb1 lb2 lb3
            go_wp2
            refine region_store (w.heap.size + 1 + 1 + 1) (w.heap.size + 1 + 1 + 1) 7 3 23 #[.int .i64 u0, .int .i64 u1, .int .i64 u2] [(25, .int .i64 p), (26, ptV 1 y1 z1), (27, .int .i64 p), (28, ptV x0 y0 z0), (29, ptV 1 0 0), (30, ptV v0 v1 v2), (31, ptV u0 u1 u2), (7, .int .i64 0)] (by kernel_rfl) rfl (by kernel_rfl) (by kernel_rfl) (Nat.le_refl _) (by omega) ⟨_, cb3, rfl⟩ rfl (fun aE hpe => ?_)
            simp only [puts, Act.put, List.setIfInBounds_toArray, List.set_cons_zero, List.set_cons_succ] at hpe
            subst hpe
            refine ⟨?_, ⟨.inr (.inr ?_), .inr (.inr ?_), .inr (.inr ?_), .inr (.inr ?_), .inr (.inr ?_), .inr (.inr ?_), .inr (.inr ?_), .inl rfl, .inr (.inr ?_), trivial⟩, ?_⟩
            · intro ρ W cs hv hg hn
              refine run_store_row (U := #[.int .i64 u0, .int .i64 u1, .int .i64 u2]) 23 (.tmp 6) (.tmp 31) rfl ?_ ?_ hg hn Try.sizeOf23 (by simp [Value.oneCell'])
              · exact hv 6 (by simp [readsOf, Op.operands])
              · exact hv 31 (by simp [readsOf, Op.operands])
            · exact CalmS.mk 25 (.int .i64 p) rfl rfl rfl (fun W hW => calm_run (by have hc : W.cell? ⟨w.heap.size, 0, none⟩ = some (.int .i64 p) := (by rw [cell_of_row W _ 0 _ _ _ (by rw [hW.block _ (by omega)]; exact cb0)]; rfl); simp [execOp, Act.eval, go_sem, hc]))
            · exact CalmS.mk 26 (ptV 1 y1 z1) rfl rfl rfl (fun W hW => calm_load (cs := #[.int .i64 1, .int .i64 y1, .int .i64 z1]) (g := w.heap.size + 1 + 1) (T := 27) (fr := (0, 0)) 27 (.tmp 5) rfl rfl (by rw [hW.block _ (by omega)]; exact cb2) 3 rfl Try.sizeOf27 Try.isAgg27)
            · exact CalmS.mk 27 (.int .i64 p) rfl rfl rfl (fun W hW => calm_run (by have hc : W.cell? ⟨w.heap.size, 0, none⟩ = some (.int .i64 p) := (by rw [cell_of_row W _ 0 _ _ _ (by rw [hW.block _ (by omega)]; exact cb0)]; rfl); simp [execOp, Act.eval, go_sem, hc]))
            · exact CalmS.mk 28 (ptV x0 y0 z0) rfl rfl rfl (fun W hW => calm_load (cs := #[.int .i64 x0, .int .i64 y0, .int .i64 z0]) (g := w.heap.size + 1) (T := 23) (fr := (0, 0)) 23 (.tmp 4) rfl rfl (by rw [hW.block _ (by omega)]; exact cb1) 3 rfl Try.sizeOf23 Try.isAgg23)
            · exact CalmS.mk 29 (ptV 1 0 0) rfl rfl rfl (fun W hW => calm_call 55 _ #[] rfl rfl rfl (by simp [Act.eval]) (Try.call55 _ _) (HF.out W))
            · exact CalmS.mk 30 (ptV v0 v1 v2) rfl rfl rfl (fun W hW => calm_call 57 _ #[.int .i64 p, ptV x0 y0 z0, ptV 1 0 0] rfl rfl rfl (by simp [Act.eval]) (Try.call57 _ _) (HX.out W))
            · exact CalmS.mk 31 (ptV u0 u1 u2) rfl rfl rfl (fun W hW => calm_call 56 _ #[.int .i64 p, ptV 1 y1 z1, ptV v0 v1 v2] rfl rfl rfl (by simp [Act.eval]) (Try.call56 _ _) (HJ.out W))
            · exact CalmS.mk 7 (.int .i64 0) rfl rfl rfl (fun W hW => calm_assign (.const (.int .i64 0)) rfl rfl)
            intro w4_ hW4 hrow
            have e0 : w4_.cell? ⟨w.heap.size + 1 + 1 + 1, 0, none⟩ = some (.int .i64 u0) := by rw [cell_of_row w4_ _ 0 _ _ _ hrow]; rfl
            have e1 : w4_.cell? ⟨w.heap.size + 1 + 1 + 1, 1, none⟩ = some (.int .i64 u1) := by rw [cell_of_row w4_ _ 1 _ _ _ hrow]; rfl
            have e2 : w4_.cell? ⟨w.heap.size + 1 + 1 + 1, 2, none⟩ = some (.int .i64 u2) := by rw [cell_of_row w4_ _ 2 _ _ _ hrow]; rfl
            have HB4 := Lib.hid hW4
            go_wp2
            exact bodyPost_ret (v := .tuple #[ptV u0 u1 u2, .int .i64 0]) (by simp [results, Try.results15, go_sem, e0, e1, e2]) rfl ⟨by rw [HM.out], low_tr ((by repeat (first | exact Below.refl _ _ | refine bset ?_ _ _ (by omega) _ | refine bal ?_ _ | refine bdrN ?_ _ | refine bdr ?_ | refine below_tr' ?_ HB3.out | refine below_tr' ?_ HB2.out | refine below_tr' ?_ HB1.out))) HB4.out (by omega)⟩
end Go.Proofs.Ytnlmeelcghiimaa
