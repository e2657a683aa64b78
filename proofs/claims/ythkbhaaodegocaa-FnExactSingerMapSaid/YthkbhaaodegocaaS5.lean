/- Contracts: the orders of maps. (Printed by gens5.py, a program of this session.) -/
import Derived.Test.YthkbhaaodegocaaS4
namespace Go.Proofs.Ythkbhaaodegocaa
open Go.RowKit
set_option linter.unusedVariables false
set_option linter.unusedSimpArgs false
@[reducible] def cellsM9 (m : M9) : Array Value := #[.int .i64 m.1.1, .int .i64 m.1.2.1, .int .i64 m.1.2.2, .int .i64 m.2.1.1, .int .i64 m.2.1.2.1, .int .i64 m.2.1.2.2, .int .i64 m.2.2.1, .int .i64 m.2.2.2.1, .int .i64 m.2.2.2.2]
theorem numW {a b : Int} (h : a = b) : Value.int .i64 a = Value.int .i64 b := by rw [h]
@[go_sem high] theorem neMp (w : World) (x0 x1 x2 x3 x4 x5 x6 x7 x8 y0 y1 y2 y3 y4 y5 y6 y7 y8 : Int) : (binOp .neq 26 (.agg #[.int .i64 x0, .int .i64 x1, .int .i64 x2, .int .i64 x3, .int .i64 x4, .int .i64 x5, .int .i64 x6, .int .i64 x7, .int .i64 x8]) (.agg #[.int .i64 y0, .int .i64 y1, .int .i64 y2, .int .i64 y3, .int .i64 y4, .int .i64 y5, .int .i64 y6, .int .i64 y7, .int .i64 y8])).run Try.prog w = .ok (.bool (!eqM (x0, x1, x2) (x3, x4, x5) (x6, x7, x8) (y0, y1, y2) (y3, y4, y5) (y6, y7, y8))) w := by
  rw [run_neq_struct, eqAMap]; rfl
theorem calm_neMp {o : Oper} {ρ : Operand → Value} {W : World} {k : TypeId} (x y : Operand) {a b : M9} {v : Bool} (ho : o.op = .binOp .neq 26 x y k) (hx : ρ x = .agg (cellsM9 a)) (hy : ρ y = .agg (cellsM9 b)) (hv : (!decide (a = b)) = v) : calmAt Try.prog o ρ W (.bool v) := by
  refine calm_run ?_
  unfold execOp
  subst hv
  simp only [ho, hx, hy, Sem.run_bind, run_eqGuard_agg W .neq 26 x y _ _ eqgMp, Result.andThen_ok, neMp, Sem.run_pure]
  rw [eqM_dec a b]
theorem calm_eqMp9 {o : Oper} {ρ : Operand → Value} {W : World} {k : TypeId} (x y : Operand) {a b : M9} {v : Bool} (ho : o.op = .binOp .eql 26 x y k) (hx : ρ x = .agg (cellsM9 a)) (hy : ρ y = .agg (cellsM9 b)) (hv : decide (a = b) = v) : calmAt Try.prog o ρ W (.bool v) := by
  refine calm_run ?_
  unfold execOp
  subst hv
  simp only [ho, hx, hy, Sem.run_bind, run_eqGuard_agg W .eql 26 x y _ _ eqgMp, Result.andThen_ok, eqMp, Sem.run_pure]
  rw [eqM_dec a b]
set_option maxRecDepth 20000 in
set_option maxHeartbeats 4000000 in
theorem order_any (p : Int) (m : M9) (K : Nat) (w : World) (hp : prB p = true) (hm : InM m) (hK : ordM p m = K) (hK0 : K ≠ 0) :
    Calls Try.prog 138 #[.int .i64 p, .agg (cellsM9 m)] w (Ret w (.int .i64 (K : Int))) := by
  obtain ⟨k1, k2, k3, k4⟩ := ordM_spec hK hK0
  have HPow := Lib.hid (fun (k : Nat) => inM_pow (m := m) hp hm k)
  have HT := Lib.hid (fun (W : World) (k : Nat) => times_any p (powM p m k) m W hp (HPow.out k) hm)
  replace HT : Hid (∀ (W : World) (k : Nat), Calls Try.prog 169 #[.int .i64 p, .agg (cellsM9 (powM p m k)), .agg (cellsM9 m)] W (Ret W (.agg (cellsM9 (powM p m (k + 1)))))) := HT
  have HU : Hid (∀ W : World, Calls Try.prog 168 #[] W (Ret W (.agg (cellsM9 unitM)))) := Lib.hid (fun W => unit_impl W)
  have HY := Lib.hid k3
  have HN := Lib.hid k4
  clear hp hm hK k3 k4
  go_enter Try.func138, Try.ntmps138
  go_wp2
  go_loopw [5, 6] (fun q r wr => ∃ (k g : Nat), k < K ∧ q = .int .i64 ((k + 1 : Nat) : Int) ∧ r = .pointer (some ⟨g, 0, none⟩) ∧ w.heap.size < g ∧ g < wr.heap.size ∧ Hid (wr.heap[g]? = some (.cells (cellsM9 (powM p m k)) 26 (0, 0))) ∧ Hid (wr.heap[w.heap.size]? = some (.cells (cellsM9 m) 26 (0, 0))) ∧ Hid (Below w.heap.size w wr)) (fun q _ wr => K + 1 - (intOf q).toNat)
  case atStart => exact ⟨0, w.heap.size + 1, by omega, rfl, rfl, by omega, by simp, Lib.hid (by rw [hn_atN _ _ _ (by simp)]; rfl), Lib.hid (by rw [hn_pastN _ _ _ (by first | omega | (simp; done) | (simp; omega)), hn_atN _ _ _ (by simp)]), Lib.hid (by repeat (first | exact Below.refl _ _ | refine bset ?_ _ _ (by omega) _ | refine bal ?_ _ | refine bdrN ?_ _ | refine bdr ?_))⟩
  case round =>
    obtain ⟨k, g, hk, rfl, rfl, hg0, hg1, HG, HM, HB⟩ := hrel
    have hmw := HB.out.size
    go_wp2
    refine region_calm [(8, .agg (cellsM9 (powM p m k))), (9, .agg (cellsM9 unitM)), (10, .bool (!decide (powM p m k = unitM)))] (by kernel_rfl) (by kernel_rfl) (by kernel_rfl) (fun aE hpe => ?_)
    simp only [puts, Act.put, List.setIfInBounds_toArray, List.set_cons_zero, List.set_cons_succ] at hpe
    subst hpe
    refine ⟨⟨.inr (.inr ?_), .inr (.inr ?_), .inr (.inr ?_), trivial⟩, ?_⟩
    · exact Calm.mk 8 (.agg (cellsM9 (powM p m k))) rfl rfl (fun W hW => calm_load (cs := cellsM9 (powM p m k)) (g := g) (T := 26) (fr := (0, 0)) 26 (.tmp 6) rfl rfl ((hW.block _ hg1).trans HG.out) 9 rfl Try.sizeOf26 Try.isAgg26)
    · exact Calm.mk 9 (.agg (cellsM9 unitM)) rfl rfl (fun W hW => calm_call 168 _ #[] rfl rfl rfl (by simp [Act.eval]) (Try.call168 _ _) (HU.out W))
    · exact Calm.mk 10 (.bool (!decide (powM p m k = unitM))) rfl rfl (fun W hW => calm_neMp (.tmp 8) (.tmp 9) rfl rfl rfl rfl)
    intro W2 hW2
    have kg := (hW2.block _ hg1).trans HG.out
    have km := (hW2.block _ (by omega)).trans HM.out
    have lg := (Array.getElem?_eq_some_iff.1 kg).1
    have HB2 := Lib.hid (low_tr' HB.out hW2 hmw)
    clear hW2 HB HG HM
    have hT := Lib.hid (fun (W : World) => HT.out W k)
    by_cases he : powM p m k = unitM
    · have hkK : k + 1 = K := by
        rcases Nat.lt_or_ge k (K - 1) with h | h
        · exact (HN.out k h he).elim
        · omega
      rw [decide_eq_true he]
      go_wp2
      go_ret
      exact ⟨ret_int (by omega), HB2.out⟩
    · have hkK : k + 1 < K := by
        rcases Nat.lt_or_ge (k + 1) K with h | h
        · exact h
        · exfalso; exact he (by rw [show k = K - 1 by omega]; exact HY.out)
      rw [decide_eq_false he]
      clear he
      generalize powM p m k = now at *
      generalize hnx : powM p m (k + 1) = nxt at *
      have hmw2 := HB2.out.size
      go_wp2_with (first
        | (refine wpList_load_row _ rfl 26 _ rfl (g := g) (T := 26) (cs := cellsM9 now) (fr := (0, 0)) rfl kg 9 rfl Try.sizeOf26 Try.isAgg26 ?_)
        | (refine wpList_load_row _ rfl 26 _ rfl (g := W2.heap.size) (T := 26) (cs := cellsM9 now) (fr := (0, 0)) rfl (by rw [hn_atN _ _ _ rfl]) 9 rfl Try.sizeOf26 Try.isAgg26 ?_)
        | (refine wpList_load_row _ rfl 26 _ rfl (g := w.heap.size) (T := 26) (cs := cellsM9 m) (fr := (0, 0)) rfl (by rw [hn_pastN _ _ _ (by omega)]; exact km) 9 rfl Try.sizeOf26 Try.isAgg26 ?_)
        | (go_at_call 169; (with_reducible refine (hT.out _).mono ?_); rintro e w1_ ⟨rfl, hb1⟩; obtain ⟨hcb1, hfb1, hlb1⟩ := bcell hb1; have hsz1 := hb1.size; (try simp at hsz1); have HB1 := Lib.hid hb1; clear hb1)
        | (refine wpList_store_row _ rfl 26 _ _ rfl rfl (g := W2.heap.size) (T := 26) (cs := cellsM9 now) (U := cellsM9 nxt) rfl rfl (by rw [HB1.out.block _ (by simp), hn_atN _ _ _ rfl]) rfl Try.sizeOf26 (by simp [Value.oneCell']) ?_))
      go_roundw
      case rel => exact ⟨k + 1, W2.heap.size, hkK, numW (by omega), rfl, by omega, by simp; omega, Lib.hid (by rw [hnx]; exact setRow_heap _ _ (cellsM9 now) _ _ _ (by rw [HB1.out.block _ (by simp), hn_atN _ _ _ rfl])), Lib.hid ((setRow_other _ _ _ _ (by omega)).trans (by rw [HB1.out.block _ (by simp; omega), hn_pastN _ _ _ (by omega)]; exact km)), Lib.hid (below_setRowN (low_tr' (bal HB2.out _) HB1.out (by simp; omega)) (by omega) _)⟩
      case measure => simp [intOf]; omega
def ordT (K n : Nat) : Int := if K ≤ n then (K : Int) else 0
set_option maxRecDepth 20000 in
set_option maxHeartbeats 4000000 in
theorem l10Order_any (p : Int) (m : M9) (K n : Nat) (w : World) (hp : prB p = true) (hm : InM m) (hK : ordM p m = K) (hK0 : K ≠ 0) (hn : n ≤ 1000) :
    Calls Try.prog 137 #[.int .i64 p, .agg (cellsM9 m), .int .i64 (n : Int)] w (Ret w (.int .i64 (ordT K n))) := by
  obtain ⟨k1, k2, k3, k4⟩ := ordM_spec hK hK0
  have HPow := Lib.hid (fun (k : Nat) => inM_pow (m := m) hp hm k)
  have HT := Lib.hid (fun (W : World) (k : Nat) => l02Times_any p (powM p m k) m W hp (HPow.out k) hm)
  replace HT : Hid (∀ (W : World) (k : Nat), Calls Try.prog 167 #[.int .i64 p, .agg (cellsM9 (powM p m k)), .agg (cellsM9 m)] W (Ret W (.agg (cellsM9 (powM p m (k + 1)))))) := HT
  have HU : Hid (∀ W : World, Calls Try.prog 166 #[] W (Ret W (.agg (cellsM9 unitM)))) := Lib.hid (fun W => unit_spec W)
  have HY := Lib.hid k3
  have HN := Lib.hid k4
  clear hp hm hK k3 k4
  go_enter Try.func137, Try.ntmps137
  go_wp2
  have hKz : (K : Int) ≤ 200 := by omega
  go_loopw [8] (fun q wr => ∃ (k : Nat), k < K ∧ k ≤ n ∧ q = .int .i64 ((k + 1 : Nat) : Int) ∧ w.heap.size + 1 < wr.heap.size ∧ Hid (wr.heap[w.heap.size + 1]? = some (.cells (cellsM9 (powM p m k)) 26 (0, 0))) ∧ Hid (wr.heap[w.heap.size]? = some (.cells (cellsM9 m) 26 (0, 0))) ∧ Hid (Below w.heap.size w wr)) (fun q wr => K + 1 - (intOf q).toNat)
  case atStart => exact ⟨0, by omega, by omega, rfl, by simp, Lib.hid (by rw [hn_atN _ _ _ (by simp)]; rfl), Lib.hid (by rw [hn_pastN _ _ _ (by first | omega | (simp; done) | (simp; omega)), hn_atN _ _ _ (by simp)]), Lib.hid (by repeat (first | exact Below.refl _ _ | refine bset ?_ _ _ (by omega) _ | refine bal ?_ _ | refine bdrN ?_ _ | refine bdr ?_))⟩
  case round =>
    obtain ⟨k, hk, hkn, rfl, hg1, HG, HM, HB⟩ := hrel
    have hmw := HB.out.size
    by_cases hle : k + 1 ≤ n
    · have hlez : (k : Int) + 1 ≤ (n : Int) := by omega
      go_wp2
      refine region_calm [(15, .agg (cellsM9 (powM p m k))), (16, .agg (cellsM9 unitM)), (17, .bool (decide (powM p m k = unitM)))] (by kernel_rfl) (by kernel_rfl) (by kernel_rfl) (fun aE hpe => ?_)
      simp only [puts, Act.put, List.setIfInBounds_toArray, List.set_cons_zero, List.set_cons_succ] at hpe
      subst hpe
      refine ⟨⟨.inr (.inr ?_), .inr (.inr ?_), .inr (.inr ?_), trivial⟩, ?_⟩
      · exact Calm.mk 15 (.agg (cellsM9 (powM p m k))) rfl rfl (fun W hW => calm_load (cs := cellsM9 (powM p m k)) (g := w.heap.size + 1) (T := 26) (fr := (0, 0)) 26 (.tmp 7) rfl rfl ((hW.block _ hg1).trans HG.out) 9 rfl Try.sizeOf26 Try.isAgg26)
      · exact Calm.mk 16 (.agg (cellsM9 unitM)) rfl rfl (fun W hW => calm_call 166 _ #[] rfl rfl rfl (by simp [Act.eval]) (Try.call166 _ _) (HU.out W))
      · exact Calm.mk 17 (.bool (decide (powM p m k = unitM))) rfl rfl (fun W hW => calm_eqMp9 (.tmp 15) (.tmp 16) rfl rfl rfl rfl)
      intro W2 hW2
      have kg := (hW2.block _ hg1).trans HG.out
      have km := (hW2.block _ (by omega)).trans HM.out
      have lg := (Array.getElem?_eq_some_iff.1 kg).1
      have HB2 := Lib.hid (low_tr' HB.out hW2 hmw)
      clear hW2 HB HG HM
      have hT := Lib.hid (fun (W : World) => HT.out W k)
      by_cases he : powM p m k = unitM
      · have hkK : k + 1 = K := by
          rcases Nat.lt_or_ge k (K - 1) with h | h
          · exact (HN.out k h he).elim
          · omega
        rw [decide_eq_true he]
        go_wp2
        go_ret
        exact ⟨ret_int (by unfold ordT; rw [if_pos (by omega)]; omega), HB2.out⟩
      · have hkK : k + 1 < K := by
          rcases Nat.lt_or_ge (k + 1) K with h | h
          · exact h
          · exfalso; exact he (by rw [show k = K - 1 by omega]; exact HY.out)
        rw [decide_eq_false he]
        clear he
        generalize powM p m k = now at *
        generalize hnx : powM p m (k + 1) = nxt at *
        have hmw2 := HB2.out.size
        go_wp2_with (first
          | (refine wpList_load_row _ rfl 26 _ rfl (g := w.heap.size + 1) (T := 26) (cs := cellsM9 now) (fr := (0, 0)) rfl kg 9 rfl Try.sizeOf26 Try.isAgg26 ?_)
          | (refine wpList_load_row _ rfl 26 _ rfl (g := w.heap.size) (T := 26) (cs := cellsM9 m) (fr := (0, 0)) rfl km 9 rfl Try.sizeOf26 Try.isAgg26 ?_)
          | (go_at_call 167; (with_reducible refine (hT.out _).mono ?_); rintro e w1_ ⟨rfl, hb1⟩; obtain ⟨hcb1, hfb1, hlb1⟩ := bcell hb1; have hsz1 := hb1.size; (try simp at hsz1); have HB1 := Lib.hid hb1; clear hb1)
          | (refine wpList_store_row _ rfl 26 _ _ rfl rfl (g := w.heap.size + 1) (T := 26) (cs := cellsM9 now) (U := cellsM9 nxt) rfl rfl (by rw [HB1.out.block _ lg]; exact kg) rfl Try.sizeOf26 (by simp [Value.oneCell']) ?_))
        go_roundw
        case rel => exact ⟨k + 1, hkK, hle, numW (by omega), by simp; have := HB1.out.size; omega, Lib.hid (by rw [hnx]; exact setRow_heap _ _ (cellsM9 now) _ _ _ (by rw [HB1.out.block _ lg]; exact kg)), Lib.hid ((setRow_other _ _ _ _ (by omega)).trans (by rw [HB1.out.block _ (by omega)]; exact km)), Lib.hid (below_setRowN (low_tr' HB2.out HB1.out (by omega)) (by omega) _)⟩
        case measure => simp [intOf]; omega
    · have hlez : ¬ (k : Int) + 1 ≤ (n : Int) := by omega
      go_wp2
      go_ret
      exact ⟨ret_int (by unfold ordT; rw [if_neg (by omega)]), HB.out⟩
end Go.Proofs.Ythkbhaaodegocaa
