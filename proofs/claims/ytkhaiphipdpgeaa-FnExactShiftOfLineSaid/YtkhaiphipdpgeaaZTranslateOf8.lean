/- Texts of the claim, in build order: S4, S5, S6, S9, T1, T2, T3, Own, Aut, Shelf. No condition. -/
import Derived.Maps.AppendAt
import Derived.Great.BuildSlice
import Derived.Shelf.SortM.Plain
import Derived.Shelf.SortM.SortNone
import Derived.Test.YtkhaiphipdpgeaaZTranslateOf7
/- The Singer maps, in plain words: which code is the first. -/
namespace Go.Proofs.Ytkhaiphipdpgeaa
open Go.RowKit
set_option linter.unusedVariables false
set_option linter.unusedSimpArgs false
def unitM : M9 := ((1, 0, 0), (0, 1, 0), (0, 0, 1))
/-- The powers of a map: number k is the power k + 1. -/
def powM (p : Int) (m : M9) : Nat → M9
  | 0 => m
  | k + 1 => timesM p (powM p m k) m
def compM (p c : Int) : M9 := ((0, 1, 0), (0, 0, 1), (c % p, c / p % p, c / (p * p)))
/-- From now on: how many steps until the unit. -/
def ordF (p : Int) (m : M9) : Nat → M9 → Nat → Nat
  | 0, _, _ => 0
  | f + 1, now, k => if now = unitM then k else ordF p m f (timesM p now m) (k + 1)
def ordM (p : Int) (m : M9) : Nat := ordF p m 200 m 1
theorem ordF_spec {p : Int} {m : M9} : ∀ (f : Nat) (k : Nat), ordF p m f (powM p m k) (k + 1) ≠ 0 → ∃ j, k ≤ j ∧ j < k + f ∧ ordF p m f (powM p m k) (k + 1) = j + 1 ∧ powM p m j = unitM ∧ ∀ i, k ≤ i → i < j → powM p m i ≠ unitM
  | 0, _, h => (h rfl).elim
  | f + 1, k, h => by
    unfold ordF at h ⊢
    by_cases e : powM p m k = unitM
    · rw [if_pos e]
      exact ⟨k, Nat.le_refl _, by omega, rfl, e, fun i h1 h2 => absurd h2 (by omega)⟩
    · rw [if_neg e] at h ⊢
      obtain ⟨j, h1, h2, h3, h4, h5⟩ := ordF_spec f (k + 1) h
      refine ⟨j, by omega, by omega, h3, h4, fun i hi hj => ?_⟩
      by_cases ei : i = k
      · rw [ei]; exact e
      · exact h5 i (by omega) hj
/-- The order of a map, where it is at most 200. -/
theorem ordM_spec {p : Int} {m : M9} {K : Nat} (h : ordM p m = K) (hK : K ≠ 0) : 1 ≤ K ∧ K ≤ 200 ∧ powM p m (K - 1) = unitM ∧ ∀ i, i < K - 1 → powM p m i ≠ unitM := by
  have h0 : ordF p m 200 (powM p m 0) (0 + 1) ≠ 0 := by rw [show ordF p m 200 (powM p m 0) (0 + 1) = K from h]; exact hK
  obtain ⟨j, _, h2, h3, h4, h5⟩ := ordF_spec 200 0 h0
  have e : K = j + 1 := by rw [← h]; exact h3
  subst e
  exact ⟨by omega, by omega, h4, fun i hi => h5 i (by omega) (by simpa using hi)⟩
/-- The first code of a Singer map. -/
def firstC (p : Nat) : Nat := if p = 3 then 4 else if p = 5 then 7 else if p = 7 then 9 else if p = 11 then 14 else 17
def goodB (p c : Nat) : Bool := c % p != 0 && ordM p (compM p c) == p * p + p + 1
def checkC (p : Nat) : Bool := (List.range (firstC p)).all (fun c => c % p == 0 || (ordM p (compM p c) != 0 && ordM p (compM p c) != p * p + p + 1)) && (firstC p % p != 0 && ordM p (compM p (firstC p)) == p * p + p + 1)
theorem checks : ∀ p ∈ [3, 5, 7, 11, 13], checkC p = true := by decide +kernel
theorem inM_comp {p c : Nat} (hp : prB (p : Int) = true) (hc : c < p * p * p) : InM (compM p c) := by
  have hb := prB_bd hp
  have h1 : In12 ((c : Int) % p) := in12_mod hp
  have h2 : In12 ((c : Int) / p % p) := in12_mod hp
  have h3 : In12 ((c : Int) / ((p : Int) * p)) := by
    have e : (c : Int) / ((p : Int) * p) = ((c / (p * p) : Nat) : Int) := by simp
    rw [e]
    have : c / (p * p) < p := Nat.div_lt_of_lt_mul (by omega)
    generalize c / (p * p) = q at *
    exact ⟨Int.natCast_nonneg _, by omega⟩
  intro z hz
  simp only [compM, listM, List.mem_cons, List.not_mem_nil, or_false] at hz
  rcases hz with rfl | rfl | rfl | rfl | rfl | rfl | rfl | rfl | rfl <;> first | exact h1 | exact h2 | exact h3 | exact ⟨by decide, by decide⟩
theorem inM_pow {p : Int} {m : M9} (hp : prB p = true) (hm : InM m) (k : Nat) : InM (powM p m k) := by
  cases k with
  | zero => exact hm
  | succ k => exact inM_times hp
theorem eqM_dec (x y : M9) : eqM x.1 x.2.1 x.2.2 y.1 y.2.1 y.2.2 = decide (x = y) := by
  cases h : eqM x.1 x.2.1 x.2.2 y.1 y.2.1 y.2.2 with
  | true => obtain ⟨a, b, c⟩ := eqM_iff.1 h; exact (decide_eq_true (Prod.ext a (Prod.ext b c))).symm
  | false => exact (decide_eq_false (fun e => by rw [e, eqM_iff.2 ⟨rfl, rfl, rfl⟩] at h; cases h)).symm
end Go.Proofs.Ytkhaiphipdpgeaa
/- Contracts: the orders of maps. (Printed by gens5.py, a program of this session.) -/
namespace Go.Proofs.Ytkhaiphipdpgeaa
open Go.RowKit
set_option linter.unusedVariables false
set_option linter.unusedSimpArgs false
@[reducible] def cellsM9 (m : M9) : Array Value := #[.int .i64 m.1.1, .int .i64 m.1.2.1, .int .i64 m.1.2.2, .int .i64 m.2.1.1, .int .i64 m.2.1.2.1, .int .i64 m.2.1.2.2, .int .i64 m.2.2.1, .int .i64 m.2.2.2.1, .int .i64 m.2.2.2.2]
theorem numW {a b : Int} (h : a = b) : Value.int .i64 a = Value.int .i64 b := by rw [h]
@[go_sem high] theorem neMp (w : World) (x0 x1 x2 x3 x4 x5 x6 x7 x8 y0 y1 y2 y3 y4 y5 y6 y7 y8 : Int) : (binOp .neq 68 (.agg #[.int .i64 x0, .int .i64 x1, .int .i64 x2, .int .i64 x3, .int .i64 x4, .int .i64 x5, .int .i64 x6, .int .i64 x7, .int .i64 x8]) (.agg #[.int .i64 y0, .int .i64 y1, .int .i64 y2, .int .i64 y3, .int .i64 y4, .int .i64 y5, .int .i64 y6, .int .i64 y7, .int .i64 y8])).run Try.prog w = .ok (.bool (!eqM (x0, x1, x2) (x3, x4, x5) (x6, x7, x8) (y0, y1, y2) (y3, y4, y5) (y6, y7, y8))) w := by
  rw [run_neq_struct, eqAMap]; rfl
theorem calm_neMp {o : Oper} {ρ : Operand → Value} {W : World} {k : TypeId} (x y : Operand) {a b : M9} {v : Bool} (ho : o.op = .binOp .neq 68 x y k) (hx : ρ x = .agg (cellsM9 a)) (hy : ρ y = .agg (cellsM9 b)) (hv : (!decide (a = b)) = v) : calmAt Try.prog o ρ W (.bool v) := by
  refine calm_run ?_
  unfold execOp
  subst hv
  simp only [ho, hx, hy, Sem.run_bind, run_eqGuard_agg W .neq 68 x y _ _ eqgMp, Result.andThen_ok, neMp, Sem.run_pure]
  rw [eqM_dec a b]
theorem calm_eqMp9 {o : Oper} {ρ : Operand → Value} {W : World} {k : TypeId} (x y : Operand) {a b : M9} {v : Bool} (ho : o.op = .binOp .eql 68 x y k) (hx : ρ x = .agg (cellsM9 a)) (hy : ρ y = .agg (cellsM9 b)) (hv : decide (a = b) = v) : calmAt Try.prog o ρ W (.bool v) := by
  refine calm_run ?_
  unfold execOp
  subst hv
  simp only [ho, hx, hy, Sem.run_bind, run_eqGuard_agg W .eql 68 x y _ _ eqgMp, Result.andThen_ok, eqMp, Sem.run_pure]
  rw [eqM_dec a b]
set_option maxRecDepth 20000 in
set_option maxHeartbeats 4000000 in
theorem order_any (p : Int) (m : M9) (K : Nat) (w : World) (hp : prB p = true) (hm : InM m) (hK : ordM p m = K) (hK0 : K ≠ 0) :
    Calls Try.prog 70 #[.int .i64 p, .agg (cellsM9 m)] w (Ret w (.int .i64 (K : Int))) := by
  obtain ⟨k1, k2, k3, k4⟩ := ordM_spec hK hK0
  have HPow := Lib.hid (fun (k : Nat) => inM_pow (m := m) hp hm k)
  have HT := Lib.hid (fun (W : World) (k : Nat) => times_any p (powM p m k) m W hp (HPow.out k) hm)
  replace HT : Hid (∀ (W : World) (k : Nat), Calls Try.prog 92 #[.int .i64 p, .agg (cellsM9 (powM p m k)), .agg (cellsM9 m)] W (Ret W (.agg (cellsM9 (powM p m (k + 1)))))) := HT
  have HU : Hid (∀ W : World, Calls Try.prog 91 #[] W (Ret W (.agg (cellsM9 unitM)))) := Lib.hid (fun W => unit_impl W)
  have HY := Lib.hid k3
  have HN := Lib.hid k4
  clear hp hm hK k3 k4
  go_enter Try.func70, Try.ntmps70
  go_wp2
  go_loopw [5, 6] (fun q r wr => ∃ (k g : Nat), k < K ∧ q = .int .i64 ((k + 1 : Nat) : Int) ∧ r = .pointer (some ⟨g, 0, none⟩) ∧ w.heap.size < g ∧ g < wr.heap.size ∧ Hid (wr.heap[g]? = some (.cells (cellsM9 (powM p m k)) 68 (0, 0))) ∧ Hid (wr.heap[w.heap.size]? = some (.cells (cellsM9 m) 68 (0, 0))) ∧ Hid (Below w.heap.size w wr)) (fun q _ wr => K + 1 - (intOf q).toNat)
  case atStart => exact ⟨0, w.heap.size + 1, by omega, rfl, rfl, by omega, by simp, Lib.hid (by rw [hn_atN _ _ _ (by simp)]; rfl), Lib.hid (by rw [hn_pastN _ _ _ (by first | omega | (simp; done) | (simp; omega)), hn_atN _ _ _ (by simp)]), Lib.hid (by repeat (first | exact Below.refl _ _ | refine bset ?_ _ _ (by omega) _ | refine bal ?_ _ | refine bdrN ?_ _ | refine bdr ?_))⟩
  case round =>
    obtain ⟨k, g, hk, rfl, rfl, hg0, hg1, HG, HM, HB⟩ := hrel
    have hmw := HB.out.size
    go_wp2
    refine region_calm [(8, .agg (cellsM9 (powM p m k))), (9, .agg (cellsM9 unitM)), (10, .bool (!decide (powM p m k = unitM)))] (by kernel_rfl) (by kernel_rfl) (by kernel_rfl) (fun aE hpe => ?_)
    simp only [puts, Act.put, List.setIfInBounds_toArray, List.set_cons_zero, List.set_cons_succ] at hpe
    subst hpe
    refine ⟨⟨.inr (.inr ?_), .inr (.inr ?_), .inr (.inr ?_), trivial⟩, ?_⟩
    · exact Calm.mk 8 (.agg (cellsM9 (powM p m k))) rfl rfl (fun W hW => calm_load (cs := cellsM9 (powM p m k)) (g := g) (T := 68) (fr := (0, 0)) 68 (.tmp 6) rfl rfl ((hW.block _ hg1).trans HG.out) 9 rfl Try.sizeOf68 Try.isAgg68)
    · exact Calm.mk 9 (.agg (cellsM9 unitM)) rfl rfl (fun W hW => calm_call 91 _ #[] rfl rfl rfl (by simp [Act.eval]) (Try.call91 _ _) (HU.out W))
    · exact Calm.mk 10 (.bool (!decide (powM p m k = unitM))) rfl rfl (fun W hW => calm_neMp (.tmp 8) (.tmp 9) rfl rfl rfl rfl)
    intro W2 hW2
    have kg := (hW2.block _ hg1).trans HG.out
    have km := (hW2.block _ (by omega)).trans HM.out
    have lg := (Array.getElem?_eq_some_iff.1 kg).1
    have HB2 := Lib.hid (low_tr' HB.out hW2 hmw)
    clear hW2 HB HG HM
    have hT := Lib.hid (fun (W : World) => HT.out W k)
    by_cases he : powM p m k = unitM
    · have hkK : k + 1 = K := by
        rcases Nat.lt_or_ge k (K - 1) with h | h
        · exact (HN.out k h he).elim
        · omega
      rw [decide_eq_true he]
      go_wp2
      go_ret
      exact ⟨ret_int (by omega), HB2.out⟩
    · have hkK : k + 1 < K := by
        rcases Nat.lt_or_ge (k + 1) K with h | h
        · exact h
        · exfalso; exact he (by rw [show k = K - 1 by omega]; exact HY.out)
      rw [decide_eq_false he]
      clear he
      generalize powM p m k = now at *
      generalize hnx : powM p m (k + 1) = nxt at *
      have hmw2 := HB2.out.size
      go_wp2_with (first
        | (refine wpList_load_row _ rfl 68 _ rfl (g := g) (T := 68) (cs := cellsM9 now) (fr := (0, 0)) rfl kg 9 rfl Try.sizeOf68 Try.isAgg68 ?_)
        | (refine wpList_load_row _ rfl 68 _ rfl (g := W2.heap.size) (T := 68) (cs := cellsM9 now) (fr := (0, 0)) rfl (by rw [hn_atN _ _ _ rfl]) 9 rfl Try.sizeOf68 Try.isAgg68 ?_)
        | (refine wpList_load_row _ rfl 68 _ rfl (g := w.heap.size) (T := 68) (cs := cellsM9 m) (fr := (0, 0)) rfl (by rw [hn_pastN _ _ _ (by omega)]; exact km) 9 rfl Try.sizeOf68 Try.isAgg68 ?_)
        | (go_at_call 92; (with_reducible refine (hT.out _).mono ?_); rintro e w1_ ⟨rfl, hb1⟩; obtain ⟨hcb1, hfb1, hlb1⟩ := bcell hb1; have hsz1 := hb1.size; (try simp at hsz1); have HB1 := Lib.hid hb1; clear hb1)
        | (refine wpList_store_row _ rfl 68 _ _ rfl rfl (g := W2.heap.size) (T := 68) (cs := cellsM9 now) (U := cellsM9 nxt) rfl rfl (by rw [HB1.out.block _ (by simp), hn_atN _ _ _ rfl]) rfl Try.sizeOf68 (by simp [Value.oneCell']) ?_))
      go_roundw
      case rel => exact ⟨k + 1, W2.heap.size, hkK, numW (by omega), rfl, by omega, by simp; omega, Lib.hid (by rw [hnx]; exact setRow_heap _ _ (cellsM9 now) _ _ _ (by rw [HB1.out.block _ (by simp), hn_atN _ _ _ rfl])), Lib.hid ((setRow_other _ _ _ _ (by omega)).trans (by rw [HB1.out.block _ (by simp; omega), hn_pastN _ _ _ (by omega)]; exact km)), Lib.hid (below_setRowN (low_tr' (bal HB2.out _) HB1.out (by simp; omega)) (by omega) _)⟩
      case measure => simp [intOf]; omega
def ordT (K n : Nat) : Int := if K ≤ n then (K : Int) else 0
set_option maxRecDepth 20000 in
set_option maxHeartbeats 4000000 in
theorem l10Order_any (p : Int) (m : M9) (K n : Nat) (w : World) (hp : prB p = true) (hm : InM m) (hK : ordM p m = K) (hK0 : K ≠ 0) (hn : n ≤ 1000) :
    Calls Try.prog 66 #[.int .i64 p, .agg (cellsM9 m), .int .i64 (n : Int)] w (Ret w (.int .i64 (ordT K n))) := by
  obtain ⟨k1, k2, k3, k4⟩ := ordM_spec hK hK0
  have HPow := Lib.hid (fun (k : Nat) => inM_pow (m := m) hp hm k)
  have HT := Lib.hid (fun (W : World) (k : Nat) => l02Times_any p (powM p m k) m W hp (HPow.out k) hm)
  replace HT : Hid (∀ (W : World) (k : Nat), Calls Try.prog 89 #[.int .i64 p, .agg (cellsM9 (powM p m k)), .agg (cellsM9 m)] W (Ret W (.agg (cellsM9 (powM p m (k + 1)))))) := HT
  have HU : Hid (∀ W : World, Calls Try.prog 88 #[] W (Ret W (.agg (cellsM9 unitM)))) := Lib.hid (fun W => unit_spec W)
  have HY := Lib.hid k3
  have HN := Lib.hid k4
  clear hp hm hK k3 k4
  go_enter Try.func66, Try.ntmps66
  go_wp2
  have hKz : (K : Int) ≤ 200 := by omega
  go_loopw [8] (fun q wr => ∃ (k : Nat), k < K ∧ k ≤ n ∧ q = .int .i64 ((k + 1 : Nat) : Int) ∧ w.heap.size + 1 < wr.heap.size ∧ Hid (wr.heap[w.heap.size + 1]? = some (.cells (cellsM9 (powM p m k)) 68 (0, 0))) ∧ Hid (wr.heap[w.heap.size]? = some (.cells (cellsM9 m) 68 (0, 0))) ∧ Hid (Below w.heap.size w wr)) (fun q wr => K + 1 - (intOf q).toNat)
  case atStart => exact ⟨0, by omega, by omega, rfl, by simp, Lib.hid (by rw [hn_atN _ _ _ (by simp)]; rfl), Lib.hid (by rw [hn_pastN _ _ _ (by first | omega | (simp; done) | (simp; omega)), hn_atN _ _ _ (by simp)]), Lib.hid (by repeat (first | exact Below.refl _ _ | refine bset ?_ _ _ (by omega) _ | refine bal ?_ _ | refine bdrN ?_ _ | refine bdr ?_))⟩
  case round =>
    obtain ⟨k, hk, hkn, rfl, hg1, HG, HM, HB⟩ := hrel
    have hmw := HB.out.size
    by_cases hle : k + 1 ≤ n
    · have hlez : (k : Int) + 1 ≤ (n : Int) := by omega
      go_wp2
      refine region_calm [(15, .agg (cellsM9 (powM p m k))), (16, .agg (cellsM9 unitM)), (17, .bool (decide (powM p m k = unitM)))] (by kernel_rfl) (by kernel_rfl) (by kernel_rfl) (fun aE hpe => ?_)
      simp only [puts, Act.put, List.setIfInBounds_toArray, List.set_cons_zero, List.set_cons_succ] at hpe
      subst hpe
      refine ⟨⟨.inr (.inr ?_), .inr (.inr ?_), .inr (.inr ?_), trivial⟩, ?_⟩
      · exact Calm.mk 15 (.agg (cellsM9 (powM p m k))) rfl rfl (fun W hW => calm_load (cs := cellsM9 (powM p m k)) (g := w.heap.size + 1) (T := 68) (fr := (0, 0)) 68 (.tmp 7) rfl rfl ((hW.block _ hg1).trans HG.out) 9 rfl Try.sizeOf68 Try.isAgg68)
      · exact Calm.mk 16 (.agg (cellsM9 unitM)) rfl rfl (fun W hW => calm_call 88 _ #[] rfl rfl rfl (by simp [Act.eval]) (Try.call88 _ _) (HU.out W))
      · exact Calm.mk 17 (.bool (decide (powM p m k = unitM))) rfl rfl (fun W hW => calm_eqMp9 (.tmp 15) (.tmp 16) rfl rfl rfl rfl)
      intro W2 hW2
      have kg := (hW2.block _ hg1).trans HG.out
      have km := (hW2.block _ (by omega)).trans HM.out
      have lg := (Array.getElem?_eq_some_iff.1 kg).1
      have HB2 := Lib.hid (low_tr' HB.out hW2 hmw)
      clear hW2 HB HG HM
      have hT := Lib.hid (fun (W : World) => HT.out W k)
      by_cases he : powM p m k = unitM
      · have hkK : k + 1 = K := by
          rcases Nat.lt_or_ge k (K - 1) with h | h
          · exact (HN.out k h he).elim
          · omega
        rw [decide_eq_true he]
        go_wp2
        go_ret
        exact ⟨ret_int (by unfold ordT; rw [if_pos (by omega)]; omega), HB2.out⟩
      · have hkK : k + 1 < K := by
          rcases Nat.lt_or_ge (k + 1) K with h | h
          · exact h
          · exfalso; exact he (by rw [show k = K - 1 by omega]; exact HY.out)
        rw [decide_eq_false he]
        clear he
        generalize powM p m k = now at *
        generalize hnx : powM p m (k + 1) = nxt at *
        have hmw2 := HB2.out.size
        go_wp2_with (first
          | (refine wpList_load_row _ rfl 68 _ rfl (g := w.heap.size + 1) (T := 68) (cs := cellsM9 now) (fr := (0, 0)) rfl kg 9 rfl Try.sizeOf68 Try.isAgg68 ?_)
          | (refine wpList_load_row _ rfl 68 _ rfl (g := w.heap.size) (T := 68) (cs := cellsM9 m) (fr := (0, 0)) rfl km 9 rfl Try.sizeOf68 Try.isAgg68 ?_)
          | (go_at_call 89; (with_reducible refine (hT.out _).mono ?_); rintro e w1_ ⟨rfl, hb1⟩; obtain ⟨hcb1, hfb1, hlb1⟩ := bcell hb1; have hsz1 := hb1.size; (try simp at hsz1); have HB1 := Lib.hid hb1; clear hb1)
          | (refine wpList_store_row _ rfl 68 _ _ rfl rfl (g := w.heap.size + 1) (T := 68) (cs := cellsM9 now) (U := cellsM9 nxt) rfl rfl (by rw [HB1.out.block _ lg]; exact kg) rfl Try.sizeOf68 (by simp [Value.oneCell']) ?_))
        go_roundw
        case rel => exact ⟨k + 1, hkK, hle, numW (by omega), by simp; have := HB1.out.size; omega, Lib.hid (by rw [hnx]; exact setRow_heap _ _ (cellsM9 now) _ _ _ (by rw [HB1.out.block _ lg]; exact kg)), Lib.hid ((setRow_other _ _ _ _ (by omega)).trans (by rw [HB1.out.block _ (by omega)]; exact km)), Lib.hid (below_setRowN (low_tr' HB2.out HB1.out (by omega)) (by omega) _)⟩
        case measure => simp [intOf]; omega
    · have hlez : ¬ (k : Int) + 1 ≤ (n : Int) := by omega
      go_wp2
      go_ret
      exact ⟨ret_int (by unfold ordT; rw [if_neg (by omega)]), HB.out⟩
end Go.Proofs.Ytkhaiphipdpgeaa
/- Contracts: the Singer map, as the program and as the reference find it. (Printed by gens6.py, a program of this session.) -/
namespace Go.Proofs.Ytkhaiphipdpgeaa
open Go.RowKit
set_option linter.unusedVariables false
set_option linter.unusedSimpArgs false
theorem count_any (n : Nat) (w : World) (hn : n ≤ 13) : Calls Try.prog 40 #[.int .i64 (n : Int)] w fun e w' => e = .returned (.int .i64 ((n * n + n + 1 : Nat) : Int)) ∧ w = w' := by
  have h2 : 0 ≤ (n : Int) * (n : Int) ∧ (n : Int) * (n : Int) ≤ 169 := by
    refine ⟨Int.mul_nonneg (by omega) (by omega), ?_⟩
    have : (n : Int) * (n : Int) ≤ 13 * 13 := Int.mul_le_mul (by omega) (by omega) (by omega) (by omega)
    omega
  have e1 := wrap_small (z := (n : Int) * (n : Int)) (by omega)
  generalize hq : (n : Int) * (n : Int) = q at *
  have e2 := wrap_small (z := q + (n : Int)) (by omega)
  have e3 := wrap_small (z := q + (n : Int) + 1) (by omega)
  go_enter Try.func40, Try.ntmps40
  go_wp2
  go_ret
  exact ⟨ret_int (by simp only [Int.natCast_add, Int.natCast_mul]; omega), rfl⟩
theorem det_comp (n c : Nat) (hn : 3 ≤ n) : detZ (0, 1, 0) (0, 0, 1) ((c : Int) % (n : Int), (c : Int) / (n : Int) % (n : Int), (c : Int) / ((n : Int) * (n : Int))) % (n : Int) = ((c % n : Nat) : Int) := by
  unfold detZ
  simp
theorem comp_cells (n c : Nat) : cellsM9 (compM n c) = #[.int .i64 0, .int .i64 1, .int .i64 0, .int .i64 0, .int .i64 0, .int .i64 1, .int .i64 ((c : Int) % (n : Int)), .int .i64 ((c : Int) / (n : Int) % (n : Int)), .int .i64 ((c : Int) / ((n : Int) * (n : Int)))] := rfl
structure Codes (n : Nat) : Prop where
  pr : prB (n : Int) = true
  lt : firstC n < n * n * n
  no : ∀ c, c < firstC n → c % n = 0 ∨ (c % n ≠ 0 ∧ ordM n (compM n c) ≠ 0 ∧ ordM n (compM n c) ≠ n * n + n + 1)
  yes : firstC n % n ≠ 0 ∧ ordM n (compM n (firstC n)) = n * n + n + 1
theorem codes_of {n : Nat} (hp : prB (n : Int) = true) : Codes n := by
  have hm : n ∈ [3, 5, 7, 11, 13] := by
    have := prB_cases hp
    simp only [List.mem_cons, List.not_mem_nil, or_false]
    omega
  have hk := checks n hm
  unfold checkC at hk
  simp only [Bool.and_eq_true, bne_iff_ne, ne_eq, beq_iff_eq] at hk
  refine ⟨hp, ?_, fun c hc => ?_, hk.2⟩
  · simp only [List.mem_cons, List.not_mem_nil, or_false] at hm
    rcases hm with rfl | rfl | rfl | rfl | rfl <;> decide
  · have := List.all_eq_true.1 hk.1 c (List.mem_range.2 hc)
    simp only [Bool.or_eq_true, beq_iff_eq, Bool.and_eq_true, bne_iff_ne, ne_eq] at this
    rcases this with h | h
    · exact .inl h
    · by_cases h0 : c % n = 0
      · exact .inl h0
      · exact .inr ⟨h0, h.1, h.2⟩
set_option maxRecDepth 20000 in
set_option maxHeartbeats 8000000 in
theorem singer_any (n : Nat) (w : World) (hC : Codes n) :
    Calls Try.prog 56 #[.int .i64 (n : Int)] w (Ret w (.agg (cellsM9 (compM n (firstC n))))) := by
  have HC := Lib.hid hC
  obtain ⟨hn3, hn13⟩ := prB_bd hC.pr
  have hlt := hC.lt
  obtain ⟨M, hM⟩ : ∃ M : Int, (n : Int) * (n : Int) = M := ⟨_, rfl⟩
  obtain ⟨N3, hN3⟩ : ∃ N3 : Int, M * (n : Int) = N3 := ⟨_, rfl⟩
  have h2le : n * n ≤ 13 * 13 := Nat.mul_le_mul (by omega) (by omega)
  have h3le : n * n * n ≤ 13 * 13 * 13 := Nat.mul_le_mul h2le (by omega)
  have h2pos : 0 < n * n := Nat.mul_pos (by omega) (by omega)
  have hMv : M = ((n * n : Nat) : Int) := by rw [← hM]; simp
  have hNv : N3 = ((n * n * n : Nat) : Int) := by rw [← hN3, hMv]; simp
  obtain ⟨N2, hN2⟩ : ∃ N2 : Nat, n * n = N2 := ⟨_, rfl⟩
  obtain ⟨N4, hN4⟩ : ∃ N4 : Nat, N2 * n = N4 := ⟨_, rfl⟩
  rw [hN2] at hMv hNv h2le h3le h2pos hlt
  rw [hN4] at hNv h3le hlt
  have w1 : IntKind.wrap .i64 M = M := wrap_small (by omega)
  have w2 : IntKind.wrap .i64 N3 = N3 := wrap_small (by omega)
  have HN2 := Lib.hid hN2
  have HMv := Lib.hid hMv
  obtain ⟨F, hF⟩ : ∃ F : Nat, firstC n = F := ⟨_, rfl⟩
  have HF := Lib.hid hF
  rw [hF] at hlt
  have hltz : (F : Int) < N3 := by omega
  have hF2 : F < 2197 := by omega
  have HlN := Lib.hid hlt
  have hM0 : 0 < M := by omega
  have HN4 := Lib.hid hN4
  clear hN2 hN4 hMv hNv hF h2le h3le h2pos hlt
  go_enter Try.func56, Try.ntmps56
  go_wp2
  go_loopw [10] (fun q wr => ∃ c : Nat, c ≤ F ∧ q = .int .i64 (c : Int) ∧ Hid (wr.heap[w.heap.size]? = some (.cells #[.int .i64 0, .int .i64 0, .int .i64 0, .int .i64 0, .int .i64 0, .int .i64 0, .int .i64 0, .int .i64 0, .int .i64 0] 68 (0, 0))) ∧ Hid (Below w.heap.size w wr)) (fun q wr => F + 1 - (intOf q).toNat)
  case atStart => exact ⟨0, Nat.zero_le _, rfl, Lib.hid (by rw [hn_atN _ _ _ (by simp)]), Lib.hid (by repeat (first | exact Below.refl _ _ | refine bset ?_ _ _ (by omega) _ | refine bal ?_ _ | refine bdrN ?_ _ | refine bdr ?_))⟩
  case round =>
    obtain ⟨c, hc, rfl, HR, HB⟩ := hrel
    have hcN : (c : Int) < N3 := by omega
    have hc2 : c < 2197 := by omega
    obtain ⟨a, ha⟩ : ∃ a : Int, (c : Int) % (n : Int) = a := ⟨_, rfl⟩
    obtain ⟨d0, hd0⟩ : ∃ d0 : Int, (c : Int) / (n : Int) = d0 := ⟨_, rfl⟩
    obtain ⟨b, hb⟩ : ∃ b : Int, d0 % (n : Int) = b := ⟨_, rfl⟩
    obtain ⟨d, hd⟩ : ∃ d : Int, (c : Int) / M = d := ⟨_, rfl⟩
    obtain ⟨dv, hdv⟩ : ∃ dv : Nat, c % n = dv := ⟨_, rfl⟩
    have nz : ¬ n = 0 := by omega
    have nz2 : ¬ M = 0 := by omega
    have e17 : Int.tmod (c : Int) (n : Int) = a := by rw [← ha]; exact Int.tmod_eq_emod_of_nonneg (by omega)
    have w17 : IntKind.wrap .i64 a = a := by rw [← ha]; exact wrap_small (modb (by omega))
    have b20 : 0 ≤ d0 ∧ d0 ≤ 1000000 := by rw [← hd0]; exact ⟨Int.ediv_nonneg (by omega) (by omega), Int.le_trans (Int.ediv_le_self _ (by omega)) (by omega)⟩
    have e20 : Int.tdiv (c : Int) (n : Int) = d0 := by rw [← hd0]; exact Int.tdiv_eq_ediv_of_nonneg (by omega)
    have w20 : IntKind.wrap .i64 d0 = d0 := wrap_small b20
    have e22 : Int.tmod d0 (n : Int) = b := by rw [← hb]; exact Int.tmod_eq_emod_of_nonneg b20.1
    have w22 : IntKind.wrap .i64 b = b := by rw [← hb]; exact wrap_small (modb (by omega))
    have e27 : Int.tdiv (c : Int) M = d := by rw [← hd]; exact Int.tdiv_eq_ediv_of_nonneg (by omega)
    have w27 : IntKind.wrap .i64 d = d := by rw [← hd]; exact wrap_small ⟨Int.ediv_nonneg (by omega) (by omega), Int.le_trans (Int.ediv_le_self _ (by omega)) (by omega)⟩
    have hcell : cellsM9 (compM n c) = #[.int .i64 0, .int .i64 1, .int .i64 0, .int .i64 0, .int .i64 0, .int .i64 1, .int .i64 a, .int .i64 b, .int .i64 d] := by rw [comp_cells, ha, hM, hd, hd0, hb]
    have hin : InM (compM n c) := inM_comp HC.out.pr (by rw [HN2.out, HN4.out]; have := HlN.out; omega)
    have hdz : (dv : Int) = a := by rw [← ha, ← hdv]; simp
    have HDt : Hid (∀ W, Calls Try.prog 69 #[.agg #[.int .i64 0, .int .i64 1, .int .i64 0, .int .i64 0, .int .i64 0, .int .i64 1, .int .i64 a, .int .i64 b, .int .i64 d], .int .i64 (n : Int)] W (Ret W (.int .i64 (dv : Int)))) := Lib.hid (fun W => by
      have h1 := det_comp n c (by omega)
      rw [ha, hd0, hM, hd, hb, hdv] at h1
      obtain ⟨i0, i1, i2, _⟩ := inM_at hin
      have h2 := det_any n 0 1 0 0 0 1 a b d W HC.out.pr ⟨by decide, by decide, by decide⟩ ⟨by decide, by decide, by decide⟩ (by have h3 := i2; simp only [compM] at h3; rw [ha, hd0, hM, hd, hb] at h3; exact h3)
      rw [h1] at h2
      exact h2)
    have hHB := HB.out.size
    have lr0 := (Array.getElem?_eq_some_iff.1 HR.out).1
    have HKeep := Lib.hid (show True ∧ (c : Int) % (n : Int) = a ∧ (c : Int) / (n : Int) = d0 ∧ d0 % (n : Int) = b ∧ (c : Int) / M = d ∧ c % n = dv ∧ cellsM9 (compM n c) = #[.int .i64 0, .int .i64 1, .int .i64 0, .int .i64 0, .int .i64 0, .int .i64 1, .int .i64 a, .int .i64 b, .int .i64 d] ∧ InM (compM n c) from ⟨trivial, ha, hd0, hb, hd, hdv, hcell, hin⟩)
    clear ha hd0 hb hd hdv hcell hin
    go_wp2
    refine region_boxes [⟨17, 18, 4, 68, #[.int .i64 0, .int .i64 0, .int .i64 0, .int .i64 0, .int .i64 0, .int .i64 0, .int .i64 0, .int .i64 0, .int .i64 0], #[.int .i64 0, .int .i64 1, .int .i64 0, .int .i64 0, .int .i64 0, .int .i64 1, .int .i64 a, .int .i64 b, .int .i64 d]⟩] [(13, ptV 0 1 0), (14, ptV 0 0 1), (15, .int .i64 (c : Int)), (16, .int .i64 (n : Int)), (17, .int .i64 a), (18, .int .i64 (c : Int)), (19, .int .i64 (n : Int)), (20, .int .i64 d0), (21, .int .i64 (n : Int)), (22, .int .i64 b), (23, .int .i64 (c : Int)), (24, .int .i64 (n : Int)), (25, .int .i64 (n : Int)), (26, .int .i64 M), (27, .int .i64 d), (28, ptV a b d), (29, .agg #[.int .i64 0, .int .i64 1, .int .i64 0, .int .i64 0, .int .i64 0, .int .i64 1, .int .i64 a, .int .i64 b, .int .i64 d])] (by kernel_rfl) (by kernel_rfl) (by kernel_rfl) (fun aE hpe => ?_)
    simp only [puts, Act.put, List.setIfInBounds_toArray, List.set_cons_zero, List.set_cons_succ] at hpe
    subst hpe
    refine ⟨⟨⟨?_, ?_⟩, trivial⟩, ⟨.inr ?_, .inr ?_, .inr ?_, .inr ?_, .inr ?_, .inr ?_, .inr ?_, .inr ?_, .inr ?_, .inr ?_, .inr ?_, .inr ?_, .inr ?_, .inr ?_, .inr ?_, .inr ?_, .inr ?_, .inl rfl, .inl rfl, trivial⟩, ?_⟩
    · intro o ho ρ W
      obtain rfl : _ = o := Option.some.inj ho
      simp [execOp, go_sem]
    · intro o ho ρ W g hv hp hg
      obtain rfl : _ = o := Option.some.inj ho
      exact run_store_row (U := #[.int .i64 0, .int .i64 1, .int .i64 0, .int .i64 0, .int .i64 0, .int .i64 1, .int .i64 a, .int .i64 b, .int .i64 d]) 68 (.tmp 4) (.tmp 29) rfl hp (hv 29 (by simp [readsOf, Op.operands]) (by show (29 : Nat) ≠ 4; decide)) hg rfl Try.sizeOf68 (by simp [Value.oneCell'])
    · exact CalmG.mk 13 (ptV 0 1 0) rfl rfl rfl (fun W hW => calm_run (by simp [execOp, Act.eval, go_sem]))
    · exact CalmG.mk 14 (ptV 0 0 1) rfl rfl rfl (fun W hW => calm_run (by simp [execOp, Act.eval, go_sem]))
    · exact CalmG.mk 15 (.int .i64 (c : Int)) rfl rfl rfl (fun W hW => calm_move (.tmp 3) rfl rfl)
    · exact CalmG.mk 16 (.int .i64 (n : Int)) rfl rfl rfl (fun W hW => calm_move (.tmp 0) rfl rfl)
    · exact CalmG.mk 17 (.int .i64 a) rfl rfl rfl (fun W hW => calm_run (by simp [execOp, Act.eval, go_sem, nz, e17, w17]))
    · exact CalmG.mk 18 (.int .i64 (c : Int)) rfl rfl rfl (fun W hW => calm_move (.tmp 3) rfl rfl)
    · exact CalmG.mk 19 (.int .i64 (n : Int)) rfl rfl rfl (fun W hW => calm_move (.tmp 0) rfl rfl)
    · exact CalmG.mk 20 (.int .i64 d0) rfl rfl rfl (fun W hW => calm_run (by simp [execOp, Act.eval, go_sem, nz, e20, w20]))
    · exact CalmG.mk 21 (.int .i64 (n : Int)) rfl rfl rfl (fun W hW => calm_move (.tmp 0) rfl rfl)
    · exact CalmG.mk 22 (.int .i64 b) rfl rfl rfl (fun W hW => calm_run (by simp [execOp, Act.eval, go_sem, nz, e22, w22]))
    · exact CalmG.mk 23 (.int .i64 (c : Int)) rfl rfl rfl (fun W hW => calm_move (.tmp 3) rfl rfl)
    · exact CalmG.mk 24 (.int .i64 (n : Int)) rfl rfl rfl (fun W hW => calm_move (.tmp 0) rfl rfl)
    · exact CalmG.mk 25 (.int .i64 (n : Int)) rfl rfl rfl (fun W hW => calm_move (.tmp 0) rfl rfl)
    · exact CalmG.mk 26 (.int .i64 M) rfl rfl rfl (fun W hW => calm_run (by simp [execOp, Act.eval, go_sem, hM, w1]))
    · exact CalmG.mk 27 (.int .i64 d) rfl rfl rfl (fun W hW => calm_run (by simp [execOp, Act.eval, go_sem, nz2, e27, w27]))
    · exact CalmG.mk 28 (ptV a b d) rfl rfl rfl (fun W hW => calm_run (by simp [execOp, Act.eval, go_sem]))
    · exact CalmG.mk 29 (.agg #[.int .i64 0, .int .i64 1, .int .i64 0, .int .i64 0, .int .i64 0, .int .i64 1, .int .i64 a, .int .i64 b, .int .i64 d]) rfl rfl rfl (fun W hW => calm_run (by simp [execOp, Act.eval, go_sem]))
    intro g W2 hW2 hbx _
    obtain ⟨hg0, kb⟩ := hbx _ (.head _)
    dsimp only at hg0 kb
    simp only [List.map_cons, List.map_nil, puts, Act.put, List.setIfInBounds_toArray, List.set_cons_zero, List.set_cons_succ]
    generalize g 4 = gm at *
    clear hbx
    have lb := (Array.getElem?_eq_some_iff.1 kb).1
    have q0 : W2.cell? ⟨gm, 0, none⟩ = some (.int .i64 0) := row_int kb rfl
    have q1 : W2.cell? ⟨gm, 1, none⟩ = some (.int .i64 1) := row_int kb rfl
    have q2 : W2.cell? ⟨gm, 2, none⟩ = some (.int .i64 0) := row_int kb rfl
    have q3 : W2.cell? ⟨gm, 3, none⟩ = some (.int .i64 0) := row_int kb rfl
    have q4 : W2.cell? ⟨gm, 4, none⟩ = some (.int .i64 0) := row_int kb rfl
    have q5 : W2.cell? ⟨gm, 5, none⟩ = some (.int .i64 1) := row_int kb rfl
    have q6 : W2.cell? ⟨gm, 6, none⟩ = some (.int .i64 a) := row_int kb rfl
    have q7 : W2.cell? ⟨gm, 7, none⟩ = some (.int .i64 b) := row_int kb rfl
    have q8 : W2.cell? ⟨gm, 8, none⟩ = some (.int .i64 d) := row_int kb rfl
    have kr := (hW2.block _ lr0).trans HR.out
    have lr := (Array.getElem?_eq_some_iff.1 kr).1
    have HB2 := Lib.hid (low_tr' HB.out hW2 hHB)
    have hs2 := HB2.out.size
    clear hW2 HB HR lr0 hHB e17 w17 b20 e20 w20 e22 w22 e27 w27 nz2
    obtain ⟨_, ha, hd0, hb, hd, hdv, hcell, hin⟩ := HKeep.out
    have HOr := Lib.hid (fun (W : World) (K : Nat) (h1 : ordM n (compM n c) = K) (h2 : K ≠ 0) => (by have h3 := order_any n (compM n c) K W HC.out.pr hin h1 h2; rw [hcell] at h3; exact h3 : Calls Try.prog 70 #[.int .i64 (n : Int), .agg #[.int .i64 0, .int .i64 1, .int .i64 0, .int .i64 0, .int .i64 0, .int .i64 1, .int .i64 a, .int .i64 b, .int .i64 d]] W (Ret W (.int .i64 (K : Int)))))
    have HCo := Lib.hid (fun (W : World) => count_any n W (by omega))
    obtain ⟨Q, hQ⟩ : ∃ Q : Nat, n * n + n + 1 = Q := ⟨_, rfl⟩
    rw [hQ] at HCo
    have HCs := Lib.hid HC.out.no
    have HCy := Lib.hid HC.out.yes
    rw [HF.out, hQ] at HCy
    rw [HF.out, hQ] at HCs
    have HCell := Lib.hid hcell
    have HDv := Lib.hid hdv
    clear ha hd0 hb hd hdv hcell hin hdz HKeep hQ
    have tok1 : True := trivial
    have tok2 : True := trivial
    have tok3 : True := trivial
    by_cases hcF : c = F
    · subst hcF
      have hK : ordM n (compM n c) = Q := HCy.out.2
      have hQ0 : Q ≠ 0 := by have h1 := HC.out.yes.2; rw [HF.out, hK] at h1; omega
      have HO := Lib.hid (fun (W : World) => HOr.out W Q hK hQ0)
      have hz : ((dv : Int) == 0) = false := by have := HCy.out.1; rw [HDv.out] at this; simp; omega
      have hzn : ¬ dv = 0 := by have := HCy.out.1; rw [HDv.out] at this; exact this
      have hqq : ((Q : Int) == (Q : Int)) = true := by simp
      clear HCs HCy HOr hK hQ0
      go_wp2_with (first
      | (refine wpList_load_row _ rfl 68 _ rfl (g := gm) (T := 68) (cs := #[.int .i64 0, .int .i64 1, .int .i64 0, .int .i64 0, .int .i64 0, .int .i64 1, .int .i64 a, .int .i64 b, .int .i64 d]) (fr := (0, 0)) rfl kb 9 rfl Try.sizeOf68 Try.isAgg68 ?_)
      | (go_at_call 69; (with_reducible refine (HDt.out _).mono ?_); rintro e w3_ ⟨rfl, hb3⟩; obtain ⟨hcb3, hfb3, hlb3⟩ := bcell hb3; have hsz3 := hb3.size; (try simp at hsz3); have HB3 := Lib.hid hb3; clear hb3)
      | (refine wpList_load_row _ rfl 68 _ rfl (g := gm) (T := 68) (cs := #[.int .i64 0, .int .i64 1, .int .i64 0, .int .i64 0, .int .i64 0, .int .i64 1, .int .i64 a, .int .i64 b, .int .i64 d]) (fr := (0, 0)) rfl (by rw [HB3.out.block _ lb]; exact kb) 9 rfl Try.sizeOf68 Try.isAgg68 ?_)
      | (go_at_call 70; (with_reducible refine (HO.out _).mono ?_); rintro e w4_ ⟨rfl, hb4⟩; obtain ⟨hcb4, hfb4, hlb4⟩ := bcell hb4; have hsz4 := hb4.size; (try simp at hsz4); have HB4 := Lib.hid hb4; clear hb4)
      | (go_at_call 40; (with_reducible refine (HCo.out _).mono ?_); rintro e w' ⟨rfl, rfl⟩)
      | (refine wpList_load_row _ rfl 68 _ rfl (g := gm) (T := 68) (cs := #[.int .i64 0, .int .i64 1, .int .i64 0, .int .i64 0, .int .i64 0, .int .i64 1, .int .i64 a, .int .i64 b, .int .i64 d]) (fr := (0, 0)) rfl (by rw [HB4.out.block _ (by omega), HB3.out.block _ lb]; exact kb) 9 rfl Try.sizeOf68 Try.isAgg68 ?_)
      | (refine wpList_store_row _ rfl 68 _ _ rfl rfl (g := w.heap.size) (T := 68) (cs := #[.int .i64 0, .int .i64 0, .int .i64 0, .int .i64 0, .int .i64 0, .int .i64 0, .int .i64 0, .int .i64 0, .int .i64 0]) (U := #[.int .i64 0, .int .i64 1, .int .i64 0, .int .i64 0, .int .i64 0, .int .i64 1, .int .i64 a, .int .i64 b, .int .i64 d]) rfl rfl (by rw [HB4.out.block _ (by omega), HB3.out.block _ (by omega)]; exact kr) rfl Try.sizeOf68 (by simp [Value.oneCell']) ?_))
      exact bodyPost_ret (v := .agg #[.int .i64 0, .int .i64 1, .int .i64 0, .int .i64 0, .int .i64 0, .int .i64 1, .int .i64 a, .int .i64 b, .int .i64 d]) (results_row Try.results56 rfl (setRow_heap _ _ #[.int .i64 0, .int .i64 0, .int .i64 0, .int .i64 0, .int .i64 0, .int .i64 0, .int .i64 0, .int .i64 0, .int .i64 0] _ _ _ (by rw [HB4.out.block _ (by omega), HB3.out.block _ (by omega)]; exact kr)) 9 rfl Try.sizeOf68 Try.isAgg68) rfl ⟨by rw [HF.out, HCell.out], below_setRowN (low_tr' (low_tr' HB2.out HB3.out (by omega)) HB4.out (by omega)) (by omega) _⟩
    · have hclt : c < F := by omega
      rcases HCs.out c hclt with h0 | ⟨h0, h1, h2⟩
      · have h00 : dv = 0 := by rw [← HDv.out]; exact h0
        subst h00
        clear HCs HCy HOr h0
        go_wp2_with (first
          | (refine wpList_load_row _ rfl 68 _ rfl (g := gm) (T := 68) (cs := #[.int .i64 0, .int .i64 1, .int .i64 0, .int .i64 0, .int .i64 0, .int .i64 1, .int .i64 a, .int .i64 b, .int .i64 d]) (fr := (0, 0)) rfl kb 9 rfl Try.sizeOf68 Try.isAgg68 ?_)
          | (go_at_call 69; (with_reducible refine (HDt.out _).mono ?_); rintro e w3_ ⟨rfl, hb3⟩; obtain ⟨hcb3, hfb3, hlb3⟩ := bcell hb3; have hsz3 := hb3.size; (try simp at hsz3); have HB3 := Lib.hid hb3; clear hb3))
        go_roundw
        case rel => exact ⟨c + 1, by omega, numW (by omega), Lib.hid (by rw [HB3.out.block _ (by omega)]; exact kr), Lib.hid (low_tr' HB2.out HB3.out (by omega))⟩
        case measure => simp [intOf]; omega
      · obtain ⟨K, hK⟩ : ∃ K, ordM n (compM n c) = K := ⟨_, rfl⟩
        rw [hK] at h1 h2
        have HO := Lib.hid (fun (W : World) => HOr.out W K hK h1)
        have hz : ((dv : Int) == 0) = false := by rw [HDv.out] at h0; simp; omega
        have hzn : ¬ dv = 0 := by rw [HDv.out] at h0; exact h0
        have hkq : ¬ K = Q := h2
        have hqq : ((K : Int) == (Q : Int)) = false := by simp; omega
        clear HCs HCy HOr h0 h1 h2 hK
        go_wp2_with (first
        | (refine wpList_load_row _ rfl 68 _ rfl (g := gm) (T := 68) (cs := #[.int .i64 0, .int .i64 1, .int .i64 0, .int .i64 0, .int .i64 0, .int .i64 1, .int .i64 a, .int .i64 b, .int .i64 d]) (fr := (0, 0)) rfl kb 9 rfl Try.sizeOf68 Try.isAgg68 ?_)
        | (go_at_call 69; (with_reducible refine (HDt.out _).mono ?_); rintro e w3_ ⟨rfl, hb3⟩; obtain ⟨hcb3, hfb3, hlb3⟩ := bcell hb3; have hsz3 := hb3.size; (try simp at hsz3); have HB3 := Lib.hid hb3; clear hb3)
        | (refine wpList_load_row _ rfl 68 _ rfl (g := gm) (T := 68) (cs := #[.int .i64 0, .int .i64 1, .int .i64 0, .int .i64 0, .int .i64 0, .int .i64 1, .int .i64 a, .int .i64 b, .int .i64 d]) (fr := (0, 0)) rfl (by rw [HB3.out.block _ lb]; exact kb) 9 rfl Try.sizeOf68 Try.isAgg68 ?_)
        | (go_at_call 70; (with_reducible refine (HO.out _).mono ?_); rintro e w4_ ⟨rfl, hb4⟩; obtain ⟨hcb4, hfb4, hlb4⟩ := bcell hb4; have hsz4 := hb4.size; (try simp at hsz4); have HB4 := Lib.hid hb4; clear hb4)
        | (go_at_call 40; (with_reducible refine (HCo.out _).mono ?_); rintro e w' ⟨rfl, rfl⟩)
        | (refine wpList_load_row _ rfl 68 _ rfl (g := gm) (T := 68) (cs := #[.int .i64 0, .int .i64 1, .int .i64 0, .int .i64 0, .int .i64 0, .int .i64 1, .int .i64 a, .int .i64 b, .int .i64 d]) (fr := (0, 0)) rfl (by rw [HB4.out.block _ (by omega), HB3.out.block _ lb]; exact kb) 9 rfl Try.sizeOf68 Try.isAgg68 ?_)
        | (refine wpList_store_row _ rfl 68 _ _ rfl rfl (g := w.heap.size) (T := 68) (cs := #[.int .i64 0, .int .i64 0, .int .i64 0, .int .i64 0, .int .i64 0, .int .i64 0, .int .i64 0, .int .i64 0, .int .i64 0]) (U := #[.int .i64 0, .int .i64 1, .int .i64 0, .int .i64 0, .int .i64 0, .int .i64 1, .int .i64 a, .int .i64 b, .int .i64 d]) rfl rfl (by rw [HB4.out.block _ (by omega), HB3.out.block _ (by omega)]; exact kr) rfl Try.sizeOf68 (by simp [Value.oneCell']) ?_))
        go_roundw
        case rel => exact ⟨c + 1, by omega, numW (by omega), Lib.hid (by rw [HB4.out.block _ (by omega), HB3.out.block _ (by omega)]; exact kr), Lib.hid (low_tr' (low_tr' HB2.out HB3.out (by omega)) HB4.out (by omega))⟩
        case measure => simp [intOf]; omega
end Go.Proofs.Ytkhaiphipdpgeaa
/- Orbits of a point under a map, in plain words; that the Singer orbits close. -/
namespace Go.Proofs.Ytkhaiphipdpgeaa
open Go.RowKit
set_option linter.unusedVariables false
set_option linter.unusedSimpArgs false
def dotP (a b : Pt) : Int := a.1 * b.1 + a.2.1 * b.2.1 + a.2.2 * b.2.2
def imgP (p : Int) (m : M9) (a : Pt) : Pt := nrm3 p (dotP m.1 a % p) (dotP m.2.1 a % p) (dotP m.2.2 a % p)
theorem nrm3_in {p : Int} (hp : prB p = true) (x y z : Int) : In13 (nrm3 p x y z) := by
  obtain ⟨h3, h13⟩ := prB_bd hp
  unfold nrm3
  exact ⟨in12_mod hp, in12_mod hp, in12_mod hp⟩
theorem imgP_in {p : Int} (hp : prB p = true) (m : M9) (a : Pt) : In13 (imgP p m a) := nrm3_in hp _ _ _
def orbA (p : Int) (m : M9) (a : Pt) : Nat → Pt
  | 0 => a
  | k + 1 => imgP p m (orbA p m a k)
theorem orbA_in {p : Int} (hp : prB p = true) {m : M9} {a : Pt} (ha : In13 a) (k : Nat) : In13 (orbA p m a k) := by
  cases k with
  | zero => exact ha
  | succ k => exact imgP_in hp _ _
def orbL (p : Int) (m : M9) (a : Pt) (k : Nat) : List Pt := (List.range k).map (orbA p m a)
theorem orbL_succ (p : Int) (m : M9) (a : Pt) (k : Nat) : orbL p m a (k + 1) = orbL p m a k ++ [orbA p m a k] := by
  unfold orbL; rw [List.range_succ, List.map_append]; rfl
theorem orbL_length (p : Int) (m : M9) (a : Pt) (k : Nat) : (orbL p m a k).length = k := by unfold orbL; simp
theorem orbL_at (p : Int) (m : M9) (a : Pt) (k i : Nat) (h : i < k) : (orbL p m a k).getD i (0, 0, 0) = orbA p m a i := by
  unfold orbL; simp [List.getD, h]
/-- The orbit is back at its first point after k steps, and not before. -/
structure Orb (p : Int) (m : M9) (a : Pt) (k : Nat) : Prop where
  pr : prB p = true
  inm : InM m
  inp : In13 a
  pos : 0 < k ∧ k ≤ 1000
  back : orbA p m a k = a
  no : ∀ i, 0 < i → i < k → orbA p m a i ≠ a
def orbF (p : Int) (m : M9) (a : Pt) : Nat → Pt → Bool
  | 0, now => now == a
  | f + 1, now => now != a && orbF p m a f (imgP p m now)
theorem orbF_spec {p : Int} {m : M9} {a : Pt} : ∀ (f k : Nat), orbF p m a f (orbA p m a k) = true → (∀ i, k ≤ i → i < k + f → orbA p m a i ≠ a) ∧ orbA p m a (k + f) = a
  | 0, k, h => ⟨fun i h1 h2 => by omega, by simpa [orbF] using h⟩
  | f + 1, k, h => by
    unfold orbF at h
    simp only [Bool.and_eq_true, bne_iff_ne, ne_eq] at h
    obtain ⟨h1, h2⟩ := orbF_spec f (k + 1) h.2
    refine ⟨fun i hi hj => ?_, by rw [show k + (f + 1) = k + 1 + f by omega]; exact h2⟩
    by_cases e : i = k
    · rw [e]; exact h.1
    · exact h1 i (by omega) (by omega)
def checkO (p : Nat) : Bool := orbF p (compM p (firstC p)) (0, 0, 1) (p * p + p) (imgP p (compM p (firstC p)) (0, 0, 1))
theorem checksO : ∀ p ∈ [3, 5, 7, 11, 13], checkO p = true := by decide +kernel
/-- The Singer orbit: its map, its length. -/
theorem orb_of {n : Nat} (hp : prB (n : Int) = true) : Orb (n : Int) (compM n (firstC n)) (0, 0, 1) (n * n + n + 1) := by
  have hm : n ∈ [3, 5, 7, 11, 13] := by
    have := prB_cases hp
    simp only [List.mem_cons, List.not_mem_nil, or_false]
    omega
  have hk := checksO n hm
  obtain ⟨h1, h2⟩ := orbF_spec (p := (n : Int)) (m := compM n (firstC n)) (a := (0, 0, 1)) (n * n + n) 1 hk
  obtain ⟨h3, h13⟩ := prB_bd hp
  have h2le : n * n ≤ 13 * 13 := Nat.mul_le_mul (by omega) (by omega)
  exact ⟨hp, inM_comp hp (codes_of hp).lt, ⟨by decide, by decide, by decide⟩, by omega, by rw [show n * n + n + 1 = 1 + (n * n + n) by omega]; exact h2, fun i hi hj => h1 i (by omega) (by omega)⟩
/-- The Singer order of a prime. -/
def singL (n : Nat) : List Pt := orbL (n : Int) (compM n (firstC n)) (0, 0, 1) (n * n + n + 1)
theorem singL_length (n : Nat) : (singL n).length = n * n + n + 1 := orbL_length _ _ _ _
theorem singL_in {n : Nat} (hp : prB (n : Int) = true) : ∀ a ∈ singL n, In13 a := by
  intro a ha
  obtain ⟨i, _, rfl⟩ := List.mem_map.1 ha
  exact orbA_in hp ⟨by decide, by decide, by decide⟩ i
end Go.Proofs.Ytkhaiphipdpgeaa
/- Contracts: the image of a point under a map, the program's and the reference's. (Printed by gent1.py, a program of this session.) -/
namespace Go.Proofs.Ytkhaiphipdpgeaa
open Go.RowKit
set_option linter.unusedVariables false
set_option linter.unusedSimpArgs false
set_option maxRecDepth 20000 in
set_option maxHeartbeats 4000000 in
theorem image_any (p : Int) (m : M9) (a : Pt) (w : World) (hp : prB p = true) (hm : InM m) (ha : In13 a) :
    Calls Try.prog 68 #[.int .i64 p, .agg (cellsM9 m), ptV a.1 a.2.1 a.2.2] w (Ret w (ptV (imgP p m a).1 (imgP p m a).2.1 (imgP p m a).2.2)) := by
  obtain ⟨i0, i1, i2, _, _, _⟩ := inM_at hm
  have hb : ∀ r : Pt, -4611686018427387904 ≤ dotP r a % p ∧ dotP r a % p ≤ 4611686018427387904 := fun r => by
    have := prB_bd hp
    have h1 := Int.emod_nonneg (dotP r a) (show p ≠ 0 by omega)
    have h2 := Int.emod_lt_of_pos (dotP r a) (show 0 < p by omega)
    omega
  have H0 : Hid (∀ W, Calls Try.prog 71 #[.int .i64 p, ptV m.1.1 m.1.2.1 m.1.2.2, ptV a.1 a.2.1 a.2.2] W (Ret W (.int .i64 (dotP m.1 a % p)))) := Lib.hid (fun W => dot_any p _ _ _ _ _ _ W hp i0 ha)
  have H1 : Hid (∀ W, Calls Try.prog 71 #[.int .i64 p, ptV m.2.1.1 m.2.1.2.1 m.2.1.2.2, ptV a.1 a.2.1 a.2.2] W (Ret W (.int .i64 (dotP m.2.1 a % p)))) := Lib.hid (fun W => dot_any p _ _ _ _ _ _ W hp i1 ha)
  have H2 : Hid (∀ W, Calls Try.prog 71 #[.int .i64 p, ptV m.2.2.1 m.2.2.2.1 m.2.2.2.2, ptV a.1 a.2.1 a.2.2] W (Ret W (.int .i64 (dotP m.2.2 a % p)))) := Lib.hid (fun W => dot_any p _ _ _ _ _ _ W hp i2 ha)
  have HO : Hid (∀ W, Calls Try.prog 72 #[.int .i64 p, .int .i64 (dotP m.1 a % p), .int .i64 (dotP m.2.1 a % p), .int .i64 (dotP m.2.2 a % p)] W (Ret W (ptV (imgP p m a).1 (imgP p m a).2.1 (imgP p m a).2.2))) := Lib.hid (fun W => pointOf_any p _ _ _ W hp (hb _) (hb _) (hb _))
  clear hb i0 i1 i2 hm ha
  generalize imgP p m a = r at *
  generalize dotP m.1 a % p = d0 at *
  generalize dotP m.2.1 a % p = d1 at *
  generalize dotP m.2.2 a % p = d2 at *
  obtain ⟨⟨x0, x1, x2⟩, ⟨x3, x4, x5⟩, ⟨x6, x7, x8⟩⟩ := m
  obtain ⟨a0, a1, a2⟩ := a
  obtain ⟨r0, r1, r2⟩ := r
  dsimp only [cellsM9] at *
  go_enter Try.func68, Try.ntmps68
  go_wp2
  have kx : (((w.alloc (.cells #[.int .i64 x0, .int .i64 x1, .int .i64 x2, .int .i64 x3, .int .i64 x4, .int .i64 x5, .int .i64 x6, .int .i64 x7, .int .i64 x8] 68)).alloc (.cells #[.int .i64 a0, .int .i64 a1, .int .i64 a2] 55)).alloc (.cells #[.int .i64 0, .int .i64 0, .int .i64 0] 55)).heap[w.heap.size]? = some (.cells #[.int .i64 x0, .int .i64 x1, .int .i64 x2, .int .i64 x3, .int .i64 x4, .int .i64 x5, .int .i64 x6, .int .i64 x7, .int .i64 x8] 68 (0, 0)) := by rw [hn_pastN _ _ _ (by first | omega | (simp; done) | (simp; omega)), hn_pastN _ _ _ (by first | omega | (simp; done) | (simp; omega)), hn_atN _ _ _ (by simp)]
  have ka : (((w.alloc (.cells #[.int .i64 x0, .int .i64 x1, .int .i64 x2, .int .i64 x3, .int .i64 x4, .int .i64 x5, .int .i64 x6, .int .i64 x7, .int .i64 x8] 68)).alloc (.cells #[.int .i64 a0, .int .i64 a1, .int .i64 a2] 55)).alloc (.cells #[.int .i64 0, .int .i64 0, .int .i64 0] 55)).heap[w.heap.size + 1]? = some (.cells #[.int .i64 a0, .int .i64 a1, .int .i64 a2] 55 (0, 0)) := by rw [hn_pastN _ _ _ (by first | omega | (simp; done) | (simp; omega)), hn_atN _ _ _ (by simp)]
  have kr : (((w.alloc (.cells #[.int .i64 x0, .int .i64 x1, .int .i64 x2, .int .i64 x3, .int .i64 x4, .int .i64 x5, .int .i64 x6, .int .i64 x7, .int .i64 x8] 68)).alloc (.cells #[.int .i64 a0, .int .i64 a1, .int .i64 a2] 55)).alloc (.cells #[.int .i64 0, .int .i64 0, .int .i64 0] 55)).heap[w.heap.size + 1 + 1]? = some (.cells #[.int .i64 0, .int .i64 0, .int .i64 0] 55 (0, 0)) := by rw [hn_atN _ _ _ (by simp)]
  have lx := (Array.getElem?_eq_some_iff.1 kx).1
  have la := (Array.getElem?_eq_some_iff.1 ka).1
  have lr := (Array.getElem?_eq_some_iff.1 kr).1
  have HB : Below w.heap.size w (((w.alloc (.cells #[.int .i64 x0, .int .i64 x1, .int .i64 x2, .int .i64 x3, .int .i64 x4, .int .i64 x5, .int .i64 x6, .int .i64 x7, .int .i64 x8] 68)).alloc (.cells #[.int .i64 a0, .int .i64 a1, .int .i64 a2] 55)).alloc (.cells #[.int .i64 0, .int .i64 0, .int .i64 0] 55)) := (by repeat (first | exact Below.refl _ _ | refine bset ?_ _ _ (by omega) _ | refine bal ?_ _ | refine bdrN ?_ _ | refine bdr ?_))
  generalize (((w.alloc (.cells #[.int .i64 x0, .int .i64 x1, .int .i64 x2, .int .i64 x3, .int .i64 x4, .int .i64 x5, .int .i64 x6, .int .i64 x7, .int .i64 x8] 68)).alloc (.cells #[.int .i64 a0, .int .i64 a1, .int .i64 a2] 55)).alloc (.cells #[.int .i64 0, .int .i64 0, .int .i64 0] 55)) = V at *
  refine region_via 17 [(7, .int .i64 p), (8, .int .i64 p), (9, .pointer (some ⟨w.heap.size, 0, none⟩)), (10, ptV x0 x1 x2), (11, ptV a0 a1 a2), (12, .int .i64 d0), (13, .int .i64 p), (14, .pointer (some ⟨w.heap.size, 3, none⟩)), (15, ptV x3 x4 x5), (16, ptV a0 a1 a2), (17, .int .i64 d1), (18, .int .i64 p), (19, .pointer (some ⟨w.heap.size, 6, none⟩)), (20, ptV x6 x7 x8), (21, ptV a0 a1 a2), (22, .int .i64 d2), (23, ptV r0 r1 r2)] (by kernel_rfl) (by decide) (by kernel_rfl) (by kernel_rfl) (by kernel_rfl) (fun aE hpe => ?_)
  simp only [puts, Act.put, List.setIfInBounds_toArray, List.set_cons_zero, List.set_cons_succ] at hpe
  subst hpe
  refine ⟨⟨.inr (.inr ?_), .inr (.inr ?_), .inr (.inr ?_), .inr (.inr ?_), .inr (.inr ?_), .inr (.inr ?_), .inr (.inr ?_), .inr (.inr ?_), .inr (.inr ?_), .inr (.inr ?_), .inr (.inr ?_), .inr (.inr ?_), .inr (.inr ?_), .inr (.inr ?_), .inr (.inr ?_), .inr (.inr ?_), .inr (.inr ?_), trivial⟩, ?_⟩
  · exact CalmG.mk 7 (.int .i64 p) rfl rfl rfl (fun W hW => calm_move (.tmp 0) rfl rfl)
  · exact CalmG.mk 8 (.int .i64 p) rfl rfl rfl (fun W hW => calm_move (.tmp 0) rfl rfl)
  · exact CalmG.mk 9 (.pointer (some ⟨w.heap.size, 0, none⟩)) rfl rfl rfl (fun W hW => calm_run (by simp [execOp, Act.eval, go_sem]))
  · exact CalmG.mk 10 (ptV x0 x1 x2) rfl rfl rfl (fun W hW => calm_loadPt' 33 (.tmp 9) rfl rfl (row_int ((hW.block _ lx).trans kx) rfl) (row_int ((hW.block _ lx).trans kx) rfl) (row_int ((hW.block _ lx).trans kx) rfl) Try.sizeOf33 Try.isAgg33)
  · exact CalmG.mk 11 (ptV a0 a1 a2) rfl rfl rfl (fun W hW => calm_loadPt' 55 (.tmp 5) rfl rfl (row_int ((hW.block _ la).trans ka) rfl) (row_int ((hW.block _ la).trans ka) rfl) (row_int ((hW.block _ la).trans ka) rfl) Try.sizeOf55 Try.isAgg55)
  · exact CalmG.mk 12 (.int .i64 d0) rfl rfl rfl (fun W hW => calm_call 71 _ #[.int .i64 p, ptV x0 x1 x2, ptV a0 a1 a2] rfl rfl rfl (by simp [Act.eval]) (Try.call71 _ _) (H0.out W))
  · exact CalmG.mk 13 (.int .i64 p) rfl rfl rfl (fun W hW => calm_move (.tmp 0) rfl rfl)
  · exact CalmG.mk 14 (.pointer (some ⟨w.heap.size, 3, none⟩)) rfl rfl rfl (fun W hW => calm_run (by simp [execOp, Act.eval, go_sem]))
  · exact CalmG.mk 15 (ptV x3 x4 x5) rfl rfl rfl (fun W hW => calm_loadPt' 33 (.tmp 14) rfl rfl (row_int ((hW.block _ lx).trans kx) rfl) (row_int ((hW.block _ lx).trans kx) rfl) (row_int ((hW.block _ lx).trans kx) rfl) Try.sizeOf33 Try.isAgg33)
  · exact CalmG.mk 16 (ptV a0 a1 a2) rfl rfl rfl (fun W hW => calm_loadPt' 55 (.tmp 5) rfl rfl (row_int ((hW.block _ la).trans ka) rfl) (row_int ((hW.block _ la).trans ka) rfl) (row_int ((hW.block _ la).trans ka) rfl) Try.sizeOf55 Try.isAgg55)
  · exact CalmG.mk 17 (.int .i64 d1) rfl rfl rfl (fun W hW => calm_call 71 _ #[.int .i64 p, ptV x3 x4 x5, ptV a0 a1 a2] rfl rfl rfl (by simp [Act.eval]) (Try.call71 _ _) (H1.out W))
  · exact CalmG.mk 18 (.int .i64 p) rfl rfl rfl (fun W hW => calm_move (.tmp 0) rfl rfl)
  · exact CalmG.mk 19 (.pointer (some ⟨w.heap.size, 6, none⟩)) rfl rfl rfl (fun W hW => calm_run (by simp [execOp, Act.eval, go_sem]))
  · exact CalmG.mk 20 (ptV x6 x7 x8) rfl rfl rfl (fun W hW => calm_loadPt' 33 (.tmp 19) rfl rfl (row_int ((hW.block _ lx).trans kx) rfl) (row_int ((hW.block _ lx).trans kx) rfl) (row_int ((hW.block _ lx).trans kx) rfl) Try.sizeOf33 Try.isAgg33)
  · exact CalmG.mk 21 (ptV a0 a1 a2) rfl rfl rfl (fun W hW => calm_loadPt' 55 (.tmp 5) rfl rfl (row_int ((hW.block _ la).trans ka) rfl) (row_int ((hW.block _ la).trans ka) rfl) (row_int ((hW.block _ la).trans ka) rfl) Try.sizeOf55 Try.isAgg55)
  · exact CalmG.mk 22 (.int .i64 d2) rfl rfl rfl (fun W hW => calm_call 71 _ #[.int .i64 p, ptV x6 x7 x8, ptV a0 a1 a2] rfl rfl rfl (by simp [Act.eval]) (Try.call71 _ _) (H2.out W))
  · exact CalmG.mk 23 (ptV r0 r1 r2) rfl rfl rfl (fun W hW => calm_call 72 _ #[.int .i64 p, .int .i64 d0, .int .i64 d1, .int .i64 d2] rfl rfl rfl (by simp [Act.eval]) (Try.call72 _ _) (HO.out W))
  intro W hW
  simp only [List.drop_succ_cons, List.drop_zero]
  refine wpList_store_row _ rfl 55 _ _ rfl rfl (g := w.heap.size + 1 + 1) (T := 55) (cs := #[.int .i64 0, .int .i64 0, .int .i64 0]) (U := #[.int .i64 r0, .int .i64 r1, .int .i64 r2]) rfl rfl ((hW.block _ lr).trans kr) rfl Try.sizeOf55 (by simp [Value.oneCell']) ?_
  refine wpList_nil ?_
  go_wp2
  exact bodyPost_ret (v := ptV r0 r1 r2) (results_row Try.results68 rfl (setRow_heap _ _ #[.int .i64 0, .int .i64 0, .int .i64 0] _ _ _ ((hW.block _ lr).trans kr)) 3 rfl Try.sizeOf55 Try.isAgg55) rfl ⟨rfl, below_setRowN (low_tr' HB hW (by omega)) (by omega) _⟩
end Go.Proofs.Ytkhaiphipdpgeaa
/- Contracts: the image of a point under a map, as the reference makes it. (Printed by gent2.py, a program of this session.) -/
namespace Go.Proofs.Ytkhaiphipdpgeaa
open Go.RowKit
set_option linter.unusedVariables false
set_option linter.unusedSimpArgs false
theorem src1 {W : World} {g o : Nat} {x : Int} (d0 : W.cell? ⟨g, o, none⟩ = some (.int .i64 x)) :
    ∀ (j : Nat) (u : Value), [Value.int .i64 x][j]? = some u → W.cell? ((⟨g, o, none⟩ : Addr).add j) = some u := by
  intro j u hj
  have hadd : (⟨g, o, none⟩ : Addr).add j = ⟨g, o + j, none⟩ := by unfold Addr.add; split <;> simp_all
  rw [hadd]
  match j, hj with
  | 0, hj => simpa using d0.trans (by simpa using hj)
  | j + 1, hj => simp at hj
theorem oneA (x : Int) : ∀ u ∈ [Value.int .i64 x], u.oneCell' = true := by
  intro u hu
  rw [List.mem_singleton.1 hu]; rfl
set_option maxRecDepth 20000 in
set_option maxHeartbeats 8000000 in
theorem l02Image_any (p : Int) (m : M9) (a : Pt) (w : World) (hp : prB p = true) (hm : InM m) (ha : In13 a) :
    Calls Try.prog 65 #[.int .i64 p, .agg (cellsM9 m), ptV a.1 a.2.1 a.2.2] w (Ret w (ptV (imgP p m a).1 (imgP p m a).2.1 (imgP p m a).2.2)) := by
  obtain ⟨i0, hi, hz0, hz1, hz2⟩ := info_parts info64
  have HI0 := Lib.hid hi; have HZ0 := Lib.hid hz0; have HZ1 := Lib.hid hz1; have HZ2 := Lib.hid hz2
  have hpb := prB_bd hp
  have hb : ∀ r : Pt, -4611686018427387904 ≤ dotP r a % p ∧ dotP r a % p ≤ 4611686018427387904 := fun r => by
    have h1 := Int.emod_nonneg (dotP r a) (show p ≠ 0 by omega)
    have h2 := Int.emod_lt_of_pos (dotP r a) (show 0 < p by omega)
    omega
  have HNo : Hid (∀ (W : World) (g cap : Nat), (∀ i, i < 3 → W.cell? ⟨g, 0 + i, none⟩ = some (.int .i64 ([dotP m.1 a % p, dotP m.2.1 a % p, dotP m.2.2 a % p].getD i 0))) → Calls Try.prog 87 #[.int .i64 p, .slice (some ⟨g, 0, none⟩) 3 cap] W (NormPost W p [dotP m.1 a % p, dotP m.2.1 a % p, dotP m.2.2 a % p] 3)) :=
    Lib.hid (fun W g cap hc => l01Norm_any p g 0 3 cap [dotP m.1 a % p, dotP m.2.1 a % p, dotP m.2.2 a % p] W hp rfl (by omega) hc (fun i hi => by
      rcases (show i = 0 ∨ i = 1 ∨ i = 2 by omega) with rfl | rfl | rfl
      · exact hb _
      · exact hb _
      · exact hb _))
  have HNl : Hid (normL p [dotP m.1 a % p, dotP m.2.1 a % p, dotP m.2.2 a % p] = [(imgP p m a).1, (imgP p m a).2.1, (imgP p m a).2.2]) := Lib.hid rfl
  generalize imgP p m a = r at *
  obtain ⟨⟨x0, x1, x2⟩, ⟨x3, x4, x5⟩, ⟨x6, x7, x8⟩⟩ := m
  obtain ⟨a0, a1, a2⟩ := a
  obtain ⟨r0, r1, r2⟩ := r
  dsimp only [cellsM9, dotP] at *
  have bx0 : In12 x0 := hm _ (by simp [listM])
  have bx1 : In12 x1 := hm _ (by simp [listM])
  have bx2 : In12 x2 := hm _ (by simp [listM])
  have bx3 : In12 x3 := hm _ (by simp [listM])
  have bx4 : In12 x4 := hm _ (by simp [listM])
  have bx5 : In12 x5 := hm _ (by simp [listM])
  have bx6 : In12 x6 := hm _ (by simp [listM])
  have bx7 : In12 x7 := hm _ (by simp [listM])
  have bx8 : In12 x8 := hm _ (by simp [listM])
  obtain ⟨ba0, ba1, ba2⟩ := ha
  replace ba0 : In12 a0 := ba0
  replace ba1 : In12 a1 := ba1
  replace ba2 : In12 a2 := ba2
  have w0_0 := wmul bx0 ba0
  have w0_1 := wmul bx1 ba1
  have w0_2 := wmul bx2 ba2
  have w0_3 := wadd2 bx0 ba0 bx1 ba1
  have w0_4 := wadd3 bx0 ba0 bx1 ba1 bx2 ba2
  have e0 : Int.tmod (x0 * a0 + x1 * a1 + x2 * a2) p = (x0 * a0 + x1 * a1 + x2 * a2) % p := Int.tmod_eq_emod_of_nonneg (dot12 bx0 ba0 bx1 ba1 bx2 ba2)
  have v0 : IntKind.wrap .i64 ((x0 * a0 + x1 * a1 + x2 * a2) % p) = (x0 * a0 + x1 * a1 + x2 * a2) % p := wrap_small (modb hpb)
  have w_0 := Lib.hid (And.intro w0_0 (And.intro w0_1 (And.intro w0_2 (And.intro w0_3 (And.intro w0_4 (And.intro e0 v0))))))
  clear w0_0 w0_1 w0_2 w0_3 w0_4 e0 v0
  have w1_0 := wmul bx3 ba0
  have w1_1 := wmul bx4 ba1
  have w1_2 := wmul bx5 ba2
  have w1_3 := wadd2 bx3 ba0 bx4 ba1
  have w1_4 := wadd3 bx3 ba0 bx4 ba1 bx5 ba2
  have e1 : Int.tmod (x3 * a0 + x4 * a1 + x5 * a2) p = (x3 * a0 + x4 * a1 + x5 * a2) % p := Int.tmod_eq_emod_of_nonneg (dot12 bx3 ba0 bx4 ba1 bx5 ba2)
  have v1 : IntKind.wrap .i64 ((x3 * a0 + x4 * a1 + x5 * a2) % p) = (x3 * a0 + x4 * a1 + x5 * a2) % p := wrap_small (modb hpb)
  have w_1 := Lib.hid (And.intro w1_0 (And.intro w1_1 (And.intro w1_2 (And.intro w1_3 (And.intro w1_4 (And.intro e1 v1))))))
  clear w1_0 w1_1 w1_2 w1_3 w1_4 e1 v1
  have w2_0 := wmul bx6 ba0
  have w2_1 := wmul bx7 ba1
  have w2_2 := wmul bx8 ba2
  have w2_3 := wadd2 bx6 ba0 bx7 ba1
  have w2_4 := wadd3 bx6 ba0 bx7 ba1 bx8 ba2
  have e2 : Int.tmod (x6 * a0 + x7 * a1 + x8 * a2) p = (x6 * a0 + x7 * a1 + x8 * a2) % p := Int.tmod_eq_emod_of_nonneg (dot12 bx6 ba0 bx7 ba1 bx8 ba2)
  have v2 : IntKind.wrap .i64 ((x6 * a0 + x7 * a1 + x8 * a2) % p) = (x6 * a0 + x7 * a1 + x8 * a2) % p := wrap_small (modb hpb)
  have w_2 := Lib.hid (And.intro w2_0 (And.intro w2_1 (And.intro w2_2 (And.intro w2_3 (And.intro w2_4 (And.intro e2 v2))))))
  clear w2_0 w2_1 w2_2 w2_3 w2_4 e2 v2
  have hpn : ¬ p = 0 := by omega
  clear hi hz0 hz1 hz2 hp hm hb hpb bx0 bx1 bx2 bx3 bx4 bx5 bx6 bx7 bx8 ba0 ba1 ba2
  go_enter Try.func65, Try.ntmps65
  go_wp2
  go_loopw [7, 8] (fun v i wr => ∃ k : Nat, k ≤ 3 ∧ i = .int .i64 k ∧ Hid (wr.ownsRow (w.heap.size + 1 + 1 + 1) 2 1 v k (ints ([(x0 * a0 + x1 * a1 + x2 * a2) % p, (x3 * a0 + x4 * a1 + x5 * a2) % p, (x6 * a0 + x7 * a1 + x8 * a2) % p].take k))) ∧ wr.heap[w.heap.size]? = some (.cells #[.int .i64 x0, .int .i64 x1, .int .i64 x2, .int .i64 x3, .int .i64 x4, .int .i64 x5, .int .i64 x6, .int .i64 x7, .int .i64 x8] 68 (0, 0)) ∧ wr.heap[w.heap.size + 1]? = some (.cells #[.int .i64 a0, .int .i64 a1, .int .i64 a2] 55 (0, 0)) ∧ wr.heap[w.heap.size + 1 + 1]? = some (.cells #[.int .i64 0, .int .i64 0, .int .i64 0] 55 (0, 0)) ∧ Hid (Below w.heap.size w wr)) (fun _ i wr => 3 - (intOf i).toNat)
  case atStart =>
    refine ⟨0, by omega, rfl, Lib.hid ?_, ?_, ?_, ?_, Lib.hid (by repeat (first | exact Below.refl _ _ | refine bset ?_ _ _ (by omega) _ | refine bal ?_ _ | refine bdrN ?_ _ | refine bdr ?_))⟩
    · exact ⟨rfl, .inr ⟨(w.heap.size + 1 + 1 + 1), 0, #[], rfl, Nat.le_refl _, by rw [hn_atN _ _ _ (by simp)], Nat.le_refl _, by unfold maxLen; omega, rfl, rfl⟩⟩
    · rw [hn_pastN _ _ _ (by first | omega | (simp; done) | (simp; omega)), hn_pastN _ _ _ (by first | omega | (simp; done) | (simp; omega)), hn_pastN _ _ _ (by first | omega | (simp; done) | (simp; omega)), hn_atN _ _ _ (by simp)]
    · rw [hn_pastN _ _ _ (by first | omega | (simp; done) | (simp; omega)), hn_pastN _ _ _ (by first | omega | (simp; done) | (simp; omega)), hn_atN _ _ _ (by simp)]
    · rw [hn_pastN _ _ _ (by first | omega | (simp; done) | (simp; omega)), hn_atN _ _ _ (by simp)]
  case round =>
    obtain ⟨k, hk, rfl, HO, kx, ka, kr, HB⟩ := hrel
    rcases (show k = 0 ∨ k = 1 ∨ k = 2 ∨ k = 3 by omega) with rfl | rfl | rfl | rfl
    · clear hk
      have lx := (Array.getElem?_eq_some_iff.1 kx).1
      have la := (Array.getElem?_eq_some_iff.1 ka).1
      have lr := (Array.getElem?_eq_some_iff.1 kr).1
      obtain ⟨m0, m1, m2, m3, m4, m5, m6⟩ := w_0.out
      go_wp2
      refine region_boxvia 27 26 42 (fun g => .slice (some ⟨g, 0, none⟩) 1 1) #[.int .i64 ((x0 * a0 + x1 * a1 + x2 * a2) % p)] 2 [(16, u7), (17, .int .i64 0), (18, .pointer (some ⟨w.heap.size, 0, none⟩)), (19, .pointer (some ⟨w.heap.size, 0, none⟩)), (20, .int .i64 x0), (21, .pointer (some ⟨w.heap.size + 1, 0, none⟩)), (22, .int .i64 a0), (23, .int .i64 (x0 * a0)), (24, .int .i64 0), (25, .pointer (some ⟨w.heap.size, 0, none⟩)), (26, .pointer (some ⟨w.heap.size, 1, none⟩)), (27, .int .i64 x1), (28, .pointer (some ⟨w.heap.size + 1, 1, none⟩)), (29, .int .i64 a1), (30, .int .i64 (x1 * a1)), (31, .int .i64 (x0 * a0 + x1 * a1)), (32, .int .i64 0), (33, .pointer (some ⟨w.heap.size, 0, none⟩)), (34, .pointer (some ⟨w.heap.size, 2, none⟩)), (35, .int .i64 x2), (36, .pointer (some ⟨w.heap.size + 1, 2, none⟩)), (37, .int .i64 a2), (38, .int .i64 (x2 * a2)), (39, .int .i64 (x0 * a0 + x1 * a1 + x2 * a2)), (40, .int .i64 p), (41, .int .i64 ((x0 * a0 + x1 * a1 + x2 * a2) % p))] (by kernel_rfl) (by decide) rfl (by kernel_rfl) (by kernel_rfl) (by kernel_rfl) (by decide) (by simp) (by kernel_rfl) (fun aE hpe => ?_)
      simp only [puts, Act.put, List.setIfInBounds_toArray, List.set_cons_zero, List.set_cons_succ] at hpe
      subst hpe
      refine ⟨?_, ⟨.inr (.inr ?_), .inr (.inr ?_), .inr (.inr ?_), .inr (.inr ?_), .inr (.inr ?_), .inr (.inr ?_), .inr (.inr ?_), .inr (.inr ?_), .inr (.inr ?_), .inr (.inr ?_), .inr (.inr ?_), .inr (.inr ?_), .inr (.inr ?_), .inr (.inr ?_), .inr (.inr ?_), .inr (.inr ?_), .inr (.inr ?_), .inr (.inr ?_), .inr (.inr ?_), .inr (.inr ?_), .inr (.inr ?_), .inr (.inr ?_), .inr (.inr ?_), .inr (.inr ?_), .inr (.inr ?_), .inr (.inr ?_), .inl rfl, trivial⟩, ?_⟩
      · intro ρ W hr
        have r0 : ρ (.tmp 41) = .int .i64 ((x0 * a0 + x1 * a1 + x2 * a2) % p) := hr 41 (by simp [readsOf, Op.operands])
        simp [execOp, go_sem, r0]
      · exact CalmG.mk 16 (u7) rfl rfl rfl (fun W hW => calm_move (.tmp 7) rfl rfl)
      · exact CalmG.mk 17 (.int .i64 0) rfl rfl rfl (fun W hW => calm_move (.tmp 8) rfl rfl)
      · exact CalmG.mk 18 (.pointer (some ⟨w.heap.size, 0, none⟩)) rfl rfl rfl (fun W hW => calm_run (by simp [execOp, Act.eval, go_sem]))
      · exact CalmG.mk 19 (.pointer (some ⟨w.heap.size, 0, none⟩)) rfl rfl rfl (fun W hW => calm_run (by simp [execOp, Act.eval, go_sem]))
      · exact CalmG.mk 20 (.int .i64 x0) rfl rfl rfl (fun W hW => calm_run (by have hc := row_int (off := 0) (z := x0) ((hW.block _ lx).trans kx) rfl; simp [execOp, Act.eval, go_sem, hc]))
      · exact CalmG.mk 21 (.pointer (some ⟨w.heap.size + 1, 0, none⟩)) rfl rfl rfl (fun W hW => calm_run (by simp [execOp, Act.eval, go_sem]))
      · exact CalmG.mk 22 (.int .i64 a0) rfl rfl rfl (fun W hW => calm_run (by have hc := row_int (off := 0) (z := a0) ((hW.block _ la).trans ka) rfl; simp [execOp, Act.eval, go_sem, hc]))
      · exact CalmG.mk 23 (.int .i64 (x0 * a0)) rfl rfl rfl (fun W hW => calm_run (by simp [execOp, Act.eval, go_sem, m0]))
      · exact CalmG.mk 24 (.int .i64 0) rfl rfl rfl (fun W hW => calm_move (.tmp 8) rfl rfl)
      · exact CalmG.mk 25 (.pointer (some ⟨w.heap.size, 0, none⟩)) rfl rfl rfl (fun W hW => calm_run (by simp [execOp, Act.eval, go_sem]))
      · exact CalmG.mk 26 (.pointer (some ⟨w.heap.size, 1, none⟩)) rfl rfl rfl (fun W hW => calm_run (by simp [execOp, Act.eval, go_sem]))
      · exact CalmG.mk 27 (.int .i64 x1) rfl rfl rfl (fun W hW => calm_run (by have hc := row_int (off := 1) (z := x1) ((hW.block _ lx).trans kx) rfl; simp [execOp, Act.eval, go_sem, hc]))
      · exact CalmG.mk 28 (.pointer (some ⟨w.heap.size + 1, 1, none⟩)) rfl rfl rfl (fun W hW => calm_run (by simp [execOp, Act.eval, go_sem]))
      · exact CalmG.mk 29 (.int .i64 a1) rfl rfl rfl (fun W hW => calm_run (by have hc := row_int (off := 1) (z := a1) ((hW.block _ la).trans ka) rfl; simp [execOp, Act.eval, go_sem, hc]))
      · exact CalmG.mk 30 (.int .i64 (x1 * a1)) rfl rfl rfl (fun W hW => calm_run (by simp [execOp, Act.eval, go_sem, m1]))
      · exact CalmG.mk 31 (.int .i64 (x0 * a0 + x1 * a1)) rfl rfl rfl (fun W hW => calm_run (by simp [execOp, Act.eval, go_sem, m3]))
      · exact CalmG.mk 32 (.int .i64 0) rfl rfl rfl (fun W hW => calm_move (.tmp 8) rfl rfl)
      · exact CalmG.mk 33 (.pointer (some ⟨w.heap.size, 0, none⟩)) rfl rfl rfl (fun W hW => calm_run (by simp [execOp, Act.eval, go_sem]))
      · exact CalmG.mk 34 (.pointer (some ⟨w.heap.size, 2, none⟩)) rfl rfl rfl (fun W hW => calm_run (by simp [execOp, Act.eval, go_sem]))
      · exact CalmG.mk 35 (.int .i64 x2) rfl rfl rfl (fun W hW => calm_run (by have hc := row_int (off := 2) (z := x2) ((hW.block _ lx).trans kx) rfl; simp [execOp, Act.eval, go_sem, hc]))
      · exact CalmG.mk 36 (.pointer (some ⟨w.heap.size + 1, 2, none⟩)) rfl rfl rfl (fun W hW => calm_run (by simp [execOp, Act.eval, go_sem]))
      · exact CalmG.mk 37 (.int .i64 a2) rfl rfl rfl (fun W hW => calm_run (by have hc := row_int (off := 2) (z := a2) ((hW.block _ la).trans ka) rfl; simp [execOp, Act.eval, go_sem, hc]))
      · exact CalmG.mk 38 (.int .i64 (x2 * a2)) rfl rfl rfl (fun W hW => calm_run (by simp [execOp, Act.eval, go_sem, m2]))
      · exact CalmG.mk 39 (.int .i64 (x0 * a0 + x1 * a1 + x2 * a2)) rfl rfl rfl (fun W hW => calm_run (by simp [execOp, Act.eval, go_sem, m4]))
      · exact CalmG.mk 40 (.int .i64 p) rfl rfl rfl (fun W hW => calm_move (.tmp 0) rfl rfl)
      · exact CalmG.mk 41 (.int .i64 ((x0 * a0 + x1 * a1 + x2 * a2) % p)) rfl rfl rfl (fun W hW => calm_run (by simp [execOp, Act.eval, go_sem, hpn, m5, m6]))
      intro g W hW hg hgc
      simp only [List.drop_succ_cons, List.drop_zero, Act.put, List.setIfInBounds_toArray, List.set_cons_zero, List.set_cons_succ]
      have Jx := Lib.hid ((hW.block _ lx).trans kx)
      have Ja := Lib.hid ((hW.block _ la).trans ka)
      have Jr := Lib.hid ((hW.block _ lr).trans kr)
      have HO2 := Lib.hid (own_below HO.out hW)
      have HB2 := Lib.hid (low_tr' HB.out hW HB.out.size)
      have HS := Lib.hid (show [(x0 * a0 + x1 * a1 + x2 * a2) % p, (x3 * a0 + x4 * a1 + x5 * a2) % p, (x6 * a0 + x7 * a1 + x8 * a2) % p].take 0 ++ [(x0 * a0 + x1 * a1 + x2 * a2) % p] = [(x0 * a0 + x1 * a1 + x2 * a2) % p, (x3 * a0 + x4 * a1 + x5 * a2) % p, (x6 * a0 + x7 * a1 + x8 * a2) % p].take (0 + 1) from rfl)
      have d0 : W.cell? ⟨g, 0, none⟩ = some (.int .i64 ((x0 * a0 + x1 * a1 + x2 * a2) % p)) := by rw [cell_of_row W _ 0 _ _ _ hgc]; rfl
      have HD := Lib.hid (src1 d0)
      have hsz : w.heap.size + 1 + 1 + 1 ≤ W.heap.size := by have := (Array.getElem?_eq_some_iff.1 Jr.out).1; omega
      clear kx ka kr HO HB hW hgc d0 lx la lr m0 m1 m2 m3 m4 m5 m6
      go_wp2_with (at_builtin; refine wpList_append_own _ rfl _ _ 22 rfl (w.heap.size + 1 + 1 + 1) 2 i0 (.int .i64 0) 1 8 Try.underlying22 HI0.out HZ0.out HZ1.out HZ2.out rfl (by decide) _ _ _ rfl HO2.out ⟨g, 0, none⟩ 1 1 [.int .i64 ((x0 * a0 + x1 * a1 + x2 * a2) % p)] rfl rfl HD.out (oneA _) (by unfold maxLen; omega) (by omega) hsz ?_; intro v2 w2 hown hgrow _; have HO3 := Lib.hid hown; have HG := Lib.hid hgrow; clear hown hgrow)
      have hb := own_base' HO2.out
      have ne : ∀ a, a < w.heap.size + 1 + 1 + 1 → some a ≠ u7.ownBlock := fun a ha e => by have := hb a e.symm; omega
      go_roundw
      case rel => exact ⟨1, by omega, rfl, Lib.hid (by rw [← HS.out, ints_app]; exact HO3.out), by rw [HG.out.block _ (Array.getElem?_eq_some_iff.1 Jx.out).1 (ne _ (by omega))]; exact Jx.out, by rw [HG.out.block _ (Array.getElem?_eq_some_iff.1 Ja.out).1 (ne _ (by omega))]; exact Ja.out, by rw [HG.out.block _ (Array.getElem?_eq_some_iff.1 Jr.out).1 (ne _ (by omega))]; exact Jr.out, Lib.hid (HB2.out.grown HG.out HB2.out.size (fun k' hk' => by have := hb k' hk'; omega))⟩
      case measure => simp [intOf]
    · clear hk
      have lx := (Array.getElem?_eq_some_iff.1 kx).1
      have la := (Array.getElem?_eq_some_iff.1 ka).1
      have lr := (Array.getElem?_eq_some_iff.1 kr).1
      obtain ⟨m0, m1, m2, m3, m4, m5, m6⟩ := w_1.out
      go_wp2
      refine region_boxvia 27 26 42 (fun g => .slice (some ⟨g, 0, none⟩) 1 1) #[.int .i64 ((x3 * a0 + x4 * a1 + x5 * a2) % p)] 2 [(16, u7), (17, .int .i64 1), (18, .pointer (some ⟨w.heap.size, 3, none⟩)), (19, .pointer (some ⟨w.heap.size, 3, none⟩)), (20, .int .i64 x3), (21, .pointer (some ⟨w.heap.size + 1, 0, none⟩)), (22, .int .i64 a0), (23, .int .i64 (x3 * a0)), (24, .int .i64 1), (25, .pointer (some ⟨w.heap.size, 3, none⟩)), (26, .pointer (some ⟨w.heap.size, 4, none⟩)), (27, .int .i64 x4), (28, .pointer (some ⟨w.heap.size + 1, 1, none⟩)), (29, .int .i64 a1), (30, .int .i64 (x4 * a1)), (31, .int .i64 (x3 * a0 + x4 * a1)), (32, .int .i64 1), (33, .pointer (some ⟨w.heap.size, 3, none⟩)), (34, .pointer (some ⟨w.heap.size, 5, none⟩)), (35, .int .i64 x5), (36, .pointer (some ⟨w.heap.size + 1, 2, none⟩)), (37, .int .i64 a2), (38, .int .i64 (x5 * a2)), (39, .int .i64 (x3 * a0 + x4 * a1 + x5 * a2)), (40, .int .i64 p), (41, .int .i64 ((x3 * a0 + x4 * a1 + x5 * a2) % p))] (by kernel_rfl) (by decide) rfl (by kernel_rfl) (by kernel_rfl) (by kernel_rfl) (by decide) (by simp) (by kernel_rfl) (fun aE hpe => ?_)
      simp only [puts, Act.put, List.setIfInBounds_toArray, List.set_cons_zero, List.set_cons_succ] at hpe
      subst hpe
      refine ⟨?_, ⟨.inr (.inr ?_), .inr (.inr ?_), .inr (.inr ?_), .inr (.inr ?_), .inr (.inr ?_), .inr (.inr ?_), .inr (.inr ?_), .inr (.inr ?_), .inr (.inr ?_), .inr (.inr ?_), .inr (.inr ?_), .inr (.inr ?_), .inr (.inr ?_), .inr (.inr ?_), .inr (.inr ?_), .inr (.inr ?_), .inr (.inr ?_), .inr (.inr ?_), .inr (.inr ?_), .inr (.inr ?_), .inr (.inr ?_), .inr (.inr ?_), .inr (.inr ?_), .inr (.inr ?_), .inr (.inr ?_), .inr (.inr ?_), .inl rfl, trivial⟩, ?_⟩
      · intro ρ W hr
        have r0 : ρ (.tmp 41) = .int .i64 ((x3 * a0 + x4 * a1 + x5 * a2) % p) := hr 41 (by simp [readsOf, Op.operands])
        simp [execOp, go_sem, r0]
      · exact CalmG.mk 16 (u7) rfl rfl rfl (fun W hW => calm_move (.tmp 7) rfl rfl)
      · exact CalmG.mk 17 (.int .i64 1) rfl rfl rfl (fun W hW => calm_move (.tmp 8) rfl rfl)
      · exact CalmG.mk 18 (.pointer (some ⟨w.heap.size, 3, none⟩)) rfl rfl rfl (fun W hW => calm_run (by simp [execOp, Act.eval, go_sem]))
      · exact CalmG.mk 19 (.pointer (some ⟨w.heap.size, 3, none⟩)) rfl rfl rfl (fun W hW => calm_run (by simp [execOp, Act.eval, go_sem]))
      · exact CalmG.mk 20 (.int .i64 x3) rfl rfl rfl (fun W hW => calm_run (by have hc := row_int (off := 3) (z := x3) ((hW.block _ lx).trans kx) rfl; simp [execOp, Act.eval, go_sem, hc]))
      · exact CalmG.mk 21 (.pointer (some ⟨w.heap.size + 1, 0, none⟩)) rfl rfl rfl (fun W hW => calm_run (by simp [execOp, Act.eval, go_sem]))
      · exact CalmG.mk 22 (.int .i64 a0) rfl rfl rfl (fun W hW => calm_run (by have hc := row_int (off := 0) (z := a0) ((hW.block _ la).trans ka) rfl; simp [execOp, Act.eval, go_sem, hc]))
      · exact CalmG.mk 23 (.int .i64 (x3 * a0)) rfl rfl rfl (fun W hW => calm_run (by simp [execOp, Act.eval, go_sem, m0]))
      · exact CalmG.mk 24 (.int .i64 1) rfl rfl rfl (fun W hW => calm_move (.tmp 8) rfl rfl)
      · exact CalmG.mk 25 (.pointer (some ⟨w.heap.size, 3, none⟩)) rfl rfl rfl (fun W hW => calm_run (by simp [execOp, Act.eval, go_sem]))
      · exact CalmG.mk 26 (.pointer (some ⟨w.heap.size, 4, none⟩)) rfl rfl rfl (fun W hW => calm_run (by simp [execOp, Act.eval, go_sem]))
      · exact CalmG.mk 27 (.int .i64 x4) rfl rfl rfl (fun W hW => calm_run (by have hc := row_int (off := 4) (z := x4) ((hW.block _ lx).trans kx) rfl; simp [execOp, Act.eval, go_sem, hc]))
      · exact CalmG.mk 28 (.pointer (some ⟨w.heap.size + 1, 1, none⟩)) rfl rfl rfl (fun W hW => calm_run (by simp [execOp, Act.eval, go_sem]))
      · exact CalmG.mk 29 (.int .i64 a1) rfl rfl rfl (fun W hW => calm_run (by have hc := row_int (off := 1) (z := a1) ((hW.block _ la).trans ka) rfl; simp [execOp, Act.eval, go_sem, hc]))
      · exact CalmG.mk 30 (.int .i64 (x4 * a1)) rfl rfl rfl (fun W hW => calm_run (by simp [execOp, Act.eval, go_sem, m1]))
      · exact CalmG.mk 31 (.int .i64 (x3 * a0 + x4 * a1)) rfl rfl rfl (fun W hW => calm_run (by simp [execOp, Act.eval, go_sem, m3]))
      · exact CalmG.mk 32 (.int .i64 1) rfl rfl rfl (fun W hW => calm_move (.tmp 8) rfl rfl)
      · exact CalmG.mk 33 (.pointer (some ⟨w.heap.size, 3, none⟩)) rfl rfl rfl (fun W hW => calm_run (by simp [execOp, Act.eval, go_sem]))
      · exact CalmG.mk 34 (.pointer (some ⟨w.heap.size, 5, none⟩)) rfl rfl rfl (fun W hW => calm_run (by simp [execOp, Act.eval, go_sem]))
      · exact CalmG.mk 35 (.int .i64 x5) rfl rfl rfl (fun W hW => calm_run (by have hc := row_int (off := 5) (z := x5) ((hW.block _ lx).trans kx) rfl; simp [execOp, Act.eval, go_sem, hc]))
      · exact CalmG.mk 36 (.pointer (some ⟨w.heap.size + 1, 2, none⟩)) rfl rfl rfl (fun W hW => calm_run (by simp [execOp, Act.eval, go_sem]))
      · exact CalmG.mk 37 (.int .i64 a2) rfl rfl rfl (fun W hW => calm_run (by have hc := row_int (off := 2) (z := a2) ((hW.block _ la).trans ka) rfl; simp [execOp, Act.eval, go_sem, hc]))
      · exact CalmG.mk 38 (.int .i64 (x5 * a2)) rfl rfl rfl (fun W hW => calm_run (by simp [execOp, Act.eval, go_sem, m2]))
      · exact CalmG.mk 39 (.int .i64 (x3 * a0 + x4 * a1 + x5 * a2)) rfl rfl rfl (fun W hW => calm_run (by simp [execOp, Act.eval, go_sem, m4]))
      · exact CalmG.mk 40 (.int .i64 p) rfl rfl rfl (fun W hW => calm_move (.tmp 0) rfl rfl)
      · exact CalmG.mk 41 (.int .i64 ((x3 * a0 + x4 * a1 + x5 * a2) % p)) rfl rfl rfl (fun W hW => calm_run (by simp [execOp, Act.eval, go_sem, hpn, m5, m6]))
      intro g W hW hg hgc
      simp only [List.drop_succ_cons, List.drop_zero, Act.put, List.setIfInBounds_toArray, List.set_cons_zero, List.set_cons_succ]
      have Jx := Lib.hid ((hW.block _ lx).trans kx)
      have Ja := Lib.hid ((hW.block _ la).trans ka)
      have Jr := Lib.hid ((hW.block _ lr).trans kr)
      have HO2 := Lib.hid (own_below HO.out hW)
      have HB2 := Lib.hid (low_tr' HB.out hW HB.out.size)
      have HS := Lib.hid (show [(x0 * a0 + x1 * a1 + x2 * a2) % p, (x3 * a0 + x4 * a1 + x5 * a2) % p, (x6 * a0 + x7 * a1 + x8 * a2) % p].take 1 ++ [(x3 * a0 + x4 * a1 + x5 * a2) % p] = [(x0 * a0 + x1 * a1 + x2 * a2) % p, (x3 * a0 + x4 * a1 + x5 * a2) % p, (x6 * a0 + x7 * a1 + x8 * a2) % p].take (1 + 1) from rfl)
      have d0 : W.cell? ⟨g, 0, none⟩ = some (.int .i64 ((x3 * a0 + x4 * a1 + x5 * a2) % p)) := by rw [cell_of_row W _ 0 _ _ _ hgc]; rfl
      have HD := Lib.hid (src1 d0)
      have hsz : w.heap.size + 1 + 1 + 1 ≤ W.heap.size := by have := (Array.getElem?_eq_some_iff.1 Jr.out).1; omega
      clear kx ka kr HO HB hW hgc d0 lx la lr m0 m1 m2 m3 m4 m5 m6
      go_wp2_with (at_builtin; refine wpList_append_own _ rfl _ _ 22 rfl (w.heap.size + 1 + 1 + 1) 2 i0 (.int .i64 0) 1 8 Try.underlying22 HI0.out HZ0.out HZ1.out HZ2.out rfl (by decide) _ _ _ rfl HO2.out ⟨g, 0, none⟩ 1 1 [.int .i64 ((x3 * a0 + x4 * a1 + x5 * a2) % p)] rfl rfl HD.out (oneA _) (by unfold maxLen; omega) (by omega) hsz ?_; intro v2 w2 hown hgrow _; have HO3 := Lib.hid hown; have HG := Lib.hid hgrow; clear hown hgrow)
      have hb := own_base' HO2.out
      have ne : ∀ a, a < w.heap.size + 1 + 1 + 1 → some a ≠ u7.ownBlock := fun a ha e => by have := hb a e.symm; omega
      go_roundw
      case rel => exact ⟨2, by omega, rfl, Lib.hid (by rw [← HS.out, ints_app]; exact HO3.out), by rw [HG.out.block _ (Array.getElem?_eq_some_iff.1 Jx.out).1 (ne _ (by omega))]; exact Jx.out, by rw [HG.out.block _ (Array.getElem?_eq_some_iff.1 Ja.out).1 (ne _ (by omega))]; exact Ja.out, by rw [HG.out.block _ (Array.getElem?_eq_some_iff.1 Jr.out).1 (ne _ (by omega))]; exact Jr.out, Lib.hid (HB2.out.grown HG.out HB2.out.size (fun k' hk' => by have := hb k' hk'; omega))⟩
      case measure => simp [intOf]
    · clear hk
      have lx := (Array.getElem?_eq_some_iff.1 kx).1
      have la := (Array.getElem?_eq_some_iff.1 ka).1
      have lr := (Array.getElem?_eq_some_iff.1 kr).1
      obtain ⟨m0, m1, m2, m3, m4, m5, m6⟩ := w_2.out
      go_wp2
      refine region_boxvia 27 26 42 (fun g => .slice (some ⟨g, 0, none⟩) 1 1) #[.int .i64 ((x6 * a0 + x7 * a1 + x8 * a2) % p)] 2 [(16, u7), (17, .int .i64 2), (18, .pointer (some ⟨w.heap.size, 6, none⟩)), (19, .pointer (some ⟨w.heap.size, 6, none⟩)), (20, .int .i64 x6), (21, .pointer (some ⟨w.heap.size + 1, 0, none⟩)), (22, .int .i64 a0), (23, .int .i64 (x6 * a0)), (24, .int .i64 2), (25, .pointer (some ⟨w.heap.size, 6, none⟩)), (26, .pointer (some ⟨w.heap.size, 7, none⟩)), (27, .int .i64 x7), (28, .pointer (some ⟨w.heap.size + 1, 1, none⟩)), (29, .int .i64 a1), (30, .int .i64 (x7 * a1)), (31, .int .i64 (x6 * a0 + x7 * a1)), (32, .int .i64 2), (33, .pointer (some ⟨w.heap.size, 6, none⟩)), (34, .pointer (some ⟨w.heap.size, 8, none⟩)), (35, .int .i64 x8), (36, .pointer (some ⟨w.heap.size + 1, 2, none⟩)), (37, .int .i64 a2), (38, .int .i64 (x8 * a2)), (39, .int .i64 (x6 * a0 + x7 * a1 + x8 * a2)), (40, .int .i64 p), (41, .int .i64 ((x6 * a0 + x7 * a1 + x8 * a2) % p))] (by kernel_rfl) (by decide) rfl (by kernel_rfl) (by kernel_rfl) (by kernel_rfl) (by decide) (by simp) (by kernel_rfl) (fun aE hpe => ?_)
      simp only [puts, Act.put, List.setIfInBounds_toArray, List.set_cons_zero, List.set_cons_succ] at hpe
      subst hpe
      refine ⟨?_, ⟨.inr (.inr ?_), .inr (.inr ?_), .inr (.inr ?_), .inr (.inr ?_), .inr (.inr ?_), .inr (.inr ?_), .inr (.inr ?_), .inr (.inr ?_), .inr (.inr ?_), .inr (.inr ?_), .inr (.inr ?_), .inr (.inr ?_), .inr (.inr ?_), .inr (.inr ?_), .inr (.inr ?_), .inr (.inr ?_), .inr (.inr ?_), .inr (.inr ?_), .inr (.inr ?_), .inr (.inr ?_), .inr (.inr ?_), .inr (.inr ?_), .inr (.inr ?_), .inr (.inr ?_), .inr (.inr ?_), .inr (.inr ?_), .inl rfl, trivial⟩, ?_⟩
      · intro ρ W hr
        have r0 : ρ (.tmp 41) = .int .i64 ((x6 * a0 + x7 * a1 + x8 * a2) % p) := hr 41 (by simp [readsOf, Op.operands])
        simp [execOp, go_sem, r0]
      · exact CalmG.mk 16 (u7) rfl rfl rfl (fun W hW => calm_move (.tmp 7) rfl rfl)
      · exact CalmG.mk 17 (.int .i64 2) rfl rfl rfl (fun W hW => calm_move (.tmp 8) rfl rfl)
      · exact CalmG.mk 18 (.pointer (some ⟨w.heap.size, 6, none⟩)) rfl rfl rfl (fun W hW => calm_run (by simp [execOp, Act.eval, go_sem]))
      · exact CalmG.mk 19 (.pointer (some ⟨w.heap.size, 6, none⟩)) rfl rfl rfl (fun W hW => calm_run (by simp [execOp, Act.eval, go_sem]))
      · exact CalmG.mk 20 (.int .i64 x6) rfl rfl rfl (fun W hW => calm_run (by have hc := row_int (off := 6) (z := x6) ((hW.block _ lx).trans kx) rfl; simp [execOp, Act.eval, go_sem, hc]))
      · exact CalmG.mk 21 (.pointer (some ⟨w.heap.size + 1, 0, none⟩)) rfl rfl rfl (fun W hW => calm_run (by simp [execOp, Act.eval, go_sem]))
      · exact CalmG.mk 22 (.int .i64 a0) rfl rfl rfl (fun W hW => calm_run (by have hc := row_int (off := 0) (z := a0) ((hW.block _ la).trans ka) rfl; simp [execOp, Act.eval, go_sem, hc]))
      · exact CalmG.mk 23 (.int .i64 (x6 * a0)) rfl rfl rfl (fun W hW => calm_run (by simp [execOp, Act.eval, go_sem, m0]))
      · exact CalmG.mk 24 (.int .i64 2) rfl rfl rfl (fun W hW => calm_move (.tmp 8) rfl rfl)
      · exact CalmG.mk 25 (.pointer (some ⟨w.heap.size, 6, none⟩)) rfl rfl rfl (fun W hW => calm_run (by simp [execOp, Act.eval, go_sem]))
      · exact CalmG.mk 26 (.pointer (some ⟨w.heap.size, 7, none⟩)) rfl rfl rfl (fun W hW => calm_run (by simp [execOp, Act.eval, go_sem]))
      · exact CalmG.mk 27 (.int .i64 x7) rfl rfl rfl (fun W hW => calm_run (by have hc := row_int (off := 7) (z := x7) ((hW.block _ lx).trans kx) rfl; simp [execOp, Act.eval, go_sem, hc]))
      · exact CalmG.mk 28 (.pointer (some ⟨w.heap.size + 1, 1, none⟩)) rfl rfl rfl (fun W hW => calm_run (by simp [execOp, Act.eval, go_sem]))
      · exact CalmG.mk 29 (.int .i64 a1) rfl rfl rfl (fun W hW => calm_run (by have hc := row_int (off := 1) (z := a1) ((hW.block _ la).trans ka) rfl; simp [execOp, Act.eval, go_sem, hc]))
      · exact CalmG.mk 30 (.int .i64 (x7 * a1)) rfl rfl rfl (fun W hW => calm_run (by simp [execOp, Act.eval, go_sem, m1]))
      · exact CalmG.mk 31 (.int .i64 (x6 * a0 + x7 * a1)) rfl rfl rfl (fun W hW => calm_run (by simp [execOp, Act.eval, go_sem, m3]))
      · exact CalmG.mk 32 (.int .i64 2) rfl rfl rfl (fun W hW => calm_move (.tmp 8) rfl rfl)
      · exact CalmG.mk 33 (.pointer (some ⟨w.heap.size, 6, none⟩)) rfl rfl rfl (fun W hW => calm_run (by simp [execOp, Act.eval, go_sem]))
      · exact CalmG.mk 34 (.pointer (some ⟨w.heap.size, 8, none⟩)) rfl rfl rfl (fun W hW => calm_run (by simp [execOp, Act.eval, go_sem]))
      · exact CalmG.mk 35 (.int .i64 x8) rfl rfl rfl (fun W hW => calm_run (by have hc := row_int (off := 8) (z := x8) ((hW.block _ lx).trans kx) rfl; simp [execOp, Act.eval, go_sem, hc]))
      · exact CalmG.mk 36 (.pointer (some ⟨w.heap.size + 1, 2, none⟩)) rfl rfl rfl (fun W hW => calm_run (by simp [execOp, Act.eval, go_sem]))
      · exact CalmG.mk 37 (.int .i64 a2) rfl rfl rfl (fun W hW => calm_run (by have hc := row_int (off := 2) (z := a2) ((hW.block _ la).trans ka) rfl; simp [execOp, Act.eval, go_sem, hc]))
      · exact CalmG.mk 38 (.int .i64 (x8 * a2)) rfl rfl rfl (fun W hW => calm_run (by simp [execOp, Act.eval, go_sem, m2]))
      · exact CalmG.mk 39 (.int .i64 (x6 * a0 + x7 * a1 + x8 * a2)) rfl rfl rfl (fun W hW => calm_run (by simp [execOp, Act.eval, go_sem, m4]))
      · exact CalmG.mk 40 (.int .i64 p) rfl rfl rfl (fun W hW => calm_move (.tmp 0) rfl rfl)
      · exact CalmG.mk 41 (.int .i64 ((x6 * a0 + x7 * a1 + x8 * a2) % p)) rfl rfl rfl (fun W hW => calm_run (by simp [execOp, Act.eval, go_sem, hpn, m5, m6]))
      intro g W hW hg hgc
      simp only [List.drop_succ_cons, List.drop_zero, Act.put, List.setIfInBounds_toArray, List.set_cons_zero, List.set_cons_succ]
      have Jx := Lib.hid ((hW.block _ lx).trans kx)
      have Ja := Lib.hid ((hW.block _ la).trans ka)
      have Jr := Lib.hid ((hW.block _ lr).trans kr)
      have HO2 := Lib.hid (own_below HO.out hW)
      have HB2 := Lib.hid (low_tr' HB.out hW HB.out.size)
      have HS := Lib.hid (show [(x0 * a0 + x1 * a1 + x2 * a2) % p, (x3 * a0 + x4 * a1 + x5 * a2) % p, (x6 * a0 + x7 * a1 + x8 * a2) % p].take 2 ++ [(x6 * a0 + x7 * a1 + x8 * a2) % p] = [(x0 * a0 + x1 * a1 + x2 * a2) % p, (x3 * a0 + x4 * a1 + x5 * a2) % p, (x6 * a0 + x7 * a1 + x8 * a2) % p].take (2 + 1) from rfl)
      have d0 : W.cell? ⟨g, 0, none⟩ = some (.int .i64 ((x6 * a0 + x7 * a1 + x8 * a2) % p)) := by rw [cell_of_row W _ 0 _ _ _ hgc]; rfl
      have HD := Lib.hid (src1 d0)
      have hsz : w.heap.size + 1 + 1 + 1 ≤ W.heap.size := by have := (Array.getElem?_eq_some_iff.1 Jr.out).1; omega
      clear kx ka kr HO HB hW hgc d0 lx la lr m0 m1 m2 m3 m4 m5 m6
      go_wp2_with (at_builtin; refine wpList_append_own _ rfl _ _ 22 rfl (w.heap.size + 1 + 1 + 1) 2 i0 (.int .i64 0) 1 8 Try.underlying22 HI0.out HZ0.out HZ1.out HZ2.out rfl (by decide) _ _ _ rfl HO2.out ⟨g, 0, none⟩ 1 1 [.int .i64 ((x6 * a0 + x7 * a1 + x8 * a2) % p)] rfl rfl HD.out (oneA _) (by unfold maxLen; omega) (by omega) hsz ?_; intro v2 w2 hown hgrow _; have HO3 := Lib.hid hown; have HG := Lib.hid hgrow; clear hown hgrow)
      have hb := own_base' HO2.out
      have ne : ∀ a, a < w.heap.size + 1 + 1 + 1 → some a ≠ u7.ownBlock := fun a ha e => by have := hb a e.symm; omega
      go_roundw
      case rel => exact ⟨3, by omega, rfl, Lib.hid (by rw [← HS.out, ints_app]; exact HO3.out), by rw [HG.out.block _ (Array.getElem?_eq_some_iff.1 Jx.out).1 (ne _ (by omega))]; exact Jx.out, by rw [HG.out.block _ (Array.getElem?_eq_some_iff.1 Ja.out).1 (ne _ (by omega))]; exact Ja.out, by rw [HG.out.block _ (Array.getElem?_eq_some_iff.1 Jr.out).1 (ne _ (by omega))]; exact Jr.out, Lib.hid (HB2.out.grown HG.out HB2.out.size (fun k' hk' => by have := hb k' hk'; omega))⟩
      case measure => simp [intOf]
    · have ho3 : wr.ownsRow (w.heap.size + 1 + 1 + 1) 2 1 u7 3 (ints [(x0 * a0 + x1 * a1 + x2 * a2) % p, (x3 * a0 + x4 * a1 + x5 * a2) % p, (x6 * a0 + x7 * a1 + x8 * a2) % p]) := HO.out
      obtain ⟨g5, cap5, rfl, hb5, hpt5⟩ := ownInts' ho3 rfl (by omega)
      have HP5 := Lib.hid hpt5
      have lr := (Array.getElem?_eq_some_iff.1 kr).1
      have HR := Lib.hid kr
      clear HO ho3 hpt5 hk kx ka kr w_0 w_1 w_2
      go_wp2_with (go_at_call 87; refine (HNo.out _ _ _ HP5.out).mono ?_; rintro e w1 ⟨v1, rfl, ho, hb⟩; rw [HNl.out] at ho; obtain ⟨gN, capN, rfl, hbN, hptN⟩ := ownInts' (n := 3) ho rfl (by omega); have HPN := Lib.hid hptN; have HB1 := Lib.hid hb; clear ho hptN hb)
      have jr := Lib.hid ((HB1.out.block _ lr).trans HR.out)
      have HBq := Lib.hid (low_tr' HB.out HB1.out HB.out.size)
      have ljr := (Array.getElem?_eq_some_iff.1 jr.out).1
      clear HB HB1 HR lr HP5 HNo HNl
      refine region_via 10 [(50, .slice (some ⟨gN, 0, none⟩) 3 capN), (51, .pointer (some ⟨gN, 0, none⟩)), (52, .int .i64 r0), (53, .slice (some ⟨gN, 0, none⟩) 3 capN), (54, .pointer (some ⟨gN, 1, none⟩)), (55, .int .i64 r1), (56, .slice (some ⟨gN, 0, none⟩) 3 capN), (57, .pointer (some ⟨gN, 2, none⟩)), (58, .int .i64 r2), (59, .agg #[.int .i64 r0, .int .i64 r1, .int .i64 r2])] (by kernel_rfl) (by decide) (by kernel_rfl) (by kernel_rfl) (by kernel_rfl) (fun aE hpe => ?_)
      simp only [puts, Act.put, List.setIfInBounds_toArray, List.set_cons_zero, List.set_cons_succ] at hpe
      subst hpe
      refine ⟨⟨.inr (.inr ?_), .inr (.inr ?_), .inr (.inr ?_), .inr (.inr ?_), .inr (.inr ?_), .inr (.inr ?_), .inr (.inr ?_), .inr (.inr ?_), .inr (.inr ?_), .inr (.inr ?_), trivial⟩, ?_⟩
      · exact CalmG.mk 50 (.slice (some ⟨gN, 0, none⟩) 3 capN) rfl rfl rfl (fun W hW => calm_move (.tmp 9) rfl rfl)
      · exact CalmG.mk 51 (.pointer (some ⟨gN, 0, none⟩)) rfl rfl rfl (fun W hW => calm_run (by simp [execOp, Act.eval, go_sem]))
      · exact CalmG.mk 52 (.int .i64 r0) rfl rfl rfl (fun W hW => calm_run (by have hc : W.cell? ⟨gN, 0, none⟩ = some (.int .i64 r0) := cell_below hW (HPN.out 0 (by omega)); simp [execOp, Act.eval, go_sem, hc]))
      · exact CalmG.mk 53 (.slice (some ⟨gN, 0, none⟩) 3 capN) rfl rfl rfl (fun W hW => calm_move (.tmp 9) rfl rfl)
      · exact CalmG.mk 54 (.pointer (some ⟨gN, 1, none⟩)) rfl rfl rfl (fun W hW => calm_run (by simp [execOp, Act.eval, go_sem]))
      · exact CalmG.mk 55 (.int .i64 r1) rfl rfl rfl (fun W hW => calm_run (by have hc : W.cell? ⟨gN, 1, none⟩ = some (.int .i64 r1) := cell_below hW (HPN.out 1 (by omega)); simp [execOp, Act.eval, go_sem, hc]))
      · exact CalmG.mk 56 (.slice (some ⟨gN, 0, none⟩) 3 capN) rfl rfl rfl (fun W hW => calm_move (.tmp 9) rfl rfl)
      · exact CalmG.mk 57 (.pointer (some ⟨gN, 2, none⟩)) rfl rfl rfl (fun W hW => calm_run (by simp [execOp, Act.eval, go_sem]))
      · exact CalmG.mk 58 (.int .i64 r2) rfl rfl rfl (fun W hW => calm_run (by have hc : W.cell? ⟨gN, 2, none⟩ = some (.int .i64 r2) := cell_below hW (HPN.out 2 (by omega)); simp [execOp, Act.eval, go_sem, hc]))
      · exact CalmG.mk 59 (.agg #[.int .i64 r0, .int .i64 r1, .int .i64 r2]) rfl rfl rfl (fun W hW => calm_build 55 _ #[.int .i64 r0, .int .i64 r1, .int .i64 r2] rfl (by kernel_rfl))
      intro W hW
      simp only [List.drop_succ_cons, List.drop_zero]
      refine wpList_store_row _ rfl 55 _ _ rfl rfl (g := w.heap.size + 1 + 1) (T := 55) (cs := #[.int .i64 0, .int .i64 0, .int .i64 0]) (U := #[.int .i64 r0, .int .i64 r1, .int .i64 r2]) rfl rfl ((hW.block _ ljr).trans jr.out) rfl Try.sizeOf55 (by simp [Value.oneCell']) ?_
      refine wpList_nil ?_
      go_wp2
      exact bodyPost_ret (v := .agg #[.int .i64 r0, .int .i64 r1, .int .i64 r2]) (results_row Try.results65 rfl (setRow_heap _ _ #[.int .i64 0, .int .i64 0, .int .i64 0] _ _ _ ((hW.block _ ljr).trans jr.out)) 3 rfl Try.sizeOf55 Try.isAgg55) rfl ⟨rfl, below_setRowN (low_tr' HBq.out hW HBq.out.size) (by omega) _⟩
end Go.Proofs.Ytkhaiphipdpgeaa
/- Contracts: orbits of a point, the program's and the reference's. (Printed by gent3.py, a program of this session.) -/
namespace Go.Proofs.Ytkhaiphipdpgeaa
open Go.RowKit
set_option linter.unusedVariables false
set_option linter.unusedSimpArgs false
theorem own_lt {w : World} {base : Nat} {e : TypeId} {size n : Nat} {v : Value} {xs : List Value} (h : w.ownsRow base e size v n xs) (k : Nat) (hk : v.ownBlock = some k) : k < w.heap.size := by
  rcases h.2 with ⟨rfl, _⟩ | ⟨g, cap, cur, rfl, hb, hg, _⟩
  · simp [Value.ownBlock] at hk
  · have : g = k := by simpa [Value.ownBlock] using hk
    rw [← this]
    exact (Array.getElem?_eq_some_iff.1 hg).1
theorem own_same {W W' : World} {base : Nat} {e : TypeId} {size n : Nat} {v : Value} {xs : List Value} (h : W.ownsRow base e size v n xs) (hb : ∀ b, v.ownBlock = some b → W'.heap[b]? = W.heap[b]?) : W'.ownsRow base e size v n xs := by
  refine ⟨h.1, ?_⟩
  rcases h.2 with h0 | ⟨g, cap, cur, rfl, hb0, hg, hr⟩
  · exact .inl h0
  · exact .inr ⟨g, cap, cur, rfl, hb0, (hb g (by simp [Value.ownBlock])).trans hg, hr⟩
def lenV : Value → Nat
  | .slice _ n _ => n
  | _ => 0
theorem own_len {w : World} {base : Nat} {e : TypeId} {size n : Nat} {v : Value} {xs : List Value} (h : w.ownsRow base e size v n xs) : lenV v = n := by
  rcases h.2 with ⟨rfl, h0⟩ | ⟨g, cap, cur, rfl, _⟩
  · simp [lenV]; omega
  · rfl
set_option maxRecDepth 20000 in
set_option maxHeartbeats 4000000 in
theorem orbit_any (p : Int) (m : M9) (a : Pt) (k : Nat) (w : World) (hO : Orb p m a k) :
    Calls Try.prog 55 #[.int .i64 p, .agg (cellsM9 m), ptV a.1 a.2.1 a.2.2] w (PtsPost w (orbL p m a k)) := by
  obtain ⟨i0, hi, hz0, hz1, hz2⟩ := info_parts infoPo
  have HI0 := Lib.hid hi; have HZ0 := Lib.hid hz0; have HZ1 := Lib.hid hz1; have HZ2 := Lib.hid hz2
  have HIm : Hid (∀ (j : Nat) (W : World), Calls Try.prog 68 #[.int .i64 p, .agg (cellsM9 m), ptV (orbA p m a j).1 (orbA p m a j).2.1 (orbA p m a j).2.2] W (Ret W (ptV (orbA p m a (j + 1)).1 (orbA p m a (j + 1)).2.1 (orbA p m a (j + 1)).2.2))) :=
    Lib.hid (fun j W => image_any p m (orbA p m a j) W hO.pr hO.inm (orbA_in hO.pr hO.inp j))
  have HNo := Lib.hid hO.no
  have HBk := Lib.hid hO.back
  have HA0 : Hid (orbA p m a 0 = a) := Lib.hid rfl
  have HLn := Lib.hid (orbL_length p m a)
  have HSn := Lib.hid (fun j => orbL_succ p m a j)
  have HL0 : Hid (orbL p m a 0 = []) := Lib.hid rfl
  obtain ⟨hk0, hk1⟩ := hO.pos
  clear hi hz0 hz1 hz2 hO
  generalize orbA p m a = A at *
  generalize orbL p m a = Ls at *
  obtain ⟨⟨x0, x1, x2⟩, ⟨x3, x4, x5⟩, ⟨x6, x7, x8⟩⟩ := m
  obtain ⟨a0, a1, a2⟩ := a
  dsimp only [cellsM9] at *
  obtain ⟨y, hy⟩ : ∃ y, A 1 = y := ⟨_, rfl⟩
  obtain ⟨y0, y1, y2⟩ := y
  have HY := Lib.hid hy
  have HI1 := Lib.hid (HIm.out 0)
  rw [HA0.out, hy] at HI1
  clear hy
  go_enter Try.func55, Try.ntmps55
  go_wp2_with (first
    | (refine wpList_load_row _ rfl 68 _ rfl (g := w.heap.size) (T := 68) (cs := #[.int .i64 x0, .int .i64 x1, .int .i64 x2, .int .i64 x3, .int .i64 x4, .int .i64 x5, .int .i64 x6, .int .i64 x7, .int .i64 x8]) (fr := (0, 0)) rfl (by rw [hn_pastN _ _ _ (by first | omega | (simp; done) | (simp; omega)), hn_pastN _ _ _ (by first | omega | (simp; done) | (simp; omega)), hn_atN _ _ _ (by simp)]) 9 rfl Try.sizeOf68 Try.isAgg68 ?_)
    | (go_at_call 68; (with_reducible refine (HI1.out _).mono ?_); rintro e w1_ ⟨rfl, hb1⟩; obtain ⟨hcb1, hfb1, hlb1⟩ := bcell hb1; have hsz1 := hb1.size; (try simp at hsz1); have HB1 := Lib.hid hb1; clear hb1; (try (have hl01 : w.heap.size < w1_.heap.size := by omega)); (try (have hl11 : w.heap.size + 1 < w1_.heap.size := by omega)); (try (have hl21 : w.heap.size + 1 + 1 < w1_.heap.size := by omega)))
    | (refine wpList_store_row _ rfl 55 _ _ rfl rfl (U := #[.int .i64 y0, .int .i64 y1, .int .i64 y2]) rfl rfl (heap_alloc_new _ _) rfl Try.sizeOf55 (by simp [Value.oneCell']) ?_; rw [alloc_setRow]))
  have hs1 := HB1.out.size
  try simp at hs1
  have kx := Lib.hid (show (w1_.alloc (.cells #[.int .i64 y0, .int .i64 y1, .int .i64 y2] 55)).heap[w.heap.size]? = some (.cells #[.int .i64 x0, .int .i64 x1, .int .i64 x2, .int .i64 x3, .int .i64 x4, .int .i64 x5, .int .i64 x6, .int .i64 x7, .int .i64 x8] 68 (0, 0)) by rw [hn_pastN _ _ _ (by omega), HB1.out.block _ (by first | omega | (simp; done) | (simp; omega)), hn_pastN _ _ _ (by first | omega | (simp; done) | (simp; omega)), hn_pastN _ _ _ (by first | omega | (simp; done) | (simp; omega)), hn_atN _ _ _ (by simp)])
  have ka := Lib.hid (show (w1_.alloc (.cells #[.int .i64 y0, .int .i64 y1, .int .i64 y2] 55)).heap[w.heap.size + 1]? = some (.cells #[.int .i64 a0, .int .i64 a1, .int .i64 a2] 55 (0, 0)) by rw [hn_pastN _ _ _ (by omega), HB1.out.block _ (by simp), hn_pastN _ _ _ (by first | omega | (simp; done) | (simp; omega)), hn_atN _ _ _ (by simp)])
  have kb := Lib.hid (show (w1_.alloc (.cells #[.int .i64 y0, .int .i64 y1, .int .i64 y2] 55)).heap[w1_.heap.size]? = some (.cells #[.int .i64 y0, .int .i64 y1, .int .i64 y2] 55 (0, 0)) by rw [hn_atN _ _ _ rfl])
  have ko := Lib.hid (show (w1_.alloc (.cells #[.int .i64 y0, .int .i64 y1, .int .i64 y2] 55)).ownsRow (w.heap.size + 1 + 1) 55 3 (.slice (some ⟨w.heap.size + 1 + 1, 0, none⟩) 1 1) 1 (ptCs (Ls 1)) by rw [HSn.out 0, HL0.out, HA0.out]; exact ⟨rfl, .inr ⟨(w.heap.size + 1 + 1), 1, #[.int .i64 a0, .int .i64 a1, .int .i64 a2], rfl, Nat.le_refl _, by rw [hn_pastN _ _ _ (by omega), HB1.out.block _ (by simp), hn_atN _ _ _ (by simp)], Nat.le_refl _, by unfold maxLen; omega, rfl, rfl⟩⟩)
  have hbl := Lib.hid (show Below w.heap.size w (w1_.alloc (.cells #[.int .i64 y0, .int .i64 y1, .int .i64 y2] 55)) from (by repeat (first | exact Below.refl _ _ | refine bset ?_ _ _ (by omega) _ | refine bal ?_ _ | refine bdrN ?_ _ | refine bdr ?_ | refine below_tr' ?_ HB1.out)))
  generalize hV : w1_.alloc (.cells #[.int .i64 y0, .int .i64 y1, .int .i64 y2] 55) = V at *
  clear HI1
  go_loopw [7, 8] (fun v c wr => ∃ (j gb : Nat) (y0 y1 y2 : Int), 1 ≤ j ∧ j ≤ k ∧ Hid (A j = (y0, y1, y2)) ∧ c = .pointer (some ⟨gb, 0, none⟩) ∧ Hid (wr.ownsRow (w.heap.size + 1 + 1) 55 3 v j (ptCs (Ls j))) ∧ Hid (wr.heap[gb]? = some (.cells #[.int .i64 y0, .int .i64 y1, .int .i64 y2] 55 (0, 0))) ∧ Hid (wr.heap[w.heap.size]? = some (.cells #[.int .i64 x0, .int .i64 x1, .int .i64 x2, .int .i64 x3, .int .i64 x4, .int .i64 x5, .int .i64 x6, .int .i64 x7, .int .i64 x8] 68 (0, 0))) ∧ Hid (wr.heap[w.heap.size + 1]? = some (.cells #[.int .i64 a0, .int .i64 a1, .int .i64 a2] 55 (0, 0))) ∧ Hid (v.ownBlock ≠ some gb) ∧ w.heap.size + 1 + 1 ≤ gb ∧ Hid (Below w.heap.size w wr)) (fun v _ wr => k - (lenV v))
  case atStart => exact ⟨1, w1_.heap.size, y0, y1, y2, Nat.le_refl _, hk0, HY, rfl, ko, kb, kx, ka, Lib.hid (by simp [Value.ownBlock]; omega), by omega, hbl⟩
  case round =>
    clear ko kb kx ka hbl HY
    obtain ⟨j, gb, y0, y1, y2, hj1, hjk, HY, rfl, HO, KB, KX, KA, HNe, hgb, HB⟩ := hrel
    have kb := KB.out
    have ka := KA.out
    have lb := (Array.getElem?_eq_some_iff.1 kb).1
    have hlen : lenV u7 = j := by have := own_len HO.out; exact this
    by_cases hlt : j < k
    · have hne : eqP (y0, y1, y2) (a0, a1, a2) = false := by
        cases he : eqP (y0, y1, y2) (a0, a1, a2) with
        | false => rfl
        | true => exact absurd (HY.out.trans (eqP_iff.1 he)) (HNo.out j (by omega) hlt)
      obtain ⟨z, hz⟩ : ∃ z, A (j + 1) = z := ⟨_, rfl⟩
      obtain ⟨z0, z1, z2⟩ := z
      have HZz := Lib.hid hz
      have HIj := Lib.hid (HIm.out j)
      rw [hz, HY.out] at HIj
      clear hz
      have hNe := HNe.out
      have lx := (Array.getElem?_eq_some_iff.1 KX.out).1
      have la := (Array.getElem?_eq_some_iff.1 ka).1
      have hns := own_base' HO.out
      have HNs := Lib.hid hns
      clear hns hNe
      go_wp2_with (first
        | (at_builtin; go_loud (refine wpList_append_own _ rfl _ _ 51 rfl (w.heap.size + 1 + 1) 55 i0 (.agg #[.int .i64 0, .int .i64 0, .int .i64 0]) 3 24 Try.underlying51 HI0.out HZ0.out HZ1.out HZ2.out rfl (by decide) _ _ _ rfl (HO.out.alloc _) ⟨wr.heap.size, 0, none⟩ 1 1 [.int .i64 y0, .int .i64 y1, .int .i64 y2] rfl rfl (newP _ _ _ _ _) (oneP _ _ _) (by unfold maxLen; omega) (by omega) (by first | omega | (simp; done) | (simp; omega)) ?_; intro v2 w2 hown hgrow _; have HO2 := Lib.hid hown; have HG := Lib.hid hgrow; clear hown hgrow; have kb2 : w2.heap[gb]? = some (.cells #[.int .i64 y0, .int .i64 y1, .int .i64 y2] 55 (0, 0)) := (by rw [HG.out.block gb (by first | omega | (simp; done) | (simp; omega)) (fun e => HNe.out e.symm), hn_pastN _ _ _ lb]; exact kb); have KX2 := Lib.hid (show w2.heap[w.heap.size]? = some (.cells #[.int .i64 x0, .int .i64 x1, .int .i64 x2, .int .i64 x3, .int .i64 x4, .int .i64 x5, .int .i64 x6, .int .i64 x7, .int .i64 x8] 68 (0, 0)) by rw [HG.out.block (w.heap.size) (by first | omega | (simp; done) | (simp; omega)) (fun e => by have := HNs.out _ e.symm; omega), hn_pastN _ _ _ lx]; exact KX.out); have KA2 := Lib.hid (show w2.heap[w.heap.size + 1]? = some (.cells #[.int .i64 a0, .int .i64 a1, .int .i64 a2] 55 (0, 0)) by rw [HG.out.block (w.heap.size + 1) (by first | omega | (simp; done) | (simp; omega)) (fun e => by have := HNs.out _ e.symm; omega), hn_pastN _ _ _ la]; exact KA.out); have lx2 := (Array.getElem?_eq_some_iff.1 KX2.out).1; have la2 := (Array.getElem?_eq_some_iff.1 KA2.out).1))
        | (refine wpList_load_row _ rfl 55 _ rfl (g := gb) (T := 55) (cs := #[.int .i64 y0, .int .i64 y1, .int .i64 y2]) (fr := (0, 0)) rfl (kb) 3 rfl Try.sizeOf55 Try.isAgg55 ?_)
        | (refine wpList_load_row _ rfl 55 _ rfl (g := w.heap.size + 1) (T := 55) (cs := #[.int .i64 a0, .int .i64 a1, .int .i64 a2]) (fr := (0, 0)) rfl (ka) 3 rfl Try.sizeOf55 Try.isAgg55 ?_)
        | (refine wpList_load_row _ rfl 55 _ rfl (g := gb) (T := 55) (cs := #[.int .i64 y0, .int .i64 y1, .int .i64 y2]) (fr := (0, 0)) rfl (kb2) 3 rfl Try.sizeOf55 Try.isAgg55 ?_)
        | (refine wpList_load_row _ rfl 55 _ rfl (g := w2.heap.size) (T := 55) (cs := #[.int .i64 y0, .int .i64 y1, .int .i64 y2]) (fr := (0, 0)) rfl (by rw [hn_atN _ _ _ rfl]) 3 rfl Try.sizeOf55 Try.isAgg55 ?_)
        | (refine wpList_load_row _ rfl 68 _ rfl (g := w.heap.size) (T := 68) (cs := #[.int .i64 x0, .int .i64 x1, .int .i64 x2, .int .i64 x3, .int .i64 x4, .int .i64 x5, .int .i64 x6, .int .i64 x7, .int .i64 x8]) (fr := (0, 0)) rfl (by rw [hn_pastN _ _ _ lx2]; exact KX2.out) 9 rfl Try.sizeOf68 Try.isAgg68 ?_)
        | (go_at_call 68; (with_reducible refine (HIj.out _).mono ?_); rintro e w3_ ⟨rfl, hb3⟩; obtain ⟨hcb3, hfb3, hlb3⟩ := bcell hb3; have hsz3 := hb3.size; (try simp at hsz3); have HB3 := Lib.hid hb3; clear hb3; (try (have hl03 : w.heap.size < w3_.heap.size := by omega)))
        | (refine wpList_store_row _ rfl 55 _ _ rfl rfl (U := #[.int .i64 y0, .int .i64 y1, .int .i64 y2]) rfl rfl (heap_alloc_new _ _) rfl Try.sizeOf55 (by simp [Value.oneCell']) ?_; rw [alloc_setRow])
        | (refine wpList_store_row _ rfl 55 _ _ rfl rfl (g := w2.heap.size) (T := 55) (cs := #[.int .i64 y0, .int .i64 y1, .int .i64 y2]) (U := #[.int .i64 z0, .int .i64 z1, .int .i64 z2]) rfl rfl (by rw [HB3.out.block _ (by simp), hn_atN _ _ _ rfl]) rfl Try.sizeOf55 (by simp [Value.oneCell']) ?_))
      have hs3 := HB3.out.size
      try simp at hs3
      have hl2 := own_lt HO2.out
      have hb2 := own_base' HO2.out
      have q2 : Below w.heap.size w w2 := (bal HB.out _).grown HG.out (by have := HB.out.size; first | omega | (simp; done) | (simp; omega)) (fun k' hk' => by have := HNs.out k' hk'; omega)
      go_roundw
      case rel => exact ⟨j + 1, w2.heap.size, z0, z1, z2, by omega, by omega, HZz, rfl, Lib.hid (by rw [HSn.out j, ptCs_snoc, HY.out]; exact own_same HO2.out (fun b hb => by have := hl2 b hb; rw [setRow_other _ _ _ _ (by omega), HB3.out.block _ (by first | omega | (simp; done) | (simp; omega)), hn_pastN _ _ _ (by omega)])), Lib.hid (setRow_heap _ _ _ _ _ _ (by rw [HB3.out.block _ (by simp), hn_atN _ _ _ rfl])), Lib.hid (by rw [setRow_other _ _ _ _ (by omega), HB3.out.block _ (by first | omega | (simp; done) | (simp; omega)), hn_pastN _ _ _ lx2]; exact KX2.out), Lib.hid (by rw [setRow_other _ _ _ _ (by omega), HB3.out.block _ (by first | omega | (simp; done) | (simp; omega)), hn_pastN _ _ _ la2]; exact KA2.out), Lib.hid (fun e => by have := hl2 _ e; omega), by omega, Lib.hid (below_setRowN (low_tr' (bal q2 _) HB3.out (by first | omega | (simp; done) | (simp; omega))) (by omega) _)⟩
      case measure => have := own_len HO2.out; simp only [hlen]; omega
    · have hjk2 : j = k := by omega
      subst hjk2
      have hne : eqP (y0, y1, y2) (a0, a1, a2) = true := eqP_iff.2 (HY.out.symm.trans HBk.out)
      go_wp2_with (first
        | (refine wpList_load_row _ rfl 55 _ rfl (g := gb) (T := 55) (cs := #[.int .i64 y0, .int .i64 y1, .int .i64 y2]) (fr := (0, 0)) rfl (kb) 3 rfl Try.sizeOf55 Try.isAgg55 ?_)
        | (refine wpList_load_row _ rfl 55 _ rfl (g := w.heap.size + 1) (T := 55) (cs := #[.int .i64 a0, .int .i64 a1, .int .i64 a2]) (fr := (0, 0)) rfl (ka) 3 rfl Try.sizeOf55 Try.isAgg55 ?_))
      go_ret
      exact ⟨_, rfl, by rw [HLn.out]; exact own_low HO.out (by omega), HB.out⟩
set_option maxRecDepth 20000 in
set_option maxHeartbeats 4000000 in
theorem l02Orbit_any (p : Int) (m : M9) (a : Pt) (k : Nat) (w : World) (hO : Orb p m a k) :
    Calls Try.prog 52 #[.int .i64 p, .agg (cellsM9 m), ptV a.1 a.2.1 a.2.2] w (PtsPost w (orbL p m a k)) := by
  obtain ⟨i0, hi, hz0, hz1, hz2⟩ := info_parts infoPo
  have HI0 := Lib.hid hi; have HZ0 := Lib.hid hz0; have HZ1 := Lib.hid hz1; have HZ2 := Lib.hid hz2
  have HIm : Hid (∀ (j : Nat) (W : World), Calls Try.prog 65 #[.int .i64 p, .agg (cellsM9 m), ptV (orbA p m a j).1 (orbA p m a j).2.1 (orbA p m a j).2.2] W (Ret W (ptV (orbA p m a (j + 1)).1 (orbA p m a (j + 1)).2.1 (orbA p m a (j + 1)).2.2))) :=
    Lib.hid (fun j W => l02Image_any p m (orbA p m a j) W hO.pr hO.inm (orbA_in hO.pr hO.inp j))
  have HNo := Lib.hid hO.no
  have HBk := Lib.hid hO.back
  have HA0 : Hid (orbA p m a 0 = a) := Lib.hid rfl
  have HLn := Lib.hid (orbL_length p m a)
  have HSn := Lib.hid (fun j => orbL_succ p m a j)
  have HL0 : Hid (orbL p m a 0 = []) := Lib.hid rfl
  obtain ⟨hk0, hk1⟩ := hO.pos
  clear hi hz0 hz1 hz2 hO
  generalize orbA p m a = A at *
  generalize orbL p m a = Ls at *
  obtain ⟨⟨x0, x1, x2⟩, ⟨x3, x4, x5⟩, ⟨x6, x7, x8⟩⟩ := m
  obtain ⟨a0, a1, a2⟩ := a
  dsimp only [cellsM9] at *
  obtain ⟨y, hy⟩ : ∃ y, A 1 = y := ⟨_, rfl⟩
  obtain ⟨y0, y1, y2⟩ := y
  have HY := Lib.hid hy
  have HI1 := Lib.hid (HIm.out 0)
  rw [HA0.out, hy] at HI1
  clear hy
  go_enter Try.func52, Try.ntmps52
  go_wp2_with (first
    | (refine wpList_load_row _ rfl 68 _ rfl (g := w.heap.size) (T := 68) (cs := #[.int .i64 x0, .int .i64 x1, .int .i64 x2, .int .i64 x3, .int .i64 x4, .int .i64 x5, .int .i64 x6, .int .i64 x7, .int .i64 x8]) (fr := (0, 0)) rfl (by rw [hn_pastN _ _ _ (by first | omega | (simp; done) | (simp; omega)), hn_pastN _ _ _ (by first | omega | (simp; done) | (simp; omega)), hn_atN _ _ _ (by simp)]) 9 rfl Try.sizeOf68 Try.isAgg68 ?_)
    | (go_at_call 65; (with_reducible refine (HI1.out _).mono ?_); rintro e w1_ ⟨rfl, hb1⟩; obtain ⟨hcb1, hfb1, hlb1⟩ := bcell hb1; have hsz1 := hb1.size; (try simp at hsz1); have HB1 := Lib.hid hb1; clear hb1; (try (have hl01 : w.heap.size < w1_.heap.size := by omega)); (try (have hl11 : w.heap.size + 1 < w1_.heap.size := by omega)); (try (have hl21 : w.heap.size + 1 + 1 < w1_.heap.size := by omega)))
    | (refine wpList_store_row _ rfl 55 _ _ rfl rfl (U := #[.int .i64 y0, .int .i64 y1, .int .i64 y2]) rfl rfl (heap_alloc_new _ _) rfl Try.sizeOf55 (by simp [Value.oneCell']) ?_; rw [alloc_setRow]))
  have hs1 := HB1.out.size
  try simp at hs1
  have kx := Lib.hid (show (w1_.alloc (.cells #[.int .i64 y0, .int .i64 y1, .int .i64 y2] 55)).heap[w.heap.size]? = some (.cells #[.int .i64 x0, .int .i64 x1, .int .i64 x2, .int .i64 x3, .int .i64 x4, .int .i64 x5, .int .i64 x6, .int .i64 x7, .int .i64 x8] 68 (0, 0)) by rw [hn_pastN _ _ _ (by omega), HB1.out.block _ (by first | omega | (simp; done) | (simp; omega)), hn_pastN _ _ _ (by first | omega | (simp; done) | (simp; omega)), hn_pastN _ _ _ (by first | omega | (simp; done) | (simp; omega)), hn_atN _ _ _ (by simp)])
  have ka := Lib.hid (show (w1_.alloc (.cells #[.int .i64 y0, .int .i64 y1, .int .i64 y2] 55)).heap[w.heap.size + 1]? = some (.cells #[.int .i64 a0, .int .i64 a1, .int .i64 a2] 55 (0, 0)) by rw [hn_pastN _ _ _ (by omega), HB1.out.block _ (by simp), hn_pastN _ _ _ (by first | omega | (simp; done) | (simp; omega)), hn_atN _ _ _ (by simp)])
  have kb := Lib.hid (show (w1_.alloc (.cells #[.int .i64 y0, .int .i64 y1, .int .i64 y2] 55)).heap[w1_.heap.size]? = some (.cells #[.int .i64 y0, .int .i64 y1, .int .i64 y2] 55 (0, 0)) by rw [hn_atN _ _ _ rfl])
  have ko := Lib.hid (show (w1_.alloc (.cells #[.int .i64 y0, .int .i64 y1, .int .i64 y2] 55)).ownsRow (w.heap.size + 1 + 1) 55 3 (.slice (some ⟨w.heap.size + 1 + 1, 0, none⟩) 1 1) 1 (ptCs (Ls 1)) by rw [HSn.out 0, HL0.out, HA0.out]; exact ⟨rfl, .inr ⟨(w.heap.size + 1 + 1), 1, #[.int .i64 a0, .int .i64 a1, .int .i64 a2], rfl, Nat.le_refl _, by rw [hn_pastN _ _ _ (by omega), HB1.out.block _ (by simp), hn_atN _ _ _ (by simp)], Nat.le_refl _, by unfold maxLen; omega, rfl, rfl⟩⟩)
  have hbl := Lib.hid (show Below w.heap.size w (w1_.alloc (.cells #[.int .i64 y0, .int .i64 y1, .int .i64 y2] 55)) from (by repeat (first | exact Below.refl _ _ | refine bset ?_ _ _ (by omega) _ | refine bal ?_ _ | refine bdrN ?_ _ | refine bdr ?_ | refine below_tr' ?_ HB1.out)))
  generalize hV : w1_.alloc (.cells #[.int .i64 y0, .int .i64 y1, .int .i64 y2] 55) = V at *
  clear HI1
  go_loopw [7, 8] (fun v c wr => ∃ (j gb : Nat) (y0 y1 y2 : Int), 1 ≤ j ∧ j ≤ k ∧ Hid (A j = (y0, y1, y2)) ∧ c = .pointer (some ⟨gb, 0, none⟩) ∧ Hid (wr.ownsRow (w.heap.size + 1 + 1) 55 3 v j (ptCs (Ls j))) ∧ Hid (wr.heap[gb]? = some (.cells #[.int .i64 y0, .int .i64 y1, .int .i64 y2] 55 (0, 0))) ∧ Hid (wr.heap[w.heap.size]? = some (.cells #[.int .i64 x0, .int .i64 x1, .int .i64 x2, .int .i64 x3, .int .i64 x4, .int .i64 x5, .int .i64 x6, .int .i64 x7, .int .i64 x8] 68 (0, 0))) ∧ Hid (wr.heap[w.heap.size + 1]? = some (.cells #[.int .i64 a0, .int .i64 a1, .int .i64 a2] 55 (0, 0))) ∧ Hid (v.ownBlock ≠ some gb) ∧ w.heap.size + 1 + 1 ≤ gb ∧ Hid (Below w.heap.size w wr)) (fun v _ wr => k - (lenV v))
  case atStart => exact ⟨1, w1_.heap.size, y0, y1, y2, Nat.le_refl _, hk0, HY, rfl, ko, kb, kx, ka, Lib.hid (by simp [Value.ownBlock]; omega), by omega, hbl⟩
  case round =>
    clear ko kb kx ka hbl HY
    obtain ⟨j, gb, y0, y1, y2, hj1, hjk, HY, rfl, HO, KB, KX, KA, HNe, hgb, HB⟩ := hrel
    have kb := KB.out
    have ka := KA.out
    have lb := (Array.getElem?_eq_some_iff.1 kb).1
    have hlen : lenV u7 = j := by have := own_len HO.out; exact this
    by_cases hlt : j < k
    · have hne : eqP (y0, y1, y2) (a0, a1, a2) = false := by
        cases he : eqP (y0, y1, y2) (a0, a1, a2) with
        | false => rfl
        | true => exact absurd (HY.out.trans (eqP_iff.1 he)) (HNo.out j (by omega) hlt)
      obtain ⟨z, hz⟩ : ∃ z, A (j + 1) = z := ⟨_, rfl⟩
      obtain ⟨z0, z1, z2⟩ := z
      have HZz := Lib.hid hz
      have HIj := Lib.hid (HIm.out j)
      rw [hz, HY.out] at HIj
      clear hz
      have hNe := HNe.out
      have lx := (Array.getElem?_eq_some_iff.1 KX.out).1
      have la := (Array.getElem?_eq_some_iff.1 ka).1
      have hns := own_base' HO.out
      have HNs := Lib.hid hns
      clear hns hNe
      go_wp2_with (first
        | (at_builtin; go_loud (refine wpList_append_own _ rfl _ _ 51 rfl (w.heap.size + 1 + 1) 55 i0 (.agg #[.int .i64 0, .int .i64 0, .int .i64 0]) 3 24 Try.underlying51 HI0.out HZ0.out HZ1.out HZ2.out rfl (by decide) _ _ _ rfl (HO.out.alloc _) ⟨wr.heap.size, 0, none⟩ 1 1 [.int .i64 y0, .int .i64 y1, .int .i64 y2] rfl rfl (newP _ _ _ _ _) (oneP _ _ _) (by unfold maxLen; omega) (by omega) (by first | omega | (simp; done) | (simp; omega)) ?_; intro v2 w2 hown hgrow _; have HO2 := Lib.hid hown; have HG := Lib.hid hgrow; clear hown hgrow; have kb2 : w2.heap[gb]? = some (.cells #[.int .i64 y0, .int .i64 y1, .int .i64 y2] 55 (0, 0)) := (by rw [HG.out.block gb (by first | omega | (simp; done) | (simp; omega)) (fun e => HNe.out e.symm), hn_pastN _ _ _ lb]; exact kb); have KX2 := Lib.hid (show w2.heap[w.heap.size]? = some (.cells #[.int .i64 x0, .int .i64 x1, .int .i64 x2, .int .i64 x3, .int .i64 x4, .int .i64 x5, .int .i64 x6, .int .i64 x7, .int .i64 x8] 68 (0, 0)) by rw [HG.out.block (w.heap.size) (by first | omega | (simp; done) | (simp; omega)) (fun e => by have := HNs.out _ e.symm; omega), hn_pastN _ _ _ lx]; exact KX.out); have KA2 := Lib.hid (show w2.heap[w.heap.size + 1]? = some (.cells #[.int .i64 a0, .int .i64 a1, .int .i64 a2] 55 (0, 0)) by rw [HG.out.block (w.heap.size + 1) (by first | omega | (simp; done) | (simp; omega)) (fun e => by have := HNs.out _ e.symm; omega), hn_pastN _ _ _ la]; exact KA.out); have lx2 := (Array.getElem?_eq_some_iff.1 KX2.out).1; have la2 := (Array.getElem?_eq_some_iff.1 KA2.out).1))
        | (refine wpList_load_row _ rfl 55 _ rfl (g := gb) (T := 55) (cs := #[.int .i64 y0, .int .i64 y1, .int .i64 y2]) (fr := (0, 0)) rfl (kb) 3 rfl Try.sizeOf55 Try.isAgg55 ?_)
        | (refine wpList_load_row _ rfl 55 _ rfl (g := w.heap.size + 1) (T := 55) (cs := #[.int .i64 a0, .int .i64 a1, .int .i64 a2]) (fr := (0, 0)) rfl (ka) 3 rfl Try.sizeOf55 Try.isAgg55 ?_)
        | (refine wpList_load_row _ rfl 55 _ rfl (g := gb) (T := 55) (cs := #[.int .i64 y0, .int .i64 y1, .int .i64 y2]) (fr := (0, 0)) rfl (kb2) 3 rfl Try.sizeOf55 Try.isAgg55 ?_)
        | (refine wpList_load_row _ rfl 55 _ rfl (g := w2.heap.size) (T := 55) (cs := #[.int .i64 y0, .int .i64 y1, .int .i64 y2]) (fr := (0, 0)) rfl (by rw [hn_atN _ _ _ rfl]) 3 rfl Try.sizeOf55 Try.isAgg55 ?_)
        | (refine wpList_load_row _ rfl 68 _ rfl (g := w.heap.size) (T := 68) (cs := #[.int .i64 x0, .int .i64 x1, .int .i64 x2, .int .i64 x3, .int .i64 x4, .int .i64 x5, .int .i64 x6, .int .i64 x7, .int .i64 x8]) (fr := (0, 0)) rfl (by rw [hn_pastN _ _ _ lx2]; exact KX2.out) 9 rfl Try.sizeOf68 Try.isAgg68 ?_)
        | (go_at_call 65; (with_reducible refine (HIj.out _).mono ?_); rintro e w3_ ⟨rfl, hb3⟩; obtain ⟨hcb3, hfb3, hlb3⟩ := bcell hb3; have hsz3 := hb3.size; (try simp at hsz3); have HB3 := Lib.hid hb3; clear hb3; (try (have hl03 : w.heap.size < w3_.heap.size := by omega)))
        | (refine wpList_store_row _ rfl 55 _ _ rfl rfl (U := #[.int .i64 y0, .int .i64 y1, .int .i64 y2]) rfl rfl (heap_alloc_new _ _) rfl Try.sizeOf55 (by simp [Value.oneCell']) ?_; rw [alloc_setRow])
        | (refine wpList_store_row _ rfl 55 _ _ rfl rfl (g := w2.heap.size) (T := 55) (cs := #[.int .i64 y0, .int .i64 y1, .int .i64 y2]) (U := #[.int .i64 z0, .int .i64 z1, .int .i64 z2]) rfl rfl (by rw [HB3.out.block _ (by simp), hn_atN _ _ _ rfl]) rfl Try.sizeOf55 (by simp [Value.oneCell']) ?_))
      have hs3 := HB3.out.size
      try simp at hs3
      have hl2 := own_lt HO2.out
      have hb2 := own_base' HO2.out
      have q2 : Below w.heap.size w w2 := (bal HB.out _).grown HG.out (by have := HB.out.size; first | omega | (simp; done) | (simp; omega)) (fun k' hk' => by have := HNs.out k' hk'; omega)
      go_roundw
      case rel => exact ⟨j + 1, w2.heap.size, z0, z1, z2, by omega, by omega, HZz, rfl, Lib.hid (by rw [HSn.out j, ptCs_snoc, HY.out]; exact own_same HO2.out (fun b hb => by have := hl2 b hb; rw [setRow_other _ _ _ _ (by omega), HB3.out.block _ (by first | omega | (simp; done) | (simp; omega)), hn_pastN _ _ _ (by omega)])), Lib.hid (setRow_heap _ _ _ _ _ _ (by rw [HB3.out.block _ (by simp), hn_atN _ _ _ rfl])), Lib.hid (by rw [setRow_other _ _ _ _ (by omega), HB3.out.block _ (by first | omega | (simp; done) | (simp; omega)), hn_pastN _ _ _ lx2]; exact KX2.out), Lib.hid (by rw [setRow_other _ _ _ _ (by omega), HB3.out.block _ (by first | omega | (simp; done) | (simp; omega)), hn_pastN _ _ _ la2]; exact KA2.out), Lib.hid (fun e => by have := hl2 _ e; omega), by omega, Lib.hid (below_setRowN (low_tr' (bal q2 _) HB3.out (by first | omega | (simp; done) | (simp; omega))) (by omega) _)⟩
      case measure => have := own_len HO2.out; simp only [hlen]; omega
    · have hjk2 : j = k := by omega
      subst hjk2
      have hne : eqP (y0, y1, y2) (a0, a1, a2) = true := eqP_iff.2 (HY.out.symm.trans HBk.out)
      go_wp2_with (first
        | (refine wpList_load_row _ rfl 55 _ rfl (g := gb) (T := 55) (cs := #[.int .i64 y0, .int .i64 y1, .int .i64 y2]) (fr := (0, 0)) rfl (kb) 3 rfl Try.sizeOf55 Try.isAgg55 ?_)
        | (refine wpList_load_row _ rfl 55 _ rfl (g := w.heap.size + 1) (T := 55) (cs := #[.int .i64 a0, .int .i64 a1, .int .i64 a2]) (fr := (0, 0)) rfl (ka) 3 rfl Try.sizeOf55 Try.isAgg55 ?_))
      go_ret
      exact ⟨_, rfl, by rw [HLn.out]; exact own_low HO.out (by omega), HB.out⟩
end Go.Proofs.Ytkhaiphipdpgeaa
/- Own lists, found again by search; slice literals of one element and appends to own lists. -/
namespace Go.Proofs.Ytkhaiphipdpgeaa
open Go.RowKit
set_option linter.unusedVariables false
set_option linter.unusedSimpArgs false
/-- An own list. -/
structure OwnK (W : World) (B : Nat) (T : TypeId) (sz : Nat) (v : Value) (n : Nat) (xs : List Value) : Prop where
  out : W.ownsRow B T sz v n xs
/-- The list's block is not this one. -/
structure Off (v : Value) (g : Nat) : Prop where
  out : v.ownBlock ≠ some g
/-- The list that this value is has been appended to. -/
structure Grew (w : World) (v : Value) (W : World) : Prop where
  out : w.grownBy W v.ownBlock
theorem OwnK.below {w W : World} {B : Nat} {T : TypeId} {sz : Nat} {v : Value} {n : Nat} {xs : List Value} (h : OwnK w B T sz v n xs) (l : Below w.heap.size w W) : OwnK W B T sz v n xs := ⟨own_below h.out l⟩
theorem OwnK.link {w W : World} {B : Nat} {T : TypeId} {sz : Nat} {v : Value} {n : Nat} {xs : List Value} (l : Link w W) (h : OwnK w B T sz v n xs) : OwnK W B T sz v n xs := h.below l.out
theorem OwnK.alloc {w : World} {B : Nat} {T : TypeId} {sz : Nat} {v : Value} {n : Nat} {xs : List Value} (h : OwnK w B T sz v n xs) (o : Obj) : OwnK (w.alloc o) B T sz v n xs := h.below (bal (Below.refl _ _) o)
theorem OwnK.drew {w : World} {B : Nat} {T : TypeId} {sz : Nat} {v : Value} {n : Nat} {xs : List Value} (h : OwnK w B T sz v n xs) : OwnK w.drew B T sz v n xs := ⟨h.out⟩
theorem OwnK.drewN {w : World} {B : Nat} {T : TypeId} {sz : Nat} {v : Value} {n : Nat} {xs : List Value} (h : OwnK w B T sz v n xs) (k : Nat) : OwnK (w.drewN k) B T sz v n xs := ⟨h.out⟩
theorem OwnK.set {w : World} {B : Nat} {T : TypeId} {sz : Nat} {v : Value} {n g : Nat} {xs : List Value} {U : Array Value} (hg : Off v g) (h : OwnK w B T sz v n xs) : OwnK (w.setRow g U) B T sz v n xs :=
  ⟨own_same h.out fun b hb => setRow_other _ _ _ _ (fun e => hg.out (by rw [hb, e]))⟩
theorem OwnK.grew {w W : World} {B : Nat} {T : TypeId} {sz : Nat} {v u : Value} {n : Nat} {xs : List Value} (hg : Grew w u W) (h : OwnK w B T sz v n xs) (ho : ∀ b, v.ownBlock = some b → u.ownBlock ≠ some b) : OwnK W B T sz v n xs :=
  ⟨own_same h.out fun b hb => hg.out.block b (own_lt h.out b hb) (fun e => ho b hb e.symm)⟩
theorem OwnK.lt {w : World} {B : Nat} {T : TypeId} {sz : Nat} {v : Value} {n : Nat} {xs : List Value} (h : OwnK w B T sz v n xs) (b : Nat) (hb : v.ownBlock = some b) : b < w.heap.size := own_lt h.out b hb
theorem OwnK.base {w : World} {B : Nat} {T : TypeId} {sz : Nat} {v : Value} {n : Nat} {xs : List Value} (h : OwnK w B T sz v n xs) (b : Nat) (hb : v.ownBlock = some b) : B ≤ b := own_base' h.out b hb
theorem Off.above {w : World} {B : Nat} {T : TypeId} {sz : Nat} {v : Value} {n g : Nat} {xs : List Value} (h : OwnK w B T sz v n xs) (hg : w.heap.size ≤ g) : Off v g := ⟨fun e => by have := h.lt g e; omega⟩
theorem Off.under {w : World} {B : Nat} {T : TypeId} {sz : Nat} {v : Value} {n g : Nat} {xs : List Value} (h : OwnK w B T sz v n xs) (hg : g < B) : Off v g := ⟨fun e => by have := h.base g e; omega⟩
theorem Grew.size {w W : World} {v : Value} (h : Grew w v W) : w.heap.size ≤ W.heap.size := h.out.size
theorem RowK.grew {w W : World} {u : Value} {g : Nat} {cs : Array Value} {T : TypeId} (hg : Grew w u W) (ho : Off u g) (h : RowK w g cs T) : RowK W g cs T := ⟨(hg.out.block g h.lt (fun e => ho.out e.symm)).trans h.out⟩
theorem cell_grew {w W : World} {u : Value} {b o : Nat} {x : Value} (hg : Grew w u W) (ho : Off u b) (h : w.cell? ⟨b, o, none⟩ = some x) : W.cell? ⟨b, o, none⟩ = some x := hg.out.cell h (fun e => ho.out e.symm)
theorem PtsK.grew {w W : World} {u : Value} {b o n : Nat} {L : List Pt} (hg : Grew w u W) (ho : Off u b) (h : PtsK w b o n L) : PtsK W b o n L :=
  ⟨fun i hi => ⟨cell_grew hg ho (h.out i hi).1, cell_grew hg ho (h.out i hi).2.1, cell_grew hg ho (h.out i hi).2.2⟩⟩
theorem IntsK.grew {w W : World} {u : Value} {b o n : Nat} {L : List Int} (hg : Grew w u W) (ho : Off u b) (h : IntsK w b o n L) : IntsK W b o n L := ⟨fun i hi => cell_grew hg ho (h.out i hi)⟩
theorem LowK.grew {w w1 W : World} {u : Value} (hg : Grew w1 u W) (ho : ∀ b, u.ownBlock = some b → w.heap.size ≤ b) (h : LowK w w1) : LowK w W := ⟨h.out.grown hg.out h.out.size ho⟩
theorem LowK.grewB {w w1 w2 W : World} {B : Nat} {T : TypeId} {sz n : Nat} {u : Value} {xs : List Value} (hg : Grew w1 u W) (hO : OwnK w2 B T sz u n xs) (hB : w.heap.size ≤ B) (h : LowK w w1) : LowK w W := h.grew hg (fun b hb => Nat.le_trans hB (hO.base b hb))
/-- Two lists of different blocks. -/
structure Apart (v u : Value) : Prop where
  out : ∀ b, v.ownBlock = some b → u.ownBlock ≠ some b
theorem Apart.symm {v u : Value} (h : Apart v u) : Apart u v := ⟨fun b h1 h2 => h.out b h2 h1⟩
theorem Apart.next {v u u' : Value} {w : World} {B : Nat} {T : TypeId} {sz n : Nat} {xs : List Value} (h : Apart v u) (hO : OwnK w B T sz v n xs) (hb : u'.ownBlock = u.ownBlock ∨ u'.ownBlock = some w.heap.size) : Apart v u' :=
  ⟨fun b h1 h2 => by
    rcases hb with e | e
    · exact h.out b h1 (by rw [← e, h2])
    · have := hO.lt b h1; rw [e] at h2; have := Option.some.inj h2; omega⟩
theorem Apart.of {g1 g2 n1 c1 n2 c2 : Nat} (h : g1 ≠ g2) : Apart (.slice (some ⟨g1, 0, none⟩) n1 c1) (.slice (some ⟨g2, 0, none⟩) n2 c2) := ⟨fun b h1 h2 => by simp [Value.ownBlock] at h1 h2; omega⟩
/-- Facts about the world at hand; then on, from any world of which they are known. -/
theorem at_world {P : Program} {C : Code} {Q : Exit → Act → World → Prop} {a : Act} (W : World) (F : World → Prop) (h : F W) (k : ∀ V, F V → C.wp P Q a V) : C.wp P Q a W := k W h
theorem at_rounds {P : Program} {C : Code} {Q : Exit → Act → World → Prop} {n : Nat} {a : Act} (W : World) (F : World → Prop) (h : F W) (k : ∀ V, F V → Code.rounds P C Q n a V) : Code.rounds P C Q n a W := k W h
/-- What an append needs to know of the types. -/
structure EltK (P : Program) (ty e : TypeId) (sz : Nat) : Prop where
  out : P.underlying ty = some (.slice e) ∧ ∃ i z, P.info? e = some i ∧ i.zero = some z ∧ i.size = sz ∧ z.cells.size = sz ∧ 0 < sz ∧ sz ≤ 100 ∧ i.bytes ≤ 1000
section
variable {P : Program} {ops : Array Oper} {rest : List Oper} {o : Oper} {a : Act} {Q : Exit → Act → World → Prop}
theorem wpList_append_K (w : World) (hgd : o.guard = none) (s x : Operand) (t e : TypeId) (sz : Nat) (ho : o.op = .call { callee := .builtin .append, args := #[s, x], argTypes := #[t, t] }) (he : EltK P t e sz)
    {v : Value} {g m c : Nat} (hs : a.eval s = v) (hx : a.eval x = .slice (some ⟨g, 0, none⟩) m c) {B n : Nat} {xs : List Value} (hown : OwnK w B e sz v n xs) {news : Array Value} {T : TypeId} (hnew : RowK w g news T) (hl : news.size = m * sz) (h1 : ∀ u ∈ news.toList, u.oneCell' = true)
    (h63 : n + m ≤ 1000000) (hbase : B ≤ w.heap.size)
    (h : ∀ v' w', OwnK w' B e sz v' (n + m) (xs ++ news.toList) → Grew w v w' → (v'.ownBlock = v.ownBlock ∨ v'.ownBlock = some w.heap.size) → wpList P ops Q rest (a.put o.dst v') w') : wpList P ops Q (o :: rest) a w := by
  obtain ⟨hu, i, z, hi, hz, hsz, hzs, hpos, hle, hby⟩ := he.out
  refine wpList_append_own_at w hgd s x t ho B e i z sz i.bytes hu hi hz hsz rfl hzs hpos v n xs hs hown.out ⟨g, 0, none⟩ m c news.toList hx (by simpa using hl) (fun j u hj => ?_) h1 (by unfold maxLen; omega) ?_ hbase (fun v' w' h2 h3 h4 h5 => h v' w' ⟨h2⟩ ⟨h3⟩ h5)
  · have hadd : (⟨g, 0, none⟩ : Addr).add j = ⟨g, j, none⟩ := by unfold Addr.add; split <;> simp_all
    rw [hadd, cell_of_row w g j _ _ _ hnew.out]
    simpa using hj
  · exact Nat.le_trans (Nat.mul_le_mul h63 hby) (by decide)
/-- A slice literal of one aggregate of three. -/
theorem wpList_slice_pt (w : World) (hgd : o.guard = none) (t e : TypeId) (x : Operand) (ho : o.op = .buildSlice t 1 #[(0, x)]) (he : EltK P t e 3) {p : Pt} (hx : a.eval x = pV p)
    (h : wpList P ops Q rest (a.put o.dst (.slice (some ⟨w.heap.size, 0, none⟩) 1 1)) (w.alloc (.cells (pC p) e))) : wpList P ops Q (o :: rest) a w := by
  obtain ⟨hu, i, z, hi, hz, hsz, hzs, hpos, hle, hby⟩ := he.out
  refine wpList_buildSlice hgd t e 1 _ ho (pC p) i z hu hi hz (by rw [hsz]; decide) (by rw [hsz]; decide) ?_ h
  simp only [List.map_toArray, List.map_cons, List.map_nil, hx, hsz]
  generalize z.cells = zc at hzs
  have e1 : (Array.range (1 * 3)).map (fun k => zc[k % zc.size]!) = #[zc[0]!, zc[1]!, zc[2]!] := by
    rw [hzs]
    apply Array.ext
    · simp
    · intro i h1 h2
      simp at h1
      match i, h1 with
      | 0, _ => simp
      | 1, _ => simp
      | 2, _ => simp
  rw [e1]
  rfl
end
theorem eltPo : EltK Try.prog 51 55 3 := by
  obtain ⟨i0, hi, hz0, hz1, hz2⟩ := info_parts (show (Try.prog.info? 55).map (fun i => (i.zero, i.size, i.bytes)) = some (some (.agg #[.int .i64 0, .int .i64 0, .int .i64 0]), 3, 24) by kernel_rfl)
  exact ⟨Try.underlying51, i0, _, hi, hz0, hz1, rfl, by decide, by decide, by rw [hz2]; decide⟩
theorem eltLn : EltK Try.prog 74 34 3 := by
  obtain ⟨i0, hi, hz0, hz1, hz2⟩ := info_parts (show (Try.prog.info? 34).map (fun i => (i.zero, i.size, i.bytes)) = some (some (.agg #[.int .i64 0, .int .i64 0, .int .i64 0]), 3, 24) by kernel_rfl)
  exact ⟨Try.underlying74, i0, _, hi, hz0, hz1, rfl, by decide, by decide, by rw [hz2]; decide⟩
theorem eltI64 : EltK Try.prog 22 2 1 := by
  obtain ⟨i0, hi, hz0, hz1, hz2⟩ := info_parts (show (Try.prog.info? 2).map (fun i => (i.zero, i.size, i.bytes)) = some (some (.int .i64 0), 1, 8) by kernel_rfl)
  exact ⟨Try.underlying22, i0, _, hi, hz0, hz1, rfl, by decide, by decide, by rw [hz2]; decide⟩
theorem OwnK.empty {w : World} {B g : Nat} {T : TypeId} {sz : Nat} (h : RowK w g #[] T) (hB : B ≤ g) : OwnK w B T sz (.slice (some ⟨g, 0, none⟩) 0 0) 0 [] :=
  ⟨by simp, .inr ⟨g, 0, #[], rfl, hB, h.out, Nat.le_refl _, by unfold maxLen; omega, by simp, by simp⟩⟩
/-- An own list of points, read. -/
theorem OwnK.pts {W : World} {B : Nat} {T : TypeId} {v : Value} {n : Nat} {l : List Pt} (h : OwnK W B T 3 v n (ptCs l)) (hl : l.length = n) (hn : 0 < n) :
    ∃ g cap, v = .slice (some ⟨g, 0, none⟩) n cap ∧ B ≤ g ∧ g < W.heap.size ∧ PtsK W g 0 n l := by
  obtain ⟨g, cap, h1, h2, h3, h4⟩ := ownPts h.out hl hn
  exact ⟨g, cap, h1, h2, h3, ⟨h4⟩⟩
theorem ptCs_end (l : List Pt) (p : Pt) : ptCs l ++ (pC p).toList = ptCs (l ++ [p]) := by simp [ptCs, pC, ptC]
end Go.Proofs.Ytkhaiphipdpgeaa
/- The searches of a walk, as defaults of arguments: a fact is found again by its name alone. -- own lists -- numbers -/
namespace Go.Proofs.Ytkhaiphipdpgeaa
open Go.RowKit
set_option linter.unusedVariables false
set_option linter.unusedSimpArgs false
theorem ints_end (l : List Int) (k : Int) : ints l ++ (#[Value.int .i64 k] : Array Value).toList = ints (l ++ [k]) := by simp [ints]
theorem IntsK.lt {w : World} {b o n : Nat} {L : List Int} (h : IntsK w b o n L) (hn : 0 < n) : b < w.heap.size := World.block_lt_of_cell? w _ (h.out 0 hn)
theorem OwnK.ints {W : World} {B : Nat} {T : TypeId} {v : Value} {n : Nat} {l : List Int} (h : OwnK W B T 1 v n (ints l)) (hl : l.length = n) (hn : 0 < n) :
    ∃ g cap, v = .slice (some ⟨g, 0, none⟩) n cap ∧ B ≤ g ∧ g < W.heap.size ∧ IntsK W g 0 n l := by
  rcases h.out.2 with ⟨_, h0⟩ | ⟨g, cap, cur, rfl, hb, hg, hle, _, hsz, htk⟩
  · exfalso; omega
  · refine ⟨g, cap, rfl, hb, (Array.getElem?_eq_some_iff.1 hg).1, ⟨fun i hi => ?_⟩⟩
    rw [Nat.zero_add, cell_of_row W g i _ _ _ hg]
    have h1 : (cur.toList.take (n * 1))[i]? = (Go.Proofs.Ytkhaiphipdpgeaa.ints l)[i]? := by rw [htk]
    rw [Nat.mul_one, List.getElem?_take_of_lt hi] at h1
    rw [← Array.getElem?_toList, h1]
    unfold Go.Proofs.Ytkhaiphipdpgeaa.ints
    have hil : i < l.length := by omega
    simp [List.getD, hil]
theorem run_load_intT {P : Program} {o : Oper} {W : World} {ρ : Operand → Value} {ty : TypeId} {x : Operand} {b e n : Nat} {L : List Int} (hop : o.op = .load ty x) (hx : ρ x = .pointer (some ⟨b, e, none⟩)) (hL : IntsK W b 0 n L) (he : e < n)
    (ha : ∀ W, (isAgg ty).run P W = .ok false W) (t : Int) (ht : L.getD e 0 = t) : (execOp ρ o).run P W = .ok (.value (.int .i64 t)) W := by
  have h := hL.out e he
  rw [Nat.zero_add, ht] at h
  unfold execOp
  simp only [hop, hx, Instr.loadAt, Instr.sureAddr, Sem.run_bind, Sem.run_pure, Result.andThen_ok, loadVar, ha, Bool.false_eq_true, if_false]
  rw [run_load]
  simp [h]
theorem findRow {W : World} {g : Nat} {cs : Array Value} {T : TypeId} (h : RowK W g cs T := by repeat (first | with_reducible assumption | ((with_reducible apply RowK.new); (first | rfl | (focus (simp; done)) | omega | (focus (simp; omega)))) | with_reducible apply RowK.here | (apply RowK.link; (· with_reducible assumption)) | with_reducible apply RowK.alloc | with_reducible apply RowK.drewN | with_reducible apply RowK.drew | ((with_reducible apply RowK.set); (· first | assumption | omega | (simp; omega))) | (apply RowK.grew; (· with_reducible assumption); (· (first | with_reducible assumption | (apply Off.under; (· with_reducible assumption); (· omega)) | (apply Off.above; (· with_reducible assumption); (· omega))))))) : RowK W g cs T := h
theorem findPts {W : World} {b o n : Nat} {L : List Pt} (h : PtsK W b o n L := by repeat (first | with_reducible assumption | (apply PtsK.link; (· with_reducible assumption)) | with_reducible apply PtsK.alloc | with_reducible apply PtsK.drewN | with_reducible apply PtsK.drew | ((with_reducible apply PtsK.set); (· first | assumption | omega | (simp; omega))) | (apply PtsK.grew; (· with_reducible assumption); (· (first | with_reducible assumption | (apply Off.under; (· with_reducible assumption); (· omega)) | (apply Off.above; (· with_reducible assumption); (· omega))))))) : PtsK W b o n L := h
theorem findInts {W : World} {b o n : Nat} {L : List Int} (h : IntsK W b o n L := by repeat (first | with_reducible assumption | (apply IntsK.link; (· with_reducible assumption)) | with_reducible apply IntsK.alloc | with_reducible apply IntsK.drewN | with_reducible apply IntsK.drew | ((with_reducible apply IntsK.set); (· first | assumption | omega | (simp; omega))) | (apply IntsK.grew; (· with_reducible assumption); (· (first | with_reducible assumption | (apply Off.under; (· with_reducible assumption); (· omega)) | (apply Off.above; (· with_reducible assumption); (· omega))))))) : IntsK W b o n L := h
theorem findLow {w W : World} (h : LowK w W := by repeat (first | with_reducible assumption | with_reducible exact LowK.refl _ | (apply LowK.link; (· with_reducible assumption)) | with_reducible apply LowK.alloc | with_reducible apply LowK.drewN | with_reducible apply LowK.drew | ((with_reducible apply LowK.set); (· first | assumption | omega | (simp; omega))) | (apply LowK.grewB; (· with_reducible assumption); (· with_reducible assumption); (· omega)))) : LowK w W := h
theorem findOwn {W : World} {B : Nat} {T : TypeId} {sz : Nat} {v : Value} {n : Nat} {xs : List Value} (h : OwnK W B T sz v n xs := by repeat (first | with_reducible assumption | (apply OwnK.link; (· with_reducible assumption)) | with_reducible apply OwnK.alloc | with_reducible apply OwnK.drewN | with_reducible apply OwnK.drew | with_reducible apply OwnK.set | with_reducible assumption | (apply Off.under; (· with_reducible assumption); (· omega)) | (apply Off.above; (· with_reducible assumption); (· omega)) | (apply OwnK.grew; (· with_reducible assumption)) | exact Apart.out (by first | assumption | exact Apart.symm (by assumption)))) : OwnK W B T sz v n xs := h
theorem findOff {v : Value} {g : Nat} (h : Off v g := by (first | with_reducible assumption | (apply Off.under; (· with_reducible assumption); (· omega)) | (apply Off.above; (· with_reducible assumption); (· omega)))) : Off v g := h
section
variable {ρ : Operand → Value} {o : Oper} {W : World} {ty : TypeId} {x : Operand}
theorem ld_row {g : Nat} {T : TypeId} {cs : Array Value} {n : Nat} (hop : o.op = .load ty x := by exact rfl) (hx : ρ x = .pointer (some ⟨g, 0, none⟩) := by exact rfl) (hg : RowK W g cs T := by repeat (first | with_reducible assumption | ((with_reducible apply RowK.new); (first | rfl | (focus (simp; done)) | omega | (focus (simp; omega)))) | with_reducible apply RowK.here | (apply RowK.link; (· with_reducible assumption)) | with_reducible apply RowK.alloc | with_reducible apply RowK.drewN | with_reducible apply RowK.drew | ((with_reducible apply RowK.set); (· first | assumption | omega | (simp; omega))) | (apply RowK.grew; (· with_reducible assumption); (· (first | with_reducible assumption | (apply Off.under; (· with_reducible assumption); (· omega)) | (apply Off.above; (· with_reducible assumption); (· omega))))))) (hn : cs.size = n := by exact rfl)
    (hs : ∀ W, (sizeOf ty).run Try.prog W = .ok n W := by (first | exact Try.sizeOf55 | exact Try.sizeOf34 | exact Try.sizeOf68)) (ha : ∀ W, (isAgg ty).run Try.prog W = .ok true W := by (first | exact Try.isAgg55 | exact Try.isAgg34 | exact Try.isAgg68)) : (execOp ρ o).run Try.prog W = .ok (.value (.agg cs)) W := run_load_rowK hop hx hg n hn hs ha
theorem ld_pt {b e n : Nat} {L : List Pt} {t : Pt} (k : Nat) (hop : o.op = .load ty x := by exact rfl) (hx : ρ x = .pointer (some ⟨b, e, none⟩) := by exact rfl) (hL : PtsK W b 0 n L := by repeat (first | with_reducible assumption | (apply PtsK.link; (· with_reducible assumption)) | with_reducible apply PtsK.alloc | with_reducible apply PtsK.drewN | with_reducible apply PtsK.drew | ((with_reducible apply PtsK.set); (· first | assumption | omega | (simp; omega))) | (apply PtsK.grew; (· with_reducible assumption); (· (first | with_reducible assumption | (apply Off.under; (· with_reducible assumption); (· omega)) | (apply Off.above; (· with_reducible assumption); (· omega))))))) (he : e = k * 3 := by exact rfl) (hk : k < n := by (first | assumption | omega | decide))
    (hs : ∀ W, (sizeOf ty).run Try.prog W = .ok 3 W := by (first | exact Try.sizeOf55 | exact Try.sizeOf34 | exact Try.sizeOf68)) (ha : ∀ W, (isAgg ty).run Try.prog W = .ok true W := by (first | exact Try.isAgg55 | exact Try.isAgg34 | exact Try.isAgg68)) (ht : L.getD k (0, 0, 0) = t := by (first | with_reducible assumption | (simp only [List.getD_cons_zero, List.getD_cons_succ]; exact rfl) | exact rfl)) : (execOp ρ o).run Try.prog W = .ok (.value (pV t)) W := run_load_ptT k hop hx hL he hk hs ha t ht
theorem ld_int {b e n : Nat} {L : List Int} {t : Int} (hop : o.op = .load ty x := by exact rfl) (hx : ρ x = .pointer (some ⟨b, e, none⟩) := by exact rfl) (hL : IntsK W b 0 n L := by repeat (first | with_reducible assumption | (apply IntsK.link; (· with_reducible assumption)) | with_reducible apply IntsK.alloc | with_reducible apply IntsK.drewN | with_reducible apply IntsK.drew | ((with_reducible apply IntsK.set); (· first | assumption | omega | (simp; omega))) | (apply IntsK.grew; (· with_reducible assumption); (· (first | with_reducible assumption | (apply Off.under; (· with_reducible assumption); (· omega)) | (apply Off.above; (· with_reducible assumption); (· omega))))))) (he : e < n := by (first | assumption | omega | decide))
    (ha : ∀ W, (isAgg ty).run Try.prog W = .ok false W := by (first | exact Try.isAgg2 | exact Try.isAgg3 | exact Try.isAgg4)) (ht : L.getD e 0 = t := by (first | with_reducible assumption | (simp only [List.getD_cons_zero, List.getD_cons_succ]; exact rfl) | exact rfl)) : (execOp ρ o).run Try.prog W = .ok (.value (.int .i64 t)) W := run_load_intT hop hx hL he ha t ht
end
section
variable {ops : Array Oper} {rest : List Oper} {o : Oper} {a : Act} {w : World} {Q : Exit → Act → World → Prop}
theorem wl_load {ty : TypeId} {x : Operand} {v : Value} (hK : wpList Try.prog ops Q rest (a.put o.dst v) w) (hgd : o.guard = none := by exact rfl) (hop : o.op = .load ty x := by exact rfl)
    (hr : (execOp a.eval o).run Try.prog w = .ok (.value v) w := by first | exact ld_row | exact ld_pt _ | exact ld_pt 0 | exact ld_pt 1 | exact ld_pt 2 | exact ld_pt 3 | exact ld_int) : wpList Try.prog ops Q (o :: rest) a w := wpList_load_any w hgd ty x hop hr hK
theorem wl_store {ty : TypeId} {x y : Operand} {g n : Nat} {T : TypeId} {cs U : Array Value} (hK : wpList Try.prog ops Q rest a (w.setRow g U)) (hgd : o.guard = none := by exact rfl) (hop : o.op = .store ty x y := by exact rfl) (hd : o.dst = none := by exact rfl)
    (hx : a.eval x = .pointer (some ⟨g, 0, none⟩) := by exact rfl) (hy : a.eval y = .agg U := by exact rfl) (hg : RowK w g cs T := by repeat (first | with_reducible assumption | ((with_reducible apply RowK.new); (first | rfl | (focus (simp; done)) | omega | (focus (simp; omega)))) | with_reducible apply RowK.here | (apply RowK.link; (· with_reducible assumption)) | with_reducible apply RowK.alloc | with_reducible apply RowK.drewN | with_reducible apply RowK.drew | ((with_reducible apply RowK.set); (· first | assumption | omega | (simp; omega))) | (apply RowK.grew; (· with_reducible assumption); (· (first | with_reducible assumption | (apply Off.under; (· with_reducible assumption); (· omega)) | (apply Off.above; (· with_reducible assumption); (· omega))))))) (hn : cs.size = n := by exact rfl) (hU : U.size = n := by exact rfl)
    (hs : ∀ W, (sizeOf ty).run Try.prog W = .ok n W := by (first | exact Try.sizeOf55 | exact Try.sizeOf34 | exact Try.sizeOf68)) (h1 : ∀ v ∈ U.toList, v.oneCell' = true := by (first | exact pC_one _ | (focus (simp [Value.oneCell']; done)))) : wpList Try.prog ops Q (o :: rest) a w := wpList_store_rowK w hgd ty x y hop hd hx hy hg n hn hU hs h1 hK
theorem wl_build {t : TypeId} {parts : Array (Nat × Operand)} (hK : wpList Try.prog ops Q rest (a.put o.dst (.agg (pC (0, 0, 0)))) w) (hgd : o.guard = none := by exact rfl) (hop : o.op = .build t parts := by exact rfl)
    (hb : Program.built Try.prog t (parts.map fun (i, x) => (i, a.eval x)).toList = some (pC (0, 0, 0)) := by kernel_rfl) : wpList Try.prog ops Q (o :: rest) a w := wpList_build w hgd t parts hop _ hb hK
theorem wl_slice {t e : TypeId} {x : Operand} {p : Pt} (h : wpList Try.prog ops Q rest (a.put o.dst (.slice (some ⟨w.heap.size, 0, none⟩) 1 1)) (w.alloc (.cells (pC p) e))) (hgd : o.guard = none := by exact rfl) (ho : o.op = .buildSlice t 1 #[(0, x)] := by exact rfl)
    (he : EltK Try.prog t e 3 := by (first | exact eltPo | exact eltLn | exact eltI64)) (hx : a.eval x = pV p := by exact rfl) : wpList Try.prog ops Q (o :: rest) a w := wpList_slice_pt w hgd t e x ho he hx h
theorem wl_append {s x : Operand} {t e : TypeId} {sz g m c B n : Nat} {v : Value} {xs : List Value} {news : Array Value} {T : TypeId}
    (h : ∀ v' w', OwnK w' B e sz v' (n + m) (xs ++ news.toList) → Grew w v w' → (v'.ownBlock = v.ownBlock ∨ v'.ownBlock = some w.heap.size) → wpList Try.prog ops Q rest (a.put o.dst v') w')
    (hgd : o.guard = none := by exact rfl) (ho : o.op = .call { callee := .builtin .append, args := #[s, x], argTypes := #[t, t] } := by exact rfl) (he : EltK Try.prog t e sz := by (first | exact eltPo | exact eltLn | exact eltI64))
    (hs : a.eval s = v := by conv => lhs; whnf) (hx : a.eval x = .slice (some ⟨g, 0, none⟩) m c := by exact rfl) (hown : OwnK w B e sz v n xs := by repeat (first | with_reducible assumption | (apply OwnK.link; (· with_reducible assumption)) | with_reducible apply OwnK.alloc | with_reducible apply OwnK.drewN | with_reducible apply OwnK.drew | with_reducible apply OwnK.set | with_reducible assumption | (apply Off.under; (· with_reducible assumption); (· omega)) | (apply Off.above; (· with_reducible assumption); (· omega)) | (apply OwnK.grew; (· with_reducible assumption)) | exact Apart.out (by first | assumption | exact Apart.symm (by assumption)))) (hnew : RowK w g news T := by repeat (first | with_reducible assumption | ((with_reducible apply RowK.new); (first | rfl | (focus (simp; done)) | omega | (focus (simp; omega)))) | with_reducible apply RowK.here | (apply RowK.link; (· with_reducible assumption)) | with_reducible apply RowK.alloc | with_reducible apply RowK.drewN | with_reducible apply RowK.drew | ((with_reducible apply RowK.set); (· first | assumption | omega | (simp; omega))) | (apply RowK.grew; (· with_reducible assumption); (· (first | with_reducible assumption | (apply Off.under; (· with_reducible assumption); (· omega)) | (apply Off.above; (· with_reducible assumption); (· omega))))))) (hl : news.size = m * sz := by exact rfl) (h1 : ∀ u ∈ news.toList, u.oneCell' = true := by (first | exact pC_one _ | (focus (simp [Value.oneCell']; done))))
    (h63 : n + m ≤ 1000000 := by first | omega | (simp; omega)) (hbase : B ≤ w.heap.size := by first | omega | (simp; omega)) : wpList Try.prog ops Q (o :: rest) a w := wpList_append_K w hgd s x t e sz ho he hs hx hown hnew hl h1 h63 hbase h
theorem q_load {w : World} {G : Grow0 w} {K : Act → Prop} {ty : TypeId} {x : Operand} {v : Value} (hK : K (a.put o.dst v)) (hop : o.op = .load ty x := by exact rfl)
    (h : ∀ W, Link w W → (execOp a.eval o).run Try.prog W = .ok (.value v) W := by (intro W hl; first | exact ld_row | exact ld_pt _ | exact ld_pt 0 | exact ld_pt 1 | exact ld_pt 2 | exact ld_pt 3 | exact ld_int)) : o.quiet Try.prog a (fun w' => ∃ g : Grow w G, w' = g.W) K := q_load_any ty x hop h hK
end
section
variable {P : Program} {Q : Exit → Act → World → Prop} {l : List Oper} {a0 : Act} {w : World}
theorem region_QA {id : Nat} (m : Nat) (H : ∃ aE, (∀ G : Grow0 w, wpQuiet P l.toArray (fun w' => ∃ g : Grow w G, w' = g.W) (fun a' => a' = aE) (l.take m) a0) ∧ ∀ W, Link w W → wpList P l.toArray Q (l.drop m) aE W)
    (hm : P.follows .mixedOrders = true := by kernel_rfl) (hml : m ≤ l.length := by decide) (chk : viaChk l m a0.tmps.size = true := by kernel_rfl) (hgd : guardsIn l m = true := by kernel_rfl) (hon : onceB l m = true := by kernel_rfl) :
    (Code.region id l.toArray true).wp P Q a0 w := region_Q m hm hml chk hgd hon H
theorem region_QNA {id : Nat} (m : Nat) (ns : List CellS) {ms : List Bool} {rl : List Oper} (hpk : Pick l ms rl)
    (hal : AllNs (fun s : CellS => ∀ o, l[s.i]? = some o → ∀ (ρ : Operand → Value) (W : World), (execOp ρ o).run P W = .ok (.value (.pointer (some ⟨W.heap.size, 0, none⟩))) (W.alloc (.cells s.Z s.T))) ns)
    (H : ∃ aE, (∀ G : Grow0 w, wpQuiet P l.toArray (fun w' => ∃ g : Grow w G, w' = g.W) (fun a' => a' = aE) rl a0) ∧
      ∀ (g : Nat → Nat) (W : World), Link w W → AllNs (fun s : CellS => w.heap.size ≤ g s.t ∧ RowK W (g s.t) s.Z s.T) ns → AllNs (fun s : CellS => AllNs (fun s' : CellS => s.t ≠ s'.t → g s.t ≠ g s'.t) ns) ns → wpList P l.toArray Q (l.drop m) (puts aE (ns.map fun s => (s.t, .pointer (some ⟨g s.t, 0, none⟩)))) W)
    (hm : P.follows .mixedOrders = true := by kernel_rfl) (hml : m ≤ l.length := by decide) (hrl : (l.take m).filter (fun o => !isNew (ns.map (·.n)) o) = rl := by kernel_rfl)
    (chk : viaChk l m a0.tmps.size = true := by kernel_rfl) (hnew : newB l m (ns.map (·.n)) = true := by kernel_rfl) (hcell : cellB l m ns = true := by kernel_rfl) : (Code.region id l.toArray true).wp P Q a0 w := region_QN m ns hpk hm hml hrl chk hnew hcell hal H
theorem region_CHA {id : Nat} (m : Nat) (ch : List Nat) (KP : World → Prop) {ms mc : List Bool} {rl cl : List Oper} (hpk : Pick l ms rl) (hpc : Pick l mc cl)
    (hk : ∀ W W', KP W → Link W W' → KP W') (h0 : KP w)
    (H : ∃ aE, (∀ W0, KP W0 → ∀ G : Grow0 W0, wpQuiet P l.toArray (fun w' => ∃ g : Grow W0 G, w' = g.W) (fun a' => a' = aE) rl a0) ∧ wpCh P l.toArray KP (fun a' W' => wpList P l.toArray Q (l.drop m) a' W') cl aE w)
    (hm : P.follows .mixedOrders = true := by kernel_rfl) (hml : m ≤ l.length := by decide)
    (hrl : (((List.range m).filter fun i => !ch.contains i).filterMap fun i => l[i]?) = rl := by kernel_rfl) (hcl : (ch.filterMap fun i => l[i]?) = cl := by kernel_rfl)
    (chk : viaChkC l m a0.tmps.size ch = true := by kernel_rfl) (hgd : guardsIn l m = true := by kernel_rfl) (hon : onceC l m = true := by kernel_rfl) (hch : chChk l m ch = true := by kernel_rfl) (hcb : chanB l m ch = true := by kernel_rfl) :
    (Code.region id l.toArray true).wp P Q a0 w := region_CH m ch KP hpk hpc hm hml hrl hcl chk hgd hon hch hcb hk h0 H
end
end Go.Proofs.Ytkhaiphipdpgeaa
/- The library's sort at []int64: its contract, laid for this program by the kit's own tool (lay-shelf, lay-plain), the numbers by name. -/
namespace Go.Proofs
open Go.Shelf
def Ytkhaiphipdpgeaa.laysSort_ren : Go.Shelf.Ren := ⟨fun | 5 => 49 | 8 => 64 | 7 => 63 | 19 => 85 | 20 => 86 | 10 => 76 | 11 => 77 | 12 => 78 | 13 => 79 | 14 => 80 | 15 => 81 | 16 => 82 | 17 => 83 | 18 => 84 | 30 => 96 | 31 => 97 | 32 => 98 | 33 => 99 | 34 => 100 | 35 => 101 | 40 => 109 | n => n, fun | 23 => 22 | 25 => 2 | 3 => 3 | 32 => 80 | 22 => 22 | 0 => 0 | 44 => 98 | 46 => 100 | 4 => 4 | 36 => 91 | 35 => 90 | 41 => 95 | 5 => 5 | 9 => 9 | 53 => 107 | 57 => 111 | 63 => 115 | 64 => 116 | n => n, fun | n => n⟩
theorem Ytkhaiphipdpgeaa.laysSort : Go.Proofs.SlLaysM.n5 Try.prog Ytkhaiphipdpgeaa.laysSort_ren := {
  mixed := by kernel_rfl
  f5 := ⟨Try.f49.name, by decide, Try.func49.trans (congrArg some (by kernel_rfl))⟩
  f7 := ⟨Try.f63.name, by decide, Try.func63.trans (congrArg some (by kernel_rfl))⟩
  f8 := Try.func64.trans (congrArg some (by kernel_rfl))
  f10 := ⟨Try.f76.name, by decide, Try.func76.trans (congrArg some (by kernel_rfl))⟩
  f11 := ⟨Try.f77.name, by decide, Try.func77.trans (congrArg some (by kernel_rfl))⟩
  f12 := ⟨Try.f78.name, by decide, Try.func78.trans (congrArg some (by kernel_rfl))⟩
  f13 := ⟨Try.f79.name, by decide, Try.func79.trans (congrArg some (by kernel_rfl))⟩
  f14 := ⟨Try.f80.name, by decide, Try.func80.trans (congrArg some (by kernel_rfl))⟩
  f15 := ⟨Try.f81.name, by decide, Try.func81.trans (congrArg some (by kernel_rfl))⟩
  f16 := ⟨Try.f82.name, by decide, Try.func82.trans (congrArg some (by kernel_rfl))⟩
  f17 := ⟨Try.f83.name, by decide, Try.func83.trans (congrArg some (by kernel_rfl))⟩
  f18 := ⟨Try.f84.name, by decide, Try.func84.trans (congrArg some (by kernel_rfl))⟩
  f19 := Try.func85.trans (congrArg some (by kernel_rfl))
  f20 := Try.func86.trans (congrArg some (by kernel_rfl))
  f30 := ⟨Try.f96.name, by decide, Try.func96.trans (congrArg some (by kernel_rfl))⟩
  f31 := Try.func97.trans (congrArg some (by kernel_rfl))
  f32 := Try.func98.trans (congrArg some (by kernel_rfl))
  f33 := ⟨Try.f99.name, by decide, Try.func99.trans (congrArg some (by kernel_rfl))⟩
  f34 := ⟨Try.f100.name, by decide, Try.func100.trans (congrArg some (by kernel_rfl))⟩
  f35 := ⟨Try.f101.name, by decide, Try.func101.trans (congrArg some (by kernel_rfl))⟩
  f40 := ⟨Try.f109.name, by decide, Try.func109.trans (congrArg some (by kernel_rfl))⟩
  t0 := Try.underlying0
  a0 := Try.isAgg0
  z0 := Try.sizeOf0
  v0 := Try.zeroValue0
  t3 := Try.underlying3
  a3 := Try.isAgg3
  z3 := Try.sizeOf3
  v3 := Try.zeroValue3
  t4 := Try.underlying4
  a4 := Try.isAgg4
  z4 := Try.sizeOf4
  v4 := Try.zeroValue4
  t5 := Try.underlying5
  a5 := Try.isAgg5
  z5 := Try.sizeOf5
  v5 := Try.zeroValue5
  t9 := Try.underlying9
  a9 := Try.isAgg9
  z9 := Try.sizeOf9
  v9 := Try.zeroValue9
  t22 := Try.underlying22
  a22 := Try.isAgg22
  z22 := Try.sizeOf22
  v22 := Try.zeroValue22
  t23 := Try.underlying22
  a23 := Try.isAgg22
  z23 := Try.sizeOf22
  v23 := Try.zeroValue22
  t25 := Try.underlying2
  a25 := Try.isAgg2
  z25 := Try.sizeOf2
  v25 := Try.zeroValue2
  t32 := Try.underlying80
  a32 := Try.isAgg80
  z32 := Try.sizeOf80
  v32 := Try.zeroValue80
  t35 := Try.underlying90
  a35 := Try.isAgg90
  z35 := Try.sizeOf90
  v35 := Try.zeroValue90
  t36 := Try.underlying91
  a36 := Try.isAgg91
  z36 := Try.sizeOf91
  v36 := Try.zeroValue91
  t41 := Try.underlying95
  a41 := Try.isAgg95
  z41 := Try.sizeOf95
  v41 := Try.zeroValue95
  t44 := Try.underlying98
  a44 := Try.isAgg98
  z44 := Try.sizeOf98
  v44 := Try.zeroValue98
  t46 := Try.underlying100
  a46 := Try.isAgg100
  z46 := Try.sizeOf100
  v46 := Try.zeroValue100
  t53 := Try.underlying107
  a53 := Try.isAgg107
  z53 := Try.sizeOf107
  v53 := Try.zeroValue107
  t57 := Try.underlying111
  a57 := Try.isAgg111
  z57 := Try.sizeOf111
  v57 := Try.zeroValue111
  t63 := Try.underlying115
  a63 := Try.isAgg115
  z63 := Try.sizeOf115
  v63 := Try.zeroValue115
  t64 := Try.underlying116
  a64 := Try.isAgg116
  z64 := Try.sizeOf116
  v64 := Try.zeroValue116 }
open Go.Sort Go.RowKit in
theorem Ytkhaiphipdpgeaa.slices_Sort_int (blk off cap : Nat) (zs : List Int) (w : World) (hH : Holds (Value.int .i64) w blk off zs.toArray) (hblk : blk < w.heap.size) (hsz : zs.length < 4611686018427387904) :
    Calls Try.prog 49 #[.slice (some ⟨blk, off, none⟩) zs.length cap] w fun e w' =>
      e = .returned (.tuple #[]) ∧ ∃ n os, w' = grow (putRow (Value.int .i64) (Sort.ahead w n) blk off (zs.mergeSort fun x y => decide (x ≤ y)).toArray) os := AnyM.slices_Sort_int Ytkhaiphipdpgeaa.laysSort blk off cap zs w hH hblk hsz
open Go.RowKit Go.Sort in
/-- .. and plain. (LAID AT THE INSTANCE 'slices.Sort[[]int64,int64]': no walk: one application.) -/
theorem Ytkhaiphipdpgeaa.slices_Sort_int_none (p : Option Addr) (cap : Nat) (w : World) :
    Calls Try.prog 49 #[.slice p 0 cap] w fun e w' => e = .returned (.tuple #[]) ∧ w' = w := AnyM.slices_Sort_int_none Ytkhaiphipdpgeaa.laysSort p cap w
end Go.Proofs
