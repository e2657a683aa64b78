/- Texts of the claim, in build order: M6, M7, M8, S1, S2, S3, S4, S5, S6, S9, T1, T2, T3, Own, Aut, IR1, IR2, IR3. No condition. -/
import Derived.Laws.Cover3
import Derived.Maps.AppendAt
import Derived.Great.BuildSlice
import Derived.Test.YtcfilpcjgdbbmaaZIncidenceRank6
/- Contracts: whether numbers are a map, a conic, a desk: the reference. -/
namespace Go.Proofs.Ytcfilpcjgdbbmaa
open Go.RowKit
set_option linter.unusedVariables false
set_option linter.unusedSimpArgs false
theorem cells6' (x0 x1 x2 x3 x4 x5 : Int) (w : World) (T : TypeId) (g : Nat) (hg : g = w.heap.size) : ∀ i, i < 6 → (w.alloc (.cells #[.int .i64 x0, .int .i64 x1, .int .i64 x2, .int .i64 x3, .int .i64 x4, .int .i64 x5] T)).cell? ⟨g, 0 + i, none⟩ = some (.int .i64 ([x0, x1, x2, x3, x4, x5].getD i 0)) := by
  subst hg; exact cells6 x0 x1 x2 x3 x4 x5 w T
theorem calm_pickI {P : Program} {o : Oper} {ρ : Operand → Value} {W : World} (x y z : Operand) {c : Bool} {v : Value} (ho : o.op = .pick x y z) (hx : ρ x = .bool c) (hv : (if c = true then ρ y else ρ z) = v) : calmAt P o ρ W v := by
  refine calm_run ?_
  unfold execOp
  subst hv
  simp only [ho, hx, asBool, Sem.run_bind, Sem.run_pure, Result.andThen_ok]
theorem norm_fix {p x0 x1 x2 x3 x4 x5 x6 x7 x8 f : Int} (hp : prB p = true) (hr : numsB p [x0, x1, x2, x3, x4, x5, x6, x7, x8] = true) (hf : facL p [x0, x1, x2, x3, x4, x5, x6, x7, x8] = f) (hd : (detZ (x0, x1, x2) (x3, x4, x5) (x6, x7, x8) % p != 0) = true) :
    eqM (x0 % p * f % p, x1 % p * f % p, x2 % p * f % p) (x3 % p * f % p, x4 % p * f % p, x5 % p * f % p) (x6 % p * f % p, x7 % p * f % p, x8 % p * f % p) (x0, x1, x2) (x3, x4, x5) (x6, x7, x8) = normB p [x0, x1, x2, x3, x4, x5, x6, x7, x8] := by
  have hb := prB_bd hp
  have bd : ∀ x ∈ [x0, x1, x2, x3, x4, x5, x6, x7, x8], 0 ≤ x ∧ x ≤ p - 1 := fun x hx => numB_iff.1 (List.all_eq_true.1 hr x hx)
  have hm : ∀ x ∈ [x0, x1, x2, x3, x4, x5, x6, x7, x8], x % p = x := fun x hx => Int.emod_eq_of_lt (bd x hx).1 (by have := (bd x hx).2; omega)
  have hmap : [x0, x1, x2, x3, x4, x5, x6, x7, x8].map (· % p) = [x0, x1, x2, x3, x4, x5, x6, x7, x8] := by
    conv => rhs; rw [← List.map_id [x0, x1, x2, x3, x4, x5, x6, x7, x8]]
    exact List.map_congr_left (fun x hx => hm x hx)
  have hz : firstNZ [x0, x1, x2, x3, x4, x5, x6, x7, x8] ≠ 0 := by
    intro e
    have h0 := firstNZ_eq_zero.1 e
    have z : ∀ x ∈ [x0, x1, x2, x3, x4, x5, x6, x7, x8], x = 0 := fun x hx => by simpa using List.all_eq_true.1 h0 x hx
    have z0 := z x0 (by simp); have z1 := z x1 (by simp); have z2 := z x2 (by simp)
    rw [z0, z1, z2] at hd
    simp [detZ] at hd
  have hmem : firstNZ [x0, x1, x2, x3, x4, x5, x6, x7, x8] ∈ [x0, x1, x2, x3, x4, x5, x6, x7, x8] := by
    rcases firstNZ_mem [x0, x1, x2, x3, x4, x5, x6, x7, x8] with h | h
    · exact absurd h hz
    · exact h
  have hbz := bd _ hmem
  have hfz : f = invP p (firstNZ [x0, x1, x2, x3, x4, x5, x6, x7, x8]) := by rw [← hf]; unfold facL; rw [hmap]
  have hnb : normB p [x0, x1, x2, x3, x4, x5, x6, x7, x8] = (firstNZ [x0, x1, x2, x3, x4, x5, x6, x7, x8] == 1) := by unfold normB; rw [hr]; simp
  rw [hnb]
  clear hnb hf
  generalize firstNZ [x0, x1, x2, x3, x4, x5, x6, x7, x8] = z at *
  obtain ⟨s1, s2, s3, _⟩ := invP_spec (p := p) (n := z) hp (by omega) (by omega)
  rw [← hfz] at s1 s2 s3
  by_cases h1 : z = 1
  · have hf1 : f = 1 := by
      rw [h1, Int.one_mul, Int.emod_eq_of_lt (by omega) s2] at s3; exact s3
    have k : ∀ x ∈ [x0, x1, x2, x3, x4, x5, x6, x7, x8], x % p * f % p = x := fun x hx => by rw [hf1, Int.mul_one, hm x hx, hm x hx]
    have e : (z == 1) = true := by simp [h1]
    rw [e]
    refine eqM_iff.2 ⟨?_, ?_, ?_⟩
    · rw [k x0 (by simp), k x1 (by simp), k x2 (by simp)]
    · rw [k x3 (by simp), k x4 (by simp), k x5 (by simp)]
    · rw [k x6 (by simp), k x7 (by simp), k x8 (by simp)]
  · have e : (z == 1) = false := by simp [h1]
    rw [e]
    cases he : eqM (x0 % p * f % p, x1 % p * f % p, x2 % p * f % p) (x3 % p * f % p, x4 % p * f % p, x5 % p * f % p) (x6 % p * f % p, x7 % p * f % p, x8 % p * f % p) (x0, x1, x2) (x3, x4, x5) (x6, x7, x8) with
    | false => rfl
    | true =>
      exfalso
      obtain ⟨e1, e2, e3⟩ := eqM_iff.1 he
      simp only [Prod.mk.injEq] at e1 e2 e3
      have k : ∀ x ∈ [x0, x1, x2, x3, x4, x5, x6, x7, x8], x % p * f % p = x := by
        intro x hx
        simp only [List.mem_cons, List.not_mem_nil, or_false] at hx
        rcases hx with rfl | rfl | rfl | rfl | rfl | rfl | rfl | rfl | rfl
        · exact e1.1
        · exact e1.2.1
        · exact e1.2.2
        · exact e2.1
        · exact e2.2.1
        · exact e2.2.2
        · exact e3.1
        · exact e3.2.1
        · exact e3.2.2
      have := k z hmem
      rw [hm z hmem, s3] at this
      exact h1 this.symm
theorem mapB_no {p d : Int} {l : List Int} (h : prB p = false) : mapB p l d = false := by unfold mapB; rw [h]; rfl
theorem mapB_range {p d : Int} {l : List Int} (h : numsB p l = false) : mapB p l d = false := by unfold mapB normB; rw [h]; simp
theorem mapB_det {p d : Int} {l : List Int} (h : (d % p != 0) = false) : mapB p l d = false := by unfold mapB; rw [h]; simp
theorem mapB_yes {p d : Int} {l : List Int} (hp : prB p = true) (h : (d % p != 0) = true) : mapB p l d = normB p l := by unfold mapB; rw [hp, h]; simp
theorem nums_all {p : Int} {l : List Int} (h : ∀ q, q < l.length → numB p (l.getD q 0) = true) : numsB p l = true := by
  unfold numsB
  rw [List.all_eq_true]
  intro x hx
  obtain ⟨q, hq, e⟩ := List.mem_iff_getElem.1 hx
  have := h q hq
  simpa [List.getD, hq, e] using this
end Go.Proofs.Ytcfilpcjgdbbmaa
/- Contracts: the laws' own maps, conics, desks. (Printed by genm7.py, a program of this session.) -/
namespace Go.Proofs.Ytcfilpcjgdbbmaa
open Go.RowKit
set_option linter.unusedVariables false
set_option linter.unusedSimpArgs false
end Go.Proofs.Ytcfilpcjgdbbmaa
/- The law FnExactIsDesk: walked. -/
namespace Go.Proofs.Ytcfilpcjgdbbmaa
open Go.RowKit
set_option linter.unusedVariables false
set_option linter.unusedSimpArgs false
/-- A part of a block is loaded, stored, with the block's cells known. -/
theorem wpList_load_at {P : Program} (w : World) {ops : Array Oper} {rest : List Oper} {o : Oper} {a : Act} {Q : Exit → Act → World → Prop}
    (hgd : o.guard = none) (ty : TypeId) (x : Operand) (hop : o.op = .load ty x) {g off : Nat} {T : TypeId} {cs U : Array Value} {fr : Nat × Nat} (hx : a.eval x = .pointer (some ⟨g, off, none⟩))
    (hg : w.heap[g]? = some (.cells cs T fr)) (n : Nat) (hn : U.size = n) (hU : ∀ j, j < n → cs[off + j]? = U[j]?) (hs : ∀ W, (sizeOf ty).run P W = .ok n W) (ha : ∀ W, (isAgg ty).run P W = .ok true W) (hK : wpList P ops Q rest (a.put o.dst (.agg U)) w) : wpList P ops Q (o :: rest) a w := by
  refine wpList_plain hgd fun K hK' => ?_
  subst hn
  have hl : (loadCells ⟨g, off, none⟩ U.toList.length).run P w = .ok U.toList.toArray w :=
    run_loadCells_list (P := P) w ⟨g, off, none⟩ U.toList (fun j v hv => by
      have hadd : (⟨g, off, none⟩ : Addr).add j = ⟨g, off + j, none⟩ := by unfold Addr.add; split <;> simp_all
      have hj : j < U.size := by simpa using (List.getElem?_eq_some_iff.1 hv).1
      rw [hadd, cell_of_row w g _ cs T fr hg, hU j hj]
      simpa using hv)
  simp only [Array.length_toList, Array.toArray_toList] at hl
  have hv : (loadVar ty ⟨g, off, none⟩).run P w = .ok (.agg U) w := by
    unfold loadVar
    rw [Sem.run_bind, ha]
    simp only [Result.andThen_ok, if_true]
    rw [Sem.run_bind, hs]
    simp only [Result.andThen_ok]
    rw [Sem.run_bind, hl]
    rfl
  have hr : (execOp a.eval o).run P w = .ok (.value (.agg U)) w := by
    unfold execOp
    simp only [hop, hx, Instr.loadAt, Instr.sureAddr, Sem.run_bind, Sem.run_pure, Result.andThen_ok, hv]
  unfold Oper.wp
  rw [hr]
  simp only [Oper.upon]
  exact hK' _ _ hK
theorem wpList_store_at {P : Program} (w : World) {ops : Array Oper} {rest : List Oper} {o : Oper} {a : Act} {Q : Exit → Act → World → Prop}
    (hgd : o.guard = none) (ty : TypeId) (x y : Operand) (hop : o.op = .store ty x y) (hd : o.dst = none) {g off : Nat} {T : TypeId} {cs cs' U : Array Value} (hx : a.eval x = .pointer (some ⟨g, off, none⟩)) (hy : a.eval y = .agg U)
    (hg : w.heap[g]? = some (.cells cs T (0, 0))) (hn : off + U.size ≤ cs.size) (he : (cs.toList.take off ++ U.toList ++ cs.toList.drop (off + U.toList.length)).toArray = cs') (hs : ∀ W, (sizeOf ty).run P W = .ok U.size W) (h1 : ∀ v ∈ U.toList, v.oneCell' = true) (hK : wpList P ops Q rest a (w.setRow g cs')) : wpList P ops Q (o :: rest) a w := by
  refine wpList_plain hgd fun K hK' => ?_
  have hst := run_storeCells_at (P := P) g off T U.toList 0 cs w hg (by simpa using hn) h1
  rw [Nat.add_zero, he] at hst
  have hv : (storeVar ty ⟨g, off, none⟩ (.agg U)).run P w = .ok () (w.setRow g cs') := by
    unfold storeVar
    rw [Sem.run_bind, hs]
    simp only [Result.andThen_ok, Value.cells, ne_eq, not_true_eq_false, if_false]
    exact hst
  have hr : (execOp a.eval o).run P w = .ok .skip (w.setRow g cs') := by
    unfold execOp
    simp only [hop, hx, hy, Instr.storeAt, Instr.sureAddr, Sem.run_bind, Sem.run_pure, Result.andThen_ok, hv]
  unfold Oper.wp
  rw [hr]
  simp only [Oper.upon, hd]
  exact hK' _ _ hK
end Go.Proofs.Ytcfilpcjgdbbmaa
/- Contracts: maps turned and multiplied, as the program does it. (Printed by gens1.py, a program of this session.) -/
namespace Go.Proofs.Ytcfilpcjgdbbmaa
open Go.RowKit
set_option linter.unusedVariables false
set_option linter.unusedSimpArgs false
@[simp] theorem setRow_sizeS (w : World) (g : Nat) (cs : Array Value) : (w.setRow g cs).heap.size = w.heap.size := by simp [World.setRow]
theorem wpList_store1 {P : Program} (w : World) {ops : Array Oper} {rest : List Oper} {o : Oper} {a : Act} {Q : Exit → Act → World → Prop}
    (hgd : o.guard = none) (ty : TypeId) (x y : Operand) (hop : o.op = .store ty x y) (hd : o.dst = none) {g off : Nat} {T : TypeId} {cs cs' : Array Value} {z : Int} (hx : a.eval x = .pointer (some ⟨g, off, none⟩)) (hy : a.eval y = .int .i64 z)
    (hg : w.heap[g]? = some (.cells cs T (0, 0))) (hn : off + 1 ≤ cs.size) (he : (cs.toList.take off ++ [Value.int .i64 z] ++ cs.toList.drop (off + 1)).toArray = cs') (hs : ∀ W, (sizeOf ty).run P W = .ok 1 W) (hK : wpList P ops Q rest a (w.setRow g cs')) : wpList P ops Q (o :: rest) a w := by
  refine wpList_plain hgd fun K hK' => ?_
  have hst := run_storeCells_at (P := P) g off T [Value.int .i64 z] 0 cs w hg (by simpa using hn) (by intro v hv; rw [List.mem_singleton.1 hv]; rfl)
  rw [Nat.add_zero, show ([Value.int .i64 z] : List Value).length = 1 from rfl, he] at hst
  have hv : (storeVar ty ⟨g, off, none⟩ (.int .i64 z)).run P w = .ok () (w.setRow g cs') := by
    unfold storeVar
    rw [Sem.run_bind, hs]
    simp only [Result.andThen_ok, Value.cells, ne_eq, List.size_toArray, List.length_cons, List.length_nil, Nat.zero_add, not_true_eq_false, if_false]
    exact hst
  have hr : (execOp a.eval o).run P w = .ok .skip (w.setRow g cs') := by
    unfold execOp
    simp only [hop, hx, hy, Instr.storeAt, Instr.sureAddr, Sem.run_bind, Sem.run_pure, Result.andThen_ok, hv]
  unfold Oper.wp
  rw [hr]
  simp only [Oper.upon, hd]
  exact hK' _ _ hK
theorem row_int {w : World} {g off : Nat} {cs : Array Value} {T : TypeId} {fr : Nat × Nat} {z : Int} (h : w.heap[g]? = some (.cells cs T fr)) (hz : cs[off]? = some (.int .i64 z)) : w.cell? ⟨g, off, none⟩ = some (.int .i64 z) := by
  rw [cell_of_row w g off _ _ _ h]; exact hz
end Go.Proofs.Ytcfilpcjgdbbmaa
/- Contracts: maps made normal and multiplied, as the program does it. (Printed by gens2.py, a program of this session.) -/
namespace Go.Proofs.Ytcfilpcjgdbbmaa
open Go.RowKit
set_option linter.unusedVariables false
set_option linter.unusedSimpArgs false
theorem ownInts2 {W : World} {base : Nat} {T : TypeId} {v : Value} {l : List Int} {n : Nat} (h : W.ownsRow base T 1 v n (ints l)) (hl : l.length = n) (hn : 0 < n) :
    ∃ g cap, v = .slice (some ⟨g, 0, none⟩) n cap ∧ base ≤ g ∧ g < W.heap.size ∧ n ≤ cap ∧ (∀ i, i < n → W.cell? ⟨g, 0 + i, none⟩ = some (.int .i64 (l.getD i 0))) ∧ ∀ i, W.frozen? ⟨g, i, none⟩ = false := by
  obtain ⟨g, cap, e, hc⟩ := ownInts h hl hn
  rcases h.2 with ⟨_, h0⟩ | ⟨g', cap', cur, e', hb, hg, hle, _, hsz, htk⟩
  · omega
  · rw [e] at e'
    cases e'
    exact ⟨g, cap, e, hb, (Array.getElem?_eq_some_iff.1 hg).1, hle, hc, fun i => frozen_of_row W g i _ _ hg⟩
theorem set_nine {W : World} {g : Nat} {l : List Int} (hc : ∀ i, i < 9 → W.cell? ⟨g, 0 + i, none⟩ = some (.int .i64 (l.getD i 0))) (N : List Int) (hN : N.length = 9) (i : Nat) (hi : i < 9) : (setInts W g 0 N).cell? ⟨g, i, none⟩ = some (.int .i64 (N.getD i 0)) := by
  have := setInts_cell W g 0 N (fun j hj => by rw [hc j (by omega)]; rfl) i (by omega)
  rwa [Nat.zero_add] at this
end Go.Proofs.Ytcfilpcjgdbbmaa
/- Contracts: products of maps, made normal: the program's and the reference's. (Printed by gens3.py, a program of this session.) -/
namespace Go.Proofs.Ytcfilpcjgdbbmaa
open Go.RowKit
set_option linter.unusedVariables false
set_option linter.unusedSimpArgs false
/-- A map: three rows. -/
abbrev M9 := Pt × Pt × Pt
@[reducible] def mapV (m : M9) : Value := .agg #[.int .i64 m.1.1, .int .i64 m.1.2.1, .int .i64 m.1.2.2, .int .i64 m.2.1.1, .int .i64 m.2.1.2.1, .int .i64 m.2.1.2.2, .int .i64 m.2.2.1, .int .i64 m.2.2.2.1, .int .i64 m.2.2.2.2]
def listM (m : M9) : List Int := [m.1.1, m.1.2.1, m.1.2.2, m.2.1.1, m.2.1.2.1, m.2.1.2.2, m.2.2.1, m.2.2.2.1, m.2.2.2.2]
def In12 (x : Int) : Prop := 0 ≤ x ∧ x ≤ 12
def InM (m : M9) : Prop := ∀ x ∈ listM m, In12 x
def dotQ (p : Int) (a b : Pt) : Int := (a.1 * b.1 + a.2.1 * b.2.1 + a.2.2 * b.2.2) % p
def colM (m : M9) : M9 := ((m.1.1, m.2.1.1, m.2.2.1), (m.1.2.1, m.2.1.2.1, m.2.2.2.1), (m.1.2.2, m.2.1.2.2, m.2.2.2.2))
def mulM (p : Int) (x y : M9) : M9 :=
  ((dotQ p x.1 (colM y).1, dotQ p x.1 (colM y).2.1, dotQ p x.1 (colM y).2.2), (dotQ p x.2.1 (colM y).1, dotQ p x.2.1 (colM y).2.1, dotQ p x.2.1 (colM y).2.2), (dotQ p x.2.2 (colM y).1, dotQ p x.2.2 (colM y).2.1, dotQ p x.2.2 (colM y).2.2))
def scaP (p f : Int) (a : Pt) : Pt := (a.1 % p * f % p, a.2.1 % p * f % p, a.2.2 % p * f % p)
def normM (p : Int) (m : M9) : M9 := (scaP p (facL p (listM m)) m.1, scaP p (facL p (listM m)) m.2.1, scaP p (facL p (listM m)) m.2.2)
def timesM (p : Int) (x y : M9) : M9 := normM p (mulM p x y)
theorem in12_mod {p z : Int} (hp : prB p = true) : In12 (z % p) := by
  have hb := prB_bd hp
  have h1 := Int.emod_nonneg z (by omega : p ≠ 0)
  have h2 := Int.emod_lt_of_pos z (by omega : 0 < p)
  exact ⟨h1, by omega⟩
theorem inM_times {p : Int} {x y : M9} (hp : prB p = true) : InM (timesM p x y) := by
  intro z hz
  simp only [timesM, normM, scaP, listM, List.mem_cons, List.not_mem_nil, or_false] at hz
  rcases hz with rfl | rfl | rfl | rfl | rfl | rfl | rfl | rfl | rfl <;> exact in12_mod hp
theorem inM_mul {p : Int} {x y : M9} (hp : prB p = true) : InM (mulM p x y) := by
  intro z hz
  simp only [mulM, dotQ, listM, List.mem_cons, List.not_mem_nil, or_false] at hz
  rcases hz with rfl | rfl | rfl | rfl | rfl | rfl | rfl | rfl | rfl <;> exact in12_mod hp
theorem big12 {x : Int} (h : In12 x) : -4611686018427387904 ≤ x ∧ x ≤ 4611686018427387904 := by
  obtain ⟨h1, h2⟩ := h
  omega
theorem inM_at {m : M9} (h : InM m) : In13 m.1 ∧ In13 m.2.1 ∧ In13 m.2.2 ∧ In13 (colM m).1 ∧ In13 (colM m).2.1 ∧ In13 (colM m).2.2 := by
  have k := fun x hx => h x hx
  simp only [listM, List.mem_cons, List.not_mem_nil, or_false] at k
  have a0 := k m.1.1 (by simp); have a1 := k m.1.2.1 (by simp); have a2 := k m.1.2.2 (by simp)
  have a3 := k m.2.1.1 (by simp); have a4 := k m.2.1.2.1 (by simp); have a5 := k m.2.1.2.2 (by simp)
  have a6 := k m.2.2.1 (by simp); have a7 := k m.2.2.2.1 (by simp); have a8 := k m.2.2.2.2 (by simp)
  exact ⟨⟨a0, a1, a2⟩, ⟨a3, a4, a5⟩, ⟨a6, a7, a8⟩, ⟨a0, a3, a6⟩, ⟨a1, a4, a7⟩, ⟨a2, a5, a8⟩⟩
theorem mul12 {a b : Int} (ha : In12 a) (hb : In12 b) : 0 ≤ a * b ∧ a * b ≤ 144 := by
  refine ⟨Int.mul_nonneg ha.1 hb.1, ?_⟩
  have h1 : a * b ≤ 12 * b := Int.mul_le_mul_of_nonneg_right ha.2 hb.1
  have h2 := hb.2
  omega
theorem wrap_small {z : Int} (h : 0 ≤ z ∧ z ≤ 1000000) : IntKind.wrap .i64 z = z := by
  simp [IntKind.wrap, IntKind.signed, IntKind.bits]; omega
theorem modb {p z : Int} (hp : 3 ≤ p ∧ p ≤ 13) : 0 ≤ z % p ∧ z % p ≤ 1000000 := by
  have h1 := Int.emod_nonneg z (by omega : p ≠ 0)
  have h2 := Int.emod_lt_of_pos z (by omega : 0 < p)
  exact ⟨h1, by omega⟩
theorem dot12 {a b c d e f : Int} (ha : In12 a) (hb : In12 b) (hc : In12 c) (hd : In12 d) (he : In12 e) (hf : In12 f) : 0 ≤ a * b + c * d + e * f := by
  have := mul12 ha hb; have := mul12 hc hd; have := mul12 he hf; omega
theorem wmul {a b : Int} (ha : In12 a) (hb : In12 b) : IntKind.wrap .i64 (a * b) = a * b := wrap_small (by have := mul12 ha hb; omega)
theorem wadd2 {a b c d : Int} (ha : In12 a) (hb : In12 b) (hc : In12 c) (hd : In12 d) : IntKind.wrap .i64 (a * b + c * d) = a * b + c * d := wrap_small (by have := mul12 ha hb; have := mul12 hc hd; omega)
theorem wadd3 {a b c d e f : Int} (ha : In12 a) (hb : In12 b) (hc : In12 c) (hd : In12 d) (he : In12 e) (hf : In12 f) : IntKind.wrap .i64 (a * b + c * d + e * f) = a * b + c * d + e * f := wrap_small (by have := mul12 ha hb; have := mul12 hc hd; have := mul12 he hf; omega)
end Go.Proofs.Ytcfilpcjgdbbmaa
/- The Singer maps, in plain words: which code is the first. -/
namespace Go.Proofs.Ytcfilpcjgdbbmaa
open Go.RowKit
set_option linter.unusedVariables false
set_option linter.unusedSimpArgs false
def unitM : M9 := ((1, 0, 0), (0, 1, 0), (0, 0, 1))
/-- The powers of a map: number k is the power k + 1. -/
def powM (p : Int) (m : M9) : Nat → M9
  | 0 => m
  | k + 1 => timesM p (powM p m k) m
def compM (p c : Int) : M9 := ((0, 1, 0), (0, 0, 1), (c % p, c / p % p, c / (p * p)))
/-- From now on: how many steps until the unit. -/
def ordF (p : Int) (m : M9) : Nat → M9 → Nat → Nat
  | 0, _, _ => 0
  | f + 1, now, k => if now = unitM then k else ordF p m f (timesM p now m) (k + 1)
def ordM (p : Int) (m : M9) : Nat := ordF p m 200 m 1
theorem ordF_spec {p : Int} {m : M9} : ∀ (f : Nat) (k : Nat), ordF p m f (powM p m k) (k + 1) ≠ 0 → ∃ j, k ≤ j ∧ j < k + f ∧ ordF p m f (powM p m k) (k + 1) = j + 1 ∧ powM p m j = unitM ∧ ∀ i, k ≤ i → i < j → powM p m i ≠ unitM
  | 0, _, h => (h rfl).elim
  | f + 1, k, h => by
    unfold ordF at h ⊢
    by_cases e : powM p m k = unitM
    · rw [if_pos e]
      exact ⟨k, Nat.le_refl _, by omega, rfl, e, fun i h1 h2 => absurd h2 (by omega)⟩
    · rw [if_neg e] at h ⊢
      obtain ⟨j, h1, h2, h3, h4, h5⟩ := ordF_spec f (k + 1) h
      refine ⟨j, by omega, by omega, h3, h4, fun i hi hj => ?_⟩
      by_cases ei : i = k
      · rw [ei]; exact e
      · exact h5 i (by omega) hj
/-- The order of a map, where it is at most 200. -/
theorem ordM_spec {p : Int} {m : M9} {K : Nat} (h : ordM p m = K) (hK : K ≠ 0) : 1 ≤ K ∧ K ≤ 200 ∧ powM p m (K - 1) = unitM ∧ ∀ i, i < K - 1 → powM p m i ≠ unitM := by
  have h0 : ordF p m 200 (powM p m 0) (0 + 1) ≠ 0 := by rw [show ordF p m 200 (powM p m 0) (0 + 1) = K from h]; exact hK
  obtain ⟨j, _, h2, h3, h4, h5⟩ := ordF_spec 200 0 h0
  have e : K = j + 1 := by rw [← h]; exact h3
  subst e
  exact ⟨by omega, by omega, h4, fun i hi => h5 i (by omega) (by simpa using hi)⟩
/-- The first code of a Singer map. -/
def firstC (p : Nat) : Nat := if p = 3 then 4 else if p = 5 then 7 else if p = 7 then 9 else if p = 11 then 14 else 17
def goodB (p c : Nat) : Bool := c % p != 0 && ordM p (compM p c) == p * p + p + 1
def checkC (p : Nat) : Bool := (List.range (firstC p)).all (fun c => c % p == 0 || (ordM p (compM p c) != 0 && ordM p (compM p c) != p * p + p + 1)) && (firstC p % p != 0 && ordM p (compM p (firstC p)) == p * p + p + 1)
theorem checks : ∀ p ∈ [3, 5, 7, 11, 13], checkC p = true := by decide +kernel
theorem inM_comp {p c : Nat} (hp : prB (p : Int) = true) (hc : c < p * p * p) : InM (compM p c) := by
  have hb := prB_bd hp
  have h1 : In12 ((c : Int) % p) := in12_mod hp
  have h2 : In12 ((c : Int) / p % p) := in12_mod hp
  have h3 : In12 ((c : Int) / ((p : Int) * p)) := by
    have e : (c : Int) / ((p : Int) * p) = ((c / (p * p) : Nat) : Int) := by simp
    rw [e]
    have : c / (p * p) < p := Nat.div_lt_of_lt_mul (by omega)
    generalize c / (p * p) = q at *
    exact ⟨Int.natCast_nonneg _, by omega⟩
  intro z hz
  simp only [compM, listM, List.mem_cons, List.not_mem_nil, or_false] at hz
  rcases hz with rfl | rfl | rfl | rfl | rfl | rfl | rfl | rfl | rfl <;> first | exact h1 | exact h2 | exact h3 | exact ⟨by decide, by decide⟩
theorem inM_pow {p : Int} {m : M9} (hp : prB p = true) (hm : InM m) (k : Nat) : InM (powM p m k) := by
  cases k with
  | zero => exact hm
  | succ k => exact inM_times hp
theorem eqM_dec (x y : M9) : eqM x.1 x.2.1 x.2.2 y.1 y.2.1 y.2.2 = decide (x = y) := by
  cases h : eqM x.1 x.2.1 x.2.2 y.1 y.2.1 y.2.2 with
  | true => obtain ⟨a, b, c⟩ := eqM_iff.1 h; exact (decide_eq_true (Prod.ext a (Prod.ext b c))).symm
  | false => exact (decide_eq_false (fun e => by rw [e, eqM_iff.2 ⟨rfl, rfl, rfl⟩] at h; cases h)).symm
end Go.Proofs.Ytcfilpcjgdbbmaa
/- Contracts: the orders of maps. (Printed by gens5.py, a program of this session.) -/
namespace Go.Proofs.Ytcfilpcjgdbbmaa
open Go.RowKit
set_option linter.unusedVariables false
set_option linter.unusedSimpArgs false
@[reducible] def cellsM9 (m : M9) : Array Value := #[.int .i64 m.1.1, .int .i64 m.1.2.1, .int .i64 m.1.2.2, .int .i64 m.2.1.1, .int .i64 m.2.1.2.1, .int .i64 m.2.1.2.2, .int .i64 m.2.2.1, .int .i64 m.2.2.2.1, .int .i64 m.2.2.2.2]
theorem numW {a b : Int} (h : a = b) : Value.int .i64 a = Value.int .i64 b := by rw [h]
def ordT (K n : Nat) : Int := if K ≤ n then (K : Int) else 0
end Go.Proofs.Ytcfilpcjgdbbmaa
/- Contracts: the Singer map, as the program and as the reference find it. (Printed by gens6.py, a program of this session.) -/
namespace Go.Proofs.Ytcfilpcjgdbbmaa
open Go.RowKit
set_option linter.unusedVariables false
set_option linter.unusedSimpArgs false
theorem det_comp (n c : Nat) (hn : 3 ≤ n) : detZ (0, 1, 0) (0, 0, 1) ((c : Int) % (n : Int), (c : Int) / (n : Int) % (n : Int), (c : Int) / ((n : Int) * (n : Int))) % (n : Int) = ((c % n : Nat) : Int) := by
  unfold detZ
  simp
theorem comp_cells (n c : Nat) : cellsM9 (compM n c) = #[.int .i64 0, .int .i64 1, .int .i64 0, .int .i64 0, .int .i64 0, .int .i64 1, .int .i64 ((c : Int) % (n : Int)), .int .i64 ((c : Int) / (n : Int) % (n : Int)), .int .i64 ((c : Int) / ((n : Int) * (n : Int)))] := rfl
structure Codes (n : Nat) : Prop where
  pr : prB (n : Int) = true
  lt : firstC n < n * n * n
  no : ∀ c, c < firstC n → c % n = 0 ∨ (c % n ≠ 0 ∧ ordM n (compM n c) ≠ 0 ∧ ordM n (compM n c) ≠ n * n + n + 1)
  yes : firstC n % n ≠ 0 ∧ ordM n (compM n (firstC n)) = n * n + n + 1
theorem codes_of {n : Nat} (hp : prB (n : Int) = true) : Codes n := by
  have hm : n ∈ [3, 5, 7, 11, 13] := by
    have := prB_cases hp
    simp only [List.mem_cons, List.not_mem_nil, or_false]
    omega
  have hk := checks n hm
  unfold checkC at hk
  simp only [Bool.and_eq_true, bne_iff_ne, ne_eq, beq_iff_eq] at hk
  refine ⟨hp, ?_, fun c hc => ?_, hk.2⟩
  · simp only [List.mem_cons, List.not_mem_nil, or_false] at hm
    rcases hm with rfl | rfl | rfl | rfl | rfl <;> decide
  · have := List.all_eq_true.1 hk.1 c (List.mem_range.2 hc)
    simp only [Bool.or_eq_true, beq_iff_eq, Bool.and_eq_true, bne_iff_ne, ne_eq] at this
    rcases this with h | h
    · exact .inl h
    · by_cases h0 : c % n = 0
      · exact .inl h0
      · exact .inr ⟨h0, h.1, h.2⟩
end Go.Proofs.Ytcfilpcjgdbbmaa
/- Orbits of a point under a map, in plain words; that the Singer orbits close. -/
namespace Go.Proofs.Ytcfilpcjgdbbmaa
open Go.RowKit
set_option linter.unusedVariables false
set_option linter.unusedSimpArgs false
def dotP (a b : Pt) : Int := a.1 * b.1 + a.2.1 * b.2.1 + a.2.2 * b.2.2
def imgP (p : Int) (m : M9) (a : Pt) : Pt := nrm3 p (dotP m.1 a % p) (dotP m.2.1 a % p) (dotP m.2.2 a % p)
theorem nrm3_in {p : Int} (hp : prB p = true) (x y z : Int) : In13 (nrm3 p x y z) := by
  obtain ⟨h3, h13⟩ := prB_bd hp
  unfold nrm3
  exact ⟨in12_mod hp, in12_mod hp, in12_mod hp⟩
theorem imgP_in {p : Int} (hp : prB p = true) (m : M9) (a : Pt) : In13 (imgP p m a) := nrm3_in hp _ _ _
def orbA (p : Int) (m : M9) (a : Pt) : Nat → Pt
  | 0 => a
  | k + 1 => imgP p m (orbA p m a k)
theorem orbA_in {p : Int} (hp : prB p = true) {m : M9} {a : Pt} (ha : In13 a) (k : Nat) : In13 (orbA p m a k) := by
  cases k with
  | zero => exact ha
  | succ k => exact imgP_in hp _ _
def orbL (p : Int) (m : M9) (a : Pt) (k : Nat) : List Pt := (List.range k).map (orbA p m a)
theorem orbL_succ (p : Int) (m : M9) (a : Pt) (k : Nat) : orbL p m a (k + 1) = orbL p m a k ++ [orbA p m a k] := by
  unfold orbL; rw [List.range_succ, List.map_append]; rfl
theorem orbL_length (p : Int) (m : M9) (a : Pt) (k : Nat) : (orbL p m a k).length = k := by unfold orbL; simp
theorem orbL_at (p : Int) (m : M9) (a : Pt) (k i : Nat) (h : i < k) : (orbL p m a k).getD i (0, 0, 0) = orbA p m a i := by
  unfold orbL; simp [List.getD, h]
/-- The orbit is back at its first point after k steps, and not before. -/
structure Orb (p : Int) (m : M9) (a : Pt) (k : Nat) : Prop where
  pr : prB p = true
  inm : InM m
  inp : In13 a
  pos : 0 < k ∧ k ≤ 1000
  back : orbA p m a k = a
  no : ∀ i, 0 < i → i < k → orbA p m a i ≠ a
def orbF (p : Int) (m : M9) (a : Pt) : Nat → Pt → Bool
  | 0, now => now == a
  | f + 1, now => now != a && orbF p m a f (imgP p m now)
theorem orbF_spec {p : Int} {m : M9} {a : Pt} : ∀ (f k : Nat), orbF p m a f (orbA p m a k) = true → (∀ i, k ≤ i → i < k + f → orbA p m a i ≠ a) ∧ orbA p m a (k + f) = a
  | 0, k, h => ⟨fun i h1 h2 => by omega, by simpa [orbF] using h⟩
  | f + 1, k, h => by
    unfold orbF at h
    simp only [Bool.and_eq_true, bne_iff_ne, ne_eq] at h
    obtain ⟨h1, h2⟩ := orbF_spec f (k + 1) h.2
    refine ⟨fun i hi hj => ?_, by rw [show k + (f + 1) = k + 1 + f by omega]; exact h2⟩
    by_cases e : i = k
    · rw [e]; exact h.1
    · exact h1 i (by omega) (by omega)
def checkO (p : Nat) : Bool := orbF p (compM p (firstC p)) (0, 0, 1) (p * p + p) (imgP p (compM p (firstC p)) (0, 0, 1))
theorem checksO : ∀ p ∈ [3, 5, 7, 11, 13], checkO p = true := by decide +kernel
/-- The Singer orbit: its map, its length. -/
theorem orb_of {n : Nat} (hp : prB (n : Int) = true) : Orb (n : Int) (compM n (firstC n)) (0, 0, 1) (n * n + n + 1) := by
  have hm : n ∈ [3, 5, 7, 11, 13] := by
    have := prB_cases hp
    simp only [List.mem_cons, List.not_mem_nil, or_false]
    omega
  have hk := checksO n hm
  obtain ⟨h1, h2⟩ := orbF_spec (p := (n : Int)) (m := compM n (firstC n)) (a := (0, 0, 1)) (n * n + n) 1 hk
  obtain ⟨h3, h13⟩ := prB_bd hp
  have h2le : n * n ≤ 13 * 13 := Nat.mul_le_mul (by omega) (by omega)
  exact ⟨hp, inM_comp hp (codes_of hp).lt, ⟨by decide, by decide, by decide⟩, by omega, by rw [show n * n + n + 1 = 1 + (n * n + n) by omega]; exact h2, fun i hi hj => h1 i (by omega) (by omega)⟩
/-- The Singer order of a prime. -/
def singL (n : Nat) : List Pt := orbL (n : Int) (compM n (firstC n)) (0, 0, 1) (n * n + n + 1)
theorem singL_length (n : Nat) : (singL n).length = n * n + n + 1 := orbL_length _ _ _ _
theorem singL_in {n : Nat} (hp : prB (n : Int) = true) : ∀ a ∈ singL n, In13 a := by
  intro a ha
  obtain ⟨i, _, rfl⟩ := List.mem_map.1 ha
  exact orbA_in hp ⟨by decide, by decide, by decide⟩ i
end Go.Proofs.Ytcfilpcjgdbbmaa
/- Contracts: the image of a point under a map, the program's and the reference's. (Printed by gent1.py, a program of this session.) -/
namespace Go.Proofs.Ytcfilpcjgdbbmaa
open Go.RowKit
set_option linter.unusedVariables false
set_option linter.unusedSimpArgs false
end Go.Proofs.Ytcfilpcjgdbbmaa
/- Contracts: the image of a point under a map, as the reference makes it. (Printed by gent2.py, a program of this session.) -/
namespace Go.Proofs.Ytcfilpcjgdbbmaa
open Go.RowKit
set_option linter.unusedVariables false
set_option linter.unusedSimpArgs false
theorem src1 {W : World} {g o : Nat} {x : Int} (d0 : W.cell? ⟨g, o, none⟩ = some (.int .i64 x)) :
    ∀ (j : Nat) (u : Value), [Value.int .i64 x][j]? = some u → W.cell? ((⟨g, o, none⟩ : Addr).add j) = some u := by
  intro j u hj
  have hadd : (⟨g, o, none⟩ : Addr).add j = ⟨g, o + j, none⟩ := by unfold Addr.add; split <;> simp_all
  rw [hadd]
  match j, hj with
  | 0, hj => simpa using d0.trans (by simpa using hj)
  | j + 1, hj => simp at hj
theorem oneA (x : Int) : ∀ u ∈ [Value.int .i64 x], u.oneCell' = true := by
  intro u hu
  rw [List.mem_singleton.1 hu]; rfl
end Go.Proofs.Ytcfilpcjgdbbmaa
/- Contracts: orbits of a point, the program's and the reference's. (Printed by gent3.py, a program of this session.) -/
namespace Go.Proofs.Ytcfilpcjgdbbmaa
open Go.RowKit
set_option linter.unusedVariables false
set_option linter.unusedSimpArgs false
theorem own_lt {w : World} {base : Nat} {e : TypeId} {size n : Nat} {v : Value} {xs : List Value} (h : w.ownsRow base e size v n xs) (k : Nat) (hk : v.ownBlock = some k) : k < w.heap.size := by
  rcases h.2 with ⟨rfl, _⟩ | ⟨g, cap, cur, rfl, hb, hg, _⟩
  · simp [Value.ownBlock] at hk
  · have : g = k := by simpa [Value.ownBlock] using hk
    rw [← this]
    exact (Array.getElem?_eq_some_iff.1 hg).1
theorem own_same {W W' : World} {base : Nat} {e : TypeId} {size n : Nat} {v : Value} {xs : List Value} (h : W.ownsRow base e size v n xs) (hb : ∀ b, v.ownBlock = some b → W'.heap[b]? = W.heap[b]?) : W'.ownsRow base e size v n xs := by
  refine ⟨h.1, ?_⟩
  rcases h.2 with h0 | ⟨g, cap, cur, rfl, hb0, hg, hr⟩
  · exact .inl h0
  · exact .inr ⟨g, cap, cur, rfl, hb0, (hb g (by simp [Value.ownBlock])).trans hg, hr⟩
def lenV : Value → Nat
  | .slice _ n _ => n
  | _ => 0
theorem own_len {w : World} {base : Nat} {e : TypeId} {size n : Nat} {v : Value} {xs : List Value} (h : w.ownsRow base e size v n xs) : lenV v = n := by
  rcases h.2 with ⟨rfl, h0⟩ | ⟨g, cap, cur, rfl, _⟩
  · simp [lenV]; omega
  · rfl
end Go.Proofs.Ytcfilpcjgdbbmaa
/- Own lists, found again by search; slice literals of one element and appends to own lists. -/
namespace Go.Proofs.Ytcfilpcjgdbbmaa
open Go.RowKit
set_option linter.unusedVariables false
set_option linter.unusedSimpArgs false
/-- An own list. -/
structure OwnK (W : World) (B : Nat) (T : TypeId) (sz : Nat) (v : Value) (n : Nat) (xs : List Value) : Prop where
  out : W.ownsRow B T sz v n xs
/-- The list's block is not this one. -/
structure Off (v : Value) (g : Nat) : Prop where
  out : v.ownBlock ≠ some g
/-- The list that this value is has been appended to. -/
structure Grew (w : World) (v : Value) (W : World) : Prop where
  out : w.grownBy W v.ownBlock
theorem OwnK.below {w W : World} {B : Nat} {T : TypeId} {sz : Nat} {v : Value} {n : Nat} {xs : List Value} (h : OwnK w B T sz v n xs) (l : Below w.heap.size w W) : OwnK W B T sz v n xs := ⟨own_below h.out l⟩
theorem OwnK.link {w W : World} {B : Nat} {T : TypeId} {sz : Nat} {v : Value} {n : Nat} {xs : List Value} (l : Link w W) (h : OwnK w B T sz v n xs) : OwnK W B T sz v n xs := h.below l.out
theorem OwnK.alloc {w : World} {B : Nat} {T : TypeId} {sz : Nat} {v : Value} {n : Nat} {xs : List Value} (h : OwnK w B T sz v n xs) (o : Obj) : OwnK (w.alloc o) B T sz v n xs := h.below (bal (Below.refl _ _) o)
theorem OwnK.drew {w : World} {B : Nat} {T : TypeId} {sz : Nat} {v : Value} {n : Nat} {xs : List Value} (h : OwnK w B T sz v n xs) : OwnK w.drew B T sz v n xs := ⟨h.out⟩
theorem OwnK.drewN {w : World} {B : Nat} {T : TypeId} {sz : Nat} {v : Value} {n : Nat} {xs : List Value} (h : OwnK w B T sz v n xs) (k : Nat) : OwnK (w.drewN k) B T sz v n xs := ⟨h.out⟩
theorem OwnK.set {w : World} {B : Nat} {T : TypeId} {sz : Nat} {v : Value} {n g : Nat} {xs : List Value} {U : Array Value} (h : OwnK w B T sz v n xs) (hg : Off v g) : OwnK (w.setRow g U) B T sz v n xs :=
  ⟨own_same h.out fun b hb => setRow_other _ _ _ _ (fun e => hg.out (by rw [hb, e]))⟩
theorem OwnK.grew {w W : World} {B : Nat} {T : TypeId} {sz : Nat} {v u : Value} {n : Nat} {xs : List Value} (hg : Grew w u W) (h : OwnK w B T sz v n xs) (ho : ∀ b, v.ownBlock = some b → u.ownBlock ≠ some b) : OwnK W B T sz v n xs :=
  ⟨own_same h.out fun b hb => hg.out.block b (own_lt h.out b hb) (fun e => ho b hb e.symm)⟩
theorem OwnK.lt {w : World} {B : Nat} {T : TypeId} {sz : Nat} {v : Value} {n : Nat} {xs : List Value} (h : OwnK w B T sz v n xs) (b : Nat) (hb : v.ownBlock = some b) : b < w.heap.size := own_lt h.out b hb
theorem OwnK.base {w : World} {B : Nat} {T : TypeId} {sz : Nat} {v : Value} {n : Nat} {xs : List Value} (h : OwnK w B T sz v n xs) (b : Nat) (hb : v.ownBlock = some b) : B ≤ b := own_base' h.out b hb
theorem Off.above {w : World} {B : Nat} {T : TypeId} {sz : Nat} {v : Value} {n g : Nat} {xs : List Value} (h : OwnK w B T sz v n xs) (hg : w.heap.size ≤ g) : Off v g := ⟨fun e => by have := h.lt g e; omega⟩
theorem Off.under {w : World} {B : Nat} {T : TypeId} {sz : Nat} {v : Value} {n g : Nat} {xs : List Value} (h : OwnK w B T sz v n xs) (hg : g < B) : Off v g := ⟨fun e => by have := h.base g e; omega⟩
theorem Grew.size {w W : World} {v : Value} (h : Grew w v W) : w.heap.size ≤ W.heap.size := h.out.size
theorem RowK.grew {w W : World} {u : Value} {g : Nat} {cs : Array Value} {T : TypeId} (hg : Grew w u W) (ho : Off u g) (h : RowK w g cs T) : RowK W g cs T := ⟨(hg.out.block g h.lt (fun e => ho.out e.symm)).trans h.out⟩
theorem cell_grew {w W : World} {u : Value} {b o : Nat} {x : Value} (hg : Grew w u W) (ho : Off u b) (h : w.cell? ⟨b, o, none⟩ = some x) : W.cell? ⟨b, o, none⟩ = some x := hg.out.cell h (fun e => ho.out e.symm)
theorem PtsK.grew {w W : World} {u : Value} {b o n : Nat} {L : List Pt} (hg : Grew w u W) (ho : Off u b) (h : PtsK w b o n L) : PtsK W b o n L :=
  ⟨fun i hi => ⟨cell_grew hg ho (h.out i hi).1, cell_grew hg ho (h.out i hi).2.1, cell_grew hg ho (h.out i hi).2.2⟩⟩
theorem IntsK.grew {w W : World} {u : Value} {b o n : Nat} {L : List Int} (hg : Grew w u W) (ho : Off u b) (h : IntsK w b o n L) : IntsK W b o n L := ⟨fun i hi => cell_grew hg ho (h.out i hi)⟩
theorem LowK.grew {w w1 W : World} {u : Value} (hg : Grew w1 u W) (ho : ∀ b, u.ownBlock = some b → w.heap.size ≤ b) (h : LowK w w1) : LowK w W := ⟨h.out.grown hg.out h.out.size ho⟩
theorem LowK.grewB {w w1 w2 W : World} {B : Nat} {T : TypeId} {sz n : Nat} {u : Value} {xs : List Value} (hg : Grew w1 u W) (hO : OwnK w2 B T sz u n xs) (hB : w.heap.size ≤ B) (h : LowK w w1) : LowK w W := h.grew hg (fun b hb => Nat.le_trans hB (hO.base b hb))
/-- Two lists of different blocks. -/
structure Apart (v u : Value) : Prop where
  out : ∀ b, v.ownBlock = some b → u.ownBlock ≠ some b
theorem Apart.symm {v u : Value} (h : Apart v u) : Apart u v := ⟨fun b h1 h2 => h.out b h2 h1⟩
theorem Apart.next {v u u' : Value} {w : World} {B : Nat} {T : TypeId} {sz n : Nat} {xs : List Value} (h : Apart v u) (hO : OwnK w B T sz v n xs) (hb : u'.ownBlock = u.ownBlock ∨ u'.ownBlock = some w.heap.size) : Apart v u' :=
  ⟨fun b h1 h2 => by
    rcases hb with e | e
    · exact h.out b h1 (by rw [← e, h2])
    · have := hO.lt b h1; rw [e] at h2; have := Option.some.inj h2; omega⟩
theorem Apart.of {g1 g2 n1 c1 n2 c2 : Nat} (h : g1 ≠ g2) : Apart (.slice (some ⟨g1, 0, none⟩) n1 c1) (.slice (some ⟨g2, 0, none⟩) n2 c2) := ⟨fun b h1 h2 => by simp [Value.ownBlock] at h1 h2; omega⟩
/-- Facts about the world at hand; then on, from any world of which they are known. -/
theorem at_world {P : Program} {C : Code} {Q : Exit → Act → World → Prop} {a : Act} (W : World) (F : World → Prop) (h : F W) (k : ∀ V, F V → C.wp P Q a V) : C.wp P Q a W := k W h
theorem at_rounds {P : Program} {C : Code} {Q : Exit → Act → World → Prop} {n : Nat} {a : Act} (W : World) (F : World → Prop) (h : F W) (k : ∀ V, F V → Code.rounds P C Q n a V) : Code.rounds P C Q n a W := k W h
/-- What an append needs to know of the types. -/
structure EltK (P : Program) (ty e : TypeId) (sz : Nat) : Prop where
  out : P.underlying ty = some (.slice e) ∧ ∃ i z, P.info? e = some i ∧ i.zero = some z ∧ i.size = sz ∧ z.cells.size = sz ∧ 0 < sz ∧ sz ≤ 100 ∧ i.bytes ≤ 1000
section
variable {P : Program} {ops : Array Oper} {rest : List Oper} {o : Oper} {a : Act} {Q : Exit → Act → World → Prop}
theorem wpList_append_K (w : World) (hgd : o.guard = none) (s x : Operand) (t e : TypeId) (sz : Nat) (ho : o.op = .call { callee := .builtin .append, args := #[s, x], argTypes := #[t, t] }) (he : EltK P t e sz)
    {v : Value} {g m c : Nat} (hs : a.eval s = v) (hx : a.eval x = .slice (some ⟨g, 0, none⟩) m c) {B n : Nat} {xs : List Value} (hown : OwnK w B e sz v n xs) {news : Array Value} {T : TypeId} (hnew : RowK w g news T) (hl : news.size = m * sz) (h1 : ∀ u ∈ news.toList, u.oneCell' = true)
    (h63 : n + m ≤ 1000000) (hbase : B ≤ w.heap.size)
    (h : ∀ v' w', OwnK w' B e sz v' (n + m) (xs ++ news.toList) → Grew w v w' → (v'.ownBlock = v.ownBlock ∨ v'.ownBlock = some w.heap.size) → wpList P ops Q rest (a.put o.dst v') w') : wpList P ops Q (o :: rest) a w := by
  obtain ⟨hu, i, z, hi, hz, hsz, hzs, hpos, hle, hby⟩ := he.out
  refine wpList_append_own_at w hgd s x t ho B e i z sz i.bytes hu hi hz hsz rfl hzs hpos v n xs hs hown.out ⟨g, 0, none⟩ m c news.toList hx (by simpa using hl) (fun j u hj => ?_) h1 (by unfold maxLen; omega) ?_ hbase (fun v' w' h2 h3 h4 h5 => h v' w' ⟨h2⟩ ⟨h3⟩ h5)
  · have hadd : (⟨g, 0, none⟩ : Addr).add j = ⟨g, j, none⟩ := by unfold Addr.add; split <;> simp_all
    rw [hadd, cell_of_row w g j _ _ _ hnew.out]
    simpa using hj
  · exact Nat.le_trans (Nat.mul_le_mul h63 hby) (by decide)
/-- A slice literal of one aggregate of three. -/
theorem wpList_slice_pt (w : World) (hgd : o.guard = none) (t e : TypeId) (x : Operand) (ho : o.op = .buildSlice t 1 #[(0, x)]) (he : EltK P t e 3) {p : Pt} (hx : a.eval x = pV p)
    (h : wpList P ops Q rest (a.put o.dst (.slice (some ⟨w.heap.size, 0, none⟩) 1 1)) (w.alloc (.cells (pC p) e))) : wpList P ops Q (o :: rest) a w := by
  obtain ⟨hu, i, z, hi, hz, hsz, hzs, hpos, hle, hby⟩ := he.out
  refine wpList_buildSlice hgd t e 1 _ ho (pC p) i z hu hi hz (by rw [hsz]; decide) (by rw [hsz]; decide) ?_ h
  simp only [List.map_toArray, List.map_cons, List.map_nil, hx, hsz]
  generalize z.cells = zc at hzs
  have e1 : (Array.range (1 * 3)).map (fun k => zc[k % zc.size]!) = #[zc[0]!, zc[1]!, zc[2]!] := by
    rw [hzs]
    apply Array.ext
    · simp
    · intro i h1 h2
      simp at h1
      match i, h1 with
      | 0, _ => simp
      | 1, _ => simp
      | 2, _ => simp
  rw [e1]
  rfl
end
theorem eltPo : EltK Try.prog 27 45 3 := by
  obtain ⟨i0, hi, hz0, hz1, hz2⟩ := info_parts (show (Try.prog.info? 45).map (fun i => (i.zero, i.size, i.bytes)) = some (some (.agg #[.int .i64 0, .int .i64 0, .int .i64 0]), 3, 24) by kernel_rfl)
  exact ⟨Try.underlying27, i0, _, hi, hz0, hz1, rfl, by decide, by decide, by rw [hz2]; decide⟩
theorem eltLn : EltK Try.prog 65 35 3 := by
  obtain ⟨i0, hi, hz0, hz1, hz2⟩ := info_parts (show (Try.prog.info? 35).map (fun i => (i.zero, i.size, i.bytes)) = some (some (.agg #[.int .i64 0, .int .i64 0, .int .i64 0]), 3, 24) by kernel_rfl)
  exact ⟨Try.underlying65, i0, _, hi, hz0, hz1, rfl, by decide, by decide, by rw [hz2]; decide⟩
theorem eltI64 : EltK Try.prog 43 2 1 := by
  obtain ⟨i0, hi, hz0, hz1, hz2⟩ := info_parts (show (Try.prog.info? 2).map (fun i => (i.zero, i.size, i.bytes)) = some (some (.int .i64 0), 1, 8) by kernel_rfl)
  exact ⟨Try.underlying43, i0, _, hi, hz0, hz1, rfl, by decide, by decide, by rw [hz2]; decide⟩
theorem eltInt : EltK Try.prog 55 3 1 := by
  obtain ⟨i0, hi, hz0, hz1, hz2⟩ := info_parts (show (Try.prog.info? 3).map (fun i => (i.zero, i.size, i.bytes)) = some (some (.int .i64 0), 1, 8) by kernel_rfl)
  exact ⟨Try.underlying55, i0, _, hi, hz0, hz1, rfl, by decide, by decide, by rw [hz2]; decide⟩
theorem OwnK.empty {w : World} {B g : Nat} {T : TypeId} {sz : Nat} (h : RowK w g #[] T) (hB : B ≤ g) : OwnK w B T sz (.slice (some ⟨g, 0, none⟩) 0 0) 0 [] :=
  ⟨by simp, .inr ⟨g, 0, #[], rfl, hB, h.out, Nat.le_refl _, by unfold maxLen; omega, by simp, by simp⟩⟩
/-- An own list of points, read. -/
theorem OwnK.pts {W : World} {B : Nat} {T : TypeId} {v : Value} {n : Nat} {l : List Pt} (h : OwnK W B T 3 v n (ptCs l)) (hl : l.length = n) (hn : 0 < n) :
    ∃ g cap, v = .slice (some ⟨g, 0, none⟩) n cap ∧ B ≤ g ∧ g < W.heap.size ∧ PtsK W g 0 n l := by
  obtain ⟨g, cap, h1, h2, h3, h4⟩ := ownPts h.out hl hn
  exact ⟨g, cap, h1, h2, h3, ⟨h4⟩⟩
theorem ptCs_end (l : List Pt) (p : Pt) : ptCs l ++ (pC p).toList = ptCs (l ++ [p]) := by simp [ptCs, pC, ptC]
end Go.Proofs.Ytcfilpcjgdbbmaa
/- The searches of a walk, as defaults of arguments: a fact is found again by its name alone. -- own lists -- numbers -/
namespace Go.Proofs.Ytcfilpcjgdbbmaa
open Go.RowKit
set_option linter.unusedVariables false
set_option linter.unusedSimpArgs false
theorem ints_end (l : List Int) (k : Int) : ints l ++ (#[Value.int .i64 k] : Array Value).toList = ints (l ++ [k]) := by simp [ints]
theorem IntsK.lt {w : World} {b o n : Nat} {L : List Int} (h : IntsK w b o n L) (hn : 0 < n) : b < w.heap.size := World.block_lt_of_cell? w _ (h.out 0 hn)
theorem OwnK.ints {W : World} {B : Nat} {T : TypeId} {v : Value} {n : Nat} {l : List Int} (h : OwnK W B T 1 v n (ints l)) (hl : l.length = n) (hn : 0 < n) :
    ∃ g cap, v = .slice (some ⟨g, 0, none⟩) n cap ∧ B ≤ g ∧ g < W.heap.size ∧ IntsK W g 0 n l := by
  rcases h.out.2 with ⟨_, h0⟩ | ⟨g, cap, cur, rfl, hb, hg, hle, _, hsz, htk⟩
  · exfalso; omega
  · refine ⟨g, cap, rfl, hb, (Array.getElem?_eq_some_iff.1 hg).1, ⟨fun i hi => ?_⟩⟩
    rw [Nat.zero_add, cell_of_row W g i _ _ _ hg]
    have h1 : (cur.toList.take (n * 1))[i]? = (Go.Proofs.Ytcfilpcjgdbbmaa.ints l)[i]? := by rw [htk]
    rw [Nat.mul_one, List.getElem?_take_of_lt hi] at h1
    rw [← Array.getElem?_toList, h1]
    unfold Go.Proofs.Ytcfilpcjgdbbmaa.ints
    have hil : i < l.length := by omega
    simp [List.getD, hil]
theorem run_load_intT {P : Program} {o : Oper} {W : World} {ρ : Operand → Value} {ty : TypeId} {x : Operand} {b e n : Nat} {L : List Int} (hop : o.op = .load ty x) (hx : ρ x = .pointer (some ⟨b, e, none⟩)) (hL : IntsK W b 0 n L) (he : e < n)
    (ha : ∀ W, (isAgg ty).run P W = .ok false W) (t : Int) (ht : L.getD e 0 = t) : (execOp ρ o).run P W = .ok (.value (.int .i64 t)) W := by
  have h := hL.out e he
  rw [Nat.zero_add, ht] at h
  unfold execOp
  simp only [hop, hx, Instr.loadAt, Instr.sureAddr, Sem.run_bind, Sem.run_pure, Result.andThen_ok, loadVar, ha, Bool.false_eq_true, if_false]
  rw [run_load]
  simp [h]
theorem findRow {W : World} {g : Nat} {cs : Array Value} {T : TypeId} (h : RowK W g cs T := by repeat (first | with_reducible assumption | ((with_reducible apply RowK.new); (first | rfl | (focus (simp; done)) | omega | (focus (simp; omega)))) | with_reducible apply RowK.here | (apply RowK.link; (· with_reducible assumption)) | with_reducible apply RowK.alloc | with_reducible apply RowK.drewN | with_reducible apply RowK.drew | ((with_reducible apply RowK.set); (· first | assumption | omega | (simp; omega))) | (apply RowK.grew; (· with_reducible assumption); (· (first | with_reducible assumption | (apply Off.under; (· with_reducible assumption); (· omega)) | (apply Off.above; (· with_reducible assumption); (· omega))))))) : RowK W g cs T := h
theorem findPts {W : World} {b o n : Nat} {L : List Pt} (h : PtsK W b o n L := by repeat (first | with_reducible assumption | (apply PtsK.link; (· with_reducible assumption)) | with_reducible apply PtsK.alloc | with_reducible apply PtsK.drewN | with_reducible apply PtsK.drew | ((with_reducible apply PtsK.set); (· first | assumption | omega | (simp; omega))) | (apply PtsK.grew; (· with_reducible assumption); (· (first | with_reducible assumption | (apply Off.under; (· with_reducible assumption); (· omega)) | (apply Off.above; (· with_reducible assumption); (· omega))))))) : PtsK W b o n L := h
theorem findInts {W : World} {b o n : Nat} {L : List Int} (h : IntsK W b o n L := by repeat (first | with_reducible assumption | (apply IntsK.link; (· with_reducible assumption)) | with_reducible apply IntsK.alloc | with_reducible apply IntsK.drewN | with_reducible apply IntsK.drew | ((with_reducible apply IntsK.set); (· first | assumption | omega | (simp; omega))) | (apply IntsK.grew; (· with_reducible assumption); (· (first | with_reducible assumption | (apply Off.under; (· with_reducible assumption); (· omega)) | (apply Off.above; (· with_reducible assumption); (· omega))))))) : IntsK W b o n L := h
theorem findLow {w W : World} (h : LowK w W := by repeat (first | with_reducible assumption | with_reducible exact LowK.refl _ | (apply LowK.link; (· with_reducible assumption)) | with_reducible apply LowK.alloc | with_reducible apply LowK.drewN | with_reducible apply LowK.drew | ((with_reducible apply LowK.set); (· first | assumption | omega | (simp; omega))) | (apply LowK.grewB; (· with_reducible assumption); (· with_reducible assumption); (· omega)))) : LowK w W := h
theorem findOwn {W : World} {B : Nat} {T : TypeId} {sz : Nat} {v : Value} {n : Nat} {xs : List Value} (h : OwnK W B T sz v n xs := by repeat (first | with_reducible assumption | (apply OwnK.link; (· with_reducible assumption)) | with_reducible apply OwnK.alloc | with_reducible apply OwnK.drewN | with_reducible apply OwnK.drew | with_reducible apply OwnK.set | with_reducible assumption | (apply Off.under; (· with_reducible assumption); (· omega)) | (apply Off.above; (· with_reducible assumption); (· omega)) | (apply OwnK.grew; (· with_reducible assumption)) | exact Apart.out (by first | assumption | exact Apart.symm (by assumption)))) : OwnK W B T sz v n xs := h
theorem findOff {v : Value} {g : Nat} (h : Off v g := by (first | with_reducible assumption | (apply Off.under; (· with_reducible assumption); (· omega)) | (apply Off.above; (· with_reducible assumption); (· omega)))) : Off v g := h
section
variable {ρ : Operand → Value} {o : Oper} {W : World} {ty : TypeId} {x : Operand}
theorem ld_row {g : Nat} {T : TypeId} {cs : Array Value} {n : Nat} (hop : o.op = .load ty x := by exact rfl) (hx : ρ x = .pointer (some ⟨g, 0, none⟩) := by exact rfl) (hg : RowK W g cs T := by repeat (first | with_reducible assumption | ((with_reducible apply RowK.new); (first | rfl | (focus (simp; done)) | omega | (focus (simp; omega)))) | with_reducible apply RowK.here | (apply RowK.link; (· with_reducible assumption)) | with_reducible apply RowK.alloc | with_reducible apply RowK.drewN | with_reducible apply RowK.drew | ((with_reducible apply RowK.set); (· first | assumption | omega | (simp; omega))) | (apply RowK.grew; (· with_reducible assumption); (· (first | with_reducible assumption | (apply Off.under; (· with_reducible assumption); (· omega)) | (apply Off.above; (· with_reducible assumption); (· omega))))))) (hn : cs.size = n := by exact rfl)
    (hs : ∀ W, (sizeOf ty).run Try.prog W = .ok n W := by (first | exact Try.sizeOf45 | exact Try.sizeOf35)) (ha : ∀ W, (isAgg ty).run Try.prog W = .ok true W := by (first | exact Try.isAgg45 | exact Try.isAgg35)) : (execOp ρ o).run Try.prog W = .ok (.value (.agg cs)) W := run_load_rowK hop hx hg n hn hs ha
theorem ld_pt {b e n : Nat} {L : List Pt} {t : Pt} (k : Nat) (hop : o.op = .load ty x := by exact rfl) (hx : ρ x = .pointer (some ⟨b, e, none⟩) := by exact rfl) (hL : PtsK W b 0 n L := by repeat (first | with_reducible assumption | (apply PtsK.link; (· with_reducible assumption)) | with_reducible apply PtsK.alloc | with_reducible apply PtsK.drewN | with_reducible apply PtsK.drew | ((with_reducible apply PtsK.set); (· first | assumption | omega | (simp; omega))) | (apply PtsK.grew; (· with_reducible assumption); (· (first | with_reducible assumption | (apply Off.under; (· with_reducible assumption); (· omega)) | (apply Off.above; (· with_reducible assumption); (· omega))))))) (he : e = k * 3 := by exact rfl) (hk : k < n := by (first | assumption | omega | decide))
    (hs : ∀ W, (sizeOf ty).run Try.prog W = .ok 3 W := by (first | exact Try.sizeOf45 | exact Try.sizeOf35)) (ha : ∀ W, (isAgg ty).run Try.prog W = .ok true W := by (first | exact Try.isAgg45 | exact Try.isAgg35)) (ht : L.getD k (0, 0, 0) = t := by (first | with_reducible assumption | (simp only [List.getD_cons_zero, List.getD_cons_succ]; exact rfl) | exact rfl)) : (execOp ρ o).run Try.prog W = .ok (.value (pV t)) W := run_load_ptT k hop hx hL he hk hs ha t ht
theorem ld_int {b e n : Nat} {L : List Int} {t : Int} (hop : o.op = .load ty x := by exact rfl) (hx : ρ x = .pointer (some ⟨b, e, none⟩) := by exact rfl) (hL : IntsK W b 0 n L := by repeat (first | with_reducible assumption | (apply IntsK.link; (· with_reducible assumption)) | with_reducible apply IntsK.alloc | with_reducible apply IntsK.drewN | with_reducible apply IntsK.drew | ((with_reducible apply IntsK.set); (· first | assumption | omega | (simp; omega))) | (apply IntsK.grew; (· with_reducible assumption); (· (first | with_reducible assumption | (apply Off.under; (· with_reducible assumption); (· omega)) | (apply Off.above; (· with_reducible assumption); (· omega))))))) (he : e < n := by (first | assumption | omega | decide))
    (ha : ∀ W, (isAgg ty).run Try.prog W = .ok false W := by (first | exact Try.isAgg2 | exact Try.isAgg3 | exact Try.isAgg4)) (ht : L.getD e 0 = t := by (first | with_reducible assumption | (simp only [List.getD_cons_zero, List.getD_cons_succ]; exact rfl) | exact rfl)) : (execOp ρ o).run Try.prog W = .ok (.value (.int .i64 t)) W := run_load_intT hop hx hL he ha t ht
end
section
variable {ops : Array Oper} {rest : List Oper} {o : Oper} {a : Act} {w : World} {Q : Exit → Act → World → Prop}
theorem wl_load {ty : TypeId} {x : Operand} {v : Value} (hK : wpList Try.prog ops Q rest (a.put o.dst v) w) (hgd : o.guard = none := by exact rfl) (hop : o.op = .load ty x := by exact rfl)
    (hr : (execOp a.eval o).run Try.prog w = .ok (.value v) w := by first | exact ld_row | exact ld_pt _ | exact ld_pt 0 | exact ld_pt 1 | exact ld_pt 2 | exact ld_pt 3 | exact ld_int) : wpList Try.prog ops Q (o :: rest) a w := wpList_load_any w hgd ty x hop hr hK
theorem wl_store {ty : TypeId} {x y : Operand} {g n : Nat} {T : TypeId} {cs U : Array Value} (hK : wpList Try.prog ops Q rest a (w.setRow g U)) (hgd : o.guard = none := by exact rfl) (hop : o.op = .store ty x y := by exact rfl) (hd : o.dst = none := by exact rfl)
    (hx : a.eval x = .pointer (some ⟨g, 0, none⟩) := by exact rfl) (hy : a.eval y = .agg U := by exact rfl) (hg : RowK w g cs T := by repeat (first | with_reducible assumption | ((with_reducible apply RowK.new); (first | rfl | (focus (simp; done)) | omega | (focus (simp; omega)))) | with_reducible apply RowK.here | (apply RowK.link; (· with_reducible assumption)) | with_reducible apply RowK.alloc | with_reducible apply RowK.drewN | with_reducible apply RowK.drew | ((with_reducible apply RowK.set); (· first | assumption | omega | (simp; omega))) | (apply RowK.grew; (· with_reducible assumption); (· (first | with_reducible assumption | (apply Off.under; (· with_reducible assumption); (· omega)) | (apply Off.above; (· with_reducible assumption); (· omega))))))) (hn : cs.size = n := by exact rfl) (hU : U.size = n := by exact rfl)
    (hs : ∀ W, (sizeOf ty).run Try.prog W = .ok n W := by (first | exact Try.sizeOf45 | exact Try.sizeOf35)) (h1 : ∀ v ∈ U.toList, v.oneCell' = true := by (first | exact pC_one _ | (focus (simp [Value.oneCell']; done)))) : wpList Try.prog ops Q (o :: rest) a w := wpList_store_rowK w hgd ty x y hop hd hx hy hg n hn hU hs h1 hK
theorem wl_build {t : TypeId} {parts : Array (Nat × Operand)} (hK : wpList Try.prog ops Q rest (a.put o.dst (.agg (pC (0, 0, 0)))) w) (hgd : o.guard = none := by exact rfl) (hop : o.op = .build t parts := by exact rfl)
    (hb : Program.built Try.prog t (parts.map fun (i, x) => (i, a.eval x)).toList = some (pC (0, 0, 0)) := by kernel_rfl) : wpList Try.prog ops Q (o :: rest) a w := wpList_build w hgd t parts hop _ hb hK
theorem wl_slice {t e : TypeId} {x : Operand} {p : Pt} (h : wpList Try.prog ops Q rest (a.put o.dst (.slice (some ⟨w.heap.size, 0, none⟩) 1 1)) (w.alloc (.cells (pC p) e))) (hgd : o.guard = none := by exact rfl) (ho : o.op = .buildSlice t 1 #[(0, x)] := by exact rfl)
    (he : EltK Try.prog t e 3 := by (first | exact eltPo | exact eltLn | exact eltI64 | exact eltInt)) (hx : a.eval x = pV p := by exact rfl) : wpList Try.prog ops Q (o :: rest) a w := wpList_slice_pt w hgd t e x ho he hx h
theorem wl_append {s x : Operand} {t e : TypeId} {sz g m c B n : Nat} {v : Value} {xs : List Value} {news : Array Value} {T : TypeId}
    (h : ∀ v' w', OwnK w' B e sz v' (n + m) (xs ++ news.toList) → Grew w v w' → (v'.ownBlock = v.ownBlock ∨ v'.ownBlock = some w.heap.size) → wpList Try.prog ops Q rest (a.put o.dst v') w')
    (hgd : o.guard = none := by exact rfl) (ho : o.op = .call { callee := .builtin .append, args := #[s, x], argTypes := #[t, t] } := by exact rfl) (he : EltK Try.prog t e sz := by (first | exact eltPo | exact eltLn | exact eltI64 | exact eltInt))
    (hs : a.eval s = v := by conv => lhs; whnf) (hx : a.eval x = .slice (some ⟨g, 0, none⟩) m c := by exact rfl) (hown : OwnK w B e sz v n xs := by repeat (first | with_reducible assumption | (apply OwnK.link; (· with_reducible assumption)) | with_reducible apply OwnK.alloc | with_reducible apply OwnK.drewN | with_reducible apply OwnK.drew | with_reducible apply OwnK.set | with_reducible assumption | (apply Off.under; (· with_reducible assumption); (· omega)) | (apply Off.above; (· with_reducible assumption); (· omega)) | (apply OwnK.grew; (· with_reducible assumption)) | exact Apart.out (by first | assumption | exact Apart.symm (by assumption)))) (hnew : RowK w g news T := by repeat (first | with_reducible assumption | ((with_reducible apply RowK.new); (first | rfl | (focus (simp; done)) | omega | (focus (simp; omega)))) | with_reducible apply RowK.here | (apply RowK.link; (· with_reducible assumption)) | with_reducible apply RowK.alloc | with_reducible apply RowK.drewN | with_reducible apply RowK.drew | ((with_reducible apply RowK.set); (· first | assumption | omega | (simp; omega))) | (apply RowK.grew; (· with_reducible assumption); (· (first | with_reducible assumption | (apply Off.under; (· with_reducible assumption); (· omega)) | (apply Off.above; (· with_reducible assumption); (· omega))))))) (hl : news.size = m * sz := by exact rfl) (h1 : ∀ u ∈ news.toList, u.oneCell' = true := by (first | exact pC_one _ | (focus (simp [Value.oneCell']; done))))
    (h63 : n + m ≤ 1000000 := by first | omega | (simp; omega)) (hbase : B ≤ w.heap.size := by first | omega | (simp; omega)) : wpList Try.prog ops Q (o :: rest) a w := wpList_append_K w hgd s x t e sz ho he hs hx hown hnew hl h1 h63 hbase h
theorem q_load {w : World} {G : Grow0 w} {K : Act → Prop} {ty : TypeId} {x : Operand} {v : Value} (hK : K (a.put o.dst v)) (hop : o.op = .load ty x := by exact rfl)
    (h : ∀ W, Link w W → (execOp a.eval o).run Try.prog W = .ok (.value v) W := by (intro W hl; first | exact ld_row | exact ld_pt _ | exact ld_pt 0 | exact ld_pt 1 | exact ld_pt 2 | exact ld_pt 3 | exact ld_int)) : o.quiet Try.prog a (fun w' => ∃ g : Grow w G, w' = g.W) K := q_load_any ty x hop h hK
end
section
variable {P : Program} {Q : Exit → Act → World → Prop} {l : List Oper} {a0 : Act} {w : World}
theorem region_QA {id : Nat} (m : Nat) (H : ∃ aE, (∀ G : Grow0 w, wpQuiet P l.toArray (fun w' => ∃ g : Grow w G, w' = g.W) (fun a' => a' = aE) (l.take m) a0) ∧ ∀ W, Link w W → wpList P l.toArray Q (l.drop m) aE W)
    (hm : P.follows .mixedOrders = true := by kernel_rfl) (hml : m ≤ l.length := by decide) (chk : viaChk l m a0.tmps.size = true := by kernel_rfl) (hgd : guardsIn l m = true := by kernel_rfl) (hon : onceB l m = true := by kernel_rfl) :
    (Code.region id l.toArray true).wp P Q a0 w := region_Q m hm hml chk hgd hon H
theorem region_QNA {id : Nat} (m : Nat) (ns : List CellS) {ms : List Bool} {rl : List Oper} (hpk : Pick l ms rl)
    (hal : AllNs (fun s : CellS => ∀ o, l[s.i]? = some o → ∀ (ρ : Operand → Value) (W : World), (execOp ρ o).run P W = .ok (.value (.pointer (some ⟨W.heap.size, 0, none⟩))) (W.alloc (.cells s.Z s.T))) ns)
    (H : ∃ aE, (∀ G : Grow0 w, wpQuiet P l.toArray (fun w' => ∃ g : Grow w G, w' = g.W) (fun a' => a' = aE) rl a0) ∧
      ∀ (g : Nat → Nat) (W : World), Link w W → AllNs (fun s : CellS => w.heap.size ≤ g s.t ∧ RowK W (g s.t) s.Z s.T) ns → AllNs (fun s : CellS => AllNs (fun s' : CellS => s.t ≠ s'.t → g s.t ≠ g s'.t) ns) ns → wpList P l.toArray Q (l.drop m) (puts aE (ns.map fun s => (s.t, .pointer (some ⟨g s.t, 0, none⟩)))) W)
    (hm : P.follows .mixedOrders = true := by kernel_rfl) (hml : m ≤ l.length := by decide) (hrl : (l.take m).filter (fun o => !isNew (ns.map (·.n)) o) = rl := by kernel_rfl)
    (chk : viaChk l m a0.tmps.size = true := by kernel_rfl) (hnew : newB l m (ns.map (·.n)) = true := by kernel_rfl) (hcell : cellB l m ns = true := by kernel_rfl) : (Code.region id l.toArray true).wp P Q a0 w := region_QN m ns hpk hm hml hrl chk hnew hcell hal H
theorem region_CHA {id : Nat} (m : Nat) (ch : List Nat) (KP : World → Prop) {ms mc : List Bool} {rl cl : List Oper} (hpk : Pick l ms rl) (hpc : Pick l mc cl)
    (hk : ∀ W W', KP W → Link W W' → KP W') (h0 : KP w)
    (H : ∃ aE, (∀ W0, KP W0 → ∀ G : Grow0 W0, wpQuiet P l.toArray (fun w' => ∃ g : Grow W0 G, w' = g.W) (fun a' => a' = aE) rl a0) ∧ wpCh P l.toArray KP (fun a' W' => wpList P l.toArray Q (l.drop m) a' W') cl aE w)
    (hm : P.follows .mixedOrders = true := by kernel_rfl) (hml : m ≤ l.length := by decide)
    (hrl : (((List.range m).filter fun i => !ch.contains i).filterMap fun i => l[i]?) = rl := by kernel_rfl) (hcl : (ch.filterMap fun i => l[i]?) = cl := by kernel_rfl)
    (chk : viaChkC l m a0.tmps.size ch = true := by kernel_rfl) (hgd : guardsIn l m = true := by kernel_rfl) (hon : onceC l m = true := by kernel_rfl) (hch : chChk l m ch = true := by kernel_rfl) (hcb : chanB l m ch = true := by kernel_rfl) :
    (Code.region id l.toArray true).wp P Q a0 w := region_CH m ch KP hpk hpc hm hml hrl hcl chk hgd hon hch hcb hk h0 H
end
end Go.Proofs.Ytcfilpcjgdbbmaa
/- Plain: the rank of a table of numbers modulo a prime, by elimination. -/
namespace Go.Proofs.Ytcfilpcjgdbbmaa
set_option linter.unusedVariables false
set_option linter.unusedSimpArgs false
/-- The first row from f on that is not 0 in column c; N if there is none. -/
def piv (M : Nat → Nat → Int) (c N f : Nat) : Nat := if f < N ∧ M f c = 0 then piv M c N (f + 1) else f
termination_by N - f
theorem piv_step {M : Nat → Nat → Int} {c N f : Nat} (h1 : f < N) (h2 : M f c = 0) : piv M c N f = piv M c N (f + 1) := by
  conv => lhs; rw [piv]
  rw [if_pos ⟨h1, h2⟩]
theorem piv_stop {M : Nat → Nat → Int} {c N f : Nat} (h : f < N → ¬ M f c = 0) : piv M c N f = f := by
  rw [piv, if_neg (fun x => h x.1 x.2)]
def swp {α : Type} (M : Nat → α) (r f : Nat) : Nat → α := fun i => if i = r then M f else if i = f then M r else M i
/-- Row r taken from the rows behind it, from column c on. -/
def elm (q : Int) (c r : Nat) (M : Nat → Nat → Int) : Nat → Nat → Int := fun i k => if r < i ∧ ¬ M i c = 0 ∧ c ≤ k then (M i k - (M i c * invP q (M r c)) % q * M r k) % q else M i k
def stp (q : Int) (N c : Nat) (s : Nat × (Nat → Nat → Int)) : Nat × (Nat → Nat → Int) := if piv s.2 c N s.1 = N then s else (s.1 + 1, elm q c s.1 (swp s.2 s.1 (piv s.2 c N s.1)))
def elim (q : Int) (N : Nat) (M0 : Nat → Nat → Int) : Nat → Nat × (Nat → Nat → Int)
  | 0 => (0, M0)
  | c + 1 => stp q N c (elim q N M0 c)
theorem elim_le (q : Int) (N : Nat) (M0 : Nat → Nat → Int) : ∀ c, (elim q N M0 c).1 ≤ c
  | 0 => Nat.le_refl _
  | c + 1 => by
    have := elim_le q N M0 c
    show (stp q N c (elim q N M0 c)).1 ≤ c + 1
    unfold stp
    split
    · omega
    · show (elim q N M0 c).1 + 1 ≤ c + 1
      omega
def Bd (q : Int) (M : Nat → Nat → Int) : Prop := ∀ i k, 0 ≤ M i k ∧ M i k < q
theorem elm_bd {q : Int} {c r : Nat} {M : Nat → Nat → Int} (hq : 0 < q) (h : Bd q M) : Bd q (elm q c r M) := fun i k => by
  unfold elm
  split
  · exact ⟨Int.emod_nonneg _ (by omega), Int.emod_lt_of_pos _ hq⟩
  · exact h i k
theorem swp_bd {q : Int} {r f : Nat} {M : Nat → Nat → Int} (h : Bd q M) : Bd q (swp M r f) := fun i k => by
  unfold swp
  split
  · exact h f k
  · split
    · exact h r k
    · exact h i k
theorem elim_bd {q : Int} {N : Nat} {M0 : Nat → Nat → Int} (hq : 0 < q) (h : Bd q M0) : ∀ c, Bd q (elim q N M0 c).2
  | 0 => h
  | c + 1 => by
    have := elim_bd (N := N) hq h c
    show Bd q (stp q N c (elim q N M0 c)).2
    unfold stp
    split
    · exact this
    · exact elm_bd hq (swp_bd this)
theorem stp_none {q : Int} {N c r : Nat} {M : Nat → Nat → Int} (h : piv M c N r = N) : stp q N c (r, M) = (r, M) := by unfold stp; rw [if_pos h]
theorem stp_some {q : Int} {N c r : Nat} {M : Nat → Nat → Int} (h : ¬ piv M c N r = N) : stp q N c (r, M) = (r + 1, elm q c r (swp M r (piv M c N r))) := by unfold stp; rw [if_neg h]
/-- A up to row i and column k of it, B behind. -/
def mix (i k : Nat) (A B : Nat → Nat → Int) : Nat → Nat → Int := fun j l => if j < i ∨ (j = i ∧ l < k) then A j l else B j l
section
variable {q : Int} {c r i k N : Nat} {B : Nat → Nat → Int}
theorem elm_same (h : ¬ r < i ∨ B i c = 0 ∨ k < c) : elm q c r B i k = B i k := by
  unfold elm
  rw [if_neg]
  rintro ⟨h1, h2, h3⟩
  rcases h with h | h | h
  · exact h h1
  · exact h2 h
  · omega
theorem elm_new (h1 : r < i) (h2 : ¬ B i c = 0) (h3 : c ≤ k) : elm q c r B i k = (B i k - (B i c * invP q (B r c)) % q * B r k) % q := by
  unfold elm; rw [if_pos ⟨h1, h2, h3⟩]
theorem elm_other (h1 : r < i) (h2 : ¬ B i c = 0) (h3 : c ≤ k) : (B i k + (q - (B i c * invP q (B r c)) % q) * B r k) % q = elm q c r B i k := by
  rw [elm_new h1 h2 h3]
  have e : B i k + (q - (B i c * invP q (B r c)) % q) * B r k = (B i k - (B i c * invP q (B r c)) % q * B r k) + q * B r k := by
    rw [Int.sub_mul]; omega
  rw [e, Int.add_mul_emod_self_left]
theorem mix_first : mix (r + 1) 0 (elm q c r B) B = B := by
  funext j l
  unfold mix
  split
  · exact elm_same (.inl (by omega))
  · rfl
theorem mix_cut : mix i 0 (elm q c r B) B = mix i c (elm q c r B) B := by
  funext j l
  unfold mix
  by_cases h : j < i ∨ (j = i ∧ l < 0)
  · rw [if_pos h, if_pos (by omega)]
  · rw [if_neg h]
    by_cases h2 : j < i ∨ (j = i ∧ l < c)
    · rw [if_pos h2]; exact (elm_same (.inr (.inr (by omega)))).symm
    · rw [if_neg h2]
theorem mix_skip (h : B i c = 0) : mix i 0 (elm q c r B) B = mix (i + 1) 0 (elm q c r B) B := by
  funext j l
  unfold mix
  by_cases h1 : j < i ∨ (j = i ∧ l < 0)
  · rw [if_pos h1, if_pos (by omega)]
  · rw [if_neg h1]
    by_cases h2 : j < i + 1 ∨ (j = i + 1 ∧ l < 0)
    · rw [if_pos h2]
      obtain rfl : j = i := by omega
      exact (elm_same (.inr (.inl h))).symm
    · rw [if_neg h2]
theorem mix_row {A : Nat → Nat → Int} {j l : Nat} (hl : l < N) : mix i N A B j l = mix (i + 1) 0 A B j l := by
  unfold mix
  by_cases h1 : j < i ∨ (j = i ∧ l < N)
  · rw [if_pos h1, if_pos (by omega)]
  · rw [if_neg h1, if_neg (by omega)]
theorem mix_end {A : Nat → Nat → Int} {j l : Nat} (hj : j < N) : mix N 0 A B j l = A j l := by unfold mix; rw [if_pos (.inl hj)]
theorem mix_set {A : Nat → Nat → Int} : (fun j l => if j = i ∧ l = k then A i k else mix i k A B j l) = mix i (k + 1) A B := by
  funext j l
  unfold mix
  by_cases h : j = i ∧ l = k
  · rw [if_pos h, if_pos (by omega), h.1, h.2]
  · rw [if_neg h]
    by_cases h2 : j < i ∨ (j = i ∧ l < k)
    · rw [if_pos h2, if_pos (by omega)]
    · rw [if_neg h2, if_neg (by omega)]
theorem mix_at {A : Nat → Nat → Int} {l : Nat} (h : k ≤ l) : mix i k A B i l = B i l := by unfold mix; rw [if_neg (by omega)]
theorem mix_top {l : Nat} (h : r < i) : mix i k (elm q c r B) B r l = B r l := by
  unfold mix
  rw [if_pos (.inl h)]
  exact elm_same (.inl (by omega))
end
end Go.Proofs.Ytcfilpcjgdbbmaa
/- Tables of numbers in memory: rows in blocks of their own, their headers in one. -- own lists -- numbers -/
namespace Go.Proofs.Ytcfilpcjgdbbmaa
open Go.RowKit
set_option linter.unusedVariables false
set_option linter.unusedSimpArgs false
@[reducible] def rowV (N : Nat) (q : Nat × Nat) : Value := .slice (some ⟨q.1, 0, none⟩) N q.2
structure RowF (W : World) (g cap N : Nat) (F : Nat → Int) : Prop where
  room : RoomI W g cap 2
  le : N ≤ cap
  at_ : ∀ j, j < N → W.cell? ⟨g, j, none⟩ = some (.int .i64 (F j))
section
variable {W W' : World} {g g' cap N k : Nat} {F G : Nat → Int}
theorem RowF.blk (h : RowF W g cap N F) (e : W'.heap[g]? = W.heap[g]?) : RowF W' g cap N F := by
  obtain ⟨⟨cur, h1, h2⟩, h3, h4⟩ := h
  refine ⟨⟨cur, e.trans h1, h2⟩, h3, fun j hj => ?_⟩
  rw [← h4 j hj]; unfold World.cell?; rw [e]
theorem RowF.lt (h : RowF W g cap N F) : g < W.heap.size := h.room.lt
theorem RowF.below (h : RowF W g cap N F) (hb : Below W.heap.size W W') : RowF W' g cap N F := h.blk (hb.block _ h.lt)
theorem RowF.link (l : Link W W') (h : RowF W g cap N F) : RowF W' g cap N F := h.below l.out
theorem RowF.alloc (h : RowF W g cap N F) (o : Obj) : RowF (W.alloc o) g cap N F := h.below (bal (Below.refl _ _) o)
theorem RowF.set (h : RowF W g cap N F) (hk : k < N) (x : Int) : RowF (W.setCell ⟨g, k, none⟩ (.int .i64 x)) g cap N (fun j => if j = k then x else F j) := by
  refine ⟨h.room.set k _, h.le, fun j hj => ?_⟩
  by_cases e : j = k
  · subst e
    rw [World.cell?_setCell_same _ _ _ (h.at_ j hj)]
    simp
  · rw [World.cell?_setCell_other _ _ _ _ (fun h => e (by cases h; rfl)), h.at_ j hj]
    simp [e]
theorem setCell_blk (W : World) {g g' : Nat} (hne : g ≠ g') (k : Nat) (v : Value) : (W.setCell ⟨g', k, none⟩ v).heap[g]? = W.heap[g]? := by
  simp [World.setCell, Array.getElem?_modify, Ne.symm hne]
theorem RowF.other (h : RowF W g cap N F) (hne : g ≠ g') (k : Nat) (v : Value) : RowF (W.setCell ⟨g', k, none⟩ v) g cap N F := h.blk (setCell_blk W hne k v)
theorem RowF.congr (h : RowF W g cap N F) (e : ∀ j, j < N → F j = G j) : RowF W g cap N G := ⟨h.room, h.le, fun j hj => by rw [h.at_ j hj, e j hj]⟩
end
theorem room_ne {W : World} {g g' c c' : Nat} {T T' : TypeId} (h : RoomI W g c T) (h' : RoomI W g' c' T') (hT : T ≠ T') : g ≠ g' := by
  rintro rfl
  obtain ⟨_, h1, _⟩ := h
  obtain ⟨_, h2, _⟩ := h'
  rw [h1] at h2
  cases h2
  exact hT rfl
/-- A cell that holds a value; a cell that may be stored to. -/
structure CellK (W : World) (g k : Nat) (v : Value) : Prop where
  out : W.cell? ⟨g, k, none⟩ = some v
structure StK (W : World) (g k : Nat) : Prop where
  out : (W.cell? ⟨g, k, none⟩).isSome = true ∧ W.frozen? ⟨g, k, none⟩ = false ∧ g < W.heap.size
theorem CellK.link {W W' : World} {g k : Nat} {v : Value} (l : Link W W') (h : CellK W g k v) : CellK W' g k v := ⟨cell_below l.out h.out⟩
theorem CellK.alloc {W : World} {g k : Nat} {v : Value} (h : CellK W g k v) (o : Obj) : CellK (W.alloc o) g k v := ⟨cell_below (bal (Below.refl _ _) o) h.out⟩
theorem StK.link {W W' : World} {g k : Nat} (l : Link W W') (h : StK W g k) : StK W' g k := by
  obtain ⟨h1, h2, h3⟩ := h.out
  have e := l.out.block g h3
  refine ⟨?_, ?_, Nat.lt_of_lt_of_le h3 l.out.size⟩
  · unfold World.cell? at h1 ⊢; rw [e]; exact h1
  · unfold World.frozen? at h2 ⊢; rw [e]; exact h2
theorem RowF.cell {W : World} {g cap N k : Nat} {F : Nat → Int} (h : RowF W g cap N F) (hk : k < N) : CellK W g k (.int .i64 (F k)) := ⟨h.at_ k hk⟩
theorem RowF.st {W : World} {g cap N k : Nat} {F : Nat → Int} (h : RowF W g cap N F) (hk : k < N) : StK W g k := ⟨h.room.some k (Nat.lt_of_lt_of_le hk h.le), h.room.frozen k, h.lt⟩
/-- The rows of a table. -/
structure RowsK (W : World) (B k N : Nat) (gs : Nat → Nat × Nat) (M : Nat → Nat → Int) : Prop where
  row : ∀ i, i < k → RowF W (gs i).1 (gs i).2 N (M i)
  low : ∀ i, i < k → B ≤ (gs i).1
  inj : ∀ i j, i < k → j < k → (gs i).1 = (gs j).1 → i = j
section
variable {W W' : World} {B k N i c : Nat} {gs : Nat → Nat × Nat} {M M' : Nat → Nat → Int}
theorem RowsK.blk (h : RowsK W B k N gs M) (e : ∀ i, i < k → W'.heap[(gs i).1]? = W.heap[(gs i).1]?) : RowsK W' B k N gs M := ⟨fun i hi => (h.row i hi).blk (e i hi), h.low, h.inj⟩
theorem RowsK.link (l : Link W W') (h : RowsK W B k N gs M) : RowsK W' B k N gs M := h.blk (fun i hi => l.out.block _ (h.row i hi).lt)
theorem RowsK.alloc (h : RowsK W B k N gs M) (o : Obj) : RowsK (W.alloc o) B k N gs M := h.blk (fun i hi => (bal (Below.refl _ _) o : Below W.heap.size W (W.alloc o)).block _ (h.row i hi).lt)
theorem RowsK.grew {u : Value} (hg : Grew W u W') (ho : ∀ i, i < k → Off u (gs i).1) (h : RowsK W B k N gs M) : RowsK W' B k N gs M := h.blk (fun i hi => hg.out.block _ (h.row i hi).lt (fun e => (ho i hi).out e.symm))
theorem RowsK.other {g' : Nat} (h : RowsK W B k N gs M) (hne : ∀ i, i < k → (gs i).1 ≠ g') (c : Nat) (v : Value) : RowsK (W.setCell ⟨g', c, none⟩ v) B k N gs M := h.blk (fun i hi => setCell_blk W (hne i hi) c v)
theorem RowsK.set (h : RowsK W B k N gs M) (hi : i < k) (hc : c < N) (x : Int) : RowsK (W.setCell ⟨(gs i).1, c, none⟩ (.int .i64 x)) B k N gs (fun j l => if j = i ∧ l = c then x else M j l) := by
  refine ⟨fun j hj => ?_, h.low, h.inj⟩
  by_cases e : j = i
  · subst e
    exact ((h.row j hj).set hc x).congr (fun l hl => by by_cases e2 : l = c <;> simp [e2])
  · exact ((h.row j hj).other (fun e2 => e (h.inj j i hj hi e2)) c _).congr (fun l hl => by simp [e])
theorem RowsK.congr (h : RowsK W B k N gs M) (e : ∀ i l, i < k → l < N → M i l = M' i l) : RowsK W B k N gs M' := ⟨fun i hi => (h.row i hi).congr (fun l hl => e i l hi hl), h.low, h.inj⟩
theorem RowsK.swap {r f : Nat} (h : RowsK W B k N gs M) (hr : r < k) (hf : f < k) : RowsK W B k N (swp gs r f) (swp M r f) := by
  have key : ∀ i, i < k → ∃ j, j < k ∧ swp gs r f i = gs j ∧ swp M r f i = M j ∧ j = (if i = r then f else if i = f then r else i) := by
    intro i hi
    unfold swp
    by_cases h1 : i = r
    · exact ⟨f, hf, by rw [if_pos h1], by rw [if_pos h1], by rw [if_pos h1]⟩
    · by_cases h2 : i = f
      · exact ⟨r, hr, by rw [if_neg h1, if_pos h2], by rw [if_neg h1, if_pos h2], by rw [if_neg h1, if_pos h2]⟩
      · exact ⟨i, hi, by rw [if_neg h1, if_neg h2], by rw [if_neg h1, if_neg h2], by rw [if_neg h1, if_neg h2]⟩
  refine ⟨fun i hi => ?_, fun i hi => ?_, fun i j hi hj e => ?_⟩
  · obtain ⟨j, hj, e1, e2, -⟩ := key i hi
    rw [e1, e2]; exact h.row j hj
  · obtain ⟨j, hj, e1, e2, -⟩ := key i hi
    rw [e1]; exact h.low j hj
  · obtain ⟨i', hi', e1, -, x1⟩ := key i hi
    obtain ⟨j', hj', e2, -, x2⟩ := key j hj
    rw [e1, e2] at e
    have := h.inj i' j' hi' hj' e
    rw [x1, x2] at this
    clear e e1 e2 x1 x2
    split at this <;> split at this <;> (try split at this) <;> (try split at this) <;> omega
theorem RowsK.snoc {g cap : Nat} {F : Nat → Int} (h : RowsK W B k N gs M) (hF : RowF W g cap N F) (hB : B ≤ g) (hne : ∀ i, i < k → (gs i).1 ≠ g) (hM : ∀ l, l < N → F l = M k l) :
    RowsK W B (k + 1) N (fun i => if i = k then (g, cap) else gs i) M := by
  refine ⟨fun i hi => ?_, fun i hi => ?_, fun i j hi hj e => ?_⟩
  · by_cases e : i = k
    · subst e; simp only [if_true]; exact hF.congr hM
    · simp only [e, if_false]; exact h.row i (by omega)
  · by_cases e : i = k
    · subst e; simp only [if_true]; exact hB
    · simp only [e, if_false]; exact h.low i (by omega)
  · by_cases e1 : i = k <;> by_cases e2 : j = k <;> simp only [e1, e2, if_true, if_false] at e
    · omega
    · exact absurd e.symm (hne j (by omega))
    · exact absurd e (hne i (by omega))
    · exact h.inj i j (by omega) (by omega) e
theorem RowsK.nil (W : World) (B N : Nat) (gs : Nat → Nat × Nat) (M : Nat → Nat → Int) : RowsK W B 0 N gs M := ⟨fun i hi => absurd hi (Nat.not_lt_zero _), fun i hi => absurd hi (Nat.not_lt_zero _), fun i j hi => absurd hi (Nat.not_lt_zero _)⟩
end
/-- The headers of the rows. -/
structure HdK (W : World) (g0 cap0 N : Nat) (gs : Nat → Nat × Nat) : Prop where
  room : RoomI W g0 cap0 43
  le : N ≤ cap0
  at_ : ∀ i, i < N → W.cell? ⟨g0, i, none⟩ = some (rowV N (gs i))
section
variable {W W' : World} {g0 cap0 N i : Nat} {gs : Nat → Nat × Nat}
theorem HdK.blk (h : HdK W g0 cap0 N gs) (e : W'.heap[g0]? = W.heap[g0]?) : HdK W' g0 cap0 N gs := by
  obtain ⟨⟨cur, h1, h2⟩, h3, h4⟩ := h
  refine ⟨⟨cur, e.trans h1, h2⟩, h3, fun j hj => ?_⟩
  rw [← h4 j hj]; unfold World.cell?; rw [e]
theorem HdK.lt (h : HdK W g0 cap0 N gs) : g0 < W.heap.size := h.room.lt
theorem HdK.link (l : Link W W') (h : HdK W g0 cap0 N gs) : HdK W' g0 cap0 N gs := h.blk (l.out.block _ h.lt)
theorem HdK.other {g' : Nat} (h : HdK W g0 cap0 N gs) (hne : g0 ≠ g') (k : Nat) (v : Value) : HdK (W.setCell ⟨g', k, none⟩ v) g0 cap0 N gs := h.blk (setCell_blk W hne k v)
theorem HdK.set (h : HdK W g0 cap0 N gs) (hi : i < N) (q : Nat × Nat) : HdK (W.setCell ⟨g0, i, none⟩ (rowV N q)) g0 cap0 N (fun j => if j = i then q else gs j) := by
  refine ⟨h.room.set i _, h.le, fun j hj => ?_⟩
  by_cases e : j = i
  · subst e
    rw [World.cell?_setCell_same _ _ _ (h.at_ j hj)]
    simp
  · rw [World.cell?_setCell_other _ _ _ _ (fun h => e (by cases h; rfl)), h.at_ j hj]
    simp [e]
theorem HdK.cell (h : HdK W g0 cap0 N gs) (hi : i < N) : CellK W g0 i (rowV N (gs i)) := ⟨h.at_ i hi⟩
theorem HdK.st (h : HdK W g0 cap0 N gs) (hi : i < N) : StK W g0 i := ⟨h.room.some i (Nat.lt_of_lt_of_le hi h.le), h.room.frozen i, h.lt⟩
theorem HdK.congr {gs' : Nat → Nat × Nat} (h : HdK W g0 cap0 N gs) (e : ∀ i, i < N → gs i = gs' i) : HdK W g0 cap0 N gs' := ⟨h.room, h.le, fun j hj => by rw [h.at_ j hj, e j hj]⟩
theorem HdK.ne {B k : Nat} {M : Nat → Nat → Int} {gs' : Nat → Nat × Nat} (h : HdK W g0 cap0 N gs) (hR : RowsK W B k N gs' M) (hi : i < k) : (gs' i).1 ≠ g0 := room_ne (hR.row i hi).room h.room (by decide)
end
def rowVs (N : Nat) (gs : Nat → Nat × Nat) (k : Nat) : List Value := (List.range k).map (fun i => rowV N (gs i))
theorem rowVs_length (N : Nat) (gs : Nat → Nat × Nat) (k : Nat) : (rowVs N gs k).length = k := by simp [rowVs]
theorem rowVs_snoc (N : Nat) (gs : Nat → Nat × Nat) (k : Nat) (q : Nat × Nat) : rowVs N gs k ++ [rowV N q] = rowVs N (fun i => if i = k then q else gs i) (k + 1) := by
  unfold rowVs
  rw [List.range_succ, List.map_append]
  congr 1
  · refine List.map_congr_left (fun i hi => ?_)
    have := List.mem_range.1 hi
    simp [show i ≠ k by omega]
  · simp
theorem OwnK.hd {W : World} {B N : Nat} {v : Value} {gs : Nat → Nat × Nat} (h : OwnK W B 43 1 v N (rowVs N gs N)) (hn : 0 < N) :
    ∃ g cap, v = .slice (some ⟨g, 0, none⟩) N cap ∧ B ≤ g ∧ HdK W g cap N gs := by
  rcases h.out.2 with ⟨_, h0⟩ | ⟨g, cap, cur, rfl, hb, hg, hle, _, hsz, htk⟩
  · omega
  · refine ⟨g, cap, rfl, hb, ⟨cur, hg, by simpa using hsz⟩, hle, fun i hi => ?_⟩
    rw [cell_of_row W g i _ _ _ hg]
    have h1 : (cur.toList.take (N * 1))[i]? = (rowVs N gs N)[i]? := by rw [htk]
    rw [Nat.mul_one, List.getElem?_take_of_lt hi] at h1
    rw [← Array.getElem?_toList, h1]
    simp [rowVs, hi]
theorem rowF_own {W : World} {B N : Nat} {v : Value} {l : List Int} (h : OwnK W B 2 1 v N (ints l)) (hl : l.length = N) (hn : 0 < N) :
    ∃ g cap, v = .slice (some ⟨g, 0, none⟩) N cap ∧ B ≤ g ∧ RowF W g cap N (fun j => l.getD j 0) := by
  rcases h.out.2 with ⟨_, h0⟩ | ⟨g, cap, cur, rfl, hb, hg, hle, _, hsz, htk⟩
  · omega
  · refine ⟨g, cap, rfl, hb, ⟨cur, hg, by simpa using hsz⟩, hle, fun i hi => ?_⟩
    rw [cell_of_row W g i _ _ _ hg]
    have h1 : (cur.toList.take (N * 1))[i]? = (Go.Proofs.Ytcfilpcjgdbbmaa.ints l)[i]? := by rw [htk]
    rw [Nat.mul_one, List.getElem?_take_of_lt hi] at h1
    rw [← Array.getElem?_toList, h1]
    unfold Go.Proofs.Ytcfilpcjgdbbmaa.ints
    have hil : i < l.length := by omega
    simp [List.getD, hil]
theorem eltSl : EltK Try.prog 42 43 1 := by
  obtain ⟨i0, hi, hz0, hz1, hz2⟩ := info_parts (show (Try.prog.info? 43).map (fun i => (i.zero, i.size, i.bytes)) = some (some (.slice none 0 0), 1, 24) by kernel_rfl)
  exact ⟨Try.underlying42, i0, _, hi, hz0, hz1, rfl, by decide, by decide, by rw [hz2]; decide⟩
end Go.Proofs.Ytcfilpcjgdbbmaa
/- Walks over tables of numbers: loads and stores of one cell, 'make', and the searches for them. -- tables -/
namespace Go.Proofs.Ytcfilpcjgdbbmaa
open Go.RowKit
set_option linter.unusedVariables false
set_option linter.unusedSimpArgs false
theorem StK.viaLow {W W' : World} {g k : Nat} (h : StK W g k) (l : LowK W W') : StK W' g k := h.link (LowK.lnk l)
theorem CellK.viaLow {W W' : World} {g k : Nat} {v : Value} (h : CellK W g k v) (l : LowK W W') : CellK W' g k v := h.link (LowK.lnk l)
theorem LowK.setCell {w W : World} {g : Nat} (hg : w.heap.size ≤ g) (k : Nat) (v : Value) (h : LowK w W) : LowK w (W.setCell ⟨g, k, none⟩ v) := ⟨h.out.setCell hg _⟩
theorem RowK.setCell {W : World} {g g' : Nat} {cs : Array Value} {T : TypeId} (h : RowK W g cs T) (hne : g ≠ g') (k : Nat) (v : Value) : RowK (W.setCell ⟨g', k, none⟩ v) g cs T := ⟨(setCell_blk W hne k v).trans h.out⟩
theorem Off.row {W : World} {B n g cap N : Nat} {v : Value} {xs : List Value} {F : Nat → Int} (hO : OwnK W B 43 1 v n xs) (hF : RowF W g cap N F) : Off v g := by
  refine ⟨fun e => ?_⟩
  obtain ⟨cur, h1, -⟩ := hF.room
  rcases hO.out.2 with ⟨rfl, _⟩ | ⟨g2, c2, cur2, rfl, _, h2, _⟩
  · simp [Value.ownBlock] at e
  · simp [Value.ownBlock] at e
    subst e
    rw [h1] at h2
    have := congrArg (fun o : Option Obj => match o with | some (.cells _ T _) => T | _ => 0) h2
    exact absurd (show (2 : TypeId) = 43 from this) (by decide)
theorem RowF.grew {w W : World} {u : Value} {g cap N : Nat} {F : Nat → Int} (hg : Grew w u W) (ho : Off u g) (h : RowF w g cap N F) : RowF W g cap N F := h.blk (hg.out.block g h.lt (fun e => ho.out e.symm))
theorem RowF.grewO {w W : World} {u : Value} {o : Obj} {B' n g cap N : Nat} {xs : List Value} {F : Nat → Int} (hg : Grew (w.alloc o) u W) (hO : OwnK w B' 43 1 u n xs) (h : RowF w g cap N F) : RowF W g cap N F := RowF.grew hg (Off.row (hO.alloc o) (h.alloc o)) (h.alloc o)
theorem RowsK.grewO {w W : World} {u : Value} {o : Obj} {B' n B k N : Nat} {xs : List Value} {gs : Nat → Nat × Nat} {M : Nat → Nat → Int} (hg : Grew (w.alloc o) u W) (hO : OwnK w B' 43 1 u n xs) (h : RowsK w B k N gs M) : RowsK W B k N gs M :=
  ⟨fun i hi => (h.row i hi).grewO hg hO, h.low, h.inj⟩
theorem CellK.of {W : World} {g k : Nat} {v : Value} (h : CellK W g k v) : W.cell? ⟨g, k, none⟩ = some v := h.out
section
variable {ρ : Operand → Value} {ops : Array Oper} {rest : List Oper} {o : Oper} {a : Act} {w W : World} {Q : Exit → Act → World → Prop} {ty : TypeId} {x y : Operand}
theorem ld_cell {g k : Nat} {v : Value} (hop : o.op = .load ty x := by exact rfl) (hx : ρ x = .pointer (some ⟨g, k, none⟩) := by exact rfl)
    (hc : CellK W g k v := by first | with_reducible assumption | (with_reducible apply CellK.viaLow; (· with_reducible assumption); (· exact findLow)) | (with_reducible apply CellK.link; (· with_reducible assumption); (· with_reducible assumption)))
    (ha : ∀ W, (isAgg ty).run Try.prog W = .ok false W := by first | exact Try.isAgg2 | exact Try.isAgg43) : (execOp ρ o).run Try.prog W = .ok (.value v) W := by
  have h := hc.out
  unfold execOp
  simp only [hop, hx, Instr.loadAt, Instr.sureAddr, Sem.run_bind, Sem.run_pure, Result.andThen_ok, loadVar, ha, Bool.false_eq_true, if_false]
  rw [run_load]
  simp [h]
theorem wl_loadC {v : Value} (hK : wpList Try.prog ops Q rest (a.put o.dst v) w) (hgd : o.guard = none := by exact rfl) (hop : o.op = .load ty x := by exact rfl)
    (hr : (execOp a.eval o).run Try.prog w = .ok (.value v) w := by exact ld_cell) : wpList Try.prog ops Q (o :: rest) a w := wpList_load_any w hgd ty x hop hr hK
theorem q_loadC {G : Grow0 w} {K : Act → Prop} {v : Value} (hK : K (a.put o.dst v)) (hop : o.op = .load ty x := by exact rfl)
    (h : ∀ W, Link w W → (execOp a.eval o).run Try.prog W = .ok (.value v) W := by (intro W hl; exact ld_cell)) : o.quiet Try.prog a (fun w' => ∃ g : Grow w G, w' = g.W) K := q_load_any ty x hop h hK
theorem wl_storeC {g k : Nat} {v : Value} (hK : wpList Try.prog ops Q rest a (w.setCell ⟨g, k, none⟩ v)) (hgd : o.guard = none := by exact rfl) (hop : o.op = .store ty x y := by exact rfl) (hd : o.dst = none := by exact rfl)
    (hx : a.eval x = .pointer (some ⟨g, k, none⟩) := by exact rfl) (hy : a.eval y = v := by conv => lhs; whnf)
    (hS : StK w g k := by first | with_reducible assumption | (with_reducible apply StK.viaLow; (· with_reducible assumption); (· exact findLow)) | (with_reducible apply StK.link; (· with_reducible assumption); (· with_reducible assumption)))
    (h1 : v.cells = #[v] := by exact rfl) (h2 : v.oneCell' = true := by exact rfl) (hs : ∀ W, (sizeOf ty).run Try.prog W = .ok 1 W := by first | exact Try.sizeOf2 | exact Try.sizeOf43) : wpList Try.prog ops Q (o :: rest) a w := by
  obtain ⟨s1, s2, -⟩ := hS.out
  obtain ⟨u, hu⟩ := Option.isSome_iff_exists.1 s1
  have hr : (execOp a.eval o).run Try.prog w = .ok .skip (w.setCell ⟨g, k, none⟩ v) := by
    unfold execOp
    simp only [hop, hx, hy, Instr.storeAt, Instr.sureAddr, Sem.run_bind, Sem.run_pure, Result.andThen_ok, storeVar, hs, h1]
    have e : ((⟨g, k, none⟩ : Addr).add 0) = ⟨g, k, none⟩ := by unfold Addr.add; split <;> simp_all
    simp [storeCells, e, run_store, h2, hu, s2, go_sem]
  refine wpList_plain hgd fun K hK' => ?_
  unfold Oper.wp
  rw [hr]
  simp only [Oper.upon, hd]
  exact hK' _ _ hK
theorem wl_make {l c : Operand} {N : Nat} (hK : ∀ g W', w.heap.size = g → Link w W' → RowF W' g N N (fun _ => 0) → wpList Try.prog ops Q rest (a.put o.dst (.slice (some ⟨g, 0, none⟩) N N)) W') (hgd : o.guard = none := by exact rfl)
    (hop : o.op = .makeSlice 43 l c := by exact rfl) (hl : a.eval l = .int .i64 (N : Int) := by exact rfl) (hc : a.eval c = .int .i64 (N : Int) := by exact rfl) (hN : N ≤ 100000 := by omega) : wpList Try.prog ops Q (o :: rest) a w := by
  obtain ⟨i0, hi, hz0, hz1, hz2⟩ := info_parts (show (Try.prog.info? 2).map (fun i => (i.zero, i.size, i.bytes)) = some (some (.int .i64 0), 1, 8) by kernel_rfl)
  refine wpList_make_ints w hgd l c 43 hop 2 i0 Try.underlying43 hi hz0 hz1 .i64 .i64 N _ rfl hl hc (by rw [hz2]; omega) (by omega) fun W' hb hr hp hlt => hK _ W' rfl ⟨hb⟩ ⟨hr, Nat.le_refl _, fun j hj => ?_⟩
  have := hp j hj
  rw [Nat.zero_add] at this
  rw [this]
  simp [List.getD, hj]
end
end Go.Proofs.Ytcfilpcjgdbbmaa
