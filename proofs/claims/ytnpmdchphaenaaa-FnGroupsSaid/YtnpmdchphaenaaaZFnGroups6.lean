/- Texts of the claim, in build order: Own, Aut, IR1, IR2, IR3, MA1, MB1, GO1, MA2, MA3, MA4, MA5, MA6, RegK, GO2, MB2, OB1, OB2, OB3, OA1, OB4, OC1. No condition. -/
import Derived.Maps.AppendAt
import Derived.Great.BuildSlice
import Derived.Deep.MidRow
import Derived.DeepKeys3
import Derived.Laws.MakeOwn
import Derived.Test.YtnpmdchphaenaaaZFnGroups5
/- Own lists, found again by search; slice literals of one element and appends to own lists. -/
namespace Go.Proofs.Ytnpmdchphaenaaa
open Go.RowKit
set_option linter.unusedVariables false
set_option linter.unusedSimpArgs false
/-- An own list. -/
structure OwnK (W : World) (B : Nat) (T : TypeId) (sz : Nat) (v : Value) (n : Nat) (xs : List Value) : Prop where
  out : W.ownsRow B T sz v n xs
/-- The list's block is not this one. -/
structure Off (v : Value) (g : Nat) : Prop where
  out : v.ownBlock ≠ some g
/-- The list that this value is has been appended to. -/
structure Grew (w : World) (v : Value) (W : World) : Prop where
  out : w.grownBy W v.ownBlock
theorem OwnK.below {w W : World} {B : Nat} {T : TypeId} {sz : Nat} {v : Value} {n : Nat} {xs : List Value} (h : OwnK w B T sz v n xs) (l : Below w.heap.size w W) : OwnK W B T sz v n xs := ⟨own_below h.out l⟩
theorem OwnK.link {w W : World} {B : Nat} {T : TypeId} {sz : Nat} {v : Value} {n : Nat} {xs : List Value} (l : Link w W) (h : OwnK w B T sz v n xs) : OwnK W B T sz v n xs := h.below l.out
theorem OwnK.alloc {w : World} {B : Nat} {T : TypeId} {sz : Nat} {v : Value} {n : Nat} {xs : List Value} (h : OwnK w B T sz v n xs) (o : Obj) : OwnK (w.alloc o) B T sz v n xs := h.below (bal (Below.refl _ _) o)
theorem OwnK.drew {w : World} {B : Nat} {T : TypeId} {sz : Nat} {v : Value} {n : Nat} {xs : List Value} (h : OwnK w B T sz v n xs) : OwnK w.drew B T sz v n xs := ⟨h.out⟩
theorem OwnK.drewN {w : World} {B : Nat} {T : TypeId} {sz : Nat} {v : Value} {n : Nat} {xs : List Value} (h : OwnK w B T sz v n xs) (k : Nat) : OwnK (w.drewN k) B T sz v n xs := ⟨h.out⟩
theorem OwnK.set {w : World} {B : Nat} {T : TypeId} {sz : Nat} {v : Value} {n g : Nat} {xs : List Value} {U : Array Value} (h : OwnK w B T sz v n xs) (hg : Off v g) : OwnK (w.setRow g U) B T sz v n xs :=
  ⟨own_same h.out fun b hb => setRow_other _ _ _ _ (fun e => hg.out (by rw [hb, e]))⟩
theorem OwnK.grew {w W : World} {B : Nat} {T : TypeId} {sz : Nat} {v u : Value} {n : Nat} {xs : List Value} (hg : Grew w u W) (h : OwnK w B T sz v n xs) (ho : ∀ b, v.ownBlock = some b → u.ownBlock ≠ some b) : OwnK W B T sz v n xs :=
  ⟨own_same h.out fun b hb => hg.out.block b (own_lt h.out b hb) (fun e => ho b hb e.symm)⟩
theorem OwnK.lt {w : World} {B : Nat} {T : TypeId} {sz : Nat} {v : Value} {n : Nat} {xs : List Value} (h : OwnK w B T sz v n xs) (b : Nat) (hb : v.ownBlock = some b) : b < w.heap.size := own_lt h.out b hb
theorem OwnK.base {w : World} {B : Nat} {T : TypeId} {sz : Nat} {v : Value} {n : Nat} {xs : List Value} (h : OwnK w B T sz v n xs) (b : Nat) (hb : v.ownBlock = some b) : B ≤ b := own_base' h.out b hb
theorem Off.above {w : World} {B : Nat} {T : TypeId} {sz : Nat} {v : Value} {n g : Nat} {xs : List Value} (h : OwnK w B T sz v n xs) (hg : w.heap.size ≤ g) : Off v g := ⟨fun e => by have := h.lt g e; omega⟩
theorem Off.under {w : World} {B : Nat} {T : TypeId} {sz : Nat} {v : Value} {n g : Nat} {xs : List Value} (h : OwnK w B T sz v n xs) (hg : g < B) : Off v g := ⟨fun e => by have := h.base g e; omega⟩
theorem Grew.size {w W : World} {v : Value} (h : Grew w v W) : w.heap.size ≤ W.heap.size := h.out.size
theorem RowK.grew {w W : World} {u : Value} {g : Nat} {cs : Array Value} {T : TypeId} (hg : Grew w u W) (ho : Off u g) (h : RowK w g cs T) : RowK W g cs T := ⟨(hg.out.block g h.lt (fun e => ho.out e.symm)).trans h.out⟩
theorem cell_grew {w W : World} {u : Value} {b o : Nat} {x : Value} (hg : Grew w u W) (ho : Off u b) (h : w.cell? ⟨b, o, none⟩ = some x) : W.cell? ⟨b, o, none⟩ = some x := hg.out.cell h (fun e => ho.out e.symm)
theorem PtsK.grew {w W : World} {u : Value} {b o n : Nat} {L : List Pt} (hg : Grew w u W) (ho : Off u b) (h : PtsK w b o n L) : PtsK W b o n L :=
  ⟨fun i hi => ⟨cell_grew hg ho (h.out i hi).1, cell_grew hg ho (h.out i hi).2.1, cell_grew hg ho (h.out i hi).2.2⟩⟩
theorem IntsK.grew {w W : World} {u : Value} {b o n : Nat} {L : List Int} (hg : Grew w u W) (ho : Off u b) (h : IntsK w b o n L) : IntsK W b o n L := ⟨fun i hi => cell_grew hg ho (h.out i hi)⟩
theorem LowK.grew {w w1 W : World} {u : Value} (hg : Grew w1 u W) (ho : ∀ b, u.ownBlock = some b → w.heap.size ≤ b) (h : LowK w w1) : LowK w W := ⟨h.out.grown hg.out h.out.size ho⟩
theorem LowK.grewB {w w1 w2 W : World} {B : Nat} {T : TypeId} {sz n : Nat} {u : Value} {xs : List Value} (hg : Grew w1 u W) (hO : OwnK w2 B T sz u n xs) (hB : w.heap.size ≤ B) (h : LowK w w1) : LowK w W := h.grew hg (fun b hb => Nat.le_trans hB (hO.base b hb))
/-- Two lists of different blocks. -/
structure Apart (v u : Value) : Prop where
  out : ∀ b, v.ownBlock = some b → u.ownBlock ≠ some b
theorem Apart.symm {v u : Value} (h : Apart v u) : Apart u v := ⟨fun b h1 h2 => h.out b h2 h1⟩
theorem Apart.next {v u u' : Value} {w : World} {B : Nat} {T : TypeId} {sz n : Nat} {xs : List Value} (h : Apart v u) (hO : OwnK w B T sz v n xs) (hb : u'.ownBlock = u.ownBlock ∨ u'.ownBlock = some w.heap.size) : Apart v u' :=
  ⟨fun b h1 h2 => by
    rcases hb with e | e
    · exact h.out b h1 (by rw [← e, h2])
    · have := hO.lt b h1; rw [e] at h2; have := Option.some.inj h2; omega⟩
theorem Apart.of {g1 g2 n1 c1 n2 c2 : Nat} (h : g1 ≠ g2) : Apart (.slice (some ⟨g1, 0, none⟩) n1 c1) (.slice (some ⟨g2, 0, none⟩) n2 c2) := ⟨fun b h1 h2 => by simp [Value.ownBlock] at h1 h2; omega⟩
/-- Facts about the world at hand; then on, from any world of which they are known. -/
theorem at_world {P : Program} {C : Code} {Q : Exit → Act → World → Prop} {a : Act} (W : World) (F : World → Prop) (h : F W) (k : ∀ V, F V → C.wp P Q a V) : C.wp P Q a W := k W h
/-- What an append needs to know of the types. -/
structure EltK (P : Program) (ty e : TypeId) (sz : Nat) : Prop where
  out : P.underlying ty = some (.slice e) ∧ ∃ i z, P.info? e = some i ∧ i.zero = some z ∧ i.size = sz ∧ z.cells.size = sz ∧ 0 < sz ∧ sz ≤ 100 ∧ i.bytes ≤ 1000
section
variable {P : Program} {ops : Array Oper} {rest : List Oper} {o : Oper} {a : Act} {Q : Exit → Act → World → Prop}
theorem wpList_append_K (w : World) (hgd : o.guard = none) (s x : Operand) (t e : TypeId) (sz : Nat) (ho : o.op = .call { callee := .builtin .append, args := #[s, x], argTypes := #[t, t] }) (he : EltK P t e sz)
    {v : Value} {g m c : Nat} (hs : a.eval s = v) (hx : a.eval x = .slice (some ⟨g, 0, none⟩) m c) {B n : Nat} {xs : List Value} (hown : OwnK w B e sz v n xs) {news : Array Value} {T : TypeId} (hnew : RowK w g news T) (hl : news.size = m * sz) (h1 : ∀ u ∈ news.toList, u.oneCell' = true)
    (h63 : n + m ≤ 1000000) (hbase : B ≤ w.heap.size)
    (h : ∀ v' w', OwnK w' B e sz v' (n + m) (xs ++ news.toList) → Grew w v w' → (v'.ownBlock = v.ownBlock ∨ v'.ownBlock = some w.heap.size) → wpList P ops Q rest (a.put o.dst v') w') : wpList P ops Q (o :: rest) a w := by
  obtain ⟨hu, i, z, hi, hz, hsz, hzs, hpos, hle, hby⟩ := he.out
  refine wpList_append_own_at w hgd s x t ho B e i z sz i.bytes hu hi hz hsz rfl hzs hpos v n xs hs hown.out ⟨g, 0, none⟩ m c news.toList hx (by simpa using hl) (fun j u hj => ?_) h1 (by unfold maxLen; omega) ?_ hbase (fun v' w' h2 h3 h4 h5 => h v' w' ⟨h2⟩ ⟨h3⟩ h5)
  · have hadd : (⟨g, 0, none⟩ : Addr).add j = ⟨g, j, none⟩ := by unfold Addr.add; split <;> simp_all
    rw [hadd, cell_of_row w g j _ _ _ hnew.out]
    simpa using hj
  · exact Nat.le_trans (Nat.mul_le_mul h63 hby) (by decide)
/-- A slice literal of one aggregate of three. -/
theorem wpList_slice_pt (w : World) (hgd : o.guard = none) (t e : TypeId) (x : Operand) (ho : o.op = .buildSlice t 1 #[(0, x)]) (he : EltK P t e 3) {p : Pt} (hx : a.eval x = pV p)
    (h : wpList P ops Q rest (a.put o.dst (.slice (some ⟨w.heap.size, 0, none⟩) 1 1)) (w.alloc (.cells (pC p) e))) : wpList P ops Q (o :: rest) a w := by
  obtain ⟨hu, i, z, hi, hz, hsz, hzs, hpos, hle, hby⟩ := he.out
  refine wpList_buildSlice hgd t e 1 _ ho (pC p) i z hu hi hz (by rw [hsz]; decide) (by rw [hsz]; decide) ?_ h
  simp only [List.map_toArray, List.map_cons, List.map_nil, hx, hsz]
  generalize z.cells = zc at hzs
  have e1 : (Array.range (1 * 3)).map (fun k => zc[k % zc.size]!) = #[zc[0]!, zc[1]!, zc[2]!] := by
    rw [hzs]
    apply Array.ext
    · simp
    · intro i h1 h2
      simp at h1
      match i, h1 with
      | 0, _ => simp
      | 1, _ => simp
      | 2, _ => simp
  rw [e1]
  rfl
end
theorem eltPo : EltK Try.prog 39 34 3 := by
  obtain ⟨i0, hi, hz0, hz1, hz2⟩ := info_parts (show (Try.prog.info? 34).map (fun i => (i.zero, i.size, i.bytes)) = some (some (.agg #[.int .i64 0, .int .i64 0, .int .i64 0]), 3, 24) by kernel_rfl)
  exact ⟨Try.underlying39, i0, _, hi, hz0, hz1, rfl, by decide, by decide, by rw [hz2]; decide⟩
theorem eltI64 : EltK Try.prog 81 2 1 := by
  obtain ⟨i0, hi, hz0, hz1, hz2⟩ := info_parts (show (Try.prog.info? 2).map (fun i => (i.zero, i.size, i.bytes)) = some (some (.int .i64 0), 1, 8) by kernel_rfl)
  exact ⟨Try.underlying81, i0, _, hi, hz0, hz1, rfl, by decide, by decide, by rw [hz2]; decide⟩
theorem eltInt : EltK Try.prog 61 3 1 := by
  obtain ⟨i0, hi, hz0, hz1, hz2⟩ := info_parts (show (Try.prog.info? 3).map (fun i => (i.zero, i.size, i.bytes)) = some (some (.int .i64 0), 1, 8) by kernel_rfl)
  exact ⟨Try.underlying61, i0, _, hi, hz0, hz1, rfl, by decide, by decide, by rw [hz2]; decide⟩
theorem OwnK.empty {w : World} {B g : Nat} {T : TypeId} {sz : Nat} (h : RowK w g #[] T) (hB : B ≤ g) : OwnK w B T sz (.slice (some ⟨g, 0, none⟩) 0 0) 0 [] :=
  ⟨by simp, .inr ⟨g, 0, #[], rfl, hB, h.out, Nat.le_refl _, by unfold maxLen; omega, by simp, by simp⟩⟩
/-- An own list of points, read. -/
theorem OwnK.pts {W : World} {B : Nat} {T : TypeId} {v : Value} {n : Nat} {l : List Pt} (h : OwnK W B T 3 v n (ptCs l)) (hl : l.length = n) (hn : 0 < n) :
    ∃ g cap, v = .slice (some ⟨g, 0, none⟩) n cap ∧ B ≤ g ∧ g < W.heap.size ∧ PtsK W g 0 n l := by
  obtain ⟨g, cap, h1, h2, h3, h4⟩ := ownPts h.out hl hn
  exact ⟨g, cap, h1, h2, h3, ⟨h4⟩⟩
theorem ptCs_end (l : List Pt) (p : Pt) : ptCs l ++ (pC p).toList = ptCs (l ++ [p]) := by simp [ptCs, pC, ptC]
end Go.Proofs.Ytnpmdchphaenaaa
/- The searches of a walk, as defaults of arguments: a fact is found again by its name alone. -- own lists -- numbers -/
namespace Go.Proofs.Ytnpmdchphaenaaa
open Go.RowKit
set_option linter.unusedVariables false
set_option linter.unusedSimpArgs false
theorem ints_end (l : List Int) (k : Int) : ints l ++ (#[Value.int .i64 k] : Array Value).toList = ints (l ++ [k]) := by simp [ints]
theorem IntsK.lt {w : World} {b o n : Nat} {L : List Int} (h : IntsK w b o n L) (hn : 0 < n) : b < w.heap.size := World.block_lt_of_cell? w _ (h.out 0 hn)
theorem OwnK.ints {W : World} {B : Nat} {T : TypeId} {v : Value} {n : Nat} {l : List Int} (h : OwnK W B T 1 v n (ints l)) (hl : l.length = n) (hn : 0 < n) :
    ∃ g cap, v = .slice (some ⟨g, 0, none⟩) n cap ∧ B ≤ g ∧ g < W.heap.size ∧ IntsK W g 0 n l := by
  rcases h.out.2 with ⟨_, h0⟩ | ⟨g, cap, cur, rfl, hb, hg, hle, _, hsz, htk⟩
  · exfalso; omega
  · refine ⟨g, cap, rfl, hb, (Array.getElem?_eq_some_iff.1 hg).1, ⟨fun i hi => ?_⟩⟩
    rw [Nat.zero_add, cell_of_row W g i _ _ _ hg]
    have h1 : (cur.toList.take (n * 1))[i]? = (Go.Proofs.Ytnpmdchphaenaaa.ints l)[i]? := by rw [htk]
    rw [Nat.mul_one, List.getElem?_take_of_lt hi] at h1
    rw [← Array.getElem?_toList, h1]
    unfold Go.Proofs.Ytnpmdchphaenaaa.ints
    have hil : i < l.length := by omega
    simp [List.getD, hil]
theorem run_load_intT {P : Program} {o : Oper} {W : World} {ρ : Operand → Value} {ty : TypeId} {x : Operand} {b e n : Nat} {L : List Int} (hop : o.op = .load ty x) (hx : ρ x = .pointer (some ⟨b, e, none⟩)) (hL : IntsK W b 0 n L) (he : e < n)
    (ha : ∀ W, (isAgg ty).run P W = .ok false W) (t : Int) (ht : L.getD e 0 = t) : (execOp ρ o).run P W = .ok (.value (.int .i64 t)) W := by
  have h := hL.out e he
  rw [Nat.zero_add, ht] at h
  unfold execOp
  simp only [hop, hx, Instr.loadAt, Instr.sureAddr, Sem.run_bind, Sem.run_pure, Result.andThen_ok, loadVar, ha, Bool.false_eq_true, if_false]
  rw [run_load]
  simp [h]
theorem findRow {W : World} {g : Nat} {cs : Array Value} {T : TypeId} (h : RowK W g cs T := by repeat (first | with_reducible assumption | ((with_reducible apply RowK.new); (first | rfl | (focus (simp; done)) | omega | (focus (simp; omega)))) | with_reducible apply RowK.here | (apply RowK.link; (· with_reducible assumption)) | with_reducible apply RowK.alloc | with_reducible apply RowK.drewN | with_reducible apply RowK.drew | ((with_reducible apply RowK.set); (· first | assumption | omega | (simp; omega))) | (apply RowK.grew; (· with_reducible assumption); (· (first | with_reducible assumption | (apply Off.under; (· with_reducible assumption); (· omega)) | (apply Off.above; (· with_reducible assumption); (· omega))))))) : RowK W g cs T := h
theorem findPts {W : World} {b o n : Nat} {L : List Pt} (h : PtsK W b o n L := by repeat (first | with_reducible assumption | (apply PtsK.link; (· with_reducible assumption)) | with_reducible apply PtsK.alloc | with_reducible apply PtsK.drewN | with_reducible apply PtsK.drew | ((with_reducible apply PtsK.set); (· first | assumption | omega | (simp; omega))) | (apply PtsK.grew; (· with_reducible assumption); (· (first | with_reducible assumption | (apply Off.under; (· with_reducible assumption); (· omega)) | (apply Off.above; (· with_reducible assumption); (· omega))))))) : PtsK W b o n L := h
theorem findLow {w W : World} (h : LowK w W := by repeat (first | with_reducible assumption | with_reducible exact LowK.refl _ | (apply LowK.link; (· with_reducible assumption)) | with_reducible apply LowK.alloc | with_reducible apply LowK.drewN | with_reducible apply LowK.drew | ((with_reducible apply LowK.set); (· first | assumption | omega | (simp; omega))) | (apply LowK.grewB; (· with_reducible assumption); (· with_reducible assumption); (· omega)))) : LowK w W := h
theorem findOwn {W : World} {B : Nat} {T : TypeId} {sz : Nat} {v : Value} {n : Nat} {xs : List Value} (h : OwnK W B T sz v n xs := by repeat (first | with_reducible assumption | (apply OwnK.link; (· with_reducible assumption)) | with_reducible apply OwnK.alloc | with_reducible apply OwnK.drewN | with_reducible apply OwnK.drew | with_reducible apply OwnK.set | with_reducible assumption | (apply Off.under; (· with_reducible assumption); (· omega)) | (apply Off.above; (· with_reducible assumption); (· omega)) | (apply OwnK.grew; (· with_reducible assumption)) | exact Apart.out (by first | assumption | exact Apart.symm (by assumption)))) : OwnK W B T sz v n xs := h
theorem findOff {v : Value} {g : Nat} (h : Off v g := by (first | with_reducible assumption | (apply Off.under; (· with_reducible assumption); (· omega)) | (apply Off.above; (· with_reducible assumption); (· omega)))) : Off v g := h
section
variable {ρ : Operand → Value} {o : Oper} {W : World} {ty : TypeId} {x : Operand}
theorem ld_row {g : Nat} {T : TypeId} {cs : Array Value} {n : Nat} (hop : o.op = .load ty x := by exact rfl) (hx : ρ x = .pointer (some ⟨g, 0, none⟩) := by exact rfl) (hg : RowK W g cs T := by repeat (first | with_reducible assumption | ((with_reducible apply RowK.new); (first | rfl | (focus (simp; done)) | omega | (focus (simp; omega)))) | with_reducible apply RowK.here | (apply RowK.link; (· with_reducible assumption)) | with_reducible apply RowK.alloc | with_reducible apply RowK.drewN | with_reducible apply RowK.drew | ((with_reducible apply RowK.set); (· first | assumption | omega | (simp; omega))) | (apply RowK.grew; (· with_reducible assumption); (· (first | with_reducible assumption | (apply Off.under; (· with_reducible assumption); (· omega)) | (apply Off.above; (· with_reducible assumption); (· omega))))))) (hn : cs.size = n := by exact rfl)
    (hs : ∀ W, (sizeOf ty).run Try.prog W = .ok n W := by (first | exact Try.sizeOf34 | exact Try.sizeOf47)) (ha : ∀ W, (isAgg ty).run Try.prog W = .ok true W := by (first | exact Try.isAgg34 | exact Try.isAgg47)) : (execOp ρ o).run Try.prog W = .ok (.value (.agg cs)) W := run_load_rowK hop hx hg n hn hs ha
theorem ld_pt {b e n : Nat} {L : List Pt} {t : Pt} (k : Nat) (hop : o.op = .load ty x := by exact rfl) (hx : ρ x = .pointer (some ⟨b, e, none⟩) := by exact rfl) (hL : PtsK W b 0 n L := by repeat (first | with_reducible assumption | (apply PtsK.link; (· with_reducible assumption)) | with_reducible apply PtsK.alloc | with_reducible apply PtsK.drewN | with_reducible apply PtsK.drew | ((with_reducible apply PtsK.set); (· first | assumption | omega | (simp; omega))) | (apply PtsK.grew; (· with_reducible assumption); (· (first | with_reducible assumption | (apply Off.under; (· with_reducible assumption); (· omega)) | (apply Off.above; (· with_reducible assumption); (· omega))))))) (he : e = k * 3 := by exact rfl) (hk : k < n := by (first | assumption | omega | decide))
    (hs : ∀ W, (sizeOf ty).run Try.prog W = .ok 3 W := by (first | exact Try.sizeOf34 | exact Try.sizeOf47)) (ha : ∀ W, (isAgg ty).run Try.prog W = .ok true W := by (first | exact Try.isAgg34 | exact Try.isAgg47)) (ht : L.getD k (0, 0, 0) = t := by (first | with_reducible assumption | (simp only [List.getD_cons_zero, List.getD_cons_succ]; exact rfl) | exact rfl)) : (execOp ρ o).run Try.prog W = .ok (.value (pV t)) W := run_load_ptT k hop hx hL he hk hs ha t ht
theorem ld_int {b e n : Nat} {L : List Int} {t : Int} (hop : o.op = .load ty x := by exact rfl) (hx : ρ x = .pointer (some ⟨b, e, none⟩) := by exact rfl) (hL : IntsK W b 0 n L := by repeat (first | with_reducible assumption | (apply IntsK.link; (· with_reducible assumption)) | with_reducible apply IntsK.alloc | with_reducible apply IntsK.drewN | with_reducible apply IntsK.drew | ((with_reducible apply IntsK.set); (· first | assumption | omega | (simp; omega))) | (apply IntsK.grew; (· with_reducible assumption); (· (first | with_reducible assumption | (apply Off.under; (· with_reducible assumption); (· omega)) | (apply Off.above; (· with_reducible assumption); (· omega))))))) (he : e < n := by (first | assumption | omega | decide))
    (ha : ∀ W, (isAgg ty).run Try.prog W = .ok false W := by (first | exact Try.isAgg2 | exact Try.isAgg3 | exact Try.isAgg4)) (ht : L.getD e 0 = t := by (first | with_reducible assumption | (simp only [List.getD_cons_zero, List.getD_cons_succ]; exact rfl) | exact rfl)) : (execOp ρ o).run Try.prog W = .ok (.value (.int .i64 t)) W := run_load_intT hop hx hL he ha t ht
end
section
variable {ops : Array Oper} {rest : List Oper} {o : Oper} {a : Act} {w : World} {Q : Exit → Act → World → Prop}
theorem wl_load {ty : TypeId} {x : Operand} {v : Value} (hK : wpList Try.prog ops Q rest (a.put o.dst v) w) (hgd : o.guard = none := by exact rfl) (hop : o.op = .load ty x := by exact rfl)
    (hr : (execOp a.eval o).run Try.prog w = .ok (.value v) w := by first | exact ld_row | exact ld_pt _ | exact ld_pt 0 | exact ld_pt 1 | exact ld_pt 2 | exact ld_pt 3 | exact ld_int) : wpList Try.prog ops Q (o :: rest) a w := wpList_load_any w hgd ty x hop hr hK
theorem wl_store {ty : TypeId} {x y : Operand} {g n : Nat} {T : TypeId} {cs U : Array Value} (hK : wpList Try.prog ops Q rest a (w.setRow g U)) (hgd : o.guard = none := by exact rfl) (hop : o.op = .store ty x y := by exact rfl) (hd : o.dst = none := by exact rfl)
    (hx : a.eval x = .pointer (some ⟨g, 0, none⟩) := by exact rfl) (hy : a.eval y = .agg U := by exact rfl) (hg : RowK w g cs T := by repeat (first | with_reducible assumption | ((with_reducible apply RowK.new); (first | rfl | (focus (simp; done)) | omega | (focus (simp; omega)))) | with_reducible apply RowK.here | (apply RowK.link; (· with_reducible assumption)) | with_reducible apply RowK.alloc | with_reducible apply RowK.drewN | with_reducible apply RowK.drew | ((with_reducible apply RowK.set); (· first | assumption | omega | (simp; omega))) | (apply RowK.grew; (· with_reducible assumption); (· (first | with_reducible assumption | (apply Off.under; (· with_reducible assumption); (· omega)) | (apply Off.above; (· with_reducible assumption); (· omega))))))) (hn : cs.size = n := by exact rfl) (hU : U.size = n := by exact rfl)
    (hs : ∀ W, (sizeOf ty).run Try.prog W = .ok n W := by (first | exact Try.sizeOf34 | exact Try.sizeOf47)) (h1 : ∀ v ∈ U.toList, v.oneCell' = true := by (first | exact pC_one _ | (focus (simp [Value.oneCell']; done)))) : wpList Try.prog ops Q (o :: rest) a w := wpList_store_rowK w hgd ty x y hop hd hx hy hg n hn hU hs h1 hK
theorem wl_build {t : TypeId} {parts : Array (Nat × Operand)} (hK : wpList Try.prog ops Q rest (a.put o.dst (.agg (pC (0, 0, 0)))) w) (hgd : o.guard = none := by exact rfl) (hop : o.op = .build t parts := by exact rfl)
    (hb : Program.built Try.prog t (parts.map fun (i, x) => (i, a.eval x)).toList = some (pC (0, 0, 0)) := by kernel_rfl) : wpList Try.prog ops Q (o :: rest) a w := wpList_build w hgd t parts hop _ hb hK
theorem wl_slice {t e : TypeId} {x : Operand} {p : Pt} (h : wpList Try.prog ops Q rest (a.put o.dst (.slice (some ⟨w.heap.size, 0, none⟩) 1 1)) (w.alloc (.cells (pC p) e))) (hgd : o.guard = none := by exact rfl) (ho : o.op = .buildSlice t 1 #[(0, x)] := by exact rfl)
    (he : EltK Try.prog t e 3 := by (first | exact eltPo | exact eltI64 | exact eltInt)) (hx : a.eval x = pV p := by exact rfl) : wpList Try.prog ops Q (o :: rest) a w := wpList_slice_pt w hgd t e x ho he hx h
theorem wl_append {s x : Operand} {t e : TypeId} {sz g m c B n : Nat} {v : Value} {xs : List Value} {news : Array Value} {T : TypeId}
    (h : ∀ v' w', OwnK w' B e sz v' (n + m) (xs ++ news.toList) → Grew w v w' → (v'.ownBlock = v.ownBlock ∨ v'.ownBlock = some w.heap.size) → wpList Try.prog ops Q rest (a.put o.dst v') w')
    (hgd : o.guard = none := by exact rfl) (ho : o.op = .call { callee := .builtin .append, args := #[s, x], argTypes := #[t, t] } := by exact rfl) (he : EltK Try.prog t e sz := by (first | exact eltPo | exact eltI64 | exact eltInt))
    (hs : a.eval s = v := by conv => lhs; whnf) (hx : a.eval x = .slice (some ⟨g, 0, none⟩) m c := by exact rfl) (hown : OwnK w B e sz v n xs := by repeat (first | with_reducible assumption | (apply OwnK.link; (· with_reducible assumption)) | with_reducible apply OwnK.alloc | with_reducible apply OwnK.drewN | with_reducible apply OwnK.drew | with_reducible apply OwnK.set | with_reducible assumption | (apply Off.under; (· with_reducible assumption); (· omega)) | (apply Off.above; (· with_reducible assumption); (· omega)) | (apply OwnK.grew; (· with_reducible assumption)) | exact Apart.out (by first | assumption | exact Apart.symm (by assumption)))) (hnew : RowK w g news T := by repeat (first | with_reducible assumption | ((with_reducible apply RowK.new); (first | rfl | (focus (simp; done)) | omega | (focus (simp; omega)))) | with_reducible apply RowK.here | (apply RowK.link; (· with_reducible assumption)) | with_reducible apply RowK.alloc | with_reducible apply RowK.drewN | with_reducible apply RowK.drew | ((with_reducible apply RowK.set); (· first | assumption | omega | (simp; omega))) | (apply RowK.grew; (· with_reducible assumption); (· (first | with_reducible assumption | (apply Off.under; (· with_reducible assumption); (· omega)) | (apply Off.above; (· with_reducible assumption); (· omega))))))) (hl : news.size = m * sz := by exact rfl) (h1 : ∀ u ∈ news.toList, u.oneCell' = true := by (first | exact pC_one _ | (focus (simp [Value.oneCell']; done))))
    (h63 : n + m ≤ 1000000 := by first | omega | (simp; omega)) (hbase : B ≤ w.heap.size := by first | omega | (simp; omega)) : wpList Try.prog ops Q (o :: rest) a w := wpList_append_K w hgd s x t e sz ho he hs hx hown hnew hl h1 h63 hbase h
theorem q_load {w : World} {G : Grow0 w} {K : Act → Prop} {ty : TypeId} {x : Operand} {v : Value} (hK : K (a.put o.dst v)) (hop : o.op = .load ty x := by exact rfl)
    (h : ∀ W, Link w W → (execOp a.eval o).run Try.prog W = .ok (.value v) W := by (intro W hl; first | exact ld_row | exact ld_pt _ | exact ld_pt 0 | exact ld_pt 1 | exact ld_pt 2 | exact ld_pt 3 | exact ld_int)) : o.quiet Try.prog a (fun w' => ∃ g : Grow w G, w' = g.W) K := q_load_any ty x hop h hK
end
section
variable {P : Program} {Q : Exit → Act → World → Prop} {l : List Oper} {a0 : Act} {w : World}
theorem region_QA {id : Nat} (m : Nat) (H : ∃ aE, (∀ G : Grow0 w, wpQuiet P l.toArray (fun w' => ∃ g : Grow w G, w' = g.W) (fun a' => a' = aE) (l.take m) a0) ∧ ∀ W, Link w W → wpList P l.toArray Q (l.drop m) aE W)
    (hm : P.follows .mixedOrders = true := by kernel_rfl) (hml : m ≤ l.length := by decide) (chk : viaChk l m a0.tmps.size = true := by kernel_rfl) (hgd : guardsIn l m = true := by kernel_rfl) (hon : onceB l m = true := by kernel_rfl) :
    (Code.region id l.toArray true).wp P Q a0 w := region_Q m hm hml chk hgd hon H
theorem region_QNA {id : Nat} (m : Nat) (ns : List CellS) {ms : List Bool} {rl : List Oper} (hpk : Pick l ms rl)
    (hal : AllNs (fun s : CellS => ∀ o, l[s.i]? = some o → ∀ (ρ : Operand → Value) (W : World), (execOp ρ o).run P W = .ok (.value (.pointer (some ⟨W.heap.size, 0, none⟩))) (W.alloc (.cells s.Z s.T))) ns)
    (H : ∃ aE, (∀ G : Grow0 w, wpQuiet P l.toArray (fun w' => ∃ g : Grow w G, w' = g.W) (fun a' => a' = aE) rl a0) ∧
      ∀ (g : Nat → Nat) (W : World), Link w W → AllNs (fun s : CellS => w.heap.size ≤ g s.t ∧ RowK W (g s.t) s.Z s.T) ns → AllNs (fun s : CellS => AllNs (fun s' : CellS => s.t ≠ s'.t → g s.t ≠ g s'.t) ns) ns → wpList P l.toArray Q (l.drop m) (puts aE (ns.map fun s => (s.t, .pointer (some ⟨g s.t, 0, none⟩)))) W)
    (hm : P.follows .mixedOrders = true := by kernel_rfl) (hml : m ≤ l.length := by decide) (hrl : (l.take m).filter (fun o => !isNew (ns.map (·.n)) o) = rl := by kernel_rfl)
    (chk : viaChk l m a0.tmps.size = true := by kernel_rfl) (hnew : newB l m (ns.map (·.n)) = true := by kernel_rfl) (hcell : cellB l m ns = true := by kernel_rfl) : (Code.region id l.toArray true).wp P Q a0 w := region_QN m ns hpk hm hml hrl chk hnew hcell hal H
theorem region_CHA {id : Nat} (m : Nat) (ch : List Nat) (KP : World → Prop) {ms mc : List Bool} {rl cl : List Oper} (hpk : Pick l ms rl) (hpc : Pick l mc cl)
    (hk : ∀ W W', KP W → Link W W' → KP W') (h0 : KP w)
    (H : ∃ aE, (∀ W0, KP W0 → ∀ G : Grow0 W0, wpQuiet P l.toArray (fun w' => ∃ g : Grow W0 G, w' = g.W) (fun a' => a' = aE) rl a0) ∧ wpCh P l.toArray KP (fun a' W' => wpList P l.toArray Q (l.drop m) a' W') cl aE w)
    (hm : P.follows .mixedOrders = true := by kernel_rfl) (hml : m ≤ l.length := by decide)
    (hrl : (((List.range m).filter fun i => !ch.contains i).filterMap fun i => l[i]?) = rl := by kernel_rfl) (hcl : (ch.filterMap fun i => l[i]?) = cl := by kernel_rfl)
    (chk : viaChkC l m a0.tmps.size ch = true := by kernel_rfl) (hgd : guardsIn l m = true := by kernel_rfl) (hon : onceC l m = true := by kernel_rfl) (hch : chChk l m ch = true := by kernel_rfl) (hcb : chanB l m ch = true := by kernel_rfl) :
    (Code.region id l.toArray true).wp P Q a0 w := region_CH m ch KP hpk hpc hm hml hrl hcl chk hgd hon hch hcb hk h0 H
end
end Go.Proofs.Ytnpmdchphaenaaa
/- Plain: the rank of a table of numbers modulo a prime, by elimination. -/
namespace Go.Proofs.Ytnpmdchphaenaaa
set_option linter.unusedVariables false
set_option linter.unusedSimpArgs false
/-- The first row from f on that is not 0 in column c; N if there is none. -/
def piv (M : Nat → Nat → Int) (c N f : Nat) : Nat := if f < N ∧ M f c = 0 then piv M c N (f + 1) else f
termination_by N - f
def swp {α : Type} (M : Nat → α) (r f : Nat) : Nat → α := fun i => if i = r then M f else if i = f then M r else M i
/-- Row r taken from the rows behind it, from column c on. -/
def elm (q : Int) (c r : Nat) (M : Nat → Nat → Int) : Nat → Nat → Int := fun i k => if r < i ∧ ¬ M i c = 0 ∧ c ≤ k then (M i k - (M i c * invP q (M r c)) % q * M r k) % q else M i k
def stp (q : Int) (N c : Nat) (s : Nat × (Nat → Nat → Int)) : Nat × (Nat → Nat → Int) := if piv s.2 c N s.1 = N then s else (s.1 + 1, elm q c s.1 (swp s.2 s.1 (piv s.2 c N s.1)))
def elim (q : Int) (N : Nat) (M0 : Nat → Nat → Int) : Nat → Nat × (Nat → Nat → Int)
  | 0 => (0, M0)
  | c + 1 => stp q N c (elim q N M0 c)
section
variable {q : Int} {c r i k N : Nat} {B : Nat → Nat → Int}
end
end Go.Proofs.Ytnpmdchphaenaaa
/- Tables of numbers in memory: rows in blocks of their own, their headers in one. -- own lists -- numbers -/
namespace Go.Proofs.Ytnpmdchphaenaaa
open Go.RowKit
set_option linter.unusedVariables false
set_option linter.unusedSimpArgs false
@[reducible] def rowV (N : Nat) (q : Nat × Nat) : Value := .slice (some ⟨q.1, 0, none⟩) N q.2
structure RowF (W : World) (g cap N : Nat) (F : Nat → Int) : Prop where
  room : RoomI W g cap 2
  le : N ≤ cap
  at_ : ∀ j, j < N → W.cell? ⟨g, j, none⟩ = some (.int .i64 (F j))
section
variable {W W' : World} {g g' cap N k : Nat} {F G : Nat → Int}
theorem RowF.blk (h : RowF W g cap N F) (e : W'.heap[g]? = W.heap[g]?) : RowF W' g cap N F := by
  obtain ⟨⟨cur, h1, h2⟩, h3, h4⟩ := h
  refine ⟨⟨cur, e.trans h1, h2⟩, h3, fun j hj => ?_⟩
  rw [← h4 j hj]; unfold World.cell?; rw [e]
theorem RowF.lt (h : RowF W g cap N F) : g < W.heap.size := h.room.lt
theorem RowF.below (h : RowF W g cap N F) (hb : Below W.heap.size W W') : RowF W' g cap N F := h.blk (hb.block _ h.lt)
theorem RowF.link (l : Link W W') (h : RowF W g cap N F) : RowF W' g cap N F := h.below l.out
theorem RowF.alloc (h : RowF W g cap N F) (o : Obj) : RowF (W.alloc o) g cap N F := h.below (bal (Below.refl _ _) o)
theorem RowF.set (h : RowF W g cap N F) (hk : k < N) (x : Int) : RowF (W.setCell ⟨g, k, none⟩ (.int .i64 x)) g cap N (fun j => if j = k then x else F j) := by
  refine ⟨h.room.set k _, h.le, fun j hj => ?_⟩
  by_cases e : j = k
  · subst e
    rw [World.cell?_setCell_same _ _ _ (h.at_ j hj)]
    simp
  · rw [World.cell?_setCell_other _ _ _ _ (fun h => e (by cases h; rfl)), h.at_ j hj]
    simp [e]
theorem setCell_blk (W : World) {g g' : Nat} (hne : g ≠ g') (k : Nat) (v : Value) : (W.setCell ⟨g', k, none⟩ v).heap[g]? = W.heap[g]? := by
  simp [World.setCell, Array.getElem?_modify, Ne.symm hne]
theorem RowF.other (h : RowF W g cap N F) (hne : g ≠ g') (k : Nat) (v : Value) : RowF (W.setCell ⟨g', k, none⟩ v) g cap N F := h.blk (setCell_blk W hne k v)
theorem RowF.congr (h : RowF W g cap N F) (e : ∀ j, j < N → F j = G j) : RowF W g cap N G := ⟨h.room, h.le, fun j hj => by rw [h.at_ j hj, e j hj]⟩
end
theorem room_ne {W : World} {g g' c c' : Nat} {T T' : TypeId} (h : RoomI W g c T) (h' : RoomI W g' c' T') (hT : T ≠ T') : g ≠ g' := by
  rintro rfl
  obtain ⟨_, h1, _⟩ := h
  obtain ⟨_, h2, _⟩ := h'
  rw [h1] at h2
  cases h2
  exact hT rfl
/-- A cell that holds a value; a cell that may be stored to. -/
structure CellK (W : World) (g k : Nat) (v : Value) : Prop where
  out : W.cell? ⟨g, k, none⟩ = some v
structure StK (W : World) (g k : Nat) : Prop where
  out : (W.cell? ⟨g, k, none⟩).isSome = true ∧ W.frozen? ⟨g, k, none⟩ = false ∧ g < W.heap.size
theorem CellK.link {W W' : World} {g k : Nat} {v : Value} (l : Link W W') (h : CellK W g k v) : CellK W' g k v := ⟨cell_below l.out h.out⟩
theorem CellK.alloc {W : World} {g k : Nat} {v : Value} (h : CellK W g k v) (o : Obj) : CellK (W.alloc o) g k v := ⟨cell_below (bal (Below.refl _ _) o) h.out⟩
theorem StK.link {W W' : World} {g k : Nat} (l : Link W W') (h : StK W g k) : StK W' g k := by
  obtain ⟨h1, h2, h3⟩ := h.out
  have e := l.out.block g h3
  refine ⟨?_, ?_, Nat.lt_of_lt_of_le h3 l.out.size⟩
  · unfold World.cell? at h1 ⊢; rw [e]; exact h1
  · unfold World.frozen? at h2 ⊢; rw [e]; exact h2
theorem RowF.cell {W : World} {g cap N k : Nat} {F : Nat → Int} (h : RowF W g cap N F) (hk : k < N) : CellK W g k (.int .i64 (F k)) := ⟨h.at_ k hk⟩
theorem RowF.st {W : World} {g cap N k : Nat} {F : Nat → Int} (h : RowF W g cap N F) (hk : k < N) : StK W g k := ⟨h.room.some k (Nat.lt_of_lt_of_le hk h.le), h.room.frozen k, h.lt⟩
/-- The rows of a table. -/
structure RowsK (W : World) (B k N : Nat) (gs : Nat → Nat × Nat) (M : Nat → Nat → Int) : Prop where
  row : ∀ i, i < k → RowF W (gs i).1 (gs i).2 N (M i)
  low : ∀ i, i < k → B ≤ (gs i).1
  inj : ∀ i j, i < k → j < k → (gs i).1 = (gs j).1 → i = j
section
variable {W W' : World} {B k N i c : Nat} {gs : Nat → Nat × Nat} {M M' : Nat → Nat → Int}
theorem RowsK.blk (h : RowsK W B k N gs M) (e : ∀ i, i < k → W'.heap[(gs i).1]? = W.heap[(gs i).1]?) : RowsK W' B k N gs M := ⟨fun i hi => (h.row i hi).blk (e i hi), h.low, h.inj⟩
theorem RowsK.link (l : Link W W') (h : RowsK W B k N gs M) : RowsK W' B k N gs M := h.blk (fun i hi => l.out.block _ (h.row i hi).lt)
theorem RowsK.alloc (h : RowsK W B k N gs M) (o : Obj) : RowsK (W.alloc o) B k N gs M := h.blk (fun i hi => (bal (Below.refl _ _) o : Below W.heap.size W (W.alloc o)).block _ (h.row i hi).lt)
theorem RowsK.grew {u : Value} (hg : Grew W u W') (ho : ∀ i, i < k → Off u (gs i).1) (h : RowsK W B k N gs M) : RowsK W' B k N gs M := h.blk (fun i hi => hg.out.block _ (h.row i hi).lt (fun e => (ho i hi).out e.symm))
theorem RowsK.other {g' : Nat} (h : RowsK W B k N gs M) (hne : ∀ i, i < k → (gs i).1 ≠ g') (c : Nat) (v : Value) : RowsK (W.setCell ⟨g', c, none⟩ v) B k N gs M := h.blk (fun i hi => setCell_blk W (hne i hi) c v)
theorem RowsK.set (h : RowsK W B k N gs M) (hi : i < k) (hc : c < N) (x : Int) : RowsK (W.setCell ⟨(gs i).1, c, none⟩ (.int .i64 x)) B k N gs (fun j l => if j = i ∧ l = c then x else M j l) := by
  refine ⟨fun j hj => ?_, h.low, h.inj⟩
  by_cases e : j = i
  · subst e
    exact ((h.row j hj).set hc x).congr (fun l hl => by by_cases e2 : l = c <;> simp [e2])
  · exact ((h.row j hj).other (fun e2 => e (h.inj j i hj hi e2)) c _).congr (fun l hl => by simp [e])
theorem RowsK.congr (h : RowsK W B k N gs M) (e : ∀ i l, i < k → l < N → M i l = M' i l) : RowsK W B k N gs M' := ⟨fun i hi => (h.row i hi).congr (fun l hl => e i l hi hl), h.low, h.inj⟩
theorem RowsK.snoc {g cap : Nat} {F : Nat → Int} (h : RowsK W B k N gs M) (hF : RowF W g cap N F) (hB : B ≤ g) (hne : ∀ i, i < k → (gs i).1 ≠ g) (hM : ∀ l, l < N → F l = M k l) :
    RowsK W B (k + 1) N (fun i => if i = k then (g, cap) else gs i) M := by
  refine ⟨fun i hi => ?_, fun i hi => ?_, fun i j hi hj e => ?_⟩
  · by_cases e : i = k
    · subst e; simp only [if_true]; exact hF.congr hM
    · simp only [e, if_false]; exact h.row i (by omega)
  · by_cases e : i = k
    · subst e; simp only [if_true]; exact hB
    · simp only [e, if_false]; exact h.low i (by omega)
  · by_cases e1 : i = k <;> by_cases e2 : j = k <;> simp only [e1, e2, if_true, if_false] at e
    · omega
    · exact absurd e.symm (hne j (by omega))
    · exact absurd e (hne i (by omega))
    · exact h.inj i j (by omega) (by omega) e
theorem RowsK.nil (W : World) (B N : Nat) (gs : Nat → Nat × Nat) (M : Nat → Nat → Int) : RowsK W B 0 N gs M := ⟨fun i hi => absurd hi (Nat.not_lt_zero _), fun i hi => absurd hi (Nat.not_lt_zero _), fun i j hi => absurd hi (Nat.not_lt_zero _)⟩
end
/-- The headers of the rows. -/
structure HdK (W : World) (g0 cap0 N : Nat) (gs : Nat → Nat × Nat) : Prop where
  room : RoomI W g0 cap0 81
  le : N ≤ cap0
  at_ : ∀ i, i < N → W.cell? ⟨g0, i, none⟩ = some (rowV N (gs i))
section
variable {W W' : World} {g0 cap0 N i : Nat} {gs : Nat → Nat × Nat}
theorem HdK.blk (h : HdK W g0 cap0 N gs) (e : W'.heap[g0]? = W.heap[g0]?) : HdK W' g0 cap0 N gs := by
  obtain ⟨⟨cur, h1, h2⟩, h3, h4⟩ := h
  refine ⟨⟨cur, e.trans h1, h2⟩, h3, fun j hj => ?_⟩
  rw [← h4 j hj]; unfold World.cell?; rw [e]
theorem HdK.lt (h : HdK W g0 cap0 N gs) : g0 < W.heap.size := h.room.lt
theorem HdK.link (l : Link W W') (h : HdK W g0 cap0 N gs) : HdK W' g0 cap0 N gs := h.blk (l.out.block _ h.lt)
theorem HdK.other {g' : Nat} (h : HdK W g0 cap0 N gs) (hne : g0 ≠ g') (k : Nat) (v : Value) : HdK (W.setCell ⟨g', k, none⟩ v) g0 cap0 N gs := h.blk (setCell_blk W hne k v)
theorem HdK.set (h : HdK W g0 cap0 N gs) (hi : i < N) (q : Nat × Nat) : HdK (W.setCell ⟨g0, i, none⟩ (rowV N q)) g0 cap0 N (fun j => if j = i then q else gs j) := by
  refine ⟨h.room.set i _, h.le, fun j hj => ?_⟩
  by_cases e : j = i
  · subst e
    rw [World.cell?_setCell_same _ _ _ (h.at_ j hj)]
    simp
  · rw [World.cell?_setCell_other _ _ _ _ (fun h => e (by cases h; rfl)), h.at_ j hj]
    simp [e]
theorem HdK.cell (h : HdK W g0 cap0 N gs) (hi : i < N) : CellK W g0 i (rowV N (gs i)) := ⟨h.at_ i hi⟩
theorem HdK.st (h : HdK W g0 cap0 N gs) (hi : i < N) : StK W g0 i := ⟨h.room.some i (Nat.lt_of_lt_of_le hi h.le), h.room.frozen i, h.lt⟩
theorem HdK.congr {gs' : Nat → Nat × Nat} (h : HdK W g0 cap0 N gs) (e : ∀ i, i < N → gs i = gs' i) : HdK W g0 cap0 N gs' := ⟨h.room, h.le, fun j hj => by rw [h.at_ j hj, e j hj]⟩
theorem HdK.ne {B k : Nat} {M : Nat → Nat → Int} {gs' : Nat → Nat × Nat} (h : HdK W g0 cap0 N gs) (hR : RowsK W B k N gs' M) (hi : i < k) : (gs' i).1 ≠ g0 := room_ne (hR.row i hi).room h.room (by decide)
end
def rowVs (N : Nat) (gs : Nat → Nat × Nat) (k : Nat) : List Value := (List.range k).map (fun i => rowV N (gs i))
theorem OwnK.hd {W : World} {B N : Nat} {v : Value} {gs : Nat → Nat × Nat} (h : OwnK W B 81 1 v N (rowVs N gs N)) (hn : 0 < N) :
    ∃ g cap, v = .slice (some ⟨g, 0, none⟩) N cap ∧ B ≤ g ∧ HdK W g cap N gs := by
  rcases h.out.2 with ⟨_, h0⟩ | ⟨g, cap, cur, rfl, hb, hg, hle, _, hsz, htk⟩
  · omega
  · refine ⟨g, cap, rfl, hb, ⟨cur, hg, by simpa using hsz⟩, hle, fun i hi => ?_⟩
    rw [cell_of_row W g i _ _ _ hg]
    have h1 : (cur.toList.take (N * 1))[i]? = (rowVs N gs N)[i]? := by rw [htk]
    rw [Nat.mul_one, List.getElem?_take_of_lt hi] at h1
    rw [← Array.getElem?_toList, h1]
    simp [rowVs, hi]
end Go.Proofs.Ytnpmdchphaenaaa
/- Walks over tables of numbers: loads and stores of one cell, 'make', and the searches for them. -- tables -/
namespace Go.Proofs.Ytnpmdchphaenaaa
open Go.RowKit
set_option linter.unusedVariables false
set_option linter.unusedSimpArgs false
theorem StK.viaLow {W W' : World} {g k : Nat} (h : StK W g k) (l : LowK W W') : StK W' g k := h.link (LowK.lnk l)
theorem CellK.viaLow {W W' : World} {g k : Nat} {v : Value} (h : CellK W g k v) (l : LowK W W') : CellK W' g k v := h.link (LowK.lnk l)
theorem LowK.setCell {w W : World} {g : Nat} (hg : w.heap.size ≤ g) (k : Nat) (v : Value) (h : LowK w W) : LowK w (W.setCell ⟨g, k, none⟩ v) := ⟨h.out.setCell hg _⟩
theorem RowK.setCell {W : World} {g g' : Nat} {cs : Array Value} {T : TypeId} (h : RowK W g cs T) (hne : g ≠ g') (k : Nat) (v : Value) : RowK (W.setCell ⟨g', k, none⟩ v) g cs T := ⟨(setCell_blk W hne k v).trans h.out⟩
theorem Off.row {W : World} {B n g cap N : Nat} {v : Value} {xs : List Value} {F : Nat → Int} (hO : OwnK W B 81 1 v n xs) (hF : RowF W g cap N F) : Off v g := by
  refine ⟨fun e => ?_⟩
  obtain ⟨cur, h1, -⟩ := hF.room
  rcases hO.out.2 with ⟨rfl, _⟩ | ⟨g2, c2, cur2, rfl, _, h2, _⟩
  · simp [Value.ownBlock] at e
  · simp [Value.ownBlock] at e
    subst e
    rw [h1] at h2
    have := congrArg (fun o : Option Obj => match o with | some (.cells _ T _) => T | _ => 0) h2
    exact absurd (show (2 : TypeId) = 81 from this) (by decide)
theorem RowF.grew {w W : World} {u : Value} {g cap N : Nat} {F : Nat → Int} (hg : Grew w u W) (ho : Off u g) (h : RowF w g cap N F) : RowF W g cap N F := h.blk (hg.out.block g h.lt (fun e => ho.out e.symm))
theorem CellK.of {W : World} {g k : Nat} {v : Value} (h : CellK W g k v) : W.cell? ⟨g, k, none⟩ = some v := h.out
section
variable {ρ : Operand → Value} {ops : Array Oper} {rest : List Oper} {o : Oper} {a : Act} {w W : World} {Q : Exit → Act → World → Prop} {ty : TypeId} {x y : Operand}
end
end Go.Proofs.Ytnpmdchphaenaaa
/- Lists of maps in memory: loads and stores of nine cells in the middle of a block, and the searches for them. -/
namespace Go.Proofs.Ytnpmdchphaenaaa
open Go.RowKit
set_option linter.unusedVariables false
set_option linter.unusedSimpArgs false
def mC (t : M9) : Array Value := #[.int .i64 t.1.1, .int .i64 t.1.2.1, .int .i64 t.1.2.2, .int .i64 t.2.1.1, .int .i64 t.2.1.2.1, .int .i64 t.2.1.2.2, .int .i64 t.2.2.1, .int .i64 t.2.2.2.1, .int .i64 t.2.2.2.2]
@[reducible] def mV (t : M9) : Value := .agg (mC t)
def m0 : M9 := ((0, 0, 0), (0, 0, 0), (0, 0, 0))
theorem mC_one (t : M9) : ∀ u ∈ (mC t).toList, u.oneCell' = true := by
  intro u hu
  simp only [mC, List.mem_cons, List.not_mem_nil, or_false] at hu
  rcases hu with h | h | h | h | h | h | h | h | h <;> (subst h; rfl)
/-- Cells in the middle of a block. -/
structure RangeK (W : World) (b o : Nat) (U : Array Value) : Prop where
  out : W.rangeAt b o U.toList
/-- Cells that may be written. -/
structure ThereK (W : World) (b o n : Nat) : Prop where
  out : W.there b o n ∧ b < W.heap.size
theorem RangeK.link {W W' : World} {b o : Nat} {U : Array Value} (l : Link W W') (h : RangeK W b o U) : RangeK W' b o U := ⟨fun j v hv => cell_below l.out (h.out j v hv)⟩
theorem RangeK.alloc {W : World} {b o : Nat} {U : Array Value} (h : RangeK W b o U) (ob : Obj) : RangeK (W.alloc ob) b o U := ⟨World.rangeAt_alloc h.out ob⟩
theorem RangeK.viaLow {W W' : World} {b o : Nat} {U : Array Value} (h : RangeK W b o U) (l : LowK W W') : RangeK W' b o U := h.link (LowK.lnk l)
theorem RangeK.apart {W : World} {b o b' o' : Nat} {U : Array Value} {vs : List Value} (h : RangeK W b o U) (hap : b ≠ b' ∨ o + U.size ≤ o' ∨ o' + vs.length ≤ o) : RangeK (W.setCells b' o' vs) b o U := ⟨World.rangeAt_setCells_apart h.out b' o' vs (by simpa using hap)⟩
theorem RangeK.row {W : World} {b : Nat} {C U : Array Value} {T : TypeId} (h : RowK W b C T) (o : Nat) (hU : (C.extract o (o + U.size)) = U) : RangeK W b o U := ⟨by rw [← hU]; exact World.rangeAt_of_block h.out o U.size⟩
theorem ThereK.link {W W' : World} {b o n : Nat} (l : Link W W') (h : ThereK W b o n) : ThereK W' b o n := by
  obtain ⟨h1, h3⟩ := h.out
  have e := l.out.block b h3
  refine ⟨fun j hj => ?_, Nat.lt_of_lt_of_le h3 l.out.size⟩
  obtain ⟨k1, k2⟩ := h1 j hj
  refine ⟨?_, ?_⟩
  · unfold World.cell? at k1 ⊢; rw [e]; exact k1
  · unfold World.frozen? at k2 ⊢; rw [e]; exact k2
theorem ThereK.viaLow {W W' : World} {b o n : Nat} (h : ThereK W b o n) (l : LowK W W') : ThereK W' b o n := h.link (LowK.lnk l)
theorem ThereK.sets {W : World} {b o n b' o' : Nat} {vs : List Value} (h : ThereK W b o n) : ThereK (W.setCells b' o' vs) b o n := ⟨World.there_setCells h.out.1 b' o' vs, by rw [setCells_size]; exact h.out.2⟩
theorem ThereK.part {W : World} {b n : Nat} (h : ThereK W b 0 n) (o m : Nat) (hm : o + m ≤ n) : ThereK W b o m := ⟨fun j hj => by have := h.out.1 (o + j) (by omega); rwa [Nat.zero_add] at this, h.out.2⟩
theorem LowK.sets {w W : World} {g : Nat} (hg : w.heap.size ≤ g) (o : Nat) (vs : List Value) (h : LowK w W) : LowK w (W.setCells g o vs) := ⟨below_setCells g hg _ _ _ h.out⟩
/-- A list of maps. -/
structure MapsK (W : World) (b o n : Nat) (L : List M9) : Prop where
  out : ∀ i, i < n → W.rangeAt b (o + i * 9) (mC (L.getD i m0)).toList
theorem MapsK.link {W W' : World} {b o n : Nat} {L : List M9} (l : Link W W') (h : MapsK W b o n L) : MapsK W' b o n L := ⟨fun i hi => ((RangeK.mk (h.out i hi)).link l).out⟩
theorem MapsK.at_ {W : World} {b o n i : Nat} {L : List M9} (h : MapsK W b o n L) (hi : i < n) : RangeK W b (o + i * 9) (mC (L.getD i m0)) := ⟨h.out i hi⟩
theorem MapsK.lt {W : World} {b o n : Nat} {L : List M9} (h : MapsK W b o n L) (hn : 0 < n) : b < W.heap.size := World.block_lt_of_cell? W _ (h.out 0 hn 0 _ rfl)
structure RowTy (ty : TypeId) (n : Nat) : Prop where
  out : ∃ d, Try.prog.underlying ty = some d ∧ d.isRow = true ∧ (Try.prog.info? ty).map (·.size) = some n
theorem rowMap : RowTy 47 9 := ⟨_, Try.underlying47, rfl, by kernel_rfl⟩
theorem rowA33 : RowTy 46 9 := ⟨_, Try.underlying46, rfl, by kernel_rfl⟩
theorem rowA3 : RowTy 33 3 := ⟨_, Try.underlying33, rfl, by kernel_rfl⟩
section
variable {ρ : Operand → Value} {ops : Array Oper} {rest : List Oper} {o : Oper} {a : Act} {w W : World} {Q : Exit → Act → World → Prop} {ty : TypeId} {x y : Operand}
theorem findRange {W : World} {b o : Nat} {U : Array Value} (h : RangeK W b o U := by first | with_reducible assumption | (with_reducible apply RangeK.viaLow; (· with_reducible assumption); (· exact findLow)) | (repeat (first | with_reducible assumption | (apply RangeK.link; (· with_reducible assumption)) | with_reducible apply RangeK.alloc))) : RangeK W b o U := h
theorem ld_mid {b off n : Nat} {U : Array Value} (hop : o.op = .load ty x := by exact rfl) (hx : ρ x = .pointer (some ⟨b, off, none⟩) := by exact rfl) (hc : RangeK W b off U := by exact findRange)
    (hn : U.size = n := by exact rfl) (hty : RowTy ty n := by first | exact rowMap | exact rowA33 | exact rowA3) : (execOp ρ o).run Try.prog W = .ok (.value (.agg U)) W := by
  obtain ⟨d, h1, h2, h3⟩ := hty.out
  unfold execOp
  have hs : (Try.prog.info? ty).map (·.size) = some U.toList.length := by rw [h3]; simp [hn]
  simp only [hop, hx, Sem.run_bind, run_loadAt_mid W b off ty U.toList d hc.out h1 h2 hs, Result.andThen_ok]
  rfl
theorem wl_loadM {U : Array Value} (hK : wpList Try.prog ops Q rest (a.put o.dst (.agg U)) w) (hgd : o.guard = none := by exact rfl) (hop : o.op = .load ty x := by exact rfl)
    (hr : (execOp a.eval o).run Try.prog w = .ok (.value (.agg U)) w := by exact ld_mid) : wpList Try.prog ops Q (o :: rest) a w := wpList_load_any w hgd ty x hop hr hK
theorem q_loadM {G : Grow0 w} {K : Act → Prop} {U : Array Value} (hK : K (a.put o.dst (.agg U))) (hop : o.op = .load ty x := by exact rfl)
    (h : ∀ W, Link w W → (execOp a.eval o).run Try.prog W = .ok (.value (.agg U)) W := by (intro W hl; exact ld_mid)) : o.quiet Try.prog a (fun w' => ∃ g : Grow w G, w' = g.W) K := q_load_any ty x hop h hK
theorem wl_fill1 (hK : wpList Try.prog ops Q rest (a.put o.dst (.agg (pC (-7000000000000000101, 0, 0)))) w) (hgd : o.guard = none := by exact rfl) (hop : o.op = .build 33 #[(0, .const (.int .i64 (-7000000000000000101)))] := by exact rfl) : wpList Try.prog ops Q (o :: rest) a w :=
  wpList_build w hgd _ _ hop _ ((show Program.built Try.prog 33 (#[(0, .const (.int .i64 (-7000000000000000101)))].map fun ((i, x) : Nat × Operand) => (i, a.eval x)).toList = Program.built Try.prog 33 [(0, .int .i64 (-7000000000000000101))] from by simp; rfl).trans (show Program.built Try.prog 33 [(0, .int .i64 (-7000000000000000101))] = some (pC (-7000000000000000101, 0, 0)) by kernel_rfl)) hK
theorem wl_fill2 (hK : wpList Try.prog ops Q rest (a.put o.dst (.agg (mC ((-7000000000000000101, 0, 0), (0, 0, 0), (0, 0, 0))))) w) (hgd : o.guard = none := by exact rfl) (hop : o.op = .build 47 #[(0, x)] := by exact rfl) (hx : a.eval x = .agg (pC (-7000000000000000101, 0, 0)) := by exact rfl) : wpList Try.prog ops Q (o :: rest) a w :=
  wpList_build w hgd _ _ hop _ ((show Program.built Try.prog 47 (#[(0, x)].map fun ((i, x) : Nat × Operand) => (i, a.eval x)).toList = Program.built Try.prog 47 [(0, .agg (pC (-7000000000000000101, 0, 0)))] from by simp [hx]).trans (show Program.built Try.prog 47 [(0, .agg (pC (-7000000000000000101, 0, 0)))] = some (mC ((-7000000000000000101, 0, 0), (0, 0, 0), (0, 0, 0))) by kernel_rfl)) hK
theorem wl_storeM {b off n : Nat} {U : Array Value} (hK : wpList Try.prog ops Q rest a (w.setCells b off U.toList)) (hgd : o.guard = none := by exact rfl) (hop : o.op = .store ty x y := by exact rfl) (hd : o.dst = none := by exact rfl)
    (hx : a.eval x = .pointer (some ⟨b, off, none⟩) := by exact rfl) (hy : a.eval y = .agg U := by exact rfl)
    (hS : ThereK w b off n := by first | with_reducible assumption | (with_reducible apply ThereK.viaLow; (· with_reducible assumption); (· exact findLow)) | (with_reducible apply ThereK.link; (· with_reducible assumption); (· with_reducible assumption)))
    (hn : U.size = n := by exact rfl) (hty : RowTy ty n := by first | exact rowMap | exact rowA33 | exact rowA3) (h1 : ∀ v ∈ U.toList, v.oneCell' = true := by first | exact mC_one _ | (intro v hv; simp at hv; rcases hv with rfl | rfl | rfl <;> rfl)) : wpList Try.prog ops Q (o :: rest) a w := by
  obtain ⟨d, k1, k2, k3⟩ := hty.out
  subst hn
  have hr : (execOp a.eval o).run Try.prog w = .ok .skip (w.setCells b off U.toList) := by
    unfold execOp
    have := run_storeAt_mid (P := Try.prog) w b off ty U hS.out.1 k3 (by have h2 := all_oneCell_toArray (cs := U.toList) h1; simpa using h2)
    simp only [hop, hx, hy, Sem.run_bind, this, Result.andThen_ok]
    rfl
  refine wpList_plain hgd fun K hK' => ?_
  unfold Oper.wp
  rw [hr]
  simp only [Oper.upon, hd]
  exact hK' _ _ hK
end
end Go.Proofs.Ytnpmdchphaenaaa
/- Go maps keyed by maps: looked up and written. -/
namespace Go.Proofs.Ytnpmdchphaenaaa
open Go.RowKit
set_option linter.unusedVariables false
set_option linter.unusedSimpArgs false
theorem checkKey_int (em : Bool) (n : Nat) (x : Int) (W : World) : (Instr.checkKey em (n + 1) 2 (.int .i64 x)).run Try.prog W = .ok () W := by
  unfold Instr.checkKey
  rw [Sem.run_bind, run_underlying Try.underlying2, Result.andThen_ok]
  rfl
theorem part_int (cs : Array Value) (i : Nat) (v : Value) (h : cs[i]? = some v) (W : World) : (part 2 cs i).run Try.prog W = .ok v W := by
  unfold part
  rw [Sem.run_bind, Try.isAgg2, Result.andThen_ok]
  simp [h]
theorem checkKey_row (em : Bool) (n : Nat) (x y z : Int) (W : World) : (Instr.checkKey em (n + 1 + 1) 33 (ptV x y z)).run Try.prog W = .ok () W := by
  unfold Instr.checkKey
  rw [Sem.run_bind, run_underlying Try.underlying33, Result.andThen_ok]
  have p0 := part_int #[.int .i64 x, .int .i64 y, .int .i64 z] 0 _ rfl
  have p1 := part_int #[.int .i64 x, .int .i64 y, .int .i64 z] 1 _ rfl
  have p2 := part_int #[.int .i64 x, .int .i64 y, .int .i64 z] 2 _ rfl
  simp [Std.Legacy.Range.forIn_eq_forIn_range', Std.Legacy.Range.size, List.range', List.forIn_cons, Sem.run_bind, Try.sizeOf2, Sem.run_pure, p0, p1, p2, checkKey_int]
theorem checkKey_M (em : Bool) (n : Nat) (t : M9) (W : World) : (Instr.checkKey em (n + 1 + 1 + 1) 47 (mV t)).run Try.prog W = .ok () W := by
  show (Instr.checkKey em (n + 1 + 1 + 1) 47 (.agg #[.int .i64 t.1.1, .int .i64 t.1.2.1, .int .i64 t.1.2.2, .int .i64 t.2.1.1, .int .i64 t.2.1.2.1, .int .i64 t.2.1.2.2, .int .i64 t.2.2.1, .int .i64 t.2.2.2.1, .int .i64 t.2.2.2.2])).run Try.prog W = .ok () W
  unfold Instr.checkKey
  rw [Sem.run_bind, run_underlying Try.underlying47, Result.andThen_ok]
  obtain ⟨p0, p1, p2⟩ := partMap W t.1.1 t.1.2.1 t.1.2.2 t.2.1.1 t.2.1.2.1 t.2.1.2.2 t.2.2.1 t.2.2.2.1 t.2.2.2.2
  simp [Std.Legacy.Range.forIn_eq_forIn_range', Std.Legacy.Range.size, List.range', List.forIn_cons, Sem.run_bind, Try.sizeOf33, Sem.run_pure, p0, p1, p2, checkKey_row]
theorem equal_M (x y : M9) (W : World) : (Op.equal 47 (mV x) (mV y)).run Try.prog W = .ok (decide (x = y)) W := by
  have h := eqAMap W x.1.1 x.1.2.1 x.1.2.2 x.2.1.1 x.2.1.2.1 x.2.1.2.2 x.2.2.1 x.2.2.2.1 x.2.2.2.2 y.1.1 y.1.2.1 y.1.2.2 y.2.1.1 y.2.1.2.1 y.2.1.2.2 y.2.2.1 y.2.2.2.1 y.2.2.2.2
  have e : eqM (x.1.1, x.1.2.1, x.1.2.2) (x.2.1.1, x.2.1.2.1, x.2.1.2.2) (x.2.2.1, x.2.2.2.1, x.2.2.2.2) (y.1.1, y.1.2.1, y.1.2.2) (y.2.1.1, y.2.1.2.1, y.2.1.2.2) (y.2.2.1, y.2.2.2.1, y.2.2.2.2) = decide (x = y) := by
    rw [Bool.eq_iff_iff, eqM_iff, decide_eq_true_iff]
    constructor
    · rintro ⟨h1, h2, h3⟩; exact Prod.ext h1 (Prod.ext h2 h3)
    · rintro rfl; exact ⟨rfl, rfl, rfl⟩
  rw [e] at h
  exact h
theorem find_M (x : M9) (W : World) : ∀ (es : List MapEntry) (L : List M9) (i : Nat), es.map (·.key) = L.map mV →
    (x ∉ L → (Instr.findAsking 47 (mV x) es i).run Try.prog W = .ok none W) ∧ (x ∈ L → ∃ j e, e ∈ es ∧ (Instr.findAsking 47 (mV x) es i).run Try.prog W = .ok (some (j, e.val)) W)
  | [], L, i, h => by
    obtain rfl : L = [] := by simpa using h.symm
    exact ⟨fun _ => rfl, fun h => by simp at h⟩
  | e :: es, [], i, h => by simp at h
  | e :: es, y :: L, i, h => by
    simp only [List.map_cons, List.cons.injEq] at h
    obtain ⟨h1, h2⟩ := h
    obtain ⟨k1, k2⟩ := find_M x W es L (i + 1) h2
    have hq := equal_M x y W
    rw [← h1] at hq
    by_cases hxy : x = y
    · rw [show decide (x = y) = true by simpa using hxy] at hq
      refine ⟨fun hn => absurd (by rw [hxy]; exact List.mem_cons_self ..) hn, fun _ => ⟨i, e, List.mem_cons_self .., ?_⟩⟩
      simp [Instr.findAsking, Sem.run_bind, hq]
    · rw [show decide (x = y) = false by simpa using hxy] at hq
      refine ⟨fun hn => ?_, fun hm => ?_⟩
      · simp [Instr.findAsking, Sem.run_bind, hq]
        exact k1 (fun hm => hn (List.mem_cons_of_mem _ hm))
      · obtain ⟨j, e2, he, hr⟩ := k2 (by rcases List.mem_cons.1 hm with h | h; exact absurd h hxy; exact h)
        refine ⟨j, e2, List.mem_cons_of_mem _ he, ?_⟩
        simp [Instr.findAsking, Sem.run_bind, hq]
        exact hr
/-- A Go map from maps to true. -/
structure GoMapK (W : World) (g : Nat) (L : List M9) : Prop where
  out : ∃ es clock, W.heap[g]? = some (.map es clock) ∧ es.toList.map (·.key) = L.map mV ∧ ∀ e ∈ es.toList, e.val = .bool true
theorem GoMapK.lt {W : World} {g : Nat} {L : List M9} (h : GoMapK W g L) : g < W.heap.size := by
  obtain ⟨es, cl, h1, -⟩ := h.out
  exact (Array.getElem?_eq_some_iff.1 h1).1
theorem GoMapK.blk {W W' : World} {g : Nat} {L : List M9} (h : GoMapK W g L) (e : W'.heap[g]? = W.heap[g]?) : GoMapK W' g L := by
  obtain ⟨es, cl, h1, h2⟩ := h.out
  exact ⟨es, cl, e.trans h1, h2⟩
theorem GoMapK.link {W W' : World} {g : Nat} {L : List M9} (l : Link W W') (h : GoMapK W g L) : GoMapK W' g L := h.blk (l.out.block _ h.lt)
theorem lookup_M (g : Nat) (L : List M9) (x : M9) (W : World) (h : GoMapK W g L) : (Instr.lookup 49 (.map (some g)) (mV x) false).run Try.prog W = .ok (.bool (decide (x ∈ L))) W := by
  obtain ⟨es, cl, h1, h2, h3⟩ := h.out
  obtain ⟨k1, k2⟩ := find_M x W es.toList L 0 h2
  have hf := run_findKey_eq (P := Try.prog) (w := W) (k := 47) (by rw [Try.underlying47]) (mV x) es.toList
  unfold Instr.lookup
  rw [Sem.run_bind, run_underlying Try.underlying49, Result.andThen_ok]
  have hg : (getObj g).run Try.prog W = .ok (.map es cl) W := by simp [getObj, Sem.run, h1]
  have hk : ∀ b, (Instr.checkKey b 10000 47 (mV x)).run Try.prog W = .ok () W := fun b => checkKey_M b 9997 x W
  have hz := Try.zeroValue4 W
  by_cases hx : x ∈ L
  · obtain ⟨j, e, he, hr⟩ := k2 hx
    have hv := h3 e he
    rw [hr] at hf
    simp [Sem.run_bind, hg, hk, hf, hv, hx]
  · rw [k1 hx] at hf
    simp [Sem.run_bind, hg, hk, hf, hz, hx]
theorem mapUpdate_M (g : Nat) (L : List M9) (x : M9) (W : World) (h : GoMapK W g L) (hx : x ∉ L) :
    ∃ W', (Instr.mapUpdate 49 (.map (some g)) (mV x) (.bool true)).run Try.prog W = .ok () W' ∧ GoMapK W' g (L ++ [x]) ∧ W'.heap.size = W.heap.size ∧ (∀ b, b ≠ g → W'.heap[b]? = W.heap[b]?) ∧ W'.os = W.os ∧ W'.tape = W.tape ∧ W'.output = W.output := by
  obtain ⟨es, cl, h1, h2, h3⟩ := h.out
  obtain ⟨k1, -⟩ := find_M x W es.toList L 0 h2
  have hf := run_findKey_eq (P := Try.prog) (w := W) (k := 47) (by rw [Try.underlying47]) (mV x) es.toList
  rw [k1 hx] at hf
  have hg : (getObj g).run Try.prog W = .ok (.map es cl) W := by simp [getObj, Sem.run, h1]
  have hk : ∀ b, (Instr.checkKey b 10000 47 (mV x)).run Try.prog W = .ok () W := fun b => checkKey_M b 9997 x W
  have hlt := h.lt
  have hs : ∀ o, (setObj g o).run Try.prog W = .ok () { W with heap := W.heap.setIfInBounds g o } := fun o => by simp [setObj, Sem.run, h1]
  refine ⟨{ W with heap := W.heap.setIfInBounds g (.map (es.push { key := mV x, val := .bool true, born := cl }) (cl + 1)) }, ?_, ⟨es.push { key := mV x, val := .bool true, born := cl }, cl + 1, by simp [hlt], by simp [h2], fun e he => ?_⟩, by simp, fun b hb => by simp [Array.getElem?_setIfInBounds, Ne.symm hb], rfl, rfl, rfl⟩
  · unfold Instr.mapUpdate
    rw [Sem.run_bind, run_underlying Try.underlying49, Result.andThen_ok]
    simp [Sem.run_bind, hg, hk, hf, hs]
  · simp only [Array.toList_push, List.mem_append, List.mem_singleton] at he
    rcases he with he | rfl
    · exact h3 e he
    · rfl
end Go.Proofs.Ytnpmdchphaenaaa
/- Plain: the maps of a group, one after the other; own lists of maps. -/
namespace Go.Proofs.Ytnpmdchphaenaaa
open Go.RowKit
set_option linter.unusedVariables false
set_option linter.unusedSimpArgs false
def oneM : M9 := ((1, 0, 0), (0, 1, 0), (0, 0, 1))
def stepA (p : Int) (A : List M9) (x m : M9) : List M9 := if timesM p x m ∈ A then A else A ++ [timesM p x m]
def innA (p : Int) (ms : List M9) (A : List M9) (x : M9) : Nat → List M9
  | 0 => A
  | k + 1 => stepA p (innA p ms A x k) x (ms.getD k m0)
def seqA (p : Int) (ms : List M9) : Nat → List M9
  | 0 => [oneM]
  | i + 1 => innA p ms (seqA p ms i) ((seqA p ms i).getD i m0) ms.length
theorem stepA_pre (p : Int) (A : List M9) (x m : M9) : A <+: stepA p A x m := by
  unfold stepA; split
  · exact List.prefix_refl _
  · exact List.prefix_append _ _
theorem innA_pre (p : Int) (ms A : List M9) (x : M9) : ∀ k, A <+: innA p ms A x k
  | 0 => List.prefix_refl _
  | k + 1 => (innA_pre p ms A x k).trans (stepA_pre _ _ _ _)
theorem innA_mono (p : Int) (ms A : List M9) (x : M9) {j : Nat} : ∀ k, j ≤ k → innA p ms A x j <+: innA p ms A x k
  | 0, h => by obtain rfl : j = 0 := by omega
               exact List.prefix_refl _
  | k + 1, h => by
    by_cases e : j = k + 1
    · subst e; exact List.prefix_refl _
    · exact (innA_mono p ms A x k (by omega)).trans (stepA_pre _ _ _ _)
theorem stepA_len (p : Int) (A : List M9) (x m : M9) : (stepA p A x m).length ≤ A.length + 1 := by
  unfold stepA; split <;> simp
theorem innA_len (p : Int) (ms A : List M9) (x : M9) : ∀ k, (innA p ms A x k).length ≤ A.length + k
  | 0 => Nat.le_refl _
  | k + 1 => by have := innA_len p ms A x k; have := stepA_len p (innA p ms A x k) x (ms.getD k m0); show (stepA _ _ _ _).length ≤ _; omega
theorem pre_at {A B : List M9} (h : A <+: B) {i : Nat} (hi : i < A.length) : B.getD i m0 = A.getD i m0 := by
  obtain ⟨t, rfl⟩ := h
  simp [List.getD, List.getElem?_append_left hi]
theorem stepA_all {p : Int} (hp : prB p = true) {A : List M9} {x m : M9} (h : ∀ a ∈ A, InM a) : ∀ a ∈ stepA p A x m, InM a := by
  unfold stepA; split
  · exact h
  · intro a ha
    rcases List.mem_append.1 ha with ha | ha
    · exact h a ha
    · rw [List.mem_singleton.1 ha]; exact inM_times hp
theorem innA_all {p : Int} (hp : prB p = true) {ms A : List M9} {x : M9} (h : ∀ a ∈ A, InM a) : ∀ k, ∀ a ∈ innA p ms A x k, InM a
  | 0 => h
  | k + 1 => stepA_all hp (innA_all hp h k)
theorem oneM_in : InM oneM := by
  intro x hx
  simp only [oneM, listM, List.mem_cons, List.not_mem_nil, or_false] at hx
  rcases hx with rfl | rfl | rfl | rfl | rfl | rfl | rfl | rfl | rfl <;> exact ⟨by decide, by decide⟩
theorem seqA_all {p : Int} (hp : prB p = true) (ms : List M9) : ∀ i, ∀ a ∈ seqA p ms i, InM a
  | 0 => fun a ha => by rw [List.mem_singleton.1 ha]; exact oneM_in
  | i + 1 => innA_all hp (seqA_all hp ms i) _
def GoodA (p : Int) (ms : List M9) (I : Nat) : Prop := ∀ i, i < I → i < (seqA p ms i).length ∧ (seqA p ms (i + 1)).length ≤ 200
theorem good_len {p : Int} {ms : List M9} {I i : Nat} (h : GoodA p ms I) (hi : i ≤ I) : (seqA p ms i).length ≤ 200 := by
  cases i with
  | zero => show [oneM].length ≤ 200; decide
  | succ i => exact (h i (by omega)).2
/-- The group is whole with K maps, or is too large behind map I. -/
theorem outcome (p : Int) (ms : List M9) : (∃ K, GoodA p ms K ∧ (seqA p ms K).length = K) ∨ ∃ I, GoodA p ms I ∧ I < (seqA p ms I).length ∧ 200 < (seqA p ms (I + 1)).length := by
  have key : ∀ i, (∃ K, GoodA p ms K ∧ (seqA p ms K).length = K) ∨ (∃ I, GoodA p ms I ∧ I < (seqA p ms I).length ∧ 200 < (seqA p ms (I + 1)).length) ∨ (GoodA p ms i ∧ i ≤ (seqA p ms i).length) := by
    intro i
    induction i with
    | zero => exact .inr (.inr ⟨fun i hi => absurd hi (Nat.not_lt_zero _), Nat.zero_le _⟩)
    | succ i ih =>
      rcases ih with h | h | ⟨h, hl⟩
      · exact .inl h
      · exact .inr (.inl h)
      · by_cases e : (seqA p ms i).length = i
        · exact .inl ⟨i, h, e⟩
        · have hlt : i < (seqA p ms i).length := by omega
          by_cases h2 : 200 < (seqA p ms (i + 1)).length
          · exact .inr (.inl ⟨i, h, hlt, h2⟩)
          · refine .inr (.inr ⟨fun j hj => ?_, ?_⟩)
            · by_cases ej : j = i
              · subst ej; exact ⟨hlt, by omega⟩
              · exact h j (by omega)
            · have hp : seqA p ms i <+: seqA p ms (i + 1) := innA_pre _ _ _ _ _
              have := hp.length_le
              omega
  rcases key 201 with h | h | ⟨h, hl⟩
  · exact .inl h
  · exact .inr h
  · have h1 := h 200 (by omega)
    have h2 := good_len h (i := 200) (by omega)
    omega
def mCs (l : List M9) : List Value := l.flatMap (fun t => (mC t).toList)
theorem mCs_snoc (l : List M9) (t : M9) : mCs l ++ (mC t).toList = mCs (l ++ [t]) := by simp [mCs]
theorem mCs_at : ∀ (l : List M9) (i j : Nat), i < l.length → j < 9 → (mCs l)[i * 9 + j]? = (mC (l.getD i m0)).toList[j]?
  | [], i, j, hi, _ => by simp at hi
  | a :: l, 0, j, _, hj => by
    show ((mC a).toList ++ mCs l)[0 * 9 + j]? = _
    rw [List.getElem?_append_left (by simp [mC]; omega)]
    simp
  | a :: l, i + 1, j, hi, hj => by
    show ((mC a).toList ++ mCs l)[(i + 1) * 9 + j]? = _
    rw [List.getElem?_append_right (by simp [mC]; omega)]
    have e : (i + 1) * 9 + j - (mC a).toList.length = i * 9 + j := by simp [mC]; omega
    rw [e, mCs_at l i j (by simpa using hi) hj]
    simp
theorem eltMp : EltK Try.prog 24 47 9 := by
  obtain ⟨i0, hi, hz0, hz1, hz2⟩ := info_parts (show (Try.prog.info? 47).map (fun i => (i.zero, i.size, i.bytes)) = some (some (.agg #[.int .i64 0, .int .i64 0, .int .i64 0, .int .i64 0, .int .i64 0, .int .i64 0, .int .i64 0, .int .i64 0, .int .i64 0]), 9, 72) by kernel_rfl)
  exact ⟨Try.underlying24, i0, _, hi, hz0, hz1, rfl, by decide, by decide, by rw [hz2]; decide⟩
theorem OwnK.maps {W : World} {B : Nat} {v : Value} {n : Nat} {l : List M9} (h : OwnK W B 47 9 v n (mCs l)) (hl : l.length = n) (hn : 0 < n) :
    ∃ g cap, v = .slice (some ⟨g, 0, none⟩) n cap ∧ B ≤ g ∧ g < W.heap.size ∧ MapsK W g 0 n l := by
  rcases h.out.2 with ⟨_, h0⟩ | ⟨g, cap, cur, rfl, hb, hg, hle, _, hsz, htk⟩
  · omega
  · refine ⟨g, cap, rfl, hb, (Array.getElem?_eq_some_iff.1 hg).1, ⟨fun i hi j v hv => ?_⟩⟩
    have hj : j < 9 := by
      have := (List.getElem?_eq_some_iff.1 hv).1
      simpa [mC] using this
    rw [Nat.zero_add, cell_of_row W g _ _ _ _ hg]
    have h1 : (cur.toList.take (n * 9))[i * 9 + j]? = (mCs l)[i * 9 + j]? := by rw [htk]
    rw [List.getElem?_take_of_lt (by omega)] at h1
    rw [← Array.getElem?_toList, h1, mCs_at l i j (by omega) hj]
    exact hv
theorem fill9 (zc : Array Value) (h : zc.size = 9) (x0 x1 x2 x3 x4 x5 x6 x7 x8 : Value) : Instr.fill (fun i => some (i * 9, 9)) ((Array.range (1 * 9)).map (fun k => zc[k % zc.size]!)) [(0, .agg #[x0, x1, x2, x3, x4, x5, x6, x7, x8])] = some #[x0, x1, x2, x3, x4, x5, x6, x7, x8] := by
  have hs : ((Array.range (1 * 9)).map (fun k => zc[k % zc.size]!)).size = 9 := by simp
  generalize (Array.range (1 * 9)).map (fun k => zc[k % zc.size]!) = cs at hs
  have e : cs = #[cs[0]!, cs[1]!, cs[2]!, cs[3]!, cs[4]!, cs[5]!, cs[6]!, cs[7]!, cs[8]!] := by
    apply Array.ext
    · simpa using hs
    · intro i h1 h2
      simp only [List.size_toArray, List.length_cons, List.length_nil] at h2
      match i, h2 with
      | 0, _ => simp [hs]
      | 1, _ => simp [hs]
      | 2, _ => simp [hs]
      | 3, _ => simp [hs]
      | 4, _ => simp [hs]
      | 5, _ => simp [hs]
      | 6, _ => simp [hs]
      | 7, _ => simp [hs]
      | 8, _ => simp [hs]
  generalize cs[0]! = z0 at e
  generalize cs[1]! = z1 at e
  generalize cs[2]! = z2 at e
  generalize cs[3]! = z3 at e
  generalize cs[4]! = z4 at e
  generalize cs[5]! = z5 at e
  generalize cs[6]! = z6 at e
  generalize cs[7]! = z7 at e
  generalize cs[8]! = z8 at e
  subst e
  simp [Instr.fill, Value.cells, List.zipIdx]
section
variable {ops : Array Oper} {rest : List Oper} {o : Oper} {a : Act} {w : World} {Q : Exit → Act → World → Prop}
theorem wl_sliceM {x : Operand} {t : M9} (h : wpList Try.prog ops Q rest (a.put o.dst (.slice (some ⟨w.heap.size, 0, none⟩) 1 1)) (w.alloc (.cells (mC t) 47))) (hgd : o.guard = none := by exact rfl) (ho : o.op = .buildSlice 24 1 #[(0, x)] := by exact rfl)
    (hx : a.eval x = mV t := by exact rfl) : wpList Try.prog ops Q (o :: rest) a w := by
  obtain ⟨hu, i, z, hi, hz, hsz, hzs, hpos, hle, hby⟩ := eltMp.out
  refine wpList_buildSlice hgd _ _ 1 _ ho (mC t) i z hu hi hz (by rw [hsz]; decide) (by rw [hsz]; decide) ?_ h
  simp only [List.map_toArray, List.map_cons, List.map_nil, hx, hsz]
  exact fill9 z.cells hzs _ _ _ _ _ _ _ _ _
end
end Go.Proofs.Ytnpmdchphaenaaa
/- The laws' own lists of maps: made with room behind, compared. -- maps -/
namespace Go.Proofs.Ytnpmdchphaenaaa
open Go.RowKit
set_option linter.unusedVariables false
set_option linter.unusedSimpArgs false
def fillM : M9 := ((-7000000000000000101, 0, 0), (0, 0, 0), (0, 0, 0))
def withRoomM (l : List M9) : List M9 := l ++ List.replicate (roomN l.length) fillM
theorem made9 {m j : Nat} (h : j < m * 9) : ((madeCells #[.int .i64 0, .int .i64 0, .int .i64 0, .int .i64 0, .int .i64 0, .int .i64 0, .int .i64 0, .int .i64 0, .int .i64 0] (m * 9))[j]?).isSome = true := by simp [madeCells, h]
section
variable {ops : Array Oper} {rest : List Oper} {o : Oper} {a : Act} {w : World} {Q : Exit → Act → World → Prop}
theorem wl_makeM {l c : Operand} {N : Nat} (hK : ∀ g W', w.heap.size = g → Link w W' → ThereK W' g 0 (N * 9) → wpList Try.prog ops Q rest (a.put o.dst (.slice (some ⟨g, 0, none⟩) N N)) W') (hgd : o.guard = none := by exact rfl)
    (hop : o.op = .makeSlice 24 l c := by exact rfl) (hl : a.eval l = .int .i64 (N : Int) := by exact rfl) (hc : a.eval c = .int .i64 (N : Int) := by exact rfl) (hN : N ≤ 10000000 := by omega) : wpList Try.prog ops Q (o :: rest) a w := by
  obtain ⟨i0, hi, hz0, hz1, hz2⟩ := info_parts (show (Try.prog.info? 47).map (fun i => (i.zero, i.size, i.bytes)) = some (some (.agg #[.int .i64 0, .int .i64 0, .int .i64 0, .int .i64 0, .int .i64 0, .int .i64 0, .int .i64 0, .int .i64 0, .int .i64 0]), 9, 72) by kernel_rfl)
  refine wpList_plain hgd fun K hK' => ?_
  have hb' : (i0.bytes : Int) * (N : Int) ≤ 281474976710656 := by rw [hz2]; omega
  have hr := run_make (P := Try.prog) w 24 47 i0 _ Try.underlying24 hi hz0 .i64 .i64 N N (by omega) (Int.le_refl _) hb' (by omega)
  have hcl : (Value.agg #[.int .i64 0, .int .i64 0, .int .i64 0, .int .i64 0, .int .i64 0, .int .i64 0, .int .i64 0, .int .i64 0, .int .i64 0]).cells = #[.int .i64 0, .int .i64 0, .int .i64 0, .int .i64 0, .int .i64 0, .int .i64 0, .int .i64 0, .int .i64 0, .int .i64 0] := by rfl
  rw [hcl, hz1, Int.toNat_natCast] at hr
  unfold Oper.wp
  simp [execOp, hop, hl, hc, hr, Result.andThen]
  refine hK' _ _ (hK _ _ rfl ⟨(Below.refl _ _).alloc (Nat.le_refl _) _⟩ ⟨fun j hj => ⟨?_, ?_⟩, by simp⟩)
  · rw [World.cell?_alloc_at _ _ _ _ rfl, Nat.zero_add]; exact made9 hj
  · exact frozen_of_row _ _ _ _ _ (heap_alloc_new _ _)
end
/-- A list of maps as an argument. -/
structure ListM (W : World) (b : Option Addr) (n : Nat) (L : List M9) : Prop where
  out : L.length = n ∧ (0 < n → ∃ g off, b = some ⟨g, off, none⟩ ∧ MapsK W g off n L)
theorem ListM.link {W W' : World} {b : Option Addr} {n : Nat} {L : List M9} (l : Link W W') (h : ListM W b n L) : ListM W' b n L := ⟨h.out.1, fun hn => by obtain ⟨g, off, e, hp⟩ := h.out.2 hn; exact ⟨g, off, e, hp.link l⟩⟩
/-- A copy of an argument. -/
structure CopyM (w : World) (k : Nat) (l : List M9) (e : Ending) (w' : World) : Prop where
  out : ∃ g, e = .returned (.slice (some ⟨g, 0, none⟩) k (k + roomN k)) ∧ w.heap.size ≤ g ∧ g < w'.heap.size ∧ MapsK w' g 0 (k + roomN k) (withRoomM l) ∧ MapsK w' g 0 k l ∧ Link w w'
end Go.Proofs.Ytnpmdchphaenaaa
/- The laws' own lists of maps, compared. -- maps -/
namespace Go.Proofs.Ytnpmdchphaenaaa
open Go.RowKit
set_option linter.unusedVariables false
set_option linter.unusedSimpArgs false
end Go.Proofs.Ytnpmdchphaenaaa
/- Contracts: the codes of lists of maps, the program's and the reference's. -- maps -/
namespace Go.Proofs.Ytnpmdchphaenaaa
open Go.RowKit
set_option linter.unusedVariables false
set_option linter.unusedSimpArgs false
/-- A map for p. -/
def okM (p : Int) (t : M9) : Bool := mapB p [t.1.1, t.1.2.1, t.1.2.2, t.2.1.1, t.2.1.2.1, t.2.1.2.2, t.2.2.1, t.2.2.2.1, t.2.2.2.2] (detZ (t.1.1, t.1.2.1, t.1.2.2) (t.2.1.1, t.2.1.2.1, t.2.1.2.2) (t.2.2.1, t.2.2.2.1, t.2.2.2.2))
def oksM (p : Int) (l : List M9) : Bool := l.all (okM p)
theorem IsMap_M (p : Int) (t : M9) (w : World) : Calls Try.prog 56 #[.int .i64 p, mV t] w (Ret w (.bool (okM p t))) := IsMap_any p _ _ _ _ _ _ _ _ _ w
theorem l02Is_M (p : Int) (t : M9) (w : World) : Calls Try.prog 60 #[.int .i64 p, mV t] w (Ret w (.bool (okM p t))) := l02Is_any p _ _ _ _ _ _ _ _ _ w
set_option maxRecDepth 20000 in
set_option maxHeartbeats 4000000 in
theorem mapsC1 (p : Int) (c : Nat) (t : M9) (w : World) (c0 : w.cell? ⟨c, 0, none⟩ = some (.int .i64 p)) : Calls Try.prog 55 #[mV t, .pointer (some ⟨c, 0, none⟩)] w (Ret w (.bool (!okM p t))) := by
  have hc : c < w.heap.size := World.block_lt_of_cell? w _ c0
  go_enter Try.func55, Try.ntmps55
  go_wp2_with (first | (refine wl_loadM ?_) | (refine wl_load ?_) | (refine wl_fill1 ?_) | (refine wl_fill2 ?_) | (refine wl_storeM ?_) | (refine wl_makeM ?_; intro gm W' hgm hl hT; have hs := hl.out.size; (try simp at hs)) | (refine wl_store ?_) | (refine wl_build ?_) | (refine wl_slice ?_) | (refine wl_append ?_; intro v' w' ho hg hb; have hs := hg.size; (try simp at hs); (try rw [ptCs_end] at ho); (try rw [ints_end] at ho); (try simp only [Nat.zero_add, Nat.reduceAdd, List.nil_append, List.cons_append] at ho)) | (go_at_call 56; (with_reducible refine (IsMap_M p t _).mono ?_); rintro e w' ⟨rfl, hb⟩; have hl := Link.mk hb; have hs := hb.size; (try simp at hs); clear hb))
  (apply ret_one Try.results55; (conv => lhs; whnf); exact rfl)
  exact ret_ret rfl findLow
set_option maxRecDepth 20000 in
set_option maxHeartbeats 4000000 in
theorem IndexFunc_M (p : Int) (c : Nat) (b : Option Addr) (n k : Nat) (L : List M9) (w : World) (hn : n ≤ 1000000) (c0 : w.cell? ⟨c, 0, none⟩ = some (.int .i64 p)) (h : ListM w b n L) :
    Calls Try.prog 70 #[.slice b n k, .func (.func 55) #[] #[.pointer (some ⟨c, 0, none⟩)]] w (fun e w' => ∃ r : Int, e = .returned (.int .i64 r) ∧ (oksM p L = true → r = -1) ∧ (oksM p L = false → 0 ≤ r) ∧ Link w w') := by
  have HC := Lib.hid (fun (W : World) (l : LowK w W) (t : M9) => mapsC1 p c t W (cell_below l.out c0))
  obtain ⟨hL, hM⟩ := h.out
  go_enter Try.func70, Try.ntmps70
  go_wp2_with (first | (refine wl_loadM ?_) | (refine wl_load ?_) | (refine wl_fill1 ?_) | (refine wl_fill2 ?_) | (refine wl_storeM ?_) | (refine wl_makeM ?_; intro gm W' hgm hl hT; have hs := hl.out.size; (try simp at hs)) | (refine wl_store ?_) | (refine wl_build ?_) | (refine wl_slice ?_) | (refine wl_append ?_; intro v' w' ho hg hb; have hs := hg.size; (try simp at hs); (try rw [ptCs_end] at ho); (try rw [ints_end] at ho); (try simp only [Nat.zero_add, Nat.reduceAdd, List.nil_append, List.cons_append] at ho)))
  go_loopw [8] (fun i wr => ∃ k : Nat, k ≤ n ∧ i = .int .i64 (k : Int) ∧ LowK w wr ∧ ∀ j, j < k → okM p (L.getD j m0) = true) (fun i _ => n - (intOf i).toNat)
  case atStart => exact ⟨0, Nat.zero_le _, rfl, findLow, fun j hj => absurd hj (Nat.not_lt_zero _)⟩
  case round =>
    obtain ⟨i, hi, rfl, hV, hJ⟩ := hrel
    by_cases hlt : i < n
    · obtain ⟨g, off, rfl, hS⟩ := hM (by omega)
      have r1 := (hS.at_ hlt).viaLow hV
      obtain ⟨x, hx⟩ : ∃ x, L.getD i m0 = x := ⟨_, rfl⟩
      rw [hx] at r1
      have HX := Lib.hid (HC.out wr hV x)
      rcases ho : okM p x with _ | _
      · rw [ho] at HX
        go_wp2_with (first | (refine wl_loadM ?_) | (refine wl_load ?_) | (refine wl_fill1 ?_) | (refine wl_fill2 ?_) | (refine wl_storeM ?_) | (refine wl_makeM ?_; intro gm W' hgm hl hT; have hs := hl.out.size; (try simp at hs)) | (refine wl_store ?_) | (refine wl_build ?_) | (refine wl_slice ?_) | (refine wl_append ?_; intro v' w' ho hg hb; have hs := hg.size; (try simp at hs); (try rw [ptCs_end] at ho); (try rw [ints_end] at ho); (try simp only [Nat.zero_add, Nat.reduceAdd, List.nil_append, List.cons_append] at ho)) | (go_at_call 55; (with_reducible refine (HX.out).mono ?_); rintro e w' ⟨rfl, hb⟩; have hl := Link.mk hb; have hs := hb.size; (try simp at hs); clear hb))
        (apply ret_one Try.results70; (conv => lhs; whnf); exact rfl)
        refine ⟨_, rfl, fun h => ?_, fun _ => by omega, LowK.lnk findLow⟩
        have := List.all_eq_true.1 h x (by rw [← hx, List.getD_eq_getElem?_getD, List.getElem?_eq_getElem (by omega)]; exact List.getElem_mem _)
        rw [ho] at this; cases this
      · rw [ho] at HX
        go_wp2_with (first | (refine wl_loadM ?_) | (refine wl_load ?_) | (refine wl_fill1 ?_) | (refine wl_fill2 ?_) | (refine wl_storeM ?_) | (refine wl_makeM ?_; intro gm W' hgm hl hT; have hs := hl.out.size; (try simp at hs)) | (refine wl_store ?_) | (refine wl_build ?_) | (refine wl_slice ?_) | (refine wl_append ?_; intro v' w' ho hg hb; have hs := hg.size; (try simp at hs); (try rw [ptCs_end] at ho); (try rw [ints_end] at ho); (try simp only [Nat.zero_add, Nat.reduceAdd, List.nil_append, List.cons_append] at ho)) | (go_at_call 55; (with_reducible refine (HX.out).mono ?_); rintro e w' ⟨rfl, hb⟩; have hl := Link.mk hb; have hs := hb.size; (try simp at hs); clear hb))
        go_roundw
        case rel => exact ⟨i + 1, by omega, by go_num, findLow, fun j hj => by
          rcases Nat.lt_or_ge j i with e | e
          · exact hJ j e
          · obtain rfl : j = i := by omega
            rw [hx]; exact ho⟩
        case measure => (simp [intOf]; try omega)
    · have hin : n ≤ i := by omega
      go_wp2_with (first | (refine wl_loadM ?_) | (refine wl_load ?_) | (refine wl_fill1 ?_) | (refine wl_fill2 ?_) | (refine wl_storeM ?_) | (refine wl_makeM ?_; intro gm W' hgm hl hT; have hs := hl.out.size; (try simp at hs)) | (refine wl_store ?_) | (refine wl_build ?_) | (refine wl_slice ?_) | (refine wl_append ?_; intro v' w' ho hg hb; have hs := hg.size; (try simp at hs); (try rw [ptCs_end] at ho); (try rw [ints_end] at ho); (try simp only [Nat.zero_add, Nat.reduceAdd, List.nil_append, List.cons_append] at ho)))
      (apply ret_one Try.results70; (conv => lhs; whnf); exact rfl)
      refine ⟨_, rfl, fun _ => rfl, fun h => ?_, LowK.lnk findLow⟩
      exfalso
      have : oksM p L = true := List.all_eq_true.2 (fun x hx => by
        obtain ⟨j, hj, rfl⟩ := List.mem_iff_getElem.1 hx
        have := hJ j (by omega)
        rwa [List.getD_eq_getElem?_getD, List.getElem?_eq_getElem hj] at this)
      rw [this] at h; cases h
set_option maxRecDepth 20000 in
set_option maxHeartbeats 4000000 in
theorem ContainsFunc_M (p : Int) (c : Nat) (b : Option Addr) (n k : Nat) (L : List M9) (w : World) (hn : n ≤ 1000000) (c0 : w.cell? ⟨c, 0, none⟩ = some (.int .i64 p)) (h : ListM w b n L) :
    Calls Try.prog 54 #[.slice b n k, .func (.func 55) #[] #[.pointer (some ⟨c, 0, none⟩)]] w (Ret w (.bool (!oksM p L))) := by
  have HI := Lib.hid (IndexFunc_M p c b n k L w hn c0 h)
  go_enter Try.func54, Try.ntmps54
  rcases ho : oksM p L with _ | _
  · go_wp2_with (first | (refine wl_loadM ?_) | (refine wl_load ?_) | (refine wl_fill1 ?_) | (refine wl_fill2 ?_) | (refine wl_storeM ?_) | (refine wl_makeM ?_; intro gm W' hgm hl hT; have hs := hl.out.size; (try simp at hs)) | (refine wl_store ?_) | (refine wl_build ?_) | (refine wl_slice ?_) | (refine wl_append ?_; intro v' w' ho hg hb; have hs := hg.size; (try simp at hs); (try rw [ptCs_end] at ho); (try rw [ints_end] at ho); (try simp only [Nat.zero_add, Nat.reduceAdd, List.nil_append, List.cons_append] at ho)) | (go_at_call 70; (with_reducible refine (HI.out).mono ?_); rintro e w' ⟨r, rfl, h1, h2, hl⟩; have hr := h2 ho))
    (apply ret_one Try.results54; (conv => lhs; whnf); exact rfl)
    exact ret_ret (by first | (simp; done) | (simp; omega)) findLow
  · go_wp2_with (first | (refine wl_loadM ?_) | (refine wl_load ?_) | (refine wl_fill1 ?_) | (refine wl_fill2 ?_) | (refine wl_storeM ?_) | (refine wl_makeM ?_; intro gm W' hgm hl hT; have hs := hl.out.size; (try simp at hs)) | (refine wl_store ?_) | (refine wl_build ?_) | (refine wl_slice ?_) | (refine wl_append ?_; intro v' w' ho hg hb; have hs := hg.size; (try simp at hs); (try rw [ptCs_end] at ho); (try rw [ints_end] at ho); (try simp only [Nat.zero_add, Nat.reduceAdd, List.nil_append, List.cons_append] at ho)) | (go_at_call 70; (with_reducible refine (HI.out).mono ?_); rintro e w' ⟨r, rfl, h1, h2, hl⟩; have hr := h1 ho; subst hr))
    (apply ret_one Try.results54; (conv => lhs; whnf); exact rfl)
    exact ret_ret rfl findLow
set_option maxRecDepth 20000 in
set_option maxHeartbeats 4000000 in
theorem mapsC2 (p : Int) (c d : Nat) (b : Option Addr) (n k : Nat) (L : List M9) (w : World) (hn : n ≤ 1000000) (c0 : w.cell? ⟨c, 0, none⟩ = some (.int .i64 p)) (d0 : w.cell? ⟨d, 0, none⟩ = some (.slice b n k)) (h : ListM w b n L) :
    Calls Try.prog 53 #[.pointer (some ⟨d, 0, none⟩), .pointer (some ⟨c, 0, none⟩)] w (Ret w (.bool (oksM p L))) := by
  have HC := Lib.hid (ContainsFunc_M p c b n k L w hn c0 h)
  go_enter Try.func53, Try.ntmps53
  go_wp2_with (first | (refine wl_loadM ?_) | (refine wl_load ?_) | (refine wl_fill1 ?_) | (refine wl_fill2 ?_) | (refine wl_storeM ?_) | (refine wl_makeM ?_; intro gm W' hgm hl hT; have hs := hl.out.size; (try simp at hs)) | (refine wl_store ?_) | (refine wl_build ?_) | (refine wl_slice ?_) | (refine wl_append ?_; intro v' w' ho hg hb; have hs := hg.size; (try simp at hs); (try rw [ptCs_end] at ho); (try rw [ints_end] at ho); (try simp only [Nat.zero_add, Nat.reduceAdd, List.nil_append, List.cons_append] at ho)) | (go_at_call 54; (with_reducible refine (HC.out).mono ?_); rintro e w' ⟨rfl, hb⟩; have hl := Link.mk hb; have hs := hb.size; (try simp at hs); clear hb))
  (apply ret_one Try.results53; (conv => lhs; whnf); exact rfl)
  exact ret_ret (by simp) findLow
/-- The code of a prime and of what a function says. -/
theorem planeCode_maps (p : Int) (caps : Array Value) (v : Bool) (w : World) (hp : prB p = true) (Hf : ∀ W, LowK w W → Calls Try.prog 53 caps W (Ret W (.bool v))) :
    Calls Try.prog 32 #[.int .i64 p, .func (.func 53) #[] caps] w (Ret w (.int .i64 (codeOf p v))) := by
  have HF := Lib.hid Hf
  have e0 : codeOf p v = if v = true then 0 else 1 := by unfold codeOf; rw [hp]; rfl
  rw [e0]
  clear Hf e0
  go_enter Try.func32, Try.ntmps32
  rcases v with _ | _
  · go_wp2_with (first | (refine wl_loadM ?_) | (refine wl_load ?_) | (refine wl_fill1 ?_) | (refine wl_fill2 ?_) | (refine wl_storeM ?_) | (refine wl_makeM ?_; intro gm W' hgm hl hT; have hs := hl.out.size; (try simp at hs)) | (refine wl_store ?_) | (refine wl_build ?_) | (refine wl_slice ?_) | (refine wl_append ?_; intro v' w' ho hg hb; have hs := hg.size; (try simp at hs); (try rw [ptCs_end] at ho); (try rw [ints_end] at ho); (try simp only [Nat.zero_add, Nat.reduceAdd, List.nil_append, List.cons_append] at ho)) | (go_at_call 52; (with_reducible refine (isPrime_yes _ _ hp).mono ?_); rintro e w' ⟨rfl, rfl⟩) | (go_at_call 53; (with_reducible refine (HF.out _ findLow).mono ?_); rintro e w' ⟨rfl, hb⟩; have hl := Link.mk hb; have hs := hb.size; (try simp at hs); clear hb))
    (apply ret_one Try.results32; (conv => lhs; whnf); exact rfl)
    exact ret_ret rfl findLow
  · go_wp2_with (first | (refine wl_loadM ?_) | (refine wl_load ?_) | (refine wl_fill1 ?_) | (refine wl_fill2 ?_) | (refine wl_storeM ?_) | (refine wl_makeM ?_; intro gm W' hgm hl hT; have hs := hl.out.size; (try simp at hs)) | (refine wl_store ?_) | (refine wl_build ?_) | (refine wl_slice ?_) | (refine wl_append ?_; intro v' w' ho hg hb; have hs := hg.size; (try simp at hs); (try rw [ptCs_end] at ho); (try rw [ints_end] at ho); (try simp only [Nat.zero_add, Nat.reduceAdd, List.nil_append, List.cons_append] at ho)) | (go_at_call 52; (with_reducible refine (isPrime_yes _ _ hp).mono ?_); rintro e w' ⟨rfl, rfl⟩) | (go_at_call 53; (with_reducible refine (HF.out _ findLow).mono ?_); rintro e w' ⟨rfl, hb⟩; have hl := Link.mk hb; have hs := hb.size; (try simp at hs); clear hb))
    (apply ret_one Try.results32; (conv => lhs; whnf); exact rfl)
    exact ret_ret rfl findLow
/-- The code of a prime and of what a function says. -/
theorem planeCode_list (p : Int) (caps : Array Value) (v : Bool) (w : World) (hp : prB p = true) (Hf : ∀ W, LowK w W → Calls Try.prog 33 caps W (Ret W (.bool v))) :
    Calls Try.prog 32 #[.int .i64 p, .func (.func 33) #[] caps] w (Ret w (.int .i64 (codeOf p v))) := by
  have HF := Lib.hid Hf
  have e0 : codeOf p v = if v = true then 0 else 1 := by unfold codeOf; rw [hp]; rfl
  rw [e0]
  clear Hf e0
  go_enter Try.func32, Try.ntmps32
  rcases v with _ | _
  · go_wp2_with (first | (refine wl_loadM ?_) | (refine wl_load ?_) | (refine wl_fill1 ?_) | (refine wl_fill2 ?_) | (refine wl_storeM ?_) | (refine wl_makeM ?_; intro gm W' hgm hl hT; have hs := hl.out.size; (try simp at hs)) | (refine wl_store ?_) | (refine wl_build ?_) | (refine wl_slice ?_) | (refine wl_append ?_; intro v' w' ho hg hb; have hs := hg.size; (try simp at hs); (try rw [ptCs_end] at ho); (try rw [ints_end] at ho); (try simp only [Nat.zero_add, Nat.reduceAdd, List.nil_append, List.cons_append] at ho)) | (go_at_call 52; (with_reducible refine (isPrime_yes _ _ hp).mono ?_); rintro e w' ⟨rfl, rfl⟩) | (go_at_call 33; (with_reducible refine (HF.out _ findLow).mono ?_); rintro e w' ⟨rfl, hb⟩; have hl := Link.mk hb; have hs := hb.size; (try simp at hs); clear hb))
    (apply ret_one Try.results32; (conv => lhs; whnf); exact rfl)
    exact ret_ret rfl findLow
  · go_wp2_with (first | (refine wl_loadM ?_) | (refine wl_load ?_) | (refine wl_fill1 ?_) | (refine wl_fill2 ?_) | (refine wl_storeM ?_) | (refine wl_makeM ?_; intro gm W' hgm hl hT; have hs := hl.out.size; (try simp at hs)) | (refine wl_store ?_) | (refine wl_build ?_) | (refine wl_slice ?_) | (refine wl_append ?_; intro v' w' ho hg hb; have hs := hg.size; (try simp at hs); (try rw [ptCs_end] at ho); (try rw [ints_end] at ho); (try simp only [Nat.zero_add, Nat.reduceAdd, List.nil_append, List.cons_append] at ho)) | (go_at_call 52; (with_reducible refine (isPrime_yes _ _ hp).mono ?_); rintro e w' ⟨rfl, rfl⟩) | (go_at_call 33; (with_reducible refine (HF.out _ findLow).mono ?_); rintro e w' ⟨rfl, hb⟩; have hl := Link.mk hb; have hs := hb.size; (try simp at hs); clear hb))
    (apply ret_one Try.results32; (conv => lhs; whnf); exact rfl)
    exact ret_ret rfl findLow
set_option maxRecDepth 20000 in
set_option maxHeartbeats 4000000 in
theorem mapsCode_M (p : Int) (b : Option Addr) (n k : Nat) (L : List M9) (w : World) (hn : n ≤ 1000000) (h : ListM w b n L) :
    Calls Try.prog 34 #[.int .i64 p, .slice b n k] w (Ret w (.int .i64 (codeOf p (oksM p L)))) := by
  rcases hp : prB p with _ | _
  · go_enter Try.func34, Try.ntmps34
    go_wp2_with (first | (refine wl_loadM ?_) | (refine wl_load ?_) | (refine wl_fill1 ?_) | (refine wl_fill2 ?_) | (refine wl_storeM ?_) | (refine wl_makeM ?_; intro gm W' hgm hl hT; have hs := hl.out.size; (try simp at hs)) | (refine wl_store ?_) | (refine wl_build ?_) | (refine wl_slice ?_) | (refine wl_append ?_; intro v' w' ho hg hb; have hs := hg.size; (try simp at hs); (try rw [ptCs_end] at ho); (try rw [ints_end] at ho); (try simp only [Nat.zero_add, Nat.reduceAdd, List.nil_append, List.cons_append] at ho)) | (go_at_call 32; (with_reducible refine (planeCode_no _ _ _ hp).mono ?_); rintro e w' ⟨rfl, rfl⟩))
    (apply ret_one Try.results34; (conv => lhs; whnf); exact rfl)
    exact ret_ret (by simp [codeOf, hp]) findLow
  · have HF : Hid (∀ (W : World) (c d : Nat), W.cell? ⟨c, 0, none⟩ = some (.int .i64 p) → W.cell? ⟨d, 0, none⟩ = some (.slice b n k) → LowK w W → ∀ W2, LowK W W2 → Calls Try.prog 53 #[.pointer (some ⟨d, 0, none⟩), .pointer (some ⟨c, 0, none⟩)] W2 (Ret W2 (.bool (oksM p L)))) :=
      Lib.hid (fun W c d hc hd hV W2 hV2 => mapsC2 p c d b n k L W2 hn (cell_below hV2.out hc) (cell_below hV2.out hd) (h.link (LowK.lnk (LowK.link (LowK.lnk hV2) hV))))
    go_enter Try.func34, Try.ntmps34
    go_wp2_with (first | (refine wl_loadM ?_) | (refine wl_load ?_) | (refine wl_fill1 ?_) | (refine wl_fill2 ?_) | (refine wl_storeM ?_) | (refine wl_makeM ?_; intro gm W' hgm hl hT; have hs := hl.out.size; (try simp at hs)) | (refine wl_store ?_) | (refine wl_build ?_) | (refine wl_slice ?_) | (refine wl_append ?_; intro v' w' ho hg hb; have hs := hg.size; (try simp at hs); (try rw [ptCs_end] at ho); (try rw [ints_end] at ho); (try simp only [Nat.zero_add, Nat.reduceAdd, List.nil_append, List.cons_append] at ho)) | (go_at_call 32; (with_reducible refine (planeCode_maps p _ _ _ hp (HF.out _ _ _ (by simp [go_sem]) (by simp [go_sem]) findLow)).mono ?_); rintro e w' ⟨rfl, hb⟩; have hl := Link.mk hb; have hs := hb.size; (try simp at hs); clear hb))
    (apply ret_one Try.results34; (conv => lhs; whnf); exact rfl)
    exact ret_ret rfl findLow
end Go.Proofs.Ytnpmdchphaenaaa
/- Contracts: the codes of a list of maps and of points, the program's and the reference's. -- maps -/
namespace Go.Proofs.Ytnpmdchphaenaaa
open Go.RowKit
set_option linter.unusedVariables false
set_option linter.unusedSimpArgs false
theorem code_if {p : Int} (hp : prB p = true) (v : Bool) : codeOf p v = if v = true then 0 else 1 := by unfold codeOf; rw [hp]; rfl
set_option maxRecDepth 20000 in
set_option maxHeartbeats 4000000 in
theorem listC1 (p : Int) (c d e : Nat) (b : Option Addr) (n k : Nat) (L : List M9) (bp : Option Addr) (np kp : Nat) (lp : List Pt) (w : World) (hp : prB p = true) (hn : n ≤ 1000000) (hnp : np ≤ 1000000) (c0 : w.cell? ⟨c, 0, none⟩ = some (.int .i64 p)) (d0 : w.cell? ⟨d, 0, none⟩ = some (.slice b n k)) (e0 : w.cell? ⟨e, 0, none⟩ = some (.slice bp np kp)) (h : ListM w b n L) (hP : ListP w bp np lp) :
    Calls Try.prog 33 #[.pointer (some ⟨c, 0, none⟩), .pointer (some ⟨d, 0, none⟩), .pointer (some ⟨e, 0, none⟩)] w (Ret w (.bool (oksM p L && ptsB p lp))) := by
  have HM := Lib.hid (mapsCode_M p b n k L w hn h)
  rw [code_if hp] at HM
  have HA := Lib.hid (fun (W : World) (l : Link w W) => arePoints_list p bp np kp lp W hnp (hP.below l.out))
  have hcl : c < w.heap.size := World.block_lt_of_cell? w _ c0
  have hel : e < w.heap.size := World.block_lt_of_cell? w _ e0
  have C0 := Lib.hid c0
  have E0 := Lib.hid e0
  rcases ho : oksM p L with _ | _
  · rw [ho] at HM
    go_enter Try.func33, Try.ntmps33
    go_wp2_with (first | (refine wl_loadM ?_) | (refine wl_load ?_) | (refine wl_fill1 ?_) | (refine wl_fill2 ?_) | (refine wl_storeM ?_) | (refine wl_makeM ?_; intro gm W' hgm hl hT; have hs := hl.out.size; (try simp at hs)) | (refine wl_store ?_) | (refine wl_build ?_) | (refine wl_slice ?_) | (refine wl_append ?_; intro v' w' ho hg hb; have hs := hg.size; (try simp at hs); (try rw [ptCs_end] at ho); (try rw [ints_end] at ho); (try simp only [Nat.zero_add, Nat.reduceAdd, List.nil_append, List.cons_append] at ho)) | (go_at_call 34; (with_reducible refine (HM.out).mono ?_); rintro e w' ⟨rfl, hb⟩; have hl := Link.mk hb; have hs := hb.size; (try simp at hs); clear hb))
    (apply ret_one Try.results33; (conv => lhs; whnf); exact rfl)
    exact ret_ret rfl findLow
  · rw [ho] at HM
    go_enter Try.func33, Try.ntmps33
    go_wp2_with (first | (refine wl_loadM ?_) | (refine wl_load ?_) | (refine wl_fill1 ?_) | (refine wl_fill2 ?_) | (refine wl_storeM ?_) | (refine wl_makeM ?_; intro gm W' hgm hl hT; have hs := hl.out.size; (try simp at hs)) | (refine wl_store ?_) | (refine wl_build ?_) | (refine wl_slice ?_) | (refine wl_append ?_; intro v' w' ho hg hb; have hs := hg.size; (try simp at hs); (try rw [ptCs_end] at ho); (try rw [ints_end] at ho); (try simp only [Nat.zero_add, Nat.reduceAdd, List.nil_append, List.cons_append] at ho)) | (go_at_call 34; (with_reducible refine (HM.out).mono ?_); rintro e w' ⟨rfl, hb⟩; have hl := Link.mk hb; have hs := hb.size; have c1 := cell_below hb C0.out; have e1 := cell_below hb E0.out; clear hb) | (go_at_call 35; (with_reducible refine (HA.out _ (LowK.lnk findLow)).mono ?_); rintro e w' ⟨rfl, hb⟩; have hl := Link.mk hb; have hs := hb.size; (try simp at hs); clear hb))
    (apply ret_one Try.results33; (conv => lhs; whnf); exact rfl)
    exact ret_ret (by simp) findLow
/-- The code of a list of at most eight maps and of points. -/
def codeML (p : Int) (n : Nat) (v : Bool) : Int := if codeOf p v = 0 ∧ 8 < n then 2 else codeOf p v
set_option maxRecDepth 20000 in
set_option maxHeartbeats 4000000 in
theorem listCode_M (p : Int) (b : Option Addr) (n k : Nat) (L : List M9) (bp : Option Addr) (np kp : Nat) (lp : List Pt) (w : World) (hn : n ≤ 1000000) (hnp : np ≤ 1000000) (h : ListM w b n L) (hP : ListP w bp np lp) :
    Calls Try.prog 15 #[.int .i64 p, .slice b n k, .slice bp np kp] w (Ret w (.int .i64 (codeML p n (oksM p L && ptsB p lp)))) := by
  rcases hp : prB p with _ | _
  · have e0 : codeML p n (oksM p L && ptsB p lp) = 2 := by simp [codeML, codeOf, hp]
    rw [e0]
    go_enter Try.func15, Try.ntmps15
    go_wp2_with (first | (refine wl_loadM ?_) | (refine wl_load ?_) | (refine wl_fill1 ?_) | (refine wl_fill2 ?_) | (refine wl_storeM ?_) | (refine wl_makeM ?_; intro gm W' hgm hl hT; have hs := hl.out.size; (try simp at hs)) | (refine wl_store ?_) | (refine wl_build ?_) | (refine wl_slice ?_) | (refine wl_append ?_; intro v' w' ho hg hb; have hs := hg.size; (try simp at hs); (try rw [ptCs_end] at ho); (try rw [ints_end] at ho); (try simp only [Nat.zero_add, Nat.reduceAdd, List.nil_append, List.cons_append] at ho)) | (go_at_call 32; (with_reducible refine (planeCode_no _ _ _ hp).mono ?_); rintro e w' ⟨rfl, rfl⟩))
    (apply ret_one Try.results15; (conv => lhs; whnf); exact rfl)
    exact ret_ret rfl findLow
  · have HF : Hid (∀ (W : World) (c d e : Nat), W.cell? ⟨c, 0, none⟩ = some (.int .i64 p) → W.cell? ⟨d, 0, none⟩ = some (.slice b n k) → W.cell? ⟨e, 0, none⟩ = some (.slice bp np kp) → LowK w W → ∀ W2, LowK W W2 → Calls Try.prog 33 #[.pointer (some ⟨c, 0, none⟩), .pointer (some ⟨d, 0, none⟩), .pointer (some ⟨e, 0, none⟩)] W2 (Ret W2 (.bool (oksM p L && ptsB p lp)))) :=
      Lib.hid (fun W c d e hc hd he hV W2 hV2 => by
        have hl2 := LowK.lnk (LowK.link (LowK.lnk hV2) hV)
        exact listC1 p c d e b n k L bp np kp lp W2 hp hn hnp (cell_below hV2.out hc) (cell_below hV2.out hd) (cell_below hV2.out he) (h.link hl2) (hP.below hl2.out))
    have e0 : codeML p n (oksM p L && ptsB p lp) = if codeOf p (oksM p L && ptsB p lp) = 0 ∧ 8 < n then 2 else codeOf p (oksM p L && ptsB p lp) := rfl
    rw [e0]
    generalize (oksM p L && ptsB p lp) = v at *
    rw [code_if hp]
    have HPf := Lib.hid (fun (caps : Array Value) (w : World) (Hf : ∀ W, LowK w W → Calls Try.prog 33 caps W (Ret W (.bool v))) => by have := planeCode_list p caps v w hp Hf; rw [code_if hp] at this; exact this)
    rcases v with _ | _
    · rw [show (if (if false = true then (0 : Int) else 1) = 0 ∧ 8 < n then (2 : Int) else (if false = true then 0 else 1)) = 1 by simp]
      have HQ := Lib.hid (fun (caps : Array Value) (w : World) Hf => (show Calls Try.prog 32 #[.int .i64 p, .func (.func 33) #[] caps] w (Ret w (.int .i64 1)) from HPf.out caps w Hf))
      go_enter Try.func15, Try.ntmps15
      go_wp2_with (first | (refine wl_loadM ?_) | (refine wl_load ?_) | (refine wl_fill1 ?_) | (refine wl_fill2 ?_) | (refine wl_storeM ?_) | (refine wl_makeM ?_; intro gm W' hgm hl hT; have hs := hl.out.size; (try simp at hs)) | (refine wl_store ?_) | (refine wl_build ?_) | (refine wl_slice ?_) | (refine wl_append ?_; intro v' w' ho hg hb; have hs := hg.size; (try simp at hs); (try rw [ptCs_end] at ho); (try rw [ints_end] at ho); (try simp only [Nat.zero_add, Nat.reduceAdd, List.nil_append, List.cons_append] at ho)) | (go_at_call 32; (with_reducible refine (HQ.out _ _ (HF.out _ _ _ _ (by simp [go_sem]) (by simp [go_sem]) (by simp [go_sem]) findLow)).mono ?_); rintro e w' ⟨rfl, hb⟩; have hl := Link.mk hb; have hs := hb.size; (try simp at hs); clear hb))
      (apply ret_one Try.results15; (conv => lhs; whnf); exact rfl)
      exact ret_ret rfl findLow
    · have HQ := Lib.hid (fun (caps : Array Value) (w : World) Hf => (show Calls Try.prog 32 #[.int .i64 p, .func (.func 33) #[] caps] w (Ret w (.int .i64 0)) from HPf.out caps w Hf))
      by_cases h8 : 8 < n
      · rw [show (if (if true = true then (0 : Int) else 1) = 0 ∧ 8 < n then (2 : Int) else (if true = true then 0 else 1)) = 2 by simp [h8]]
        go_enter Try.func15, Try.ntmps15
        go_wp2_with (first | (refine wl_loadM ?_) | (refine wl_load ?_) | (refine wl_fill1 ?_) | (refine wl_fill2 ?_) | (refine wl_storeM ?_) | (refine wl_makeM ?_; intro gm W' hgm hl hT; have hs := hl.out.size; (try simp at hs)) | (refine wl_store ?_) | (refine wl_build ?_) | (refine wl_slice ?_) | (refine wl_append ?_; intro v' w' ho hg hb; have hs := hg.size; (try simp at hs); (try rw [ptCs_end] at ho); (try rw [ints_end] at ho); (try simp only [Nat.zero_add, Nat.reduceAdd, List.nil_append, List.cons_append] at ho)) | (go_at_call 32; (with_reducible refine (HQ.out _ _ (HF.out _ _ _ _ (by simp [go_sem]) (by simp [go_sem]) (by simp [go_sem]) findLow)).mono ?_); rintro e w' ⟨rfl, hb⟩; have hl := Link.mk hb; have hs := hb.size; (try simp at hs); have m1 : w'.cell? ⟨w.heap.size + 1, 0, none⟩ = some (.slice b n k) := cell_below hb (by simp [go_sem])))
        (apply ret_one Try.results15; (conv => lhs; whnf); exact rfl)
        exact ret_ret rfl findLow
      · rw [show (if (if true = true then (0 : Int) else 1) = 0 ∧ 8 < n then (2 : Int) else (if true = true then 0 else 1)) = 0 by simp [h8]]
        go_enter Try.func15, Try.ntmps15
        go_wp2_with (first | (refine wl_loadM ?_) | (refine wl_load ?_) | (refine wl_fill1 ?_) | (refine wl_fill2 ?_) | (refine wl_storeM ?_) | (refine wl_makeM ?_; intro gm W' hgm hl hT; have hs := hl.out.size; (try simp at hs)) | (refine wl_store ?_) | (refine wl_build ?_) | (refine wl_slice ?_) | (refine wl_append ?_; intro v' w' ho hg hb; have hs := hg.size; (try simp at hs); (try rw [ptCs_end] at ho); (try rw [ints_end] at ho); (try simp only [Nat.zero_add, Nat.reduceAdd, List.nil_append, List.cons_append] at ho)) | (go_at_call 32; (with_reducible refine (HQ.out _ _ (HF.out _ _ _ _ (by simp [go_sem]) (by simp [go_sem]) (by simp [go_sem]) findLow)).mono ?_); rintro e w' ⟨rfl, hb⟩; have hl := Link.mk hb; have hs := hb.size; (try simp at hs); have m1 : w'.cell? ⟨w.heap.size + 1, 0, none⟩ = some (.slice b n k) := cell_below hb (by simp [go_sem])))
        (apply ret_one Try.results15; (conv => lhs; whnf); exact rfl)
        exact ret_ret rfl findLow
end Go.Proofs.Ytnpmdchphaenaaa
/- Contracts: the reference's codes of a list of maps and of points. -- maps -/
namespace Go.Proofs.Ytnpmdchphaenaaa
open Go.RowKit
set_option linter.unusedVariables false
set_option linter.unusedSimpArgs false
set_option maxRecDepth 20000 in
set_option maxHeartbeats 4000000 in
theorem l02Code_M (p : Int) (b : Option Addr) (n k : Nat) (L : List M9) (w : World) (hn : n ≤ 1000000) (h : ListM w b n L) :
    Calls Try.prog 38 #[.int .i64 p, .slice b n k] w (Ret w (.int .i64 (codeOf p (oksM p L)))) := by
  rcases hp : prB p with _ | _
  · have e0 : codeOf p (oksM p L) = 2 := by simp [codeOf, hp]
    rw [e0]
    go_enter Try.func38, Try.ntmps38
    go_wp2_with (first | (refine wl_loadM ?_) | (refine wl_load ?_) | (refine wl_fill1 ?_) | (refine wl_fill2 ?_) | (refine wl_storeM ?_) | (refine wl_makeM ?_; intro gm W' hgm hl hT; have hs := hl.out.size; (try simp at hs)) | (refine wl_store ?_) | (refine wl_build ?_) | (refine wl_slice ?_) | (refine wl_append ?_; intro v' w' ho hg hb; have hs := hg.size; (try simp at hs); (try rw [ptCs_end] at ho); (try rw [ints_end] at ho); (try simp only [Nat.zero_add, Nat.reduceAdd, List.nil_append, List.cons_append] at ho)) | (go_at_call 49; (with_reducible refine (l01Prime_no _ _ hp).mono ?_); rintro e w' ⟨rfl, rfl⟩))
    (apply ret_one Try.results38; (conv => lhs; whnf); exact rfl)
    exact ret_ret rfl findLow
  · rw [code_if hp]
    obtain ⟨hL, hM⟩ := h.out
    obtain ⟨v, hv⟩ : ∃ v, (if oksM p L = true then (0 : Int) else 1) = v := ⟨_, rfl⟩
    rw [hv]
    have HV := Lib.hid hv
    clear hv
    go_enter Try.func38, Try.ntmps38
    go_wp2_with (first | (refine wl_loadM ?_) | (refine wl_load ?_) | (refine wl_fill1 ?_) | (refine wl_fill2 ?_) | (refine wl_storeM ?_) | (refine wl_makeM ?_; intro gm W' hgm hl hT; have hs := hl.out.size; (try simp at hs)) | (refine wl_store ?_) | (refine wl_build ?_) | (refine wl_slice ?_) | (refine wl_append ?_; intro v' w' ho hg hb; have hs := hg.size; (try simp at hs); (try rw [ptCs_end] at ho); (try rw [ints_end] at ho); (try simp only [Nat.zero_add, Nat.reduceAdd, List.nil_append, List.cons_append] at ho)) | (go_at_call 49; (with_reducible refine (l01Prime_yes _ _ hp).mono ?_); rintro e w' ⟨rfl, rfl⟩))
    go_loopw [5] (fun i wr => ∃ k : Nat, k ≤ n ∧ i = .int .i64 (k : Int) ∧ LowK w wr ∧ ∀ j, j < k → okM p (L.getD j m0) = true) (fun i _ => n - (intOf i).toNat)
    case atStart => exact ⟨0, Nat.zero_le _, rfl, findLow, fun j hj => absurd hj (Nat.not_lt_zero _)⟩
    case round =>
      obtain ⟨i, hi, rfl, hV, hJ⟩ := hrel
      by_cases hlt : i < n
      · obtain ⟨g, off, rfl, hS⟩ := hM (by omega)
        have r1 := (hS.at_ hlt).viaLow hV
        obtain ⟨x, hx⟩ : ∃ x, L.getD i m0 = x := ⟨_, rfl⟩
        rw [hx] at r1
        have HX := Lib.hid (fun W => l02Is_M p x W)
        rcases ho : okM p x with _ | _
        · rw [ho] at HX
          go_wp2_with (first | (refine wl_loadM ?_) | (refine wl_load ?_) | (refine wl_fill1 ?_) | (refine wl_fill2 ?_) | (refine wl_storeM ?_) | (refine wl_makeM ?_; intro gm W' hgm hl hT; have hs := hl.out.size; (try simp at hs)) | (refine wl_store ?_) | (refine wl_build ?_) | (refine wl_slice ?_) | (refine wl_append ?_; intro v' w' ho hg hb; have hs := hg.size; (try simp at hs); (try rw [ptCs_end] at ho); (try rw [ints_end] at ho); (try simp only [Nat.zero_add, Nat.reduceAdd, List.nil_append, List.cons_append] at ho)) | (go_at_call 60; (with_reducible refine (HX.out _).mono ?_); rintro e w' ⟨rfl, hb⟩; have hl := Link.mk hb; have hs := hb.size; (try simp at hs); clear hb))
          have hv1 : oksM p L = false := by
            rcases ha : oksM p L with _ | _
            · rfl
            · have := List.all_eq_true.1 ha x (by rw [← hx, List.getD_eq_getElem?_getD, List.getElem?_eq_getElem (by omega)]; exact List.getElem_mem _)
              rw [ho] at this; cases this
          obtain rfl : v = 1 := by have := HV.out; rw [hv1] at this; simpa using this.symm
          (apply ret_one Try.results38; (conv => lhs; whnf); exact rfl)
          exact ret_ret rfl findLow
        · rw [ho] at HX
          go_wp2_with (first | (refine wl_loadM ?_) | (refine wl_load ?_) | (refine wl_fill1 ?_) | (refine wl_fill2 ?_) | (refine wl_storeM ?_) | (refine wl_makeM ?_; intro gm W' hgm hl hT; have hs := hl.out.size; (try simp at hs)) | (refine wl_store ?_) | (refine wl_build ?_) | (refine wl_slice ?_) | (refine wl_append ?_; intro v' w' ho hg hb; have hs := hg.size; (try simp at hs); (try rw [ptCs_end] at ho); (try rw [ints_end] at ho); (try simp only [Nat.zero_add, Nat.reduceAdd, List.nil_append, List.cons_append] at ho)) | (go_at_call 60; (with_reducible refine (HX.out _).mono ?_); rintro e w' ⟨rfl, hb⟩; have hl := Link.mk hb; have hs := hb.size; (try simp at hs); clear hb))
          go_roundw
          case rel => exact ⟨i + 1, by omega, by go_num, findLow, fun j hj => by
            rcases Nat.lt_or_ge j i with e | e
            · exact hJ j e
            · obtain rfl : j = i := by omega
              rw [hx]; exact ho⟩
          case measure => (simp [intOf]; try omega)
      · have hin : n ≤ i := by omega
        go_wp2_with (first | (refine wl_loadM ?_) | (refine wl_load ?_) | (refine wl_fill1 ?_) | (refine wl_fill2 ?_) | (refine wl_storeM ?_) | (refine wl_makeM ?_; intro gm W' hgm hl hT; have hs := hl.out.size; (try simp at hs)) | (refine wl_store ?_) | (refine wl_build ?_) | (refine wl_slice ?_) | (refine wl_append ?_; intro v' w' ho hg hb; have hs := hg.size; (try simp at hs); (try rw [ptCs_end] at ho); (try rw [ints_end] at ho); (try simp only [Nat.zero_add, Nat.reduceAdd, List.nil_append, List.cons_append] at ho)))
        have hv1 : oksM p L = true := List.all_eq_true.2 (fun x hx => by
          obtain ⟨j, hj, rfl⟩ := List.mem_iff_getElem.1 hx
          have := hJ j (by omega)
          rwa [List.getD_eq_getElem?_getD, List.getElem?_eq_getElem hj] at this)
        obtain rfl : v = 0 := by have := HV.out; rw [hv1] at this; simpa using this.symm
        (apply ret_one Try.results38; (conv => lhs; whnf); exact rfl)
        exact ret_ret rfl findLow
theorem l01Code_nilM (p : Int) (w : World) : Calls Try.prog 39 #[.int .i64 p, .slice none 0 0] w (Ret w (.int .i64 (codeOf p true))) := by
  rcases hp : prB p with _ | _
  · go_enter Try.func39, Try.ntmps39
    go_wp2_with (first | (refine wl_loadM ?_) | (refine wl_load ?_) | (refine wl_fill1 ?_) | (refine wl_fill2 ?_) | (refine wl_storeM ?_) | (refine wl_makeM ?_; intro gm W' hgm hl hT; have hs := hl.out.size; (try simp at hs)) | (refine wl_store ?_) | (refine wl_build ?_) | (refine wl_slice ?_) | (refine wl_append ?_; intro v' w' ho hg hb; have hs := hg.size; (try simp at hs); (try rw [ptCs_end] at ho); (try rw [ints_end] at ho); (try simp only [Nat.zero_add, Nat.reduceAdd, List.nil_append, List.cons_append] at ho)) | (go_at_call 49; (with_reducible refine (l01Prime_no _ _ hp).mono ?_); rintro e w' ⟨rfl, rfl⟩))
    (apply ret_one Try.results39; (conv => lhs; whnf); exact rfl)
    exact ret_ret (by simp [codeOf, hp]) findLow
  · go_enter Try.func39, Try.ntmps39
    go_wp2_with (first | (refine wl_loadM ?_) | (refine wl_load ?_) | (refine wl_fill1 ?_) | (refine wl_fill2 ?_) | (refine wl_storeM ?_) | (refine wl_makeM ?_; intro gm W' hgm hl hT; have hs := hl.out.size; (try simp at hs)) | (refine wl_store ?_) | (refine wl_build ?_) | (refine wl_slice ?_) | (refine wl_append ?_; intro v' w' ho hg hb; have hs := hg.size; (try simp at hs); (try rw [ptCs_end] at ho); (try rw [ints_end] at ho); (try simp only [Nat.zero_add, Nat.reduceAdd, List.nil_append, List.cons_append] at ho)) | (go_at_call 49; (with_reducible refine (l01Prime_yes _ _ hp).mono ?_); rintro e w' ⟨rfl, rfl⟩))
    refine wp_loop_rounds 1 ?_
    rw [rounds_succ]
    go_wp2_with (first | (refine wl_loadM ?_) | (refine wl_load ?_) | (refine wl_fill1 ?_) | (refine wl_fill2 ?_) | (refine wl_storeM ?_) | (refine wl_makeM ?_; intro gm W' hgm hl hT; have hs := hl.out.size; (try simp at hs)) | (refine wl_store ?_) | (refine wl_build ?_) | (refine wl_slice ?_) | (refine wl_append ?_; intro v' w' ho hg hb; have hs := hg.size; (try simp at hs); (try rw [ptCs_end] at ho); (try rw [ints_end] at ho); (try simp only [Nat.zero_add, Nat.reduceAdd, List.nil_append, List.cons_append] at ho)))
    (apply ret_one Try.results39; (conv => lhs; whnf); exact rfl)
    exact ret_ret (by simp [codeOf, hp]) findLow
/-- A list of points, nil or in a block. -/
def PtsN (W : World) (b : Option Addr) (n k : Nat) (l : List Pt) : Prop := (b = none ∧ n = 0 ∧ k = 0 ∧ l = []) ∨ ∃ g, b = some ⟨g, 0, none⟩ ∧ l.length = n ∧ PtsK W g 0 n l
theorem l01Code_N (p : Int) (b : Option Addr) (n k : Nat) (l : List Pt) (w : World) (hn : n ≤ 1000000) (h : PtsN w b n k l) : Calls Try.prog 39 #[.int .i64 p, .slice b n k] w (Ret w (.int .i64 (codeOf p (ptsB p l)))) := by
  rcases h with ⟨rfl, rfl, rfl, rfl⟩ | ⟨g, rfl, hl, hP⟩
  · exact l01Code_nilM p w
  · exact l01Code_any p g 0 n k l w hl (by omega) hP.out
set_option maxRecDepth 20000 in
set_option maxHeartbeats 4000000 in
theorem l10Maps_M (p : Int) (b : Option Addr) (n k : Nat) (L : List M9) (bp : Option Addr) (np kp : Nat) (lp : List Pt) (w : World) (hn : n ≤ 1000000) (hnp : np ≤ 1000000) (h : ListM w b n L) (hP : ∀ W, Link w W → PtsN W bp np kp lp) :
    Calls Try.prog 17 #[.int .i64 p, .slice b n k, .slice bp np kp] w (Ret w (.int .i64 (codeML p n (oksM p L && ptsB p lp)))) := by
  have H2 := Lib.hid (fun (W : World) (l : Link w W) => l02Code_M p b n k L W hn (h.link l))
  have H1 := Lib.hid (fun (W : World) (l : Link w W) => l01Code_N p bp np kp lp W hnp (hP W l))
  obtain ⟨r, hr⟩ : ∃ r, codeML p n (oksM p L && ptsB p lp) = r := ⟨_, rfl⟩
  rw [hr]
  have HR := Lib.hid hr
  obtain ⟨c2, hc2⟩ : ∃ c, codeOf p (oksM p L) = c := ⟨_, rfl⟩
  obtain ⟨c1, hc1⟩ : ∃ c, codeOf p (ptsB p lp) = c := ⟨_, rfl⟩
  rw [hc2] at H2
  rw [hc1] at H1
  have K : Hid ((¬ c2 = 0 → r = c2) ∧ (c2 = 0 → ¬ c1 = 0 → r = c1) ∧ (c2 = 0 → c1 = 0 → 8 < n → r = 2) ∧ (c2 = 0 → c1 = 0 → ¬ 8 < n → r = 0)) := Lib.hid (by
    subst hc1 hc2 hr
    unfold codeML codeOf
    rcases prB p with _ | _ <;> rcases oksM p L with _ | _ <;> rcases ptsB p lp with _ | _ <;> by_cases h8 : 8 < n <;> simp [h8])
  clear hr hc1 hc2
  obtain ⟨k1, k2, k3, k4⟩ := K.out
  by_cases h0 : c2 = 0
  · by_cases h1 : c1 = 0
    · by_cases h8 : 8 < n
      · obtain rfl := k3 h0 h1 h8
        go_enter Try.func17, Try.ntmps17
        go_wp2_with (first | (refine wl_loadM ?_) | (refine wl_load ?_) | (refine wl_fill1 ?_) | (refine wl_fill2 ?_) | (refine wl_storeM ?_) | (refine wl_makeM ?_; intro gm W' hgm hl hT; have hs := hl.out.size; (try simp at hs)) | (refine wl_store ?_) | (refine wl_build ?_) | (refine wl_slice ?_) | (refine wl_append ?_; intro v' w' ho hg hb; have hs := hg.size; (try simp at hs); (try rw [ptCs_end] at ho); (try rw [ints_end] at ho); (try simp only [Nat.zero_add, Nat.reduceAdd, List.nil_append, List.cons_append] at ho)) | (go_at_call 38; (with_reducible refine (H2.out _ (LowK.lnk findLow)).mono ?_); rintro e w' ⟨rfl, hb⟩; have hl := Link.mk hb; have hs := hb.size; (try simp at hs); clear hb) | (go_at_call 39; (with_reducible refine (H1.out _ (LowK.lnk findLow)).mono ?_); rintro e w' ⟨rfl, hb⟩; have hl := Link.mk hb; have hs := hb.size; (try simp at hs); clear hb))
        (apply ret_one Try.results17; (conv => lhs; whnf); exact rfl)
        exact ret_ret rfl findLow
      · obtain rfl := k4 h0 h1 h8
        go_enter Try.func17, Try.ntmps17
        go_wp2_with (first | (refine wl_loadM ?_) | (refine wl_load ?_) | (refine wl_fill1 ?_) | (refine wl_fill2 ?_) | (refine wl_storeM ?_) | (refine wl_makeM ?_; intro gm W' hgm hl hT; have hs := hl.out.size; (try simp at hs)) | (refine wl_store ?_) | (refine wl_build ?_) | (refine wl_slice ?_) | (refine wl_append ?_; intro v' w' ho hg hb; have hs := hg.size; (try simp at hs); (try rw [ptCs_end] at ho); (try rw [ints_end] at ho); (try simp only [Nat.zero_add, Nat.reduceAdd, List.nil_append, List.cons_append] at ho)) | (go_at_call 38; (with_reducible refine (H2.out _ (LowK.lnk findLow)).mono ?_); rintro e w' ⟨rfl, hb⟩; have hl := Link.mk hb; have hs := hb.size; (try simp at hs); clear hb) | (go_at_call 39; (with_reducible refine (H1.out _ (LowK.lnk findLow)).mono ?_); rintro e w' ⟨rfl, hb⟩; have hl := Link.mk hb; have hs := hb.size; (try simp at hs); clear hb))
        (apply ret_one Try.results17; (conv => lhs; whnf); exact rfl)
        exact ret_ret (by first | rfl | (rw [h1])) findLow
    · obtain rfl := k2 h0 h1
      go_enter Try.func17, Try.ntmps17
      go_wp2_with (first | (refine wl_loadM ?_) | (refine wl_load ?_) | (refine wl_fill1 ?_) | (refine wl_fill2 ?_) | (refine wl_storeM ?_) | (refine wl_makeM ?_; intro gm W' hgm hl hT; have hs := hl.out.size; (try simp at hs)) | (refine wl_store ?_) | (refine wl_build ?_) | (refine wl_slice ?_) | (refine wl_append ?_; intro v' w' ho hg hb; have hs := hg.size; (try simp at hs); (try rw [ptCs_end] at ho); (try rw [ints_end] at ho); (try simp only [Nat.zero_add, Nat.reduceAdd, List.nil_append, List.cons_append] at ho)) | (go_at_call 38; (with_reducible refine (H2.out _ (LowK.lnk findLow)).mono ?_); rintro e w' ⟨rfl, hb⟩; have hl := Link.mk hb; have hs := hb.size; (try simp at hs); clear hb) | (go_at_call 39; (with_reducible refine (H1.out _ (LowK.lnk findLow)).mono ?_); rintro e w' ⟨rfl, hb⟩; have hl := Link.mk hb; have hs := hb.size; (try simp at hs); clear hb))
      (apply ret_one Try.results17; (conv => lhs; whnf); exact rfl)
      exact ret_ret rfl findLow
  · obtain rfl := k1 h0
    go_enter Try.func17, Try.ntmps17
    go_wp2_with (first | (refine wl_loadM ?_) | (refine wl_load ?_) | (refine wl_fill1 ?_) | (refine wl_fill2 ?_) | (refine wl_storeM ?_) | (refine wl_makeM ?_; intro gm W' hgm hl hT; have hs := hl.out.size; (try simp at hs)) | (refine wl_store ?_) | (refine wl_build ?_) | (refine wl_slice ?_) | (refine wl_append ?_; intro v' w' ho hg hb; have hs := hg.size; (try simp at hs); (try rw [ptCs_end] at ho); (try rw [ints_end] at ho); (try simp only [Nat.zero_add, Nat.reduceAdd, List.nil_append, List.cons_append] at ho)) | (go_at_call 38; (with_reducible refine (H2.out _ (LowK.lnk findLow)).mono ?_); rintro e w' ⟨rfl, hb⟩; have hl := Link.mk hb; have hs := hb.size; (try simp at hs); clear hb))
    (apply ret_one Try.results17; (conv => lhs; whnf); exact rfl)
    exact ret_ret rfl findLow
end Go.Proofs.Ytnpmdchphaenaaa
/- A region that draws its order, by an invariant: what is known when so many operations are done, whichever they are. -/
namespace Go.Proofs.Ytnpmdchphaenaaa
open Go.RowKit
set_option linter.unusedVariables false
set_option linter.unusedSimpArgs false
/-- What stands behind one operation. -/
structure InvEnd (o : Oper) (a : Act) (X : Act → World → Prop) (e : Exit) (a' : Act) (W' : World) : Prop where
  e1 : e = .normal
  pv : ∃ v, a' = a.put o.dst v
  nx : X a' W'
def ordB (l : List Oper) : Bool := (List.range l.length).all fun i => match l[i]? with
  | none => true
  | some o => o.after.all fun e => !Region.binds .any e || e.on < i
theorem ordB_at {l : List Oper} (h : ordB l = true) {i : Nat} {o : Oper} (hi : l[i]? = some o) : ∀ e ∈ o.after, Region.binds .any e = true → e.on < i := by
  unfold ordB at h
  have hlt : i < l.length := (List.getElem?_eq_some_iff.1 hi).1
  have h1 := List.all_eq_true.1 h i (List.mem_range.2 hlt)
  rw [hi] at h1
  intro e he hb
  have := (Array.all_eq_true_iff_forall_mem.1 h1) e he
  simpa [hb] using this
theorem region_inv {P : Program} {Q : Exit → Act → World → Prop} {l : List Oper} {a0 : Act} {w : World} {id : Nat} (F : Array Bool → Act → World → Prop) (hm : P.follows .mixedOrders = true) (hord : ordB l = true)
    (h0 : F (Array.replicate l.length false) a0 { w with drawn := w.drawn + 1 })
    (step : ∀ (S : Array Bool) (a : Act) (W : World) (i : Nat) (o : Oper), F S a W → S.size = l.length → l[i]? = some o → S.getD i false = false → (∀ e ∈ o.after, Region.binds .any e = true → S.getD e.on false = true) →
      wpList P l.toArray (fun e a' W' => InvEnd o a (F (S.setIfInBounds i true)) e a' W') [o] a W)
    (fin : ∀ (S : Array Bool) (a : Act) (W : World), F S a W → (∀ i, i < l.length → S.getD i false = true) → Q .normal a W) : (Code.region id l.toArray true).wp P Q a0 w := by
  refine wp_region_any hm ?_
  have key : ∀ (fuel : Nat) (S : Array Bool) (a : Act) (W : World), F S a W → S.size = l.length → (List.range l.length).countP (fun i => !S.getD i true) ≤ fuel → wpAny P .any l.toArray Q fuel S a W := by
    intro fuel
    induction fuel with
    | zero =>
      intro S a W hF hS hc
      have hall : ∀ i, i < l.length → S.getD i false = true := fun i hi => by
        have h0 : (List.range l.length).countP (fun i => !S.getD i true) = 0 := by omega
        rw [List.countP_eq_zero] at h0
        have := h0 i (List.mem_range.2 hi)
        have hi' : i < S.size := by rw [hS]; exact hi
        simpa [hi'] using this
      refine ⟨?_, fin S a W hF hall⟩
      rw [List.eq_nil_iff_forall_not_mem]
      intro k hk
      obtain ⟨o, _, hkl, hk0, _⟩ := ready_mem hk hS
      have := hall k hkl
      have hk' : k < S.size := by rw [hS]; exact hkl
      simp [hk'] at hk0 this
      rw [this] at hk0; cases hk0
    | succ fuel ih =>
      intro S a W hF hS hc
      refine ⟨fun hr0 => ?_, fun i hi => ?_⟩
      · refine fin S a W hF ?_
        intro i
        induction i using Nat.strongRecOn with
        | _ i ih2 =>
          intro hi
          cases hb : S.getD i false with
          | true => rfl
          | false =>
            exfalso
            have ho : l[i]? = some l[i] := List.getElem?_eq_getElem hi
            have hmem : i ∈ Region.ready .any l.toArray S := by
              rw [mem_ready]
              refine ⟨?_, l[i], by simp, fun e he hbd => ?_⟩
              · have : i < S.size := by omega
                simp [this] at hb ⊢; exact hb
              · exact ih2 e.on (ordB_at hord ho e he hbd) (by have := ordB_at hord ho e he hbd; omega)
            rw [hr0] at hmem; cases hmem
      · obtain ⟨o, hio, hil, hi0, hal⟩ := ready_mem hi hS
        have hil' : i < S.size := by rw [hS]; exact hil
        have ho : l.toArray[i]? = some o := by simpa using hio
        have hi0f : S.getD i false = false := by simpa [hil'] using hi0
        have hcnt : (List.range l.length).countP (fun j => !(S.setIfInBounds i true).getD j true) ≤ fuel := by
          have := count_lt (fun j => !S.getD j true) (fun j => !(S.setIfInBounds i true).getD j true) (fun j hj => by
              by_cases e : i = j
              · subst e; simp [hil'] at hj
              · rw [getD_set_ne true e] at hj; exact hj) i (by simpa [hil'] using hi0) (by simp [hil']) (List.range l.length) (List.mem_range.2 hil)
          omega
        have hone := step S a W i o hF hS hio hi0f hal
        unfold wpList at hone
        unfold wpOp
        simp only [ho]
        by_cases hw : Region.wanted o (yielded l.toArray a.tmps) = true
        · rw [if_pos hw] at hone
          rw [if_pos hw]
          have hwp := hone.resolve_right (fun ⟨_, a1, w1, h1⟩ => by cases h1.1)
          refine .inl (Oper.wp_mono (fun a' W' h => ?_) (wp_other (Q := Q) rfl (fun e a w h => h.e1) (fun a' w' h => h.pv) hwp))
          obtain ⟨v, rfl, h2⟩ := h
          exact ih _ _ _ h2.nx (by simpa using hS) hcnt
        · rw [if_neg hw] at hone
          rw [if_neg hw]
          exact ih _ _ _ hone.nx (by simpa using hS) hcnt
  refine key _ _ _ _ h0 (by simp) ?_
  have : (List.range l.length).countP (fun i => !(Array.replicate l.length false).getD i true) ≤ l.length := Nat.le_trans List.countP_le_length (by simp)
  simpa using this
end Go.Proofs.Ytnpmdchphaenaaa
/- Walks over Go maps keyed by maps: the operations. -- maps -/
namespace Go.Proofs.Ytnpmdchphaenaaa
open Go.RowKit
set_option linter.unusedVariables false
set_option linter.unusedSimpArgs false
/-- The world is the same but for one block. -/
structure TurnK (g : Nat) (w W : World) : Prop where
  out : W.heap.size = w.heap.size ∧ (∀ b, b ≠ g → W.heap[b]? = w.heap[b]?) ∧ W.os = w.os ∧ W.tape = w.tape ∧ W.output = w.output
theorem LowK.turn {w0 w W : World} {g : Nat} (t : TurnK g w W) (hg : w0.heap.size ≤ g) (h : LowK w0 w) : LowK w0 W := by
  obtain ⟨h1, h2, h3, h4, h5⟩ := t.out
  exact ⟨⟨h3.trans h.out.os, h4.trans h.out.tape, h5.trans h.out.output, by rw [h1]; exact h.out.size, fun k hk => (h2 k (by omega)).trans (h.out.block k hk)⟩⟩
theorem OwnK.turn {w W : World} {g B n sz : Nat} {T : TypeId} {v : Value} {xs : List Value} {L : List M9} (t : TurnK g w W) (hM : GoMapK w g L) (h : OwnK w B T sz v n xs) : OwnK W B T sz v n xs := by
  refine ⟨own_same h.out fun b hb => t.out.2.1 b (fun e => ?_)⟩
  subst e
  obtain ⟨es, cl, h1, -⟩ := hM.out
  rcases h.out.2 with ⟨rfl, _⟩ | ⟨g2, cap, cur, rfl, _, h2, _⟩
  · simp [Value.ownBlock] at hb
  · simp [Value.ownBlock] at hb
    subst hb
    rw [h1] at h2; cases h2
theorem RowK.turn {w W : World} {g b : Nat} {cs : Array Value} {T : TypeId} {L : List M9} (t : TurnK g w W) (hM : GoMapK w g L) (h : RowK w b cs T) : RowK W b cs T := by
  refine ⟨(t.out.2.1 b (fun e => ?_)).trans h.out⟩
  subst e
  obtain ⟨es, cl, h1, -⟩ := hM.out
  have h2 := h.out
  rw [h1] at h2; cases h2
theorem GoMapK.alloc {W : World} {g : Nat} {L : List M9} (h : GoMapK W g L) (ob : Obj) : GoMapK (W.alloc ob) g L := h.blk ((bal (Below.refl _ _) ob : Below W.heap.size W (W.alloc ob)).block _ h.lt)
theorem GoMapK.new (W : World) : GoMapK (W.alloc (.map #[] 0)) W.heap.size [] := ⟨#[], 0, heap_alloc_new _ _, rfl, by simp⟩
theorem GoMapK.set {W : World} {g b : Nat} {U : Array Value} {L : List M9} (h : GoMapK W g L) (hne : g ≠ b) : GoMapK (W.setRow b U) g L := h.blk (setRow_other _ _ _ _ hne)
theorem GoMapK.grew {w W : World} {u : Value} {g B n sz : Nat} {T : TypeId} {xs : List Value} {L : List M9} (hg : Grew w u W) (hO : OwnK w B T sz u n xs) (h : GoMapK w g L) : GoMapK W g L := by
  refine h.blk (hg.out.block g h.lt (fun e => ?_))
  obtain ⟨es, cl, h1, -⟩ := h.out
  rcases hO.out.2 with ⟨rfl, _⟩ | ⟨g2, cap, cur, rfl, _, h2, _⟩
  · simp [Value.ownBlock] at e
  · simp [Value.ownBlock] at e
    subst e
    rw [h1] at h2; cases h2
section
variable {ops : Array Oper} {rest : List Oper} {o : Oper} {a : Act} {w : World} {Q : Exit → Act → World → Prop} {x y z : Operand} {g : Nat} {L : List M9} {t : M9}
theorem wl_mapNew (h : wpList Try.prog ops Q rest (a.put o.dst (.map (some w.heap.size))) (w.alloc (.map #[] 0))) (hgd : o.guard = none := by exact rfl) (ho : o.op = .makeMap 49 none := by exact rfl) : wpList Try.prog ops Q (o :: rest) a w := by
  refine wpList_plain hgd fun K hK' => ?_
  unfold Oper.wp execOp
  simp only [ho, Option.map_none, Sem.run_bind, run_makeMap, Result.andThen_ok]
  exact hK' _ _ h
theorem wl_mapLook (v : Bool) (h : wpList Try.prog ops Q rest (a.put o.dst (.bool v)) w) (hgd : o.guard = none := by exact rfl) (ho : o.op = .lookup 49 x y false := by exact rfl) (hx : a.eval x = .map (some g) := by exact rfl) (hy : a.eval y = mV t := by exact rfl)
    (hM : GoMapK w g L) (hv : decide (t ∈ L) = v) : wpList Try.prog ops Q (o :: rest) a w := by
  refine wpList_plain hgd fun K hK' => ?_
  unfold Oper.wp execOp
  simp only [ho, hx, hy, Sem.run_bind, lookup_M g L t w hM, Result.andThen_ok, hv]
  exact hK' _ _ h
theorem wl_mapUpd (h : ∀ W', GoMapK W' g (L ++ [t]) → TurnK g w W' → wpList Try.prog ops Q rest a W') (hM : GoMapK w g L) (ht : t ∉ L) (hgd : o.guard = none := by exact rfl) (ho : o.op = .mapUpdate 49 x y z ∨ o.op = .insert 49 x y z) (hd : o.dst = none := by exact rfl)
    (hx : a.eval x = .map (some g) := by exact rfl) (hy : a.eval y = mV t := by exact rfl) (hz : a.eval z = .bool true := by exact rfl) : wpList Try.prog ops Q (o :: rest) a w := by
  obtain ⟨W', hr, h1, h2, h3, h4, h5, h6⟩ := mapUpdate_M g L t w hM ht
  refine wpList_plain hgd fun K hK' => ?_
  have hK := hK' _ _ (h W' h1 ⟨h2, h3, h4, h5, h6⟩)
  unfold Oper.wp execOp
  rcases ho with ho | ho
  · simp only [ho, hx, hy, hz, Sem.run_bind, hr, Result.andThen_ok]
    simp only [Oper.upon, Sem.run_pure, hd]
    exact hK
  · simp only [ho, hx, hy, hz, Sem.run_bind, hr, Result.andThen_ok]
    simp only [Oper.upon, Sem.run_pure, hd]
    exact hK
end
theorem unit_M (w : World) : Calls Try.prog 22 #[] w (Ret w (mV oneM)) := unit_impl w
theorem unit_S (w : World) : Calls Try.prog 24 #[] w (Ret w (mV oneM)) := unit_spec w
theorem times_M {p : Int} {x y z : M9} (w : World) (hz : timesM p x y = z) (hp : prB p = true) (hx : InM x) (hy : InM y) : Calls Try.prog 23 #[.int .i64 p, mV x, mV y] w (Ret w (mV z)) := by rw [← hz]; exact times_any p x y w hp hx hy
theorem times_S {p : Int} {x y z : M9} (w : World) (hz : timesM p x y = z) (hp : prB p = true) (hx : InM x) (hy : InM y) : Calls Try.prog 25 #[.int .i64 p, mV x, mV y] w (Ret w (mV z)) := by rw [← hz]; exact l02Times_any p x y w hp hx hy
theorem with_act {P : Program} {C : Code} {Q : Exit → Act → World → Prop} {a : Act} {w : World} (h : ∀ a0, a0 = a → C.wp P Q a0 w) : C.wp P Q a w := h a rfl
theorem getD_set_ne2 {S : Array Bool} {i j : Nat} (hij : i ≠ j) : (S.setIfInBounds i true).getD j false = S.getD j false := by
  rw [Array.getD_eq_getD_getElem?, Array.getD_eq_getD_getElem?, Array.getElem?_setIfInBounds_ne hij]
/-- An operation is done, is not done. -/
structure On (S : Array Bool) (j : Nat) : Prop where
  out : S.getD j false = true
structure Of (S : Array Bool) (j : Nat) : Prop where
  out : S.getD j false = false
theorem On.back {S : Array Bool} {i j : Nat} (hij : i ≠ j) (h : On (S.setIfInBounds i true) j) : On S j := ⟨by have := h.out; rwa [getD_set_ne2 hij] at this⟩
theorem Of.fwd {S : Array Bool} {i j : Nat} (hij : i ≠ j) (h : Of (S.setIfInBounds i true) j) : Of S j := ⟨by have := h.out; rwa [getD_set_ne2 hij] at this⟩
theorem On.on {S : Array Bool} {i j : Nat} (h : On S j) : On (S.setIfInBounds i true) j := by
  refine ⟨?_⟩
  by_cases e : i = j
  · subst e
    by_cases hi : i < S.size
    · rw [getD_set _ _ _ hi, if_pos rfl]
    · rw [Array.setIfInBounds_eq_of_size_le (by omega)]; exact h.out
  · rw [getD_set_ne2 e]; exact h.out
theorem Of.no {S : Array Bool} {i n : Nat} (hS : S.size = n) (hi : i < n) (h : Of (S.setIfInBounds i true) i) : False := by
  have := h.out
  rw [getD_set _ _ _ (by omega), if_pos rfl] at this; cases this
theorem On.of {S : Array Bool} {j : Nat} (h : On S j) (h2 : Of S j) : False := by
  have h1 := h.out
  rw [h2.out] at h1; cases h1
theorem On.none {n j : Nat} (h : On (Array.replicate n false) j) : False := by
  have := h.out
  rw [rep_false] at this; cases this
theorem pre_on {o : Oper} {k : Nat} {S : Array Bool} (h : bindsTo o k = true) (hpre : ∀ e ∈ o.after, Region.binds .any e = true → S.getD e.on false = true) : On S k := by
  obtain ⟨e, he, hb, hon⟩ := bindsTo_spec h
  exact ⟨by rw [← hon]; exact hpre e he hb⟩
end Go.Proofs.Ytnpmdchphaenaaa
/- Go maps keyed by points, with numbers: looked up and written. -/
namespace Go.Proofs.Ytnpmdchphaenaaa
open Go.RowKit
set_option linter.unusedVariables false
set_option linter.unusedSimpArgs false
theorem checkKey_P (em : Bool) (n : Nat) (t : Pt) (W : World) : (Instr.checkKey em (n + 1 + 1) 34 (pV t)).run Try.prog W = .ok () W := by
  show (Instr.checkKey em (n + 1 + 1) 34 (.agg #[.int .i64 t.1, .int .i64 t.2.1, .int .i64 t.2.2])).run Try.prog W = .ok () W
  unfold Instr.checkKey
  rw [Sem.run_bind, run_underlying Try.underlying34, Result.andThen_ok]
  have q0 := part_int #[.int .i64 t.1, .int .i64 t.2.1, .int .i64 t.2.2] 0 _ rfl
  have q1 := part_int #[.int .i64 t.1, .int .i64 t.2.1, .int .i64 t.2.2] 1 _ rfl
  have q2 := part_int #[.int .i64 t.1, .int .i64 t.2.1, .int .i64 t.2.2] 2 _ rfl
  simp [Std.Legacy.Range.forIn_eq_forIn_range', Std.Legacy.Range.size, List.range', List.forIn_cons, Sem.run_bind, Try.sizeOf2, Sem.run_pure, q0, q1, q2, checkKey_int]
theorem equal_P (x y : Pt) (W : World) : (Op.equal 34 (pV x) (pV y)).run Try.prog W = .ok (decide (x = y)) W := by
  have h := eqAPt W x.1 x.2.1 x.2.2 y.1 y.2.1 y.2.2
  have e : (x.1 == y.1 && (x.2.1 == y.2.1 && x.2.2 == y.2.2)) = decide (x = y) := by
    show eqP x y = decide (x = y)
    rw [Bool.eq_iff_iff, eqP_iff, decide_eq_true_iff]
  rw [e] at h
  exact h
def entP (L : List Pt) (s : Nat) : List (Value × Value) := (L.zipIdx s).map fun t => (pV t.1, .int .i64 (t.2 : Int))
theorem find_P (x : Pt) (W : World) : ∀ (es : List MapEntry) (L : List Pt) (s i : Nat), es.map (fun e => (e.key, e.val)) = entP L s →
    (x ∉ L → (Instr.findAsking 34 (pV x) es i).run Try.prog W = .ok none W) ∧ (x ∈ L → ∃ j, (Instr.findAsking 34 (pV x) es i).run Try.prog W = .ok (some (j, .int .i64 ((s + L.idxOf x : Nat) : Int))) W)
  | [], L, s, i, h => by
    obtain rfl : L = [] := by
      cases L with
      | nil => rfl
      | cons y L => simp [entP] at h
    exact ⟨fun _ => rfl, fun h => by simp at h⟩
  | e :: es, [], s, i, h => by simp [entP] at h
  | e :: es, y :: L, s, i, h => by
    simp only [entP, List.zipIdx_cons, List.map_cons, List.cons.injEq, Prod.mk.injEq] at h
    obtain ⟨⟨h1, h3⟩, h2⟩ := h
    obtain ⟨k1, k2⟩ := find_P x W es L (s + 1) (i + 1) h2
    have hq := equal_P x y W
    rw [← h1] at hq
    by_cases hxy : x = y
    · rw [show decide (x = y) = true by simpa using hxy] at hq
      refine ⟨fun hn => absurd (by rw [hxy]; exact List.mem_cons_self ..) hn, fun _ => ⟨i, ?_⟩⟩
      subst hxy
      simp [Instr.findAsking, Sem.run_bind, hq, h3]
    · rw [show decide (x = y) = false by simpa using hxy] at hq
      refine ⟨fun hn => ?_, fun hm => ?_⟩
      · simp [Instr.findAsking, Sem.run_bind, hq]
        exact k1 (fun hm => hn (List.mem_cons_of_mem _ hm))
      · obtain ⟨j, hr⟩ := k2 (by rcases List.mem_cons.1 hm with h | h; exact absurd h hxy; exact h)
        refine ⟨j, ?_⟩
        have e2 : (y :: L).idxOf x = L.idxOf x + 1 := by
          rw [List.idxOf_cons]
          have : (y == x) = false := by simpa using Ne.symm hxy
          rw [this]; rfl
        rw [e2, show s + (L.idxOf x + 1) = s + 1 + L.idxOf x by omega]
        simp [Instr.findAsking, Sem.run_bind, hq]
        simpa using hr
/-- A Go map from points to their places. -/
structure GoMapP (W : World) (g : Nat) (L : List Pt) : Prop where
  out : ∃ es clock, W.heap[g]? = some (.map es clock) ∧ es.toList.map (fun e => (e.key, e.val)) = entP L 0
theorem GoMapP.lt {W : World} {g : Nat} {L : List Pt} (h : GoMapP W g L) : g < W.heap.size := by
  obtain ⟨es, cl, h1, -⟩ := h.out
  exact (Array.getElem?_eq_some_iff.1 h1).1
theorem GoMapP.blk {W W' : World} {g : Nat} {L : List Pt} (h : GoMapP W g L) (e : W'.heap[g]? = W.heap[g]?) : GoMapP W' g L := by
  obtain ⟨es, cl, h1, h2⟩ := h.out
  exact ⟨es, cl, e.trans h1, h2⟩
theorem GoMapP.link {W W' : World} {g : Nat} {L : List Pt} (l : Link W W') (h : GoMapP W g L) : GoMapP W' g L := h.blk (l.out.block _ h.lt)
theorem GoMapP.alloc {W : World} {g : Nat} {L : List Pt} (h : GoMapP W g L) (ob : Obj) : GoMapP (W.alloc ob) g L := h.blk ((bal (Below.refl _ _) ob : Below W.heap.size W (W.alloc ob)).block _ h.lt)
theorem GoMapP.drew {W : World} {g : Nat} {L : List Pt} (h : GoMapP W g L) : GoMapP W.drew g L := h.blk rfl
theorem GoMapP.new (W : World) : GoMapP (W.alloc (.map #[] 0)) W.heap.size [] := ⟨#[], 0, heap_alloc_new _ _, rfl⟩
theorem GoMapP.set {W : World} {g b : Nat} {U : Array Value} {L : List Pt} (hne : g ≠ b) (h : GoMapP W g L) : GoMapP (W.setRow b U) g L := h.blk (setRow_other _ _ _ _ hne)
theorem GoMapP.off {w : World} {g B n sz : Nat} {T : TypeId} {v : Value} {xs : List Value} {L : List Pt} (hO : OwnK w B T sz v n xs) (h : GoMapP w g L) : v.ownBlock ≠ some g := fun e => by
  obtain ⟨es, cl, h1, -⟩ := h.out
  rcases hO.out.2 with ⟨rfl, _⟩ | ⟨g2, cap, cur, rfl, _, h2, _⟩
  · simp [Value.ownBlock] at e
  · simp [Value.ownBlock] at e
    subst e
    rw [h1] at h2; cases h2
theorem GoMapP.grew {w W : World} {u : Value} {g B n sz : Nat} {T : TypeId} {xs : List Value} {L : List Pt} (hg : Grew w u W) (hO : OwnK w B T sz u n xs) (h : GoMapP w g L) : GoMapP W g L :=
  h.blk (hg.out.block g h.lt (fun e => h.off hO e.symm))
theorem LowK.turnP {w0 w W : World} {g : Nat} (t : TurnK g w W) (hg : w0.heap.size ≤ g) (h : LowK w0 w) : LowK w0 W := LowK.turn t hg h
theorem OwnK.turnP {w W : World} {g B n sz : Nat} {T : TypeId} {v : Value} {xs : List Value} {L : List Pt} (t : TurnK g w W) (hM : GoMapP w g L) (h : OwnK w B T sz v n xs) : OwnK W B T sz v n xs :=
  ⟨own_same h.out fun b hb => t.out.2.1 b (fun e => hM.off h (by rw [hb, e]))⟩
theorem RowK.turnP {w W : World} {g b : Nat} {cs : Array Value} {T : TypeId} {L : List Pt} (t : TurnK g w W) (hM : GoMapP w g L) (h : RowK w b cs T) : RowK W b cs T := by
  refine ⟨(t.out.2.1 b (fun e => ?_)).trans h.out⟩
  subst e
  obtain ⟨es, cl, h1, -⟩ := hM.out
  have h2 := h.out
  rw [h1] at h2; cases h2
theorem lookup_P (g : Nat) (L : List Pt) (x : Pt) (W : World) (h : GoMapP W g L) (hx : x ∈ L) : (Instr.lookup 60 (.map (some g)) (pV x) false).run Try.prog W = .ok (.int .i64 ((L.idxOf x : Nat) : Int)) W := by
  obtain ⟨es, cl, h1, h2⟩ := h.out
  obtain ⟨k1, k2⟩ := find_P x W es.toList L 0 0 h2
  have hf := run_findKey_eq (P := Try.prog) (w := W) (k := 34) (by rw [Try.underlying34]) (pV x) es.toList
  unfold Instr.lookup
  rw [Sem.run_bind, run_underlying Try.underlying60, Result.andThen_ok]
  have hg : (getObj g).run Try.prog W = .ok (.map es cl) W := by simp [getObj, Sem.run, h1]
  have hk : ∀ b, (Instr.checkKey b 10000 34 (pV x)).run Try.prog W = .ok () W := fun b => checkKey_P b 9998 x W
  obtain ⟨j, hr⟩ := k2 hx
  rw [hr] at hf
  simp [Sem.run_bind, hg, hk, hf]
theorem mapUpdate_P (g : Nat) (L : List Pt) (x : Pt) (W : World) (h : GoMapP W g L) (hx : x ∉ L) :
    ∃ W', (Instr.mapUpdate 60 (.map (some g)) (pV x) (.int .i64 (L.length : Int))).run Try.prog W = .ok () W' ∧ GoMapP W' g (L ++ [x]) ∧ W'.heap.size = W.heap.size ∧ (∀ b, b ≠ g → W'.heap[b]? = W.heap[b]?) ∧ W'.os = W.os ∧ W'.tape = W.tape ∧ W'.output = W.output := by
  obtain ⟨es, cl, h1, h2⟩ := h.out
  obtain ⟨k1, -⟩ := find_P x W es.toList L 0 0 h2
  have hf := run_findKey_eq (P := Try.prog) (w := W) (k := 34) (by rw [Try.underlying34]) (pV x) es.toList
  rw [k1 hx] at hf
  have hg : (getObj g).run Try.prog W = .ok (.map es cl) W := by simp [getObj, Sem.run, h1]
  have hk : ∀ b, (Instr.checkKey b 10000 34 (pV x)).run Try.prog W = .ok () W := fun b => checkKey_P b 9998 x W
  have hlt := h.lt
  have hs : ∀ o, (setObj g o).run Try.prog W = .ok () { W with heap := W.heap.setIfInBounds g o } := fun o => by simp [setObj, Sem.run, h1]
  refine ⟨{ W with heap := W.heap.setIfInBounds g (.map (es.push { key := pV x, val := .int .i64 (L.length : Int), born := cl }) (cl + 1)) }, ?_, ⟨es.push { key := pV x, val := .int .i64 (L.length : Int), born := cl }, cl + 1, by simp [hlt], by simp [h2, entP, List.zipIdx_append]⟩, by simp, fun b hb => by simp [Array.getElem?_setIfInBounds, Ne.symm hb], rfl, rfl, rfl⟩
  · unfold Instr.mapUpdate
    rw [Sem.run_bind, run_underlying Try.underlying60, Result.andThen_ok]
    simp [Sem.run_bind, hg, hk, hf, hs]
section
variable {ops : Array Oper} {rest : List Oper} {o : Oper} {a : Act} {w : World} {Q : Exit → Act → World → Prop} {x y z : Operand} {g : Nat} {L : List Pt} {t : Pt}
theorem wl_mapNewP (h : wpList Try.prog ops Q rest (a.put o.dst (.map (some w.heap.size))) (w.alloc (.map #[] 0))) (hgd : o.guard = none := by exact rfl) (ho : o.op = .makeMap 60 none := by exact rfl) : wpList Try.prog ops Q (o :: rest) a w := by
  refine wpList_plain hgd fun K hK' => ?_
  unfold Oper.wp execOp
  simp only [ho, Option.map_none, Sem.run_bind, run_makeMap, Result.andThen_ok]
  exact hK' _ _ h
theorem q_mapLookP {G : Grow0 w} {K : Act → Prop} {v : Nat} (hK : K (a.put o.dst (.int .i64 (v : Int)))) (hM : GoMapP w g L) (hv : t ∈ L ∧ L.idxOf t = v) (ho : o.op = .lookup 60 x y false := by exact rfl) (hx : a.eval x = .map (some g) := by exact rfl) (hy : a.eval y = pV t := by exact rfl) :
    o.quiet Try.prog a (fun w' => ∃ g : Grow w G, w' = g.W) K := by
  obtain ⟨hm, rfl⟩ := hv
  refine q_run _ (fun W hW => ?_) hK
  unfold execOp
  simp only [ho, hx, hy, Sem.run_bind, lookup_P g L t W (hM.link hW) hm, Result.andThen_ok]
  rfl
theorem wl_mapUpdP {v : Int} (h : ∀ W', GoMapP W' g (L ++ [t]) → TurnK g w W' → wpList Try.prog ops Q rest a W') (hM : GoMapP w g L) (ht : t ∉ L) (hn : Hid ((L.length : Int) = v)) (hgd : o.guard = none := by exact rfl) (ho : o.op = .mapUpdate 60 x y z ∨ o.op = .insert 60 x y z) (hd : o.dst = none := by exact rfl)
    (hx : a.eval x = .map (some g) := by exact rfl) (hy : a.eval y = pV t := by exact rfl) (hz : a.eval z = .int .i64 v := by exact rfl) : wpList Try.prog ops Q (o :: rest) a w := by
  rw [← hn.out] at hz
  obtain ⟨W', hr, h1, h2, h3, h4, h5, h6⟩ := mapUpdate_P g L t w hM ht
  refine wpList_plain hgd fun K hK' => ?_
  have hK := hK' _ _ (h W' h1 ⟨h2, h3, h4, h5, h6⟩)
  unfold Oper.wp execOp
  rcases ho with ho | ho
  · simp only [ho, hx, hy, hz, Sem.run_bind, hr, Result.andThen_ok]
    simp only [Oper.upon, Sem.run_pure, hd]
    exact hK
  · simp only [ho, hx, hy, hz, Sem.run_bind, hr, Result.andThen_ok]
    simp only [Oper.upon, Sem.run_pure, hd]
    exact hK
end
end Go.Proofs.Ytnpmdchphaenaaa
/- Plain: the image of a normal point under an invertible map is normal; different points have different images. -/
namespace Go.Proofs.Ytnpmdchphaenaaa
open Go.RowKit
set_option linter.unusedVariables false
set_option linter.unusedSimpArgs false
def mvP (m : M9) (a : Pt) : Pt := (dotI m.1 a, dotI m.2.1 a, dotI m.2.2 a)
theorem img_nrm (p : Int) (m : M9) (a : Pt) : imgP p m a = nrm3 p (mvP m a).1 (mvP m a).2.1 (mvP m a).2.2 := by
  unfold imgP nrm3 facL mvP
  simp [dotP, dotI, Int.emod_emod_of_dvd]
theorem crs_mv1 (a b c d : Pt) : dotI a c * dotI b d - dotI b c * dotI a d = dotI (crs a b) (crs c d) := by
  unfold dotI crs; grind
theorem det_mv1 (a b c x : Pt) : dotI (crs b c) (1, 0, 0) * dotI a x + dotI (crs c a) (1, 0, 0) * dotI b x + dotI (crs a b) (1, 0, 0) * dotI c x = detZ a b c * x.1 := by
  unfold dotI crs detZ; grind
theorem det_mv2 (a b c x : Pt) : dotI (crs b c) (0, 1, 0) * dotI a x + dotI (crs c a) (0, 1, 0) * dotI b x + dotI (crs a b) (0, 1, 0) * dotI c x = detZ a b c * x.2.1 := by
  unfold dotI crs detZ; grind
theorem det_mv3 (a b c x : Pt) : dotI (crs b c) (0, 0, 1) * dotI a x + dotI (crs c a) (0, 0, 1) * dotI b x + dotI (crs a b) (0, 0, 1) * dotI c x = detZ a b c * x.2.2 := by
  unfold dotI crs detZ; grind
theorem det_cv1 (a b c v : Pt) : a.1 * dotI (crs b c) v + b.1 * dotI (crs c a) v + c.1 * dotI (crs a b) v = detZ a b c * v.1 := by
  unfold dotI crs detZ; grind
theorem det_cv2 (a b c v : Pt) : a.2.1 * dotI (crs b c) v + b.2.1 * dotI (crs c a) v + c.2.1 * dotI (crs a b) v = detZ a b c * v.2.1 := by
  unfold dotI crs detZ; grind
theorem det_cv3 (a b c v : Pt) : a.2.2 * dotI (crs b c) v + b.2.2 * dotI (crs c a) v + c.2.2 * dotI (crs a b) v = detZ a b c * v.2.2 := by
  unfold dotI crs detZ; grind
theorem dvd3 {p x y z a b c d : Int} (hx : p ∣ x) (hy : p ∣ y) (hz : p ∣ z) (h : a * x + b * y + c * z = d) : p ∣ d := by
  obtain ⟨i, rfl⟩ := hx
  obtain ⟨j, rfl⟩ := hy
  obtain ⟨k, rfl⟩ := hz
  exact ⟨a * i + b * j + c * k, by rw [← h]; grind⟩
theorem det_nd {p : Int} {m : M9} (h : okM p m = true) : prB p = true ∧ ¬ p ∣ detZ m.1 m.2.1 m.2.2 := by
  unfold okM mapB at h
  simp only [Bool.and_eq_true, bne_iff_ne, ne_eq] at h
  refine ⟨h.1, fun hd => h.2.2 (Int.emod_eq_zero_of_dvd hd)⟩
theorem nd_one {p : Int} (hp : prB p = true) : ¬ p ∣ 1 := fun h => by
  have := Int.le_of_dvd (by decide) h
  have := prB_bd hp
  omega
theorem pt_nz {p : Int} {a : Pt} (h : ptB p a.1 a.2.1 a.2.2 = true) : nzV p a := by
  obtain ⟨hp, -, -, -, hd⟩ := pt_facts h
  rintro ⟨h1, h2, h3⟩
  rcases hd with e | ⟨-, e⟩ | ⟨-, -, e⟩
  · exact nd_one hp (e ▸ h1)
  · exact nd_one hp (e ▸ h2)
  · exact nd_one hp (e ▸ h3)
theorem nzV_nzB {p : Int} {v : Pt} (h : nzV p v) : nzB p [v.1, v.2.1, v.2.2] = true := by
  unfold nzB zerosB
  rw [Bool.not_eq_true']
  rw [Bool.eq_false_iff]
  intro hz
  simp at hz
  exact h ⟨Int.dvd_of_emod_eq_zero hz.1, Int.dvd_of_emod_eq_zero hz.2.1, Int.dvd_of_emod_eq_zero hz.2.2⟩
theorem mv_nz {p : Int} {m : M9} {a : Pt} (hm : okM p m = true) (ha : ptB p a.1 a.2.1 a.2.2 = true) : nzV p (mvP m a) := by
  obtain ⟨hp, hd⟩ := det_nd hm
  rintro ⟨h1, h2, h3⟩
  exact pt_nz ha ⟨mul_dvd hp (dvd3 h1 h2 h3 (det_mv1 m.1 m.2.1 m.2.2 a)) hd, mul_dvd hp (dvd3 h1 h2 h3 (det_mv2 m.1 m.2.1 m.2.2 a)) hd, mul_dvd hp (dvd3 h1 h2 h3 (det_mv3 m.1 m.2.1 m.2.2 a)) hd⟩
theorem img_pt {p : Int} {m : M9} {a : Pt} (hm : okM p m = true) (ha : ptB p a.1 a.2.1 a.2.2 = true) : ptB p (imgP p m a).1 (imgP p m a).2.1 (imgP p m a).2.2 = true := by
  rw [img_nrm]
  exact nrm3_pt (det_nd hm).1 (nzV_nzB (mv_nz hm ha))
theorem crs_self (c : Pt) : crs c c = (0, 0, 0) := by unfold crs; simp [Int.mul_comm]
theorem img_inj {n : Nat} {m : M9} {a b : Pt} (hm : okM (n : Int) m = true) (ha : ptB (n : Int) a.1 a.2.1 a.2.2 = true) (hb : ptB (n : Int) b.1 b.2.1 b.2.2 = true) (h : imgP (n : Int) m a = imgP (n : Int) m b) : a = b := by
  obtain ⟨hp, hd⟩ := det_nd hm
  obtain ⟨p, hpn⟩ : ∃ p : Int, (n : Int) = p := ⟨_, rfl⟩
  have c1 := cg_nrm hp (mvP m a)
  have c2 := cg_nrm hp (mvP m b)
  have f1 := fac_nd hp (mv_nz hm ha)
  have f2 := fac_nd hp (mv_nz hm hb)
  rw [← img_nrm] at c1 c2
  rw [← h] at c2
  have c3 := cg_crs c1 c2
  rw [crs_self] at c3
  generalize facL (n : Int) [(mvP m a).1, (mvP m a).2.1, (mvP m a).2.2] = F1 at *
  generalize facL (n : Int) [(mvP m b).1, (mvP m b).2.1, (mvP m b).2.2] = F2 at *
  have f3 := mul_nd hp f1 f2
  obtain ⟨k1, k2, k3⟩ := c3
  have d : ∀ x : Int, (n : Int) ∣ 0 - F1 * F2 * x → (n : Int) ∣ x := fun x hx => mul_dvd hp (by obtain ⟨q, hq⟩ := hx; exact ⟨-q, by rw [Int.mul_neg]; omega⟩) f3
  have d1 := d _ k1
  have d2 := d _ k2
  have d3 := d _ k3
  have e1 : (crs (mvP m a) (mvP m b)).1 = dotI (crs m.2.1 m.2.2) (crs a b) := by rw [← crs_mv1]; unfold crs mvP; grind
  have e2 : (crs (mvP m a) (mvP m b)).2.1 = dotI (crs m.2.2 m.1) (crs a b) := by rw [← crs_mv1]; unfold crs mvP; grind
  have e3 : (crs (mvP m a) (mvP m b)).2.2 = dotI (crs m.1 m.2.1) (crs a b) := by rw [← crs_mv1]; unfold crs mvP; grind
  rw [e1] at d1
  rw [e2] at d2
  rw [e3] at d3
  have g1 := mul_dvd hp (dvd3 d1 d2 d3 (det_cv1 m.1 m.2.1 m.2.2 (crs a b))) hd
  have g2 := mul_dvd hp (dvd3 d1 d2 d3 (det_cv2 m.1 m.2.1 m.2.2 (crs a b))) hd
  have g3 := mul_dvd hp (dvd3 d1 d2 d3 (det_cv3 m.1 m.2.1 m.2.2 (crs a b))) hd
  have h1 := List.all_eq_true.1 (List.all_eq_true.1 (crsChk_of hp) _ (mem_allP ha)) _ (mem_allP hb)
  rw [Bool.or_eq_true] at h1
  rcases h1 with h1 | h1
  · exact eqP_iff.1 h1
  · exfalso
    unfold crsNz at h1
    simp only [Bool.or_eq_true, bne_iff_ne, ne_eq] at h1
    rcases h1 with h1 | h1 | h1
    · exact h1 (Int.emod_eq_zero_of_dvd g1)
    · exact h1 (Int.emod_eq_zero_of_dvd g2)
    · exact h1 (Int.emod_eq_zero_of_dvd g3)
end Go.Proofs.Ytnpmdchphaenaaa
/- Plain: the list of all points that some functions reach from a point; it is a class when the functions are one to one. -/
namespace Go.Proofs.Ytnpmdchphaenaaa
set_option linter.unusedVariables false
set_option linter.unusedSimpArgs false
set_option linter.unusedSectionVars false
section
variable {α : Type} [DecidableEq α]
theorem nodup_len : ∀ {l1 l2 : List α}, l1.Nodup → (∀ x ∈ l1, x ∈ l2) → l1.length ≤ l2.length
  | [], _, _, _ => Nat.zero_le _
  | x :: l1, l2, hn, hs => by
    have hx := hs x (List.mem_cons_self)
    have hn2 := List.nodup_cons.1 hn
    have h1 : l1.length ≤ (l2.erase x).length := nodup_len hn2.2 (fun y hy => (List.mem_erase_of_ne (fun (e : y = x) => hn2.1 (e ▸ hy))).2 (hs y (List.mem_cons_of_mem _ hy)))
    have h2 := List.length_erase_of_mem hx
    have h3 : 0 < l2.length := List.length_pos_of_mem hx
    simp only [List.length_cons]
    omega
theorem nodup_onto {l1 l2 : List α} (hn : l1.Nodup) (hs : ∀ x ∈ l1, x ∈ l2) (hl : l2.length ≤ l1.length) : ∀ x ∈ l2, x ∈ l1 := by
  intro x hx
  apply Classical.byContradiction
  intro hx1
  have h1 : l1.length ≤ (l2.erase x).length := nodup_len hn (fun y hy => (List.mem_erase_of_ne (fun (e : y = x) => hx1 (e ▸ hy))).2 (hs y hy))
  have h2 := List.length_erase_of_mem hx
  have h3 : 0 < l2.length := List.length_pos_of_mem hx
  omega
variable (f : Nat → α → α) (n : Nat) (d : α)
def stepO (A : List α) (y : α) : List α := if y ∈ A then A else A ++ [y]
def innO (A : List α) (x : α) : Nat → List α
  | 0 => A
  | k + 1 => stepO (innO A x k) (f k x)
def seqO (a : α) : Nat → List α
  | 0 => [a]
  | i + 1 => innO f (seqO a i) ((seqO a i).getD i d) n
theorem stepO_pre (A : List α) (y : α) : A <+: stepO A y := by
  unfold stepO; split
  · exact List.prefix_refl _
  · exact List.prefix_append _ _
theorem stepO_mem (A : List α) (y : α) : y ∈ stepO A y := by
  unfold stepO; split
  · assumption
  · simp
theorem innO_pre (A : List α) (x : α) : ∀ k, A <+: innO f A x k
  | 0 => List.prefix_refl _
  | k + 1 => (innO_pre A x k).trans (stepO_pre _ _)
theorem innO_mono (A : List α) (x : α) {j : Nat} : ∀ k, j ≤ k → innO f A x j <+: innO f A x k
  | 0, h => by obtain rfl : j = 0 := by omega
               exact List.prefix_refl _
  | k + 1, h => by
    by_cases e : j = k + 1
    · subst e; exact List.prefix_refl _
    · exact (innO_mono A x k (by omega)).trans (stepO_pre _ _)
theorem innO_mem (A : List α) (x : α) {j k : Nat} (h : j < k) : f j x ∈ innO f A x k :=
  (innO_mono f A x k (j := j + 1) h).subset (stepO_mem _ _)
theorem stepO_nodup {A : List α} {y : α} (h : A.Nodup) : (stepO A y).Nodup := by
  unfold stepO; split
  · exact h
  · rename_i hy
    rw [List.nodup_append]
    exact ⟨h, by simp, fun a ha b hb => by rw [List.mem_singleton.1 hb]; exact fun e => hy (e ▸ ha)⟩
theorem innO_nodup {A : List α} {x : α} (h : A.Nodup) : ∀ k, (innO f A x k).Nodup
  | 0 => h
  | k + 1 => stepO_nodup (innO_nodup h k)
theorem seqO_nodup (a : α) : ∀ i, (seqO f n d a i).Nodup
  | 0 => by simp [seqO]
  | i + 1 => innO_nodup f (seqO_nodup a i) n
theorem seqO_mono (a : α) {i : Nat} : ∀ j, i ≤ j → seqO f n d a i <+: seqO f n d a j
  | 0, h => by obtain rfl : i = 0 := by omega
               exact List.prefix_refl _
  | j + 1, h => by
    by_cases e : i = j + 1
    · subst e; exact List.prefix_refl _
    · exact (seqO_mono a j (by omega)).trans (innO_pre _ _ _ _)
theorem preO_at {A B : List α} (h : A <+: B) {i : Nat} (hi : i < A.length) : B.getD i d = A.getD i d := by
  obtain ⟨t, rfl⟩ := h
  simp [List.getD, List.getElem?_append_left hi]
theorem getO_mem {A : List α} {i : Nat} (hi : i < A.length) : A.getD i d ∈ A := by
  rw [List.getD_eq_getElem?_getD, List.getElem?_eq_getElem hi]; exact List.getElem_mem _
theorem memO_at {A : List α} {x : α} (h : x ∈ A) : ∃ i, i < A.length ∧ A.getD i d = x := by
  obtain ⟨q, hq, e⟩ := List.mem_iff_getElem.1 h
  exact ⟨q, hq, by rw [List.getD_eq_getElem?_getD, List.getElem?_eq_getElem hq]; exact e⟩
variable {f n d}
theorem stepO_all {P : α → Prop} {A : List α} {y : α} (h : ∀ x ∈ A, P x) (hy : P y) : ∀ x ∈ stepO A y, P x := by
  unfold stepO; split
  · exact h
  · intro x hx
    rcases List.mem_append.1 hx with hx | hx
    · exact h x hx
    · rw [List.mem_singleton.1 hx]; exact hy
theorem innO_all {P : α → Prop} {A : List α} {x : α} (h : ∀ x ∈ A, P x) (hf : ∀ k, k < n → P (f k x)) : ∀ k, k ≤ n → ∀ y ∈ innO f A x k, P y
  | 0, _ => h
  | k + 1, hk => stepO_all (innO_all h hf k (by omega)) (hf k hk)
theorem seqO_all {P : α → Prop} {a : α} (ha : P a) (hf : ∀ x, P x → ∀ k, k < n → P (f k x)) : ∀ i, (i = 0 ∨ i - 1 < (seqO f n d a (i - 1)).length) → (∀ j, j < i → j < (seqO f n d a j).length) → ∀ x ∈ seqO f n d a i, P x
  | 0, _, _ => fun x hx => by rw [List.mem_singleton.1 hx]; exact ha
  | i + 1, _, hg => by
    have ih := seqO_all ha hf i (by rcases Nat.eq_zero_or_pos i with h | h; (· exact .inl h); (· exact .inr (hg (i - 1) (by omega)))) (fun j hj => hg j (by omega))
    exact innO_all ih (hf _ (ih _ (getO_mem d (hg i (by omega))))) n (Nat.le_refl _)
/-- The list is whole behind round K. -/
structure WholeO (f : Nat → α → α) (n : Nat) (d a : α) (K : Nat) : Prop where
  run : ∀ i, i < K → i < (seqO f n d a i).length
  fin : (seqO f n d a K).length = K
theorem WholeO.all {P : α → Prop} {a : α} {K : Nat} (h : WholeO f n d a K) (ha : P a) (hf : ∀ x, P x → ∀ k, k < n → P (f k x)) : ∀ x ∈ seqO f n d a K, P x :=
  seqO_all ha hf K (by rcases Nat.eq_zero_or_pos K with h2 | h2; (· exact .inl h2); (· exact .inr (h.run (K - 1) (by omega)))) h.run
theorem WholeO.self {a : α} {K : Nat} (h : WholeO f n d a K) : a ∈ seqO f n d a K := (seqO_mono f n d a K (Nat.zero_le _)).subset (by simp [seqO])
theorem WholeO.closed {a x : α} {K k : Nat} (h : WholeO f n d a K) (hx : x ∈ seqO f n d a K) (hk : k < n) : f k x ∈ seqO f n d a K := by
  obtain ⟨i, hi, rfl⟩ := memO_at d hx
  rw [h.fin] at hi
  have hp := seqO_mono f n d a K (i := i) (by omega)
  rw [preO_at d hp (h.run i hi)]
  exact (seqO_mono f n d a K (i := i + 1) hi).subset (innO_mem f _ _ hk)
theorem WholeO.uniq {a : α} {K J : Nat} (h : WholeO f n d a K) (h2 : WholeO f n d a J) : K = J := by
  rcases Nat.lt_trichotomy K J with e | e | e
  · have := h2.run K e; have := h.fin; omega
  · exact e
  · have := h.run J e; have := h2.fin; omega
/-- A bound for the lists' lengths: the list comes to an end. -/
theorem whole_ex {a : α} {all : List α} (ha : a ∈ all) (hf : ∀ x, x ∈ all → ∀ k, k < n → f k x ∈ all) : ∃ K, K ≤ all.length ∧ WholeO f n d a K := by
  have key : ∀ i, (∃ K, WholeO f n d a K) ∨ (∀ j, j < i → j < (seqO f n d a j).length) := by
    intro i
    induction i with
    | zero => exact .inr (fun j hj => absurd hj (Nat.not_lt_zero _))
    | succ i ih =>
      rcases ih with h | h
      · exact .inl h
      · by_cases e : i < (seqO f n d a i).length
        · exact .inr (fun j hj => by
            by_cases ej : j = i
            · subst ej; exact e
            · exact h j (by omega))
        · left
          refine ⟨i, h, ?_⟩
          rcases Nat.eq_zero_or_pos i with h0 | h0
          · subst h0; exact absurd (by simp [seqO] : 0 < (seqO f n d a 0).length) e
          · have := h (i - 1) (by omega)
            have := (seqO_mono f n d a i (i := i - 1) (by omega)).length_le
            omega
  have bound : ∀ K, (∀ j, j < K → j < (seqO f n d a j).length) → (seqO f n d a K).length ≤ all.length := fun K h =>
    nodup_len (seqO_nodup f n d a K) (seqO_all (P := (· ∈ all)) ha hf K (by rcases Nat.eq_zero_or_pos K with h2 | h2; (· exact .inl h2); (· exact .inr (h (K - 1) (by omega)))) h)
  rcases key (all.length + 1) with ⟨K, h⟩ | h
  · exact ⟨K, by have := bound K h.run; have := h.fin; omega, h⟩
  · exfalso
    have h1 := h all.length (by omega)
    have h2 := bound all.length (fun j hj => h j (by omega))
    omega
/-- One to one on all: closed under preimages. -/
theorem WholeO.back {a x : α} {K k : Nat} {P : α → Prop} (h : WholeO f n d a K) (ha : P a) (hf : ∀ x, P x → ∀ k, k < n → P (f k x)) (hi : ∀ x y, P x → P y → ∀ k, k < n → f k x = f k y → x = y) (hx : P x) (hk : k < n) (hy : f k x ∈ seqO f n d a K) : x ∈ seqO f n d a K := by
  have hall := h.all ha hf
  have hnd : ((seqO f n d a K).map (f k)).Nodup := by
    have h0 := seqO_nodup f n d a K
    generalize seqO f n d a K = S at *
    clear hy h
    induction S with
    | nil => simp
    | cons y S ih =>
      rw [List.map_cons, List.nodup_cons]
      have h1 := List.nodup_cons.1 h0
      refine ⟨fun hm => ?_, ih (fun z hz => hall z (List.mem_cons_of_mem _ hz)) h1.2⟩
      obtain ⟨z, hz, e⟩ := List.mem_map.1 hm
      have := hi z y (hall z (List.mem_cons_of_mem _ hz)) (hall y List.mem_cons_self) k hk e
      exact h1.1 (this ▸ hz)
  have hon := nodup_onto hnd (fun y hy => by
    obtain ⟨z, hz, e⟩ := List.mem_map.1 hy
    rw [← e]; exact h.closed hz hk) (by simp) _ hy
  obtain ⟨z, hz, e⟩ := List.mem_map.1 hon
  have := hi z x (hall z hz) hx k hk e
  exact this ▸ hz
/-- Reached: in the whole list. -/
def Reach0 (f : Nat → α → α) (n : Nat) (d : α) (x y : α) : Prop := ∃ K, WholeO f n d x K ∧ y ∈ seqO f n d x K
theorem Reach0.least {x y : α} (h : Reach0 f n d x y) {T : α → Prop} (hx : T x) (hT : ∀ z, T z → ∀ k, k < n → T (f k z)) : T y := by
  obtain ⟨K, hK, hy⟩ := h
  exact hK.all hx hT y hy
variable {all : List α}
theorem reach_refl (hf : ∀ x, x ∈ all → ∀ k, k < n → f k x ∈ all) {x : α} (hx : x ∈ all) : Reach0 f n d x x := by
  obtain ⟨K, -, h⟩ := whole_ex (d := d) hx hf
  exact ⟨K, h, h.self⟩
theorem reach_mem (hf : ∀ x, x ∈ all → ∀ k, k < n → f k x ∈ all) {x y : α} (hx : x ∈ all) (h : Reach0 f n d x y) : y ∈ all := h.least (T := (· ∈ all)) hx hf
theorem reach_step (hf : ∀ x, x ∈ all → ∀ k, k < n → f k x ∈ all) {x : α} (hx : x ∈ all) {k : Nat} (hk : k < n) : Reach0 f n d x (f k x) := by
  obtain ⟨K, -, h⟩ := whole_ex (d := d) hx hf
  exact ⟨K, h, h.closed h.self hk⟩
theorem reach_trans (hf : ∀ x, x ∈ all → ∀ k, k < n → f k x ∈ all) {x y z : α} (h1 : Reach0 f n d x y) (h2 : Reach0 f n d y z) : Reach0 f n d x z := by
  obtain ⟨K, hK, hy⟩ := h1
  exact ⟨K, hK, h2.least (T := (· ∈ seqO f n d x K)) hy (fun z hz k hk => hK.closed hz hk)⟩
theorem reach_symm (hf : ∀ x, x ∈ all → ∀ k, k < n → f k x ∈ all) (hi : ∀ x y, x ∈ all → y ∈ all → ∀ k, k < n → f k x = f k y → x = y) {x y : α} (hx : x ∈ all) (h : Reach0 f n d x y) : Reach0 f n d y x := by
  have hy := reach_mem hf hx h
  obtain ⟨K, -, hK⟩ := whole_ex (d := d) hy hf
  have := h.least (T := fun z => z ∈ all ∧ (z ∈ seqO f n d y K → x ∈ seqO f n d y K)) ⟨hx, id⟩ (fun z hz k hk => ⟨hf z hz.1 k hk, fun hm => hz.2 (hK.back (P := (· ∈ all)) hy hf hi hz.1 hk hm)⟩)
  exact ⟨K, hK, this.2 hK.self⟩
end
end Go.Proofs.Ytnpmdchphaenaaa
/- Plain: classes joined step by step are what is reached. -/
namespace Go.Proofs.Ytnpmdchphaenaaa
set_option linter.unusedVariables false
set_option linter.unusedSimpArgs false
set_option linter.unusedSectionVars false
def mrg (c : Nat → Nat) (one two : Nat) : Nat → Nat := fun q => if c q = max one two then min one two else c q
def rowU (ix : Nat → Nat) (c : Nat → Nat) : Nat → Nat → Nat
  | 0 => c
  | i + 1 => mrg (rowU ix c i) (rowU ix c i i) (rowU ix c i (ix i))
def allU (ix : Nat → Nat → Nat) (N : Nat) : Nat → Nat → Nat
  | 0 => id
  | k + 1 => rowU (ix k) (allU ix N k) N
theorem mrg_self (c : Nat → Nat) (a : Nat) : mrg c a a = c := by
  funext q; unfold mrg; rw [Nat.max_self, Nat.min_self]; split <;> simp_all
theorem mrg_eq {c : Nat → Nat} {a b x y : Nat} (h : c x = c y) : mrg c a b x = mrg c a b y := by unfold mrg; rw [h]
theorem mrg_join (c : Nat → Nat) (i j : Nat) : mrg c (c i) (c j) i = mrg c (c i) (c j) j := by
  unfold mrg
  split <;> split <;> omega
def Lab (c : Nat → Nat) : Prop := ∀ q, c q ≤ q ∧ c (c q) = c q
theorem mrg_lab {c : Nat → Nat} (h : Lab c) (x y : Nat) : Lab (mrg c (c x) (c y)) := by
  intro q
  have hx := (h x).2
  have hy := (h y).2
  have hq := h q
  have hm : c (min (c x) (c y)) = min (c x) (c y) := by
    rcases Nat.le_total (c x) (c y) with e | e
    · rw [Nat.min_eq_left e]; exact hx
    · rw [Nat.min_eq_right e]; exact hy
  unfold mrg
  constructor
  · split <;> omega
  · by_cases e : c q = max (c x) (c y)
    · rw [if_pos e, hm]
      split
      · rfl
      · rfl
    · rw [if_neg e, hq.2, if_neg e]
theorem rowU_lab {ix c : Nat → Nat} (h : Lab c) : ∀ i, Lab (rowU ix c i)
  | 0 => h
  | i + 1 => mrg_lab (rowU_lab h i) _ _
theorem allU_lab (ix : Nat → Nat → Nat) (N : Nat) : ∀ k, Lab (allU ix N k)
  | 0 => fun q => ⟨Nat.le_refl _, rfl⟩
  | k + 1 => rowU_lab (allU_lab ix N k) N
theorem rowU_eq {ix c : Nat → Nat} {x y : Nat} {i : Nat} : ∀ j, i ≤ j → rowU ix c i x = rowU ix c i y → rowU ix c j x = rowU ix c j y
  | 0, h, e => by obtain rfl : i = 0 := by omega
                  exact e
  | j + 1, h, e => by
    by_cases ej : i = j + 1
    · subst ej; exact e
    · exact mrg_eq (rowU_eq j (by omega) e)
theorem rowU_join {ix c : Nat → Nat} {i j : Nat} (h : i < j) : rowU ix c j i = rowU ix c j (ix i) := rowU_eq j h (mrg_join _ _ _)
theorem allU_eq {ix : Nat → Nat → Nat} {N x y : Nat} {i : Nat} : ∀ j, i ≤ j → allU ix N i x = allU ix N i y → allU ix N j x = allU ix N j y
  | 0, h, e => by obtain rfl : i = 0 := by omega
                  exact e
  | j + 1, h, e => by
    by_cases ej : i = j + 1
    · subst ej; exact e
    · exact rowU_eq (i := 0) N (Nat.zero_le _) (allU_eq j (by omega) e)
theorem allU_join {ix : Nat → Nat → Nat} {N n i k : Nat} (hi : i < N) (hk : k < n) : allU ix N n i = allU ix N n (ix k i) := allU_eq n hk (rowU_join hi)
def Sound (R : Nat → Nat → Prop) (N : Nat) (c : Nat → Nat) : Prop := ∀ x y, x < N → y < N → c x = c y → R x y
theorem mrg_sound {R : Nat → Nat → Prop} {N : Nat} {c : Nat → Nat} (hs : ∀ x y, R x y → R y x) (ht : ∀ x y z, R x y → R y z → R x z) (h : Sound R N c) {i j : Nat} (hi : i < N) (hj : j < N) (hR : R i j) : Sound R N (mrg c (c i) (c j)) := by
  intro x y hx hy e
  have sx : c x = c i → R x i := h x i hx hi
  have sx2 : c x = c j → R x j := h x j hx hj
  have sy : c y = c i → R y i := h y i hy hi
  have sy2 : c y = c j → R y j := h y j hy hj
  by_cases e0 : c x = c y
  · exact h x y hx hy e0
  · unfold mrg at e
    have cases4 : (c x = c i ∧ c y = c j) ∨ (c x = c j ∧ c y = c i) := by
      by_cases ex : c x = max (c i) (c j) <;> by_cases ey : c y = max (c i) (c j) <;> simp only [ex, ey, if_true, if_false] at e <;> omega
    rcases cases4 with ⟨e1, e2⟩ | ⟨e1, e2⟩
    · exact ht _ _ _ (sx e1) (ht _ _ _ hR (hs _ _ (sy2 e2)))
    · exact ht _ _ _ (sx2 e1) (ht _ _ _ (hs _ _ hR) (hs _ _ (sy e2)))
theorem rowU_sound {R : Nat → Nat → Prop} {N : Nat} {ix c : Nat → Nat} (hs : ∀ x y, R x y → R y x) (ht : ∀ x y z, R x y → R y z → R x z) (hix : ∀ i, i < N → ix i < N ∧ R i (ix i)) (h : Sound R N c) : ∀ i, i ≤ N → Sound R N (rowU ix c i)
  | 0, _ => h
  | i + 1, hi => mrg_sound hs ht (rowU_sound hs ht hix h i (by omega)) hi (hix i hi).1 (hix i hi).2
theorem allU_sound {R : Nat → Nat → Prop} {N n : Nat} {ix : Nat → Nat → Nat} (hr : ∀ x, x < N → R x x) (hs : ∀ x y, R x y → R y x) (ht : ∀ x y z, R x y → R y z → R x z) (hix : ∀ k i, k < n → i < N → ix k i < N ∧ R i (ix k i)) : ∀ k, k ≤ n → Sound R N (allU ix N k)
  | 0, _ => fun x y hx hy e => by have e : x = y := e
                                  exact e ▸ hr x hx
  | k + 1, hk => rowU_sound hs ht (fun i hi => hix k i hk hi) (allU_sound hr hs ht hix k (by omega)) N (Nat.le_refl _)
section
variable {α : Type} [DecidableEq α]
def ixO (f : Nat → α → α) (d : α) (all : List α) (k i : Nat) : Nat := all.idxOf (f k (all.getD i d))
theorem getD_idx {all : List α} {d y : α} (h : y ∈ all) : all.getD (all.idxOf y) d = y := by
  have hl := List.idxOf_lt_length_of_mem h
  rw [List.getD_eq_getElem?_getD, List.getElem?_eq_getElem hl]
  exact List.getElem_idxOf hl
theorem idx_getD {all : List α} {d : α} (hn : all.Nodup) {i : Nat} (hi : i < all.length) : all.idxOf (all.getD i d) = i := by
  rw [List.getD_eq_getElem?_getD, List.getElem?_eq_getElem hi]
  exact hn.idxOf_getElem i hi
variable {f : Nat → α → α} {n : Nat} {d : α} {all : List α}
theorem getD_mem {i : Nat} (hi : i < all.length) : all.getD i d ∈ all := by
  rw [List.getD_eq_getElem?_getD, List.getElem?_eq_getElem hi]; exact List.getElem_mem _
theorem ixO_at {k i : Nat} (h : f k (all.getD i d) ∈ all) : ixO f d all k i < all.length ∧ all.getD (ixO f d all k i) d = f k (all.getD i d) := ⟨List.idxOf_lt_length_of_mem h, getD_idx h⟩
/-- The classes are what is reached. -/
theorem class_iff (hn : all.Nodup) (hf : ∀ x, x ∈ all → ∀ k, k < n → f k x ∈ all) (hi : ∀ x y, x ∈ all → y ∈ all → ∀ k, k < n → f k x = f k y → x = y) {x y : Nat} (hx : x < all.length) (hy : y < all.length) :
    allU (ixO f d all) all.length n x = allU (ixO f d all) all.length n y ↔ Reach0 f n d (all.getD x d) (all.getD y d) := by
  constructor
  · let R : Nat → Nat → Prop := fun x y => x < all.length ∧ y < all.length ∧ Reach0 f n d (all.getD x d) (all.getD y d)
    intro e
    have := allU_sound (R := R) (N := all.length) (n := n) (ix := ixO f d all) (fun x hx => ⟨hx, hx, reach_refl hf (getD_mem hx)⟩) (fun x y h => ⟨h.2.1, h.1, reach_symm hf hi (getD_mem h.1) h.2.2⟩) (fun x y z h1 h2 => ⟨h1.1, h2.2.1, reach_trans hf h1.2.2 h2.2.2⟩)
      (fun k i hk hi2 => by
        have hm := hf _ (getD_mem (d := d) hi2) k hk
        have hl : ixO f d all k i < all.length := List.idxOf_lt_length_of_mem hm
        refine ⟨hl, hi2, hl, ?_⟩
        unfold ixO
        rw [getD_idx hm]
        exact reach_step hf (getD_mem hi2) hk) n (Nat.le_refl _) x y hx hy e
    exact this.2.2
  · intro h
    have := h.least (T := fun z => z ∈ all ∧ allU (ixO f d all) all.length n x = allU (ixO f d all) all.length n (all.idxOf z)) ⟨getD_mem hx, by rw [idx_getD hn hx]⟩ (fun z hz k hk => by
      refine ⟨hf z hz.1 k hk, ?_⟩
      rw [hz.2]
      have hl : all.idxOf z < all.length := List.idxOf_lt_length_of_mem hz.1
      have := allU_join (ix := ixO f d all) (n := n) hl hk
      rw [this]
      unfold ixO
      rw [getD_idx hz.1])
    rw [idx_getD hn hy] at this
    exact this.2
end
end Go.Proofs.Ytnpmdchphaenaaa
/- Small things for laws with lists of maps. -- maps -/
namespace Go.Proofs.Ytnpmdchphaenaaa
open Go.RowKit
set_option linter.unusedVariables false
set_option linter.unusedSimpArgs false
theorem okM_inM {p : Int} {t : M9} (h : okM p t = true) : InM t := by
  unfold okM mapB at h
  simp only [Bool.and_eq_true] at h
  obtain ⟨hp, hn, -⟩ := h
  obtain ⟨-, h2⟩ := prB_bd hp
  intro x hx
  have := nums_at hn (x := x) hx
  exact ⟨this.1, by omega⟩
theorem codeML_ok {p : Int} {n : Nat} {v : Bool} (h : codeML p n v = 0) : prB p = true ∧ n ≤ 8 ∧ v = true := by
  unfold codeML codeOf at h
  rcases hp : prB p with _ | _
  · simp [hp] at h
  · rcases v with _ | _
    · simp [hp] at h
    · simp [hp] at h
      exact ⟨rfl, by omega, rfl⟩
theorem ListM.nil {W : World} {l : List M9} {n : Nat} (h : n = 0) (hl : l.length = n) : ListM W none n l := ⟨hl, fun h2 => by omega⟩
theorem ListM.at {W : World} {g n : Nat} {l : List M9} (hl : l.length = n) (h : MapsK W g 0 n l) : ListM W (some ⟨g, 0, none⟩) n l := ⟨hl, fun _ => ⟨g, 0, rfl, h⟩⟩
end Go.Proofs.Ytnpmdchphaenaaa
/- Plain: orbits of points under invertible maps. -/
namespace Go.Proofs.Ytnpmdchphaenaaa
open Go.RowKit
set_option linter.unusedVariables false
set_option linter.unusedSimpArgs false
def p0 : Pt := (0, 0, 0)
def fO (p : Int) (ms : List M9) (k : Nat) (x : Pt) : Pt := imgP p (ms.getD k m0) x
/-- All maps are invertible. -/
structure MsOk (n : Nat) (ms : List M9) : Prop where
  pr : prB (n : Int) = true
  ok : ∀ m ∈ ms, okM (n : Int) m = true
theorem getM_mem {l : List M9} {j : Nat} (h : j < l.length) : l.getD j m0 ∈ l := by rw [List.getD_eq_getElem?_getD, List.getElem?_eq_getElem h]; exact List.getElem_mem _
variable {n : Nat} {ms : List M9}
theorem MsOk.fin (h : MsOk n ms) : ∀ x, x ∈ allP n → ∀ k, k < ms.length → fO n ms k x ∈ allP n := fun x hx k hk => by
  have := img_pt (h.ok _ (getM_mem hk)) (allP_pt h.pr hx)
  exact mem_allP this
theorem MsOk.inj (h : MsOk n ms) : ∀ x y, x ∈ allP n → y ∈ allP n → ∀ k, k < ms.length → fO n ms k x = fO n ms k y → x = y := fun x y hx hy k hk e => img_inj (h.ok _ (getM_mem hk)) (allP_pt h.pr hx) (allP_pt h.pr hy) e
theorem MsOk.n13 (h : MsOk n ms) : 3 ≤ n ∧ n ≤ 13 := by have := prB_bd h.pr; omega
theorem allP_len183 {n : Nat} (hn : n ≤ 13) : (allP n).length ≤ 183 := by rw [allP_length]; have : n * n ≤ 13 * 13 := Nat.mul_le_mul hn hn; omega
theorem len183 {A : List Pt} (hn : n ≤ 13) (h : A.Nodup) (hA : ∀ x ∈ A, x ∈ allP n) : A.length ≤ 183 := Nat.le_trans (nodup_len h hA) (allP_len183 hn)
/-- The points met so far, from a point on. -/
def seqP (n : Nat) (ms : List M9) (a : Pt) (i : Nat) : List Pt := seqO (fO n ms) ms.length p0 a i
def innP (n : Nat) (ms : List M9) (A : List Pt) (x : Pt) (k : Nat) : List Pt := innO (fO n ms) A x k
def RunP (n : Nat) (ms : List M9) (a : Pt) (i : Nat) : Prop := ∀ j, j < i → j < (seqP n ms a j).length
def WholeP (n : Nat) (ms : List M9) (a : Pt) (K : Nat) : Prop := WholeO (fO n ms) ms.length p0 a K
theorem RunP.in (h : MsOk n ms) {a : Pt} (ha : a ∈ allP n) {i : Nat} (hr : RunP n ms a i) : ∀ x ∈ seqP n ms a i, x ∈ allP n :=
  seqO_all (P := (· ∈ allP n)) ha h.fin i (by rcases Nat.eq_zero_or_pos i with h2 | h2; (· exact .inl h2); (· exact .inr (hr (i - 1) (by omega)))) hr
theorem seqP_nodup (n : Nat) (ms : List M9) (a : Pt) (i : Nat) : (seqP n ms a i).Nodup := seqO_nodup _ _ _ _ _
theorem innP_nodup {A : List Pt} {x : Pt} (h : A.Nodup) (k : Nat) : (innP n ms A x k).Nodup := innO_nodup _ h k
theorem innP_in (h : MsOk n ms) {A : List Pt} {x : Pt} (hA : ∀ y ∈ A, y ∈ allP n) (hx : x ∈ allP n) {k : Nat} (hk : k ≤ ms.length) : ∀ y ∈ innP n ms A x k, y ∈ allP n :=
  innO_all (n := ms.length) (P := (· ∈ allP n)) hA (fun k hk => h.fin x hx k hk) k hk
theorem innP_succ {A : List Pt} {x y : Pt} {m : M9} {k : Nat} (hm : ms.getD k m0 = m) (hy : imgP n m x = y) : innP n ms A x (k + 1) = if y ∈ innP n ms A x k then innP n ms A x k else innP n ms A x k ++ [y] := by
  show stepO (innP n ms A x k) (imgP n (ms.getD k m0) x) = _
  rw [hm, hy]; unfold stepO
  by_cases h : y ∈ innP n ms A x k
  · rw [if_pos h, if_pos h]
  · rw [if_neg h, if_neg h]
theorem seqP_succ {A : List Pt} {a x : Pt} {i c : Nat} (hA : seqP n ms a i = A) (hx : A.getD i p0 = x) (hc : ms.length = c) : seqP n ms a (i + 1) = innP n ms A x c := by
  show innO (fO n ms) (seqP n ms a i) ((seqP n ms a i).getD i p0) ms.length = _
  rw [hA, hx, hc]; rfl
theorem innP_at {A : List Pt} {x : Pt} {i : Nat} (hi : i < A.length) (k : Nat) : (innP n ms A x k).getD i p0 = A.getD i p0 := preO_at p0 (innO_pre _ A x k) hi
theorem innP_len (A : List Pt) (x : Pt) (k : Nat) : A.length ≤ (innP n ms A x k).length := (innO_pre _ A x k).length_le
theorem RunP.fin {a : Pt} {i K : Nat} (hw : WholeP n ms a K) (hr : RunP n ms a i) (hi : (seqP n ms a i).length = i) : i = K := (WholeO.uniq (f := fO n ms) (n := ms.length) (d := p0) ⟨hr, hi⟩ hw)
theorem whole_P (h : MsOk n ms) {a : Pt} (ha : a ∈ allP n) : ∃ K, WholeP n ms a K := by
  obtain ⟨K, -, hK⟩ := whole_ex (d := p0) ha h.fin
  exact ⟨K, hK⟩
/-- The class labels behind all maps. -/
def classP (n : Nat) (ms : List M9) : Nat → Nat := allU (ixO (fO n ms) p0 (allP n)) (allP n).length ms.length
theorem class_P (h : MsOk n ms) {i j K : Nat} (hi : i < (allP n).length) (hj : j < (allP n).length) (hK : WholeP n ms ((allP n).getD i p0) K) : classP n ms i = classP n ms j ↔ (allP n).getD j p0 ∈ seqP n ms ((allP n).getD i p0) K := by
  have h1 := class_iff (d := p0) (nodup_allP h.pr) h.fin h.inj hi hj
  refine h1.trans ⟨fun ⟨J, hJ, hm⟩ => ?_, fun hm => ⟨K, hK, hm⟩⟩
  obtain rfl := WholeO.uniq hJ hK
  exact hm
/-- The place of the image. -/
def ixP (n : Nat) (ms : List M9) (k i : Nat) : Nat := ixO (fO n ms) p0 (allP n) k i
theorem ixP_at (h : MsOk n ms) {k i : Nat} (hk : k < ms.length) (hi : i < (allP n).length) : ixP n ms k i < (allP n).length ∧ (allP n).getD (ixP n ms k i) p0 = imgP n (ms.getD k m0) ((allP n).getD i p0) := by
  have hm := h.fin _ (getD_mem (d := p0) hi) k hk
  exact ixO_at hm
theorem place_of {L : List Pt} (hn : L.Nodup) {t : Pt} {v : Nat} (hv : v < L.length) (e : L.getD v p0 = t) : t ∈ L ∧ L.idxOf t = v := by
  rw [List.getD_eq_getElem?_getD, List.getElem?_eq_getElem hv] at e
  subst e
  exact ⟨List.getElem_mem _, hn.idxOf_getElem v hv⟩
/-- Labels: never above the place, and of their own class. -/
theorem classP_lab (n : Nat) (ms : List M9) (q : Nat) : classP n ms q ≤ q ∧ classP n ms (classP n ms q) = classP n ms q := allU_lab _ _ _ q
end Go.Proofs.Ytnpmdchphaenaaa
/- Lists of class labels in memory; all blocks but one; the operations of a walk over them. -/
namespace Go.Proofs.Ytnpmdchphaenaaa
open Go.RowKit
set_option linter.unusedVariables false
set_option linter.unusedSimpArgs false
structure RowJ (W : World) (g cap N : Nat) (F : Nat → Int) : Prop where
  room : RoomI W g cap 3
  le : N ≤ cap
  at_ : ∀ j, j < N → W.cell? ⟨g, j, none⟩ = some (.int .i64 (F j))
section
variable {W W' : World} {g g' cap N k : Nat} {F G : Nat → Int}
theorem RowJ.blk (h : RowJ W g cap N F) (e : W'.heap[g]? = W.heap[g]?) : RowJ W' g cap N F := by
  obtain ⟨⟨cur, h1, h2⟩, h3, h4⟩ := h
  refine ⟨⟨cur, e.trans h1, h2⟩, h3, fun j hj => ?_⟩
  rw [← h4 j hj]; unfold World.cell?; rw [e]
theorem RowJ.lt (h : RowJ W g cap N F) : g < W.heap.size := h.room.lt
theorem RowJ.below (h : RowJ W g cap N F) (hb : Below W.heap.size W W') : RowJ W' g cap N F := h.blk (hb.block _ h.lt)
theorem RowJ.link (l : Link W W') (h : RowJ W g cap N F) : RowJ W' g cap N F := h.below l.out
theorem RowJ.alloc (h : RowJ W g cap N F) (o : Obj) : RowJ (W.alloc o) g cap N F := h.below (bal (Below.refl _ _) o)
theorem RowJ.set (h : RowJ W g cap N F) (hk : k < N) (x : Int) : RowJ (W.setCell ⟨g, k, none⟩ (.int .i64 x)) g cap N (fun j => if j = k then x else F j) := by
  refine ⟨h.room.set k _, h.le, fun j hj => ?_⟩
  by_cases e : j = k
  · subst e
    rw [World.cell?_setCell_same _ _ _ (h.at_ j hj)]
    simp
  · rw [World.cell?_setCell_other _ _ _ _ (fun h => e (by cases h; rfl)), h.at_ j hj]
    simp [e]
theorem RowJ.other (h : RowJ W g cap N F) (hne : g ≠ g') (k : Nat) (v : Value) : RowJ (W.setCell ⟨g', k, none⟩ v) g cap N F := h.blk (setCell_blk W hne k v)
theorem RowJ.congr (h : RowJ W g cap N F) (e : ∀ j, j < N → F j = G j) : RowJ W g cap N G := ⟨h.room, h.le, fun j hj => by rw [h.at_ j hj, e j hj]⟩
end
theorem RowJ.cell {W : World} {g cap N k : Nat} {F : Nat → Int} (h : RowJ W g cap N F) (hk : k < N) : CellK W g k (.int .i64 (F k)) := ⟨h.at_ k hk⟩
theorem RowJ.st {W : World} {g cap N k : Nat} {F : Nat → Int} (h : RowJ W g cap N F) (hk : k < N) : StK W g k := ⟨h.room.some k (Nat.lt_of_lt_of_le hk h.le), h.room.frozen k, h.lt⟩
theorem rowJ_own {W : World} {B N : Nat} {v : Value} {l : List Int} (h : OwnK W B 3 1 v N (ints l)) (hl : l.length = N) (hn : 0 < N) :
    ∃ g cap, v = .slice (some ⟨g, 0, none⟩) N cap ∧ B ≤ g ∧ RowJ W g cap N (fun j => l.getD j 0) := by
  rcases h.out.2 with ⟨_, h0⟩ | ⟨g, cap, cur, rfl, hb, hg, hle, _, hsz, htk⟩
  · omega
  · refine ⟨g, cap, rfl, hb, ⟨cur, hg, by simpa using hsz⟩, hle, fun i hi => ?_⟩
    rw [cell_of_row W g i _ _ _ hg]
    have h1 : (cur.toList.take (N * 1))[i]? = (Go.Proofs.Ytnpmdchphaenaaa.ints l)[i]? := by rw [htk]
    rw [Nat.mul_one, List.getElem?_take_of_lt hi] at h1
    rw [← Array.getElem?_toList, h1]
    unfold Go.Proofs.Ytnpmdchphaenaaa.ints
    have hil : i < l.length := by omega
    simp [List.getD, hil]
/-- All blocks but one are as they were. -/
structure ButK (g : Nat) (w W : World) : Prop where
  out : w.heap.size ≤ W.heap.size ∧ (∀ b, b < w.heap.size → b ≠ g → W.heap[b]? = w.heap[b]?) ∧ W.os = w.os ∧ W.tape = w.tape ∧ W.output = w.output
theorem ButK.refl (g : Nat) (w : World) : ButK g w w := ⟨Nat.le_refl _, fun _ _ _ => rfl, rfl, rfl, rfl⟩
theorem ButK.low {g : Nat} {w W W' : World} (l : LowK W W') (h : ButK g w W) : ButK g w W' := by
  obtain ⟨h1, h2, h3, h4, h5⟩ := h.out
  exact ⟨Nat.le_trans h1 l.out.size, fun b hb hne => (l.out.block b (by omega)).trans (h2 b hb hne), l.out.os.trans h3, l.out.tape.trans h4, l.out.output.trans h5⟩
theorem ButK.tr {g : Nat} {w W W' : World} (h' : ButK g W W') (h : ButK g w W) : ButK g w W' := by
  obtain ⟨h1, h2, h3, h4, h5⟩ := h.out
  obtain ⟨k1, k2, k3, k4, k5⟩ := h'.out
  exact ⟨Nat.le_trans h1 k1, fun b hb hne => (k2 b (by omega) hne).trans (h2 b hb hne), k3.trans h3, k4.trans h4, k5.trans h5⟩
theorem ButK.set {g : Nat} {w W : World} (k : Nat) (v : Value) (h : ButK g w W) : ButK g w (W.setCell ⟨g, k, none⟩ v) := by
  obtain ⟨h1, h2, h3, h4, h5⟩ := h.out
  exact ⟨by simpa [World.setCell] using h1, fun b hb hne => (setCell_blk W hne k v).trans (h2 b hb hne), h3, h4, h5⟩
theorem ButK.size {g : Nat} {w W : World} (h : ButK g w W) : w.heap.size ≤ W.heap.size := h.out.1
theorem LowK.but {g : Nat} {w0 w W : World} (h : ButK g w W) (hg : w0.heap.size ≤ g) (l : LowK w0 w) : LowK w0 W := by
  obtain ⟨h1, h2, h3, h4, h5⟩ := h.out
  exact ⟨⟨h3.trans l.out.os, h4.trans l.out.tape, h5.trans l.out.output, Nat.le_trans l.out.size h1, fun k hk => (h2 k (Nat.lt_of_lt_of_le hk l.out.size) (by omega)).trans (l.out.block k hk)⟩⟩
theorem cell_but {g : Nat} {w W : World} (h : ButK g w W) {b o : Nat} {v : Value} (hne : b ≠ g) (hc : w.cell? ⟨b, o, none⟩ = some v) : W.cell? ⟨b, o, none⟩ = some v := by
  have hb : b < w.heap.size := World.block_lt_of_cell? w _ hc
  have := h.out.2.1 b hb hne
  rw [← hc]; unfold World.cell?; rw [this]
theorem PtsK.but {g : Nat} {w W : World} (h : ButK g w W) {b o n : Nat} {L : List Pt} (hne : b ≠ g) (hP : PtsK w b o n L) : PtsK W b o n L :=
  ⟨fun i hi => ⟨cell_but h hne (hP.out i hi).1, cell_but h hne (hP.out i hi).2.1, cell_but h hne (hP.out i hi).2.2⟩⟩
theorem GoMapP.but {g : Nat} {w W : World} (h : ButK g w W) {b : Nat} {L : List Pt} (hne : b ≠ g) (hM : GoMapP w b L) : GoMapP W b L := hM.blk (h.out.2.1 b hM.lt hne)
theorem RowK.but {g : Nat} {w W : World} (h : ButK g w W) {b : Nat} {cs : Array Value} {T : TypeId} (hne : b ≠ g) (hR : RowK w b cs T) : RowK W b cs T := ⟨(h.out.2.1 b hR.lt hne).trans hR.out⟩
theorem RowJ.grew {w W : World} {u : Value} {g cap N : Nat} {F : Nat → Int} (hg : Grew w u W) (ho : Off u g) (h : RowJ w g cap N F) : RowJ W g cap N F := h.blk (hg.out.block g h.lt (fun e => ho.out e.symm))
theorem findGomP {W : World} {g : Nat} {L : List Pt} (h : GoMapP W g L := by repeat (first | with_reducible assumption | (apply GoMapP.link; (· with_reducible assumption)) | with_reducible apply GoMapP.alloc | with_reducible apply GoMapP.drew | ((with_reducible apply GoMapP.set); (· first | assumption | omega | (simp; omega))))) : GoMapP W g L := h
theorem GoMapP.set2 {W : World} {g b : Nat} {U : Array Value} {L : List Pt} (hne : g ≠ b) (h : GoMapP W g L) : GoMapP (W.setRow b U) g L := h.set hne
def upI (k : Nat) : List Int := (List.range k).map (fun j : Nat => (j : Int))
theorem upI_succ (k : Nat) : upI k ++ [(k : Int)] = upI (k + 1) := by simp [upI, List.range_succ]
theorem upI_length (k : Nat) : (upI k).length = k := by simp [upI]
theorem upI_at {k j : Nat} (h : j < k) : (upI k).getD j 0 = (j : Int) := by simp [upI, List.getD, h]
theorem take_snoc {L : List Pt} {k : Nat} {t : Pt} (hk : k < L.length) (ht : L.getD k (0, 0, 0) = t) : L.take k ++ [t] = L.take (k + 1) := by
  rw [List.getD_eq_getElem?_getD, List.getElem?_eq_getElem hk] at ht
  subst ht
  exact (List.take_succ_eq_append_getElem hk).symm
theorem take_new {L : List Pt} (hn : L.Nodup) {k : Nat} {t : Pt} (hk : k < L.length) (ht : L.getD k (0, 0, 0) = t) : t ∉ L.take k := by
  rw [List.getD_eq_getElem?_getD, List.getElem?_eq_getElem hk] at ht
  replace ht : L[k] = t := ht
  subst ht
  intro hm
  obtain ⟨i, hi, e⟩ := List.mem_take_iff_getElem.1 hm
  have h1 := hn.idxOf_getElem i (by omega)
  have h2 := hn.idxOf_getElem k hk
  rw [e] at h1
  omega
theorem GoMapP.neJ {W : World} {g gc cc N : Nat} {L : List Pt} {F : Nat → Int} (h : GoMapP W g L) (hR : RowJ W gc cc N F) : g ≠ gc := by
  rintro rfl
  obtain ⟨es, cl, h1, -⟩ := h.out
  obtain ⟨cur, h2, -⟩ := hR.room
  rw [h1] at h2; cases h2
/-- The labels behind the first q maps. -/
def clsP (n : Nat) (ms : List M9) (q : Nat) : Nat → Nat := allU (ixP n ms) (allP n).length q
theorem clsP_succ (n : Nat) (ms : List M9) (q : Nat) : clsP n ms (q + 1) = rowU (ixP n ms q) (clsP n ms q) (allP n).length := rfl
theorem rowU_next {ix c f : Nat → Nat} {i j a b : Nat} (hf : rowU ix c i = f) (hj : ix i = j) (ha : f i = a) (hb : f j = b) : rowU ix c (i + 1) = mrg f a b := by
  show mrg (rowU ix c i) (rowU ix c i i) (rowU ix c i (ix i)) = _
  rw [hf, hj, ha, hb]
theorem mrg_put {f : Nat → Nat} {a1 a2 mx mn j fj N : Nat} (hM : ∀ l, mrg f a1 a2 l = if f l = mx then mn else f l) (hf : f j = fj) (hm : fj = mx) {l : Nat} (hl : l < N) :
    (if l = j then (mn : Int) else ((if l < j then mrg f a1 a2 l else f l : Nat) : Int)) = ((if l < j + 1 then mrg f a1 a2 l else f l : Nat) : Int) := by
  by_cases e : l = j
  · subst e; rw [if_pos rfl, if_pos (Nat.lt_succ_self _), hM, if_pos (by omega)]
  · rw [if_neg e]
    by_cases h : l < j
    · rw [if_pos h, if_pos (by omega)]
    · rw [if_neg h, if_neg (by omega)]
theorem mrg_skip {f : Nat → Nat} {a1 a2 mx mn j fj N : Nat} (hM : ∀ l, mrg f a1 a2 l = if f l = mx then mn else f l) (hf : f j = fj) (hm : fj ≠ mx) {l : Nat} (hl : l < N) :
    ((if l < j then mrg f a1 a2 l else f l : Nat) : Int) = ((if l < j + 1 then mrg f a1 a2 l else f l : Nat) : Int) := by
  by_cases e : l = j
  · subst e; rw [if_neg (Nat.lt_irrefl _), if_pos (Nat.lt_succ_self _), hM, if_neg (by omega)]
  · by_cases h : l < j
    · rw [if_pos h, if_pos (by omega)]
    · rw [if_neg h, if_neg (by omega)]
theorem eltSp : EltK Try.prog 27 39 1 := by
  obtain ⟨i0, hi, hz0, hz1, hz2⟩ := info_parts (show (Try.prog.info? 39).map (fun i => (i.zero, i.size, i.bytes)) = some (some (.slice none 0 0), 1, 24) by kernel_rfl)
  exact ⟨Try.underlying27, i0, _, hi, hz0, hz1, rfl, by decide, by decide, by rw [hz2]; decide⟩
section
variable {ρ : Operand → Value} {ops : Array Oper} {rest : List Oper} {o : Oper} {a : Act} {w W : World} {Q : Exit → Act → World → Prop} {ty : TypeId} {x y : Operand}
theorem ld_cellJ {g k : Nat} {v : Value} (hop : o.op = .load ty x := by exact rfl) (hx : ρ x = .pointer (some ⟨g, k, none⟩) := by exact rfl)
    (hc : CellK W g k v := by first | with_reducible assumption | (with_reducible apply CellK.viaLow; (· with_reducible assumption); (· exact findLow)) | (with_reducible apply CellK.link; (· with_reducible assumption); (· with_reducible assumption)))
    (ha : ∀ W, (isAgg ty).run Try.prog W = .ok false W := by first | exact Try.isAgg3 | exact Try.isAgg39) : (execOp ρ o).run Try.prog W = .ok (.value v) W := by
  have h := hc.out
  unfold execOp
  simp only [hop, hx, Instr.loadAt, Instr.sureAddr, Sem.run_bind, Sem.run_pure, Result.andThen_ok, loadVar, ha, Bool.false_eq_true, if_false]
  rw [run_load]
  simp [h]
theorem wl_loadJ {v : Value} (hK : wpList Try.prog ops Q rest (a.put o.dst v) w) (hgd : o.guard = none := by exact rfl) (hop : o.op = .load ty x := by exact rfl)
    (hr : (execOp a.eval o).run Try.prog w = .ok (.value v) w := by exact ld_cellJ) : wpList Try.prog ops Q (o :: rest) a w := wpList_load_any w hgd ty x hop hr hK
theorem q_loadJ {G : Grow0 w} {K : Act → Prop} {v : Value} (hK : K (a.put o.dst v)) (hop : o.op = .load ty x := by exact rfl)
    (h : ∀ W, Link w W → (execOp a.eval o).run Try.prog W = .ok (.value v) W := by (intro W hl; exact ld_cellJ)) : o.quiet Try.prog a (fun w' => ∃ g : Grow w G, w' = g.W) K := q_load_any ty x hop h hK
theorem wl_storeJ {g k : Nat} {v : Value} (hK : wpList Try.prog ops Q rest a (w.setCell ⟨g, k, none⟩ v)) (hgd : o.guard = none := by exact rfl) (hop : o.op = .store ty x y := by exact rfl) (hd : o.dst = none := by exact rfl)
    (hx : a.eval x = .pointer (some ⟨g, k, none⟩) := by exact rfl) (hy : a.eval y = v := by conv => lhs; whnf)
    (hS : StK w g k := by first | with_reducible assumption | (with_reducible apply StK.viaLow; (· with_reducible assumption); (· exact findLow)) | (with_reducible apply StK.link; (· with_reducible assumption); (· with_reducible assumption)))
    (h1 : v.cells = #[v] := by exact rfl) (h2 : v.oneCell' = true := by exact rfl) (hs : ∀ W, (sizeOf ty).run Try.prog W = .ok 1 W := by exact Try.sizeOf3) : wpList Try.prog ops Q (o :: rest) a w := by
  obtain ⟨s1, s2, -⟩ := hS.out
  obtain ⟨u, hu⟩ := Option.isSome_iff_exists.1 s1
  have hr : (execOp a.eval o).run Try.prog w = .ok .skip (w.setCell ⟨g, k, none⟩ v) := by
    unfold execOp
    simp only [hop, hx, hy, Instr.storeAt, Instr.sureAddr, Sem.run_bind, Sem.run_pure, Result.andThen_ok, storeVar, hs, h1]
    have e : ((⟨g, k, none⟩ : Addr).add 0) = ⟨g, k, none⟩ := by unfold Addr.add; split <;> simp_all
    simp [storeCells, e, run_store, h2, hu, s2, go_sem]
  refine wpList_plain hgd fun K hK' => ?_
  unfold Oper.wp
  rw [hr]
  simp only [Oper.upon, hd]
  exact hK' _ _ hK
end
end Go.Proofs.Ytnpmdchphaenaaa

