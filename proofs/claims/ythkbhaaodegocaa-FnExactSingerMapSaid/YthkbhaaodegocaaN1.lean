/- The first desk: both makings. -/
import Derived.Test.YthkbhaaodegocaaW8
import Derived.Test.YthkbhaaodegocaaRegG
namespace Go.Proofs.Ythkbhaaodegocaa
open Go.RowKit
set_option linter.unusedVariables false
set_option linter.unusedSimpArgs false
theorem run_loadRow {P : Program} {W : World} {g : Nat} {T : TypeId} {cs : Array Value} {fr : Nat × Nat} (ty : TypeId)
    (hg : W.heap[g]? = some (.cells cs T fr)) (n : Nat) (hn : cs.size = n) (hs : ∀ W, (sizeOf ty).run P W = .ok n W) (ha : ∀ W, (isAgg ty).run P W = .ok true W) : (loadVar ty ⟨g, 0, none⟩).run P W = .ok (.agg cs) W := by
  subst hn
  have hl : (loadCells ⟨g, 0, none⟩ cs.toList.length).run P W = .ok cs.toList.toArray W :=
    run_loadCells_list (P := P) W ⟨g, 0, none⟩ cs.toList (fun j v hv => by
      have hadd : (⟨g, 0, none⟩ : Addr).add j = ⟨g, j, none⟩ := by unfold Addr.add; split <;> simp_all
      rw [hadd, cell_of_row W g j cs T fr hg]
      simpa using hv)
  simp only [Array.length_toList, Array.toArray_toList] at hl
  unfold loadVar
  rw [Sem.run_bind, ha]
  simp only [Result.andThen_ok, if_true]
  rw [Sem.run_bind, hs]
  simp only [Result.andThen_ok]
  rw [Sem.run_bind, hl]
  rfl
theorem results_row {P : Program} {fn : Func} {tmps : Array Value} {t : Tmp} {W : World} {g : Nat} {T : TypeId} {cs : Array Value} {fr : Nat × Nat} {ty : TypeId} (h : fn.results = #[.cell t ty]) (ht : tmps.getD t undef = .pointer (some ⟨g, 0, none⟩))
    (hg : W.heap[g]? = some (.cells cs T fr)) (n : Nat) (hn : cs.size = n) (hs : ∀ W, (sizeOf ty).run P W = .ok n W) (ha : ∀ W, (isAgg ty).run P W = .ok true W) : (results fn tmps).run P W = .ok (.agg cs) W := by
  have hv := run_loadRow (P := P) ty hg n hn hs ha
  have ht' : tmps[t]?.getD undef = .pointer (some ⟨g, 0, none⟩) := by rw [← Array.getD_eq_getD_getElem?]; exact ht
  have hp : ∀ a : Addr, asAddr (.pointer (some a)) = pure a := fun _ => rfl
  simp [results, h, ht', hp, Sem.run_bind, Sem.run_pure, hv]
theorem wpList_store_row {P : Program} (w : World) {ops : Array Oper} {rest : List Oper} {o : Oper} {a : Act} {Q : Exit → Act → World → Prop}
    (hgd : o.guard = none) (ty : TypeId) (x y : Operand) (hop : o.op = .store ty x y) (hd : o.dst = none) {g : Nat} {T : TypeId} {cs U : Array Value} (hx : a.eval x = .pointer (some ⟨g, 0, none⟩)) (hy : a.eval y = .agg U)
    (hg : w.heap[g]? = some (.cells cs T (0, 0))) (hn : cs.size = U.size) (hs : ∀ W, (sizeOf ty).run P W = .ok U.size W) (h1 : ∀ v ∈ U.toList, v.oneCell' = true) (hK : wpList P ops Q rest a (w.setRow g U)) : wpList P ops Q (o :: rest) a w := by
  refine wpList_plain hgd fun K hK' => ?_
  unfold Oper.wp
  rw [run_store_row ty x y hop hx hy hg hn hs h1]
  simp only [Oper.upon, hd]
  exact hK' _ _ hK
theorem wpList_build {P : Program} (w : World) {ops : Array Oper} {rest : List Oper} {o : Oper} {a : Act} {Q : Exit → Act → World → Prop}
    (hgd : o.guard = none) (t : TypeId) (parts : Array (Nat × Operand)) (hop : o.op = .build t parts) (U : Array Value) (hb : P.built t (parts.map fun (i, x) => (i, a.eval x)).toList = some U)
    (hK : wpList P ops Q rest (a.put o.dst (.agg U)) w) : wpList P ops Q (o :: rest) a w := by
  refine wpList_plain hgd fun K hK' => wp_build t parts hop (by rw [hb]; rfl) ?_
  rw [hb]
  exact hK' _ _ hK
theorem hn_atN (w : World) (o : Obj) (n : Nat) (h : n = w.heap.size) : (w.alloc o).heap[n]? = some o := by subst h; exact heap_alloc_new w o
theorem hn_pastN (w : World) (o : Obj) (n : Nat) (h : n < w.heap.size) : (w.alloc o).heap[n]? = w.heap[n]? := by
  rw [heap_alloc_old]; exact h
theorem below_setRowN {B g : Nat} {w W : World} (h : Below B w W) (hg : B ≤ g) (cs : Array Value) : Below B w (W.setRow g cs) :=
  ⟨h.os, h.tape, h.output, by simpa [World.setRow] using h.size, fun k hk => (setRow_other W g k cs (by omega)).trans (h.block k hk)⟩
def deskC : Array Value := #[.int .i64 5, .int .i64 0, .int .i64 0, .int .i64 1, .int .i64 1, .int .i64 0, .int .i64 0, .int .i64 0, .int .i64 1, .int .i64 0, .int .i64 0, .int .i64 0, .int .i64 1, .int .i64 1, .int .i64 0, .int .i64 0, .int .i64 1, .int .i64 0, .int .i64 0, .int .i64 0, .int .i64 0, .int .i64 4]
theorem l11Fresh_5 (w : World) : Calls Try.prog 59 #[.int .i64 5] w (Ret w (.agg deskC)) := by
  go_enter Try.func59, Try.ntmps59
  go_wp2_with (first
    | (refine wpList_build _ rfl 30 _ rfl deskC (by kernel_rfl) ?_)
    | (refine wpList_store_row _ rfl 30 _ _ rfl rfl rfl rfl (heap_alloc_new _ _) rfl Try.sizeOf30 (by simp [deskC, Value.oneCell']) ?_))
  exact bodyPost_ret (v := .agg deskC) (results_row Try.results59 rfl (setRow_heap _ _ _ _ _ _ (heap_alloc_new _ _)) 22 rfl Try.sizeOf30 Try.isAgg30) rfl ⟨rfl, below_setRowN (bal (Below.refl _ _) _) (Nat.le_refl _) _⟩
def conC : Array Value := #[.int .i64 1, .int .i64 0, .int .i64 0, .int .i64 0, .int .i64 0, .int .i64 4]
theorem freshConic_5 (w : World) : Calls Try.prog 124 #[.int .i64 5] w (Ret w (.agg conC)) := by
  go_enter Try.func124, Try.ntmps124
  go_wp2_with (first
    | (refine wpList_build _ rfl 28 _ rfl conC (by kernel_rfl) ?_)
    | (refine wpList_store_row _ rfl 28 _ _ rfl rfl rfl rfl (heap_alloc_new _ _) rfl Try.sizeOf28 (by simp [conC, Value.oneCell']) ?_))
  exact bodyPost_ret (v := .agg conC) (results_row Try.results124 rfl (setRow_heap _ _ _ _ _ _ (heap_alloc_new _ _)) 6 rfl Try.sizeOf28 Try.isAgg28) rfl ⟨rfl, below_setRowN (bal (Below.refl _ _) _) (Nat.le_refl _) _⟩
theorem freshDesk_5 (w : World) : Calls Try.prog 60 #[.int .i64 5] w (Ret w (.agg deskC)) := by
  go_enter Try.func60, Try.ntmps60
  go_wp2_with (first
    | (refine wpList_build _ rfl 30 _ rfl deskC (by kernel_rfl) ?_)
    | (go_at_call 93; (with_reducible refine (far_any _).mono ?_); rintro e w1_ ⟨rfl, hb1⟩; obtain ⟨hcb1, hfb1, hlb1⟩ := bcell hb1; have hsz1 := hb1.size; (try simp at hsz1); have HB1 := Lib.hid hb1; clear hb1; (try (have hl01 : w.heap.size < w1_.heap.size := by omega)))
    | (go_at_call 124; (with_reducible refine (freshConic_5 _).mono ?_); rintro e w2_ ⟨rfl, hb2⟩; obtain ⟨hcb2, hfb2, hlb2⟩ := bcell hb2; have hsz2 := hb2.size; (try simp at hsz2); have HB2 := Lib.hid hb2; clear hb2; (try (have hl02 : w.heap.size < w2_.heap.size := by omega)))
    | (refine wpList_store_row _ rfl 30 _ _ rfl rfl (g := w.heap.size) (T := 30) (cs := #[.int .i64 0, .int .i64 0, .int .i64 0, .int .i64 0, .int .i64 0, .int .i64 0, .int .i64 0, .int .i64 0, .int .i64 0, .int .i64 0, .int .i64 0, .int .i64 0, .int .i64 0, .int .i64 0, .int .i64 0, .int .i64 0, .int .i64 0, .int .i64 0, .int .i64 0, .int .i64 0, .int .i64 0, .int .i64 0]) (U := deskC) rfl rfl (by rw [HB2.out.block _ (by omega), HB1.out.block _ (by simp), hn_atN _ _ _ (by simp)]) rfl Try.sizeOf30 (by simp [deskC, Value.oneCell']) ?_))
  have hr : w2_.heap[w.heap.size]? = some (.cells #[.int .i64 0, .int .i64 0, .int .i64 0, .int .i64 0, .int .i64 0, .int .i64 0, .int .i64 0, .int .i64 0, .int .i64 0, .int .i64 0, .int .i64 0, .int .i64 0, .int .i64 0, .int .i64 0, .int .i64 0, .int .i64 0, .int .i64 0, .int .i64 0, .int .i64 0, .int .i64 0, .int .i64 0, .int .i64 0] 30 (0, 0)) := by rw [HB2.out.block _ (by omega), HB1.out.block _ (by simp), hn_atN _ _ _ (by simp)]
  exact bodyPost_ret (v := .agg deskC) (results_row Try.results60 rfl (setRow_heap _ _ _ _ _ _ hr) 22 rfl Try.sizeOf30 Try.isAgg30) rfl ⟨rfl, below_setRowN (by repeat (first | exact Below.refl _ _ | refine bset ?_ _ _ (by omega) _ | refine bal ?_ _ | refine bdrN ?_ _ | refine bdr ?_ | refine below_tr' ?_ HB2.out | refine below_tr' ?_ HB1.out)) (Nat.le_refl _) _⟩
theorem NewDesk_spec (w : World) : Calls Try.prog 15 #[] w (Ret w (.agg deskC)) := by
  go_enter Try.func15, Try.ntmps15
  go_wp2_with (first
    | (go_at_call 59; (with_reducible refine (l11Fresh_5 _).mono ?_); rintro e w1_ ⟨rfl, hb1⟩; obtain ⟨hcb1, hfb1, hlb1⟩ := bcell hb1; have hsz1 := hb1.size; (try simp at hsz1); have HB1 := Lib.hid hb1; clear hb1; (try (have hl01 : w.heap.size < w1_.heap.size := by omega)))
    | (refine wpList_store_row _ rfl 30 _ _ rfl rfl (g := w.heap.size) (T := 30) (cs := #[.int .i64 0, .int .i64 0, .int .i64 0, .int .i64 0, .int .i64 0, .int .i64 0, .int .i64 0, .int .i64 0, .int .i64 0, .int .i64 0, .int .i64 0, .int .i64 0, .int .i64 0, .int .i64 0, .int .i64 0, .int .i64 0, .int .i64 0, .int .i64 0, .int .i64 0, .int .i64 0, .int .i64 0, .int .i64 0]) (U := deskC) rfl rfl (by rw [HB1.out.block _ (by simp), hn_atN _ _ _ (by simp)]) rfl Try.sizeOf30 (by simp [deskC, Value.oneCell']) ?_))
  have hr : w1_.heap[w.heap.size]? = some (.cells #[.int .i64 0, .int .i64 0, .int .i64 0, .int .i64 0, .int .i64 0, .int .i64 0, .int .i64 0, .int .i64 0, .int .i64 0, .int .i64 0, .int .i64 0, .int .i64 0, .int .i64 0, .int .i64 0, .int .i64 0, .int .i64 0, .int .i64 0, .int .i64 0, .int .i64 0, .int .i64 0, .int .i64 0, .int .i64 0] 30 (0, 0)) := by rw [HB1.out.block _ (by simp), hn_atN _ _ _ (by simp)]
  exact bodyPost_ret (v := .agg deskC) (results_row Try.results15 rfl (setRow_heap _ _ _ _ _ _ hr) 22 rfl Try.sizeOf30 Try.isAgg30) rfl ⟨rfl, below_setRowN (by repeat (first | exact Below.refl _ _ | refine bset ?_ _ _ (by omega) _ | refine bal ?_ _ | refine bdrN ?_ _ | refine bdr ?_ | refine below_tr' ?_ HB1.out)) (Nat.le_refl _) _⟩
theorem NewDesk_impl (w : World) : Calls Try.prog 16 #[] w (Ret w (.agg deskC)) := by
  go_enter Try.func16, Try.ntmps16
  go_wp2_with (first
    | (go_at_call 60; (with_reducible refine (freshDesk_5 _).mono ?_); rintro e w1_ ⟨rfl, hb1⟩; obtain ⟨hcb1, hfb1, hlb1⟩ := bcell hb1; have hsz1 := hb1.size; (try simp at hsz1); have HB1 := Lib.hid hb1; clear hb1; (try (have hl01 : w.heap.size < w1_.heap.size := by omega)))
    | (refine wpList_store_row _ rfl 30 _ _ rfl rfl (g := w.heap.size) (T := 30) (cs := #[.int .i64 0, .int .i64 0, .int .i64 0, .int .i64 0, .int .i64 0, .int .i64 0, .int .i64 0, .int .i64 0, .int .i64 0, .int .i64 0, .int .i64 0, .int .i64 0, .int .i64 0, .int .i64 0, .int .i64 0, .int .i64 0, .int .i64 0, .int .i64 0, .int .i64 0, .int .i64 0, .int .i64 0, .int .i64 0]) (U := deskC) rfl rfl (by rw [HB1.out.block _ (by simp), hn_atN _ _ _ (by simp)]) rfl Try.sizeOf30 (by simp [deskC, Value.oneCell']) ?_))
  have hr : w1_.heap[w.heap.size]? = some (.cells #[.int .i64 0, .int .i64 0, .int .i64 0, .int .i64 0, .int .i64 0, .int .i64 0, .int .i64 0, .int .i64 0, .int .i64 0, .int .i64 0, .int .i64 0, .int .i64 0, .int .i64 0, .int .i64 0, .int .i64 0, .int .i64 0, .int .i64 0, .int .i64 0, .int .i64 0, .int .i64 0, .int .i64 0, .int .i64 0] 30 (0, 0)) := by rw [HB1.out.block _ (by simp), hn_atN _ _ _ (by simp)]
  exact bodyPost_ret (v := .agg deskC) (results_row Try.results16 rfl (setRow_heap _ _ _ _ _ _ hr) 22 rfl Try.sizeOf30 Try.isAgg30) rfl ⟨rfl, below_setRowN (by repeat (first | exact Below.refl _ _ | refine bset ?_ _ _ (by omega) _ | refine bal ?_ _ | refine bdrN ?_ _ | refine bdr ?_ | refine below_tr' ?_ HB1.out)) (Nat.le_refl _) _⟩
end Go.Proofs.Ythkbhaaodegocaa
