/- The law FnExactNewDesk: walked. -/
import Derived.Test.YthkbhaaodegocaaN2
namespace Go.Proofs.Ythkbhaaodegocaa
open Go.RowKit
set_option linter.unusedVariables false
set_option linter.unusedSimpArgs false
theorem wpList_load_row {P : Program} (w : World) {ops : Array Oper} {rest : List Oper} {o : Oper} {a : Act} {Q : Exit → Act → World → Prop}
    (hgd : o.guard = none) (ty : TypeId) (x : Operand) (hop : o.op = .load ty x) {g : Nat} {T : TypeId} {cs : Array Value} {fr : Nat × Nat} (hx : a.eval x = .pointer (some ⟨g, 0, none⟩))
    (hg : w.heap[g]? = some (.cells cs T fr)) (n : Nat) (hn : cs.size = n) (hs : ∀ W, (sizeOf ty).run P W = .ok n W) (ha : ∀ W, (isAgg ty).run P W = .ok true W) (hK : wpList P ops Q rest (a.put o.dst (.agg cs)) w) : wpList P ops Q (o :: rest) a w := by
  refine wpList_plain hgd fun K hK' => ?_
  have hv := run_loadRow (P := P) ty hg n hn hs ha
  have hr : (execOp a.eval o).run P w = .ok (.value (.agg cs)) w := by
    unfold execOp
    simp only [hop, hx, Instr.loadAt, Instr.sureAddr, Sem.run_bind, Sem.run_pure, Result.andThen_ok, hv]
  unfold Oper.wp
  rw [hr]
  simp only [Oper.upon]
  exact hK' _ _ hK
theorem alloc_setRow (w : World) (Z U : Array Value) (T : TypeId) : (w.alloc (.cells Z T)).setRow w.heap.size U = w.alloc (.cells U T) := by
  unfold World.setRow World.alloc
  congr 1
  apply Array.ext
  · simp
  · intro i h1 h2
    simp only [Array.getElem_modify, Array.getElem_push]
    by_cases e : i < w.heap.size
    · have : w.heap.size ≠ i := by omega
      simp [e, this]
    · have : w.heap.size = i := by simp at h2; omega
      simp [e, this]
theorem FnExactNewDesk_walk (w : World) : Calls Try.prog 3 #[] w (Ret w (.bool true)) := by
  go_enter Try.func3, Try.ntmps3
  go_wp2_with (first
    | (go_at_call 15; (with_reducible refine (NewDesk_spec _).mono ?_); rintro e w1_ ⟨rfl, hb1⟩; obtain ⟨hcb1, hfb1, hlb1⟩ := bcell hb1; have hsz1 := hb1.size; (try simp at hsz1); have HB1 := Lib.hid hb1; clear hb1)
    | (go_at_call 16; (with_reducible refine (NewDesk_impl _).mono ?_); rintro e w2_ ⟨rfl, hb2⟩; obtain ⟨hcb2, hfb2, hlb2⟩ := bcell hb2; have hsz2 := hb2.size; (try simp at hsz2); have HB2 := Lib.hid hb2; clear hb2)
    | (refine wpList_store_row _ rfl 30 _ _ rfl rfl rfl rfl (heap_alloc_new _ _) rfl Try.sizeOf30 (by simp [deskC, Value.oneCell']) ?_; rw [alloc_setRow])
    | (refine wpList_load_row _ rfl 30 _ rfl (g := w1_.heap.size) (T := 30) (cs := deskC) (fr := (0, 0)) rfl (by rw [hn_pastN _ _ _ (by first | omega | (simp; done) | (simp; omega)), HB2.out.block _ (by first | omega | (simp; done) | (simp; omega)), hn_atN _ _ _ (by simp)]) 22 rfl Try.sizeOf30 Try.isAgg30 ?_)
    | (refine wpList_load_row _ rfl 30 _ rfl (g := w2_.heap.size) (T := 30) (cs := deskC) (fr := (0, 0)) rfl (by rw [hn_atN _ _ _ (by simp)]) 22 rfl Try.sizeOf30 Try.isAgg30 ?_)
    | (go_at_call 17; (with_reducible refine (eqDesk_5 _).mono ?_); rintro e w3_ ⟨rfl, hb3⟩; obtain ⟨hcb3, hfb3, hlb3⟩ := bcell hb3; have hsz3 := hb3.size; (try simp at hsz3); have HB3 := Lib.hid hb3; clear hb3))
  go_ret
  exact ⟨rfl, (by repeat (first | exact Below.refl _ _ | refine bset ?_ _ _ (by omega) _ | refine bal ?_ _ | refine bdrN ?_ _ | refine bdr ?_ | refine below_tr' ?_ HB3.out | refine below_tr' ?_ HB2.out | refine below_tr' ?_ HB1.out))⟩
end Go.Proofs.Ythkbhaaodegocaa
