/- Texts of the claim, in build order: K4, N1, N2, N3, Y1, RegU. No condition. -/
import Derived.Test.YtidbikjdigemnaaZDegreesOfFigure5
/- Contracts: IsFigure, of the reference and of the program. -/
namespace Go.Proofs.Ytidbikjdigemnaa
open Go.RowKit
set_option linter.unusedVariables false
set_option linter.unusedSimpArgs false
set_option maxHeartbeats 1000000 in
theorem l09All_any (p : Int) (b1 : Option Addr) (n1 c1 : Nat) (b2 : Option Addr) (n2 c2 : Nat) (l1 l2 : List Pt) (w : World) (hn1 : n1 ≤ 1000000) (hn2 : n2 ≤ 1000000) (h1 : ListP w b1 n1 l1) (h2 : ListP w b2 n2 l2) :
    Calls Try.prog 40 #[.int .i64 p, figV b1 n1 c1 b2 n2 c2] w (Ret w (.int .i64 (codeOf p (ptsB p l1 && ptsB p l2)))) := by
  have HA := Lib.hid (fun (W : World) (hW : Below w.heap.size w W) => l01Code_list p b1 n1 c1 l1 W hn1 (h1.below hW))
  by_cases hz : codeOf p (ptsB p l1) = 0
  · have HE : Hid (codeOf p (ptsB p l1 && ptsB p l2) = codeOf p (ptsB p l2)) := Lib.hid (by
      have : ptsB p l1 = true := by
        cases h : ptsB p l1 with
        | true => rfl
        | false => rw [h] at hz; unfold codeOf at hz; revert hz; cases prB p <;> simp
      rw [this, Bool.true_and])
    have HP : Hid (prB p = true) := Lib.hid (by
      cases h : prB p with
      | true => rfl
      | false => rw [codeOf_no _ h] at hz; cases hz)
    rw [hz] at HA
    have HL := Lib.hid h2
    clear h1 h2 hz
    go_enter Try.func40, Try.ntmps40
    go_wp2_with (go_at_call 51; (with_reducible refine (HA.out _ (by repeat (first | exact Below.refl _ _ | refine bset ?_ _ _ (by omega) _ | refine bal ?_ _ | refine bdrN ?_ _ | refine bdr ?_))).mono ?_); rintro e w1_ ⟨rfl, hb1⟩; obtain ⟨hcb1, hfb1, hlb1⟩ := bcell hb1; have hsz1 := hb1.size; (try simp at hsz1); have HB1 := Lib.hid hb1; clear hb1; (try (have hl01 : w.heap.size < w1_.heap.size := by omega)))
    have HQ1 : Hid (Below w.heap.size w w1_) := Lib.hid (by repeat (first | exact Below.refl _ _ | refine bset ?_ _ _ (by omega) _ | refine bal ?_ _ | refine bdrN ?_ _ | refine bdr ?_ | refine below_tr' ?_ HB1.out))
    have hb1 : w1_.heap[w.heap.size]? = some (.cells #[.slice b1 n1 c1, .slice b2 n2 c2] 29 (0, 0)) := by rw [HB1.out.block _ (by simp)]; exact heap_alloc_new _ _
    go_loopw [6] (fun i wr => ∃ k : Nat, k ≤ n2 ∧ i = .int .i64 k ∧ Hid (ptsB p (l2.take k) = true) ∧ Hid (Below w1_.heap.size w1_ wr)) (fun i wr => n2 - (intOf i).toNat)
    case atStart => exact ⟨0, Nat.zero_le _, rfl, Lib.hid rfl, Lib.hid (Below.refl _ _)⟩
    case round =>
      obtain ⟨k, hk, rfl, HD, HB⟩ := hrel
      have hbw : wr.heap[w.heap.size]? = some (.cells #[.slice b1 n1 c1, .slice b2 n2 c2] 29 (0, 0)) := by rw [HB.out.block _ (by omega)]; exact hb1
      have q0 := cell_of_row wr _ 0 _ _ _ hbw
      have q1 := cell_of_row wr _ 1 _ _ _ hbw
      simp at q0 q1
      by_cases hlt : k < n2
      · obtain ⟨g, o, rfl, hp⟩ := HL.out.2 (by omega)
        obtain ⟨c0, c1, c2⟩ := ((hp.below (below_tr' (bal (Below.refl _ _) _) HB1.out)).below HB.out) k hlt
        clear hp
        have HS := Lib.hid (take_snoc' l2 (0,0,0) k (by have := HL.out.1; omega))
        have HF := Lib.hid (fun h => ptsB_false (p := p) (l := l2) (k := k) (by have := HL.out.1; omega) h)
        generalize l2.getD k (0,0,0) = a at *
        obtain ⟨x, y, z⟩ := a
        dsimp only at c0 c1 c2
        cases hv : ptB p x y z with
        | true =>
          have HV := Lib.hid hv
          have HC := Lib.hid (fun (W : World) => l01Line_any p x y z W)
          rw [hv] at HC
          clear hv
          go_wp2_with (go_at_call 52; (with_reducible refine (HC.out _).mono ?_); rintro e w2_ ⟨rfl, hb2⟩; obtain ⟨hcb2, hfb2, hlb2⟩ := bcell hb2; have hsz2 := hb2.size; (try simp at hsz2); have HB2 := Lib.hid hb2; clear hb2; (try (have hl02 : w.heap.size < w2_.heap.size := by omega)))
          go_roundw
          case rel => exact ⟨k + 1, by omega, by go_num, Lib.hid (by rw [HS.out, ptsB_snoc, HD.out]; exact HV.out), Lib.hid (below_tr' HB.out HB2.out)⟩
          case measure => simp [intOf]; omega
        | false =>
          have HV := Lib.hid hv
          have HC := Lib.hid (fun (W : World) => l01Line_any p x y z W)
          rw [hv] at HC
          clear hv
          go_wp2_with (go_at_call 52; (with_reducible refine (HC.out _).mono ?_); rintro e w2_ ⟨rfl, hb2⟩; obtain ⟨hcb2, hfb2, hlb2⟩ := bcell hb2; have hsz2 := hb2.size; (try simp at hsz2); have HB2 := Lib.hid hb2; clear hb2; (try (have hl02 : w.heap.size < w2_.heap.size := by omega)))
          go_ret
          exact ⟨ret_int (by rw [HE.out, HF.out HV.out, codeOf_f HP.out]), below_tr' HQ1.out (below_tr' HB.out HB2.out)⟩
      · have hkn : k = n2 := by omega
        subst hkn
        have HT : Hid (ptsB p l2 = true) := Lib.hid (by have := HD.out; rwa [List.take_of_length_le (by have := HL.out.1; omega)] at this)
        go_wp2
        go_ret
        exact ⟨ret_int (by rw [HE.out, HT.out, codeOf_t HP.out]), below_tr' HQ1.out HB.out⟩
  · have HE : Hid (codeOf p (ptsB p l1 && ptsB p l2) = codeOf p (ptsB p l1)) := Lib.hid (by
      cases hp : prB p with
      | false => rw [codeOf_no _ hp, codeOf_no _ hp]
      | true =>
        cases h : ptsB p l1 with
        | true => exact (hz (by rw [h]; exact codeOf_t hp)).elim
        | false => rw [Bool.false_and])
    clear h1 h2
    generalize codeOf p (ptsB p l1 && ptsB p l2) = r at *
    generalize codeOf p (ptsB p l1) = z at *
    go_enter Try.func40, Try.ntmps40
    go_wp2_with (go_at_call 51; (with_reducible refine (HA.out _ (by repeat (first | exact Below.refl _ _ | refine bset ?_ _ _ (by omega) _ | refine bal ?_ _ | refine bdrN ?_ _ | refine bdr ?_))).mono ?_); rintro e w1_ ⟨rfl, hb1⟩; obtain ⟨hcb1, hfb1, hlb1⟩ := bcell hb1; have hsz1 := hb1.size; (try simp at hsz1); have HB1 := Lib.hid hb1; clear hb1; (try (have hl01 : w.heap.size < w1_.heap.size := by omega)))
    go_ret
    exact ⟨ret_int HE.out.symm, (by repeat (first | exact Below.refl _ _ | refine bset ?_ _ _ (by omega) _ | refine bal ?_ _ | refine bdrN ?_ _ | refine bdr ?_ | refine below_tr' ?_ HB1.out))⟩
/-- What IsFigure returns. -/
def isfV (p : Int) (n1 n2 : Nat) (l1 l2 : List Pt) : Value := .tuple #[.bool (decide (codeOf p (ptsB p l1 && ptsB p l2) = 0) && figB n1 n2 l1 l2), .int .i64 (codeOf p (ptsB p l1 && ptsB p l2))]
end Go.Proofs.Ytidbikjdigemnaa
/- The first desk: both makings. -/
namespace Go.Proofs.Ytidbikjdigemnaa
open Go.RowKit
set_option linter.unusedVariables false
set_option linter.unusedSimpArgs false
theorem run_loadRow {P : Program} {W : World} {g : Nat} {T : TypeId} {cs : Array Value} {fr : Nat × Nat} (ty : TypeId)
    (hg : W.heap[g]? = some (.cells cs T fr)) (n : Nat) (hn : cs.size = n) (hs : ∀ W, (sizeOf ty).run P W = .ok n W) (ha : ∀ W, (isAgg ty).run P W = .ok true W) : (loadVar ty ⟨g, 0, none⟩).run P W = .ok (.agg cs) W := by
  subst hn
  have hl : (loadCells ⟨g, 0, none⟩ cs.toList.length).run P W = .ok cs.toList.toArray W :=
    run_loadCells_list (P := P) W ⟨g, 0, none⟩ cs.toList (fun j v hv => by
      have hadd : (⟨g, 0, none⟩ : Addr).add j = ⟨g, j, none⟩ := by unfold Addr.add; split <;> simp_all
      rw [hadd, cell_of_row W g j cs T fr hg]
      simpa using hv)
  simp only [Array.length_toList, Array.toArray_toList] at hl
  unfold loadVar
  rw [Sem.run_bind, ha]
  simp only [Result.andThen_ok, if_true]
  rw [Sem.run_bind, hs]
  simp only [Result.andThen_ok]
  rw [Sem.run_bind, hl]
  rfl
theorem results_row {P : Program} {fn : Func} {tmps : Array Value} {t : Tmp} {W : World} {g : Nat} {T : TypeId} {cs : Array Value} {fr : Nat × Nat} {ty : TypeId} (h : fn.results = #[.cell t ty]) (ht : tmps.getD t undef = .pointer (some ⟨g, 0, none⟩))
    (hg : W.heap[g]? = some (.cells cs T fr)) (n : Nat) (hn : cs.size = n) (hs : ∀ W, (sizeOf ty).run P W = .ok n W) (ha : ∀ W, (isAgg ty).run P W = .ok true W) : (results fn tmps).run P W = .ok (.agg cs) W := by
  have hv := run_loadRow (P := P) ty hg n hn hs ha
  have ht' : tmps[t]?.getD undef = .pointer (some ⟨g, 0, none⟩) := by rw [← Array.getD_eq_getD_getElem?]; exact ht
  have hp : ∀ a : Addr, asAddr (.pointer (some a)) = pure a := fun _ => rfl
  simp [results, h, ht', hp, Sem.run_bind, Sem.run_pure, hv]
theorem wpList_store_row {P : Program} (w : World) {ops : Array Oper} {rest : List Oper} {o : Oper} {a : Act} {Q : Exit → Act → World → Prop}
    (hgd : o.guard = none) (ty : TypeId) (x y : Operand) (hop : o.op = .store ty x y) (hd : o.dst = none) {g : Nat} {T : TypeId} {cs U : Array Value} (hx : a.eval x = .pointer (some ⟨g, 0, none⟩)) (hy : a.eval y = .agg U)
    (hg : w.heap[g]? = some (.cells cs T (0, 0))) (hn : cs.size = U.size) (hs : ∀ W, (sizeOf ty).run P W = .ok U.size W) (h1 : ∀ v ∈ U.toList, v.oneCell' = true) (hK : wpList P ops Q rest a (w.setRow g U)) : wpList P ops Q (o :: rest) a w := by
  refine wpList_plain hgd fun K hK' => ?_
  unfold Oper.wp
  rw [run_store_row ty x y hop hx hy hg hn hs h1]
  simp only [Oper.upon, hd]
  exact hK' _ _ hK
theorem wpList_build {P : Program} (w : World) {ops : Array Oper} {rest : List Oper} {o : Oper} {a : Act} {Q : Exit → Act → World → Prop}
    (hgd : o.guard = none) (t : TypeId) (parts : Array (Nat × Operand)) (hop : o.op = .build t parts) (U : Array Value) (hb : P.built t (parts.map fun (i, x) => (i, a.eval x)).toList = some U)
    (hK : wpList P ops Q rest (a.put o.dst (.agg U)) w) : wpList P ops Q (o :: rest) a w := by
  refine wpList_plain hgd fun K hK' => wp_build t parts hop (by rw [hb]; rfl) ?_
  rw [hb]
  exact hK' _ _ hK
theorem hn_atN (w : World) (o : Obj) (n : Nat) (h : n = w.heap.size) : (w.alloc o).heap[n]? = some o := by subst h; exact heap_alloc_new w o
theorem hn_pastN (w : World) (o : Obj) (n : Nat) (h : n < w.heap.size) : (w.alloc o).heap[n]? = w.heap[n]? := by
  rw [heap_alloc_old]; exact h
theorem below_setRowN {B g : Nat} {w W : World} (h : Below B w W) (hg : B ≤ g) (cs : Array Value) : Below B w (W.setRow g cs) :=
  ⟨h.os, h.tape, h.output, by simpa [World.setRow] using h.size, fun k hk => (setRow_other W g k cs (by omega)).trans (h.block k hk)⟩
def deskC : Array Value := #[.int .i64 5, .int .i64 0, .int .i64 0, .int .i64 1, .int .i64 1, .int .i64 0, .int .i64 0, .int .i64 0, .int .i64 1, .int .i64 0, .int .i64 0, .int .i64 0, .int .i64 1, .int .i64 1, .int .i64 0, .int .i64 0, .int .i64 1, .int .i64 0, .int .i64 0, .int .i64 0, .int .i64 0, .int .i64 4]
def conC : Array Value := #[.int .i64 1, .int .i64 0, .int .i64 0, .int .i64 0, .int .i64 0, .int .i64 4]
end Go.Proofs.Ytidbikjdigemnaa
/- The desks compared. -/
namespace Go.Proofs.Ytidbikjdigemnaa
open Go.RowKit
set_option linter.unusedVariables false
set_option linter.unusedSimpArgs false
theorem calm_loadPt' {P : Program} {o : Oper} {ρ : Operand → Value} {W : World} {g off : Nat} {x y z : Int} (ty : TypeId) (q : Operand) (ho : o.op = .load ty q) (hx : ρ q = .pointer (some ⟨g, off, none⟩))
    (h0 : W.cell? ⟨g, off, none⟩ = some (.int .i64 x)) (h1 : W.cell? ⟨g, off + 1, none⟩ = some (.int .i64 y)) (h2 : W.cell? ⟨g, off + 2, none⟩ = some (.int .i64 z)) (hs : ∀ W, (sizeOf ty).run P W = .ok 3 W) (ha : ∀ W, (isAgg ty).run P W = .ok true W) : calmAt P o ρ W (ptV x y z) := by
  have hl : (loadCells ⟨g, off, none⟩ 3).run P W = .ok #[.int .i64 x, .int .i64 y, .int .i64 z] W :=
    run_loadCells_list (P := P) W ⟨g, off, none⟩ [.int .i64 x, .int .i64 y, .int .i64 z] (fun j v hv => by
      have hadd : ∀ j, (⟨g, off, none⟩ : Addr).add j = ⟨g, off + j, none⟩ := by intro j; unfold Addr.add; split <;> simp_all
      rw [hadd]
      match j, hv with
      | 0, hv => simpa using h0.trans (by simpa using hv)
      | 1, hv => exact h1.trans (by simpa using hv)
      | 2, hv => exact h2.trans (by simpa using hv)
      | j + 3, hv => simp at hv)
  have hv : (loadVar ty ⟨g, off, none⟩).run P W = .ok (ptV x y z) W := by
    unfold loadVar
    rw [Sem.run_bind, ha]
    simp only [Result.andThen_ok, if_true]
    rw [Sem.run_bind, hs]
    simp only [Result.andThen_ok]
    rw [Sem.run_bind, hl]
    rfl
  refine ⟨?_⟩
  unfold calmRun execOp
  simp only [ho, hx, Instr.loadAt, Instr.sureAddr, Sem.run_bind, Sem.run_pure, Result.andThen_ok, hv, and_self]
end Go.Proofs.Ytidbikjdigemnaa
/- The law FnExactNewDesk: walked. -/
namespace Go.Proofs.Ytidbikjdigemnaa
open Go.RowKit
set_option linter.unusedVariables false
set_option linter.unusedSimpArgs false
theorem wpList_load_row {P : Program} (w : World) {ops : Array Oper} {rest : List Oper} {o : Oper} {a : Act} {Q : Exit → Act → World → Prop}
    (hgd : o.guard = none) (ty : TypeId) (x : Operand) (hop : o.op = .load ty x) {g : Nat} {T : TypeId} {cs : Array Value} {fr : Nat × Nat} (hx : a.eval x = .pointer (some ⟨g, 0, none⟩))
    (hg : w.heap[g]? = some (.cells cs T fr)) (n : Nat) (hn : cs.size = n) (hs : ∀ W, (sizeOf ty).run P W = .ok n W) (ha : ∀ W, (isAgg ty).run P W = .ok true W) (hK : wpList P ops Q rest (a.put o.dst (.agg cs)) w) : wpList P ops Q (o :: rest) a w := by
  refine wpList_plain hgd fun K hK' => ?_
  have hv := run_loadRow (P := P) ty hg n hn hs ha
  have hr : (execOp a.eval o).run P w = .ok (.value (.agg cs)) w := by
    unfold execOp
    simp only [hop, hx, Instr.loadAt, Instr.sureAddr, Sem.run_bind, Sem.run_pure, Result.andThen_ok, hv]
  unfold Oper.wp
  rw [hr]
  simp only [Oper.upon]
  exact hK' _ _ hK
theorem alloc_setRow (w : World) (Z U : Array Value) (T : TypeId) : (w.alloc (.cells Z T)).setRow w.heap.size U = w.alloc (.cells U T) := by
  unfold World.setRow World.alloc
  congr 1
  apply Array.ext
  · simp
  · intro i h1 h2
    simp only [Array.getElem_modify, Array.getElem_push]
    by_cases e : i < w.heap.size
    · have : w.heap.size ≠ i := by omega
      simp [e, this]
    · have : w.heap.size = i := by simp at h2; omega
      simp [e, this]
end Go.Proofs.Ytidbikjdigemnaa
/- Contracts: the code of a figure, the program's and the reference's. -/
namespace Go.Proofs.Ytidbikjdigemnaa
open Go.RowKit
set_option linter.unusedVariables false
set_option linter.unusedSimpArgs false
def figC (p : Int) (n1 n2 : Nat) (l1 l2 : List Pt) : Int := if codeOf p (ptsB p l1 && ptsB p l2) ≠ 0 then codeOf p (ptsB p l1 && ptsB p l2) else if figB n1 n2 l1 l2 = true then 0 else 2
theorem figC_zero {p : Int} {n1 n2 : Nat} {l1 l2 : List Pt} (h : figC p n1 n2 l1 l2 = 0) : prB p = true ∧ n1 ≤ 16 ∧ n2 ≤ 16 := by
  unfold figC at h
  by_cases hk : codeOf p (ptsB p l1 && ptsB p l2) = 0
  · obtain ⟨h1, _⟩ := code_zero hk
    rw [if_neg (by simpa using hk)] at h
    by_cases hf : figB n1 n2 l1 l2 = true
    · unfold figB at hf
      simp only [Bool.and_eq_true, decide_eq_true_eq] at hf
      exact ⟨h1, hf.1.2, hf.2.2⟩
    · rw [if_neg hf] at h; cases h
  · rw [if_pos hk] at h; exact (hk h).elim
theorem rowV {w : World} {g off : Nat} {cs : Array Value} {T : TypeId} {fr : Nat × Nat} {z : Value} (h : w.heap[g]? = some (.cells cs T fr)) (hz : cs[off]? = some z) : w.cell? ⟨g, off, none⟩ = some z := by
  rw [cell_of_row w g off _ _ _ h]; exact hz
set_option maxHeartbeats 2000000 in
theorem figureCode_any (p : Int) (b1 : Option Addr) (n1 c1 : Nat) (b2 : Option Addr) (n2 c2 : Nat) (l1 l2 : List Pt) (w : World) (hn1 : n1 ≤ 1000000) (hn2 : n2 ≤ 1000000) (h1 : ListP w b1 n1 l1) (h2 : ListP w b2 n2 l2) :
    Calls Try.prog 29 #[.int .i64 p, figV b1 n1 c1 b2 n2 c2] w (Ret w (.int .i64 (figC p n1 n2 l1 l2))) := by
  have HA := Lib.hid (fun (W : World) (hW : Below w.heap.size w W) => partsCode_any p b1 n1 c1 b2 n2 c2 l1 l2 W hn1 hn2 (h1.below hW) (h2.below hW))
  have HF := Lib.hid (fun (W : World) (hW : Below w.heap.size w W) => isFigure_any b1 n1 c1 b2 n2 c2 l1 l2 W hn1 hn2 (h1.below hW) (h2.below hW))
  have HR : Hid (figC p n1 n2 l1 l2 = if codeOf p (ptsB p l1 && ptsB p l2) ≠ 0 then codeOf p (ptsB p l1 && ptsB p l2) else if figB n1 n2 l1 l2 = true then 0 else 2) := Lib.hid rfl
  clear h1 h2
  generalize figC p n1 n2 l1 l2 = r at *
  generalize figB n1 n2 l1 l2 = u at *
  generalize codeOf p (ptsB p l1 && ptsB p l2) = k at *
  by_cases hk : k = 0
  · subst hk
    cases u with
    | true =>
      have hr : Hid (r = 0) := Lib.hid (by rw [HR.out]; rfl)
      clear HR
      go_enter Try.func29, Try.ntmps29
      have x0 : (w.alloc (.cells #[.slice b1 n1 c1, .slice b2 n2 c2] 29)).cell? ⟨w.heap.size, 0, none⟩ = some (.slice b1 n1 c1) := rowV (heap_alloc_new _ _) rfl
      have x1 : (w.alloc (.cells #[.slice b1 n1 c1, .slice b2 n2 c2] 29)).cell? ⟨w.heap.size, 1, none⟩ = some (.slice b2 n2 c2) := rowV (heap_alloc_new _ _) rfl
      go_wp2_with (first
        | (go_at_call 45; (with_reducible refine (HA.out _ (by repeat (first | exact Below.refl _ _ | refine bset ?_ _ _ (by omega) _ | refine bal ?_ _ | refine bdrN ?_ _ | refine bdr ?_))).mono ?_); rintro e w1_ ⟨rfl, hb1⟩; obtain ⟨hcb1, hfb1, hlb1⟩ := bcell hb1; have hsz1 := hb1.size; (try simp at hsz1); have HB1 := Lib.hid hb1; clear hb1; (try (have hl01 : w.heap.size < w1_.heap.size := by omega)))
        | (go_at_call 46; (with_reducible refine (HF.out _ (by repeat (first | exact Below.refl _ _ | refine bset ?_ _ _ (by omega) _ | refine bal ?_ _ | refine bdrN ?_ _ | refine bdr ?_ | refine below_tr' ?_ HB1.out))).mono ?_); rintro e w2_ ⟨rfl, hb2⟩; obtain ⟨hcb2, hfb2, hlb2⟩ := bcell hb2; have hsz2 := hb2.size; (try simp at hsz2); have HB2 := Lib.hid hb2; clear hb2; (try (have hl02 : w.heap.size < w2_.heap.size := by omega))))
      go_ret
      exact ⟨ret_int hr.out.symm, (by repeat (first | exact Below.refl _ _ | refine bset ?_ _ _ (by omega) _ | refine bal ?_ _ | refine bdrN ?_ _ | refine bdr ?_ | refine below_tr' ?_ HB2.out | refine below_tr' ?_ HB1.out))⟩
    | false =>
      have hr : Hid (r = 2) := Lib.hid (by rw [HR.out]; rfl)
      clear HR
      go_enter Try.func29, Try.ntmps29
      have x0 : (w.alloc (.cells #[.slice b1 n1 c1, .slice b2 n2 c2] 29)).cell? ⟨w.heap.size, 0, none⟩ = some (.slice b1 n1 c1) := rowV (heap_alloc_new _ _) rfl
      have x1 : (w.alloc (.cells #[.slice b1 n1 c1, .slice b2 n2 c2] 29)).cell? ⟨w.heap.size, 1, none⟩ = some (.slice b2 n2 c2) := rowV (heap_alloc_new _ _) rfl
      go_wp2_with (first
        | (go_at_call 45; (with_reducible refine (HA.out _ (by repeat (first | exact Below.refl _ _ | refine bset ?_ _ _ (by omega) _ | refine bal ?_ _ | refine bdrN ?_ _ | refine bdr ?_))).mono ?_); rintro e w1_ ⟨rfl, hb1⟩; obtain ⟨hcb1, hfb1, hlb1⟩ := bcell hb1; have hsz1 := hb1.size; (try simp at hsz1); have HB1 := Lib.hid hb1; clear hb1; (try (have hl01 : w.heap.size < w1_.heap.size := by omega)))
        | (go_at_call 46; (with_reducible refine (HF.out _ (by repeat (first | exact Below.refl _ _ | refine bset ?_ _ _ (by omega) _ | refine bal ?_ _ | refine bdrN ?_ _ | refine bdr ?_ | refine below_tr' ?_ HB1.out))).mono ?_); rintro e w2_ ⟨rfl, hb2⟩; obtain ⟨hcb2, hfb2, hlb2⟩ := bcell hb2; have hsz2 := hb2.size; (try simp at hsz2); have HB2 := Lib.hid hb2; clear hb2; (try (have hl02 : w.heap.size < w2_.heap.size := by omega))))
      go_ret
      exact ⟨ret_int hr.out.symm, (by repeat (first | exact Below.refl _ _ | refine bset ?_ _ _ (by omega) _ | refine bal ?_ _ | refine bdrN ?_ _ | refine bdr ?_ | refine below_tr' ?_ HB2.out | refine below_tr' ?_ HB1.out))⟩
  · have hr : Hid (r = k) := Lib.hid (by rw [HR.out, if_pos hk])
    have hq : (k == 0) = false := beqf hk
    clear HR
    go_enter Try.func29, Try.ntmps29
    go_wp2_with (go_at_call 45; (with_reducible refine (HA.out _ (by repeat (first | exact Below.refl _ _ | refine bset ?_ _ _ (by omega) _ | refine bal ?_ _ | refine bdrN ?_ _ | refine bdr ?_))).mono ?_); rintro e w1_ ⟨rfl, hb1⟩; obtain ⟨hcb1, hfb1, hlb1⟩ := bcell hb1; have hsz1 := hb1.size; (try simp at hsz1); have HB1 := Lib.hid hb1; clear hb1; (try (have hl01 : w.heap.size < w1_.heap.size := by omega)))
    go_ret
    exact ⟨ret_int hr.out.symm, (by repeat (first | exact Below.refl _ _ | refine bset ?_ _ _ (by omega) _ | refine bal ?_ _ | refine bdrN ?_ _ | refine bdr ?_ | refine below_tr' ?_ HB1.out))⟩
set_option maxHeartbeats 2000000 in
theorem l09Code_any (p : Int) (b1 : Option Addr) (n1 c1 : Nat) (b2 : Option Addr) (n2 c2 : Nat) (l1 l2 : List Pt) (w : World) (hn1 : n1 ≤ 1000000) (hn2 : n2 ≤ 1000000) (h1 : ListP w b1 n1 l1) (h2 : ListP w b2 n2 l2) :
    Calls Try.prog 26 #[.int .i64 p, figV b1 n1 c1 b2 n2 c2] w (Ret w (.int .i64 (figC p n1 n2 l1 l2))) := by
  have HA := Lib.hid (fun (W : World) (hW : Below w.heap.size w W) => l09All_any p b1 n1 c1 b2 n2 c2 l1 l2 W hn1 hn2 (h1.below hW) (h2.below hW))
  have HF := Lib.hid (fun (W : World) (hW : Below w.heap.size w W) => l09Is_any b1 n1 c1 b2 n2 c2 l1 l2 W hn1 hn2 (h1.below hW) (h2.below hW))
  have HR : Hid (figC p n1 n2 l1 l2 = if codeOf p (ptsB p l1 && ptsB p l2) ≠ 0 then codeOf p (ptsB p l1 && ptsB p l2) else if figB n1 n2 l1 l2 = true then 0 else 2) := Lib.hid rfl
  clear h1 h2
  generalize figC p n1 n2 l1 l2 = r at *
  generalize figB n1 n2 l1 l2 = u at *
  generalize codeOf p (ptsB p l1 && ptsB p l2) = k at *
  by_cases hk : k = 0
  · subst hk
    cases u with
    | true =>
      have hr : Hid (r = 0) := Lib.hid (by rw [HR.out]; rfl)
      clear HR
      go_enter Try.func26, Try.ntmps26
      have x0 : (w.alloc (.cells #[.slice b1 n1 c1, .slice b2 n2 c2] 29)).cell? ⟨w.heap.size, 0, none⟩ = some (.slice b1 n1 c1) := rowV (heap_alloc_new _ _) rfl
      have x1 : (w.alloc (.cells #[.slice b1 n1 c1, .slice b2 n2 c2] 29)).cell? ⟨w.heap.size, 1, none⟩ = some (.slice b2 n2 c2) := rowV (heap_alloc_new _ _) rfl
      go_wp2_with (first
        | (go_at_call 40; (with_reducible refine (HA.out _ (by repeat (first | exact Below.refl _ _ | refine bset ?_ _ _ (by omega) _ | refine bal ?_ _ | refine bdrN ?_ _ | refine bdr ?_))).mono ?_); rintro e w1_ ⟨rfl, hb1⟩; obtain ⟨hcb1, hfb1, hlb1⟩ := bcell hb1; have hsz1 := hb1.size; (try simp at hsz1); have HB1 := Lib.hid hb1; clear hb1; (try (have hl01 : w.heap.size < w1_.heap.size := by omega)))
        | (go_at_call 41; (with_reducible refine (HF.out _ (by repeat (first | exact Below.refl _ _ | refine bset ?_ _ _ (by omega) _ | refine bal ?_ _ | refine bdrN ?_ _ | refine bdr ?_ | refine below_tr' ?_ HB1.out))).mono ?_); rintro e w2_ ⟨rfl, hb2⟩; obtain ⟨hcb2, hfb2, hlb2⟩ := bcell hb2; have hsz2 := hb2.size; (try simp at hsz2); have HB2 := Lib.hid hb2; clear hb2; (try (have hl02 : w.heap.size < w2_.heap.size := by omega))))
      go_ret
      exact ⟨ret_int hr.out.symm, (by repeat (first | exact Below.refl _ _ | refine bset ?_ _ _ (by omega) _ | refine bal ?_ _ | refine bdrN ?_ _ | refine bdr ?_ | refine below_tr' ?_ HB2.out | refine below_tr' ?_ HB1.out))⟩
    | false =>
      have hr : Hid (r = 2) := Lib.hid (by rw [HR.out]; rfl)
      clear HR
      go_enter Try.func26, Try.ntmps26
      have x0 : (w.alloc (.cells #[.slice b1 n1 c1, .slice b2 n2 c2] 29)).cell? ⟨w.heap.size, 0, none⟩ = some (.slice b1 n1 c1) := rowV (heap_alloc_new _ _) rfl
      have x1 : (w.alloc (.cells #[.slice b1 n1 c1, .slice b2 n2 c2] 29)).cell? ⟨w.heap.size, 1, none⟩ = some (.slice b2 n2 c2) := rowV (heap_alloc_new _ _) rfl
      go_wp2_with (first
        | (go_at_call 40; (with_reducible refine (HA.out _ (by repeat (first | exact Below.refl _ _ | refine bset ?_ _ _ (by omega) _ | refine bal ?_ _ | refine bdrN ?_ _ | refine bdr ?_))).mono ?_); rintro e w1_ ⟨rfl, hb1⟩; obtain ⟨hcb1, hfb1, hlb1⟩ := bcell hb1; have hsz1 := hb1.size; (try simp at hsz1); have HB1 := Lib.hid hb1; clear hb1; (try (have hl01 : w.heap.size < w1_.heap.size := by omega)))
        | (go_at_call 41; (with_reducible refine (HF.out _ (by repeat (first | exact Below.refl _ _ | refine bset ?_ _ _ (by omega) _ | refine bal ?_ _ | refine bdrN ?_ _ | refine bdr ?_ | refine below_tr' ?_ HB1.out))).mono ?_); rintro e w2_ ⟨rfl, hb2⟩; obtain ⟨hcb2, hfb2, hlb2⟩ := bcell hb2; have hsz2 := hb2.size; (try simp at hsz2); have HB2 := Lib.hid hb2; clear hb2; (try (have hl02 : w.heap.size < w2_.heap.size := by omega))))
      go_ret
      exact ⟨ret_int hr.out.symm, (by repeat (first | exact Below.refl _ _ | refine bset ?_ _ _ (by omega) _ | refine bal ?_ _ | refine bdrN ?_ _ | refine bdr ?_ | refine below_tr' ?_ HB2.out | refine below_tr' ?_ HB1.out))⟩
  · have hr : Hid (r = k) := Lib.hid (by rw [HR.out, if_pos hk])
    have hq : (k == 0) = false := beqf hk
    clear HR
    go_enter Try.func26, Try.ntmps26
    go_wp2_with (go_at_call 40; (with_reducible refine (HA.out _ (by repeat (first | exact Below.refl _ _ | refine bset ?_ _ _ (by omega) _ | refine bal ?_ _ | refine bdrN ?_ _ | refine bdr ?_))).mono ?_); rintro e w1_ ⟨rfl, hb1⟩; obtain ⟨hcb1, hfb1, hlb1⟩ := bcell hb1; have hsz1 := hb1.size; (try simp at hsz1); have HB1 := Lib.hid hb1; clear hb1; (try (have hl01 : w.heap.size < w1_.heap.size := by omega)))
    go_ret
    exact ⟨ret_int hr.out.symm, (by repeat (first | exact Below.refl _ _ | refine bset ?_ _ _ (by omega) _ | refine bal ?_ _ | refine bdrN ?_ _ | refine bdr ?_ | refine below_tr' ?_ HB1.out))⟩
end Go.Proofs.Ytidbikjdigemnaa
/- A region whose first m operations draw their order and yield values; the others come behind them, in the text's order. -/
namespace Go.Proofs.Ytidbikjdigemnaa
open Go.RowKit
set_option linter.unusedVariables false
set_option linter.unusedSimpArgs false
def thenChk (l : List Oper) (m N : Nat) : Bool :=
  (List.range l.length).all fun i => match l[i]? with
    | none => true
    | some o => notSelect o && (o.after.all fun e => !Region.binds .any e || e.on < i) &&
      (if i < m then (match o.guard with | none => true | some (k, _) => bindsTo o k) &&
        (match o.dst with | some t => decide (t < N) | none => false) &&
        ((readsOf o).all fun t => (List.range m).all fun j => match l[j]? with
            | none => true
            | some oj => !(oj.dst == some t) || bindsTo o j)
       else (List.range i).all fun j => bindsTo o j)
theorem thenChk_at {l : List Oper} {m N : Nat} (chk : thenChk l m N = true) {i : Nat} {o : Oper} (hi : l[i]? = some o) :
    (∀ cs b, o.op ≠ .select cs b) ∧ (∀ e ∈ o.after, Region.binds .any e = true → e.on < i) ∧
    (i < m → (∀ k b, o.guard = some (k, b) → bindsTo o k = true) ∧ (∃ t, o.dst = some t ∧ t < N) ∧ (∀ t ∈ readsOf o, ∀ j oj, j < m → l[j]? = some oj → oj.dst = some t → bindsTo o j = true)) ∧
    (¬ i < m → ∀ j, j < i → bindsTo o j = true) := by
  unfold thenChk at chk
  have hlt : i < l.length := (List.getElem?_eq_some_iff.1 hi).1
  have h := List.all_eq_true.1 chk i (List.mem_range.2 hlt)
  simp only [hi, Bool.and_eq_true] at h
  obtain ⟨⟨hns, haf⟩, hd⟩ := h
  refine ⟨?_, ?_, ?_, ?_⟩
  · intro cs b e; rw [notSelect, e] at hns; cases hns
  · intro e he hb
    have := (Array.all_eq_true_iff_forall_mem.1 haf) e he
    simpa [hb] using this
  · intro him
    rw [if_pos him] at hd
    simp only [Bool.and_eq_true] at hd
    obtain ⟨⟨hg, hd⟩, hr⟩ := hd
    refine ⟨?_, ?_, ?_⟩
    · intro k b e; rw [e] at hg; simpa using hg
    · cases hdd : o.dst with
      | none => rw [hdd] at hd; cases hd
      | some t => rw [hdd] at hd; exact ⟨t, rfl, by simpa using hd⟩
    · intro t ht j oj hjm hj hjd
      have h2 := List.all_eq_true.1 hr t ht
      have := List.all_eq_true.1 h2 j (List.mem_range.2 hjm)
      simpa [hj, hjd] using this
  · intro him j hj
    rw [if_neg him] at hd
    exact List.all_eq_true.1 hd j (List.mem_range.2 hj)
structure RInvU (l : List Oper) (m : Nat) (a0 aE : Act) (w0 : World) (listed : Array Bool) (a : Act) (w : World) : Prop where
  df : a.defers = aE.defers
  sz : a.tmps.size = aE.tmps.size
  len : listed.size = l.length
  fr1 : ∀ (j : Nat) (o : Oper) (t : Nat), j < m → l[j]? = some o → o.dst = some t → listed.getD j false = true → a.tmps.getD t undef = aE.tmps.getD t undef
  fr0 : ∀ t : Nat, (∀ (j : Nat) (o : Oper), j < m → l[j]? = some o → o.dst = some t → listed.getD j false = false) → a.tmps.getD t undef = a0.tmps.getD t undef
  bl : Below w0.heap.size w0 w
  rest : ∀ j, m ≤ j → listed.getD j false = false
theorem ready_mem {l : List Oper} {listed : Array Bool} {i : Nat} (h : i ∈ Region.ready .any l.toArray listed) (hlen : listed.size = l.length) :
    ∃ o, l[i]? = some o ∧ i < l.length ∧ listed.getD i false = false ∧ ∀ e ∈ o.after, Region.binds .any e = true → listed.getD e.on false = true := by
  obtain ⟨h0, o, ho, hall⟩ := mem_ready.1 h
  have hio : l[i]? = some o := by simpa using ho
  have hil : i < l.length := (List.getElem?_eq_some_iff.1 hio).1
  have hil' : i < listed.size := by omega
  exact ⟨o, hio, hil, by simpa [hil'] using h0, hall⟩
/-- From the m-th on there is one order. -/
theorem any_tail {P : Program} {Q : Exit → Act → World → Prop} {l : List Oper} {m N : Nat} (chk : thenChk l m N = true) : ∀ (fuel i : Nat) (listed : Array Bool) (a : Act) (W : World), m ≤ i → i ≤ l.length → listed.size = l.length →
    (∀ j, j < l.length → (listed.getD j false = true ↔ j < i)) → l.length - i ≤ fuel → wpList P l.toArray Q (l.drop i) a W → wpAny P .any l.toArray Q fuel listed a W := by
  intro fuel
  induction fuel with
  | zero =>
    intro i listed a W hmi hil hlen hls hf hw
    have hi : i = l.length := by omega
    subst hi
    refine ⟨?_, by rw [List.drop_length] at hw; exact hw⟩
    rw [List.eq_nil_iff_forall_not_mem]
    intro k hk
    obtain ⟨o, _, hkl, hk0, _⟩ := ready_mem hk hlen
    rw [(hls k hkl).2 hkl] at hk0; cases hk0
  | succ fuel ih =>
    intro i listed a W hmi hil hlen hls hf hw
    rcases Nat.lt_or_ge i l.length with hlt | hge
    · have hio : l[i]? = some l[i] := List.getElem?_eq_getElem hlt
      have hC := thenChk_at chk hio
      have hd : l.drop i = l[i] :: l.drop (i + 1) := List.drop_eq_getElem_cons hlt
      rw [hd] at hw
      refine ⟨fun hr => ?_, fun k hk => ?_⟩
      · exfalso
        have hmem : i ∈ Region.ready .any l.toArray listed := by
          rw [mem_ready]
          refine ⟨?_, l[i], by simp, fun e he hbd => (hls _ (by have := hC.2.1 e he hbd; omega)).2 (hC.2.1 e he hbd)⟩
          have h1 : i < listed.size := by omega
          have h2 : listed.getD i false = false := by
            cases hb : listed.getD i false with
            | false => rfl
            | true => exact absurd ((hls i hlt).1 hb) (Nat.lt_irrefl _)
          simpa [h1] using h2
        rw [hr] at hmem; cases hmem
      · obtain ⟨o, hko, hkl, hk0, hall⟩ := ready_mem hk hlen
        have hki : k = i := by
          rcases Nat.lt_trichotomy k i with h | h | h
          · rw [(hls k hkl).2 h] at hk0; cases hk0
          · exact h
          · obtain ⟨e, he, hb, hon⟩ := bindsTo_spec ((thenChk_at chk hko).2.2.2 (by omega) i h)
            have := (hls i hlt).1 (by rw [← hon]; exact hall e he hb)
            omega
        subst hki
        have heo : o = l[k] := by rw [hio] at hko; exact (Option.some.inj hko).symm
        subst heo
        have hk' : k < listed.size := by omega
        have step : ∀ a' W', wpList P l.toArray Q (l.drop (k + 1)) a' W' → wpAny P .any l.toArray Q fuel (listed.setIfInBounds k true) a' W' := by
          intro a' W' h
          refine ih (k + 1) _ a' W' (by omega) (by omega) (by simpa using hlen) (fun j hj => ?_) (by omega) h
          rw [getD_set _ _ _ hk']
          by_cases e : k = j
          · subst e; simp
          · rw [if_neg e, hls j hj]; omega
        unfold wpOp
        have hto : l.toArray[k]? = some l[k] := by simp
        simp only [hto]
        unfold wpList at hw
        split at hw
        · rename_i hwt
          rw [if_pos hwt]
          rcases hw with h | h
          · exact .inl (Oper.wp_mono step h)
          · exact .inr h
        · rename_i hwt
          rw [if_neg hwt]
          exact step _ _ hw
    · have hi : i = l.length := by omega
      subst hi
      rw [List.drop_length] at hw
      refine ⟨fun _ => hw, fun k hk => ?_⟩
      obtain ⟨o, _, hkl, hk0, _⟩ := ready_mem hk hlen
      rw [(hls k hkl).2 hkl] at hk0; cases hk0
section
variable {P : Program} {Q : Exit → Act → World → Prop} {l : List Oper} {a0 : Act} {w : World} {vs : List (Nat × Value)} {m : Nat}
theorem wp_region_then {id : Nat} (hm : P.follows .mixedOrders = true) (hml : m ≤ l.length)
    (chk : thenChk l m a0.tmps.size = true) (hkeys : vs.all (fun kv => (l.take m).any (·.dst == some kv.1)) = true)
    (hop : ∀ (i : Nat) (o : Oper) (t : Nat), i < m → l[i]? = some o → o.dst = some t → (Region.wanted o (yielded l.toArray (puts a0 vs).tmps) = true ∧ ∀ W, Below w.heap.size w W → calmAt P o (puts a0 vs).eval W ((puts a0 vs).tmps.getD t undef)) ∨ (Region.wanted o (yielded l.toArray (puts a0 vs).tmps) = false ∧ (puts a0 vs).tmps.getD t undef = undef))
    (hgd : ∀ (i : Nat) (o : Oper) (k : Nat) (b : Bool), i < m → l[i]? = some o → o.guard = some (k, b) → k < m)
    (hQ : ∀ W, Below w.heap.size w W → wpList P l.toArray Q (l.drop m) (puts a0 vs) W) :
    (Code.region id l.toArray true).wp P Q a0 w := by
  have hE : ∀ t, (∀ (j : Nat) (o : Oper), j < m → l[j]? = some o → o.dst ≠ some t) → a0.tmps.getD t undef = (puts a0 vs).tmps.getD t undef := by
    intro t hno
    refine (puts_other t vs a0 (fun kv hkv e => ?_)).symm
    have := List.all_eq_true.1 hkeys kv hkv
    obtain ⟨o, ho, hod⟩ := List.any_eq_true.1 this
    obtain ⟨j, hj, hjo⟩ := List.mem_take_iff_getElem.1 ho
    exact hno j o (by omega) (by rw [← hjo]; exact List.getElem?_eq_getElem (by omega)) (by rw [← e]; simpa using hod)
  have hEs : (puts a0 vs).tmps.size = a0.tmps.size := puts_size _ _
  have hEd : (puts a0 vs).defers = a0.defers := puts_defers _ _
  generalize puts a0 vs = aE at *
  refine wp_region_any hm ?_
  have key : ∀ (fuel : Nat) (listed : Array Bool) (a : Act) (W : World), RInvU l m a0 aE w listed a W →
      (List.range m).countP (fun i => !listed.getD i true) + (l.length - m) ≤ fuel → wpAny P .any l.toArray Q fuel listed a W := by
    intro fuel
    have fin : ∀ (fuel : Nat) (listed : Array Bool) (a : Act) (W : World), RInvU l m a0 aE w listed a W → (∀ j, j < m → listed.getD j false = true) → l.length - m ≤ fuel → wpAny P .any l.toArray Q fuel listed a W := by
      intro fuel listed a W hI hall hf
      have ea : a = aE := by
        refine act_ext _ _ hI.df hI.sz (fun t ht => ?_)
        · by_cases hw : ∃ (j : Nat) (o : Oper), j < m ∧ l[j]? = some o ∧ o.dst = some t
          · obtain ⟨j, o, hjm, hj, ho⟩ := hw
            exact hI.fr1 j o t hjm hj ho (hall j hjm)
          · rw [hI.fr0 t (fun j o hjm hj ho => (hw ⟨j, o, hjm, hj, ho⟩).elim)]
            exact hE t (fun j o hjm hj ho => hw ⟨j, o, hjm, hj, ho⟩)
      subst ea
      refine any_tail chk fuel m listed a W (Nat.le_refl _) hml hI.len (fun j hj => ⟨fun h => ?_, fun h => hall j h⟩) hf (hQ W hI.bl)
      rcases Nat.lt_or_ge j m with h2 | h2
      · exact h2
      · rw [hI.rest j h2] at h; cases h
    -- what an operation that may come up reads is at hand
    have look : ∀ (listed : Array Bool) (a : Act) (W : World), RInvU l m a0 aE w listed a W → ∀ (i : Nat) (o : Oper), i < m → l[i]? = some o →
        (∀ e ∈ o.after, Region.binds .any e = true → listed.getD e.on false = true) → ∀ t ∈ readsOf o, a.tmps.getD t undef = aE.tmps.getD t undef := by
      intro listed a W hI i o him hi hall t ht
      have h := ((thenChk_at chk hi).2.2.1 him).2.2 t ht
      · by_cases hw : ∃ (j : Nat) (oj : Oper), j < m ∧ l[j]? = some oj ∧ oj.dst = some t
        · obtain ⟨j, oj, hjm, hj, hjd⟩ := hw
          obtain ⟨e, he, hb, hon⟩ := bindsTo_spec (h j oj hjm hj hjd)
          exact hI.fr1 j oj t hjm hj hjd (by rw [← hon]; exact hall e he hb)
        · rw [hI.fr0 t (fun j oj hjm hj ho => (hw ⟨j, oj, hjm, hj, ho⟩).elim)]
          exact hE t (fun j oj hjm hj ho => hw ⟨j, oj, hjm, hj, ho⟩)
    induction fuel with
    | zero =>
      intro listed a W hI hc
      refine fin 0 listed a W hI (fun j hj => ?_) (by omega)
      have h0 : (List.range m).countP (fun i => !listed.getD i true) = 0 := by omega
      rw [List.countP_eq_zero] at h0
      have := h0 j (List.mem_range.2 hj)
      have hj' : j < listed.size := by rw [hI.len]; omega
      simpa [hj'] using this
    | succ fuel ih =>
      intro listed a W hI hc
      by_cases hall : ∀ j, j < m → listed.getD j false = true
      · exact fin _ listed a W hI hall (by omega)
      · have hno : ∀ i, i ∈ Region.ready .any l.toArray listed → i < m := by
          intro i hi
          rcases Nat.lt_or_ge i m with h | h
          · exact h
          · exfalso
            obtain ⟨o, hio, hil, hi0, ha⟩ := ready_mem hi hI.len
            refine hall (fun j hj => ?_)
            obtain ⟨e, he, hb, hon⟩ := bindsTo_spec ((thenChk_at chk hio).2.2.2 (by omega) j (by omega))
            rw [← hon]; exact ha e he hb
        refine ⟨fun hr => ?_, fun i hi => ?_⟩
        · exfalso
          have all : ∀ i, i < l.length → listed.getD i false = true := by
            intro i
            induction i using Nat.strongRecOn with
            | _ i ih2 =>
              intro hi
              cases hb : listed.getD i false with
              | true => rfl
              | false =>
                exfalso
                have ho : l[i]? = some l[i] := List.getElem?_eq_getElem hi
                have hmem : i ∈ Region.ready .any l.toArray listed := by
                  rw [mem_ready]
                  refine ⟨?_, l[i], by simp, fun e he hbd => ?_⟩
                  · have : i < listed.size := by have := hI.len; omega
                    simp [this] at hb ⊢; exact hb
                  · exact ih2 e.on ((thenChk_at chk ho).2.1 e he hbd) (by have := (thenChk_at chk ho).2.1 e he hbd; omega)
                rw [hr] at hmem; cases hmem
          exact hall (fun j hj => all j (by omega))
        · have him := hno i hi
          obtain ⟨o, hio, hil, hi0, hal⟩ := ready_mem hi hI.len
          have hil' : i < listed.size := by rw [hI.len]; exact hil
          have ho : l.toArray[i]? = some o := by simpa using hio
          have hC := thenChk_at chk hio
          have hCm := hC.2.2.1 him
          obtain ⟨t, hdst, htN⟩ := hCm.2.1
          have hwe : Region.wanted o (yielded l.toArray a.tmps) = Region.wanted o (yielded l.toArray aE.tmps) := by
            unfold Region.wanted
            cases hg : o.guard with
            | none => rfl
            | some kb =>
              obtain ⟨k, b⟩ := kb
              obtain ⟨e, he, hb, hon⟩ := bindsTo_spec (hCm.1 k b hg)
              have : yielded l.toArray a.tmps k = yielded l.toArray aE.tmps k := yielded_congr hI.sz (fun ok tk hk hd => hI.fr1 k ok tk (hgd i o k b him hio hg) (by simpa using hk) hd (by rw [← hon]; exact hal e he hb))
              simp only [this]
          have hcnt : (List.range m).countP (fun j => !(listed.setIfInBounds i true).getD j true) + (l.length - m) ≤ fuel := by
            have := count_lt (fun j => !listed.getD j true) (fun j => !(listed.setIfInBounds i true).getD j true) (fun j hj => by
                by_cases e : i = j
                · subst e; simp [hil'] at hj
                · rw [getD_set_ne true e] at hj; exact hj) i (by simpa [hil'] using hi0) (by simp [hil']) (List.range m) (List.mem_range.2 him)
            omega
          have step : ∀ W', Below w.heap.size w W' → wpAny P .any l.toArray Q fuel (listed.setIfInBounds i true) (a.put (some t) (aE.tmps.getD t undef)) W' := by
            intro W' hW'
            refine ih _ _ _ ⟨by rw [put_defers]; exact hI.df, by rw [put_size]; exact hI.sz, by simpa using hI.len, ?_, ?_, hW', ?_⟩ hcnt
            · intro j oj u hjm hj hjd hl
              by_cases htu : t = u
              · subst htu; rw [put_get_same _ _ _ (by rw [hI.sz, hEs]; exact htN)]
              · rw [put_get_ne _ _ _ _ htu]
                rw [getD_set _ _ _ hil'] at hl
                by_cases e : i = j
                · subst e; rw [hio] at hj; obtain rfl := Option.some.inj hj; rw [hdst] at hjd; exact (htu (Option.some.inj hjd)).elim
                · rw [if_neg e] at hl; exact hI.fr1 j oj u hjm hj hjd hl
            · intro u hnu
              have htu : t ≠ u := fun e => by
                subst e
                have := hnu i o him hio hdst
                rw [getD_set _ _ _ hil', if_pos rfl] at this; cases this
              rw [put_get_ne _ _ _ _ htu]
              refine hI.fr0 u (fun j oj hjm hj hjd => ?_)
              have := hnu j oj hjm hj hjd
              rw [getD_set _ _ _ hil'] at this
              by_cases e : i = j
              · rw [if_pos e] at this; cases this
              · rw [if_neg e] at this; exact this
            · intro j hj
              rw [getD_set _ _ _ hil', if_neg (by omega)]; exact hI.rest j hj
          unfold wpOp
          simp only [ho]
          rcases hop i o t him hio hdst with ⟨hw, hcalm⟩ | ⟨hw, hun⟩
          · rw [hwe, hw]
            simp only [if_true]
            refine .inl ?_
            have heq : execOp aE.eval o = execOp a.eval o := execOp_congr o hC.1 (fun x hx => by
                cases x with
                | tmp u =>
                  have hu : u ∈ readsOf o := List.mem_filterMap.2 ⟨.tmp u, by simpa using hx, rfl⟩
                  exact (look listed a W hI i o him hio hal u hu).symm
                | _ => rfl)
            have hcalm' : calmAt P o a.eval W (aE.tmps.getD t undef) := by
                refine ⟨?_⟩; have hh := (hcalm W hI.bl).out; unfold calmRun at hh ⊢; rw [← heq]; exact hh
            refine wp_of_calm hcalm' (fun W' hb => ?_)
            rw [hdst]
            exact step W' (below_tr' hI.bl hb)
          · rw [hwe, hw]
            simp only [Bool.false_eq_true, if_false, hdst]
            rw [hun] at step
            exact step W hI.bl
  refine key _ _ _ _ ⟨by rw [hEd], hEs.symm, by simp, ?_, ?_, ⟨rfl, rfl, rfl, Nat.le_refl _, fun _ _ => rfl⟩, ?_⟩ ?_
  · intro j o t _ hj hjd hl; rw [rep_false] at hl; cases hl
  · intro t _; rfl
  · intro j _; exact rep_false _ _
  · have : (List.range m).countP (fun i => !(Array.replicate l.toArray.size false).getD i true) ≤ m := Nat.le_trans List.countP_le_length (by simp)
    simp at this ⊢; omega
def guardsIn (l : List Oper) (m : Nat) : Bool := (l.take m).all fun o => match o.guard with | none => true | some (k, _) => decide (k < m)
theorem guardsIn_at (h : guardsIn l m = true) {i : Nat} {o : Oper} {k : Nat} {b : Bool} (him : i < m) (hi : l[i]? = some o) (hg : o.guard = some (k, b)) : k < m := by
  have hlt : i < l.length := (List.getElem?_eq_some_iff.1 hi).1
  have hmem : o ∈ l.take m := List.mem_take_iff_getElem.2 ⟨i, by omega, (List.getElem?_eq_some_iff.1 hi).2⟩
  have := List.all_eq_true.1 h o hmem
  rw [hg] at this
  simpa using this
theorem region_then {id : Nat} (m : Nat) (vs : List (Nat × Value)) (hm : P.follows .mixedOrders = true) (hml : m ≤ l.length)
    (chk : thenChk l m a0.tmps.size = true) (hgd : guardsIn l m = true) (hkeys : vs.all (fun kv => (l.take m).any (·.dst == some kv.1)) = true)
    (H : ∀ aE, puts a0 vs = aE → AllBut (CalmG P aE w l) l.length l.length 0 (l.take m) ∧ ∀ W, Below w.heap.size w W → wpList P l.toArray Q (l.drop m) aE W) :
    (Code.region id l.toArray true).wp P Q a0 w := by
  obtain ⟨h2, h3⟩ := H _ rfl
  refine wp_region_then hm hml chk hkeys (fun i o t him hi hd => ?_) (fun i o k b him hi hg => guardsIn_at hgd him hi hg) h3
  have hlt : i < l.length := (List.getElem?_eq_some_iff.1 hi).1
  exact AllBut.spec (l.take m) 0 h2 i o (by rw [List.getElem?_take_of_lt him]; exact hi) (by omega) (by omega) t hd
end
end Go.Proofs.Ytidbikjdigemnaa
