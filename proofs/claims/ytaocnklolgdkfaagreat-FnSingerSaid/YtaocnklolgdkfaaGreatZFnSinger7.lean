/- Texts of the claim, in build order: OB3, OA1, OB4, OC1, Hold, RegM, IR4, DR1, OpB, S7, T4, T6, RegT, G4, T5, T7, Shelf, H2, H3, H4, U1, U2, U3, U4, UB, UD, U5. No condition. -/
import Derived.Shelf.SortM.Plain
import Derived.Shelf.SortM.SortNone
import Derived.Sort.OwnSortedInts
import Derived.Deep.DeepCutAuto
import Derived.Test.YtaocnklolgdkfaaGreatZFnSinger6
/- Plain: classes joined step by step are what is reached. -/
namespace Go.Proofs.YtaocnklolgdkfaaGreat
set_option linter.unusedVariables false
set_option linter.unusedSimpArgs false
set_option linter.unusedSectionVars false
section
variable {α : Type} [DecidableEq α]
variable {f : Nat → α → α} {n : Nat} {d : α} {all : List α}
end
end Go.Proofs.YtaocnklolgdkfaaGreat
/- Small things for laws with lists of maps. -- maps -/
namespace Go.Proofs.YtaocnklolgdkfaaGreat
open Go.RowKit
set_option linter.unusedVariables false
set_option linter.unusedSimpArgs false
theorem okM_inM {p : Int} {t : M9} (h : okM p t = true) : InM t := by
  unfold okM mapB at h
  simp only [Bool.and_eq_true] at h
  obtain ⟨hp, hn, -⟩ := h
  obtain ⟨-, h2⟩ := prB_bd hp
  intro x hx
  have := nums_at hn (x := x) hx
  exact ⟨this.1, by omega⟩
theorem ListM.nil {W : World} {l : List M9} {n : Nat} (h : n = 0) (hl : l.length = n) : ListM W none n l := ⟨hl, fun h2 => by omega⟩
theorem ListM.at {W : World} {g n : Nat} {l : List M9} (hl : l.length = n) (h : MapsK W g 0 n l) : ListM W (some ⟨g, 0, none⟩) n l := ⟨hl, fun _ => ⟨g, 0, rfl, h⟩⟩
end Go.Proofs.YtaocnklolgdkfaaGreat
/- Plain: orbits of points under invertible maps. -/
namespace Go.Proofs.YtaocnklolgdkfaaGreat
open Go.RowKit
set_option linter.unusedVariables false
set_option linter.unusedSimpArgs false
def p0 : Pt := (0, 0, 0)
def fO (p : Int) (ms : List M9) (k : Nat) (x : Pt) : Pt := imgP p (ms.getD k m0) x
/-- All maps are invertible. -/
structure MsOk (n : Nat) (ms : List M9) : Prop where
  pr : prB (n : Int) = true
  ok : ∀ m ∈ ms, okM (n : Int) m = true
theorem getM_mem {l : List M9} {j : Nat} (h : j < l.length) : l.getD j m0 ∈ l := by rw [List.getD_eq_getElem?_getD, List.getElem?_eq_getElem h]; exact List.getElem_mem _
variable {n : Nat} {ms : List M9}
theorem MsOk.fin (h : MsOk n ms) : ∀ x, x ∈ allP n → ∀ k, k < ms.length → fO n ms k x ∈ allP n := fun x hx k hk => by
  have := img_pt (h.ok _ (getM_mem hk)) (allP_pt h.pr hx)
  exact mem_allP this
theorem MsOk.inj (h : MsOk n ms) : ∀ x y, x ∈ allP n → y ∈ allP n → ∀ k, k < ms.length → fO n ms k x = fO n ms k y → x = y := fun x y hx hy k hk e => img_inj (h.ok _ (getM_mem hk)) (allP_pt h.pr hx) (allP_pt h.pr hy) e
theorem MsOk.n13 (h : MsOk n ms) : 3 ≤ n ∧ n ≤ 13 := by have := prB_bd h.pr; omega
/-- The points met so far, from a point on. -/
def seqP (n : Nat) (ms : List M9) (a : Pt) (i : Nat) : List Pt := seqO (fO n ms) ms.length p0 a i
def RunP (n : Nat) (ms : List M9) (a : Pt) (i : Nat) : Prop := ∀ j, j < i → j < (seqP n ms a j).length
def WholeP (n : Nat) (ms : List M9) (a : Pt) (K : Nat) : Prop := WholeO (fO n ms) ms.length p0 a K
theorem RunP.in (h : MsOk n ms) {a : Pt} (ha : a ∈ allP n) {i : Nat} (hr : RunP n ms a i) : ∀ x ∈ seqP n ms a i, x ∈ allP n :=
  seqO_all (P := (· ∈ allP n)) ha h.fin i (by rcases Nat.eq_zero_or_pos i with h2 | h2; (· exact .inl h2); (· exact .inr (hr (i - 1) (by omega)))) hr
theorem RunP.fin {a : Pt} {i K : Nat} (hw : WholeP n ms a K) (hr : RunP n ms a i) (hi : (seqP n ms a i).length = i) : i = K := (WholeO.uniq (f := fO n ms) (n := ms.length) (d := p0) ⟨hr, hi⟩ hw)
end Go.Proofs.YtaocnklolgdkfaaGreat
/- Lists of class labels in memory; all blocks but one; the operations of a walk over them. -/
namespace Go.Proofs.YtaocnklolgdkfaaGreat
open Go.RowKit
set_option linter.unusedVariables false
set_option linter.unusedSimpArgs false
structure RowJ (W : World) (g cap N : Nat) (F : Nat → Int) : Prop where
  room : RoomI W g cap 3
  le : N ≤ cap
  at_ : ∀ j, j < N → W.cell? ⟨g, j, none⟩ = some (.int .i64 (F j))
section
variable {W W' : World} {g g' cap N k : Nat} {F G : Nat → Int}
theorem RowJ.blk (h : RowJ W g cap N F) (e : W'.heap[g]? = W.heap[g]?) : RowJ W' g cap N F := by
  obtain ⟨⟨cur, h1, h2⟩, h3, h4⟩ := h
  refine ⟨⟨cur, e.trans h1, h2⟩, h3, fun j hj => ?_⟩
  rw [← h4 j hj]; unfold World.cell?; rw [e]
theorem RowJ.lt (h : RowJ W g cap N F) : g < W.heap.size := h.room.lt
theorem RowJ.below (h : RowJ W g cap N F) (hb : Below W.heap.size W W') : RowJ W' g cap N F := h.blk (hb.block _ h.lt)
theorem RowJ.link (l : Link W W') (h : RowJ W g cap N F) : RowJ W' g cap N F := h.below l.out
theorem RowJ.alloc (h : RowJ W g cap N F) (o : Obj) : RowJ (W.alloc o) g cap N F := h.below (bal (Below.refl _ _) o)
theorem RowJ.set (h : RowJ W g cap N F) (hk : k < N) (x : Int) : RowJ (W.setCell ⟨g, k, none⟩ (.int .i64 x)) g cap N (fun j => if j = k then x else F j) := by
  refine ⟨h.room.set k _, h.le, fun j hj => ?_⟩
  by_cases e : j = k
  · subst e
    rw [World.cell?_setCell_same _ _ _ (h.at_ j hj)]
    simp
  · rw [World.cell?_setCell_other _ _ _ _ (fun h => e (by cases h; rfl)), h.at_ j hj]
    simp [e]
theorem RowJ.other (h : RowJ W g cap N F) (hne : g ≠ g') (k : Nat) (v : Value) : RowJ (W.setCell ⟨g', k, none⟩ v) g cap N F := h.blk (setCell_blk W hne k v)
theorem RowJ.congr (h : RowJ W g cap N F) (e : ∀ j, j < N → F j = G j) : RowJ W g cap N G := ⟨h.room, h.le, fun j hj => by rw [h.at_ j hj, e j hj]⟩
end
theorem RowJ.cell {W : World} {g cap N k : Nat} {F : Nat → Int} (h : RowJ W g cap N F) (hk : k < N) : CellK W g k (.int .i64 (F k)) := ⟨h.at_ k hk⟩
theorem RowJ.st {W : World} {g cap N k : Nat} {F : Nat → Int} (h : RowJ W g cap N F) (hk : k < N) : StK W g k := ⟨h.room.some k (Nat.lt_of_lt_of_le hk h.le), h.room.frozen k, h.lt⟩
/-- All blocks but one are as they were. -/
structure ButK (g : Nat) (w W : World) : Prop where
  out : w.heap.size ≤ W.heap.size ∧ (∀ b, b < w.heap.size → b ≠ g → W.heap[b]? = w.heap[b]?) ∧ W.os = w.os ∧ W.tape = w.tape ∧ W.output = w.output
theorem ButK.refl (g : Nat) (w : World) : ButK g w w := ⟨Nat.le_refl _, fun _ _ _ => rfl, rfl, rfl, rfl⟩
theorem ButK.low {g : Nat} {w W W' : World} (l : LowK W W') (h : ButK g w W) : ButK g w W' := by
  obtain ⟨h1, h2, h3, h4, h5⟩ := h.out
  exact ⟨Nat.le_trans h1 l.out.size, fun b hb hne => (l.out.block b (by omega)).trans (h2 b hb hne), l.out.os.trans h3, l.out.tape.trans h4, l.out.output.trans h5⟩
theorem ButK.tr {g : Nat} {w W W' : World} (h' : ButK g W W') (h : ButK g w W) : ButK g w W' := by
  obtain ⟨h1, h2, h3, h4, h5⟩ := h.out
  obtain ⟨k1, k2, k3, k4, k5⟩ := h'.out
  exact ⟨Nat.le_trans h1 k1, fun b hb hne => (k2 b (by omega) hne).trans (h2 b hb hne), k3.trans h3, k4.trans h4, k5.trans h5⟩
theorem ButK.set {g : Nat} {w W : World} (k : Nat) (v : Value) (h : ButK g w W) : ButK g w (W.setCell ⟨g, k, none⟩ v) := by
  obtain ⟨h1, h2, h3, h4, h5⟩ := h.out
  exact ⟨by simpa [World.setCell] using h1, fun b hb hne => (setCell_blk W hne k v).trans (h2 b hb hne), h3, h4, h5⟩
theorem ButK.size {g : Nat} {w W : World} (h : ButK g w W) : w.heap.size ≤ W.heap.size := h.out.1
theorem LowK.but {g : Nat} {w0 w W : World} (h : ButK g w W) (hg : w0.heap.size ≤ g) (l : LowK w0 w) : LowK w0 W := by
  obtain ⟨h1, h2, h3, h4, h5⟩ := h.out
  exact ⟨⟨h3.trans l.out.os, h4.trans l.out.tape, h5.trans l.out.output, Nat.le_trans l.out.size h1, fun k hk => (h2 k (Nat.lt_of_lt_of_le hk l.out.size) (by omega)).trans (l.out.block k hk)⟩⟩
theorem cell_but {g : Nat} {w W : World} (h : ButK g w W) {b o : Nat} {v : Value} (hne : b ≠ g) (hc : w.cell? ⟨b, o, none⟩ = some v) : W.cell? ⟨b, o, none⟩ = some v := by
  have hb : b < w.heap.size := World.block_lt_of_cell? w _ hc
  have := h.out.2.1 b hb hne
  rw [← hc]; unfold World.cell?; rw [this]
theorem PtsK.but {g : Nat} {w W : World} (h : ButK g w W) {b o n : Nat} {L : List Pt} (hne : b ≠ g) (hP : PtsK w b o n L) : PtsK W b o n L :=
  ⟨fun i hi => ⟨cell_but h hne (hP.out i hi).1, cell_but h hne (hP.out i hi).2.1, cell_but h hne (hP.out i hi).2.2⟩⟩
theorem GoMapP.but {g : Nat} {w W : World} (h : ButK g w W) {b : Nat} {L : List Pt} (hne : b ≠ g) (hM : GoMapP w b L) : GoMapP W b L := hM.blk (h.out.2.1 b hM.lt hne)
theorem RowK.but {g : Nat} {w W : World} (h : ButK g w W) {b : Nat} {cs : Array Value} {T : TypeId} (hne : b ≠ g) (hR : RowK w b cs T) : RowK W b cs T := ⟨(h.out.2.1 b hR.lt hne).trans hR.out⟩
theorem RowJ.grew {w W : World} {u : Value} {g cap N : Nat} {F : Nat → Int} (hg : Grew w u W) (ho : Off u g) (h : RowJ w g cap N F) : RowJ W g cap N F := h.blk (hg.out.block g h.lt (fun e => ho.out e.symm))
section
variable {ρ : Operand → Value} {ops : Array Oper} {rest : List Oper} {o : Oper} {a : Act} {w W : World} {Q : Exit → Act → World → Prop} {ty : TypeId} {x y : Operand}
end
end Go.Proofs.YtaocnklolgdkfaaGreat
/- A place in a walk where one's own steps begin. -/
namespace Go.Proofs.YtaocnklolgdkfaaGreat
def Hold (p : Prop) : Prop := p
theorem hold {p : Prop} (h : Hold p) : p := h
end Go.Proofs.YtaocnklolgdkfaaGreat
/- A region whose first m operations draw their order, with a chain among them: the calm ones stand as long as the chain has not begun; each is bound ahead of the chain or is a plain move. (Printed by genregm.py.) -/
namespace Go.Proofs.YtaocnklolgdkfaaGreat
open Go.RowKit
set_option linter.unusedVariables false
set_option linter.unusedSimpArgs false
structure RInvM (P : Program) (l : List Oper) (m : Nat) (ch : List Nat) (KP : World → Prop) (Q' : Act → World → Prop) (a0 aE : Act) (s : Nat) (aS : Act) (Ws : World) (listed : Array Bool) (a : Act) (w : World) : Prop where
  df : a.defers = a0.defers
  sz : a.tmps.size = a0.tmps.size
  len : listed.size = l.length
  fr1 : ∀ (j : Nat) (o : Oper) (t : Nat), j < m → l[j]? = some o → o.dst = some t → listed.getD j false = true → a.tmps.getD t undef = aS.tmps.getD t undef
  fr0 : ∀ t : Nat, (∀ (j : Nat) (o : Oper), j < m → l[j]? = some o → o.dst = some t → listed.getD j false = false) → a.tmps.getD t undef = a0.tmps.getD t undef
  sd : aS.defers = a0.defers
  ss : aS.tmps.size = a0.tmps.size
  sc : ∀ (j : Nat) (o : Oper) (t : Nat), j < m → l[j]? = some o → o.dst = some t → ch.contains j = false → aS.tmps.getD t undef = aE.tmps.getD t undef
  s0 : ∀ t : Nat, (∀ (j : Nat) (o : Oper), j < m → l[j]? = some o → o.dst ≠ some t) → aS.tmps.getD t undef = a0.tmps.getD t undef
  sq : wpCh P l.toArray (fun _ => True) Q' ((ch.drop s).filterMap fun i => l[i]?) aS Ws
  bl : Below Ws.heap.size Ws w
  kp : s = 0 → KP w
  sle : s ≤ ch.length
  cs : ∀ (k i : Nat), ch[k]? = some i → (listed.getD i false = true ↔ k < s)
  rest : ∀ j, m ≤ j → listed.getD j false = false
  dc : ∀ (i : Nat) (o : Oper), l[i]? = some o → listed.getD i false = true → ∀ e ∈ o.after, Region.binds .any e = true → listed.getD e.on false = true
section
variable {P : Program} {Q : Exit → Act → World → Prop} {l : List Oper} {a0 : Act} {w : World} {ch : List Nat} {KP : World → Prop}
end
section
variable {P : Program} {Q : Exit → Act → World → Prop} {l : List Oper} {a0 : Act} {w : World}
end
end Go.Proofs.YtaocnklolgdkfaaGreat
/- Contracts: the program's IncidenceRank. -- tables -/
namespace Go.Proofs.YtaocnklolgdkfaaGreat
open Go.RowKit
set_option linter.unusedVariables false
set_option linter.unusedSimpArgs false
set_option pp.deepTerms false
set_option pp.deepTerms.threshold 8
end Go.Proofs.YtaocnklolgdkfaaGreat
/- Contracts: the source of the draws: its next number. -- draws -/
namespace Go.Proofs.YtaocnklolgdkfaaGreat
open Go.RowKit
set_option linter.unusedVariables false
set_option linter.unusedSimpArgs false
theorem RowK.cellAt {W : World} {g k : Nat} {cs : Array Value} {T : TypeId} {v : Value} (h : RowK W g cs T) (hk : cs[k]? = some v) : CellK W g k v := ⟨(cell_of_row W g k _ _ _ h.out).trans hk⟩
theorem RowK.stAt {W : World} {g k : Nat} {cs : Array Value} {T : TypeId} (h : RowK W g cs T) (hk : k < cs.size) : StK W g k := by
  have e : W.cell? ⟨g, k, none⟩ = cs[k]? := cell_of_row W g k _ _ _ h.out
  have hr : RoomI W g cs.size T := ⟨cs, h.out, rfl⟩
  exact ⟨hr.some k hk, hr.frozen k, h.lt⟩
theorem RowK.setC {W : World} {g k : Nat} {cs : Array Value} {T : TypeId} (h : RowK W g cs T) (v : Value) : RowK (W.setCell ⟨g, k, none⟩ v) g (cs.setIfInBounds k v) T := by
  refine ⟨?_⟩
  have := h.out
  simp [World.setCell, Array.getElem?_modify, this]
/-- The bytes of a code. -/
def CodeK (W : World) (b : Option Addr) (n : Nat) : Prop := 0 < n → ∃ g o, b = some ⟨g, o, none⟩ ∧ ∀ i, i < n → ∃ x : Int, W.cell? ⟨g, o + i, none⟩ = some (.int .u8 x) ∧ 0 ≤ x ∧ x ≤ 255
theorem CodeK.link {W W' : World} {b : Option Addr} {n : Nat} (l : Link W W') (h : CodeK W b n) : CodeK W' b n := fun hn => by
  obtain ⟨g, o, e, hc⟩ := h hn
  exact ⟨g, o, e, fun i hi => by obtain ⟨x, h1, h2⟩ := hc i hi; exact ⟨x, cell_below l.out h1, h2⟩⟩
theorem CodeK.but {g : Nat} {w W : World} {b : Option Addr} {n : Nat} (hB : ButK g w W) (hne : ∀ a, b = some a → a.block ≠ g) (h : CodeK w b n) : CodeK W b n := fun hn => by
  obtain ⟨gb, o, e, hc⟩ := h hn
  exact ⟨gb, o, e, fun i hi => by obtain ⟨x, h1, h2⟩ := hc i hi; exact ⟨x, cell_but hB (hne _ e) h1, h2⟩⟩
/-- The source of a draw, in block g, over a code. -/
structure SrcK (W : World) (g : Nat) (b : Option Addr) (n c : Nat) : Prop where
  row : ∃ (at_ : Nat) (h : Int), RowK W g #[.slice b n c, .int .i64 (at_ : Int), .int .u64 h] 82 ∧ at_ ≤ n ∧ 0 ≤ h ∧ h < 18446744073709551616
  code : CodeK W b n
  ne : ∀ a, b = some a → a.block ≠ g
  le : n ≤ 4096
theorem SrcK.link {W W' : World} {g n c : Nat} {b : Option Addr} (l : Link W W') (h : SrcK W g b n c) : SrcK W' g b n c := by
  obtain ⟨a, x, hr, h1⟩ := h.row
  exact ⟨⟨a, x, hr.link l, h1⟩, h.code.link l, h.ne, h.le⟩
theorem SrcK.lt {W : World} {g n c : Nat} {b : Option Addr} (h : SrcK W g b n c) : g < W.heap.size := by
  obtain ⟨a, x, hr, -⟩ := h.row
  exact hr.lt
section
variable {ρ : Operand → Value} {ops : Array Oper} {rest : List Oper} {o : Oper} {a : Act} {w W : World} {Q : Exit → Act → World → Prop} {ty : TypeId} {x y : Operand}
theorem ld_cellS {g k : Nat} {v : Value} (hop : o.op = .load ty x := by exact rfl) (hx : ρ x = .pointer (some ⟨g, k, none⟩) := by exact rfl)
    (hc : CellK W g k v := by repeat (first | with_reducible assumption | (apply CellK.link; (· with_reducible assumption))))
    (ha : ∀ W, (isAgg ty).run Tryz.prog W = .ok false W := by first | exact Tryz.isAgg80 | exact Tryz.isAgg3 | exact Tryz.isAgg22 | exact Tryz.isAgg5 | exact Tryz.isAgg2) : (execOp ρ o).run Tryz.prog W = .ok (.value v) W := by
  have h := hc.out
  unfold execOp
  simp only [hop, hx, Instr.loadAt, Instr.sureAddr, Sem.run_bind, Sem.run_pure, Result.andThen_ok, loadVar, ha, Bool.false_eq_true, if_false]
  rw [run_load]
  simp [h]
theorem wl_loadS {v : Value} (hK : wpList Tryz.prog ops Q rest (a.put o.dst v) w) (hgd : o.guard = none := by exact rfl) (hop : o.op = .load ty x := by exact rfl)
    (hr : (execOp a.eval o).run Tryz.prog w = .ok (.value v) w := by exact ld_cellS) : wpList Tryz.prog ops Q (o :: rest) a w := wpList_load_any w hgd ty x hop hr hK
theorem q_loadS {G : Grow0 w} {K : Act → Prop} {v : Value} (hK : K (a.put o.dst v)) (hop : o.op = .load ty x := by exact rfl)
    (h : ∀ W, Link w W → (execOp a.eval o).run Tryz.prog W = .ok (.value v) W := by (intro W hl; exact ld_cellS)) : o.quiet Tryz.prog a (fun w' => ∃ g : Grow w G, w' = g.W) K := q_load_any ty x hop h hK
theorem wl_storeS {g k : Nat} {v : Value} (hK : wpList Tryz.prog ops Q rest a (w.setCell ⟨g, k, none⟩ v)) (hgd : o.guard = none := by exact rfl) (hop : o.op = .store ty x y := by exact rfl) (hd : o.dst = none := by exact rfl)
    (hx : a.eval x = .pointer (some ⟨g, k, none⟩) := by exact rfl) (hy : a.eval y = v := by conv => lhs; whnf)
    (hS : StK w g k := by repeat (first | with_reducible assumption | (apply StK.link; (· with_reducible assumption))))
    (h1 : v.cells = #[v] := by exact rfl) (h2 : v.oneCell' = true := by exact rfl) (hs : ∀ W, (sizeOf ty).run Tryz.prog W = .ok 1 W := by first | exact Tryz.sizeOf80 | exact Tryz.sizeOf3 | exact Tryz.sizeOf2) : wpList Tryz.prog ops Q (o :: rest) a w := by
  obtain ⟨s1, s2, -⟩ := hS.out
  obtain ⟨u, hu⟩ := Option.isSome_iff_exists.1 s1
  have hr : (execOp a.eval o).run Tryz.prog w = .ok .skip (w.setCell ⟨g, k, none⟩ v) := by
    unfold execOp
    simp only [hop, hx, hy, Instr.storeAt, Instr.sureAddr, Sem.run_bind, Sem.run_pure, Result.andThen_ok, storeVar, hs, h1]
    have e : ((⟨g, k, none⟩ : Addr).add 0) = ⟨g, k, none⟩ := by unfold Addr.add; split <;> simp_all
    simp [storeCells, e, run_store, h2, hu, s2, go_sem]
  refine wpList_plain hgd fun K hK' => ?_
  unfold Oper.wp
  rw [hr]
  simp only [Oper.upon, hd]
  exact hK' _ _ hK
end
theorem wrapU (x : Int) : 0 ≤ IntKind.wrap .u64 x ∧ IntKind.wrap .u64 x < 18446744073709551616 := by
  rw [IntKind.wrap_u64]; omega
theorem bits_bd (E : Int) (h0 : 0 ≤ E) (h1 : E < 18446744073709551616) : 0 ≤ bits BinOp.and IntKind.u64 E 16777215 ∧ bits BinOp.and IntKind.u64 E 16777215 ≤ 16777215 := by
  obtain ⟨e, rfl⟩ : ∃ e : Nat, E = (e : Int) := ⟨E.toNat, by omega⟩
  have hl : e &&& 16777215 ≤ 16777215 := Nat.and_le_right
  have e1 : bits BinOp.and IntKind.u64 (e : Int) 16777215 = ((e &&& 16777215 : Nat) : Int) := bits_and_u64_nat e 16777215 (by omega) (by decide)
  rw [e1]; omega
theorem mod_nat (a b m : Nat) : ((a : Int) + (b : Int)) % (m : Int) = (((a + b) % m : Nat) : Int) := by simp
/-- What a draw leaves: the source, and all else as it was. -/
structure Drew (g : Nat) (b : Option Addr) (n c : Nat) (w W : World) : Prop where
  src : SrcK W g b n c
  but : ButK g w W
set_option pp.deepTerms false
set_option pp.deepTerms.threshold 10
set_option maxRecDepth 20000 in
set_option maxHeartbeats 8000000 in
theorem Next_S (g : Nat) (b : Option Addr) (n c : Nat) (m : Int) (w : World) (hS : SrcK w g b n c) (hm : 1 ≤ m) :
    Calls Tryz.prog 42 #[.pointer (some ⟨g, 0, none⟩), .int .i64 m] w (fun e W => ∃ r : Nat, e = .returned (.int .i64 (r : Int)) ∧ (r : Int) < m ∧ Drew g b n c w W) := by
  obtain ⟨at_, h, hrow, hat, h0, h1⟩ := hS.row
  have c0 : CellK w g 0 (.slice b n c) := hrow.cellAt rfl
  have c1 : CellK w g 1 (.int .i64 (at_ : Int)) := hrow.cellAt rfl
  have c2 : CellK w g 2 (.int .u64 h) := hrow.cellAt rfl
  have s1 : StK w g 1 := hrow.stAt (by show 1 < 3; decide)
  have s2 : StK w g 2 := hrow.stAt (by show 2 < 3; decide)
  have hm2 : ¬ m < 1 := by omega
  have hr2 := wrapU (IntKind.wrap .u64 (h * 6364136223846793005) + 1442695040888963407)
  go_enter Tryz.func42, Tryz.ntmps42
  go_wp2_with (first | (with_reducible refine hold (p := wpList _ _ _ ({ dst := none, op := .store _ _ _, type := _, pos := _, after := _, guard := _ } :: _) _ _) ?_) | (refine wl_loadS ?_))
  unfold Hold
  refine wl_storeS ?_
  generalize IntKind.wrap .u64 (IntKind.wrap .u64 (h * 6364136223846793005) + 1442695040888963407) = h2 at *
  have hrow1 : RowK (w.setCell ⟨g, 2, none⟩ (.int .u64 h2)) g #[.slice b n c, .int .i64 (at_ : Int), .int .u64 h2] 82 := hrow.setC (k := 2) (.int .u64 h2)
  have hB1 : ButK g w (w.setCell ⟨g, 2, none⟩ (.int .u64 h2)) := (ButK.refl g w).set 2 _
  clear c0 c1 c2 s1 s2 hrow
  generalize w.setCell ⟨g, 2, none⟩ (.int .u64 h2) = W1 at *
  have c0 : CellK W1 g 0 (.slice b n c) := hrow1.cellAt rfl
  have c1 : CellK W1 g 1 (.int .i64 (at_ : Int)) := hrow1.cellAt rfl
  have c2 : CellK W1 g 2 (.int .u64 h2) := hrow1.cellAt rfl
  have s1 : StK W1 g 1 := hrow1.stAt (by show 1 < 3; decide)
  obtain ⟨y0, y1⟩ := bits_bd (h2 / 8589934592) (by omega) (by omega)
  have hw64 : wrap64 (bits BinOp.and IntKind.u64 (h2 / 8589934592) 16777215) = bits BinOp.and IntKind.u64 (h2 / 8589934592) 16777215 := by rw [wrap64]; omega
  by_cases hlt : at_ < n
  · obtain ⟨gb, o, rfl, hc⟩ := (hS.code.but hB1 hS.ne) (by omega)
    obtain ⟨x, hx, hx0, hx1⟩ := hc at_ hlt
    have c3 : CellK W1 gb (o + at_) (.int .u8 x) := ⟨hx⟩
    have hle := hS.le
    have hxw : wrap64 x = x := by rw [wrap64]; omega
    have hxs : wrap64 (bits BinOp.and IntKind.u64 (h2 / 8589934592) 16777215 + x) = bits BinOp.and IntKind.u64 (h2 / 8589934592) 16777215 + x := by rw [wrap64]; omega
    go_wp2_with (first | (with_reducible refine hold (p := wpList _ _ _ ({ dst := none, op := .store _ _ _, type := _, pos := _, after := _, guard := _ } :: _) _ _) ?_) | (refine wl_loadS ?_) | ((with_reducible apply region_gd (id := 5)); refine region_QA (id := 5) 10 ?_; apply Exists.intro; refine ⟨fun G => ?_, fun W hl => ?_⟩; (· (simp only [List.take_succ_cons, List.take_zero]; (repeat (first | go_big_quiet_skip | (go_big_quiet_want; first | (refine q_loadS ?_; simp only [Act.put, List.setIfInBounds_toArray, List.set_cons_zero, List.set_cons_succ]; go_big_quiet_on) | (refine q_load ?_; simp only [Act.put, List.setIfInBounds_toArray, List.set_cons_zero, List.set_cons_succ]; go_big_quiet_on) | (go_big_quiet_op; first | go_big_quiet_on)))); exact rfl)); have hs := hl.out.size; (try simp at hs); simp only [List.drop_succ_cons, List.drop_zero]) | ((with_reducible apply region_gd (id := 6)); refine region_QA (id := 6) 13 ?_; apply Exists.intro; refine ⟨fun G => ?_, fun W hl => ?_⟩; (· (simp only [List.take_succ_cons, List.take_zero]; (repeat (first | go_big_quiet_skip | (go_big_quiet_want; first | (refine q_loadS ?_; simp only [Act.put, List.setIfInBounds_toArray, List.set_cons_zero, List.set_cons_succ]; go_big_quiet_on) | (refine q_load ?_; simp only [Act.put, List.setIfInBounds_toArray, List.set_cons_zero, List.set_cons_succ]; go_big_quiet_on) | (go_big_quiet_op; first | go_big_quiet_on)))); exact rfl)); have hs := hl.out.size; (try simp at hs); simp only [List.drop_succ_cons, List.drop_zero]))
    unfold Hold
    refine wl_storeS ?_
    have hlow : LowK W1 W := findLow
    have hrow2 : RowK (W.setCell ⟨g, 1, none⟩ (.int .i64 ((at_ : Int) + 1))) g #[.slice (some ⟨gb, o, none⟩) n c, .int .i64 ((at_ + 1 : Nat) : Int), .int .u64 h2] 82 := (hrow1.link (LowK.lnk hlow)).setC (k := 1) (.int .i64 ((at_ : Int) + 1))
    have hB2 : ButK g w (W.setCell ⟨g, 1, none⟩ (.int .i64 ((at_ : Int) + 1))) := (hB1.low hlow).set 1 _
    generalize W.setCell ⟨g, 1, none⟩ (.int .i64 ((at_ : Int) + 1)) = W3 at *
    go_wp2
    have HR := Lib.hid hr2
    have HS := Lib.hid hS
    have HAT := Lib.hid (show at_ + 1 ≤ n by omega)
    clear hr2 hS hxw hxs hw64 hc hx h0 h1 hle hat hlt
    generalize bits BinOp.and IntKind.u64 (h2 / 8589934592) 16777215 = y at *
    obtain ⟨yn, rfl⟩ := Int.eq_ofNat_of_zero_le y0
    obtain ⟨xn, rfl⟩ := Int.eq_ofNat_of_zero_le hx0
    obtain ⟨mn, rfl⟩ := Int.eq_ofNat_of_zero_le (show 0 ≤ m by omega)
    (apply ret_one Tryz.results42; (conv => lhs; whnf); exact rfl)
    exact ⟨(yn + xn) % mn, congrArg (fun z : Int => Ending.returned (Value.int .i64 z)) (mod_nat yn xn mn), by have := Nat.mod_lt (yn + xn) (show 0 < mn by omega); omega, ⟨⟨at_ + 1, h2, hrow2, HAT.out, HR.out.1, HR.out.2⟩, HS.out.code.but hB2 HS.out.ne, HS.out.ne, HS.out.le⟩, hB2⟩
  · go_wp2_with (first | (refine wl_loadS ?_) | (refine wl_load ?_) | (refine wl_storeS ?_) | (refine wl_store ?_) | (refine wl_build ?_) | (refine wl_slice ?_) | (refine wl_append ?_; intro v' w' ho hg hb; have hs := hg.size; (try simp at hs); (try rw [ptCs_end] at ho); (try rw [ints_end] at ho); (try simp only [Nat.zero_add, Nat.reduceAdd, List.nil_append, List.cons_append] at ho)) | ((with_reducible apply region_gd (id := 5)); refine region_QA (id := 5) 10 ?_; apply Exists.intro; refine ⟨fun G => ?_, fun W hl => ?_⟩; (· (simp only [List.take_succ_cons, List.take_zero]; (repeat (first | go_big_quiet_skip | (go_big_quiet_want; first | (refine q_loadS ?_; simp only [Act.put, List.setIfInBounds_toArray, List.set_cons_zero, List.set_cons_succ]; go_big_quiet_on) | (refine q_load ?_; simp only [Act.put, List.setIfInBounds_toArray, List.set_cons_zero, List.set_cons_succ]; go_big_quiet_on) | (go_big_quiet_op; first | go_big_quiet_on)))); exact rfl)); have hs := hl.out.size; (try simp at hs); simp only [List.drop_succ_cons, List.drop_zero]) | ((with_reducible apply region_gd (id := 6)); refine region_QA (id := 6) 13 ?_; apply Exists.intro; refine ⟨fun G => ?_, fun W hl => ?_⟩; (· (simp only [List.take_succ_cons, List.take_zero]; (repeat (first | go_big_quiet_skip | (go_big_quiet_want; first | (refine q_loadS ?_; simp only [Act.put, List.setIfInBounds_toArray, List.set_cons_zero, List.set_cons_succ]; go_big_quiet_on) | (refine q_load ?_; simp only [Act.put, List.setIfInBounds_toArray, List.set_cons_zero, List.set_cons_succ]; go_big_quiet_on) | (go_big_quiet_op; first | go_big_quiet_on)))); exact rfl)); have hs := hl.out.size; (try simp at hs); simp only [List.drop_succ_cons, List.drop_zero]))
    generalize bits BinOp.and IntKind.u64 (h2 / 8589934592) 16777215 = y at *
    obtain ⟨yn, rfl⟩ : ∃ yn : Nat, y = (yn : Int) := ⟨y.toNat, by omega⟩
    obtain ⟨mn, rfl⟩ : ∃ mn : Nat, m = (mn : Int) := ⟨m.toNat, by omega⟩
    rw [show ((yn : Int) % (mn : Int)) = ((yn % mn : Nat) : Int) from rfl]
    have hlow : LowK W1 W := findLow
    (apply ret_one Tryz.results42; (conv => lhs; whnf); exact rfl)
    exact ⟨yn % mn, rfl, by have := Nat.mod_lt yn (show 0 < mn by omega); omega, ⟨⟨at_, h2, hrow1.link (LowK.lnk hlow), hat, hr2.1, hr2.2⟩, (hS.code.but hB1 hS.ne).link (LowK.lnk hlow), hS.ne, hS.le⟩, hB1.low hlow⟩
end Go.Proofs.YtaocnklolgdkfaaGreat
/- A list of bytes as an argument: opened. -- draws -/
namespace Go.Proofs.YtaocnklolgdkfaaGreat
open Go.ChangeShapes Go.WideShapes Go.ChangeAt Go.RowKit Go.Deep
set_option linter.unusedVariables false
section
variable {H : Type} {enc : TypeId × Value → H} {P : Program} {W : World} {b0 : Nat} {held : Bool}
theorem shape_lt {g : Nat} {x : TypeId × Nat} (h : W.shape? g = some x) : g < W.heap.size := by
  unfold World.shape? at h
  rcases hg : W.heap[g]? with _ | o
  · rw [hg] at h; simp at h
  · exact (Array.getElem?_eq_some_iff.1 hg).1
theorem open_sl_b {r : Reach} {t e : TypeId} {v : Value} {d : DataW H} {p : List MemPlace} (ht : P.underlying t = some (.slice e)) (he : P.underlying e = some (.int .u8)) (hc : P.cellsOf e = 1)
    (hv : Value.okWide P W r b0 t v) (h : DataW.Trod enc P W 0 (fun _ => true) held t v d p) :
    ∃ (b : Option Addr) (k cap : Nat), v = .slice b k cap ∧ CodeK W b k ∧ ∀ a, b = some a → a.block < W.heap.size := by
  have hv0 := hv
  obtain ⟨a0, len, cap, rfl⟩ := okWide_slice ht hv
  obtain ⟨fuel, hf⟩ := h
  rcases open_ints ht he hc hf with ⟨hcs, hx⟩ | ⟨a, len', cap', zs, hcs, _, hl, hm, hz, hx, hcell, hwz⟩
  · simp [Value.cells] at hcs
    obtain ⟨rfl, rfl, rfl⟩ := hcs
    exact ⟨none, 0, 0, rfl, fun h => absurd h (Nat.lt_irrefl _), fun a ha => by cases ha⟩
  · simp [Value.cells] at hcs
    obtain ⟨rfl, rfl, rfl⟩ := hcs
    simp only [if_true] at hz
    refine ⟨some a, len, cap, rfl, fun hk => ?_, fun a' ha' => ?_⟩
    · obtain ⟨b, off, spot⟩ := a
      have hspot : spot = none := by simpa [Addr.add] using World.cell?_spot (hcell 0 (by omega))
      subst hspot
      refine ⟨b, off, rfl, fun i hi => ?_⟩
      have h1 := hcell i (by omega)
      rw [add_plain] at h1
      have hmem : zs.getD i 0 ∈ zs := by
        rw [List.getD, List.getElem?_eq_getElem (show i < zs.length by omega)]
        exact List.getElem_mem _
      have hw := hwz _ hmem
      refine ⟨_, h1, ?_⟩
      simp [Lit.wf, IntKind.min, IntKind.max] at hw
      first | exact hw | exact ⟨by omega, by omega⟩
    · cases ha'
      simp only [Value.okWide, ht, Cell.okWide, Cell.ok] at hv0
      obtain ⟨-, -, -, -, row, cells, h, -⟩ := hv0
      exact shape_lt h
end
end Go.Proofs.YtaocnklolgdkfaaGreat
/- Contracts: the Singer map, as the reference finds it; SingerMap. (Printed by gens7.py, a program of this session.) -/
namespace Go.Proofs.YtaocnklolgdkfaaGreat
open Go.RowKit
set_option linter.unusedVariables false
set_option linter.unusedSimpArgs false
set_option maxRecDepth 20000 in
set_option maxHeartbeats 8000000 in
theorem l10Singer_any (n : Nat) (w : World) (hC : Codes n) :
    Calls Tryz.prog 30 #[.int .i64 (n : Int)] w (Ret w (.agg (cellsM9 (compM n (firstC n))))) := by
  have HC := Lib.hid hC
  obtain ⟨hn3, hn13⟩ := prB_bd hC.pr
  have hlt := hC.lt
  obtain ⟨M, hM⟩ : ∃ M : Int, (n : Int) * (n : Int) = M := ⟨_, rfl⟩
  obtain ⟨N3, hN3⟩ : ∃ N3 : Int, M * (n : Int) = N3 := ⟨_, rfl⟩
  have h2le : n * n ≤ 13 * 13 := Nat.mul_le_mul (by omega) (by omega)
  have h3le : n * n * n ≤ 13 * 13 * 13 := Nat.mul_le_mul h2le (by omega)
  have h2pos : 0 < n * n := Nat.mul_pos (by omega) (by omega)
  have hMv : M = ((n * n : Nat) : Int) := by rw [← hM]; simp
  have hNv : N3 = ((n * n * n : Nat) : Int) := by rw [← hN3, hMv]; simp
  obtain ⟨N2, hN2⟩ : ∃ N2 : Nat, n * n = N2 := ⟨_, rfl⟩
  obtain ⟨N4, hN4⟩ : ∃ N4 : Nat, N2 * n = N4 := ⟨_, rfl⟩
  rw [hN2] at hMv hNv h2le h3le h2pos hlt
  rw [hN4] at hNv h3le hlt
  have w1 : IntKind.wrap .i64 M = M := wrap_small (by omega)
  have w2 : IntKind.wrap .i64 N3 = N3 := wrap_small (by omega)
  have HN2 := Lib.hid hN2
  have HMv := Lib.hid hMv
  obtain ⟨F, hF⟩ : ∃ F : Nat, firstC n = F := ⟨_, rfl⟩
  have HF := Lib.hid hF
  rw [hF] at hlt
  have hltz : (F : Int) < N3 := by omega
  have hF2 : F < 2197 := by omega
  have HlN := Lib.hid hlt
  have hM0 : 0 < M := by omega
  have HN4 := Lib.hid hN4
  clear hN2 hN4 hMv hNv hF h2le h3le h2pos hlt
  obtain ⟨Q, hQ⟩ : ∃ Q : Nat, n * n + n + 1 = Q := ⟨_, rfl⟩
  have hQv : M + (n : Int) + 1 = (Q : Int) := by rw [HMv.out, ← hQ, HN2.out]; simp
  have hM169 : M ≤ 169 := by rw [← hM]; exact Int.le_trans (Int.mul_le_mul (by omega) (by omega) (by omega) (by omega : (0 : Int) ≤ 13)) (by decide : (13 : Int) * 13 ≤ 169)
  have hQ1 : Q ≤ 1000 := by omega
  have w3 : IntKind.wrap .i64 (M + (n : Int)) = M + (n : Int) := wrap_small (by omega)
  have w4 : IntKind.wrap .i64 (M + (n : Int) + 1) = (Q : Int) := by rw [hQv]; exact wrap_small (by omega)
  have HQ := Lib.hid hQ
  have HQv := Lib.hid hQv
  clear hQ hQv
  go_enter Tryz.func30, Tryz.ntmps30
  go_wp2
  go_loopw [4] (fun q wr => ∃ c : Nat, c ≤ F ∧ q = .int .i64 (c : Int) ∧ Hid (wr.heap[w.heap.size]? = some (.cells #[.int .i64 0, .int .i64 0, .int .i64 0, .int .i64 0, .int .i64 0, .int .i64 0, .int .i64 0, .int .i64 0, .int .i64 0] 31 (0, 0))) ∧ Hid (Below w.heap.size w wr)) (fun q wr => F + 1 - (intOf q).toNat)
  case atStart => exact ⟨0, Nat.zero_le _, rfl, Lib.hid (by rw [hn_atN _ _ _ (by simp)]), Lib.hid (by repeat (first | exact Below.refl _ _ | refine bset ?_ _ _ (by omega) _ | refine bal ?_ _ | refine bdrN ?_ _ | refine bdr ?_))⟩
  case round =>
    obtain ⟨c, hc, rfl, HR, HB⟩ := hrel
    have hc2 : c < 2197 := by omega
    obtain ⟨a, ha⟩ : ∃ a : Int, (c : Int) % (n : Int) = a := ⟨_, rfl⟩
    obtain ⟨d0, hd0⟩ : ∃ d0 : Int, (c : Int) / (n : Int) = d0 := ⟨_, rfl⟩
    obtain ⟨b, hb⟩ : ∃ b : Int, d0 % (n : Int) = b := ⟨_, rfl⟩
    obtain ⟨d, hd⟩ : ∃ d : Int, (c : Int) / M = d := ⟨_, rfl⟩
    obtain ⟨dv, hdv⟩ : ∃ dv : Nat, c % n = dv := ⟨_, rfl⟩
    have nz : ¬ n = 0 := by omega
    have nz2 : ¬ M = 0 := by omega
    have e17 : Int.tmod (c : Int) (n : Int) = a := by rw [← ha]; exact Int.tmod_eq_emod_of_nonneg (by omega)
    have w17 : IntKind.wrap .i64 a = a := by rw [← ha]; exact wrap_small (modb (by omega))
    have b20 : 0 ≤ d0 ∧ d0 ≤ 1000000 := by rw [← hd0]; exact ⟨Int.ediv_nonneg (by omega) (by omega), Int.le_trans (Int.ediv_le_self _ (by omega)) (by omega)⟩
    have e20 : Int.tdiv (c : Int) (n : Int) = d0 := by rw [← hd0]; exact Int.tdiv_eq_ediv_of_nonneg (by omega)
    have w20 : IntKind.wrap .i64 d0 = d0 := wrap_small b20
    have e22 : Int.tmod d0 (n : Int) = b := by rw [← hb]; exact Int.tmod_eq_emod_of_nonneg b20.1
    have w22 : IntKind.wrap .i64 b = b := by rw [← hb]; exact wrap_small (modb (by omega))
    have e27 : Int.tdiv (c : Int) M = d := by rw [← hd]; exact Int.tdiv_eq_ediv_of_nonneg (by omega)
    have w27 : IntKind.wrap .i64 d = d := by rw [← hd]; exact wrap_small ⟨Int.ediv_nonneg (by omega) (by omega), Int.le_trans (Int.ediv_le_self _ (by omega)) (by omega)⟩
    have hcell : cellsM9 (compM n c) = #[.int .i64 0, .int .i64 1, .int .i64 0, .int .i64 0, .int .i64 0, .int .i64 1, .int .i64 a, .int .i64 b, .int .i64 d] := by rw [comp_cells, ha, hM, hd, hd0, hb]
    have hin : InM (compM n c) := inM_comp HC.out.pr (by rw [HN2.out, HN4.out]; have := HlN.out; omega)
    have hdz : (dv : Int) = a := by rw [← ha, ← hdv]; simp
    have hHB := HB.out.size
    have lr0 := (Array.getElem?_eq_some_iff.1 HR.out).1
    have HKeep := Lib.hid (show True ∧ c % n = dv ∧ cellsM9 (compM n c) = #[.int .i64 0, .int .i64 1, .int .i64 0, .int .i64 0, .int .i64 0, .int .i64 1, .int .i64 a, .int .i64 b, .int .i64 d] ∧ InM (compM n c) from ⟨trivial, hdv, hcell, hin⟩)
    clear ha hd0 hb hd hdv hcell hin
    go_wp2
    refine region_calm [(17, .int .i64 (c : Int)), (18, .int .i64 (n : Int)), (19, .int .i64 (n : Int)), (20, .int .i64 M), (21, .int .i64 d), (22, .int .i64 (c : Int)), (23, .int .i64 (n : Int)), (24, .int .i64 d0), (25, .int .i64 (n : Int)), (26, .int .i64 b), (27, .int .i64 (c : Int)), (28, .int .i64 (n : Int)), (29, .int .i64 a), (5, .int .i64 d), (6, .int .i64 b), (7, .int .i64 a)] (by kernel_rfl) (by kernel_rfl) (by kernel_rfl) (fun aE hpe => ?_)
    simp only [puts, Act.put, List.setIfInBounds_toArray, List.set_cons_zero, List.set_cons_succ] at hpe
    subst hpe
    refine ⟨⟨.inr (.inr ?_), .inr (.inr ?_), .inr (.inr ?_), .inr (.inr ?_), .inr (.inr ?_), .inr (.inr ?_), .inr (.inr ?_), .inr (.inr ?_), .inr (.inr ?_), .inr (.inr ?_), .inr (.inr ?_), .inr (.inr ?_), .inr (.inr ?_), .inr (.inr ?_), .inr (.inr ?_), .inr (.inr ?_), trivial⟩, ?_⟩
    · exact Calm.mk 17 (.int .i64 (c : Int)) rfl rfl (fun W hW => calm_move (.tmp 4) rfl rfl)
    · exact Calm.mk 18 (.int .i64 (n : Int)) rfl rfl (fun W hW => calm_move (.tmp 0) rfl rfl)
    · exact Calm.mk 19 (.int .i64 (n : Int)) rfl rfl (fun W hW => calm_move (.tmp 0) rfl rfl)
    · exact Calm.mk 20 (.int .i64 M) rfl rfl (fun W hW => calm_run (by simp [execOp, Act.eval, go_sem, hM, w1]))
    · exact Calm.mk 21 (.int .i64 d) rfl rfl (fun W hW => calm_run (by simp [execOp, Act.eval, go_sem, nz2, e27, w27]))
    · exact Calm.mk 22 (.int .i64 (c : Int)) rfl rfl (fun W hW => calm_move (.tmp 4) rfl rfl)
    · exact Calm.mk 23 (.int .i64 (n : Int)) rfl rfl (fun W hW => calm_move (.tmp 0) rfl rfl)
    · exact Calm.mk 24 (.int .i64 d0) rfl rfl (fun W hW => calm_run (by simp [execOp, Act.eval, go_sem, nz, e20, w20]))
    · exact Calm.mk 25 (.int .i64 (n : Int)) rfl rfl (fun W hW => calm_move (.tmp 0) rfl rfl)
    · exact Calm.mk 26 (.int .i64 b) rfl rfl (fun W hW => calm_run (by simp [execOp, Act.eval, go_sem, nz, e22, w22]))
    · exact Calm.mk 27 (.int .i64 (c : Int)) rfl rfl (fun W hW => calm_move (.tmp 4) rfl rfl)
    · exact Calm.mk 28 (.int .i64 (n : Int)) rfl rfl (fun W hW => calm_move (.tmp 0) rfl rfl)
    · exact Calm.mk 29 (.int .i64 a) rfl rfl (fun W hW => calm_run (by simp [execOp, Act.eval, go_sem, nz, e17, w17]))
    · exact Calm.mk 5 (.int .i64 d) rfl rfl (fun W hW => calm_assign (.tmp 21) rfl rfl)
    · exact Calm.mk 6 (.int .i64 b) rfl rfl (fun W hW => calm_assign (.tmp 26) rfl rfl)
    · exact Calm.mk 7 (.int .i64 a) rfl rfl (fun W hW => calm_assign (.tmp 29) rfl rfl)
    intro W2 hW2
    have kr := (hW2.block _ lr0).trans HR.out
    have lr := (Array.getElem?_eq_some_iff.1 kr).1
    have HB2 := Lib.hid (low_tr' HB.out hW2 hHB)
    have hs2 := HB2.out.size
    clear hW2 HB HR lr0 hHB e17 w17 b20 e20 w20 e22 w22 e27 w27 nz2
    obtain ⟨_, hdv, hcell, hin⟩ := HKeep.out
    have HOr := Lib.hid (fun (W : World) (K : Nat) (h1 : ordM n (compM n c) = K) (h2 : K ≠ 0) => (by have h3 := l10Order_any n (compM n c) K Q W HC.out.pr hin h1 h2 hQ1; rw [hcell] at h3; exact h3 : Calls Tryz.prog 60 #[.int .i64 (n : Int), .agg #[.int .i64 0, .int .i64 1, .int .i64 0, .int .i64 0, .int .i64 0, .int .i64 1, .int .i64 a, .int .i64 b, .int .i64 d], .int .i64 (Q : Int)] W (Ret W (.int .i64 (ordT K Q)))))
    have HCs := Lib.hid HC.out.no
    have HCy := Lib.hid HC.out.yes
    rw [HF.out, HQ.out] at HCy
    rw [HF.out, HQ.out] at HCs
    have HCell := Lib.hid hcell
    have HDv := Lib.hid hdv
    have HDz := Lib.hid hdz
    clear hdv hcell hin HKeep hdz
    by_cases hcF : c = F
    · subst hcF
      have hK : ordM n (compM n c) = Q := HCy.out.2
      have hQ0 : Q ≠ 0 := by have h1 := HC.out.yes.2; rw [HF.out, hK] at h1; have := HQ.out; omega
      have HO := Lib.hid (fun (W : World) => HOr.out W Q hK hQ0)
      rw [show ordT Q Q = (Q : Int) by unfold ordT; rw [if_pos (Nat.le_refl _)]] at HO
      have hzn : ¬ a = 0 := by have := HCy.out.1; rw [HDv.out] at this; have := HDz.out; omega
      clear HCs HCy HOr hK hQ0
      go_wp2_with (first
        | (go_at_call 60; (with_reducible refine (HO.out _).mono ?_); rintro e w4_ ⟨rfl, hb4⟩; obtain ⟨hcb4, hfb4, hlb4⟩ := bcell hb4; have hsz4 := hb4.size; (try simp at hsz4); have HB4 := Lib.hid hb4; clear hb4; (try (have hl04 : W2.heap.size < w4_.heap.size := by omega)))
        | (refine wpList_store_row _ rfl 31 _ _ rfl rfl (g := w.heap.size) (T := 31) (cs := #[.int .i64 0, .int .i64 0, .int .i64 0, .int .i64 0, .int .i64 0, .int .i64 0, .int .i64 0, .int .i64 0, .int .i64 0]) (U := #[.int .i64 0, .int .i64 1, .int .i64 0, .int .i64 0, .int .i64 0, .int .i64 1, .int .i64 a, .int .i64 b, .int .i64 d]) rfl rfl (by rw [HB4.out.block _ (by simp; omega), hn_pastN _ _ _ (by omega)]; exact kr) rfl Tryz.sizeOf31 (by simp [Value.oneCell']) ?_))
      exact bodyPost_ret (v := .agg #[.int .i64 0, .int .i64 1, .int .i64 0, .int .i64 0, .int .i64 0, .int .i64 1, .int .i64 a, .int .i64 b, .int .i64 d]) (results_row Tryz.results30 rfl (setRow_heap _ _ #[.int .i64 0, .int .i64 0, .int .i64 0, .int .i64 0, .int .i64 0, .int .i64 0, .int .i64 0, .int .i64 0, .int .i64 0] _ _ _ (by rw [HB4.out.block _ (by simp; omega), hn_pastN _ _ _ (by omega)]; exact kr)) 9 rfl Tryz.sizeOf31 Tryz.isAgg31) rfl ⟨by rw [HF.out, HCell.out], below_setRowN (low_tr' (bal HB2.out _) HB4.out (by simp; omega)) (by omega) _⟩
    · have hclt : c < F := by omega
      rcases HCs.out c hclt with h0 | ⟨h0, h1, h2⟩
      · have h00 : a = 0 := by rw [HDv.out] at h0; have := HDz.out; omega
        subst h00
        clear HCs HCy HOr h0
        go_wp2
        go_roundw
        case rel => exact ⟨c + 1, by omega, numW (by omega), Lib.hid (by rw [hn_pastN _ _ _ (by omega)]; exact kr), Lib.hid (bal HB2.out _)⟩
        case measure => simp [intOf]; omega
      · obtain ⟨K, hK⟩ : ∃ K, ordM n (compM n c) = K := ⟨_, rfl⟩
        rw [hK] at h1 h2
        have HO := Lib.hid (fun (W : World) => HOr.out W K hK h1)
        have hQp : 0 < Q := by have := HQv.out; omega
        have hv : ¬ ordT K Q = (Q : Int) := by unfold ordT; split <;> omega
        generalize ordT K Q = v at *
        have hvb : (v == (Q : Int)) = false := by simpa using hv
        have hzn : ¬ a = 0 := by rw [HDv.out] at h0; have := HDz.out; omega
        clear HCs HCy HOr h0 h1 h2 hK
        go_wp2_with (go_at_call 60; (with_reducible refine (HO.out _).mono ?_); rintro e w4_ ⟨rfl, hb4⟩; obtain ⟨hcb4, hfb4, hlb4⟩ := bcell hb4; have hsz4 := hb4.size; (try simp at hsz4); have HB4 := Lib.hid hb4; clear hb4; (try (have hl04 : W2.heap.size < w4_.heap.size := by omega)))
        go_roundw
        case rel => exact ⟨c + 1, by omega, numW (by omega), Lib.hid (by rw [HB4.out.block _ (by simp; omega), hn_pastN _ _ _ (by omega)]; exact kr), Lib.hid (low_tr' (bal HB2.out _) HB4.out (by simp; omega))⟩
        case measure => simp [intOf]; omega
theorem l10Prime_yes (n : Nat) (w : World) (hp : prB (n : Int) = true) : Calls Tryz.prog 27 #[.int .i64 (n : Int)] w fun e w' => e = .returned (.int .i64 0) ∧ w = w' := by
  go_enter Tryz.func27, Tryz.ntmps27
  go_wp2_with (go_at_call 45; refine (l01Prime_yes _ _ hp).mono ?_; rintro e w' ⟨rfl, rfl⟩)
  go_ret
  exact ⟨rfl, rfl⟩
theorem l10Prime_no (p : Int) (w : World) (hp : prB p = false) : Calls Tryz.prog 27 #[.int .i64 p] w fun e w' => e = .returned (.int .i64 2) ∧ w = w' := by
  go_enter Tryz.func27, Tryz.ntmps27
  go_wp2_with (go_at_call 45; refine (l01Prime_no _ _ hp).mono ?_; rintro e w' ⟨rfl, rfl⟩)
  go_ret
  exact ⟨rfl, rfl⟩
end Go.Proofs.YtaocnklolgdkfaaGreat
/- Contracts: the Singer order of a prime; SingerOrder, the program's and the reference's. -/
namespace Go.Proofs.YtaocnklolgdkfaaGreat
open Go.RowKit
set_option linter.unusedVariables false
set_option linter.unusedSimpArgs false
theorem singerOrder_any (n : Nat) (w : World) (hp : prB (n : Int) = true) : Calls Tryz.prog 26 #[.int .i64 (n : Int)] w (PtsPost w (singL n)) := by
  have HS := Lib.hid (fun (W : World) => singer_any n W (codes_of hp))
  have HO : Hid (∀ W, Calls Tryz.prog 57 #[.int .i64 (n : Int), .agg (cellsM9 (compM n (firstC n))), ptV 0 0 1] W (PtsPost W (singL n))) := Lib.hid (fun W => orbit_any _ _ (0, 0, 1) _ W (orb_of hp))
  generalize singL n = L at *
  generalize compM n (firstC n) = m at *
  clear hp
  go_enter Tryz.func26, Tryz.ntmps26
  go_wp2_with (first
    | (go_at_call 29; (with_reducible refine (HS.out _).mono ?_); rintro e w1_ ⟨rfl, hb1⟩; obtain ⟨hcb1, hfb1, hlb1⟩ := bcell hb1; have hsz1 := hb1.size; (try simp at hsz1); have HB1 := Lib.hid hb1; clear hb1)
    | (go_at_call 57; refine (HO.out _).mono ?_; rintro e w2 ⟨v, rfl, ho, hb⟩; have HO2 := Lib.hid ho; have HB2 := Lib.hid hb; clear ho hb))
  go_ret
  exact ⟨_, rfl, own_low HO2.out (by have := HB1.out.size; omega), (by repeat (first | exact Below.refl _ _ | refine bset ?_ _ _ (by omega) _ | refine bal ?_ _ | refine bdrN ?_ _ | refine bdr ?_ | refine below_tr' ?_ HB2.out | refine below_tr' ?_ HB1.out))⟩
theorem l10Points_any (n : Nat) (w : World) (hp : prB (n : Int) = true) : Calls Tryz.prog 28 #[.int .i64 (n : Int)] w (PtsPost w (singL n)) := by
  have HS := Lib.hid (fun (W : World) => l10Singer_any n W (codes_of hp))
  have HO : Hid (∀ W, Calls Tryz.prog 58 #[.int .i64 (n : Int), .agg (cellsM9 (compM n (firstC n))), ptV 0 0 1] W (PtsPost W (singL n))) := Lib.hid (fun W => l02Orbit_any _ _ (0, 0, 1) _ W (orb_of hp))
  generalize singL n = L at *
  generalize compM n (firstC n) = m at *
  clear hp
  go_enter Tryz.func28, Tryz.ntmps28
  go_wp2_with (first
    | (go_at_call 30; (with_reducible refine (HS.out _).mono ?_); rintro e w1_ ⟨rfl, hb1⟩; obtain ⟨hcb1, hfb1, hlb1⟩ := bcell hb1; have hsz1 := hb1.size; (try simp at hsz1); have HB1 := Lib.hid hb1; clear hb1)
    | (go_at_call 58; refine (HO.out _).mono ?_; rintro e w2 ⟨v, rfl, ho, hb⟩; have HO2 := Lib.hid ho; have HB2 := Lib.hid hb; clear ho hb))
  go_ret
  exact ⟨_, rfl, own_low HO2.out (by have := HB1.out.size; omega), (by repeat (first | exact Below.refl _ _ | refine bset ?_ _ _ (by omega) _ | refine bal ?_ _ | refine bdrN ?_ _ | refine bdr ?_ | refine below_tr' ?_ HB2.out | refine below_tr' ?_ HB1.out))⟩
/-- A new list of points, and no error. -/
structure PtsPost2 (w : World) (l : List Pt) (e : Ending) (w' : World) : Prop where
  out : ∃ v, e = .returned (.tuple #[v, .int .i64 0]) ∧ w'.ownsRow w.heap.size 56 3 v l.length (ptCs l) ∧ Below w.heap.size w w'
theorem SingerOrder_impl_yes (n : Nat) (w : World) (hp : prB (n : Int) = true) : Calls Tryz.prog 6 #[.int .i64 (n : Int)] w (PtsPost2 w (singL n)) := by
  have HO := Lib.hid (fun (W : World) => singerOrder_any n W hp)
  have HP := Lib.hid hp
  clear hp
  go_enter Tryz.func6, Tryz.ntmps6
  go_wp2_with (first
    | (go_at_call 25; refine (isPrime_yes _ _ HP.out).mono ?_; rintro e w' ⟨rfl, rfl⟩)
    | (go_at_call 26; refine (HO.out _).mono ?_; rintro e w2 ⟨v, rfl, ho, hb⟩; have HO2 := Lib.hid ho; have HB2 := Lib.hid hb; clear ho hb))
  exact bodyPost_ret (v := .tuple #[v, .int .i64 0]) (by simp [results, Tryz.results6, go_sem]) rfl ⟨_, rfl, HO2.out, HB2.out⟩
theorem SingerOrder_spec_yes (n : Nat) (w : World) (hp : prB (n : Int) = true) : Calls Tryz.prog 7 #[.int .i64 (n : Int)] w (PtsPost2 w (singL n)) := by
  have HO := Lib.hid (fun (W : World) => l10Points_any n W hp)
  have HP := Lib.hid hp
  clear hp
  go_enter Tryz.func7, Tryz.ntmps7
  go_wp2_with (first
    | (go_at_call 27; refine (l10Prime_yes _ _ HP.out).mono ?_; rintro e w' ⟨rfl, rfl⟩)
    | (go_at_call 28; refine (HO.out _).mono ?_; rintro e w2 ⟨v, rfl, ho, hb⟩; have HO2 := Lib.hid ho; have HB2 := Lib.hid hb; clear ho hb))
  exact bodyPost_ret (v := .tuple #[v, .int .i64 0]) (by simp [results, Tryz.results7, go_sem]) rfl ⟨_, rfl, HO2.out, HB2.out⟩
theorem SingerOrder_impl_no (p : Int) (w : World) (hp : prB p = false) : Calls Tryz.prog 6 #[.int .i64 p] w fun e w' => e = .returned (.tuple #[.slice none 0 0, .int .i64 2]) ∧ w = w' := by
  go_enter Tryz.func6, Tryz.ntmps6
  go_wp2_with (go_at_call 25; refine (isPrime_no _ _ hp).mono ?_; rintro e w' ⟨rfl, rfl⟩)
  exact bodyPost_ret (v := .tuple #[.slice none 0 0, .int .i64 2]) (by simp [results, Tryz.results6, go_sem]) rfl ⟨rfl, rfl⟩
theorem SingerOrder_spec_no (p : Int) (w : World) (hp : prB p = false) : Calls Tryz.prog 7 #[.int .i64 p] w fun e w' => e = .returned (.tuple #[.slice none 0 0, .int .i64 2]) ∧ w = w' := by
  go_enter Tryz.func7, Tryz.ntmps7
  go_wp2_with (go_at_call 27; refine (l10Prime_no _ _ hp).mono ?_; rintro e w' ⟨rfl, rfl⟩)
  exact bodyPost_ret (v := .tuple #[.slice none 0 0, .int .i64 2]) (by simp [results, Tryz.results7, go_sem]) rfl ⟨rfl, rfl⟩
end Go.Proofs.YtaocnklolgdkfaaGreat
/- Contracts: which points of a list are on a line, as numbers; DifferenceSetOf, the program's and the reference's. (Printed by gent6.py, a program of this session.) -/
namespace Go.Proofs.YtaocnklolgdkfaaGreat
open Go.RowKit
set_option linter.unusedVariables false
set_option linter.unusedSimpArgs false
/-- The numbers below k of which f holds. -/
def numU (f : Nat → Bool) (k : Nat) : List Int := ((List.range k).filter f).map (fun i : Nat => (i : Int))
theorem numU_succ (f : Nat → Bool) (k : Nat) : numU f (k + 1) = numU f k ++ (if f k then [(k : Int)] else []) := by
  unfold numU
  rw [List.range_succ, List.filter_append, List.map_append]
  cases h : f k <;> simp [h]
theorem numU_length (f : Nat → Bool) (k : Nat) : (numU f k).length ≤ k := by
  unfold numU
  rw [List.length_map]
  exact Nat.le_trans (List.length_filter_le _ _) (by simp)
theorem newI (wr : World) (x : Value) (T : TypeId) : ∀ (j : Nat) (u : Value), [x][j]? = some u → (wr.alloc (.cells #[x] T)).cell? ((⟨wr.heap.size, 0, none⟩ : Addr).add j) = some u := by
  intro j u hj
  have e : (wr.alloc (.cells #[x] T)).cell? ((⟨wr.heap.size, 0, none⟩ : Addr).add j) = #[x][j]? := by
    have hadd : (⟨wr.heap.size, 0, none⟩ : Addr).add j = ⟨wr.heap.size, j, none⟩ := by unfold Addr.add; split <;> simp_all
    rw [hadd, World.cell?_alloc_at _ _ _ _ rfl]
  rw [e]; simpa using hj
/-- A new list of numbers. -/
structure IntsPost (w : World) (l : List Int) (e : Ending) (w' : World) : Prop where
  out : ∃ v, e = .returned v ∧ w'.ownsRow w.heap.size 2 1 v l.length (ints l) ∧ Below w.heap.size w w'
def onN (n : Int) (L : List Pt) (l : Pt) : Nat → Bool := fun i => onB n (L.getD i (0, 0, 0)) l
set_option maxHeartbeats 4000000 in
theorem l10Numbers_any (n : Nat) (l0 l1 l2 : Int) (w : World) (hp : prB (n : Int) = true) (hl : In13 (l0, l1, l2)) :
    Calls Tryz.prog 33 #[.int .i64 (n : Int), ptV l0 l1 l2] w (IntsPost w (numU (onN (n : Int) (singL n) (l0, l1, l2)) (singL n).length)) := by
  obtain ⟨b1, b2⟩ := prB_bd hp
  obtain ⟨i0, hi, hz0, hz1, hz2⟩ := info_parts info64
  have HI0 := Lib.hid hi; have HZ0 := Lib.hid hz0; have HZ1 := Lib.hid hz1; have HZ2 := Lib.hid hz2
  clear hi hz0 hz1 hz2
  have HA := Lib.hid (fun (W : World) => l10Points_any n W hp)
  have HO := Lib.hid (fun (x y z : Int) (W : World) (h : In13 (x, y, z)) => l01On_any (n : Int) x y z l0 l1 l2 W hp h hl)
  have HIn := Lib.hid (singL_in hp)
  have hLen : (singL n).length ≤ 183 ∧ 0 < (singL n).length := by
    rw [singL_length]
    have : n * n ≤ 13 * 13 := Nat.mul_le_mul (by omega) (by omega)
    omega
  obtain ⟨hLen, HPos⟩ := hLen
  generalize singL n = all at *
  have HF := Lib.hid (show ∀ i, onN (n : Int) all (l0, l1, l2) i = onB n (all.getD i (0, 0, 0)) (l0, l1, l2) from fun _ => rfl)
  generalize onN (n : Int) all (l0, l1, l2) = f at *
  clear hp hl
  go_enter Tryz.func33, Tryz.ntmps33
  go_wp2_with (go_at_call 28; refine (HA.out _).mono ?_; rintro e w1 ⟨v, rfl, ho, hb⟩; obtain ⟨g, cap, rfl, hg0, hg1, hpt⟩ := ownPts ho rfl HPos; have HB1 := Lib.hid hb; have HP1 := Lib.hid hpt; have hsz1 := hb.size; (try simp at hsz1); clear hb hpt ho)
  have hbl : w1.heap[w.heap.size]? = some (.cells #[.int .i64 l0, .int .i64 l1, .int .i64 l2] 38 (0, 0)) := by rw [HB1.out.block _ (by first | omega | (simp; done) | (simp; omega)), hn_at' _ _ _ (by simp)]
  have hll : w.heap.size < w1.heap.size := (Array.getElem?_eq_some_iff.1 hbl).1
  go_loopw [6, 7] (fun v i wr => ∃ k : Nat, k ≤ all.length ∧ i = .int .i64 k ∧ Hid (wr.ownsRow w1.heap.size 2 1 v (numU f k).length (ints (numU f k))) ∧ Hid (Below w1.heap.size w1 wr)) (fun _ i wr => all.length - (intOf i).toNat)
  case atStart =>
    refine ⟨0, Nat.zero_le _, rfl, Lib.hid ?_, Lib.hid (by repeat (first | exact Below.refl _ _ | refine bset ?_ _ _ (by omega) _ | refine bal ?_ _ | refine bdrN ?_ _ | refine bdr ?_))⟩
    refine ⟨rfl, .inr ⟨w1.heap.size, 0, #[], rfl, Nat.le_refl _, heap_alloc_new _ _, Nat.le_refl _, by unfold maxLen; omega, rfl, rfl⟩⟩
  case round =>
    obtain ⟨k, hk, rfl, HR, HB⟩ := hrel
    by_cases hlt : k < all.length
    · have HPk := HP1.out k hlt
      have HInk : In13 (all.getD k (0, 0, 0)) := HIn.out _ (by simp [List.getD, hlt])
      have hkl := numU_length f k
      have HFk := Lib.hid (HF.out k)
      have HS := Lib.hid (numU_succ f k)
      generalize all.getD k (0, 0, 0) = a at *
      obtain ⟨x, y, z⟩ := a
      have HC := Lib.hid (fun (W : World) => HO.out x y z W HInk)
      obtain ⟨c0, c1, c2⟩ := HPk
      simp only [Nat.zero_add] at c0 c1 c2
      go_wp2
      refine region_calm [(17, .int .i64 n), (18, .slice (some ⟨g, 0, none⟩) all.length cap), (19, .int .i64 k), (20, .pointer (some ⟨g, k * 3, none⟩)), (21, ptV x y z), (22, ptV l0 l1 l2), (23, .bool (onB n (x, y, z) (l0, l1, l2)))] (by kernel_rfl) (by kernel_rfl) (by kernel_rfl) (fun aE hpe => ?_)
      simp only [puts, Act.put, List.setIfInBounds_toArray, List.set_cons_zero, List.set_cons_succ] at hpe
      subst hpe
      refine ⟨⟨.inr (.inr ?_), .inr (.inr ?_), .inr (.inr ?_), .inr (.inr ?_), .inr (.inr ?_), .inr (.inr ?_), .inr (.inr ?_), trivial⟩, ?_⟩
      · exact Calm.mk 17 (.int .i64 n) rfl rfl (fun W _ => calm_move (.tmp 0) rfl rfl)
      · exact Calm.mk 18 (.slice (some ⟨g, 0, none⟩) all.length cap) rfl rfl (fun W _ => calm_move (.tmp 5) rfl rfl)
      · exact Calm.mk 19 (.int .i64 k) rfl rfl (fun W _ => calm_move (.tmp 7) rfl rfl)
      · exact Calm.mk 20 (.pointer (some ⟨g, k * 3, none⟩)) rfl rfl (fun W _ => calm_run (by simp [execOp, Act.eval, go_sem, hlt]))
      · exact Calm.mk 21 (ptV x y z) rfl rfl (fun W hW => calm_loadPt 56 (.tmp 20) rfl rfl (cell_below hW (cell_below HB.out c0)) (cell_below hW (cell_below HB.out c1)) (cell_below hW (cell_below HB.out c2)) Tryz.sizeOf56 Tryz.isAgg56)
      · exact Calm.mk 22 (ptV l0 l1 l2) rfl rfl (fun W hW => calm_load (cs := #[.int .i64 l0, .int .i64 l1, .int .i64 l2]) (g := w.heap.size) (T := 38) (fr := (0, 0)) 38 (.tmp 3) rfl rfl (by rw [hW.block _ (Nat.lt_of_lt_of_le hll HB.out.size), HB.out.block _ hll]; exact hbl) 3 rfl Tryz.sizeOf38 Tryz.isAgg38)
      · exact Calm.mk 23 (.bool (onB n (x, y, z) (l0, l1, l2))) rfl rfl (fun W hW => calm_call 62 _ #[.int .i64 n, ptV x y z, ptV l0 l1 l2] rfl rfl rfl (by simp [Act.eval]) (Tryz.call62 _ _) (HC.out W))
      intro W2 hW2
      have HR2 := Lib.hid (own_below HR.out hW2)
      have HB2 := Lib.hid (low_tr' HB.out hW2 HB.out.size)
      clear hW2 HR HB c0 c1 c2 HC
      generalize numU f k = F at *
      cases hb : onB (n : Int) (x, y, z) (l0, l1, l2) with
      | true =>
        have HS2 : Hid (numU f (k + 1) = F ++ [(k : Int)]) := Lib.hid (by rw [HS.out, HFk.out, hb]; rfl)
        clear HS
        go_wp2_with (at_builtin; refine wpList_append_own _ rfl _ _ 34 rfl w1.heap.size 2 i0 (.int .i64 0) 1 8 Tryz.underlying34 HI0.out HZ0.out HZ1.out HZ2.out rfl (by decide) _ _ _ rfl (HR2.out.alloc _) ⟨W2.heap.size, 0, none⟩ 1 1 [.int .i64 (k : Int)] rfl rfl (newI _ _ _) (oneA _) (by unfold maxLen; omega) (by omega) (by have := HB2.out.size; first | omega | (simp; done) | (simp; omega)) ?_; intro v2 w2 hown hgrow _; have HO2 := Lib.hid hown; have HG := Lib.hid hgrow; clear hown hgrow)
        go_roundw
        case rel => exact ⟨k + 1, by omega, by go_num, Lib.hid (by rw [HS2.out, ints_app, List.length_append]; exact HO2.out), Lib.hid ((bal HB2.out _).grown HG.out (by have := HB2.out.size; first | omega | (simp; done) | (simp; omega)) (fun k' hk' => own_base' HR2.out k' hk'))⟩
        case measure => simp [intOf]; omega
      | false =>
        have HS2 : Hid (numU f (k + 1) = F) := Lib.hid (by rw [HS.out, HFk.out, hb]; simp)
        clear HS
        go_wp2
        go_roundw
        case rel => exact ⟨k + 1, by omega, by go_num, Lib.hid (by rw [HS2.out]; exact HR2.out), HB2⟩
        case measure => simp [intOf]; omega
    · have hT : k = all.length := by omega
      subst hT
      go_wp2
      go_ret
      have HB0 : Below w.heap.size w w1 := (by repeat (first | exact Below.refl _ _ | refine bset ?_ _ _ (by omega) _ | refine bal ?_ _ | refine bdrN ?_ _ | refine bdr ?_ | refine below_tr' ?_ HB1.out))
      exact ⟨u6, rfl, own_low HR.out HB0.size, low_tr' HB0 HB.out HB0.size⟩
set_option maxHeartbeats 4000000 in
theorem numbersOn_any (n : Nat) (g cap N : Nat) (all : List Pt) (l0 l1 l2 : Int) (w : World) (hp : prB (n : Int) = true) (hl : In13 (l0, l1, l2)) (hN : all.length = N) (hN1 : N ≤ 1000) (hin : ∀ a ∈ all, In13 a) (hpt : PtsAt w g 0 N all) :
    Calls Tryz.prog 31 #[.int .i64 (n : Int), .slice (some ⟨g, 0, none⟩) N cap, ptV l0 l1 l2] w (IntsPost w (numU (onN (n : Int) all (l0, l1, l2)) N)) := by
  obtain ⟨b1, b2⟩ := prB_bd hp
  obtain ⟨i0, hi, hz0, hz1, hz2⟩ := info_parts info64
  have HI0 := Lib.hid hi; have HZ0 := Lib.hid hz0; have HZ1 := Lib.hid hz1; have HZ2 := Lib.hid hz2
  clear hi hz0 hz1 hz2
  have HO := Lib.hid (fun (x y z : Int) (W : World) (h : In13 (x, y, z)) => isOn_any (n : Int) x y z l0 l1 l2 W hp h hl)
  have HF := Lib.hid (show ∀ i, onN (n : Int) all (l0, l1, l2) i = onB n (all.getD i (0, 0, 0)) (l0, l1, l2) from fun _ => rfl)
  generalize onN (n : Int) all (l0, l1, l2) = f at *
  have HP1 := Lib.hid hpt
  have HIn := Lib.hid hin
  clear hp hl hpt hin
  go_enter Tryz.func31, Tryz.ntmps31
  go_wp2
  go_loopw [7, 13] (fun v i wr => ∃ k : Nat, k ≤ N ∧ i = .int .i64 k ∧ Hid (wr.ownsRow (w.heap.size + 1) 2 1 v (numU f k).length (ints (numU f k))) ∧ Hid (wr.heap[w.heap.size]? = some (.cells #[.int .i64 l0, .int .i64 l1, .int .i64 l2] 38 (0, 0))) ∧ Hid (Below w.heap.size w wr)) (fun _ i wr => N - (intOf i).toNat)
  case atStart =>
    refine ⟨0, Nat.zero_le _, rfl, Lib.hid ?_, Lib.hid (by rw [hn_pastN _ _ _ (by simp), hn_atN _ _ _ rfl]), Lib.hid (by repeat (first | exact Below.refl _ _ | refine bset ?_ _ _ (by omega) _ | refine bal ?_ _ | refine bdrN ?_ _ | refine bdr ?_))⟩
    exact ⟨rfl, .inr ⟨w.heap.size + 1, 0, #[], rfl, Nat.le_refl _, by rw [hn_atN _ _ _ (by simp)], Nat.le_refl _, by unfold maxLen; omega, rfl, rfl⟩⟩
  case round =>
    obtain ⟨k, hk, rfl, HR, KL, HB⟩ := hrel
    by_cases hlt : k < N
    · have HPk := HP1.out k hlt
      have HInk : In13 (all.getD k (0, 0, 0)) := HIn.out _ (by simp [List.getD, hN, hlt])
      have hkl := numU_length f k
      have HFk := Lib.hid (HF.out k)
      have HS := Lib.hid (numU_succ f k)
      generalize all.getD k (0, 0, 0) = a at *
      obtain ⟨x, y, z⟩ := a
      have HC := Lib.hid (fun (W : World) => HO.out x y z W HInk)
      obtain ⟨c0, c1, c2⟩ := HPk
      simp only [Nat.zero_add] at c0 c1 c2
      have d0 := cell_below HB.out c0
      have d1 := cell_below HB.out c1
      have d2 := cell_below HB.out c2
      have ll := (Array.getElem?_eq_some_iff.1 KL.out).1
      clear c0 c1 c2 HInk
      generalize numU f k = F at *
      cases hb : onB (n : Int) (x, y, z) (l0, l1, l2) with
      | true =>
        have HS2 : Hid (numU f (k + 1) = F ++ [(k : Int)]) := Lib.hid (by rw [HS.out, HFk.out, hb]; rfl)
        rw [hb] at HC
        clear HS
        go_wp2_with (first
          | (refine wpList_store_row _ rfl 56 _ _ rfl rfl (U := #[.int .i64 x, .int .i64 y, .int .i64 z]) rfl rfl (heap_alloc_new _ _) rfl Tryz.sizeOf56 (by simp [Value.oneCell']) ?_; rw [alloc_setRow])
          | (refine wpList_load_row _ rfl 56 _ rfl (g := wr.heap.size) (T := 56) (cs := #[.int .i64 x, .int .i64 y, .int .i64 z]) (fr := (0, 0)) rfl (by rw [hn_atN _ _ _ rfl]) 3 rfl Tryz.sizeOf56 Tryz.isAgg56 ?_)
          | (refine wpList_load_row _ rfl 38 _ rfl (g := w.heap.size) (T := 38) (cs := #[.int .i64 l0, .int .i64 l1, .int .i64 l2]) (fr := (0, 0)) rfl (by rw [hn_pastN _ _ _ ll]; exact KL.out) 3 rfl Tryz.sizeOf38 Tryz.isAgg38 ?_)
          | (go_at_call 61; (with_reducible refine (HC.out _).mono ?_); rintro e w3_ ⟨rfl, hb3⟩; obtain ⟨hcb3, hfb3, hlb3⟩ := bcell hb3; have hsz3 := hb3.size; (try simp at hsz3); have HB3 := Lib.hid hb3; clear hb3; (try (have hl03 : w.heap.size < w3_.heap.size := by omega)))
          | (at_builtin; refine wpList_append_own _ rfl _ _ 34 rfl (w.heap.size + 1) 2 i0 (.int .i64 0) 1 8 Tryz.underlying34 HI0.out HZ0.out HZ1.out HZ2.out rfl (by decide) _ _ _ rfl ((own_below (HR.out.alloc _) HB3.out).alloc _) ⟨w3_.heap.size, 0, none⟩ 1 1 [.int .i64 (k : Int)] rfl rfl (newI _ _ _) (oneA _) (by unfold maxLen; omega) (by omega) (by have := HB3.out.size; have := HB.out.size; first | omega | (simp; done) | (simp; omega)) ?_; intro v2 w2 hown hgrow _; have HO2 := Lib.hid hown; have HG := Lib.hid hgrow; clear hown hgrow))
        have HR3 := own_below (HR.out.alloc (.cells #[.int .i64 x, .int .i64 y, .int .i64 z] 56)) HB3.out
        have HB4 := low_tr' (bal HB.out (.cells #[.int .i64 x, .int .i64 y, .int .i64 z] 56)) HB3.out (by have := HB.out.size; first | omega | (simp; done) | (simp; omega))
        have hnb := own_base' HR3
        have s3 := HB3.out.size
        go_roundw
        case rel => exact ⟨k + 1, by omega, by go_num, Lib.hid (by rw [HS2.out, ints_app, List.length_append]; exact HO2.out), Lib.hid (by rw [HG.out.block (w.heap.size) (by simp at s3 ⊢; omega) (fun e => by have := hnb _ e.symm; omega), hn_pastN _ _ _ (by simp at s3; omega), HB3.out.block _ (by simp; omega), hn_pastN _ _ _ ll]; exact KL.out), Lib.hid ((bal HB4 _).grown HG.out (by have := HB4.size; first | omega | (simp; done) | (simp; omega)) (fun k' hk' => by have := hnb k' hk'; omega))⟩
        case measure => simp [intOf]; omega
      | false =>
        have HS2 : Hid (numU f (k + 1) = F) := Lib.hid (by rw [HS.out, HFk.out, hb]; simp)
        rw [hb] at HC
        clear HS
        go_wp2_with (first
          | (refine wpList_store_row _ rfl 56 _ _ rfl rfl (U := #[.int .i64 x, .int .i64 y, .int .i64 z]) rfl rfl (heap_alloc_new _ _) rfl Tryz.sizeOf56 (by simp [Value.oneCell']) ?_; rw [alloc_setRow])
          | (refine wpList_load_row _ rfl 56 _ rfl (g := wr.heap.size) (T := 56) (cs := #[.int .i64 x, .int .i64 y, .int .i64 z]) (fr := (0, 0)) rfl (by rw [hn_atN _ _ _ rfl]) 3 rfl Tryz.sizeOf56 Tryz.isAgg56 ?_)
          | (refine wpList_load_row _ rfl 38 _ rfl (g := w.heap.size) (T := 38) (cs := #[.int .i64 l0, .int .i64 l1, .int .i64 l2]) (fr := (0, 0)) rfl (by rw [hn_pastN _ _ _ ll]; exact KL.out) 3 rfl Tryz.sizeOf38 Tryz.isAgg38 ?_)
          | (go_at_call 61; (with_reducible refine (HC.out _).mono ?_); rintro e w3_ ⟨rfl, hb3⟩; obtain ⟨hcb3, hfb3, hlb3⟩ := bcell hb3; have hsz3 := hb3.size; (try simp at hsz3); have HB3 := Lib.hid hb3; clear hb3; (try (have hl03 : w.heap.size < w3_.heap.size := by omega))))
        have HR3 := own_below (HR.out.alloc (.cells #[.int .i64 x, .int .i64 y, .int .i64 z] 56)) HB3.out
        have HB4 := low_tr' (bal HB.out (.cells #[.int .i64 x, .int .i64 y, .int .i64 z] 56)) HB3.out (by have := HB.out.size; first | omega | (simp; done) | (simp; omega))
        go_roundw
        case rel => exact ⟨k + 1, by omega, by go_num, Lib.hid (by rw [HS2.out]; exact HR3), Lib.hid (by rw [HB3.out.block _ (by simp; omega), hn_pastN _ _ _ ll]; exact KL.out), Lib.hid HB4⟩
        case measure => simp [intOf]; omega
    · have hT : k = N := by omega
      subst hT
      go_wp2
      go_ret
      exact ⟨u7, rfl, own_low HR.out (by omega), HB.out⟩
end Go.Proofs.YtaocnklolgdkfaaGreat
/- A region that draws its order and stores once into a block that is there: all other blocks are as they were. -/
namespace Go.Proofs.YtaocnklolgdkfaaGreat
open Go.RowKit
set_option linter.unusedVariables false
set_option linter.unusedSimpArgs false
/-- All blocks but one are as they were. -/
structure Save (g0 : Nat) (w W : World) : Prop where
  os : W.os = w.os
  tape : W.tape = w.tape
  output : W.output = w.output
  size : w.heap.size ≤ W.heap.size
  block : ∀ k, k < w.heap.size → k ≠ g0 → W.heap[k]? = w.heap[k]?
theorem Save.tr {g0 : Nat} {w W W' : World} (h : Save g0 w W) (hb : Below W.heap.size W W') : Save g0 w W' :=
  ⟨hb.os.trans h.os, hb.tape.trans h.tape, hb.output.trans h.output, Nat.le_trans h.size hb.size, fun k hk hne => (hb.block k (Nat.lt_of_lt_of_le hk h.size)).trans (h.block k hk hne)⟩
theorem Save.setRow {g0 : Nat} {w W : World} (h : Save g0 w W) (cs : Array Value) : Save g0 w (W.setRow g0 cs) :=
  ⟨h.os, h.tape, h.output, by simpa [World.setRow] using h.size, fun k hk hne => (setRow_other W g0 k cs hne).trans (h.block k hk hne)⟩
theorem Save.below {g0 b : Nat} {w W W' : World} (h : Save g0 W W') (hb : Below b w W) (hg : b ≤ g0) (hs : b ≤ W.heap.size) : Below b w W' :=
  ⟨h.os.trans hb.os, h.tape.trans hb.tape, h.output.trans hb.output, Nat.le_trans hb.size h.size, fun k hk => (h.block k (by omega) (by omega)).trans (hb.block k hk)⟩
structure RInvT (l : List Oper) (a0 aE : Act) (w0 : World) (g0 s n : Nat) (T : TypeId) (U : Array Value) (listed : Array Bool) (a : Act) (w : World) : Prop where
  df : a.defers = aE.defers
  sz : a.tmps.size = aE.tmps.size
  len : listed.size = l.length
  fr1 : ∀ (j : Nat) (o : Oper) (t : Nat), l[j]? = some o → o.dst = some t → listed.getD j false = true → a.tmps.getD t undef = aE.tmps.getD t undef
  fr0 : ∀ t : Nat, (∀ (j : Nat) (o : Oper), l[j]? = some o → o.dst = some t → listed.getD j false = false) → a.tmps.getD t undef = a0.tmps.getD t undef
  bl : Save g0 w0 w
  box : ∃ cs, w.heap[g0]? = some (.cells cs T (0, 0)) ∧ cs.size = n ∧ (listed.getD s false = true → cs = U)
section
variable {P : Program} {Q : Exit → Act → World → Prop} {l : List Oper} {a0 : Act} {w : World} {vs : List (Nat × Value)} {g0 s n : Nat} {T : TypeId} {U : Array Value} {os : Oper}
/-- What the law asks of one operation that is not the store. -/
def CalmT (P : Program) (aE : Act) (w : World) (g0 : Nat) (l : List Oper) (o : Oper) : Prop := ∀ t, o.dst = some t →
  (Region.wanted o (yielded l.toArray aE.tmps) = true ∧ ∀ W, Save g0 w W → calmAt P o aE.eval W (aE.tmps.getD t undef)) ∨ (Region.wanted o (yielded l.toArray aE.tmps) = false ∧ aE.tmps.getD t undef = undef)
theorem CalmT.mk {P : Program} {aE : Act} {w : World} {g0 : Nat} {l : List Oper} {o : Oper} (t : Nat) (v : Value) (hd : o.dst = some t) (hv : aE.tmps.getD t undef = v) (hw : Region.wanted o (yielded l.toArray aE.tmps) = true) (h : ∀ W, Save g0 w W → calmAt P o aE.eval W v) : CalmT P aE w g0 l o := by
  intro t' hd'
  rw [hd] at hd'
  obtain rfl := Option.some.inj hd'
  exact .inl ⟨hw, fun W hW => by rw [hv]; exact h W hW⟩
end
end Go.Proofs.YtaocnklolgdkfaaGreat
/- Contracts: the laws' marks on lists of points (and lines). (Printed by geng4.py, a program of this session.) -/
namespace Go.Proofs.YtaocnklolgdkfaaGreat
open Go.RowKit
set_option linter.unusedVariables false
set_option linter.unusedSimpArgs false
def markP (k i : Nat) : Pt := (((k + 3 * i : Nat) : Int), ((k + 3 * i + 1 : Nat) : Int), ((k + 3 * i + 2 : Nat) : Int))
def markL (k n : Nat) : List Pt := (List.range n).map (markP k)
theorem Save.refl (g : Nat) (w : World) : Save g w w := ⟨rfl, rfl, rfl, Nat.le_refl _, fun _ _ _ => rfl⟩
theorem Save.setCell {g0 : Nat} {w W : World} (h : Save g0 w W) (i : Nat) (v : Value) : Save g0 w (W.setCell ⟨g0, i, none⟩ v) :=
  ⟨h.os, h.tape, h.output, by simpa [World.setCell] using h.size, fun k hk hne => by
    have : (W.setCell ⟨g0, i, none⟩ v).heap[k]? = W.heap[k]? := by simp [World.setCell, Array.getElem?_modify, Ne.symm hne]
    rw [this]; exact h.block k hk hne⟩
/-- What marks leave. -/
structure MarkPost (g n k cap : Nat) (T : TypeId) (w : World) (e : Ending) (w' : World) : Prop where
  out : e = .returned (.int .i64 ((k + 3 * n : Nat) : Int)) ∧ Save g w w' ∧ RoomP w' g cap T ∧ PtsAt w' g 0 n (markL k n)
end Go.Proofs.YtaocnklolgdkfaaGreat
/- The law FnExactSingerOrder, walked. -/
namespace Go.Proofs.YtaocnklolgdkfaaGreat
open Go.RowKit
set_option linter.unusedVariables false
set_option linter.unusedSimpArgs false
end Go.Proofs.YtaocnklolgdkfaaGreat
/- Contracts: the laws' marks on lists of numbers; DifferenceSetOf, the program's and the reference's. -/
namespace Go.Proofs.YtaocnklolgdkfaaGreat
open Go.RowKit
set_option linter.unusedVariables false
set_option linter.unusedSimpArgs false
def markI (k n : Nat) : List Int := (List.range n).map (fun i : Nat => ((k + i : Nat) : Int))
/-- What marks leave. -/
structure MarkPostI (g n k cap : Nat) (T : TypeId) (w : World) (e : Ending) (w' : World) : Prop where
  out : e = .returned (.int .i64 ((k + n : Nat) : Int)) ∧ Save g w w' ∧ RoomI w' g cap T ∧ IntsAt w' g 0 n (markI k n)
/-- A new list of numbers, and no error. -/
structure IntsPost2 (w : World) (l : List Int) (e : Ending) (w' : World) : Prop where
  out : ∃ v, e = .returned (.tuple #[v, .int .i64 0]) ∧ w'.ownsRow w.heap.size 2 1 v l.length (ints l) ∧ Below w.heap.size w w'
/-- The difference set of a prime. -/
def diffL (n : Nat) : List Int := numU (onN (n : Int) (singL n) (1, 0, 0)) (singL n).length
theorem diffL_bd {n : Nat} (hp : prB (n : Int) = true) : 0 < (diffL n).length ∧ (diffL n).length ≤ 1000 := by
  have hb := prB_bd hp
  have h1 := numU_length (onN (n : Int) (singL n) (1, 0, 0)) (singL n).length
  have h2 : n * n ≤ 13 * 13 := Nat.mul_le_mul (by omega) (by omega)
  have h3 := singL_length n
  have h4 : (0 : Int) ∈ diffL n := by
    unfold diffL numU
    refine List.mem_map.2 ⟨0, List.mem_filter.2 ⟨List.mem_range.2 (by omega), ?_⟩, rfl⟩
    unfold onN singL
    rw [orbL_at _ _ _ _ _ (by omega)]
    unfold onB orbA
    simp
  refine ⟨List.length_pos_of_mem h4, ?_⟩
  unfold diffL
  omega
theorem DifferenceSetOf_impl_yes (n : Nat) (w : World) (hp : prB (n : Int) = true) : Calls Tryz.prog 11 #[.int .i64 (n : Int)] w (IntsPost2 w (diffL n)) := by
  have HO := Lib.hid (fun (W : World) => singerOrder_any n W hp)
  have hpos : 0 < (singL n).length := by rw [singL_length]; omega
  have hle : (singL n).length ≤ 1000 := by
    have hb := prB_bd hp
    have h2 : n * n ≤ 13 * 13 := Nat.mul_le_mul (by omega) (by omega)
    rw [singL_length]; omega
  have HN : Hid (∀ (g cap : Nat) (W : World), PtsAt W g 0 (singL n).length (singL n) → Calls Tryz.prog 31 #[.int .i64 (n : Int), .slice (some ⟨g, 0, none⟩) (singL n).length cap, ptV 1 0 0] W (IntsPost W (diffL n))) :=
    Lib.hid (fun g cap W h => numbersOn_any n g cap (singL n).length (singL n) 1 0 0 W hp ⟨by decide, by decide, by decide⟩ rfl hle (singL_in hp) h)
  have HP := Lib.hid hp
  generalize diffL n = D at *
  generalize singL n = L at *
  clear hp
  go_enter Tryz.func11, Tryz.ntmps11
  go_wp2_with (first
    | (go_at_call 25; refine (isPrime_yes _ _ HP.out).mono ?_; rintro e w' ⟨rfl, rfl⟩)
    | (go_at_call 26; refine (HO.out _).mono ?_; rintro e w1_ ⟨v, rfl, ho, hb⟩; obtain ⟨g, cap, rfl, hg0, hg1, hpt⟩ := ownPts ho rfl hpos; have HB1 := Lib.hid hb; have HP1 := Lib.hid hpt; clear hb hpt ho)
    | (go_at_call 32; (with_reducible refine (far_any _).mono ?_); rintro e w2_ ⟨rfl, hb2⟩; obtain ⟨hcb2, hfb2, hlb2⟩ := bcell hb2; have hsz2 := hb2.size; (try simp at hsz2); have HB2 := Lib.hid hb2; clear hb2)
    | (go_at_call 31; refine (HN.out _ _ _ (HP1.out.below HB2.out)).mono ?_; rintro e w3_ ⟨v, rfl, ho, hb⟩; have HO3 := Lib.hid ho; have HB3 := Lib.hid hb; clear ho hb))
  exact bodyPost_ret (v := .tuple #[v, .int .i64 0]) (by simp [results, Tryz.results11, go_sem]) rfl ⟨_, rfl, own_low HO3.out (by have := HB1.out.size; have := HB2.out.size; omega), (by repeat (first | exact Below.refl _ _ | refine bset ?_ _ _ (by omega) _ | refine bal ?_ _ | refine bdrN ?_ _ | refine bdr ?_ | refine below_tr' ?_ HB3.out | refine below_tr' ?_ HB2.out | refine below_tr' ?_ HB1.out))⟩
theorem DifferenceSetOf_spec_yes (n : Nat) (w : World) (hp : prB (n : Int) = true) : Calls Tryz.prog 12 #[.int .i64 (n : Int)] w (IntsPost2 w (diffL n)) := by
  have HO : Hid (∀ W, Calls Tryz.prog 33 #[.int .i64 (n : Int), ptV 1 0 0] W (IntsPost W (diffL n))) := Lib.hid (fun W => l10Numbers_any n 1 0 0 W hp ⟨by decide, by decide, by decide⟩)
  have HP := Lib.hid hp
  generalize diffL n = D at *
  clear hp
  go_enter Tryz.func12, Tryz.ntmps12
  go_wp2_with (first
    | (go_at_call 27; refine (l10Prime_yes _ _ HP.out).mono ?_; rintro e w' ⟨rfl, rfl⟩)
    | (go_at_call 33; refine (HO.out _).mono ?_; rintro e w2 ⟨v, rfl, ho, hb⟩; have HO2 := Lib.hid ho; have HB2 := Lib.hid hb; clear ho hb))
  exact bodyPost_ret (v := .tuple #[v, .int .i64 0]) (by simp [results, Tryz.results12, go_sem]) rfl ⟨_, rfl, HO2.out, HB2.out⟩
theorem DifferenceSetOf_impl_no (p : Int) (w : World) (hp : prB p = false) : Calls Tryz.prog 11 #[.int .i64 p] w fun e w' => e = .returned (.tuple #[.slice none 0 0, .int .i64 2]) ∧ w = w' := by
  go_enter Tryz.func11, Tryz.ntmps11
  go_wp2_with (go_at_call 25; refine (isPrime_no _ _ hp).mono ?_; rintro e w' ⟨rfl, rfl⟩)
  exact bodyPost_ret (v := .tuple #[.slice none 0 0, .int .i64 2]) (by simp [results, Tryz.results11, go_sem]) rfl ⟨rfl, rfl⟩
theorem DifferenceSetOf_spec_no (p : Int) (w : World) (hp : prB p = false) : Calls Tryz.prog 12 #[.int .i64 p] w fun e w' => e = .returned (.tuple #[.slice none 0 0, .int .i64 2]) ∧ w = w' := by
  go_enter Tryz.func12, Tryz.ntmps12
  go_wp2_with (go_at_call 27; refine (l10Prime_no _ _ hp).mono ?_; rintro e w' ⟨rfl, rfl⟩)
  exact bodyPost_ret (v := .tuple #[.slice none 0 0, .int .i64 2]) (by simp [results, Tryz.results12, go_sem]) rfl ⟨rfl, rfl⟩
end Go.Proofs.YtaocnklolgdkfaaGreat
/- The library's sort at []int64: its contract, laid for this program by the kit's own tool (lay-shelf, lay-plain), the numbers by name. -/
namespace Go.Proofs
open Go.Shelf
def YtaocnklolgdkfaaGreat.laysSort_ren : Go.Shelf.Ren := ⟨fun | 5 => 68 | 8 => 92 | 7 => 91 | 19 => 115 | 20 => 116 | 10 => 106 | 11 => 107 | 12 => 108 | 13 => 109 | 14 => 110 | 15 => 111 | 16 => 112 | 17 => 113 | 18 => 114 | 30 => 122 | 31 => 123 | 32 => 124 | 33 => 125 | 34 => 126 | 35 => 127 | 40 => 130 | n => n, fun | 23 => 34 | 25 => 2 | 3 => 3 | 32 => 93 | 22 => 34 | 0 => 0 | 44 => 130 | 46 => 80 | 4 => 4 | 36 => 122 | 35 => 121 | 41 => 127 | 5 => 5 | 9 => 9 | 53 => 134 | 57 => 138 | 63 => 142 | 64 => 143 | n => n, fun | n => n⟩
theorem YtaocnklolgdkfaaGreat.laysSort : Go.Proofs.SlLaysM.n5 Tryz.prog YtaocnklolgdkfaaGreat.laysSort_ren := {
  mixed := by kernel_rfl
  f5 := ⟨Tryz.f68.name, by decide, Tryz.func68.trans (congrArg some (by kernel_rfl))⟩
  f7 := ⟨Tryz.f91.name, by decide, Tryz.func91.trans (congrArg some (by kernel_rfl))⟩
  f8 := Tryz.func92.trans (congrArg some (by kernel_rfl))
  f10 := ⟨Tryz.f106.name, by decide, Tryz.func106.trans (congrArg some (by kernel_rfl))⟩
  f11 := ⟨Tryz.f107.name, by decide, Tryz.func107.trans (congrArg some (by kernel_rfl))⟩
  f12 := ⟨Tryz.f108.name, by decide, Tryz.func108.trans (congrArg some (by kernel_rfl))⟩
  f13 := ⟨Tryz.f109.name, by decide, Tryz.func109.trans (congrArg some (by kernel_rfl))⟩
  f14 := ⟨Tryz.f110.name, by decide, Tryz.func110.trans (congrArg some (by kernel_rfl))⟩
  f15 := ⟨Tryz.f111.name, by decide, Tryz.func111.trans (congrArg some (by kernel_rfl))⟩
  f16 := ⟨Tryz.f112.name, by decide, Tryz.func112.trans (congrArg some (by kernel_rfl))⟩
  f17 := ⟨Tryz.f113.name, by decide, Tryz.func113.trans (congrArg some (by kernel_rfl))⟩
  f18 := ⟨Tryz.f114.name, by decide, Tryz.func114.trans (congrArg some (by kernel_rfl))⟩
  f19 := Tryz.func115.trans (congrArg some (by kernel_rfl))
  f20 := Tryz.func116.trans (congrArg some (by kernel_rfl))
  f30 := ⟨Tryz.f122.name, by decide, Tryz.func122.trans (congrArg some (by kernel_rfl))⟩
  f31 := Tryz.func123.trans (congrArg some (by kernel_rfl))
  f32 := Tryz.func124.trans (congrArg some (by kernel_rfl))
  f33 := ⟨Tryz.f125.name, by decide, Tryz.func125.trans (congrArg some (by kernel_rfl))⟩
  f34 := ⟨Tryz.f126.name, by decide, Tryz.func126.trans (congrArg some (by kernel_rfl))⟩
  f35 := ⟨Tryz.f127.name, by decide, Tryz.func127.trans (congrArg some (by kernel_rfl))⟩
  f40 := ⟨Tryz.f130.name, by decide, Tryz.func130.trans (congrArg some (by kernel_rfl))⟩
  t0 := Tryz.underlying0
  a0 := Tryz.isAgg0
  z0 := Tryz.sizeOf0
  v0 := Tryz.zeroValue0
  t3 := Tryz.underlying3
  a3 := Tryz.isAgg3
  z3 := Tryz.sizeOf3
  v3 := Tryz.zeroValue3
  t4 := Tryz.underlying4
  a4 := Tryz.isAgg4
  z4 := Tryz.sizeOf4
  v4 := Tryz.zeroValue4
  t5 := Tryz.underlying5
  a5 := Tryz.isAgg5
  z5 := Tryz.sizeOf5
  v5 := Tryz.zeroValue5
  t9 := Tryz.underlying9
  a9 := Tryz.isAgg9
  z9 := Tryz.sizeOf9
  v9 := Tryz.zeroValue9
  t22 := Tryz.underlying34
  a22 := Tryz.isAgg34
  z22 := Tryz.sizeOf34
  v22 := Tryz.zeroValue34
  t23 := Tryz.underlying34
  a23 := Tryz.isAgg34
  z23 := Tryz.sizeOf34
  v23 := Tryz.zeroValue34
  t25 := Tryz.underlying2
  a25 := Tryz.isAgg2
  z25 := Tryz.sizeOf2
  v25 := Tryz.zeroValue2
  t32 := Tryz.underlying93
  a32 := Tryz.isAgg93
  z32 := Tryz.sizeOf93
  v32 := Tryz.zeroValue93
  t35 := Tryz.underlying121
  a35 := Tryz.isAgg121
  z35 := Tryz.sizeOf121
  v35 := Tryz.zeroValue121
  t36 := Tryz.underlying122
  a36 := Tryz.isAgg122
  z36 := Tryz.sizeOf122
  v36 := Tryz.zeroValue122
  t41 := Tryz.underlying127
  a41 := Tryz.isAgg127
  z41 := Tryz.sizeOf127
  v41 := Tryz.zeroValue127
  t44 := Tryz.underlying130
  a44 := Tryz.isAgg130
  z44 := Tryz.sizeOf130
  v44 := Tryz.zeroValue130
  t46 := Tryz.underlying80
  a46 := Tryz.isAgg80
  z46 := Tryz.sizeOf80
  v46 := Tryz.zeroValue80
  t53 := Tryz.underlying134
  a53 := Tryz.isAgg134
  z53 := Tryz.sizeOf134
  v53 := Tryz.zeroValue134
  t57 := Tryz.underlying138
  a57 := Tryz.isAgg138
  z57 := Tryz.sizeOf138
  v57 := Tryz.zeroValue138
  t63 := Tryz.underlying142
  a63 := Tryz.isAgg142
  z63 := Tryz.sizeOf142
  v63 := Tryz.zeroValue142
  t64 := Tryz.underlying143
  a64 := Tryz.isAgg143
  z64 := Tryz.sizeOf143
  v64 := Tryz.zeroValue143 }
open Go.Sort Go.RowKit in
theorem YtaocnklolgdkfaaGreat.slices_Sort_int (blk off cap : Nat) (zs : List Int) (w : World) (hH : Holds (Value.int .i64) w blk off zs.toArray) (hblk : blk < w.heap.size) (hsz : zs.length < 4611686018427387904) :
    Calls Tryz.prog 68 #[.slice (some ⟨blk, off, none⟩) zs.length cap] w fun e w' =>
      e = .returned (.tuple #[]) ∧ ∃ n os, w' = grow (putRow (Value.int .i64) (Sort.ahead w n) blk off (zs.mergeSort fun x y => decide (x ≤ y)).toArray) os := AnyM.slices_Sort_int YtaocnklolgdkfaaGreat.laysSort blk off cap zs w hH hblk hsz
open Go.RowKit Go.Sort in
/-- .. and plain. (LAID AT THE INSTANCE 'slices.Sort[[]int64,int64]': no walk: one application.) -/
theorem YtaocnklolgdkfaaGreat.slices_Sort_int_none (p : Option Addr) (cap : Nat) (w : World) :
    Calls Tryz.prog 68 #[.slice p 0 cap] w fun e w' => e = .returned (.tuple #[]) ∧ w' = w := AnyM.slices_Sort_int_none YtaocnklolgdkfaaGreat.laysSort p cap w
end Go.Proofs
/- Contracts: the laws' lists of numbers are intact. -/
namespace Go.Proofs.YtaocnklolgdkfaaGreat
open Go.RowKit
set_option linter.unusedVariables false
set_option linter.unusedSimpArgs false
end Go.Proofs.YtaocnklolgdkfaaGreat
/- Contracts: whether a list is a set of numbers. -/
namespace Go.Proofs.YtaocnklolgdkfaaGreat
open Go.RowKit
set_option linter.unusedVariables false
set_option linter.unusedSimpArgs false
/-- A list of numbers as an argument: there where it is not empty. -/
def ArgI (w : World) (b : Option Addr) (n : Nat) (l : List Int) : Prop := 0 < n → ∃ g off, b = some ⟨g, off, none⟩ ∧ IntsAt w g off n l
theorem ArgI.below {w w1 : World} {b : Option Addr} {n : Nat} {l : List Int} (h : ArgI w b n l) (hb : Below w.heap.size w w1) : ArgI w1 b n l := fun hn => by
  obtain ⟨g, off, e, hp⟩ := h hn; exact ⟨g, off, e, hp.below hb⟩
theorem setB_n {n : Int} {l : List Int} (h : n < 2 ∨ 1000 < n) : setB n l = false := by
  unfold setB
  have : decide (2 ≤ n ∧ n ≤ 1000) = false := by simp; omega
  rw [this]; rfl
theorem okI_out {n : Int} {l : List Int} {i : Nat} {x : Int} (hx : l.getD i 0 = x) (h : x < 0 ∨ n - 1 < x) : okI n l i = false := by
  unfold okI
  have : decide (0 ≤ l.getD i 0 ∧ l.getD i 0 ≤ n - 1) = false := by rw [hx]; simp; omega
  rw [this]; rfl
theorem okI_zero {n : Int} {l : List Int} {x : Int} (hx : l.getD 0 0 = x) (h0 : 0 ≤ x) (h1 : x ≤ n - 1) : okI n l 0 = true := by
  unfold okI
  have : decide (0 ≤ l.getD 0 0 ∧ l.getD 0 0 ≤ n - 1) = true := by rw [hx]; simp; omega
  rw [this]; rfl
theorem okI_pos {n : Int} {l : List Int} {i : Nat} {x y : Int} (hi : 0 < i) (hx : l.getD i 0 = x) (hy : l.getD (i - 1) 0 = y) (h0 : 0 ≤ x) (h1 : x ≤ n - 1) : okI n l i = decide (y < x) := by
  unfold okI
  have : decide (0 ≤ l.getD i 0 ∧ l.getD i 0 ≤ n - 1) = true := by rw [hx]; simp; omega
  have hz : (i == 0) = false := by simp; omega
  rw [this, hz, hx, hy]; rfl
theorem in_yes (n a b : Int) (w : World) (h : a ≤ n) (h' : n ≤ b) : Calls Tryz.prog 46 #[.int .i64 n, .int .i64 a, .int .i64 b] w (Ret w (.bool true)) :=
  (l01In_yes n a b w h h').mono fun e w' ⟨he, hw⟩ => ⟨he, hw ▸ Below.refl _ _⟩
theorem in_no (n a b : Int) (w : World) (h : n < a ∨ b < n) : Calls Tryz.prog 46 #[.int .i64 n, .int .i64 a, .int .i64 b] w (Ret w (.bool false)) :=
  (l01In_no n a b w h).mono fun e w' ⟨he, hw⟩ => ⟨he, hw ▸ Below.refl _ _⟩
end Go.Proofs.YtaocnklolgdkfaaGreat
/- Contracts: whether a list is a set of numbers: the program. -/
namespace Go.Proofs.YtaocnklolgdkfaaGreat
open Go.RowKit
set_option linter.unusedVariables false
set_option linter.unusedSimpArgs false
theorem within_b (n a b : Int) (v : Bool) (w : World) (h : decide (a ≤ n ∧ n ≤ b) = v) : Calls Tryz.prog 43 #[.int .i64 n, .int .i64 a, .int .i64 b] w fun e w' => e = .returned (.bool v) ∧ w = w' := by
  cases v with
  | true =>
    have h2 : a ≤ n ∧ n ≤ b := by simpa using h
    exact within_yes n a b w h2.1 h2.2
  | false =>
    have h2 : ¬ (a ≤ n ∧ n ≤ b) := by simpa using h
    exact within_no n a b w (by omega)
set_option maxHeartbeats 2000000 in
theorem isNumberSet_bad (n : Int) (b : Option Addr) (k cap : Nat) (l : List Int) (w : World) (hk : k ≤ 1000000) (hc : ArgI w b k l) (hn : n < 2 ∨ 1000 < n) :
    Calls Tryz.prog 48 #[.int .i64 n, .slice b k cap] w (Ret w (.bool false)) := by
  have HC := Lib.hid hc
  clear hc
  go_enter Tryz.func48, Tryz.ntmps48
  go_wp2
  go_loop [9] (fun i => ∃ j : Nat, j ≤ k ∧ i = .int .i64 j) (fun i => k - (intOf i).toNat)
  case atStart => exact ⟨0, Nat.zero_le _, rfl⟩
  case round =>
    obtain ⟨j, hj, rfl⟩ := hrel
    by_cases hlt : j < k
    · obtain ⟨g, off, rfl, hp⟩ := HC.out (by omega)
      have c0 := hp j hlt
      have c1 := fun h : 0 < j => hp (j - 1) (by omega)
      generalize l.getD j 0 = x at c0
      generalize l.getD (j - 1) 0 = y at c1
      clear hp
      by_cases hj0 : j = 0
      · subst hj0
        simp only [Nat.add_zero] at c0
        clear c1
        go_wp2_with (go_at_call 43; refine (within_b _ _ _ _ _ rfl).mono ?_; rintro e w' ⟨rfl, rfl⟩)
        all_goals first
          | (go_round
             case rel => exact ⟨1, by omega, rfl⟩
             case measure => simp [intOf]; omega)
          | (go_ret; exact ⟨rfl, Below.refl _ _⟩)
      · obtain ⟨i, rfl⟩ : ∃ i, j = i + 1 := ⟨j - 1, by omega⟩
        have c1 := c1 (by omega)
        simp only [Nat.add_sub_cancel] at c1
        have hik : i < k := by omega
        have hip : (0 : Int) < (i : Int) + 1 := by omega
        go_wp2_with (go_at_call 43; refine (within_b _ _ _ _ _ rfl).mono ?_; rintro e w' ⟨rfl, rfl⟩)
        all_goals first
          | (go_round
             case rel => exact ⟨i + 1 + 1, by omega, by go_num⟩
             case measure => simp [intOf]; omega)
          | (go_ret; exact ⟨rfl, Below.refl _ _⟩)
    · have hjk : j = k := by omega
      go_wp2_with (go_at_call 43; refine (within_no _ _ _ _ hn).mono ?_; rintro e w' ⟨rfl, rfl⟩)
      go_ret
      exact ⟨rfl, Below.refl _ _⟩

theorem setB_bad {n : Int} {l : List Int} (h : okB n l = false) : setB n l = false := by unfold setB; rw [h]; simp
theorem setB_end {n : Int} {l : List Int} {k : Nat} (h1 : 2 ≤ n) (h2 : n ≤ 1000) (hl : l.length = k) (h : okB n l = true) : setB n l = decide (k ≤ 60) := by
  unfold setB
  have e1 : decide (2 ≤ n ∧ n ≤ 1000) = true := by simp; omega
  rw [e1, h, hl]; simp
set_option maxHeartbeats 2000000 in
theorem isNumberSet_good (n : Int) (b : Option Addr) (k cap : Nat) (l : List Int) (w : World) (hl : l.length = k) (hk : k ≤ 1000000) (hc : ArgI w b k l) (n2 : 2 ≤ n) (n1000 : n ≤ 1000) :
    Calls Tryz.prog 48 #[.int .i64 n, .slice b k cap] w (Ret w (.bool (setB n l))) := by
  have HC := Lib.hid hc
  have HL := Lib.hid hl
  clear hc hl
  go_enter Tryz.func48, Tryz.ntmps48
  go_wp2
  go_loop [9] (fun i => ∃ j : Nat, j ≤ k ∧ i = .int .i64 j ∧ Hid (∀ q, q < j → okI n l q = true)) (fun i => k - (intOf i).toNat)
  case atStart => exact ⟨0, Nat.zero_le _, rfl, Lib.hid (fun q hq => absurd hq (Nat.not_lt_zero _))⟩
  case round =>
    obtain ⟨j, hj, rfl, HD⟩ := hrel
    by_cases hlt : j < k
    · obtain ⟨g, off, rfl, hp⟩ := HC.out (by omega)
      have c0 := hp j hlt
      have c1 := fun h : 0 < j => hp (j - 1) (by omega)
      generalize hx : l.getD j 0 = x at c0
      generalize hy : l.getD (j - 1) 0 = y at c1
      have HX := Lib.hid hx
      have HY := Lib.hid hy
      have hjl : j < l.length := by have := HL.out; omega
      have HNo := Lib.hid (fun h : okI n l j = false => setB_bad (okB_bad hjl h))
      have HYes : Hid (okI n l j = true → ∀ q, q < j + 1 → okI n l q = true) := Lib.hid (fun h q hq => by
        rcases Nat.lt_or_ge q j with h2 | h2
        · exact HD.out q h2
        · rw [show q = j by omega]; exact h)
      clear hx hy hp hjl
      by_cases hr' : 0 ≤ x ∧ x ≤ n - 1
      · obtain ⟨r0, r1⟩ := hr'
        by_cases hj0 : j = 0
        · subst hj0
          simp only [Nat.add_zero] at c0
          have HY2 := Lib.hid (HYes.out (okI_zero HX.out r0 r1))
          clear c1 HYes HNo
          go_wp2_with (go_at_call 43; refine (within_yes _ _ _ _ r0 r1).mono ?_; rintro e w' ⟨rfl, rfl⟩)
          go_round
          case rel => exact ⟨1, by omega, rfl, HY2⟩
          case measure => simp [intOf]; omega
        · obtain ⟨i, rfl⟩ : ∃ i, j = i + 1 := ⟨j - 1, by omega⟩
          have c1' := c1 (by omega)
          simp only [Nat.add_sub_cancel] at c1'
          have hik : i < k := by omega
          have hip : (0 : Int) < (i : Int) + 1 := by omega
          clear c1
          by_cases hyx : y < x
          · have HY2 := Lib.hid (HYes.out (by rw [okI_pos (by omega) HX.out HY.out r0 r1]; simpa using hyx))
            have hle : ¬ x ≤ y := by omega
            clear HYes HNo
            go_wp2_with (go_at_call 43; refine (within_yes _ _ _ _ r0 r1).mono ?_; rintro e w' ⟨rfl, rfl⟩)
            go_round
            case rel => exact ⟨i + 1 + 1, by omega, by go_num, HY2⟩
            case measure => simp [intOf]; omega
          · have HY2 := Lib.hid (HNo.out (by rw [okI_pos (by omega) HX.out HY.out r0 r1]; simpa using hyx))
            have hle : x ≤ y := by omega
            clear HYes HNo
            go_wp2_with (go_at_call 43; refine (within_yes _ _ _ _ r0 r1).mono ?_; rintro e w' ⟨rfl, rfl⟩)
            go_ret
            exact ⟨ret_bool HY2.out.symm, Below.refl _ _⟩
      · have hr : x < 0 ∨ n - 1 < x := by omega
        have HY2 := Lib.hid (HNo.out (okI_out HX.out hr))
        clear c1 HYes HNo
        go_wp2_with (go_at_call 43; refine (within_no _ _ _ _ hr).mono ?_; rintro e w' ⟨rfl, rfl⟩)
        go_ret
        exact ⟨ret_bool HY2.out.symm, Below.refl _ _⟩
    · have hjk : j = k := by omega
      have HY2 := Lib.hid (setB_end n2 n1000 HL.out (okB_all (fun i hi => HD.out i (by have := HL.out; omega))))
      by_cases h60 : k ≤ 60
      · have h60z : (k : Int) ≤ 60 := by omega
        go_wp2_with (go_at_call 43; refine (within_yes _ _ _ _ n2 n1000).mono ?_; rintro e w' ⟨rfl, rfl⟩)
        go_ret
        exact ⟨ret_bool (by rw [HY2.out]; simp; omega), Below.refl _ _⟩
      · have h60z : ¬ (k : Int) ≤ 60 := by omega
        go_wp2_with (go_at_call 43; refine (within_yes _ _ _ _ n2 n1000).mono ?_; rintro e w' ⟨rfl, rfl⟩)
        go_ret
        exact ⟨ret_bool (by rw [HY2.out]; simp; omega), Below.refl _ _⟩
theorem isNumberSet_any (n : Int) (b : Option Addr) (k cap : Nat) (l : List Int) (w : World) (hl : l.length = k) (hk : k ≤ 1000000) (hc : ArgI w b k l) :
    Calls Tryz.prog 48 #[.int .i64 n, .slice b k cap] w (Ret w (.bool (setB n l))) := by
  by_cases hn : n < 2 ∨ 1000 < n
  · rw [setB_n hn]; exact isNumberSet_bad n b k cap l w hk hc hn
  · exact isNumberSet_good n b k cap l w hl hk hc (by omega) (by omega)
end Go.Proofs.YtaocnklolgdkfaaGreat
/- Own lists of numbers, read and sorted; the program's moved. -/
namespace Go.Proofs.YtaocnklolgdkfaaGreat
open Go.RowKit
set_option linter.unusedVariables false
set_option linter.unusedSimpArgs false
/-- A list of numbers as an argument. -/
structure ArgK (w : World) (b : Option Addr) (n : Nat) (l : List Int) : Prop where
  out : 0 < n → ∃ g, b = some ⟨g, 0, none⟩ ∧ IntsK w g 0 n l
theorem ArgK.link {w W : World} {b : Option Addr} {n : Nat} {l : List Int} (l1 : Link w W) (h : ArgK w b n l) : ArgK W b n l := ⟨fun h0 => by obtain ⟨g, e, h1⟩ := h.out h0; exact ⟨g, e, h1.link l1⟩⟩
theorem ArgK.alloc {w : World} {b : Option Addr} {n : Nat} {l : List Int} (h : ArgK w b n l) (o : Obj) : ArgK (w.alloc o) b n l := ⟨fun h0 => by obtain ⟨g, e, h1⟩ := h.out h0; exact ⟨g, e, h1.alloc o⟩⟩
theorem ArgK.lt {w : World} {g n : Nat} {l : List Int} (h : ArgK w (some ⟨g, 0, none⟩) n l) (h0 : 0 < n) : g < w.heap.size := by
  obtain ⟨g', e, h1⟩ := h.out h0
  injection e with e; injection e with e; subst e
  exact h1.lt h0
theorem OwnK.arg {W : World} {B : Nat} {T : TypeId} {v : Value} {n : Nat} {l : List Int} (h : OwnK W B T 1 v n (Go.Proofs.YtaocnklolgdkfaaGreat.ints l)) (hl : l.length = n) : ∃ b c, v = .slice b n c ∧ ArgK W b n l := by
  rcases h.out.2 with ⟨rfl, rfl⟩ | ⟨g, cap, cur, rfl, hb, hg, hle, hm, hsz, htk⟩
  · exact ⟨none, 0, rfl, ⟨fun h => absurd h (Nat.lt_irrefl _)⟩⟩
  · refine ⟨_, cap, rfl, ⟨fun h0 => ?_⟩⟩
    obtain ⟨g', cap', e, h2, h3, h4⟩ := h.ints hl h0
    injection e with e1 e2 e3
    injection e1 with e1
    injection e1 with e1
    subst e1
    exact ⟨g, rfl, h4⟩
/-- The numbers of a set, m times each, and t, modulo n. -/
def movN (n m t : Int) (l : List Int) : List Int := l.map fun k => (m * k + t) % n
def sortN (l : List Int) : List Int := l.mergeSort fun x y => decide (x ≤ y)
theorem sortN_length (l : List Int) : (sortN l).length = l.length := by unfold sortN; exact List.length_mergeSort _
theorem movN_length (n m t : Int) (l : List Int) : (movN n m t l).length = l.length := by unfold movN; simp
theorem movN_snoc (n m t : Int) (l : List Int) (x : Int) : movN n m t (l ++ [x]) = movN n m t l ++ [(m * x + t) % n] := by unfold movN; simp
/-- An own list of numbers, sorted by the library. -/
theorem Sort_own {v : Value} {B k : Nat} {l : List Int} (w : World) (hO : OwnK w B 2 1 v k (ints l)) (hl : l.length = k) (hk : k ≤ 1000000) :
    Calls Tryz.prog 68 #[v] w fun e w' => e = .returned (.tuple #[]) ∧ OwnK w' B 2 1 v k (ints (sortN l)) ∧ Grew w v w' := by
  rcases hO.out.2 with ⟨rfl, h0⟩ | ⟨g, cap, cur, rfl, hb, hg, hle, hm, hsz, htk⟩
  · subst h0
    obtain rfl := List.length_eq_zero_iff.1 hl
    refine (slices_Sort_int_none none 0 w).mono ?_
    rintro e w' ⟨rfl, rfl⟩
    exact ⟨rfl, by unfold sortN; simpa using hO, ⟨⟨rfl, rfl, rfl, Nat.le_refl _, fun _ _ _ => rfl⟩⟩⟩
  · subst hl
    have ht : cur.toList.take l.length = l.map (Value.int .i64) := by have := htk; rw [Nat.mul_one] at this; exact this
    refine (slices_Sort_int g 0 cap l w (Go.holds_of_blockI hg ht) (Array.getElem?_eq_some_iff.1 hg).1 (by omega)).mono ?_
    rintro e w' ⟨rfl, n, os, rfl⟩
    refine ⟨rfl, ⟨?_⟩, ⟨?_⟩⟩
    · have := Go.ownsRow_sortedI (w := w) (base := B) (g := g) (cap := cap) (n := n) (e := 2) (os := os) (cur := cur) (ss := l) (ts := sortN l) (sortN_length l) hb hg (by first | exact hle | omega) (by first | exact hm | omega) (by first | simpa using hsz | exact hsz)
      first | exact this | (unfold Go.Proofs.YtaocnklolgdkfaaGreat.ints; exact this)
    · have := Go.grownBy_sortedI (w := w) (g := g) (n := n) (os := os) ((l.mergeSort fun x y => decide (x ≤ y)).toArray)
      exact this
end Go.Proofs.YtaocnklolgdkfaaGreat
/- Contracts: the program's moved: a set, m times, moved by t, sorted. -- numbers -/
namespace Go.Proofs.YtaocnklolgdkfaaGreat
open Go.RowKit
set_option linter.unusedVariables false
set_option linter.unusedSimpArgs false
/-- An own list of numbers is handed back. -/
structure NewI (w : World) (l : List Int) (e : Ending) (w' : World) : Prop where
  out : ∃ v, e = .returned v ∧ OwnK w' w.heap.size 2 1 v l.length (ints l) ∧ Below w.heap.size w w'
theorem mov_bd {n m t k : Int} (n2 : 2 ≤ n) (n1 : n ≤ 1000) (m0 : 0 ≤ m) (m1 : m < n) (t0 : 0 ≤ t) (t1 : t < n) (k0 : 0 ≤ k) (k1 : k < n) : 0 ≤ m * k ∧ m * k ≤ 1000000 ∧ 0 ≤ m * k + t ∧ m * k + t ≤ 1001000 := by
  have h1 : 0 ≤ m * k := Int.mul_nonneg m0 k0
  have h2 : m * k ≤ 1000 * 1000 := Int.mul_le_mul (by omega) (by omega) k0 (by omega)
  omega
set_option maxRecDepth 20000 in
set_option maxHeartbeats 4000000 in
theorem moved_any (n m t : Int) (b : Option Addr) (c : Nat) (l : List Int) (w : World) (n2 : 2 ≤ n) (n1 : n ≤ 1000) (m0 : 0 ≤ m) (m1 : m < n) (t0 : 0 ≤ t) (t1 : t < n) (hb : ∀ k ∈ l, 0 ≤ k ∧ k < n) (hl : l.length ≤ 1000) (hP : ArgK w b l.length l) :
    Calls Tryz.prog 38 #[.int .i64 n, .slice b l.length c, .int .i64 m, .int .i64 t] w (NewI w (sortN (movN n m t l))) := by
  have HB := Lib.hid (fun k (h : k ∈ l) => mov_bd (k := k) n2 n1 m0 m1 t0 t1 (hb k h).1 (hb k h).2)
  clear hb
  go_enter Tryz.func38, Tryz.ntmps38
  go_wp2_with (first | (refine wl_load ?_) | (refine wl_store ?_) | (refine wl_build ?_) | (refine wl_slice ?_) | (refine wl_append ?_; intro v' w' ho hg hb; have hs := hg.size; (try simp at hs); (try rw [ptCs_end] at ho); (try rw [ints_end] at ho); (try simp only [Nat.zero_add, Nat.reduceAdd, List.nil_append, List.cons_append] at ho)))
  go_loopw [9, 15] (fun v i wr => ∃ k : Nat, k ≤ l.length ∧ i = .int .i64 (k : Int) ∧ OwnK wr w.heap.size 2 1 v k (ints (movN n m t (l.take k))) ∧ LowK w wr ∧ ArgK wr b l.length l) (fun _ i wr => l.length - (intOf i).toNat)
  case atStart => exact ⟨0, Nat.zero_le _, rfl, OwnK.empty findRow (Nat.le_refl _), findLow, ⟨fun h0 => by obtain ⟨g, e, h1⟩ := hP.out h0; exact ⟨g, e, findInts⟩⟩⟩
  case round =>
    obtain ⟨k, hk, rfl, hO, hV, hA⟩ := hrel
    have hsz := hV.size
    by_cases hlt : k < l.length
    · obtain ⟨g, rfl, hI⟩ := hA.out (by omega)
      have hg0 := hP.lt (by omega)
      obtain ⟨x, hx⟩ : ∃ x, l.getD k 0 = x := ⟨_, rfl⟩
      have hmem : x ∈ l := by rw [← hx, List.getD_eq_getElem?_getD, List.getElem?_eq_getElem hlt]; exact List.getElem_mem hlt
      obtain ⟨b1, b2, b3, b4⟩ := HB.out x hmem
      have HS := Lib.hid (take_snoc' l 0 k hlt)
      rw [hx] at HS
      go_wp2_with (first | (refine wl_load ?_) | (refine wl_store ?_) | (refine wl_build ?_) | (refine wl_slice ?_) | (refine wl_append ?_; intro v' w' ho hg hb; have hs := hg.size; (try simp at hs); (try rw [ptCs_end] at ho); (try rw [ints_end] at ho); (try simp only [Nat.zero_add, Nat.reduceAdd, List.nil_append, List.cons_append] at ho)))
      go_roundw
      case rel => exact ⟨k + 1, by omega, by go_num, by rw [HS.out, movN_snoc]; exact ho, findLow, ⟨fun _ => ⟨g, rfl, findInts⟩⟩⟩
      case measure => simp [intOf]; omega
    · obtain rfl : k = l.length := by omega
      rw [List.take_length] at hO
      have hl2 : (movN n m t l).length = l.length := movN_length n m t l
      go_wp2_with (first | (refine wl_load ?_) | (refine wl_store ?_) | (refine wl_build ?_) | (refine wl_slice ?_) | (refine wl_append ?_; intro v' w' ho hg hb; have hs := hg.size; (try simp at hs); (try rw [ptCs_end] at ho); (try rw [ints_end] at ho); (try simp only [Nat.zero_add, Nat.reduceAdd, List.nil_append, List.cons_append] at ho)) | (go_at_call 68; (with_reducible refine (Sort_own _ findOwn hl2 (by omega)).mono ?_); rintro e w' ⟨rfl, ho, hg⟩; have hs := hg.size))
      (apply ret_one Tryz.results38; (conv => lhs; whnf); exact rfl)
      refine ⟨_, rfl, ?_, LowK.out findLow⟩
      rw [sortN_length, hl2]
      exact findOwn
end Go.Proofs.YtaocnklolgdkfaaGreat
/- Own lists of numbers: parts of lists appended; the specification's l01Own. -- numbers -- appendI -/
namespace Go.Proofs.YtaocnklolgdkfaaGreat
open Go.RowKit
set_option linter.unusedVariables false
set_option linter.unusedSimpArgs false
theorem OwnK.one {w : World} {B g : Nat} {T : TypeId} {x : Value} (h : RowK w g #[x] T) (hB : B ≤ g) : OwnK w B T 1 (.slice (some ⟨g, 0, none⟩) 1 1) 1 [x] :=
  ⟨by simp, .inr ⟨g, 1, #[x], rfl, hB, h.out, Nat.le_refl _, by unfold maxLen; omega, by simp, by simp⟩⟩
section
variable {ops : Array Oper} {rest : List Oper} {o : Oper} {a : Act} {w : World} {Q : Exit → Act → World → Prop}
/-- An append of a part of a list of numbers. -/
theorem wl_append_I {s x : Operand} {t e : TypeId} {g q m c k B n : Nat} {v : Value} {xs : List Value} {S : List Int}
    (h : ∀ v' w', OwnK w' B e 1 v' (n + m) (xs ++ ints ((S.drop q).take m)) → Grew w v w' → (v'.ownBlock = v.ownBlock ∨ v'.ownBlock = some w.heap.size) → wpList Tryz.prog ops Q rest (a.put o.dst v') w')
    (hgd : o.guard = none := by exact rfl) (ho : o.op = .call { callee := .builtin .append, args := #[s, x], argTypes := #[t, t] } := by exact rfl) (he : EltK Tryz.prog t e 1 := by (first | exact eltPo | exact eltLn | exact eltI64 | exact eltInt))
    (hs : a.eval s = v := by conv => lhs; whnf) (hx : a.eval x = .slice (some ⟨g, q, none⟩) m c := by exact rfl) (hown : OwnK w B e 1 v n xs := by first | exact findOwn | exact OwnK.one findRow (Nat.le_refl _) | exact OwnK.empty findRow (Nat.le_refl _)) (hS : IntsK w g 0 k S := by exact findInts) (hk : S.length = k := by first | assumption | exact rfl)
    (hq : q + m ≤ k := by omega) (h63 : n + m ≤ 1000000 := by omega) (hbase : B ≤ w.heap.size := by first | omega | (simp; done) | (simp; omega)) : wpList Tryz.prog ops Q (o :: rest) a w := by
  obtain ⟨hu, i, z, hi, hz, hsz, hzs, hpos, hle, hby⟩ := he.out
  refine wpList_append_own_at w hgd s x t ho B e i z 1 i.bytes hu hi hz hsz rfl hzs hpos v n xs hs hown.out ⟨g, q, none⟩ m c (ints ((S.drop q).take m)) hx (by simp [ints]; omega) (fun j u hj => ?_) (fun u hu => ?_) (by unfold maxLen; omega) ?_ hbase (fun v' w' h2 h3 h4 h5 => h v' w' ⟨h2⟩ ⟨h3⟩ h5)
  · have hadd : (⟨g, q, none⟩ : Addr).add j = ⟨g, q + j, none⟩ := by unfold Addr.add; split <;> simp_all
    rw [hadd]
    have hjm : j < m := by
      rcases Nat.lt_or_ge j m with h1 | h1
      · exact h1
      · rw [List.getElem?_eq_none (by simp [ints]; omega)] at hj; exact absurd hj (by simp)
    have := hS.out (q + j) (by omega)
    rw [Nat.zero_add] at this
    rw [this, ← hj]
    have hjl : q + j < S.length := by omega
    simp [ints, List.getElem?_take_of_lt hjm, List.getElem?_drop, List.getD, hjl]
  · simp only [Go.Proofs.YtaocnklolgdkfaaGreat.ints, List.mem_map] at hu
    obtain ⟨y, -, rfl⟩ := hu
    rfl
  · exact Nat.le_trans (Nat.mul_le_mul h63 hby) (by decide)
end
/-- The specification's copy of a list. -/
theorem l01Own_any (g c n k : Nat) (S : List Int) (w : World) (hP : IntsK w g 0 k S) (hk : S.length = k) (hn : n ≤ k) (hk1 : k ≤ 1000000) :
    Calls Tryz.prog 95 #[.slice (some ⟨g, 0, none⟩) n c] w fun e w' => ∃ v, e = .returned v ∧ OwnK w' w.heap.size 2 1 v n (ints (S.take n)) ∧ LowK w w' := by
  go_enter Tryz.func95, Tryz.ntmps95
  go_wp2_with (first | (refine wl_load ?_) | (refine wl_store ?_) | (refine wl_build ?_) | (refine wl_slice ?_) | ((refine wl_append_I ?_); intro v' w' ho hg hb; have hs := hg.size; (try simp at hs)) | (refine wl_append ?_; intro v' w' ho hg hb; have hs := hg.size; (try simp at hs); (try rw [ptCs_end] at ho); (try rw [ints_end] at ho); (try simp only [Nat.zero_add, Nat.reduceAdd, List.nil_append, List.cons_append] at ho)))
  simp only [List.drop_zero, Nat.zero_add, List.nil_append] at ho
  (apply ret_one Tryz.results95; (conv => lhs; whnf); exact rfl)
  exact ⟨_, rfl, ho, LowK.grew hg (fun b h => by simp [Value.ownBlock] at h; omega) findLow⟩
end Go.Proofs.YtaocnklolgdkfaaGreat
/- Contracts: the specification's l10Moved: numbers put in where they belong. -- numbers -- appendI -/
namespace Go.Proofs.YtaocnklolgdkfaaGreat
open Go.RowKit
set_option linter.unusedVariables false
set_option linter.unusedSimpArgs false
theorem sortN_pair (l : List Int) : (sortN l).Pairwise (fun x y => x ≤ y) := by
  have := List.pairwise_mergeSort (le := fun x y : Int => decide (x ≤ y)) (by intro a b c; simp; omega) (by intro a b; simp; omega) l
  unfold sortN
  exact this.imp (by intro a b h; simpa using h)
theorem sortN_perm (l : List Int) : (sortN l).Perm l := by unfold sortN; exact List.mergeSort_perm _ _
/-- What is sorted, with a number put in where it belongs, is sorted. -/
theorem sortN_put {P : List Int} {x : Int} {a : Nat} (ha : a ≤ (sortN P).length) (h1 : ∀ j, a ≤ j → j < (sortN P).length → x < (sortN P).getD j 0) (h2 : 0 < a → (sortN P).getD (a - 1) 0 ≤ x) :
    sortN (P ++ [x]) = (sortN P).take a ++ ([x] ++ (sortN P).drop a) := by
  have hS := sortN_pair P
  have hp := sortN_perm P
  generalize sortN P = S at *
  refine List.Perm.eq_of_pairwise (le := fun x y : Int => x ≤ y) (fun a b _ _ h1 h2 => Int.le_antisymm h1 h2) (sortN_pair _) ?_ ?_
  · rw [List.pairwise_append]
    have hd := List.take_append_drop a S
    have hS' : (S.take a ++ S.drop a).Pairwise (fun x y => x ≤ y) := by rw [hd]; exact hS
    rw [List.pairwise_append] at hS'
    obtain ⟨s1, s2, s3⟩ := hS'
    refine ⟨s1, ?_, ?_⟩
    · refine List.pairwise_cons.2 ⟨fun y hy => ?_, s2⟩
      have hy' : y ∈ S.drop a := by simpa using hy
      clear hy
      obtain ⟨j, hj, rfl⟩ := List.mem_iff_getElem.1 hy'
      have hj' : a + j < S.length := by simp at hj; omega
      have := h1 (a + j) (by omega) hj'
      rw [List.getElem_drop]
      simp [List.getD, hj'] at this
      omega
    · intro y hy z hz
      rcases List.mem_append.1 hz with h | h
      · obtain rfl := List.mem_singleton.1 h
        obtain ⟨j, hj, rfl⟩ := List.mem_iff_getElem.1 hy
        have hj' : j < a := by simp at hj; omega
        have hz := h2 (by omega)
        have hjS : j < S.length := by omega
        have ha1 : a - 1 < S.length := by omega
        simp [List.getD, ha1] at hz
        rw [List.getElem_take]
        rcases Nat.lt_or_ge j (a - 1) with hlt | hge
        · have := List.pairwise_iff_getElem.1 hS j (a - 1) hjS ha1 hlt
          omega
        · have : j = a - 1 := by omega
          subst this; exact hz
      · exact s3 y hy z h
  · refine (sortN_perm _).trans ?_
    refine ((hp.symm.append_right [x])).trans ?_
    have : S ++ [x] = S.take a ++ S.drop a ++ [x] := by rw [List.take_append_drop]
    rw [this, List.append_assoc]
    exact List.Perm.append_left _ List.perm_append_comm
theorem OwnK.rebase {W : World} {B B' : Nat} {T : TypeId} {sz : Nat} {v : Value} {n : Nat} {xs : List Value} (h : OwnK W B T sz v n xs) (hb : B' ≤ B) : OwnK W B' T sz v n xs := by
  obtain ⟨h1, h2⟩ := h.out
  refine ⟨h1, ?_⟩
  rcases h2 with h2 | ⟨g, cap, cur, e, hg, h3⟩
  · exact .inl h2
  · exact .inr ⟨g, cap, cur, e, by omega, h3⟩
theorem rest_eq {S : List Int} {q m k a : Nat} (hk : S.length = k) (hm : m = k - a) (hq : q = a ∨ m = 0) : (S.drop q).take m = S.drop a := by
  rcases hq with rfl | h0
  · exact List.take_of_length_le (by simp; omega)
  · rw [h0, List.take_zero, List.drop_of_length_le (by omega)]
theorem own_rest {W : World} {B q m N : Nat} {T : TypeId} {v : Value} {k a : Nat} {y : Int} {S : List Int} (h : OwnK W B T 1 v N ([.int .i64 y] ++ ints ((S.drop q).take m))) (hk : S.length = k) (hm : m = k - a) (hq : q = a ∨ m = 0) (hN : N = 1 + (k - a)) :
    ∃ g cap, v = .slice (some ⟨g, 0, none⟩) (1 + (k - a)) cap ∧ B ≤ g ∧ g < W.heap.size ∧ IntsK W g 0 (1 + (k - a)) ([y] ++ S.drop a) ∧ ([y] ++ S.drop a).length = 1 + (k - a) := by
  subst hN
  have e : [Value.int .i64 y] ++ ints ((S.drop q).take m) = ints ([y] ++ S.drop a) := by
    rw [rest_eq hk hm hq]; simp [ints]
  rw [e] at h
  have hL : ([y] ++ S.drop a).length = 1 + (k - a) := by simp; omega
  obtain ⟨g, cap, h1, h2, h3, h4⟩ := h.ints hL (by omega)
  exact ⟨g, cap, h1, h2, h3, h4, hL⟩
theorem OwnK.cap {W : World} {B g n c : Nat} {T : TypeId} {xs : List Value} (h : OwnK W B T 1 (.slice (some ⟨g, 0, none⟩) n c) n xs) : n ≤ c := by
  rcases h.out.2 with ⟨h1, h2⟩ | ⟨g', cap, cur, e, hb, hg, hle, hm, hsz, htk⟩
  · exact absurd h1 (by simp)
  · injection e with e1 e2 e3; omega
theorem own_full {W : World} {B B' N q M : Nat} {T : TypeId} {v : Value} {k a : Nat} {y : Int} {S : List Int} (h : OwnK W B T 1 v N (ints (S.take a) ++ ints ((([y] ++ S.drop a).drop q).take M))) (hk : S.length = k) (ha : a ≤ k) (hb : B' ≤ B) (hq : q = 0) (hM : M = 1 + (k - a)) (hN : N = k + 1) :
    ∃ g cap, v = .slice (some ⟨g, 0, none⟩) (k + 1) cap ∧ OwnK W B' T 1 v (k + 1) (ints (S.take a ++ ([y] ++ S.drop a))) ∧ IntsK W g 0 (k + 1) (S.take a ++ ([y] ++ S.drop a)) ∧ (S.take a ++ ([y] ++ S.drop a)).length = k + 1 := by
  subst hq hM hN
  have e : ints (S.take a) ++ ints ((([y] ++ S.drop a).drop 0).take (1 + (k - a))) = ints (S.take a ++ ([y] ++ S.drop a)) := by
    rw [List.drop_zero, List.take_of_length_le (l := [y] ++ S.drop a) (by simp; omega)]; simp [ints]
  rw [e] at h
  have hL : (S.take a ++ ([y] ++ S.drop a)).length = k + 1 := by simp; omega
  obtain ⟨g, cap, h1, h2, h3, h4⟩ := h.ints hL (by omega)
  exact ⟨g, cap, h1, h.rebase hb, h4, hL⟩
/-- Where a number belongs: from here on all are larger. -/
structure PutK (S : List Int) (x : Int) (k a : Nat) : Prop where
  out : ∀ j, a ≤ j → j < k → x < S.getD j 0
theorem Off.at {g h n c : Nat} (ne : g ≠ h) : Off (.slice (some ⟨g, 0, none⟩) n c) h := ⟨fun e => by simp [Value.ownBlock] at e; omega⟩
end Go.Proofs.YtaocnklolgdkfaaGreat
/- The Singer orders and the difference sets of the five primes, written out; that the shifts of the set are the lines. -/
namespace Go.Proofs.YtaocnklolgdkfaaGreat
open Go.RowKit
set_option linter.unusedVariables false
set_option linter.unusedSimpArgs false
def sL (p : Nat) : List Pt :=
  if p = 3 then [(0,(0,1)), (0,(1,0)), (1,(0,1)), (0,(1,1)), (1,(1,1)), (1,(1,2)), (1,(2,2)), (1,(1,0)), (1,(0,2)), (0,(1,2)), (1,(2,1)), (1,(2,0)), (1,(0,0))] else
  if p = 5 then [(0,(0,1)), (0,(1,0)), (1,(0,1)), (0,(1,2)), (1,(2,1)), (1,(3,2)), (1,(4,0)), (1,(0,4)), (0,(1,3)), (1,(3,1)), (1,(2,0)), (1,(0,2)), (0,(1,1)), (1,(1,1)), (1,(1,3)), (1,(3,3)), (1,(1,0)), (1,(0,3)), (0,(1,4)), (1,(4,1)), (1,(4,4)), (1,(1,4)), (1,(4,3)), (1,(2,4)), (1,(2,2)), (1,(1,2)), (1,(2,3)), (1,(4,2)), (1,(3,4)), (1,(3,0)), (1,(0,0))] else
  if p = 7 then [(0,(0,1)), (0,(1,0)), (1,(0,1)), (0,(1,2)), (1,(2,1)), (1,(4,2)), (1,(4,5)), (1,(3,5)), (1,(4,4)), (1,(1,5)), (1,(5,3)), (1,(2,0)), (1,(0,2)), (0,(1,1)), (1,(1,1)), (1,(1,3)), (1,(3,3)), (1,(1,4)), (1,(4,3)), (1,(6,5)), (1,(2,6)), (1,(3,2)), (1,(3,4)), (1,(6,4)), (1,(3,6)), (1,(2,4)), (1,(2,2)), (1,(1,2)), (1,(2,3)), (1,(5,2)), (1,(6,0)), (1,(0,6)), (0,(1,5)), (1,(5,1)), (1,(3,0)), (1,(0,4)), (0,(1,4)), (1,(4,1)), (1,(2,5)), (1,(6,2)), (1,(5,6)), (1,(4,0)), (1,(0,5)), (0,(1,6)), (1,(6,1)), (1,(6,6)), (1,(1,6)), (1,(6,3)), (1,(4,6)), (1,(5,5)), (1,(1,0)), (1,(0,3)), (0,(1,3)), (1,(3,1)), (1,(5,4)), (1,(5,0)), (1,(0,0))] else
  if p = 11 then [(0,(0,1)), (0,(1,0)), (1,(0,1)), (0,(1,3)), (1,(3,1)), (1,(4,2)), (1,(6,10)), (1,(9,7)), (1,(2,5)), (1,(8,8)), (1,(1,0)), (1,(0,4)), (0,(1,9)), (1,(9,1)), (1,(5,5)), (1,(1,6)), (1,(6,4)), (1,(8,7)), (1,(5,0)), (1,(0,6)), (0,(1,6)), (1,(6,1)), (1,(2,7)), (1,(9,8)), (1,(7,5)), (1,(7,3)), (1,(2,3)), (1,(7,8)), (1,(9,3)), (1,(4,5)), (1,(4,10)), (1,(8,10)), (1,(4,0)), (1,(0,10)), (0,(1,8)), (1,(8,1)), (1,(7,0)), (1,(0,3)), (0,(1,1)), (1,(1,1)), (1,(1,4)), (1,(4,4)), (1,(1,10)), (1,(10,4)), (1,(7,9)), (1,(6,3)), (1,(6,7)), (1,(3,7)), (1,(6,2)), (1,(4,7)), (1,(10,10)), (1,(1,9)), (1,(9,4)), (1,(9,5)), (1,(3,5)), (1,(9,2)), (1,(10,5)), (1,(6,9)), (1,(7,7)), (1,(1,3)), (1,(3,4)), (1,(5,2)), (1,(7,6)), (1,(4,3)), (1,(9,10)), (1,(6,5)), (1,(10,7)), (1,(4,9)), (1,(5,10)), (1,(2,6)), (1,(3,8)), (1,(10,2)), (1,(9,9)), (1,(1,5)), (1,(5,4)), (1,(3,6)), (1,(2,2)), (1,(1,8)), (1,(8,4)), (1,(6,0)), (1,(0,7)), (0,(1,2)), (1,(2,1)), (1,(6,8)), (1,(5,7)), (1,(8,6)), (1,(9,0)), (1,(0,5)), (0,(1,5)), (1,(5,1)), (1,(9,6)), (1,(8,5)), (1,(2,0)), (1,(0,8)), (0,(1,10)), (1,(10,1)), (1,(10,9)), (1,(2,9)), (1,(10,8)), (1,(3,9)), (1,(3,2)), (1,(8,2)), (1,(3,0)), (1,(0,2)), (0,(1,7)), (1,(7,1)), (1,(8,3)), (1,(10,0)), (1,(0,9)), (0,(1,4)), (1,(4,1)), (1,(3,10)), (1,(7,2)), (1,(5,3)), (1,(5,6)), (1,(10,6)), (1,(5,9)), (1,(4,6)), (1,(7,10)), (1,(3,3)), (1,(1,2)), (1,(2,4)), (1,(2,8)), (1,(4,8)), (1,(2,10)), (1,(5,8)), (1,(6,6)), (1,(1,7)), (1,(7,4)), (1,(10,3)), (1,(8,9)), (1,(8,0)), (1,(0,0))] else
  [(0,(0,1)), (0,(1,0)), (1,(0,1)), (0,(1,4)), (1,(4,1)), (1,(10,2)), (1,(8,4)), (1,(7,8)), (1,(3,9)), (1,(3,11)), (1,(8,11)), (1,(3,8)), (1,(7,11)), (1,(9,9)), (1,(1,0)), (1,(0,5)), (0,(1,6)), (1,(6,1)), (1,(11,6)), (1,(10,12)), (1,(9,4)), (1,(12,0)), (1,(0,10)), (0,(1,3)), (1,(3,1)), (1,(9,11)), (1,(7,0)), (1,(0,9)), (0,(1,12)), (1,(12,1)), (1,(12,10)), (1,(3,10)), (1,(12,11)), (1,(2,10)), (1,(5,3)), (1,(11,7)), (1,(3,12)), (1,(4,11)), (1,(6,2)), (1,(9,6)), (1,(5,0)), (1,(0,7)), (0,(1,8)), (1,(8,1)), (1,(5,8)), (1,(12,7)), (1,(6,10)), (1,(6,6)), (1,(1,6)), (1,(6,5)), (1,(3,6)), (1,(2,11)), (1,(12,3)), (1,(10,10)), (1,(1,4)), (1,(4,5)), (1,(11,2)), (1,(12,12)), (1,(1,10)), (1,(10,5)), (1,(7,4)), (1,(8,9)), (1,(6,8)), (1,(10,6)), (1,(11,4)), (1,(11,12)), (1,(7,12)), (1,(11,9)), (1,(2,12)), (1,(6,3)), (1,(7,6)), (1,(12,9)), (1,(4,10)), (1,(9,2)), (1,(6,0)), (1,(0,6)), (0,(1,5)), (1,(5,1)), (1,(8,7)), (1,(9,8)), (1,(11,0)), (1,(0,12)), (0,(1,9)), (1,(9,1)), (1,(3,0)), (1,(0,11)), (0,(1,11)), (1,(11,1)), (1,(6,12)), (1,(2,6)), (1,(3,3)), (1,(1,11)), (1,(11,5)), (1,(4,12)), (1,(3,2)), (1,(5,11)), (1,(10,7)), (1,(2,4)), (1,(2,3)), (1,(8,3)), (1,(2,8)), (1,(4,3)), (1,(4,2)), (1,(7,2)), (1,(4,9)), (1,(12,2)), (1,(11,10)), (1,(8,12)), (1,(8,8)), (1,(1,8)), (1,(8,5)), (1,(12,8)), (1,(5,10)), (1,(2,7)), (1,(10,3)), (1,(12,4)), (1,(9,10)), (1,(4,0)), (1,(0,2)), (0,(1,2)), (1,(2,1)), (1,(7,3)), (1,(6,9)), (1,(8,6)), (1,(4,8)), (1,(2,2)), (1,(1,3)), (1,(3,5)), (1,(6,11)), (1,(4,6)), (1,(8,2)), (1,(10,8)), (1,(6,4)), (1,(5,6)), (1,(9,7)), (1,(8,0)), (1,(0,8)), (0,(1,7)), (1,(7,1)), (1,(2,9)), (1,(11,3)), (1,(5,12)), (1,(5,7)), (1,(4,7)), (1,(5,2)), (1,(3,7)), (1,(11,11)), (1,(1,12)), (1,(12,5)), (1,(8,10)), (1,(11,8)), (1,(9,12)), (1,(10,0)), (1,(0,4)), (0,(1,1)), (1,(1,1)), (1,(1,5)), (1,(5,5)), (1,(1,7)), (1,(7,5)), (1,(10,9)), (1,(10,4)), (1,(3,4)), (1,(10,11)), (1,(5,4)), (1,(6,7)), (1,(12,6)), (1,(7,10)), (1,(7,9)), (1,(5,9)), (1,(7,7)), (1,(1,9)), (1,(9,5)), (1,(2,0)), (1,(0,3)), (0,(1,10)), (1,(10,1)), (1,(4,4)), (1,(1,2)), (1,(2,5)), (1,(9,3)), (1,(9,0)), (1,(0,0))]
def dL (p : Nat) : List Int :=
  if p = 3 then [0, 1, 3, 9] else
  if p = 5 then [0, 1, 3, 8, 12, 18] else
  if p = 7 then [0, 1, 3, 13, 32, 36, 43, 52] else
  if p = 11 then [0, 1, 3, 12, 20, 34, 38, 81, 88, 94, 104, 109] else
  [0, 1, 3, 16, 23, 28, 42, 76, 82, 86, 119, 137, 154, 175]
set_option maxRecDepth 100000 in
theorem sL_eq : ∀ p ∈ ([3, 5, 7, 11, 13] : List Nat), singL p = sL p := by decide +kernel
set_option maxRecDepth 100000 in
theorem dL_eq0 : ∀ p ∈ ([3, 5, 7, 11, 13] : List Nat), numU (onN (p : Int) (sL p) (1, 0, 0)) (p * p + p + 1) = dL p := by decide +kernel
end Go.Proofs.YtaocnklolgdkfaaGreat
/- The shifts of the difference sets, sorted by insertion; the first two give the line that the first two give unsorted: checked by the kernel. -/
namespace Go.Proofs.YtaocnklolgdkfaaGreat
open Go.RowKit
set_option linter.unusedVariables false
set_option linter.unusedSimpArgs false
def insI (x : Int) : List Int → List Int
  | [] => [x]
  | y :: r => if x ≤ y then x :: y :: r else y :: insI x r
def insS : List Int → List Int
  | [] => []
  | x :: r => insI x (insS r)
theorem insI_perm (x : Int) : ∀ l : List Int, (insI x l).Perm (x :: l)
  | [] => List.Perm.refl _
  | y :: r => by
    unfold insI
    split
    · exact List.Perm.refl _
    · exact ((insI_perm x r).cons y).trans (List.Perm.swap x y r)
theorem insI_pair (x : Int) : ∀ l : List Int, l.Pairwise (fun a b => a ≤ b) → (insI x l).Pairwise (fun a b => a ≤ b)
  | [], _ => List.pairwise_cons.2 ⟨fun _ h => (by cases h), List.Pairwise.nil⟩
  | y :: r, h => by
    obtain ⟨h1, h2⟩ := List.pairwise_cons.1 h
    unfold insI
    split
    · rename_i hxy
      refine List.pairwise_cons.2 ⟨fun b hb => ?_, h⟩
      rcases List.mem_cons.1 hb with rfl | hb
      · exact hxy
      · exact Int.le_trans hxy (h1 b hb)
    · rename_i hxy
      refine List.pairwise_cons.2 ⟨fun b hb => ?_, insI_pair x r h2⟩
      rcases List.mem_cons.1 ((insI_perm x r).mem_iff.1 hb) with rfl | hb
      · omega
      · exact h1 b hb
theorem insS_perm : ∀ l : List Int, (insS l).Perm l
  | [] => List.Perm.refl _
  | x :: r => (insI_perm x _).trans ((insS_perm r).cons x)
theorem insS_pair : ∀ l : List Int, (insS l).Pairwise (fun a b => a ≤ b)
  | [] => List.Pairwise.nil
  | x :: r => insI_pair x _ (insS_pair r)
theorem sortN_ins (l : List Int) : sortN l = insS l :=
  List.Perm.eq_of_pairwise (le := fun x y : Int => x ≤ y) (fun a b _ _ h1 h2 => Int.le_antisymm h1 h2) (sortN_pair _) (insS_pair _) ((sortN_perm l).trans (insS_perm l).symm)
/-- What is to hold of a shift. -/
def chkB (p t : Nat) (M L : List Int) (d : List Int) (S : List Pt) : Bool :=
  decide (crsN (p : Int) (S.getD (L.getD 0 0).toNat (0, 0, 0)) (S.getD (L.getD 1 0).toNat (0, 0, 0)) = crsN (p : Int) (S.getD (M.getD 0 0).toNat (0, 0, 0)) (S.getD (M.getD 1 0).toNat (0, 0, 0)))
    && decide (0 ≤ L.getD 0 0 ∧ L.getD 0 0 < ((p * p + p + 1 : Nat) : Int) ∧ 0 ≤ L.getD 1 0 ∧ L.getD 1 0 < ((p * p + p + 1 : Nat) : Int))
    && decide ((d.getD 0 0 + (t : Int)) % ((p * p + p + 1 : Nat) : Int) = M.getD 0 0 ∧ (d.getD 1 0 + (t : Int)) % ((p * p + p + 1 : Nat) : Int) = M.getD 1 0)
def chkS (p t : Nat) : Bool := chkB p t (movN ((p * p + p + 1 : Nat) : Int) 1 (t : Int) (dL p)) (insS (movN ((p * p + p + 1 : Nat) : Int) 1 (t : Int) (dL p))) (dL p) (sL p)
set_option maxRecDepth 100000 in
set_option maxHeartbeats 4000000 in
theorem chk_all : ∀ p ∈ ([3, 5, 7, 11, 13] : List Nat), (List.range (p * p + p + 1)).all (chkS p) = true := by decide +kernel
end Go.Proofs.YtaocnklolgdkfaaGreat
/- Contracts: the specification's l10Moved: numbers put in where they belong; walked. -- numbers -- appendI -/
namespace Go.Proofs.YtaocnklolgdkfaaGreat
open Go.RowKit
set_option linter.unusedVariables false
set_option linter.unusedSimpArgs false
set_option maxRecDepth 20000 in
set_option maxHeartbeats 4000000 in
theorem l10Moved_any (n m t : Int) (b : Option Addr) (c : Nat) (l : List Int) (w : World) (n2 : 2 ≤ n) (n1 : n ≤ 1000) (m0 : 0 ≤ m) (m1 : m < n) (t0 : 0 ≤ t) (t1 : t < n) (hb : ∀ k ∈ l, 0 ≤ k ∧ k < n) (hl : l.length ≤ 1000) (hP : ArgK w b l.length l) :
    Calls Tryz.prog 71 #[.int .i64 n, .slice b l.length c, .int .i64 m, .int .i64 t] w (NewI w (sortN (movN n m t l))) := by
  have HB := Lib.hid (fun k (h : k ∈ l) => mov_bd (k := k) n2 n1 m0 m1 t0 t1 (hb k h).1 (hb k h).2)
  clear hb
  go_enter Tryz.func71, Tryz.ntmps71
  go_wp2_with (first | (refine wl_load ?_) | (refine wl_store ?_) | (refine wl_build ?_) | (refine wl_slice ?_) | ((refine wl_append_I ?_); intro v' w' ho hg hb; have hs := hg.size; (try simp at hs)) | (refine wl_append ?_; intro v' w' ho hg hb; have hs := hg.size; (try simp at hs); (try rw [ptCs_end] at ho); (try rw [ints_end] at ho); (try simp only [Nat.zero_add, Nat.reduceAdd, List.nil_append, List.cons_append] at ho)))
  go_loopw [9, 10] (fun v i wr => ∃ (k g cap : Nat) (S : List Int), k ≤ l.length ∧ i = .int .i64 (k : Int) ∧ v = .slice (some ⟨g, 0, none⟩) k cap ∧ sortN (movN n m t (l.take k)) = S ∧ S.length = k ∧ OwnK wr w.heap.size 2 1 v k (ints S) ∧ IntsK wr g 0 k S ∧ LowK w wr ∧ ArgK wr b l.length l) (fun _ i wr => l.length - (intOf i).toNat)
  case atStart => exact ⟨0, w.heap.size, 0, [], Nat.zero_le _, rfl, rfl, by simp [movN, sortN], rfl, OwnK.empty findRow (Nat.le_refl _), ⟨fun i hi => absurd hi (Nat.not_lt_zero _)⟩, findLow, ⟨fun h0 => by obtain ⟨g, e, h1⟩ := hP.out h0; exact ⟨g, e, findInts⟩⟩⟩
  case round =>
    obtain ⟨k, g2, cap, S, hk, rfl, rfl, hS, hSl, hO, hI2, hV, hA⟩ := hrel
    have hsz := hV.size
    by_cases hlt : k < l.length
    · obtain ⟨g, rfl, hI⟩ := hA.out (by omega)
      have hg0 := hI.lt (by omega)
      obtain ⟨x, hx⟩ : ∃ x, l.getD k 0 = x := ⟨_, rfl⟩
      have hmem : x ∈ l := by rw [← hx, List.getD_eq_getElem?_getD, List.getElem?_eq_getElem hlt]; exact List.getElem_mem hlt
      obtain ⟨b1, b2, b3, b4⟩ := HB.out x hmem
      have HS := Lib.hid (take_snoc' l 0 k hlt)
      rw [hx] at HS
      go_wp2_with (first | (refine wl_load ?_) | (refine wl_store ?_) | (refine wl_build ?_) | (refine wl_slice ?_) | ((refine wl_append_I ?_); intro v' w' ho hg hb; have hs := hg.size; (try simp at hs)) | (refine wl_append ?_; intro v' w' ho hg hb; have hs := hg.size; (try simp at hs); (try rw [ptCs_end] at ho); (try rw [ints_end] at ho); (try simp only [Nat.zero_add, Nat.reduceAdd, List.nil_append, List.cons_append] at ho)))
      have hg2 : g2 < wr.heap.size := hO.lt g2 rfl
      have hcap := hO.cap
      have of1 : Off (.slice (some ⟨wr.heap.size, 0, none⟩) 1 1) g2 := Off.at (by omega)
      have of2 : Off (.slice (some ⟨wr.heap.size, 0, none⟩) 1 1) g := Off.at (by omega)
      go_loopw [12] (fun i wx => ∃ a : Nat, a ≤ k ∧ i = .int .i64 (a : Int) ∧ PutK S ((m * x + t) % n) k a ∧ wx = wr) (fun i wx => (intOf i).toNat)
      case atStart => exact ⟨k, Nat.le_refl _, rfl, ⟨fun j h1 h2 => by omega⟩, rfl⟩
      case round =>
        obtain ⟨a, ha, rfl, hPu, rfl⟩ := hrel
        generalize hy : (m * x + t) % n = y at hPu ⊢
        by_cases a0 : a = 0
        · subst a0
          go_wp2_with (with_reducible refine hold (p := wpList _ _ _ ({ dst := _, op := .call { callee := .builtin .append, args := _, argTypes := _ }, type := _, pos := _, after := _, guard := _ } :: _) _ _) ?_)
          all_goals
            unfold Hold
            go_wp2_with (first | (refine wl_load ?_) | (refine wl_store ?_) | (refine wl_build ?_) | (refine wl_slice ?_) | ((refine wl_append_I ?_); intro v' w' ho hg hb; have hs := hg.size; (try simp at hs)) | (refine wl_append ?_; intro v' w' ho hg hb; have hs := hg.size; (try simp at hs); (try rw [ptCs_end] at ho); (try rw [ints_end] at ho); (try simp only [Nat.zero_add, Nat.reduceAdd, List.nil_append, List.cons_append] at ho)) | (go_at_call 95; (with_reducible refine (l01Own_any g2 _ 0 k S _ findInts hSl ha (by omega)).mono ?_); (rintro e w' ⟨v2, rfl, ho2, hV2⟩; have hs2 := hV2.size; obtain ⟨g3, cap3, rfl, hb3, hl3, hI3, hL3⟩ := own_rest (a := 0) ho hSl (by omega) (by omega) (by omega); have hV1 := LowK.grew hg (fun b h => by simp [Value.ownBlock] at h; omega) (LowK.alloc hV _); have hl := LowK.lnk hV2; have hA1 := IntsK.grew hg of2 (IntsK.alloc hI _); clear hg hb ho)))
            obtain ⟨g4, cap4, rfl, ho4, hI4, hL4⟩ := own_full (B' := w.heap.size) ho hSl ha (by omega) (by omega) (by omega) (by omega)
            have hsp := sortN_put (P := movN n m t (l.take k)) (x := y) (a := 0) (by rw [hS]; omega) (by rw [hS, hSl]; exact hPu.out) (by rw [hS]; intro hh; omega)
            go_roundw
            case rel => exact ⟨k + 1, g4, cap4, _, by omega, by go_num, rfl, (by rw [HS.out, movN_snoc, hy, hsp, hS]), hL4, ho4, hI4, findLow, ⟨fun _ => ⟨g, rfl, findInts⟩⟩⟩
            case measure => (simp [intOf]; try omega)
        · obtain ⟨e, rfl⟩ : ∃ e, a = e + 1 := ⟨a - 1, by omega⟩
          have c0 := hI2.out e (by omega)
          obtain ⟨z, hz⟩ : ∃ z, S.getD e 0 = z := ⟨_, rfl⟩
          rw [Nat.zero_add, hz] at c0
          have hip : (0 : Int) < (e : Int) + 1 := by omega
          by_cases hyz : y < z
          · go_wp2_with (first | (refine wl_load ?_) | (refine wl_store ?_) | (refine wl_build ?_) | (refine wl_slice ?_) | ((refine wl_append_I ?_); intro v' w' ho hg hb; have hs := hg.size; (try simp at hs)) | (refine wl_append ?_; intro v' w' ho hg hb; have hs := hg.size; (try simp at hs); (try rw [ptCs_end] at ho); (try rw [ints_end] at ho); (try simp only [Nat.zero_add, Nat.reduceAdd, List.nil_append, List.cons_append] at ho)))
            go_roundw
            case rel => exact ⟨e, by omega, by go_num, ⟨fun j h1 h2 => by
              rcases Nat.lt_or_ge e j with h | h
              · exact hPu.out j (by omega) h2
              · obtain rfl : j = e := by omega
                rw [hz]; exact hyz⟩, (by first | trivial | rfl)⟩
            case measure => (simp [intOf]; try omega)
          · have hzy : z ≤ y := by omega
            go_wp2_with (with_reducible refine hold (p := wpList _ _ _ ({ dst := _, op := .call { callee := .builtin .append, args := _, argTypes := _ }, type := _, pos := _, after := _, guard := _ } :: _) _ _) ?_)
            all_goals
              unfold Hold
              go_wp2_with (first | (refine wl_load ?_) | (refine wl_store ?_) | (refine wl_build ?_) | (refine wl_slice ?_) | ((refine wl_append_I ?_); intro v' w' ho hg hb; have hs := hg.size; (try simp at hs)) | (refine wl_append ?_; intro v' w' ho hg hb; have hs := hg.size; (try simp at hs); (try rw [ptCs_end] at ho); (try rw [ints_end] at ho); (try simp only [Nat.zero_add, Nat.reduceAdd, List.nil_append, List.cons_append] at ho)) | (go_at_call 95; (with_reducible refine (l01Own_any g2 _ (e + 1) k S _ findInts hSl ha (by omega)).mono ?_); (rintro e w' ⟨v2, rfl, ho2, hV2⟩; have hs2 := hV2.size; obtain ⟨g3, cap3, rfl, hb3, hl3, hI3, hL3⟩ := own_rest (a := e + 1) ho hSl (by omega) (by omega) (by omega); have hV1 := LowK.grew hg (fun b h => by simp [Value.ownBlock] at h; omega) (LowK.alloc hV _); have hl := LowK.lnk hV2; have hA1 := IntsK.grew hg of2 (IntsK.alloc hI _); clear hg hb ho)))
              obtain ⟨g4, cap4, rfl, ho4, hI4, hL4⟩ := own_full (B' := w.heap.size) ho hSl ha (by omega) (by omega) (by omega) (by omega)
              have hsp := sortN_put (P := movN n m t (l.take k)) (x := y) (a := e + 1) (by rw [hS]; omega) (by rw [hS, hSl]; exact hPu.out) (by rw [hS]; intro hh; rw [Nat.add_sub_cancel, hz]; exact hzy)
              go_roundw
              case rel => exact ⟨k + 1, g4, cap4, _, by omega, by go_num, rfl, (by rw [HS.out, movN_snoc, hy, hsp, hS]), hL4, ho4, hI4, findLow, ⟨fun _ => ⟨g, rfl, findInts⟩⟩⟩
              case measure => (simp [intOf]; try omega)
    · obtain rfl : k = l.length := by omega
      rw [List.take_length] at hS
      go_wp2_with (first | (refine wl_load ?_) | (refine wl_store ?_) | (refine wl_build ?_) | (refine wl_slice ?_) | ((refine wl_append_I ?_); intro v' w' ho hg hb; have hs := hg.size; (try simp at hs)) | (refine wl_append ?_; intro v' w' ho hg hb; have hs := hg.size; (try simp at hs); (try rw [ptCs_end] at ho); (try rw [ints_end] at ho); (try simp only [Nat.zero_add, Nat.reduceAdd, List.nil_append, List.cons_append] at ho)))
      (apply ret_one Tryz.results71; (conv => lhs; whnf); exact rfl)
      refine ⟨_, rfl, ?_, LowK.out findLow⟩
      rw [hS, hSl]
      exact findOwn
end Go.Proofs.YtaocnklolgdkfaaGreat

