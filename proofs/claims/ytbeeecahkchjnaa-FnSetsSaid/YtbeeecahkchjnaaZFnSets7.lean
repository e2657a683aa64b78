/- Texts of the claim, in build order: OB3, OA1, OB4, OC1, Hold, RegM, IR4, DR1, OpB, Big, DR2, DR3, OwB, Shelf, H2. No condition. -/
import Derived.Shelf.SortM.Plain
import Derived.Shelf.SortM.SortNone
import Derived.Test.YtbeeecahkchjnaaZFnSets6
/- Plain: classes joined step by step are what is reached. -/
namespace Go.Proofs.Ytbeeecahkchjnaa
set_option linter.unusedVariables false
set_option linter.unusedSimpArgs false
set_option linter.unusedSectionVars false
section
variable {α : Type} [DecidableEq α]
variable {f : Nat → α → α} {n : Nat} {d : α} {all : List α}
end
end Go.Proofs.Ytbeeecahkchjnaa
/- Small things for laws with lists of maps. -- maps -/
namespace Go.Proofs.Ytbeeecahkchjnaa
open Go.RowKit
set_option linter.unusedVariables false
set_option linter.unusedSimpArgs false
theorem ListM.nil {W : World} {l : List M9} {n : Nat} (h : n = 0) (hl : l.length = n) : ListM W none n l := ⟨hl, fun h2 => by omega⟩
theorem ListM.at {W : World} {g n : Nat} {l : List M9} (hl : l.length = n) (h : MapsK W g 0 n l) : ListM W (some ⟨g, 0, none⟩) n l := ⟨hl, fun _ => ⟨g, 0, rfl, h⟩⟩
end Go.Proofs.Ytbeeecahkchjnaa
/- Plain: orbits of points under invertible maps. -/
namespace Go.Proofs.Ytbeeecahkchjnaa
open Go.RowKit
set_option linter.unusedVariables false
set_option linter.unusedSimpArgs false
def p0 : Pt := (0, 0, 0)
def fO (p : Int) (ms : List M9) (k : Nat) (x : Pt) : Pt := imgP p (ms.getD k m0) x
/-- All maps are invertible. -/
structure MsOk (n : Nat) (ms : List M9) : Prop where
  pr : prB (n : Int) = true
  ok : ∀ m ∈ ms, okM (n : Int) m = true
theorem getM_mem {l : List M9} {j : Nat} (h : j < l.length) : l.getD j m0 ∈ l := by rw [List.getD_eq_getElem?_getD, List.getElem?_eq_getElem h]; exact List.getElem_mem _
variable {n : Nat} {ms : List M9}
theorem MsOk.fin (h : MsOk n ms) : ∀ x, x ∈ allP n → ∀ k, k < ms.length → fO n ms k x ∈ allP n := fun x hx k hk => by
  have := img_pt (h.ok _ (getM_mem hk)) (allP_pt h.pr hx)
  exact mem_allP this
theorem MsOk.inj (h : MsOk n ms) : ∀ x y, x ∈ allP n → y ∈ allP n → ∀ k, k < ms.length → fO n ms k x = fO n ms k y → x = y := fun x y hx hy k hk e => img_inj (h.ok _ (getM_mem hk)) (allP_pt h.pr hx) (allP_pt h.pr hy) e
theorem MsOk.n13 (h : MsOk n ms) : 3 ≤ n ∧ n ≤ 13 := by have := prB_bd h.pr; omega
/-- The points met so far, from a point on. -/
def seqP (n : Nat) (ms : List M9) (a : Pt) (i : Nat) : List Pt := seqO (fO n ms) ms.length p0 a i
def RunP (n : Nat) (ms : List M9) (a : Pt) (i : Nat) : Prop := ∀ j, j < i → j < (seqP n ms a j).length
def WholeP (n : Nat) (ms : List M9) (a : Pt) (K : Nat) : Prop := WholeO (fO n ms) ms.length p0 a K
theorem RunP.in (h : MsOk n ms) {a : Pt} (ha : a ∈ allP n) {i : Nat} (hr : RunP n ms a i) : ∀ x ∈ seqP n ms a i, x ∈ allP n :=
  seqO_all (P := (· ∈ allP n)) ha h.fin i (by rcases Nat.eq_zero_or_pos i with h2 | h2; (· exact .inl h2); (· exact .inr (hr (i - 1) (by omega)))) hr
theorem RunP.fin {a : Pt} {i K : Nat} (hw : WholeP n ms a K) (hr : RunP n ms a i) (hi : (seqP n ms a i).length = i) : i = K := (WholeO.uniq (f := fO n ms) (n := ms.length) (d := p0) ⟨hr, hi⟩ hw)
end Go.Proofs.Ytbeeecahkchjnaa
/- Lists of class labels in memory; all blocks but one; the operations of a walk over them. -/
namespace Go.Proofs.Ytbeeecahkchjnaa
open Go.RowKit
set_option linter.unusedVariables false
set_option linter.unusedSimpArgs false
structure RowJ (W : World) (g cap N : Nat) (F : Nat → Int) : Prop where
  room : RoomI W g cap 3
  le : N ≤ cap
  at_ : ∀ j, j < N → W.cell? ⟨g, j, none⟩ = some (.int .i64 (F j))
section
variable {W W' : World} {g g' cap N k : Nat} {F G : Nat → Int}
theorem RowJ.blk (h : RowJ W g cap N F) (e : W'.heap[g]? = W.heap[g]?) : RowJ W' g cap N F := by
  obtain ⟨⟨cur, h1, h2⟩, h3, h4⟩ := h
  refine ⟨⟨cur, e.trans h1, h2⟩, h3, fun j hj => ?_⟩
  rw [← h4 j hj]; unfold World.cell?; rw [e]
theorem RowJ.lt (h : RowJ W g cap N F) : g < W.heap.size := h.room.lt
theorem RowJ.below (h : RowJ W g cap N F) (hb : Below W.heap.size W W') : RowJ W' g cap N F := h.blk (hb.block _ h.lt)
theorem RowJ.link (l : Link W W') (h : RowJ W g cap N F) : RowJ W' g cap N F := h.below l.out
theorem RowJ.alloc (h : RowJ W g cap N F) (o : Obj) : RowJ (W.alloc o) g cap N F := h.below (bal (Below.refl _ _) o)
theorem RowJ.set (h : RowJ W g cap N F) (hk : k < N) (x : Int) : RowJ (W.setCell ⟨g, k, none⟩ (.int .i64 x)) g cap N (fun j => if j = k then x else F j) := by
  refine ⟨h.room.set k _, h.le, fun j hj => ?_⟩
  by_cases e : j = k
  · subst e
    rw [World.cell?_setCell_same _ _ _ (h.at_ j hj)]
    simp
  · rw [World.cell?_setCell_other _ _ _ _ (fun h => e (by cases h; rfl)), h.at_ j hj]
    simp [e]
theorem RowJ.other (h : RowJ W g cap N F) (hne : g ≠ g') (k : Nat) (v : Value) : RowJ (W.setCell ⟨g', k, none⟩ v) g cap N F := h.blk (setCell_blk W hne k v)
theorem RowJ.congr (h : RowJ W g cap N F) (e : ∀ j, j < N → F j = G j) : RowJ W g cap N G := ⟨h.room, h.le, fun j hj => by rw [h.at_ j hj, e j hj]⟩
end
theorem RowJ.cell {W : World} {g cap N k : Nat} {F : Nat → Int} (h : RowJ W g cap N F) (hk : k < N) : CellK W g k (.int .i64 (F k)) := ⟨h.at_ k hk⟩
theorem RowJ.st {W : World} {g cap N k : Nat} {F : Nat → Int} (h : RowJ W g cap N F) (hk : k < N) : StK W g k := ⟨h.room.some k (Nat.lt_of_lt_of_le hk h.le), h.room.frozen k, h.lt⟩
/-- All blocks but one are as they were. -/
structure ButK (g : Nat) (w W : World) : Prop where
  out : w.heap.size ≤ W.heap.size ∧ (∀ b, b < w.heap.size → b ≠ g → W.heap[b]? = w.heap[b]?) ∧ W.os = w.os ∧ W.tape = w.tape ∧ W.output = w.output
theorem ButK.refl (g : Nat) (w : World) : ButK g w w := ⟨Nat.le_refl _, fun _ _ _ => rfl, rfl, rfl, rfl⟩
theorem ButK.low {g : Nat} {w W W' : World} (l : LowK W W') (h : ButK g w W) : ButK g w W' := by
  obtain ⟨h1, h2, h3, h4, h5⟩ := h.out
  exact ⟨Nat.le_trans h1 l.out.size, fun b hb hne => (l.out.block b (by omega)).trans (h2 b hb hne), l.out.os.trans h3, l.out.tape.trans h4, l.out.output.trans h5⟩
theorem ButK.tr {g : Nat} {w W W' : World} (h' : ButK g W W') (h : ButK g w W) : ButK g w W' := by
  obtain ⟨h1, h2, h3, h4, h5⟩ := h.out
  obtain ⟨k1, k2, k3, k4, k5⟩ := h'.out
  exact ⟨Nat.le_trans h1 k1, fun b hb hne => (k2 b (by omega) hne).trans (h2 b hb hne), k3.trans h3, k4.trans h4, k5.trans h5⟩
theorem ButK.set {g : Nat} {w W : World} (k : Nat) (v : Value) (h : ButK g w W) : ButK g w (W.setCell ⟨g, k, none⟩ v) := by
  obtain ⟨h1, h2, h3, h4, h5⟩ := h.out
  exact ⟨by simpa [World.setCell] using h1, fun b hb hne => (setCell_blk W hne k v).trans (h2 b hb hne), h3, h4, h5⟩
theorem ButK.size {g : Nat} {w W : World} (h : ButK g w W) : w.heap.size ≤ W.heap.size := h.out.1
theorem LowK.but {g : Nat} {w0 w W : World} (h : ButK g w W) (hg : w0.heap.size ≤ g) (l : LowK w0 w) : LowK w0 W := by
  obtain ⟨h1, h2, h3, h4, h5⟩ := h.out
  exact ⟨⟨h3.trans l.out.os, h4.trans l.out.tape, h5.trans l.out.output, Nat.le_trans l.out.size h1, fun k hk => (h2 k (Nat.lt_of_lt_of_le hk l.out.size) (by omega)).trans (l.out.block k hk)⟩⟩
theorem cell_but {g : Nat} {w W : World} (h : ButK g w W) {b o : Nat} {v : Value} (hne : b ≠ g) (hc : w.cell? ⟨b, o, none⟩ = some v) : W.cell? ⟨b, o, none⟩ = some v := by
  have hb : b < w.heap.size := World.block_lt_of_cell? w _ hc
  have := h.out.2.1 b hb hne
  rw [← hc]; unfold World.cell?; rw [this]
theorem PtsK.but {g : Nat} {w W : World} (h : ButK g w W) {b o n : Nat} {L : List Pt} (hne : b ≠ g) (hP : PtsK w b o n L) : PtsK W b o n L :=
  ⟨fun i hi => ⟨cell_but h hne (hP.out i hi).1, cell_but h hne (hP.out i hi).2.1, cell_but h hne (hP.out i hi).2.2⟩⟩
theorem GoMapP.but {g : Nat} {w W : World} (h : ButK g w W) {b : Nat} {L : List Pt} (hne : b ≠ g) (hM : GoMapP w b L) : GoMapP W b L := hM.blk (h.out.2.1 b hM.lt hne)
theorem RowK.but {g : Nat} {w W : World} (h : ButK g w W) {b : Nat} {cs : Array Value} {T : TypeId} (hne : b ≠ g) (hR : RowK w b cs T) : RowK W b cs T := ⟨(h.out.2.1 b hR.lt hne).trans hR.out⟩
theorem RowJ.grew {w W : World} {u : Value} {g cap N : Nat} {F : Nat → Int} (hg : Grew w u W) (ho : Off u g) (h : RowJ w g cap N F) : RowJ W g cap N F := h.blk (hg.out.block g h.lt (fun e => ho.out e.symm))
section
variable {ρ : Operand → Value} {ops : Array Oper} {rest : List Oper} {o : Oper} {a : Act} {w W : World} {Q : Exit → Act → World → Prop} {ty : TypeId} {x y : Operand}
end
end Go.Proofs.Ytbeeecahkchjnaa
/- A place in a walk where one's own steps begin. -/
namespace Go.Proofs.Ytbeeecahkchjnaa
def Hold (p : Prop) : Prop := p
theorem hold {p : Prop} (h : Hold p) : p := h
end Go.Proofs.Ytbeeecahkchjnaa
/- A region whose first m operations draw their order, with a chain among them: the calm ones stand as long as the chain has not begun; each is bound ahead of the chain or is a plain move. (Printed by genregm.py.) -/
namespace Go.Proofs.Ytbeeecahkchjnaa
open Go.RowKit
set_option linter.unusedVariables false
set_option linter.unusedSimpArgs false
/-- Each calm one is bound ahead of the chain, or is a plain move. -/
def movB (l : List Oper) (m : Nat) (ch : List Nat) : Bool := (List.range m).all fun i => ch.contains i || (match ch[0]? with | none => true | some c => reachB l l.length c i) || (match l[i]? with | none => true | some o => o.guard.isNone && (match o.op with | .move _ => true | _ => false))
theorem movB_at {l : List Oper} {m : Nat} {ch : List Nat} (h : movB l m ch = true) {i c : Nat} {o : Oper} (him : i < m) (hi : l[i]? = some o) (hc : ch.contains i = false) (h0 : ch[0]? = some c) (hr : reachB l l.length c i = false) : ∃ x, o.op = .move x ∧ o.guard = none := by
  unfold movB at h
  have h1 := List.all_eq_true.1 h i (List.mem_range.2 him)
  rw [hc, h0, hi] at h1
  simp only [hr, Bool.false_or, Bool.or_false, Bool.and_eq_true, Option.isNone_iff_eq_none] at h1
  obtain ⟨h2, h3⟩ := h1
  cases e : o.op <;> rw [e] at h3 <;> first | exact ⟨_, rfl, h2⟩ | cases h3
structure RInvM (P : Program) (l : List Oper) (m : Nat) (ch : List Nat) (KP : World → Prop) (Q' : Act → World → Prop) (a0 aE : Act) (s : Nat) (aS : Act) (Ws : World) (listed : Array Bool) (a : Act) (w : World) : Prop where
  df : a.defers = a0.defers
  sz : a.tmps.size = a0.tmps.size
  len : listed.size = l.length
  fr1 : ∀ (j : Nat) (o : Oper) (t : Nat), j < m → l[j]? = some o → o.dst = some t → listed.getD j false = true → a.tmps.getD t undef = aS.tmps.getD t undef
  fr0 : ∀ t : Nat, (∀ (j : Nat) (o : Oper), j < m → l[j]? = some o → o.dst = some t → listed.getD j false = false) → a.tmps.getD t undef = a0.tmps.getD t undef
  sd : aS.defers = a0.defers
  ss : aS.tmps.size = a0.tmps.size
  sc : ∀ (j : Nat) (o : Oper) (t : Nat), j < m → l[j]? = some o → o.dst = some t → ch.contains j = false → aS.tmps.getD t undef = aE.tmps.getD t undef
  s0 : ∀ t : Nat, (∀ (j : Nat) (o : Oper), j < m → l[j]? = some o → o.dst ≠ some t) → aS.tmps.getD t undef = a0.tmps.getD t undef
  sq : wpCh P l.toArray (fun _ => True) Q' ((ch.drop s).filterMap fun i => l[i]?) aS Ws
  bl : Below Ws.heap.size Ws w
  kp : s = 0 → KP w
  sle : s ≤ ch.length
  cs : ∀ (k i : Nat), ch[k]? = some i → (listed.getD i false = true ↔ k < s)
  rest : ∀ j, m ≤ j → listed.getD j false = false
  dc : ∀ (i : Nat) (o : Oper), l[i]? = some o → listed.getD i false = true → ∀ e ∈ o.after, Region.binds .any e = true → listed.getD e.on false = true
section
variable {P : Program} {Q : Exit → Act → World → Prop} {l : List Oper} {a0 : Act} {w : World} {ch : List Nat} {KP : World → Prop}
theorem region_cm {id : Nat} (m : Nat) (ch : List Nat) (KP : World → Prop) (hm : P.follows .mixedOrders = true) (hml : m ≤ l.length)
    (chk : viaChkC l m a0.tmps.size ch = true) (hgd : guardsIn l m = true) (hon : onceC l m = true) (hch : chChk l m ch = true) (hcb : chanB l m ch = true) (hmv : movB l m ch = true)
    (hk : ∀ W W', KP W → Below W.heap.size W W' → KP W') (h0 : KP w)
    (H : ∃ aE, (∀ W0, KP W0 → ∀ G : Grow0 W0, wpQuiet P l.toArray (fun w' => ∃ g : Grow W0 G, w' = g.W) (fun a' => a' = aE) (((List.range m).filter fun i => !ch.contains i).filterMap fun i => l[i]?) a0) ∧
      wpCh P l.toArray (fun _ => True) (fun a' W' => wpList P l.toArray Q (l.drop m) a' W') (ch.filterMap fun i => l[i]?) aE w) :
    (Code.region id l.toArray true).wp P Q a0 w := by
  obtain ⟨aE, H1, H2⟩ := H
  generalize hr : ((List.range m).filter fun i => !ch.contains i).filterMap (fun i => l[i]?) = r at *
  -- the calm ones, by their place
  have hrm : ∀ o ∈ r, ∃ i, i < m ∧ l[i]? = some o ∧ ch.contains i = false := fun o ho => by
    rw [← hr] at ho
    obtain ⟨i, hi, hio⟩ := List.mem_filterMap.1 ho
    have := List.mem_filter.1 hi
    exact ⟨i, List.mem_range.1 this.1, hio, by simpa using this.2⟩
  have hrl : ∀ i o, i < m → l[i]? = some o → ch.contains i = false → o ∈ r := fun i o him hio hc => by
    rw [← hr]
    exact List.mem_filterMap.2 ⟨i, List.mem_filter.2 ⟨List.mem_range.2 him, by rw [hc]; rfl⟩, hio⟩
  -- the order of r is that of the text
  have hord : ∀ (j k : Nat) (o o' : Oper), r[j]? = some o → r[k]? = some o' → ∃ i i', i < m ∧ i' < m ∧ l[i]? = some o ∧ l[i']? = some o' ∧ ch.contains i = false ∧ ch.contains i' = false ∧ (j < k → i < i') ∧ (k < j → i' < i) ∧ (j = k → i = i') := by
    have key : ∀ (is : List Nat), is.Pairwise (· < ·) → (∀ i ∈ is, i < m ∧ ch.contains i = false) → ∀ (j k : Nat) (o o' : Oper), (is.filterMap fun i => l[i]?)[j]? = some o → (is.filterMap fun i => l[i]?)[k]? = some o' →
        ∃ i i', i ∈ is ∧ i' ∈ is ∧ l[i]? = some o ∧ l[i']? = some o' ∧ (j < k → i < i') ∧ (k < j → i' < i) ∧ (j = k → i = i') := by
      intro is
      induction is with
      | nil => intro _ _ j k o o' h; simp at h
      | cons x is ih =>
        intro hp hq j k o o' hj hk'
        rw [List.pairwise_cons] at hp
        have hl : ∃ ox, l[x]? = some ox := ⟨l[x]'(by have := (hq x (List.mem_cons_self ..)).1; omega), List.getElem?_eq_getElem _⟩
        obtain ⟨ox, hox⟩ := hl
        rw [List.filterMap_cons, hox] at hj hk'
        cases j with
        | zero =>
          simp only [List.getElem?_cons_zero, Option.some.injEq] at hj
          subst hj
          cases k with
          | zero =>
            simp only [List.getElem?_cons_zero, Option.some.injEq] at hk'
            subst hk'
            exact ⟨x, x, List.mem_cons_self .., List.mem_cons_self .., hox, hox, (fun h => by omega), (fun h => by omega), fun _ => rfl⟩
          | succ k =>
            rw [List.getElem?_cons_succ] at hk'
            obtain ⟨i, hi, hio⟩ := List.mem_filterMap.1 (List.mem_of_getElem? hk')
            exact ⟨x, i, List.mem_cons_self .., List.mem_cons_of_mem _ hi, hox, hio, fun _ => hp.1 i hi, (fun h => by omega), (fun h => by omega)⟩
        | succ j =>
          rw [List.getElem?_cons_succ] at hj
          cases k with
          | zero =>
            simp only [List.getElem?_cons_zero, Option.some.injEq] at hk'
            subst hk'
            obtain ⟨i, hi, hio⟩ := List.mem_filterMap.1 (List.mem_of_getElem? hj)
            exact ⟨i, x, List.mem_cons_of_mem _ hi, List.mem_cons_self .., hio, hox, (fun h => by omega), fun _ => hp.1 i hi, (fun h => by omega)⟩
          | succ k =>
            rw [List.getElem?_cons_succ] at hk'
            obtain ⟨i, i', h1, h2, h3, h4, h5, h6, h7⟩ := ih hp.2 (fun i hi => hq i (List.mem_cons_of_mem _ hi)) j k o o' hj hk'
            exact ⟨i, i', List.mem_cons_of_mem _ h1, List.mem_cons_of_mem _ h2, h3, h4, (fun h => h5 (by omega)), (fun h => h6 (by omega)), (fun h => h7 (by omega))⟩
    intro j k o o' hj hk'
    rw [← hr] at hj hk'
    obtain ⟨i, i', h1, h2, h3⟩ := key _ (List.Pairwise.filter _ List.pairwise_lt_range) (fun i hi => by have := List.mem_filter.1 hi; exact ⟨List.mem_range.1 this.1, by simpa using this.2⟩) j k o o' hj hk'
    have q1 := List.mem_filter.1 h1
    have q2 := List.mem_filter.1 h2
    exact ⟨i, i', List.mem_range.1 q1.1, List.mem_range.1 q2.1, h3.1, h3.2.1, by simpa using q1.2, by simpa using q2.2, h3.2.2⟩
  have hsome : ∀ o ∈ r, o.dst ≠ none := fun o ho => by
    obtain ⟨i, him, hi, hc⟩ := hrm o ho
    intro h
    rw [((viaChkC_at chk hi).2.2.1 him).2.2.1 h] at hc; cases hc
  have look : ∀ {C : World → Prop} {us : List (Nat × Value)}, QSteps P l.toArray C r us a0 → puts a0 us = aE → ∀ {i : Nat} {o : Oper} {t : Nat}, i < m → ch.contains i = false → l[i]? = some o → o.dst = some t →
      ∃ v, aE.tmps.getD t undef = v ∧ ((Region.wanted o (yielded l.toArray aE.tmps) = true ∧ ∀ w, C w → Oper.quietUpon P C w v ((execOp aE.eval o).run P w)) ∨ (Region.wanted o (yielded l.toArray aE.tmps) = false ∧ v = undef)) := by
    intro C us hus hue i o t him hic hi hd
    obtain ⟨ri, hri⟩ := List.getElem?_of_mem (hrl i o him hi hic)
    have place : ∀ k ok, r[k]? = some ok → ∃ i', i' < m ∧ l[i']? = some ok ∧ ch.contains i' = false ∧ (ri < k → i < i') ∧ (ri ≤ k → i ≤ i') := by
      intro k ok hk'
      obtain ⟨x, x', hx, hx', hxo, hxo', _, hc', h1, h2, h3⟩ := hord ri k o ok hri hk'
      have e : x = i := by
        rcases Nat.lt_trichotomy x i with h | h | h
        · exact absurd hd (onceC_at hon hx him (by omega) hxo hi hd)
        · exact h
        · exact absurd hd (onceC_at hon him hx (by omega) hi hxo hd)
      subst e
      refine ⟨x', hx', hxo', hc', h1, fun h => ?_⟩
      rcases Nat.lt_or_ge ri k with h4 | h4
      · exact Nat.le_of_lt (h1 h4)
      · have := h3 (by omega); omega
    obtain ⟨t', v, ai, hd', hy, hsz, hv, hread⟩ := QSteps.at _ _ _ hus ri o hri
    rw [hd] at hd'; obtain rfl := Option.some.inj hd'
    rw [hue] at hv hread
    have hC := viaChkC_at chk hi
    have hCm := hC.2.2.1 him
    have hCb := (chanB_at hcb him hi).2 hic
    have htN := hCm.2.1 t hd
    have hval := hv htN (fun j o' hij hj => by obtain ⟨i', hi'm, hi', _, hlt, _⟩ := place j o' hj; exact onceC_at hon him hi'm (by have := hlt hij; omega) hi hi' hd)
    have heq : execOp ai.eval o = execOp aE.eval o := execOp_congr o hC.1 (fun x hx => by
      cases x with
      | tmp u =>
        refine hread u (fun j o' hij hj hdu => ?_)
        obtain ⟨i', hi'm, hi', _, _, hle⟩ := place j o' hj
        obtain ⟨e, he, hb, hon'⟩ := bindsTo_spec (hCm.2.2.2 u (List.mem_filterMap.2 ⟨.tmp u, by simpa using hx, rfl⟩) i' o' hi'm hi' hdu)
        have := hC.2.1 e he hb
        have := hle hij
        omega
      | _ => rfl)
    have hwe : Region.wanted o (yielded l.toArray ai.tmps) = Region.wanted o (yielded l.toArray aE.tmps) := by
      unfold Region.wanted
      cases hg : o.guard with
      | none => rfl
      | some kb =>
        obtain ⟨k, b⟩ := kb
        obtain ⟨e, he, hb, hon'⟩ := bindsTo_spec (hCm.1 k b hg)
        have hki := hC.2.1 e he hb
        rw [hon'] at hki
        have : yielded l.toArray ai.tmps k = yielded l.toArray aE.tmps k := yielded_congr (by rw [hsz, ← hue, puts_size]) (fun ok tk hk' hdk => hread tk (fun j o' hij hj hdj => by
          obtain ⟨i', hi'm, hi', _, _, hle⟩ := place j o' hj
          exact onceC_at hon (by omega) hi'm (by have := hle hij; omega) (show l[k]? = some ok by simpa using hk') hi' hdk hdj))
        simp only [this]
    refine ⟨v, hval, ?_⟩
    rcases hy with ⟨hw, hq⟩ | ⟨hw, hu⟩
    · exact .inl ⟨by rw [← hwe]; exact hw, fun w hw' => by have := hq w hw'; unfold Oper.quietAt at this; rwa [heq] at this⟩
    · exact .inr ⟨by rw [← hwe]; exact hw, hu⟩
  obtain ⟨us0, hus0, hue0⟩ := quiet_out _ _ hsome (H1 w h0 ⟨w, Below.refl _ _⟩)
  have hEs : aE.tmps.size = a0.tmps.size := by rw [← hue0, puts_size]
  have hEd : aE.defers = a0.defers := by rw [← hue0, puts_defers]
  have hE0 : ∀ u, (∀ (j : Nat) (o : Oper), j < m → l[j]? = some o → ch.contains j = false → o.dst ≠ some u) → aE.tmps.getD u undef = a0.tmps.getD u undef := fun u hu => by
    rw [← hue0]
    refine puts_other u us0 a0 (fun kv hk' e => ?_)
    obtain ⟨j, o, hj, hd⟩ := QSteps.key _ _ _ hus0 kv hk'
    obtain ⟨i, him, hi, hc⟩ := hrm o (List.mem_of_getElem? hj)
    exact hu i o him hi hc (by rw [hd, e])
  refine wp_region_any hm ?_
  have key : ∀ (fuel s : Nat) (aS : Act) (Ws : World) (listed : Array Bool) (a : Act) (W : World), RInvM P l m ch KP (fun a' W' => wpList P l.toArray Q (l.drop m) a' W') a0 aE s aS Ws listed a W →
      (List.range m).countP (fun i => !listed.getD i true) + (l.length - m) ≤ fuel → wpAny P .any l.toArray Q fuel listed a W := by
    intro fuel
    have fin : ∀ (fuel s : Nat) (aS : Act) (Ws : World) (listed : Array Bool) (a : Act) (W : World), RInvM P l m ch KP (fun a' W' => wpList P l.toArray Q (l.drop m) a' W') a0 aE s aS Ws listed a W → (∀ j, j < m → listed.getD j false = true) → l.length - m ≤ fuel → wpAny P .any l.toArray Q fuel listed a W := by
      intro fuel s aS Ws listed a W hI hall hf
      have hs : s = ch.length := by
        rcases Nat.lt_or_ge s ch.length with h | h
        · exfalso
          have hk' : ch[s]? = some ch[s] := List.getElem?_eq_getElem h
          exact absurd ((hI.cs s _ hk').1 (hall _ (chChk_at hch hk').1)) (by omega)
        · have := hI.sle; omega
      have ea : a = aS := by
        refine act_ext _ _ (by rw [hI.df, hI.sd]) (by rw [hI.sz, hI.ss]) (fun t ht => ?_)
        by_cases hw : ∃ (j : Nat) (o : Oper), j < m ∧ l[j]? = some o ∧ o.dst = some t
        · obtain ⟨j, o, hjm, hj, ho⟩ := hw
          exact hI.fr1 j o t hjm hj ho (hall j hjm)
        · rw [hI.fr0 t (fun j o hjm hj ho => (hw ⟨j, o, hjm, hj, ho⟩).elim)]
          exact (hI.s0 t (fun j o hjm hj ho => hw ⟨j, o, hjm, hj, ho⟩)).symm
      have hq := hI.sq
      rw [hs, List.drop_length] at hq
      have hq2 := hq W ⟨hI.bl⟩
      rw [← ea] at hq2
      refine any_tailC chk fuel m listed _ W (Nat.le_refl _) hml hI.len (fun j hj => ⟨fun h => ?_, fun h => hall j h⟩) hf hq2
      rcases Nat.lt_or_ge j m with h2 | h2
      · exact h2
      · rw [hI.rest j h2] at h; cases h
    -- what an operation that may come up reads
    have look2 : ∀ (s : Nat) (aS : Act) (Ws : World) (listed : Array Bool) (a : Act) (W : World), RInvM P l m ch KP (fun a' W' => wpList P l.toArray Q (l.drop m) a' W') a0 aE s aS Ws listed a W → ∀ (i : Nat) (o : Oper), i < m → l[i]? = some o →
        (∀ e ∈ o.after, Region.binds .any e = true → listed.getD e.on false = true) → ∀ t ∈ readsOf o, a.tmps.getD t undef = aS.tmps.getD t undef := by
      intro s aS Ws listed a W hI i o him hi hall t ht
      have h := ((viaChkC_at chk hi).2.2.1 him).2.2.2 t ht
      by_cases hw : ∃ (j : Nat) (oj : Oper), j < m ∧ l[j]? = some oj ∧ oj.dst = some t
      · obtain ⟨j, oj, hjm, hj, hjd⟩ := hw
        obtain ⟨e, he, hb, hon'⟩ := bindsTo_spec (h j oj hjm hj hjd)
        exact hI.fr1 j oj t hjm hj hjd (by rw [← hon']; exact hall e he hb)
      · rw [hI.fr0 t (fun j oj hjm hj ho => (hw ⟨j, oj, hjm, hj, ho⟩).elim)]
        exact (hI.s0 t (fun j oj hjm hj ho => hw ⟨j, oj, hjm, hj, ho⟩)).symm
    induction fuel with
    | zero =>
      intro s aS Ws listed a W hI hc
      refine fin 0 s aS Ws listed a W hI (fun j hj => ?_) (by omega)
      have h0 : (List.range m).countP (fun i => !listed.getD i true) = 0 := by omega
      rw [List.countP_eq_zero] at h0
      have := h0 j (List.mem_range.2 hj)
      have hj' : j < listed.size := by rw [hI.len]; omega
      simpa [hj'] using this
    | succ fuel ih =>
      intro s aS Ws listed a W hI hc
      by_cases hall : ∀ j, j < m → listed.getD j false = true
      · exact fin _ s aS Ws listed a W hI hall (by omega)
      · have hno : ∀ i, i ∈ Region.ready .any l.toArray listed → i < m := by
          intro i hi
          rcases Nat.lt_or_ge i m with h | h
          · exact h
          · exfalso
            obtain ⟨o, hio, hil, hi0, ha⟩ := ready_mem hi hI.len
            rcases Nat.eq_or_lt_of_le h with h2 | h2
            · refine hall (fun j hj => ?_)
              exact reach_listed hI.dc _ i j o hio ha ((viaChkC_at chk hio).2.2.2.1 h2.symm j hj)
            · obtain ⟨e, he, hb, hon'⟩ := bindsTo_spec ((viaChkC_at chk hio).2.2.2.2 h2)
              have h3 := ha e he hb
              rw [hon', hI.rest (i - 1) (by omega)] at h3; cases h3
        refine ⟨fun hr0 => ?_, fun i hi => ?_⟩
        · exfalso
          have all : ∀ i, i < l.length → listed.getD i false = true := by
            intro i
            induction i using Nat.strongRecOn with
            | _ i ih2 =>
              intro hi
              cases hb : listed.getD i false with
              | true => rfl
              | false =>
                exfalso
                have ho : l[i]? = some l[i] := List.getElem?_eq_getElem hi
                have hmem : i ∈ Region.ready .any l.toArray listed := by
                  rw [mem_ready]
                  refine ⟨?_, l[i], by simp, fun e he hbd => ?_⟩
                  · have : i < listed.size := by have := hI.len; omega
                    simp [this] at hb ⊢; exact hb
                  · exact ih2 e.on ((viaChkC_at chk ho).2.1 e he hbd) (by have := (viaChkC_at chk ho).2.1 e he hbd; omega)
                rw [hr0] at hmem; cases hmem
          exact hall (fun j hj => all j (by omega))
        · have him := hno i hi
          obtain ⟨o, hio, hil, hi0, hal⟩ := ready_mem hi hI.len
          have hil' : i < listed.size := by rw [hI.len]; exact hil
          have ho : l.toArray[i]? = some o := by simpa using hio
          have hC := viaChkC_at chk hio
          have hCm := hC.2.2.1 him
          have hcnt : (List.range m).countP (fun j => !(listed.setIfInBounds i true).getD j true) + (l.length - m) ≤ fuel := by
            have := count_lt (fun j => !listed.getD j true) (fun j => !(listed.setIfInBounds i true).getD j true) (fun j hj => by
                by_cases e : i = j
                · subst e; simp [hil'] at hj
                · rw [getD_set_ne true e] at hj; exact hj) i (by simpa [hil'] using hi0) (by simp [hil']) (List.range m) (List.mem_range.2 him)
            omega
          have dcS : ∀ (i2 : Nat) (o2 : Oper), l[i2]? = some o2 → (listed.setIfInBounds i true).getD i2 false = true → ∀ e ∈ o2.after, Region.binds .any e = true → (listed.setIfInBounds i true).getD e.on false = true := by
            intro j oj hj hl e he hb
            rw [getD_set _ _ _ hil']
            by_cases ei : i = e.on
            · rw [if_pos ei]
            · rw [if_neg ei]
              rw [getD_set _ _ _ hil'] at hl
              by_cases ej : i = j
              · subst ej; rw [hio] at hj; obtain rfl := Option.some.inj hj; exact hal e he hb
              · rw [if_neg ej] at hl; exact hI.dc j oj hj hl e he hb
          have hi0f : listed.getD i false = false := by simpa [hil'] using hi0
          have restS : ∀ j, m ≤ j → (listed.setIfInBounds i true).getD j false = false := fun j hj => by rw [getD_set _ _ _ hil', if_neg (by omega)]; exact hI.rest j hj
          have hrd := look2 s aS Ws listed a W hI i o him hio hal
          have heqs : execOp a.eval o = execOp aS.eval o := execOp_congr o hC.1 (fun x hx => by
            cases x with
            | tmp u => exact hrd u (List.mem_filterMap.2 ⟨.tmp u, by simpa using hx, rfl⟩)
            | _ => rfl)
          -- another slot than i's, filled before
          have fr0S : ∀ (v : Value) (u : Nat), (∀ (j : Nat) (o : Oper), j < m → l[j]? = some o → o.dst = some u → (listed.setIfInBounds i true).getD j false = false) → (a.put o.dst v).tmps.getD u undef = a0.tmps.getD u undef := by
            intro v u hnu
            have hou : o.dst ≠ some u := fun e => by
              have := hnu i o him hio e
              rw [getD_set _ _ _ hil', if_pos rfl] at this; cases this
            have e0 : (a.put o.dst v).tmps.getD u undef = a.tmps.getD u undef := by
              cases hd : o.dst with
              | none => rfl
              | some t => exact put_get_ne _ _ _ _ (fun e => hou (by rw [hd, e]))
            rw [e0]
            refine hI.fr0 u (fun j oj hjm hj hjd => ?_)
            have := hnu j oj hjm hj hjd
            rw [getD_set _ _ _ hil'] at this
            by_cases e : i = j
            · rw [if_pos e] at this; cases this
            · rw [if_neg e] at this; exact this
          cases hic : ch.contains i with
          | false =>
            obtain ⟨t, hdst⟩ : ∃ t, o.dst = some t := by
              cases hd : o.dst with
              | some t => exact ⟨t, rfl⟩
              | none => rw [hCm.2.2.1 hd] at hic; cases hic
            have htN := hCm.2.1 t hdst
            rw [hdst] at fr0S
            have hCb := (chanB_at hcb him hio).2 hic
            -- what it reads stands in aE too
            have hrE : ∀ u ∈ readsOf o, aS.tmps.getD u undef = aE.tmps.getD u undef := fun u hu => by
              by_cases hw : ∃ (j : Nat) (oj : Oper), j < m ∧ l[j]? = some oj ∧ oj.dst = some u
              · obtain ⟨j, oj, hjm, hj, hjd⟩ := hw
                refine hI.sc j oj u hjm hj hjd ?_
                cases hcj : ch.contains j with
                | false => rfl
                | true => exact absurd hjd (hCb.2 u hu j oj hcj hj)
              · rw [hI.s0 u (fun j oj hjm hj ho => hw ⟨j, oj, hjm, hj, ho⟩), hE0 u (fun j oj hjm hj _ ho => hw ⟨j, oj, hjm, hj, ho⟩)]
            have heqE : execOp aS.eval o = execOp aE.eval o := execOp_congr o hC.1 (fun x hx => by
              cases x with
              | tmp u => exact hrE u (List.mem_filterMap.2 ⟨.tmp u, by simpa using hx, rfl⟩)
              | _ => rfl)
            have hwe : Region.wanted o (yielded l.toArray a.tmps) = Region.wanted o (yielded l.toArray aE.tmps) := by
              unfold Region.wanted
              cases hg : o.guard with
              | none => rfl
              | some kb =>
                obtain ⟨k, b⟩ := kb
                obtain ⟨e, he, hb, hon'⟩ := bindsTo_spec (hCm.1 k b hg)
                have hkm := guardsIn_at hgd him hio hg
                have hlk : listed.getD k false = true := by rw [← hon']; exact hal e he hb
                have : yielded l.toArray a.tmps k = yielded l.toArray aE.tmps k := yielded_congr (by rw [hI.sz, hEs]) (fun ok tk hk' hdk => by
                  have hk2 : l[k]? = some ok := by simpa using hk'
                  rw [hI.fr1 k ok tk hkm hk2 hdk hlk]
                  exact hI.sc k ok tk hkm hk2 hdk (hCb.1 k b hg))
                simp only [this]
            have step : ∀ W', (s = 0 → KP W') → Below W.heap.size W W' → wpAny P .any l.toArray Q fuel (listed.setIfInBounds i true) (a.put (some t) (aE.tmps.getD t undef)) W' := by
              intro W' hkW hWW
              refine ih s aS Ws _ _ _ ⟨by rw [put_defers]; exact hI.df, by rw [put_size]; exact hI.sz, by simpa using hI.len, ?_, fr0S _, hI.sd, hI.ss, hI.sc, hI.s0, hI.sq, below_tr' hI.bl hWW, hkW, hI.sle, ?_, restS, dcS⟩ hcnt
              · intro j oj u hjm hj hjd hl
                by_cases htu : t = u
                · subst htu
                  rw [put_get_same _ _ _ (by rw [hI.sz]; exact htN)]
                  exact (hI.sc i o t him hio hdst hic).symm
                · rw [put_get_ne _ _ _ _ htu]
                  rw [getD_set _ _ _ hil'] at hl
                  by_cases e : i = j
                  · subst e; rw [hio] at hj; obtain rfl := Option.some.inj hj; rw [hdst] at hjd; exact (htu (Option.some.inj hjd)).elim
                  · rw [if_neg e] at hl; exact hI.fr1 j oj u hjm hj hjd hl
              · intro k c hk'
                rw [getD_set _ _ _ hil', if_neg (fun e => by subst e; rw [List.contains_iff_mem.2 (List.mem_of_getElem? hk')] at hic; cases hic)]
                exact hI.cs k c hk'
            unfold wpOp
            simp only [ho]
            rcases Nat.eq_zero_or_pos s with hs0 | hs0
            · obtain ⟨us, hus, hue⟩ := quiet_out _ _ hsome (H1 W (hI.kp hs0) ⟨W, Below.refl _ _⟩)
              obtain ⟨v, hv, h'⟩ := look hus hue him hic hio hdst
              rcases h' with ⟨hw, hq⟩ | ⟨hw, hu⟩
              · rw [hwe, hw]
                simp only [if_true]
                refine .inl ?_
                have hcalm := calmRun_of_quiet (w := W) (G := ⟨W, Below.refl _ _⟩) (hq W ⟨⟨W, Below.refl _ _⟩, rfl⟩)
                have hcalm' : calmAt P o a.eval W v := by
                  refine ⟨?_⟩; have hh := hcalm.out; unfold calmRun at hh ⊢; rw [heqs, heqE]; exact hh
                refine wp_of_calm hcalm' (fun W' hb => ?_)
                rw [hdst, ← hv]
                exact step W' (fun _ => hk _ _ (hI.kp hs0) hb) hb
              · rw [hwe, hw]
                simp only [Bool.false_eq_true, if_false, hdst]
                rw [hu] at hv
                rw [← hv]
                exact step W hI.kp (Below.refl _ _)
            · obtain ⟨c0, hc0⟩ : ∃ c0, ch[0]? = some c0 := ⟨ch[0]'(by have := hI.sle; omega), List.getElem?_eq_getElem _⟩
              have hl0 : listed.getD c0 false = true := (hI.cs 0 c0 hc0).2 hs0
              have hc0m : c0 < m := (chChk_at hch hc0).1
              have hoc : l[c0]? = some l[c0] := List.getElem?_eq_getElem (by omega)
              have hnr : reachB l l.length c0 i = false := by
                cases hb : reachB l l.length c0 i with
                | false => rfl
                | true =>
                  have := reach_listed hI.dc l.length c0 i _ hoc (hI.dc c0 _ hoc hl0) hb
                  rw [hi0f] at this; cases this
              obtain ⟨x, hop, hgn⟩ := movB_at hmv him hio hic hc0 hnr
              have hw : Region.wanted o (yielded l.toArray a.tmps) = true := by unfold Region.wanted; rw [hgn]
              have hwE : Region.wanted o (yielded l.toArray aE.tmps) = true := by unfold Region.wanted; rw [hgn]
              have hrun : ∀ W1, (execOp aE.eval o).run P W1 = .ok (.value (aE.eval x)) W1 := fun W1 => by unfold execOp; rw [hop]; rfl
              obtain ⟨v, hv, h'⟩ := look hus0 hue0 him hic hio hdst
              have hq : aE.eval x = v := by
                rcases h' with ⟨_, hq⟩ | ⟨hw2, _⟩
                · have := hq w ⟨⟨w, Below.refl _ _⟩, rfl⟩
                  rw [hrun] at this; exact this.2
                · rw [hwE] at hw2; cases hw2
              rw [hw]
              simp only [if_true]
              refine .inl ?_
              have hcalm' : calmAt P o a.eval W v := ⟨by unfold calmRun; rw [heqs, heqE, hrun]; exact ⟨rfl, hq⟩⟩
              refine wp_of_calm hcalm' (fun W' hb => ?_)
              rw [hdst, ← hv]
              exact step W' (fun h => absurd h (by omega)) hb
          | true =>
            have hgn := (chanB_at hcb him hio).1 hic
            have hw : Region.wanted o (yielded l.toArray a.tmps) = true := by unfold Region.wanted; rw [hgn]
            have hws : Region.wanted o (yielded l.toArray aS.tmps) = true := by unfold Region.wanted; rw [hgn]
            have hstage : ch[s]? = some i := by
              obtain ⟨k, hkl, hk'⟩ := List.mem_iff_getElem.1 (List.contains_iff_mem.1 hic)
              have hk2 : ch[k]? = some i := by rw [← hk']; exact List.getElem?_eq_getElem hkl
              have h1 : ¬ k < s := fun h => by rw [(hI.cs k i hk2).2 h] at hi0f; cases hi0f
              have h2 : k ≤ s := by
                rcases Nat.eq_zero_or_pos k with e | e
                · omega
                · have hq : ch[k - 1]? = some ch[k - 1] := List.getElem?_eq_getElem (by omega)
                  have h3 := ((chChk_at hch hk2).2 (k - 1) _ (by omega) hq).1
                  have h4 := (hI.cs _ _ hq).1 (reach_listed hI.dc _ i _ o hio hal h3)
                  omega
              have h5 : k = s := by omega
              rw [← h5]; exact hk2
            have hsl : s < ch.length := (List.getElem?_eq_some_iff.1 hstage).1
            have hsq := hI.sq
            rw [List.drop_eq_getElem_cons hsl, List.filterMap_cons, show ch[s] = i from (List.getElem?_eq_some_iff.1 hstage).2, hio] at hsq
            have hone := hsq W ⟨hI.bl⟩
            unfold wpList at hone
            rw [if_pos hws] at hone
            have hwp := hone.resolve_right (fun ⟨_, a1, w1, h1⟩ => by cases h1.1)
            unfold wpOp
            simp only [ho, hw, if_true]
            refine .inl (Oper.wp_mono (fun a' W' h => ?_) (wp_other (Q := Q) heqs (fun e a w h => h.e1) (fun a' w' h => h.pv) hwp))
            obtain ⟨v, rfl, _, _, hkW, hsqn⟩ := h
            refine ih (s + 1) (aS.put o.dst v) W' _ _ _ ⟨by rw [put_defers]; exact hI.df, by rw [put_size]; exact hI.sz, by simpa using hI.len, ?_, fr0S _, by rw [put_defers]; exact hI.sd, by rw [put_size]; exact hI.ss, ?_, ?_, hsqn, Below.refl _ _, (fun h => absurd h (by omega)), hsl, ?_, restS, dcS⟩ hcnt
            · intro j oj u hjm hj hjd hl
              have other : o.dst ≠ some u → (a.put o.dst v).tmps.getD u undef = a.tmps.getD u undef ∧ (aS.put o.dst v).tmps.getD u undef = aS.tmps.getD u undef := fun hou => by
                cases hd : o.dst with
                | none => exact ⟨rfl, rfl⟩
                | some t => exact ⟨put_get_ne _ _ _ _ (fun e => hou (by rw [hd, e])), put_get_ne _ _ _ _ (fun e => hou (by rw [hd, e]))⟩
              by_cases hou : o.dst = some u
              · have htN := hCm.2.1 u hou
                rw [hou, put_get_same _ _ _ (by rw [hI.sz]; exact htN), put_get_same _ _ _ (by rw [hI.ss]; exact htN)]
              · rw [(other hou).1, (other hou).2]
                rw [getD_set _ _ _ hil'] at hl
                by_cases e : i = j
                · subst e; rw [hio] at hj; obtain rfl := Option.some.inj hj; exact (hou hjd).elim
                · rw [if_neg e] at hl; exact hI.fr1 j oj u hjm hj hjd hl
            · intro j oj u hjm hj hjd hjc
              have hou : o.dst ≠ some u := fun e => by
                have hne : j ≠ i := fun e => by rw [e, hic] at hjc; cases hjc
                exact onceC_at hon him hjm (fun h => hne h.symm) hio hj e hjd
              have e0 : (aS.put o.dst v).tmps.getD u undef = aS.tmps.getD u undef := by
                cases hd : o.dst with
                | none => rfl
                | some t => exact put_get_ne _ _ _ _ (fun e => hou (by rw [hd, e]))
              rw [e0]
              exact hI.sc j oj u hjm hj hjd hjc
            · intro u hu
              have e0 : (aS.put o.dst v).tmps.getD u undef = aS.tmps.getD u undef := by
                cases hd : o.dst with
                | none => rfl
                | some t => exact put_get_ne _ _ _ _ (fun e => hu i o him hio (by rw [hd, e]))
              rw [e0]
              exact hI.s0 u hu
            · intro k c hk'
              rw [getD_set _ _ _ hil']
              by_cases hcc : i = c
              · subst hcc
                have h2 : k = s := by
                  rcases Nat.lt_trichotomy k s with h | h | h
                  · exact absurd rfl ((chChk_at hch hstage).2 k i h hk').2
                  · exact h
                  · exact absurd rfl ((chChk_at hch hk').2 s i h hstage).2
                rw [if_pos rfl]
                exact ⟨fun _ => by omega, fun _ => rfl⟩
              · rw [if_neg hcc, hI.cs k c hk']
                have hne : k ≠ s := fun e => by rw [e, hstage] at hk'; exact hcc (Option.some.inj hk')
                omega
  refine key _ 0 aE w _ _ _ ⟨rfl, rfl, by simp, ?_, ?_, hEd, hEs, fun _ _ _ _ _ _ _ => rfl, ?_, by rw [List.drop_zero]; exact H2, ⟨rfl, rfl, rfl, Nat.le_refl _, fun _ _ => rfl⟩, ?_, Nat.zero_le _, ?_, ?_, ?_⟩ ?_
  · intro j o t _ hj hjd hl; rw [rep_false] at hl; cases hl
  · intro t _; rfl
  · intro t ht; exact hE0 t (fun j o hjm hj _ => ht j o hjm hj)
  · exact fun _ => hk _ _ h0 ⟨rfl, rfl, rfl, Nat.le_refl _, fun _ _ => rfl⟩
  · intro k i _; rw [rep_false]; exact ⟨(fun h => by cases h), (fun h => by omega)⟩
  · intro j _; exact rep_false _ _
  · intro j o _ hl; rw [rep_false] at hl; cases hl
  · have : (List.range m).countP (fun i => !(Array.replicate l.toArray.size false).getD i true) ≤ m := Nat.le_trans List.countP_le_length (by simp)
    simp at this ⊢; omega
end
section
variable {P : Program} {Q : Exit → Act → World → Prop} {l : List Oper} {a0 : Act} {w : World}
theorem region_CM {id : Nat} (m : Nat) (ch : List Nat) (KP : World → Prop) {ms mc : List Bool} {rl cl : List Oper} (hpk : Pick l ms rl) (hpc : Pick l mc cl) (hm : P.follows .mixedOrders = true) (hml : m ≤ l.length)
    (hrl : (((List.range m).filter fun i => !ch.contains i).filterMap fun i => l[i]?) = rl) (hcl : (ch.filterMap fun i => l[i]?) = cl)
    (chk : viaChkC l m a0.tmps.size ch = true) (hgd : guardsIn l m = true) (hon : onceC l m = true) (hch : chChk l m ch = true) (hcb : chanB l m ch = true) (hmv : movB l m ch = true)
    (hk : ∀ W W', KP W → Link W W' → KP W') (h0 : KP w)
    (H : ∃ aE, (∀ W0, KP W0 → ∀ G : Grow0 W0, wpQuiet P l.toArray (fun w' => ∃ g : Grow W0 G, w' = g.W) (fun a' => a' = aE) rl a0) ∧
      wpCh P l.toArray (fun _ => True) (fun a' W' => wpList P l.toArray Q (l.drop m) a' W') cl aE w) :
    (Code.region id l.toArray true).wp P Q a0 w := by
  subst hrl
  subst hcl
  exact region_cm m ch KP hm hml chk hgd hon hch hcb hmv (fun W W' h hb => hk W W' h ⟨hb⟩) h0 H
end
end Go.Proofs.Ytbeeecahkchjnaa
/- Contracts: the program's IncidenceRank. -- tables -/
namespace Go.Proofs.Ytbeeecahkchjnaa
open Go.RowKit
set_option linter.unusedVariables false
set_option linter.unusedSimpArgs false
def inc (p : Int) (all : List Pt) : Nat → Nat → Int := fun i j => if onB p (all.getD j (0, 0, 0)) (all.getD i (0, 0, 0)) then 1 else 0
theorem isOn_b {p : Int} {a b : Pt} {v : Bool} (w : World) (hv : onB p a b = v) (hp : prB p = true) (ha : In13 a) (hb : In13 b) : Calls Try.prog 38 #[.int .i64 p, pV a, pV b] w (Ret w (.bool v)) := by rw [← hv]; exact isOn_P w hp ha hb
/-- The first m of a row of bits; 0 behind. -/
def half (f : Nat → Bool) (m : Nat) : Nat → Int := fun j => if j < m ∧ f j = true then 1 else 0
theorem half_0 (f : Nat → Bool) (j : Nat) : 0 = half f 0 j := by simp [half]
theorem half_no {f : Nat → Bool} {m : Nat} (h : f m = false) (j : Nat) : half f m j = half f (m + 1) j := by
  unfold half
  by_cases e : j = m
  · subst e; simp [h]
  · have : (j < m + 1) = (j < m) := by apply propext; omega
    simp only [this]
theorem half_yes {f : Nat → Bool} {m : Nat} (h : f m = true) (j : Nat) : (if j = m then 1 else half f m j) = half f (m + 1) j := by
  unfold half
  by_cases e : j = m
  · subst e; simp [h]
  · have : (j < m + 1) = (j < m) := by apply propext; omega
    simp only [this, if_neg e]
set_option pp.deepTerms false
set_option pp.deepTerms.threshold 8
set_option maxRecDepth 20000 in
set_option maxHeartbeats 8000000 in
theorem IncidenceRank_impl_yes (n N : Nat) (q : Int) (all : List Pt) (w : World) (hp : prB (n : Int) = true) (hq : prB q = true) (hA : allP n = all) (hN : all.length = N) (hN1 : N ≤ 200) (hN3 : 3 ≤ N) (hin : ∀ a ∈ all, In13 a) (r : Nat) (hr : (elim q N (inc (n : Int) all) N).1 = r) :
    Calls Try.prog 18 #[.int .i64 (n : Int), .int .i64 q] w (Ret w (.tuple #[.int .i64 (r : Int), .int .i64 0])) := by
  obtain ⟨b1, b2⟩ := prB_bd hp
  obtain ⟨c1, c2⟩ := prB_bd hq
  have hn13 : n ≤ 13 := by omega
  have hNp : 0 < all.length := by omega
  have HA := Lib.hid hA
  have HIN := Lib.hid (fun k (hk : k < N) => hin (all.getD k (0, 0, 0)) (by rw [List.getD_eq_getElem?_getD, List.getElem?_eq_getElem (by omega)]; exact List.getElem_mem _))
  have HR := Lib.hid hr
  clear hA hin hr
  go_enter Try.func18, Try.ntmps18
  go_wp2_with (first | (refine wl_loadC ?_) | (refine wl_load ?_) | (refine wl_storeC ?_) | (refine wl_store ?_) | (refine wl_build ?_) | (refine wl_slice ?_) | (refine wl_make ?_; intro gr W' hgr hl hR; have hs := hl.out.size; (try simp at hs)) | (refine wl_append (he := eltSl) ?_; intro v' w' ho hg hb; have hs := hg.size; (try simp at hs)) | (refine wl_append ?_; intro v' w' ho hg hb; have hs := hg.size; (try simp at hs); (try rw [ptCs_end] at ho); (try rw [ints_end] at ho); (try simp only [Nat.zero_add, Nat.reduceAdd, List.nil_append, List.cons_append] at ho)) | (go_at_call 36; (with_reducible refine (isPrime_yes _ _ (by assumption)).mono ?_); rintro e w' ⟨rfl, rfl⟩) | (go_at_call 37; (with_reducible refine (allPoints_any n _ ⟨by omega, by omega⟩).mono ?_); rintro e w' ⟨v, rfl, ho, hb⟩; rw [HA.out] at ho; obtain ⟨gp, cp, rfl, hg0, hg1, hpt⟩ := ownPts ho rfl hNp; (simp only [hN] at hpt ⊢); have hPK := PtsK.mk hpt; have hl := Link.mk hb; have hs := hb.size; (try simp at hs); clear hb ho hpt) | ((with_reducible apply region_gd (id := 34)); refine region_QA (id := 34) 16 ?_; apply Exists.intro; refine ⟨fun G => ?_, fun W hl => ?_⟩; (· (simp only [List.take_succ_cons, List.take_zero]; (repeat (first | go_big_quiet_skip | (go_big_quiet_want; first | (refine q_loadC ?_; simp only [Act.put, List.setIfInBounds_toArray, List.set_cons_zero, List.set_cons_succ]; go_big_quiet_on) | (refine q_load ?_; simp only [Act.put, List.setIfInBounds_toArray, List.set_cons_zero, List.set_cons_succ]; go_big_quiet_on) | (go_big_quiet_op; first | go_big_quiet_on)))); exact rfl)); have hs := hl.out.size; (try simp at hs); simp only [List.drop_succ_cons, List.drop_zero]))
  obtain ⟨B, hB⟩ : ∃ B, w'.heap.size = B := ⟨_, rfl⟩
  have hB1 := Nat.le_of_eq hB
  have hB2 := Nat.le_of_eq hB.symm
  clear hB
  have hO0 : OwnK (w'.alloc (.cells #[] 24)) B 24 1 (.slice (some ⟨w'.heap.size, 0, none⟩) 0 0) 0 (rowVs N (fun _ => (0, 0)) 0) := OwnK.empty findRow (by omega)
  go_loopw [7, 35] (fun v i wr => ∃ (k : Nat) (gs : Nat → Nat × Nat), k ≤ N ∧ i = .int .i64 (k : Int) ∧ OwnK wr B 24 1 v k (rowVs N gs k) ∧ RowsK wr B k N gs (inc (n : Int) all) ∧ LowK w wr ∧ PtsK wr gp 0 N all ∧ B ≤ wr.heap.size) (fun _ i wr => N - (intOf i).toNat)
  case atStart => exact ⟨0, _, Nat.zero_le _, rfl, hO0, RowsK.nil _ _ _ _ _, findLow, findPts, (by simp; omega)⟩
  case round =>
    clear hO0 hPK hl hs
    obtain ⟨k, gs, hk, rfl, hO, hRows, hV, hPt, hsz⟩ := hrel
    by_cases hlt : k < N
--[P1
    · obtain ⟨a, ha⟩ : ∃ a, all.getD k (0, 0, 0) = a := ⟨_, rfl⟩
      have hia : In13 a := by rw [← ha]; exact HIN.out k hlt
      go_wp2_with (first | (refine wl_loadC ?_) | (refine wl_load ?_) | (refine wl_storeC ?_) | (refine wl_store ?_) | (refine wl_build ?_) | (refine wl_slice ?_) | (refine wl_make ?_; intro gr W' hgr hl hR; have hs := hl.out.size; (try simp at hs)) | (refine wl_append (he := eltSl) ?_; intro v' w' ho hg hb; have hs := hg.size; (try simp at hs)) | (refine wl_append ?_; intro v' w' ho hg hb; have hs := hg.size; (try simp at hs); (try rw [ptCs_end] at ho); (try rw [ints_end] at ho); (try simp only [Nat.zero_add, Nat.reduceAdd, List.nil_append, List.cons_append] at ho)) | ((with_reducible apply region_gd (id := 34)); refine region_QA (id := 34) 16 ?_; apply Exists.intro; refine ⟨fun G => ?_, fun W hl => ?_⟩; (· (simp only [List.take_succ_cons, List.take_zero]; (repeat (first | go_big_quiet_skip | (go_big_quiet_want; first | (refine q_loadC ?_; simp only [Act.put, List.setIfInBounds_toArray, List.set_cons_zero, List.set_cons_succ]; go_big_quiet_on) | (refine q_load ?_; simp only [Act.put, List.setIfInBounds_toArray, List.set_cons_zero, List.set_cons_succ]; go_big_quiet_on) | (go_big_quiet_op; first | go_big_quiet_on)))); exact rfl)); have hs := hl.out.size; (try simp at hs); simp only [List.drop_succ_cons, List.drop_zero]))
      simp at hgr
      have hF0 : RowF W' gr N N (half (fun j => onB (n : Int) (all.getD j (0, 0, 0)) a) 0) := hR.congr (fun j _ => half_0 _ j)
      go_loopw [44] (fun j wi => ∃ m : Nat, m ≤ N ∧ j = .int .i64 (m : Int) ∧ LowK wr wi ∧ RowF wi gr N N (half (fun j => onB (n : Int) (all.getD j (0, 0, 0)) a) m) ∧ RowK wi wr.heap.size (pC a) 61) (fun j wi => N - (intOf j).toNat)
      case atStart => exact ⟨0, Nat.zero_le _, rfl, findLow, hF0, findRow⟩
      case round =>
        clear hF0 hR hl hs
        obtain ⟨m, hm, rfl, hVi, hF, hBox⟩ := hrel
        have hPi := PtsK.link (LowK.lnk hVi) hPt
        have hszi := hVi.size
        have hlf := hF.lt
        have hlb := hBox.lt
        by_cases hlm : m < N
        · obtain ⟨b, hb⟩ : ∃ b, all.getD m (0, 0, 0) = b := ⟨_, rfl⟩
          have hib : In13 b := by rw [← hb]; exact HIN.out m hlm
          have hst := hF.st hlm
          rcases hv : onB (n : Int) b a with _ | _
          · go_wp2_with (first | (refine wl_loadC ?_) | (refine wl_load ?_) | (refine wl_storeC ?_) | (refine wl_store ?_) | (refine wl_build ?_) | (refine wl_slice ?_) | (refine wl_make ?_; intro gr W' hgr hl hR; have hs := hl.out.size; (try simp at hs)) | (refine wl_append (he := eltSl) ?_; intro v' w' ho hg hb; have hs := hg.size; (try simp at hs)) | (refine wl_append ?_; intro v' w' ho hg hb; have hs := hg.size; (try simp at hs); (try rw [ptCs_end] at ho); (try rw [ints_end] at ho); (try simp only [Nat.zero_add, Nat.reduceAdd, List.nil_append, List.cons_append] at ho)) | (go_at_call 38; (with_reducible refine (isOn_b _ hv hp hib hia).mono ?_); rintro e w' ⟨rfl, hb⟩; have hl := Link.mk hb; have hs := hb.size; (try simp at hs); clear hb) | ((with_reducible apply region_gd (id := 34)); refine region_QA (id := 34) 16 ?_; apply Exists.intro; refine ⟨fun G => ?_, fun W hl => ?_⟩; (· (simp only [List.take_succ_cons, List.take_zero]; (repeat (first | go_big_quiet_skip | (go_big_quiet_want; first | (refine q_loadC ?_; simp only [Act.put, List.setIfInBounds_toArray, List.set_cons_zero, List.set_cons_succ]; go_big_quiet_on) | (refine q_load ?_; simp only [Act.put, List.setIfInBounds_toArray, List.set_cons_zero, List.set_cons_succ]; go_big_quiet_on) | (go_big_quiet_op; first | go_big_quiet_on | (apply Exists.intro; refine ⟨fun g => ?_, ?_⟩; (· (have hl := growL g; first | (go_at_call 38; with_reducible exact grow_ret (isOn_b _ hv hp hib hia)))); go_big_quiet_on))))); exact rfl)); have hs := hl.out.size; (try simp at hs); simp only [List.drop_succ_cons, List.drop_zero]))
            go_roundw
            case rel => exact ⟨m + 1, by omega, by go_num, findLow, (hF.link (LowK.lnk findLow)).congr (fun j _ => half_no (by rw [hb, hv]) j), findRow⟩
            case measure => (simp [intOf]; try omega)
          · go_wp2_with (first | (refine wl_loadC ?_) | (refine wl_load ?_) | (refine wl_storeC ?_) | (refine wl_store ?_) | (refine wl_build ?_) | (refine wl_slice ?_) | (refine wl_make ?_; intro gr W' hgr hl hR; have hs := hl.out.size; (try simp at hs)) | (refine wl_append (he := eltSl) ?_; intro v' w' ho hg hb; have hs := hg.size; (try simp at hs)) | (refine wl_append ?_; intro v' w' ho hg hb; have hs := hg.size; (try simp at hs); (try rw [ptCs_end] at ho); (try rw [ints_end] at ho); (try simp only [Nat.zero_add, Nat.reduceAdd, List.nil_append, List.cons_append] at ho)) | (go_at_call 38; (with_reducible refine (isOn_b _ hv hp hib hia).mono ?_); rintro e w' ⟨rfl, hb⟩; have hl := Link.mk hb; have hs := hb.size; (try simp at hs); clear hb) | ((with_reducible apply region_gd (id := 34)); refine region_QA (id := 34) 16 ?_; apply Exists.intro; refine ⟨fun G => ?_, fun W hl => ?_⟩; (· (simp only [List.take_succ_cons, List.take_zero]; (repeat (first | go_big_quiet_skip | (go_big_quiet_want; first | (refine q_loadC ?_; simp only [Act.put, List.setIfInBounds_toArray, List.set_cons_zero, List.set_cons_succ]; go_big_quiet_on) | (refine q_load ?_; simp only [Act.put, List.setIfInBounds_toArray, List.set_cons_zero, List.set_cons_succ]; go_big_quiet_on) | (go_big_quiet_op; first | go_big_quiet_on | (apply Exists.intro; refine ⟨fun g => ?_, ?_⟩; (· (have hl := growL g; first | (go_at_call 38; with_reducible exact grow_ret (isOn_b _ hv hp hib hia)))); go_big_quiet_on))))); exact rfl)); have hs := hl.out.size; (try simp at hs); simp only [List.drop_succ_cons, List.drop_zero]))
            go_roundw
            case rel => exact ⟨m + 1, by omega, by go_num, LowK.setCell (by omega) _ _ findLow, ((hF.link (LowK.lnk findLow)).set hlm 1).congr (fun j _ => half_yes (by rw [hb, hv]) j), RowK.setCell findRow (by omega) _ _⟩
            case measure => (simp [intOf]; try omega)
        · obtain rfl : N = m := by omega
          have hOi := OwnK.link (LowK.lnk hVi) hO
          have hVw := LowK.link (LowK.lnk hVi) hV
          go_wp2_with (first | (refine wl_loadC ?_) | (refine wl_load ?_) | (refine wl_storeC ?_) | (refine wl_store ?_) | (refine wl_build ?_) | (refine wl_slice ?_) | (refine wl_make ?_; intro gr W' hgr hl hR; have hs := hl.out.size; (try simp at hs)) | (refine wl_append (he := eltSl) ?_; intro v' w' ho hg hb; have hs := hg.size; (try simp at hs)) | (refine wl_append ?_; intro v' w' ho hg hb; have hs := hg.size; (try simp at hs); (try rw [ptCs_end] at ho); (try rw [ints_end] at ho); (try simp only [Nat.zero_add, Nat.reduceAdd, List.nil_append, List.cons_append] at ho)) | ((with_reducible apply region_gd (id := 34)); refine region_QA (id := 34) 16 ?_; apply Exists.intro; refine ⟨fun G => ?_, fun W hl => ?_⟩; (· (simp only [List.take_succ_cons, List.take_zero]; (repeat (first | go_big_quiet_skip | (go_big_quiet_want; first | (refine q_loadC ?_; simp only [Act.put, List.setIfInBounds_toArray, List.set_cons_zero, List.set_cons_succ]; go_big_quiet_on) | (refine q_load ?_; simp only [Act.put, List.setIfInBounds_toArray, List.set_cons_zero, List.set_cons_succ]; go_big_quiet_on) | (go_big_quiet_op; first | go_big_quiet_on)))); exact rfl)); have hs := hl.out.size; (try simp at hs); simp only [List.drop_succ_cons, List.drop_zero]))
          go_roundw
          case rel =>
            have hR0 := RowsK.link (LowK.lnk hVi) hRows
            have hR1 := RowsK.grewO hg hOi hR0
            have hF2 := RowF.grewO hg hOi hF
            have hne : ∀ i, i < k → (gs i).1 ≠ gr := fun i hi => by
              have := (hRows.row i hi).lt
              omega
            have hl : LowK w w' := findLow
            have hp2 : PtsK w' gp 0 N all := findPts
            exact ⟨k + 1, fun i => if i = k then (gr, N) else gs i, by omega, by go_num, (rowVs_snoc N gs k (gr, N)) ▸ ho, hR1.snoc hF2 (by omega) hne (fun l hl => by unfold half inc; rw [ha]; simp [hl]), hl, hp2, by omega⟩
          case measure => (simp [intOf]; try omega)
--P1]
    · obtain rfl : N = k := by omega
      obtain ⟨g0, cap0, rfl, hgB, hH⟩ := OwnK.hd hO (by omega)
      clear hO hPt
      go_wp2_with (first | (refine wl_loadC ?_) | (refine wl_load ?_) | (refine wl_storeC ?_) | (refine wl_store ?_) | (refine wl_build ?_) | (refine wl_slice ?_) | (refine wl_make ?_; intro gr W' hgr hl hR; have hs := hl.out.size; (try simp at hs)) | (refine wl_append (he := eltSl) ?_; intro v' w' ho hg hb; have hs := hg.size; (try simp at hs)) | (refine wl_append ?_; intro v' w' ho hg hb; have hs := hg.size; (try simp at hs); (try rw [ptCs_end] at ho); (try rw [ints_end] at ho); (try simp only [Nat.zero_add, Nat.reduceAdd, List.nil_append, List.cons_append] at ho)) | ((with_reducible apply region_gd (id := 34)); refine region_QA (id := 34) 16 ?_; apply Exists.intro; refine ⟨fun G => ?_, fun W hl => ?_⟩; (· (simp only [List.take_succ_cons, List.take_zero]; (repeat (first | go_big_quiet_skip | (go_big_quiet_want; first | (refine q_loadC ?_; simp only [Act.put, List.setIfInBounds_toArray, List.set_cons_zero, List.set_cons_succ]; go_big_quiet_on) | (refine q_load ?_; simp only [Act.put, List.setIfInBounds_toArray, List.set_cons_zero, List.set_cons_succ]; go_big_quiet_on) | (go_big_quiet_op; first | go_big_quiet_on)))); exact rfl)); have hs := hl.out.size; (try simp at hs); simp only [List.drop_succ_cons, List.drop_zero]))
      obtain ⟨M0, hM0⟩ : ∃ M0, inc (n : Int) all = M0 := ⟨_, rfl⟩
      have HBD : Hid (∀ c, Bd q (elim q N M0 c).2) := Lib.hid (fun c => elim_bd (by omega) (by rw [← hM0]; intro i j; unfold inc; split <;> omega) c)
      rw [hM0] at hRows HR
      go_loopw [8, 64] (fun rk cc wr => ∃ (c : Nat) (gs : Nat → Nat × Nat), c ≤ N ∧ cc = .int .i64 (c : Int) ∧ rk = .int .i64 ((elim q N M0 c).1 : Int) ∧ HdK wr g0 cap0 N gs ∧ RowsK wr B N N gs (elim q N M0 c).2 ∧ LowK w wr) (fun _ cc wr => N - (intOf cc).toNat)
      case atStart => exact ⟨0, gs, Nat.zero_le _, rfl, rfl, hH, hRows, hV⟩
      case round =>
        clear hH hRows hV
        obtain ⟨c, gs, hc, rfl, rfl, hH, hRows, hV⟩ := hrel
        have hBd := HBD.out c
        have hrk := elim_le q N M0 c
        obtain ⟨s, hs⟩ : ∃ s, elim q N M0 c = s := ⟨_, rfl⟩
        obtain ⟨rk, M⟩ := s
        rw [hs] at hRows hBd hrk ⊢
        have HS := Lib.hid hs
        clear hs
        dsimp only at hRows hBd hrk ⊢
        by_cases hlc : c < N
        · go_wp2_with (first | (refine wl_loadC ?_) | (refine wl_load ?_) | (refine wl_storeC ?_) | (refine wl_store ?_) | (refine wl_build ?_) | (refine wl_slice ?_) | (refine wl_make ?_; intro gr W' hgr hl hR; have hs := hl.out.size; (try simp at hs)) | (refine wl_append (he := eltSl) ?_; intro v' w' ho hg hb; have hs := hg.size; (try simp at hs)) | (refine wl_append ?_; intro v' w' ho hg hb; have hs := hg.size; (try simp at hs); (try rw [ptCs_end] at ho); (try rw [ints_end] at ho); (try simp only [Nat.zero_add, Nat.reduceAdd, List.nil_append, List.cons_append] at ho)) | ((with_reducible apply region_gd (id := 34)); refine region_QA (id := 34) 16 ?_; apply Exists.intro; refine ⟨fun G => ?_, fun W hl => ?_⟩; (· (simp only [List.take_succ_cons, List.take_zero]; (repeat (first | go_big_quiet_skip | (go_big_quiet_want; first | (refine q_loadC ?_; simp only [Act.put, List.setIfInBounds_toArray, List.set_cons_zero, List.set_cons_succ]; go_big_quiet_on) | (refine q_load ?_; simp only [Act.put, List.setIfInBounds_toArray, List.set_cons_zero, List.set_cons_succ]; go_big_quiet_on) | (go_big_quiet_op; first | go_big_quiet_on)))); exact rfl)); have hs := hl.out.size; (try simp at hs); simp only [List.drop_succ_cons, List.drop_zero]))
          obtain ⟨P, hP⟩ : ∃ P, piv M c N rk = P := ⟨_, rfl⟩
          go_loopw [15] (fun fv wi => ∃ f : Nat, rk ≤ f ∧ f ≤ N ∧ fv = .int .i64 (f : Int) ∧ piv M c N f = P ∧ wi = wr) (fun fv _ => N - (intOf fv).toNat)
          case atStart => exact ⟨rk, Nat.le_refl _, by omega, rfl, hP, rfl⟩
          case round =>
            obtain ⟨f, hf, hfN, rfl, hfP, rfl⟩ := hrel
            by_cases hlf : f < N
            · have x1 := hH.at_ f hlf
              have x2 := (hRows.row f hlf).at_ c hlc
              have x3 := hH.lt
              have x4 := (hRows.row f hlf).lt
              obtain ⟨gf, hgf⟩ : ∃ gf, gs f = gf := ⟨_, rfl⟩
              rw [hgf] at x1 x2 x4
              obtain ⟨x, hx⟩ : ∃ x, M f c = x := ⟨_, rfl⟩
              rw [hx] at x2
              by_cases hz : x = 0
              · go_wp2_with (first | (refine wl_loadC ?_) | (refine wl_load ?_) | (refine wl_storeC ?_) | (refine wl_store ?_) | (refine wl_build ?_) | (refine wl_slice ?_) | (refine wl_make ?_; intro gr W' hgr hl hR; have hs := hl.out.size; (try simp at hs)) | (refine wl_append (he := eltSl) ?_; intro v' w' ho hg hb; have hs := hg.size; (try simp at hs)) | (refine wl_append ?_; intro v' w' ho hg hb; have hs := hg.size; (try simp at hs); (try rw [ptCs_end] at ho); (try rw [ints_end] at ho); (try simp only [Nat.zero_add, Nat.reduceAdd, List.nil_append, List.cons_append] at ho)) | ((with_reducible apply region_gd (id := 34)); refine region_QA (id := 34) 16 ?_; apply Exists.intro; refine ⟨fun G => ?_, fun W hl => ?_⟩; (· (simp only [List.take_succ_cons, List.take_zero]; (repeat (first | go_big_quiet_skip | (go_big_quiet_want; first | (refine q_loadC ?_; simp only [Act.put, List.setIfInBounds_toArray, List.set_cons_zero, List.set_cons_succ]; go_big_quiet_on) | (refine q_load ?_; simp only [Act.put, List.setIfInBounds_toArray, List.set_cons_zero, List.set_cons_succ]; go_big_quiet_on) | (go_big_quiet_op; first | go_big_quiet_on)))); exact rfl)); have hs := hl.out.size; (try simp at hs); simp only [List.drop_succ_cons, List.drop_zero]))
                go_roundw
                case rel => exact ⟨f + 1, by omega, by omega, by go_num, by rw [← piv_step hlf (hx.trans hz)]; exact hfP, (by trivial)⟩
                case measure => (simp [intOf]; try omega)
              · go_wp2_with (first | (refine wl_loadC ?_) | (refine wl_load ?_) | (refine wl_storeC ?_) | (refine wl_store ?_) | (refine wl_build ?_) | (refine wl_slice ?_) | (refine wl_make ?_; intro gr W' hgr hl hR; have hs := hl.out.size; (try simp at hs)) | (refine wl_append (he := eltSl) ?_; intro v' w' ho hg hb; have hs := hg.size; (try simp at hs)) | (refine wl_append ?_; intro v' w' ho hg hb; have hs := hg.size; (try simp at hs); (try rw [ptCs_end] at ho); (try rw [ints_end] at ho); (try simp only [Nat.zero_add, Nat.reduceAdd, List.nil_append, List.cons_append] at ho)) | ((with_reducible apply region_gd (id := 34)); refine region_QA (id := 34) 16 ?_; apply Exists.intro; refine ⟨fun G => ?_, fun W hl => ?_⟩; (· (simp only [List.take_succ_cons, List.take_zero]; (repeat (first | go_big_quiet_skip | (go_big_quiet_want; first | (refine q_loadC ?_; simp only [Act.put, List.setIfInBounds_toArray, List.set_cons_zero, List.set_cons_succ]; go_big_quiet_on) | (refine q_load ?_; simp only [Act.put, List.setIfInBounds_toArray, List.set_cons_zero, List.set_cons_succ]; go_big_quiet_on) | (go_big_quiet_op; first | go_big_quiet_on)))); exact rfl)); have hs := hl.out.size; (try simp at hs); simp only [List.drop_succ_cons, List.drop_zero]))
                have hfP2 : piv M c N rk = f := by rw [hP, ← hfP]; exact piv_stop (fun _ => by rw [hx]; exact hz)
                have e1 : elim q N M0 (c + 1) = (rk + 1, elm q c rk (swp M rk f)) := by
                  show stp q N c (elim q N M0 c) = _
                  rw [HS.out, stp_some (by rw [hfP2]; omega), hfP2]
                have E1 := Lib.hid e1
                have hlr : rk < N := by omega
                have hx0 : 0 < x ∧ x < q := by have := hBd f c; rw [hx] at this; omega
                obtain ⟨gk, hgk⟩ : ∃ gk, gs rk = gk := ⟨_, rfl⟩
                have k1 : CellK wr g0 f (rowV N gf) := ⟨x1⟩
                have k2 : CellK wr g0 rk (rowV N gk) := by rw [← hgk]; exact hH.cell hlr
                have st1 := hH.st hlr
                have hB3 : w.heap.size ≤ g0 := by omega
                clear e1 x1 x2 x3 x4
                refine region_CM (id := 23) 14 [13] (fun W => CellK W g0 f (rowV N gf) ∧ CellK W g0 rk (rowV N gk)) (.k (.k (.k (.k (.k (.k (.k (.k (.k (.k (.k (.k (.k (.d (.d (.d .n)))))))))))))))) (.d (.d (.d (.d (.d (.d (.d (.d (.d (.d (.d (.d (.d (.k (.d (.d .n)))))))))))))))) (by kernel_rfl) (by decide) (by kernel_rfl) (by kernel_rfl) (by kernel_rfl) (by kernel_rfl) (by kernel_rfl) (by kernel_rfl) (by kernel_rfl) (by kernel_rfl) (fun W W' h l => ⟨h.1.link l, h.2.link l⟩) ⟨k1, k2⟩ ?_
                apply Exists.intro
                refine ⟨fun W0 hk G => ?_, ?_⟩
                · obtain ⟨k1, k2⟩ := hk
                  repeat (first | go_big_quiet_skip | (go_big_quiet_want; first | (refine q_loadC ?_; simp only [Act.put, List.setIfInBounds_toArray, List.set_cons_zero, List.set_cons_succ]; go_big_quiet_on) | (refine q_load ?_; simp only [Act.put, List.setIfInBounds_toArray, List.set_cons_zero, List.set_cons_succ]; go_big_quiet_on) | (go_big_quiet_op; first | go_big_quiet_on)))
                  exact rfl
                refine ch_step fun W1 hl1 => ?_
                have hs1 := hl1.out.size
                go_wp2_with (first | (refine wl_loadC ?_) | (refine wl_load ?_) | (refine wl_storeC ?_) | (refine wl_store ?_) | (refine wl_build ?_) | (refine wl_slice ?_) | (refine wl_make ?_; intro gr W' hgr hl hR; have hs := hl.out.size; (try simp at hs)) | (refine wl_append (he := eltSl) ?_; intro v' w' ho hg hb; have hs := hg.size; (try simp at hs)) | (refine wl_append ?_; intro v' w' ho hg hb; have hs := hg.size; (try simp at hs); (try rw [ptCs_end] at ho); (try rw [ints_end] at ho); (try simp only [Nat.zero_add, Nat.reduceAdd, List.nil_append, List.cons_append] at ho)) | ((with_reducible apply region_gd (id := 34)); refine region_QA (id := 34) 16 ?_; apply Exists.intro; refine ⟨fun G => ?_, fun W hl => ?_⟩; (· (simp only [List.take_succ_cons, List.take_zero]; (repeat (first | go_big_quiet_skip | (go_big_quiet_want; first | (refine q_loadC ?_; simp only [Act.put, List.setIfInBounds_toArray, List.set_cons_zero, List.set_cons_succ]; go_big_quiet_on) | (refine q_load ?_; simp only [Act.put, List.setIfInBounds_toArray, List.set_cons_zero, List.set_cons_succ]; go_big_quiet_on) | (go_big_quiet_op; first | go_big_quiet_on)))); exact rfl)); have hs := hl.out.size; (try simp at hs); simp only [List.drop_succ_cons, List.drop_zero]))
                refine ⟨rfl, ⟨undef, rfl⟩, trivial, ?_⟩
                refine ch_nil fun W2 hl2 => ?_
                (try simp only [List.drop_succ_cons, List.drop_zero])
                have hH1 := HdK.link hl2 ((hH.link hl1).set hlr gf)
                have st2 := hH1.st hlf
                have hH2 : HdK (W2.setCell ⟨g0, f, none⟩ (rowV N gk)) g0 cap0 N (swp gs rk f) := (hH1.set hlf gk).congr (fun i _ => by unfold swp; rw [hgf, hgk]; by_cases e : i = f <;> by_cases e2 : i = rk <;> simp_all)
                have hne : ∀ i, i < N → (gs i).1 ≠ g0 := fun i hi => hH.ne hRows hi
                have hR2 : RowsK (W2.setCell ⟨g0, f, none⟩ (rowV N gk)) B N N (swp gs rk f) (swp M rk f) := ((RowsK.link hl2 ((RowsK.link hl1 hRows).other hne _ _)).other hne _ _).swap hlr hlf
                have hV2 : LowK w (W2.setCell ⟨g0, f, none⟩ (rowV N gk)) := LowK.setCell hB3 _ _ (LowK.link hl2 (LowK.setCell hB3 _ _ (LowK.link hl1 hV)))
                have eg : swp gs rk f rk = gf := by unfold swp; rw [if_pos rfl, hgf]
                have k3 := hH2.cell hlr
                have k4 := (hR2.row rk hlr).cell hlc
                rw [eg] at k3 k4
                have ex : swp M rk f rk c = x := by unfold swp; rw [if_pos rfl, hx]
                rw [ex] at k4
                go_wp2_with (with_reducible refine hold (p := wpList _ _ _ ({ dst := none, op := .store _ _ _, type := _, pos := _, after := _, guard := _ } :: _) _ _) ?_)
                unfold Hold
                refine wl_storeC (v := rowV N gk) ?_
                obtain ⟨v, hv⟩ : ∃ v, invP q x = v := ⟨_, rfl⟩
                have hvb : 1 ≤ v ∧ v < q := by
                  have := invP_spec hq hx0.1 hx0.2
                  rw [hv] at this
                  exact ⟨this.1, this.2.1⟩
                have hle := hH.le
                have hBd2 : Bd q (swp M rk f) := swp_bd hBd
                obtain ⟨Bm, hBm⟩ : ∃ Bm, swp M rk f = Bm := ⟨_, rfl⟩
                obtain ⟨gs2, hg2⟩ : ∃ gs2, swp gs rk f = gs2 := ⟨_, rfl⟩
                rw [hBm] at E1 hR2 hBd2 ex
                rw [hg2] at hH2 hR2 eg
                clear k1 k2 st1 st2 hH1 hH hRows hV hl1 hl2 hBm hg2 hne hfP2 hP hfP hs1
                generalize W2.setCell ⟨g0, f, none⟩ (rowV N gk) = W3 at *
                by_cases hlast : rk + 1 < N
                · have hcap : ¬ cap0 = rk + 1 := by omega
                  go_wp2_with (first | (refine wl_loadC ?_) | (refine wl_load ?_) | (refine wl_storeC ?_) | (refine wl_store ?_) | (refine wl_build ?_) | (refine wl_slice ?_) | (refine wl_make ?_; intro gr W' hgr hl hR; have hs := hl.out.size; (try simp at hs)) | (refine wl_append (he := eltSl) ?_; intro v' w' ho hg hb; have hs := hg.size; (try simp at hs)) | (refine wl_append ?_; intro v' w' ho hg hb; have hs := hg.size; (try simp at hs); (try rw [ptCs_end] at ho); (try rw [ints_end] at ho); (try simp only [Nat.zero_add, Nat.reduceAdd, List.nil_append, List.cons_append] at ho)) | (go_at_call 39; (with_reducible refine (inverse_any x q _ hq hx0.1 hx0.2).mono ?_); rintro e w' ⟨rfl, rfl⟩; rw [hv]) | ((with_reducible apply region_gd (id := 34)); refine region_QA (id := 34) 16 ?_; apply Exists.intro; refine ⟨fun G => ?_, fun W hl => ?_⟩; (· (simp only [List.take_succ_cons, List.take_zero]; (repeat (first | go_big_quiet_skip | (go_big_quiet_want; first | (refine q_loadC ?_; simp only [Act.put, List.setIfInBounds_toArray, List.set_cons_zero, List.set_cons_succ]; go_big_quiet_on) | (refine q_load ?_; simp only [Act.put, List.setIfInBounds_toArray, List.set_cons_zero, List.set_cons_succ]; go_big_quiet_on) | (go_big_quiet_op; first | go_big_quiet_on)))); exact rfl)); have hs := hl.out.size; (try simp at hs); simp only [List.drop_succ_cons, List.drop_zero]))
                  clear k3 k4
                  go_loopw [117] (fun jv wi => ∃ j : Nat, j ≤ N - (rk + 1) ∧ jv = .int .i64 (j : Int) ∧ HdK wi g0 cap0 N gs2 ∧ RowsK wi B N N gs2 (mix (rk + 1 + j) 0 (elm q c rk Bm) Bm) ∧ LowK w wi) (fun jv _ => N - (intOf jv).toNat)
                  case atStart => exact ⟨0, Nat.zero_le _, rfl, hH2, by rw [Nat.add_zero, mix_first]; exact hR2, hV2⟩
                  case round =>
                    clear hH2 hR2 hV2
                    obtain ⟨j, hj, rfl, hH3, hR3, hV3⟩ := hrel
                    by_cases hlj : j < N - (rk + 1)
                    · obtain ⟨i, hi⟩ : ∃ i, rk + 1 + j = i := ⟨_, rfl⟩
                      have hiN : i < N := by omega
                      have k5 := hH3.cell hiN
                      rw [hi] at hR3
                      have k6 := (hR3.row i hiN).cell hlc
                      obtain ⟨gi, hgi⟩ : ∃ gi, gs2 i = gi := ⟨_, rfl⟩
                      rw [hgi] at k5 k6
                      rw [mix_at (Nat.zero_le _)] at k6
                      obtain ⟨y, hy⟩ : ∃ y, Bm i c = y := ⟨_, rfl⟩
                      rw [hy] at k6
                      have hyb : 0 ≤ y ∧ y < q := by have := hBd2 i c; rw [hy] at this; exact this
                      by_cases hy0 : y = 0
                      · go_wp2_with (first | (refine wl_loadC ?_) | (refine wl_load ?_) | (refine wl_storeC ?_) | (refine wl_store ?_) | (refine wl_build ?_) | (refine wl_slice ?_) | (refine wl_make ?_; intro gr W' hgr hl hR; have hs := hl.out.size; (try simp at hs)) | (refine wl_append (he := eltSl) ?_; intro v' w' ho hg hb; have hs := hg.size; (try simp at hs)) | (refine wl_append ?_; intro v' w' ho hg hb; have hs := hg.size; (try simp at hs); (try rw [ptCs_end] at ho); (try rw [ints_end] at ho); (try simp only [Nat.zero_add, Nat.reduceAdd, List.nil_append, List.cons_append] at ho)) | ((with_reducible apply region_gd (id := 34)); refine region_QA (id := 34) 16 ?_; apply Exists.intro; refine ⟨fun G => ?_, fun W hl => ?_⟩; (· (simp only [List.take_succ_cons, List.take_zero]; (repeat (first | go_big_quiet_skip | (go_big_quiet_want; first | (refine q_loadC ?_; simp only [Act.put, List.setIfInBounds_toArray, List.set_cons_zero, List.set_cons_succ]; go_big_quiet_on) | (refine q_load ?_; simp only [Act.put, List.setIfInBounds_toArray, List.set_cons_zero, List.set_cons_succ]; go_big_quiet_on) | (go_big_quiet_op; first | go_big_quiet_on)))); exact rfl)); have hs := hl.out.size; (try simp at hs); simp only [List.drop_succ_cons, List.drop_zero]))
                        go_roundw
                        case rel => exact ⟨j + 1, by omega, by go_num, hH3, by rw [← Nat.add_assoc, hi, ← mix_skip (hy.trans hy0)]; exact hR3, hV3⟩
                        case measure => (simp [intOf]; try omega)
                      · have m1 := mul_bd hyb.1 (show y ≤ 13 by omega) (show 0 ≤ v by omega) (show v ≤ 13 by omega)
                        have m2 := Int.tmod_nonneg q m1.1
                        have m3 := Int.tmod_lt_of_pos (y * v) (show 0 < q by omega)
                        have m4 : (y * v).tmod q = (y * v) % q := Int.tmod_eq_emod_of_nonneg m1.1
                        go_wp2_with (first | (refine wl_loadC ?_) | (refine wl_load ?_) | (refine wl_storeC ?_) | (refine wl_store ?_) | (refine wl_build ?_) | (refine wl_slice ?_) | (refine wl_make ?_; intro gr W' hgr hl hR; have hs := hl.out.size; (try simp at hs)) | (refine wl_append (he := eltSl) ?_; intro v' w' ho hg hb; have hs := hg.size; (try simp at hs)) | (refine wl_append ?_; intro v' w' ho hg hb; have hs := hg.size; (try simp at hs); (try rw [ptCs_end] at ho); (try rw [ints_end] at ho); (try simp only [Nat.zero_add, Nat.reduceAdd, List.nil_append, List.cons_append] at ho)) | ((with_reducible apply region_gd (id := 34)); refine region_QA (id := 34) 16 ?_; apply Exists.intro; refine ⟨fun G => ?_, fun W hl => ?_⟩; (· (simp only [List.take_succ_cons, List.take_zero]; (repeat (first | go_big_quiet_skip | (go_big_quiet_want; first | (refine q_loadC ?_; simp only [Act.put, List.setIfInBounds_toArray, List.set_cons_zero, List.set_cons_succ]; go_big_quiet_on) | (refine q_load ?_; simp only [Act.put, List.setIfInBounds_toArray, List.set_cons_zero, List.set_cons_succ]; go_big_quiet_on) | (go_big_quiet_op; first | go_big_quiet_on)))); exact rfl)); have hs := hl.out.size; (try simp at hs); simp only [List.drop_succ_cons, List.drop_zero]))
                        obtain ⟨fct, hfc⟩ : ∃ fct, q - y * v % q = fct := ⟨_, rfl⟩
                        rw [m4] at m2 m3
                        rw [hfc]
                        have hfb : 0 ≤ fct ∧ fct ≤ 13 := by omega
                        have hgi2 := Lib.hid hgi
                        rw [mix_cut] at hR3
                        go_loopw [21] (fun kv wi => ∃ k : Nat, c ≤ k ∧ k ≤ N ∧ kv = .int .i64 (k : Int) ∧ HdK wi g0 cap0 N gs2 ∧ RowsK wi B N N gs2 (mix i k (elm q c rk Bm) Bm) ∧ LowK w wi) (fun kv _ => N - (intOf kv).toNat)
                        case atStart => exact ⟨c, Nat.le_refl _, by omega, rfl, hH3, hR3, hV3⟩
                        case round =>
                          clear hH3 hR3 hV3 k5 k6
                          obtain ⟨k, hkc, hkN, rfl, hH4, hR4, hV4⟩ := hrel
                          by_cases hlk : k < N
                          · have k7 := (hR4.row i hiN).cell hlk
                            have k8 := (hR4.row rk hlr).cell hlk
                            have st3 := (hR4.row i hiN).st hlk
                            rw [hgi, mix_at (Nat.le_refl _)] at k7
                            rw [eg, mix_top (by omega)] at k8
                            rw [hgi] at st3
                            have hab := hBd2 i k
                            have hbb := hBd2 rk k
                            have hval := elm_other (q := q) (c := c) (r := rk) (i := i) (k := k) (B := Bm) (by omega) (by rw [hy]; exact hy0) hkc
                            rw [hy, ex, hv, hfc] at hval
                            have HVal := Lib.hid hval
                            obtain ⟨x1, hx1⟩ : ∃ x1, Bm i k = x1 := ⟨_, rfl⟩
                            obtain ⟨x2, hx2⟩ : ∃ x2, Bm rk k = x2 := ⟨_, rfl⟩
                            rw [hx1] at k7 hab hval
                            rw [hx2] at k8 hbb hval
                            have n1 := mul_bd hfb.1 hfb.2 hbb.1 (show x2 ≤ 13 by omega)
                            have n2 : (x1 + fct * x2).tmod q = (x1 + fct * x2) % q := Int.tmod_eq_emod_of_nonneg (by omega)
                            have hR5 := fun (W : World) (l : Link wr W) => RowsK.set (RowsK.link l hR4) hiN hlk (elm q c rk Bm i k)
                            go_wp2_with (first | (refine wl_loadC ?_) | (refine wl_load ?_) | (refine wl_storeC ?_) | (refine wl_store ?_) | (refine wl_build ?_) | (refine wl_slice ?_) | (refine wl_make ?_; intro gr W' hgr hl hR; have hs := hl.out.size; (try simp at hs)) | (refine wl_append (he := eltSl) ?_; intro v' w' ho hg hb; have hs := hg.size; (try simp at hs)) | (refine wl_append ?_; intro v' w' ho hg hb; have hs := hg.size; (try simp at hs); (try rw [ptCs_end] at ho); (try rw [ints_end] at ho); (try simp only [Nat.zero_add, Nat.reduceAdd, List.nil_append, List.cons_append] at ho)) | ((with_reducible apply region_gd (id := 34)); refine region_QA (id := 34) 16 ?_; apply Exists.intro; refine ⟨fun G => ?_, fun W hl => ?_⟩; (· (simp only [List.take_succ_cons, List.take_zero]; (repeat (first | go_big_quiet_skip | (go_big_quiet_want; first | (refine q_loadC ?_; simp only [Act.put, List.setIfInBounds_toArray, List.set_cons_zero, List.set_cons_succ]; go_big_quiet_on) | (refine q_load ?_; simp only [Act.put, List.setIfInBounds_toArray, List.set_cons_zero, List.set_cons_succ]; go_big_quiet_on) | (go_big_quiet_op; first | go_big_quiet_on)))); exact rfl)); have hs := hl.out.size; (try simp at hs); simp only [List.drop_succ_cons, List.drop_zero]))
                            have hl' := hl
                            (try rw [hval])
                            have hR6 := hR5 W hl'
                            rw [hgi] at hR6
                            have hH6 := (HdK.link hl' hH4).other (hH4.ne hR4 hiN).symm k (.int .i64 (elm q c rk Bm i k))
                            rw [hgi] at hH6
                            have hlow : w.heap.size ≤ gi.1 := by have := hR4.low i hiN; rw [hgi] at this; omega
                            go_roundw
                            case rel => exact ⟨k + 1, by omega, by omega, by go_num, hH6, by rw [← mix_set]; exact hR6, LowK.setCell hlow _ _ findLow⟩
                            case measure => (simp [intOf]; try omega)
                          · have hkN2 : N ≤ k := by omega
                            go_wp2_with (first | (refine wl_loadC ?_) | (refine wl_load ?_) | (refine wl_storeC ?_) | (refine wl_store ?_) | (refine wl_build ?_) | (refine wl_slice ?_) | (refine wl_make ?_; intro gr W' hgr hl hR; have hs := hl.out.size; (try simp at hs)) | (refine wl_append (he := eltSl) ?_; intro v' w' ho hg hb; have hs := hg.size; (try simp at hs)) | (refine wl_append ?_; intro v' w' ho hg hb; have hs := hg.size; (try simp at hs); (try rw [ptCs_end] at ho); (try rw [ints_end] at ho); (try simp only [Nat.zero_add, Nat.reduceAdd, List.nil_append, List.cons_append] at ho)) | ((with_reducible apply region_gd (id := 34)); refine region_QA (id := 34) 16 ?_; apply Exists.intro; refine ⟨fun G => ?_, fun W hl => ?_⟩; (· (simp only [List.take_succ_cons, List.take_zero]; (repeat (first | go_big_quiet_skip | (go_big_quiet_want; first | (refine q_loadC ?_; simp only [Act.put, List.setIfInBounds_toArray, List.set_cons_zero, List.set_cons_succ]; go_big_quiet_on) | (refine q_load ?_; simp only [Act.put, List.setIfInBounds_toArray, List.set_cons_zero, List.set_cons_succ]; go_big_quiet_on) | (go_big_quiet_op; first | go_big_quiet_on)))); exact rfl)); have hs := hl.out.size; (try simp at hs); simp only [List.drop_succ_cons, List.drop_zero]))
                            go_roundw
                            case rel => exact ⟨j + 1, by omega, by go_num, hH4, by rw [← Nat.add_assoc, hi]; exact hR4.congr (fun i' l hi' hl => by rw [show k = N by omega]; exact mix_row hl), hV4⟩
                            case measure => (simp [intOf]; try omega)
                    · have hj2 : N - (rk + 1) ≤ j := by omega
                      go_wp2_with (first | (refine wl_loadC ?_) | (refine wl_load ?_) | (refine wl_storeC ?_) | (refine wl_store ?_) | (refine wl_build ?_) | (refine wl_slice ?_) | (refine wl_make ?_; intro gr W' hgr hl hR; have hs := hl.out.size; (try simp at hs)) | (refine wl_append (he := eltSl) ?_; intro v' w' ho hg hb; have hs := hg.size; (try simp at hs)) | (refine wl_append ?_; intro v' w' ho hg hb; have hs := hg.size; (try simp at hs); (try rw [ptCs_end] at ho); (try rw [ints_end] at ho); (try simp only [Nat.zero_add, Nat.reduceAdd, List.nil_append, List.cons_append] at ho)) | ((with_reducible apply region_gd (id := 34)); refine region_QA (id := 34) 16 ?_; apply Exists.intro; refine ⟨fun G => ?_, fun W hl => ?_⟩; (· (simp only [List.take_succ_cons, List.take_zero]; (repeat (first | go_big_quiet_skip | (go_big_quiet_want; first | (refine q_loadC ?_; simp only [Act.put, List.setIfInBounds_toArray, List.set_cons_zero, List.set_cons_succ]; go_big_quiet_on) | (refine q_load ?_; simp only [Act.put, List.setIfInBounds_toArray, List.set_cons_zero, List.set_cons_succ]; go_big_quiet_on) | (go_big_quiet_op; first | go_big_quiet_on)))); exact rfl)); have hs := hl.out.size; (try simp at hs); simp only [List.drop_succ_cons, List.drop_zero]))
                      go_roundw
                      case rel => exact ⟨c + 1, gs2, by omega, by go_num, by rw [E1.out]; go_num, hH3, by rw [E1.out]; exact hR3.congr (fun i' l hi' hl => by rw [show rk + 1 + j = N by omega]; exact mix_end hi'), hV3⟩
                      case measure => (simp [intOf]; try omega)
                · have hNr : N ≤ rk + 1 := by omega
                  have hz0 : ¬ 0 < N - (rk + 1) := by omega
                  go_wp2_with (first | (refine wl_loadC ?_) | (refine wl_load ?_) | (refine wl_storeC ?_) | (refine wl_store ?_) | (refine wl_build ?_) | (refine wl_slice ?_) | (refine wl_make ?_; intro gr W' hgr hl hR; have hs := hl.out.size; (try simp at hs)) | (refine wl_append (he := eltSl) ?_; intro v' w' ho hg hb; have hs := hg.size; (try simp at hs)) | (refine wl_append ?_; intro v' w' ho hg hb; have hs := hg.size; (try simp at hs); (try rw [ptCs_end] at ho); (try rw [ints_end] at ho); (try simp only [Nat.zero_add, Nat.reduceAdd, List.nil_append, List.cons_append] at ho)) | (go_at_call 39; (with_reducible refine (inverse_any x q _ hq hx0.1 hx0.2).mono ?_); rintro e w' ⟨rfl, rfl⟩; rw [hv]) | ((with_reducible apply region_gd (id := 34)); refine region_QA (id := 34) 16 ?_; apply Exists.intro; refine ⟨fun G => ?_, fun W hl => ?_⟩; (· (simp only [List.take_succ_cons, List.take_zero]; (repeat (first | go_big_quiet_skip | (go_big_quiet_want; first | (refine q_loadC ?_; simp only [Act.put, List.setIfInBounds_toArray, List.set_cons_zero, List.set_cons_succ]; go_big_quiet_on) | (refine q_load ?_; simp only [Act.put, List.setIfInBounds_toArray, List.set_cons_zero, List.set_cons_succ]; go_big_quiet_on) | (go_big_quiet_op; first | go_big_quiet_on)))); exact rfl)); have hs := hl.out.size; (try simp at hs); simp only [List.drop_succ_cons, List.drop_zero]))
                  case inl h =>
                    subst h
                    go_loopw [117] (fun jv wi => jv = .int .i64 0 ∧ wi = W3) (fun jv _ => 0)
                    case atStart => exact ⟨rfl, rfl⟩
                    case round =>
                      obtain ⟨rfl, rfl⟩ := hrel
                      go_wp2_with (first | (refine wl_loadC ?_) | (refine wl_load ?_) | (refine wl_storeC ?_) | (refine wl_store ?_) | (refine wl_build ?_) | (refine wl_slice ?_) | (refine wl_make ?_; intro gr W' hgr hl hR; have hs := hl.out.size; (try simp at hs)) | (refine wl_append (he := eltSl) ?_; intro v' w' ho hg hb; have hs := hg.size; (try simp at hs)) | (refine wl_append ?_; intro v' w' ho hg hb; have hs := hg.size; (try simp at hs); (try rw [ptCs_end] at ho); (try rw [ints_end] at ho); (try simp only [Nat.zero_add, Nat.reduceAdd, List.nil_append, List.cons_append] at ho)) | ((with_reducible apply region_gd (id := 34)); refine region_QA (id := 34) 16 ?_; apply Exists.intro; refine ⟨fun G => ?_, fun W hl => ?_⟩; (· (simp only [List.take_succ_cons, List.take_zero]; (repeat (first | go_big_quiet_skip | (go_big_quiet_want; first | (refine q_loadC ?_; simp only [Act.put, List.setIfInBounds_toArray, List.set_cons_zero, List.set_cons_succ]; go_big_quiet_on) | (refine q_load ?_; simp only [Act.put, List.setIfInBounds_toArray, List.set_cons_zero, List.set_cons_succ]; go_big_quiet_on) | (go_big_quiet_op; first | go_big_quiet_on)))); exact rfl)); have hs := hl.out.size; (try simp at hs); simp only [List.drop_succ_cons, List.drop_zero]))
                      go_roundw
                      case rel => exact ⟨c + 1, gs2, by omega, by go_num, by rw [E1.out]; go_num, hH2, by rw [E1.out]; exact hR2.congr (fun i l hi hl => (elm_same (.inl (by omega))).symm), hV2⟩
                      case measure => (simp [intOf]; try omega)
                  case inr h =>
                    clear h
                    go_loopw [117] (fun jv wi => jv = .int .i64 0 ∧ wi = W3) (fun jv _ => 0)
                    case atStart => exact ⟨rfl, rfl⟩
                    case round =>
                      obtain ⟨rfl, rfl⟩ := hrel
                      go_wp2_with (first | (refine wl_loadC ?_) | (refine wl_load ?_) | (refine wl_storeC ?_) | (refine wl_store ?_) | (refine wl_build ?_) | (refine wl_slice ?_) | (refine wl_make ?_; intro gr W' hgr hl hR; have hs := hl.out.size; (try simp at hs)) | (refine wl_append (he := eltSl) ?_; intro v' w' ho hg hb; have hs := hg.size; (try simp at hs)) | (refine wl_append ?_; intro v' w' ho hg hb; have hs := hg.size; (try simp at hs); (try rw [ptCs_end] at ho); (try rw [ints_end] at ho); (try simp only [Nat.zero_add, Nat.reduceAdd, List.nil_append, List.cons_append] at ho)) | ((with_reducible apply region_gd (id := 34)); refine region_QA (id := 34) 16 ?_; apply Exists.intro; refine ⟨fun G => ?_, fun W hl => ?_⟩; (· (simp only [List.take_succ_cons, List.take_zero]; (repeat (first | go_big_quiet_skip | (go_big_quiet_want; first | (refine q_loadC ?_; simp only [Act.put, List.setIfInBounds_toArray, List.set_cons_zero, List.set_cons_succ]; go_big_quiet_on) | (refine q_load ?_; simp only [Act.put, List.setIfInBounds_toArray, List.set_cons_zero, List.set_cons_succ]; go_big_quiet_on) | (go_big_quiet_op; first | go_big_quiet_on)))); exact rfl)); have hs := hl.out.size; (try simp at hs); simp only [List.drop_succ_cons, List.drop_zero]))
                      go_roundw
                      case rel => exact ⟨c + 1, gs2, by omega, by go_num, by rw [E1.out]; go_num, hH2, by rw [E1.out]; exact hR2.congr (fun i l hi hl => (elm_same (.inl (by omega))).symm), hV2⟩
                      case measure => (simp [intOf]; try omega)
            · obtain rfl : N = f := by omega
              go_wp2_with (first | (refine wl_loadC ?_) | (refine wl_load ?_) | (refine wl_storeC ?_) | (refine wl_store ?_) | (refine wl_build ?_) | (refine wl_slice ?_) | (refine wl_make ?_; intro gr W' hgr hl hR; have hs := hl.out.size; (try simp at hs)) | (refine wl_append (he := eltSl) ?_; intro v' w' ho hg hb; have hs := hg.size; (try simp at hs)) | (refine wl_append ?_; intro v' w' ho hg hb; have hs := hg.size; (try simp at hs); (try rw [ptCs_end] at ho); (try rw [ints_end] at ho); (try simp only [Nat.zero_add, Nat.reduceAdd, List.nil_append, List.cons_append] at ho)) | ((with_reducible apply region_gd (id := 34)); refine region_QA (id := 34) 16 ?_; apply Exists.intro; refine ⟨fun G => ?_, fun W hl => ?_⟩; (· (simp only [List.take_succ_cons, List.take_zero]; (repeat (first | go_big_quiet_skip | (go_big_quiet_want; first | (refine q_loadC ?_; simp only [Act.put, List.setIfInBounds_toArray, List.set_cons_zero, List.set_cons_succ]; go_big_quiet_on) | (refine q_load ?_; simp only [Act.put, List.setIfInBounds_toArray, List.set_cons_zero, List.set_cons_succ]; go_big_quiet_on) | (go_big_quiet_op; first | go_big_quiet_on)))); exact rfl)); have hs := hl.out.size; (try simp at hs); simp only [List.drop_succ_cons, List.drop_zero]))
              have hPN : piv M c N rk = N := by rw [hP, ← hfP]; exact piv_stop (fun h => absurd h (by omega))
              have e1 : elim q N M0 (c + 1) = (rk, M) := by
                show stp q N c (elim q N M0 c) = _
                rw [HS.out, stp_none hPN]
              go_roundw
              case rel => exact ⟨c + 1, gs, by omega, by go_num, by rw [e1], hH, by rw [e1]; exact hRows, hV⟩
              case measure => (simp [intOf]; try omega)
        · obtain rfl : N = c := by omega
          have er : rk = r := by have := HR.out; rw [HS.out] at this; exact this
          subst er
          go_wp2_with (first | (refine wl_loadC ?_) | (refine wl_load ?_) | (refine wl_storeC ?_) | (refine wl_store ?_) | (refine wl_build ?_) | (refine wl_slice ?_) | (refine wl_make ?_; intro gr W' hgr hl hR; have hs := hl.out.size; (try simp at hs)) | (refine wl_append (he := eltSl) ?_; intro v' w' ho hg hb; have hs := hg.size; (try simp at hs)) | (refine wl_append ?_; intro v' w' ho hg hb; have hs := hg.size; (try simp at hs); (try rw [ptCs_end] at ho); (try rw [ints_end] at ho); (try simp only [Nat.zero_add, Nat.reduceAdd, List.nil_append, List.cons_append] at ho)) | ((with_reducible apply region_gd (id := 34)); refine region_QA (id := 34) 16 ?_; apply Exists.intro; refine ⟨fun G => ?_, fun W hl => ?_⟩; (· (simp only [List.take_succ_cons, List.take_zero]; (repeat (first | go_big_quiet_skip | (go_big_quiet_want; first | (refine q_loadC ?_; simp only [Act.put, List.setIfInBounds_toArray, List.set_cons_zero, List.set_cons_succ]; go_big_quiet_on) | (refine q_load ?_; simp only [Act.put, List.setIfInBounds_toArray, List.set_cons_zero, List.set_cons_succ]; go_big_quiet_on) | (go_big_quiet_op; first | go_big_quiet_on)))); exact rfl)); have hs := hl.out.size; (try simp at hs); simp only [List.drop_succ_cons, List.drop_zero]))
          (apply ret_two Try.results18; (conv => lhs; whnf); (conv => lhs; whnf); exact rfl)
          exact ret_ret rfl findLow
end Go.Proofs.Ytbeeecahkchjnaa
/- Contracts: the source of the draws: its next number. -- draws -/
namespace Go.Proofs.Ytbeeecahkchjnaa
open Go.RowKit
set_option linter.unusedVariables false
set_option linter.unusedSimpArgs false
theorem RowK.cellAt {W : World} {g k : Nat} {cs : Array Value} {T : TypeId} {v : Value} (h : RowK W g cs T) (hk : cs[k]? = some v) : CellK W g k v := ⟨(cell_of_row W g k _ _ _ h.out).trans hk⟩
theorem RowK.stAt {W : World} {g k : Nat} {cs : Array Value} {T : TypeId} (h : RowK W g cs T) (hk : k < cs.size) : StK W g k := by
  have e : W.cell? ⟨g, k, none⟩ = cs[k]? := cell_of_row W g k _ _ _ h.out
  have hr : RoomI W g cs.size T := ⟨cs, h.out, rfl⟩
  exact ⟨hr.some k hk, hr.frozen k, h.lt⟩
theorem RowK.setC {W : World} {g k : Nat} {cs : Array Value} {T : TypeId} (h : RowK W g cs T) (v : Value) : RowK (W.setCell ⟨g, k, none⟩ v) g (cs.setIfInBounds k v) T := by
  refine ⟨?_⟩
  have := h.out
  simp [World.setCell, Array.getElem?_modify, this]
/-- The bytes of a code. -/
def CodeK (W : World) (b : Option Addr) (n : Nat) : Prop := 0 < n → ∃ g o, b = some ⟨g, o, none⟩ ∧ ∀ i, i < n → ∃ x : Int, W.cell? ⟨g, o + i, none⟩ = some (.int .u8 x) ∧ 0 ≤ x ∧ x ≤ 255
theorem CodeK.link {W W' : World} {b : Option Addr} {n : Nat} (l : Link W W') (h : CodeK W b n) : CodeK W' b n := fun hn => by
  obtain ⟨g, o, e, hc⟩ := h hn
  exact ⟨g, o, e, fun i hi => by obtain ⟨x, h1, h2⟩ := hc i hi; exact ⟨x, cell_below l.out h1, h2⟩⟩
theorem CodeK.but {g : Nat} {w W : World} {b : Option Addr} {n : Nat} (hB : ButK g w W) (hne : ∀ a, b = some a → a.block ≠ g) (h : CodeK w b n) : CodeK W b n := fun hn => by
  obtain ⟨gb, o, e, hc⟩ := h hn
  exact ⟨gb, o, e, fun i hi => by obtain ⟨x, h1, h2⟩ := hc i hi; exact ⟨x, cell_but hB (hne _ e) h1, h2⟩⟩
/-- The source of a draw, in block g, over a code. -/
structure SrcK (W : World) (g : Nat) (b : Option Addr) (n c : Nat) : Prop where
  row : ∃ (at_ : Nat) (h : Int), RowK W g #[.slice b n c, .int .i64 (at_ : Int), .int .u64 h] 67 ∧ at_ ≤ n ∧ 0 ≤ h ∧ h < 18446744073709551616
  code : CodeK W b n
  ne : ∀ a, b = some a → a.block ≠ g
  le : n ≤ 4096
theorem SrcK.link {W W' : World} {g n c : Nat} {b : Option Addr} (l : Link W W') (h : SrcK W g b n c) : SrcK W' g b n c := by
  obtain ⟨a, x, hr, h1⟩ := h.row
  exact ⟨⟨a, x, hr.link l, h1⟩, h.code.link l, h.ne, h.le⟩
theorem SrcK.lt {W : World} {g n c : Nat} {b : Option Addr} (h : SrcK W g b n c) : g < W.heap.size := by
  obtain ⟨a, x, hr, -⟩ := h.row
  exact hr.lt
section
variable {ρ : Operand → Value} {ops : Array Oper} {rest : List Oper} {o : Oper} {a : Act} {w W : World} {Q : Exit → Act → World → Prop} {ty : TypeId} {x y : Operand}
theorem ld_cellS {g k : Nat} {v : Value} (hop : o.op = .load ty x := by exact rfl) (hx : ρ x = .pointer (some ⟨g, k, none⟩) := by exact rfl)
    (hc : CellK W g k v := by repeat (first | with_reducible assumption | (apply CellK.link; (· with_reducible assumption))))
    (ha : ∀ W, (isAgg ty).run Try.prog W = .ok false W := by first | exact Try.isAgg65 | exact Try.isAgg3 | exact Try.isAgg22 | exact Try.isAgg5 | exact Try.isAgg2) : (execOp ρ o).run Try.prog W = .ok (.value v) W := by
  have h := hc.out
  unfold execOp
  simp only [hop, hx, Instr.loadAt, Instr.sureAddr, Sem.run_bind, Sem.run_pure, Result.andThen_ok, loadVar, ha, Bool.false_eq_true, if_false]
  rw [run_load]
  simp [h]
theorem wl_loadS {v : Value} (hK : wpList Try.prog ops Q rest (a.put o.dst v) w) (hgd : o.guard = none := by exact rfl) (hop : o.op = .load ty x := by exact rfl)
    (hr : (execOp a.eval o).run Try.prog w = .ok (.value v) w := by exact ld_cellS) : wpList Try.prog ops Q (o :: rest) a w := wpList_load_any w hgd ty x hop hr hK
theorem q_loadS {G : Grow0 w} {K : Act → Prop} {v : Value} (hK : K (a.put o.dst v)) (hop : o.op = .load ty x := by exact rfl)
    (h : ∀ W, Link w W → (execOp a.eval o).run Try.prog W = .ok (.value v) W := by (intro W hl; exact ld_cellS)) : o.quiet Try.prog a (fun w' => ∃ g : Grow w G, w' = g.W) K := q_load_any ty x hop h hK
theorem wl_storeS {g k : Nat} {v : Value} (hK : wpList Try.prog ops Q rest a (w.setCell ⟨g, k, none⟩ v)) (hgd : o.guard = none := by exact rfl) (hop : o.op = .store ty x y := by exact rfl) (hd : o.dst = none := by exact rfl)
    (hx : a.eval x = .pointer (some ⟨g, k, none⟩) := by exact rfl) (hy : a.eval y = v := by conv => lhs; whnf)
    (hS : StK w g k := by repeat (first | with_reducible assumption | (apply StK.link; (· with_reducible assumption))))
    (h1 : v.cells = #[v] := by exact rfl) (h2 : v.oneCell' = true := by exact rfl) (hs : ∀ W, (sizeOf ty).run Try.prog W = .ok 1 W := by first | exact Try.sizeOf65 | exact Try.sizeOf3 | exact Try.sizeOf2) : wpList Try.prog ops Q (o :: rest) a w := by
  obtain ⟨s1, s2, -⟩ := hS.out
  obtain ⟨u, hu⟩ := Option.isSome_iff_exists.1 s1
  have hr : (execOp a.eval o).run Try.prog w = .ok .skip (w.setCell ⟨g, k, none⟩ v) := by
    unfold execOp
    simp only [hop, hx, hy, Instr.storeAt, Instr.sureAddr, Sem.run_bind, Sem.run_pure, Result.andThen_ok, storeVar, hs, h1]
    have e : ((⟨g, k, none⟩ : Addr).add 0) = ⟨g, k, none⟩ := by unfold Addr.add; split <;> simp_all
    simp [storeCells, e, run_store, h2, hu, s2, go_sem]
  refine wpList_plain hgd fun K hK' => ?_
  unfold Oper.wp
  rw [hr]
  simp only [Oper.upon, hd]
  exact hK' _ _ hK
end
theorem wrapU (x : Int) : 0 ≤ IntKind.wrap .u64 x ∧ IntKind.wrap .u64 x < 18446744073709551616 := by
  rw [IntKind.wrap_u64]; omega
theorem bits_bd (E : Int) (h0 : 0 ≤ E) (h1 : E < 18446744073709551616) : 0 ≤ bits BinOp.and IntKind.u64 E 16777215 ∧ bits BinOp.and IntKind.u64 E 16777215 ≤ 16777215 := by
  obtain ⟨e, rfl⟩ : ∃ e : Nat, E = (e : Int) := ⟨E.toNat, by omega⟩
  have hl : e &&& 16777215 ≤ 16777215 := Nat.and_le_right
  have e1 : bits BinOp.and IntKind.u64 (e : Int) 16777215 = ((e &&& 16777215 : Nat) : Int) := bits_and_u64_nat e 16777215 (by omega) (by decide)
  rw [e1]; omega
theorem mod_nat (a b m : Nat) : ((a : Int) + (b : Int)) % (m : Int) = (((a + b) % m : Nat) : Int) := by simp
/-- What a draw leaves: the source, and all else as it was. -/
structure Drew (g : Nat) (b : Option Addr) (n c : Nat) (w W : World) : Prop where
  src : SrcK W g b n c
  but : ButK g w W
set_option pp.deepTerms false
set_option pp.deepTerms.threshold 10
set_option maxRecDepth 20000 in
set_option maxHeartbeats 8000000 in
theorem Next_S (g : Nat) (b : Option Addr) (n c : Nat) (m : Int) (w : World) (hS : SrcK w g b n c) (hm : 1 ≤ m) :
    Calls Try.prog 28 #[.pointer (some ⟨g, 0, none⟩), .int .i64 m] w (fun e W => ∃ r : Nat, e = .returned (.int .i64 (r : Int)) ∧ (r : Int) < m ∧ Drew g b n c w W) := by
  obtain ⟨at_, h, hrow, hat, h0, h1⟩ := hS.row
  have c0 : CellK w g 0 (.slice b n c) := hrow.cellAt rfl
  have c1 : CellK w g 1 (.int .i64 (at_ : Int)) := hrow.cellAt rfl
  have c2 : CellK w g 2 (.int .u64 h) := hrow.cellAt rfl
  have s1 : StK w g 1 := hrow.stAt (by show 1 < 3; decide)
  have s2 : StK w g 2 := hrow.stAt (by show 2 < 3; decide)
  have hm2 : ¬ m < 1 := by omega
  have hr2 := wrapU (IntKind.wrap .u64 (h * 6364136223846793005) + 1442695040888963407)
  go_enter Try.func28, Try.ntmps28
  go_wp2_with (first | (with_reducible refine hold (p := wpList _ _ _ ({ dst := none, op := .store _ _ _, type := _, pos := _, after := _, guard := _ } :: _) _ _) ?_) | (refine wl_loadS ?_))
  unfold Hold
  refine wl_storeS ?_
  generalize IntKind.wrap .u64 (IntKind.wrap .u64 (h * 6364136223846793005) + 1442695040888963407) = h2 at *
  have hrow1 : RowK (w.setCell ⟨g, 2, none⟩ (.int .u64 h2)) g #[.slice b n c, .int .i64 (at_ : Int), .int .u64 h2] 67 := hrow.setC (k := 2) (.int .u64 h2)
  have hB1 : ButK g w (w.setCell ⟨g, 2, none⟩ (.int .u64 h2)) := (ButK.refl g w).set 2 _
  clear c0 c1 c2 s1 s2 hrow
  generalize w.setCell ⟨g, 2, none⟩ (.int .u64 h2) = W1 at *
  have c0 : CellK W1 g 0 (.slice b n c) := hrow1.cellAt rfl
  have c1 : CellK W1 g 1 (.int .i64 (at_ : Int)) := hrow1.cellAt rfl
  have c2 : CellK W1 g 2 (.int .u64 h2) := hrow1.cellAt rfl
  have s1 : StK W1 g 1 := hrow1.stAt (by show 1 < 3; decide)
  obtain ⟨y0, y1⟩ := bits_bd (h2 / 8589934592) (by omega) (by omega)
  have hw64 : wrap64 (bits BinOp.and IntKind.u64 (h2 / 8589934592) 16777215) = bits BinOp.and IntKind.u64 (h2 / 8589934592) 16777215 := by rw [wrap64]; omega
  by_cases hlt : at_ < n
  · obtain ⟨gb, o, rfl, hc⟩ := (hS.code.but hB1 hS.ne) (by omega)
    obtain ⟨x, hx, hx0, hx1⟩ := hc at_ hlt
    have c3 : CellK W1 gb (o + at_) (.int .u8 x) := ⟨hx⟩
    have hle := hS.le
    have hxw : wrap64 x = x := by rw [wrap64]; omega
    have hxs : wrap64 (bits BinOp.and IntKind.u64 (h2 / 8589934592) 16777215 + x) = bits BinOp.and IntKind.u64 (h2 / 8589934592) 16777215 + x := by rw [wrap64]; omega
    go_wp2_with (first | (with_reducible refine hold (p := wpList _ _ _ ({ dst := none, op := .store _ _ _, type := _, pos := _, after := _, guard := _ } :: _) _ _) ?_) | (refine wl_loadS ?_) | ((with_reducible apply region_gd (id := 5)); refine region_QA (id := 5) 10 ?_; apply Exists.intro; refine ⟨fun G => ?_, fun W hl => ?_⟩; (· (simp only [List.take_succ_cons, List.take_zero]; (repeat (first | go_big_quiet_skip | (go_big_quiet_want; first | (refine q_loadS ?_; simp only [Act.put, List.setIfInBounds_toArray, List.set_cons_zero, List.set_cons_succ]; go_big_quiet_on) | (refine q_load ?_; simp only [Act.put, List.setIfInBounds_toArray, List.set_cons_zero, List.set_cons_succ]; go_big_quiet_on) | (go_big_quiet_op; first | go_big_quiet_on)))); exact rfl)); have hs := hl.out.size; (try simp at hs); simp only [List.drop_succ_cons, List.drop_zero]) | ((with_reducible apply region_gd (id := 6)); refine region_QA (id := 6) 13 ?_; apply Exists.intro; refine ⟨fun G => ?_, fun W hl => ?_⟩; (· (simp only [List.take_succ_cons, List.take_zero]; (repeat (first | go_big_quiet_skip | (go_big_quiet_want; first | (refine q_loadS ?_; simp only [Act.put, List.setIfInBounds_toArray, List.set_cons_zero, List.set_cons_succ]; go_big_quiet_on) | (refine q_load ?_; simp only [Act.put, List.setIfInBounds_toArray, List.set_cons_zero, List.set_cons_succ]; go_big_quiet_on) | (go_big_quiet_op; first | go_big_quiet_on)))); exact rfl)); have hs := hl.out.size; (try simp at hs); simp only [List.drop_succ_cons, List.drop_zero]))
    unfold Hold
    refine wl_storeS ?_
    have hlow : LowK W1 W := findLow
    have hrow2 : RowK (W.setCell ⟨g, 1, none⟩ (.int .i64 ((at_ : Int) + 1))) g #[.slice (some ⟨gb, o, none⟩) n c, .int .i64 ((at_ + 1 : Nat) : Int), .int .u64 h2] 67 := (hrow1.link (LowK.lnk hlow)).setC (k := 1) (.int .i64 ((at_ : Int) + 1))
    have hB2 : ButK g w (W.setCell ⟨g, 1, none⟩ (.int .i64 ((at_ : Int) + 1))) := (hB1.low hlow).set 1 _
    generalize W.setCell ⟨g, 1, none⟩ (.int .i64 ((at_ : Int) + 1)) = W3 at *
    go_wp2
    have HR := Lib.hid hr2
    have HS := Lib.hid hS
    have HAT := Lib.hid (show at_ + 1 ≤ n by omega)
    clear hr2 hS hxw hxs hw64 hc hx h0 h1 hle hat hlt
    generalize bits BinOp.and IntKind.u64 (h2 / 8589934592) 16777215 = y at *
    obtain ⟨yn, rfl⟩ := Int.eq_ofNat_of_zero_le y0
    obtain ⟨xn, rfl⟩ := Int.eq_ofNat_of_zero_le hx0
    obtain ⟨mn, rfl⟩ := Int.eq_ofNat_of_zero_le (show 0 ≤ m by omega)
    (apply ret_one Try.results28; (conv => lhs; whnf); exact rfl)
    exact ⟨(yn + xn) % mn, congrArg (fun z : Int => Ending.returned (Value.int .i64 z)) (mod_nat yn xn mn), by have := Nat.mod_lt (yn + xn) (show 0 < mn by omega); omega, ⟨⟨at_ + 1, h2, hrow2, HAT.out, HR.out.1, HR.out.2⟩, HS.out.code.but hB2 HS.out.ne, HS.out.ne, HS.out.le⟩, hB2⟩
  · go_wp2_with (first | (refine wl_loadS ?_) | (refine wl_load ?_) | (refine wl_storeS ?_) | (refine wl_store ?_) | (refine wl_build ?_) | (refine wl_slice ?_) | (refine wl_append ?_; intro v' w' ho hg hb; have hs := hg.size; (try simp at hs); (try rw [ptCs_end] at ho); (try rw [ints_end] at ho); (try simp only [Nat.zero_add, Nat.reduceAdd, List.nil_append, List.cons_append] at ho)) | ((with_reducible apply region_gd (id := 5)); refine region_QA (id := 5) 10 ?_; apply Exists.intro; refine ⟨fun G => ?_, fun W hl => ?_⟩; (· (simp only [List.take_succ_cons, List.take_zero]; (repeat (first | go_big_quiet_skip | (go_big_quiet_want; first | (refine q_loadS ?_; simp only [Act.put, List.setIfInBounds_toArray, List.set_cons_zero, List.set_cons_succ]; go_big_quiet_on) | (refine q_load ?_; simp only [Act.put, List.setIfInBounds_toArray, List.set_cons_zero, List.set_cons_succ]; go_big_quiet_on) | (go_big_quiet_op; first | go_big_quiet_on)))); exact rfl)); have hs := hl.out.size; (try simp at hs); simp only [List.drop_succ_cons, List.drop_zero]) | ((with_reducible apply region_gd (id := 6)); refine region_QA (id := 6) 13 ?_; apply Exists.intro; refine ⟨fun G => ?_, fun W hl => ?_⟩; (· (simp only [List.take_succ_cons, List.take_zero]; (repeat (first | go_big_quiet_skip | (go_big_quiet_want; first | (refine q_loadS ?_; simp only [Act.put, List.setIfInBounds_toArray, List.set_cons_zero, List.set_cons_succ]; go_big_quiet_on) | (refine q_load ?_; simp only [Act.put, List.setIfInBounds_toArray, List.set_cons_zero, List.set_cons_succ]; go_big_quiet_on) | (go_big_quiet_op; first | go_big_quiet_on)))); exact rfl)); have hs := hl.out.size; (try simp at hs); simp only [List.drop_succ_cons, List.drop_zero]))
    generalize bits BinOp.and IntKind.u64 (h2 / 8589934592) 16777215 = y at *
    obtain ⟨yn, rfl⟩ : ∃ yn : Nat, y = (yn : Int) := ⟨y.toNat, by omega⟩
    obtain ⟨mn, rfl⟩ : ∃ mn : Nat, m = (mn : Int) := ⟨m.toNat, by omega⟩
    rw [show ((yn : Int) % (mn : Int)) = ((yn % mn : Nat) : Int) from rfl]
    have hlow : LowK W1 W := findLow
    (apply ret_one Try.results28; (conv => lhs; whnf); exact rfl)
    exact ⟨yn % mn, rfl, by have := Nat.mod_lt yn (show 0 < mn by omega); omega, ⟨⟨at_, h2, hrow1.link (LowK.lnk hlow), hat, hr2.1, hr2.2⟩, (hS.code.but hB1 hS.ne).link (LowK.lnk hlow), hS.ne, hS.le⟩, hB1.low hlow⟩
end Go.Proofs.Ytbeeecahkchjnaa
/- A list of bytes as an argument: opened. -- draws -/
namespace Go.Proofs.Ytbeeecahkchjnaa
open Go.ChangeShapes Go.WideShapes Go.ChangeAt Go.RowKit Go.Deep
set_option linter.unusedVariables false
section
variable {H : Type} {enc : TypeId × Value → H} {P : Program} {W : World} {b0 : Nat} {held : Bool}
theorem shape_lt {g : Nat} {x : TypeId × Nat} (h : W.shape? g = some x) : g < W.heap.size := by
  unfold World.shape? at h
  rcases hg : W.heap[g]? with _ | o
  · rw [hg] at h; simp at h
  · exact (Array.getElem?_eq_some_iff.1 hg).1
theorem open_sl_b {r : Reach} {t e : TypeId} {v : Value} {d : DataW H} {p : List MemPlace} (ht : P.underlying t = some (.slice e)) (he : P.underlying e = some (.int .u8)) (hc : P.cellsOf e = 1)
    (hv : Value.okWide P W r b0 t v) (h : DataW.Trod enc P W 0 (fun _ => true) held t v d p) :
    ∃ (b : Option Addr) (k cap : Nat), v = .slice b k cap ∧ CodeK W b k ∧ ∀ a, b = some a → a.block < W.heap.size := by
  have hv0 := hv
  obtain ⟨a0, len, cap, rfl⟩ := okWide_slice ht hv
  obtain ⟨fuel, hf⟩ := h
  rcases open_ints ht he hc hf with ⟨hcs, hx⟩ | ⟨a, len', cap', zs, hcs, _, hl, hm, hz, hx, hcell, hwz⟩
  · simp [Value.cells] at hcs
    obtain ⟨rfl, rfl, rfl⟩ := hcs
    exact ⟨none, 0, 0, rfl, fun h => absurd h (Nat.lt_irrefl _), fun a ha => by cases ha⟩
  · simp [Value.cells] at hcs
    obtain ⟨rfl, rfl, rfl⟩ := hcs
    simp only [if_true] at hz
    refine ⟨some a, len, cap, rfl, fun hk => ?_, fun a' ha' => ?_⟩
    · obtain ⟨b, off, spot⟩ := a
      have hspot : spot = none := by simpa [Addr.add] using World.cell?_spot (hcell 0 (by omega))
      subst hspot
      refine ⟨b, off, rfl, fun i hi => ?_⟩
      have h1 := hcell i (by omega)
      rw [add_plain] at h1
      have hmem : zs.getD i 0 ∈ zs := by
        rw [List.getD, List.getElem?_eq_getElem (show i < zs.length by omega)]
        exact List.getElem_mem _
      have hw := hwz _ hmem
      refine ⟨_, h1, ?_⟩
      simp [Lit.wf, IntKind.min, IntKind.max] at hw
      first | exact hw | exact ⟨by omega, by omega⟩
    · cases ha'
      simp only [Value.okWide, ht, Cell.okWide, Cell.ok] at hv0
      obtain ⟨-, -, -, -, row, cells, h, -⟩ := hv0
      exact shape_lt h
end
end Go.Proofs.Ytbeeecahkchjnaa
/- The laws' first test: a code that is too long. -- draws -/
namespace Go.Proofs.Ytbeeecahkchjnaa
open Go.RowKit
set_option linter.unusedVariables false
set_option linter.unusedSimpArgs false
theorem big_E (b : Option Addr) (n c : Nat) (w : World) {v : Bool} (hv : decide (4096 < n) = v) : Calls Try.prog 4 #[.slice b n c] w (Ret w (.bool v)) := by
  have HV := Lib.hid hv
  clear hv
  rcases v with _ | _
  · have h : ¬ (4096 : Int) < (n : Int) := by have := HV.out; simp at this; omega
    go_enter Try.func4, Try.ntmps4
    go_wp2_with (first | (refine wl_loadS ?_) | (refine wl_load ?_) | (refine wl_storeS ?_) | (refine wl_store ?_) | (refine wl_build ?_) | (refine wl_slice ?_) | (refine wl_append ?_; intro v' w' ho hg hb; have hs := hg.size; (try simp at hs); (try rw [ptCs_end] at ho); (try rw [ints_end] at ho); (try simp only [Nat.zero_add, Nat.reduceAdd, List.nil_append, List.cons_append] at ho)))
    (apply ret_one Try.results4; (conv => lhs; whnf); exact rfl)
    exact ret_ret rfl findLow
  · have h : (4096 : Int) < (n : Int) := by have := HV.out; simp at this; omega
    go_enter Try.func4, Try.ntmps4
    go_wp2_with (first | (refine wl_loadS ?_) | (refine wl_load ?_) | (refine wl_storeS ?_) | (refine wl_store ?_) | (refine wl_build ?_) | (refine wl_slice ?_) | (refine wl_append ?_; intro v' w' ho hg hb; have hs := hg.size; (try simp at hs); (try rw [ptCs_end] at ho); (try rw [ints_end] at ho); (try simp only [Nat.zero_add, Nat.reduceAdd, List.nil_append, List.cons_append] at ho)))
    (apply ret_one Try.results4; (conv => lhs; whnf); exact rfl)
    exact ret_ret rfl findLow
end Go.Proofs.Ytbeeecahkchjnaa
/- Contracts: numbers that draws pick. -- draws -/
namespace Go.Proofs.Ytbeeecahkchjnaa
open Go.RowKit
set_option linter.unusedVariables false
set_option linter.unusedSimpArgs false
/-- Numbers in a block of their own. -/
structure NumK (W : World) (gl k : Nat) : Prop where
  out : ∃ cs, RowK W gl cs 2 ∧ cs.size = k ∧ ∀ i, i < k → ∃ r : Int, cs[i]? = some (.int .i64 r)
theorem NumK.link {W W' : World} {gl k : Nat} (l : Link W W') (h : NumK W gl k) : NumK W' gl k := by
  obtain ⟨cs, h1, h2⟩ := h.out
  exact ⟨cs, h1.link l, h2⟩
theorem NumK.but {g : Nat} {W W' : World} {gl k : Nat} (hB : ButK g W W') (hne : gl ≠ g) (h : NumK W gl k) : NumK W' gl k := by
  obtain ⟨cs, h1, h2⟩ := h.out
  exact ⟨cs, h1.but hB hne, h2⟩
theorem SrcK.rowNe {W : World} {g gl n c : Nat} {b : Option Addr} {cs : Array Value} {T : TypeId} (h : SrcK W g b n c) (hR : RowK W gl cs T) (hT : T ≠ 67) : gl ≠ g := by
  rintro rfl
  obtain ⟨a, x, hr, -⟩ := h.row
  have h1 := hr.out
  have h2 := hR.out
  rw [h1] at h2
  cases h2
  exact hT rfl
theorem NumK.ne {W : World} {g gl k n c : Nat} {b : Option Addr} (h : NumK W gl k) (hS : SrcK W g b n c) : gl ≠ g := by
  obtain ⟨cs, h1, -⟩ := h.out
  exact hS.rowNe h1 (by decide)
theorem Drew.tr {g n c : Nat} {b : Option Addr} {w W W' : World} (h : Drew g b n c w W) (h' : Drew g b n c W W') : Drew g b n c w W' := ⟨h'.src, h'.but.tr h.but⟩
theorem Drew.low {g n c : Nat} {b : Option Addr} {w W W' : World} (h : Drew g b n c w W) (l : LowK W W') : Drew g b n c w W' := ⟨h.src.link (LowK.lnk l), h.but.low l⟩
theorem Drew.refl {g n c : Nat} {b : Option Addr} {w : World} (h : SrcK w g b n c) : Drew g b n c w w := ⟨h, ButK.refl g w⟩
theorem NumK.of {W : World} {gl : Nat} {cs : Array Value} (h : RowK W gl cs 2) {k : Nat} (hk : cs.size = k) (hI : ∀ i, i < k → ∃ r : Int, cs[i]? = some (.int .i64 r)) : NumK W gl k := ⟨cs, h, hk, hI⟩
end Go.Proofs.Ytbeeecahkchjnaa
/- Contracts: the source of a code. -- draws -/
namespace Go.Proofs.Ytbeeecahkchjnaa
open Go.RowKit
set_option linter.unusedVariables false
set_option linter.unusedSimpArgs false
theorem wl_buildS {ops : Array Oper} {rest : List Oper} {o : Oper} {a : Act} {w : World} {Q : Exit → Act → World → Prop} {x y : Operand} {b : Option Addr} {n c : Nat} {h : Int} (hK : wpList Try.prog ops Q rest (a.put o.dst (.agg #[.slice b n c, .int .i64 0, .int .u64 h])) w) (hgd : o.guard = none := by exact rfl) (hop : o.op = .build 67 #[(0, x), (2, y)] := by exact rfl)
    (hx : a.eval x = .slice b n c := by exact rfl) (hy : a.eval y = .int .u64 h := by exact rfl) : wpList Try.prog ops Q (o :: rest) a w :=
  wpList_build w hgd _ _ hop _ ((show Program.built Try.prog 67 (#[(0, x), (2, y)].map fun ((i, x) : Nat × Operand) => (i, a.eval x)).toList = Program.built Try.prog 67 [(0, .slice b n c), (2, .int .u64 h)] from by simp [hx, hy]).trans (show Program.built Try.prog 67 [(0, .slice b n c), (2, .int .u64 h)] = some #[.slice b n c, .int .i64 0, .int .u64 h] by kernel_rfl)) hK
set_option pp.deepTerms false
set_option pp.deepTerms.threshold 10
set_option maxRecDepth 20000 in
set_option maxHeartbeats 8000000 in
theorem From_S (b : Option Addr) (n c : Nat) (w : World) (hC : CodeK w b n) (hn : n ≤ 4096) (hb : ∀ a, b = some a → a.block < w.heap.size) :
    Calls Try.prog 22 #[.slice b n c] w (fun e W => ∃ g, e = .returned (.pointer (some ⟨g, 0, none⟩)) ∧ w.heap.size ≤ g ∧ SrcK W g b n c ∧ LowK w W) := by
  have HB := Lib.hid hb
  clear hb
  go_enter Try.func22, Try.ntmps22
  go_wp2_with (first | (refine wl_buildS ?_))
  have hr0 : RowK (w.alloc (.cells #[.slice b n c, .int .i64 0, .int .u64 (13101 + (n : Int))] 67)) w.heap.size #[.slice b n c, .int .i64 0, .int .u64 (13101 + (n : Int))] 67 := findRow
  have hV0 : LowK w (w.alloc (.cells #[.slice b n c, .int .i64 0, .int .u64 (13101 + (n : Int))] 67)) := findLow
  generalize w.alloc (.cells #[.slice b n c, .int .i64 0, .int .u64 (13101 + (n : Int))] 67) = W1 at *
  obtain ⟨g, hg⟩ : ∃ g, w.heap.size = g := ⟨_, rfl⟩
  have hwg := Nat.le_of_eq hg
  have hgw := Nat.le_of_eq hg.symm
  rw [hg] at hr0 HB ⊢
  clear hg
  go_loopw [4] (fun iv wr => ∃ (i : Nat) (h : Int), i ≤ n ∧ iv = .int .i64 (i : Int) ∧ RowK wr g #[.slice b n c, .int .i64 0, .int .u64 h] 67 ∧ 0 ≤ h ∧ h < 18446744073709551616 ∧ LowK w wr) (fun iv wr => n - (intOf iv).toNat)
  case atStart => exact ⟨0, _, Nat.zero_le _, rfl, hr0, by omega, by omega, hV0⟩
  case round =>
    clear hr0 hV0
    obtain ⟨i, h, hi, rfl, hr, h0, h1, hV⟩ := hrel
    by_cases hlt : i < n
    · have hi4 : (i : Int) < 4096 := by omega
      obtain ⟨gb, o, rfl, hc⟩ := (hC.link (LowK.lnk hV)) (by omega)
      obtain ⟨x, hx, hx0, hx1⟩ := hc i hlt
      have c3 : CellK wr gb (o + i) (.int .u8 x) := ⟨hx⟩
      have c2 : CellK wr g 2 (.int .u64 h) := hr.cellAt rfl
      have s2 : StK wr g 2 := hr.stAt (by show 2 < 3; decide)
      have HX := Lib.hid hx
      clear hc hx
      go_wp2_with (first | (with_reducible refine hold (p := wpList _ _ _ ({ dst := none, op := .store _ _ _, type := _, pos := _, after := _, guard := _ } :: _) _ _) ?_) | (refine wl_loadS ?_) | ((with_reducible apply region_gd (id := 5)); refine region_QA (id := 5) 15 ?_; apply Exists.intro; refine ⟨fun G => ?_, fun W hl => ?_⟩; (· (simp only [List.take_succ_cons, List.take_zero]; (repeat (first | go_big_quiet_skip | (go_big_quiet_want; first | (refine q_loadS ?_; simp only [Act.put, List.setIfInBounds_toArray, List.set_cons_zero, List.set_cons_succ]; go_big_quiet_on) | (refine q_load ?_; simp only [Act.put, List.setIfInBounds_toArray, List.set_cons_zero, List.set_cons_succ]; go_big_quiet_on) | (go_big_quiet_op; first | go_big_quiet_on)))); exact rfl)); have hs := hl.out.size; (try simp at hs); simp only [List.drop_succ_cons, List.drop_zero]))
      unfold Hold
      refine wl_storeS ?_
      have hE := wrapU (IntKind.wrap .u64 (IntKind.wrap .u64 (h * 1099511628211) + x) + 127)
      generalize IntKind.wrap .u64 (IntKind.wrap .u64 (IntKind.wrap .u64 (h * 1099511628211) + x) + 127) = E at *
      have hlow : LowK wr W := findLow
      have hr2 : RowK (W.setCell ⟨g, 2, none⟩ (.int .u64 E)) g #[.slice (some ⟨gb, o, none⟩) n c, .int .i64 0, .int .u64 E] 67 := (hr.link (LowK.lnk hlow)).setC (k := 2) (.int .u64 E)
      have hV2 : LowK w (W.setCell ⟨g, 2, none⟩ (.int .u64 E)) := LowK.setCell hwg 2 _ (LowK.link (LowK.lnk hlow) hV)
      go_wp2
      go_roundw
      case rel => exact ⟨i + 1, E, by omega, by go_num, hr2, hE.1, hE.2, hV2⟩
      case measure => (simp [intOf]; try omega)
    · obtain rfl : n = i := by omega
      go_wp2
      (apply ret_one Try.results22; (conv => lhs; whnf); exact rfl)
      exact ⟨g, rfl, hwg, ⟨⟨0, h, hr, Nat.zero_le _, h0, h1⟩, hC.link (LowK.lnk hV), fun a ha => by have := HB.out a ha; omega, hn⟩, hV⟩
end Go.Proofs.Ytbeeecahkchjnaa
/- Own lists while draws go on. -- draws -/
namespace Go.Proofs.Ytbeeecahkchjnaa
open Go.RowKit
set_option linter.unusedVariables false
theorem OwnK.but {g : Nat} {W W' : World} {B : Nat} {T : TypeId} {sz : Nat} {v : Value} {n : Nat} {xs : List Value} (h : OwnK W B T sz v n xs) (hB : ButK g W W') (hg : g < B) : OwnK W' B T sz v n xs :=
  ⟨own_same h.out fun b hb => hB.out.2.1 b (own_lt h.out b hb) (fun e => by have := own_base' h.out b hb; omega)⟩
theorem ButK.grew {g : Nat} {w W W' : World} {u : Value} (h : ButK g w W) (hg : Grew W u W') (hu : ∀ b, u.ownBlock = some b → w.heap.size ≤ b) : ButK g w W' := by
  obtain ⟨h1, h2, h3, h4, h5⟩ := h.out
  exact ⟨Nat.le_trans h1 hg.size, fun b hb hne => (hg.out.block b (by omega) (fun e => by have := hu b e.symm; omega)).trans (h2 b hb hne), hg.out.os.trans h3, hg.out.tape.trans h4, hg.out.output.trans h5⟩
theorem SrcK.grew {W W' : World} {g n c : Nat} {b : Option Addr} {u : Value} (h : SrcK W g b n c) (hg : Grew W u W') (hu : Off u g) (hub : ∀ a, b = some a → Off u a.block) : SrcK W' g b n c := by
  obtain ⟨a, x, hr, h1⟩ := h.row
  refine ⟨⟨a, x, hr.grew hg hu, h1⟩, fun hn => ?_, h.ne, h.le⟩
  obtain ⟨gb, o, e, hc⟩ := h.code hn
  exact ⟨gb, o, e, fun i hi => by obtain ⟨x, h1, h2⟩ := hc i hi; exact ⟨x, cell_grew hg (hub _ e) h1, h2⟩⟩
theorem OwnK.weak {W : World} {B B' : Nat} {T : TypeId} {sz : Nat} {v : Value} {n : Nat} {xs : List Value} (h : OwnK W B T sz v n xs) (hB : B' ≤ B) : OwnK W B' T sz v n xs := by
  refine ⟨h.out.1, ?_⟩
  rcases h.out.2 with h1 | ⟨g, cap, cur, h1, h2, h3⟩
  · exact .inl h1
  · exact .inr ⟨g, cap, cur, h1, Nat.le_trans hB h2, h3⟩
end Go.Proofs.Ytbeeecahkchjnaa
/- The library's sort at []int64: its contract, laid for this program by the kit's own tool (lay-shelf, lay-plain), the numbers by name. -/
namespace Go.Proofs
open Go.Shelf
def Ytbeeecahkchjnaa.laysSort_ren : Go.Shelf.Ren := ⟨fun | 5 => 47 | 8 => 54 | 7 => 53 | 19 => 66 | 20 => 67 | 10 => 57 | 11 => 58 | 12 => 59 | 13 => 60 | 14 => 61 | 15 => 62 | 16 => 63 | 17 => 64 | 18 => 65 | 30 => 70 | 31 => 71 | 32 => 72 | 33 => 73 | 34 => 74 | 35 => 75 | 40 => 79 | n => n, fun | 23 => 24 | 25 => 2 | 3 => 3 | 32 => 69 | 22 => 24 | 0 => 0 | 44 => 89 | 46 => 65 | 4 => 4 | 36 => 81 | 35 => 80 | 41 => 86 | 5 => 5 | 9 => 9 | 53 => 93 | 57 => 97 | 63 => 103 | 64 => 104 | n => n, fun | n => n⟩
theorem Ytbeeecahkchjnaa.laysSort : Go.Proofs.SlLaysM.n5 Try.prog Ytbeeecahkchjnaa.laysSort_ren := {
  mixed := by kernel_rfl
  f5 := ⟨Try.f47.name, by decide, Try.func47.trans (congrArg some (by kernel_rfl))⟩
  f7 := ⟨Try.f53.name, by decide, Try.func53.trans (congrArg some (by kernel_rfl))⟩
  f8 := Try.func54.trans (congrArg some (by kernel_rfl))
  f10 := ⟨Try.f57.name, by decide, Try.func57.trans (congrArg some (by kernel_rfl))⟩
  f11 := ⟨Try.f58.name, by decide, Try.func58.trans (congrArg some (by kernel_rfl))⟩
  f12 := ⟨Try.f59.name, by decide, Try.func59.trans (congrArg some (by kernel_rfl))⟩
  f13 := ⟨Try.f60.name, by decide, Try.func60.trans (congrArg some (by kernel_rfl))⟩
  f14 := ⟨Try.f61.name, by decide, Try.func61.trans (congrArg some (by kernel_rfl))⟩
  f15 := ⟨Try.f62.name, by decide, Try.func62.trans (congrArg some (by kernel_rfl))⟩
  f16 := ⟨Try.f63.name, by decide, Try.func63.trans (congrArg some (by kernel_rfl))⟩
  f17 := ⟨Try.f64.name, by decide, Try.func64.trans (congrArg some (by kernel_rfl))⟩
  f18 := ⟨Try.f65.name, by decide, Try.func65.trans (congrArg some (by kernel_rfl))⟩
  f19 := Try.func66.trans (congrArg some (by kernel_rfl))
  f20 := Try.func67.trans (congrArg some (by kernel_rfl))
  f30 := ⟨Try.f70.name, by decide, Try.func70.trans (congrArg some (by kernel_rfl))⟩
  f31 := Try.func71.trans (congrArg some (by kernel_rfl))
  f32 := Try.func72.trans (congrArg some (by kernel_rfl))
  f33 := ⟨Try.f73.name, by decide, Try.func73.trans (congrArg some (by kernel_rfl))⟩
  f34 := ⟨Try.f74.name, by decide, Try.func74.trans (congrArg some (by kernel_rfl))⟩
  f35 := ⟨Try.f75.name, by decide, Try.func75.trans (congrArg some (by kernel_rfl))⟩
  f40 := ⟨Try.f79.name, by decide, Try.func79.trans (congrArg some (by kernel_rfl))⟩
  t0 := Try.underlying0
  a0 := Try.isAgg0
  z0 := Try.sizeOf0
  v0 := Try.zeroValue0
  t3 := Try.underlying3
  a3 := Try.isAgg3
  z3 := Try.sizeOf3
  v3 := Try.zeroValue3
  t4 := Try.underlying4
  a4 := Try.isAgg4
  z4 := Try.sizeOf4
  v4 := Try.zeroValue4
  t5 := Try.underlying5
  a5 := Try.isAgg5
  z5 := Try.sizeOf5
  v5 := Try.zeroValue5
  t9 := Try.underlying9
  a9 := Try.isAgg9
  z9 := Try.sizeOf9
  v9 := Try.zeroValue9
  t22 := Try.underlying24
  a22 := Try.isAgg24
  z22 := Try.sizeOf24
  v22 := Try.zeroValue24
  t23 := Try.underlying24
  a23 := Try.isAgg24
  z23 := Try.sizeOf24
  v23 := Try.zeroValue24
  t25 := Try.underlying2
  a25 := Try.isAgg2
  z25 := Try.sizeOf2
  v25 := Try.zeroValue2
  t32 := Try.underlying69
  a32 := Try.isAgg69
  z32 := Try.sizeOf69
  v32 := Try.zeroValue69
  t35 := Try.underlying80
  a35 := Try.isAgg80
  z35 := Try.sizeOf80
  v35 := Try.zeroValue80
  t36 := Try.underlying81
  a36 := Try.isAgg81
  z36 := Try.sizeOf81
  v36 := Try.zeroValue81
  t41 := Try.underlying86
  a41 := Try.isAgg86
  z41 := Try.sizeOf86
  v41 := Try.zeroValue86
  t44 := Try.underlying89
  a44 := Try.isAgg89
  z44 := Try.sizeOf89
  v44 := Try.zeroValue89
  t46 := Try.underlying65
  a46 := Try.isAgg65
  z46 := Try.sizeOf65
  v46 := Try.zeroValue65
  t53 := Try.underlying93
  a53 := Try.isAgg93
  z53 := Try.sizeOf93
  v53 := Try.zeroValue93
  t57 := Try.underlying97
  a57 := Try.isAgg97
  z57 := Try.sizeOf97
  v57 := Try.zeroValue97
  t63 := Try.underlying103
  a63 := Try.isAgg103
  z63 := Try.sizeOf103
  v63 := Try.zeroValue103
  t64 := Try.underlying104
  a64 := Try.isAgg104
  z64 := Try.sizeOf104
  v64 := Try.zeroValue104 }
open Go.Sort Go.RowKit in
theorem Ytbeeecahkchjnaa.slices_Sort_int (blk off cap : Nat) (zs : List Int) (w : World) (hH : Holds (Value.int .i64) w blk off zs.toArray) (hblk : blk < w.heap.size) (hsz : zs.length < 4611686018427387904) :
    Calls Try.prog 47 #[.slice (some ⟨blk, off, none⟩) zs.length cap] w fun e w' =>
      e = .returned (.tuple #[]) ∧ ∃ n os, w' = grow (putRow (Value.int .i64) (Sort.ahead w n) blk off (zs.mergeSort fun x y => decide (x ≤ y)).toArray) os := AnyM.slices_Sort_int Ytbeeecahkchjnaa.laysSort blk off cap zs w hH hblk hsz
open Go.RowKit Go.Sort in
/-- .. and plain. (LAID AT THE INSTANCE 'slices.Sort[[]int64,int64]': no walk: one application.) -/
theorem Ytbeeecahkchjnaa.slices_Sort_int_none (p : Option Addr) (cap : Nat) (w : World) :
    Calls Try.prog 47 #[.slice p 0 cap] w fun e w' => e = .returned (.tuple #[]) ∧ w' = w := AnyM.slices_Sort_int_none Ytbeeecahkchjnaa.laysSort p cap w
end Go.Proofs
/- Contracts: the laws' lists of numbers are intact. -/
namespace Go.Proofs.Ytbeeecahkchjnaa
open Go.RowKit
set_option linter.unusedVariables false
set_option linter.unusedSimpArgs false
end Go.Proofs.Ytbeeecahkchjnaa

