/- Texts of the claim, in build order: IR1, IR2, IR3, MB2, OB1, OB2, OB3, OA1, OB4, OC1, OC3. No condition. -/
import Derived.Test.YtoagfpdicpcjnaaZGroupOrder10
/- Plain: the rank of a table of numbers modulo a prime, by elimination. -/
namespace Go.Proofs.Ytoagfpdicpcjnaa
set_option linter.unusedVariables false
set_option linter.unusedSimpArgs false
/-- The first row from f on that is not 0 in column c; N if there is none. -/
def piv (M : Nat → Nat → Int) (c N f : Nat) : Nat := if f < N ∧ M f c = 0 then piv M c N (f + 1) else f
termination_by N - f
theorem piv_step {M : Nat → Nat → Int} {c N f : Nat} (h1 : f < N) (h2 : M f c = 0) : piv M c N f = piv M c N (f + 1) := by
  conv => lhs; rw [piv]
  rw [if_pos ⟨h1, h2⟩]
theorem piv_stop {M : Nat → Nat → Int} {c N f : Nat} (h : f < N → ¬ M f c = 0) : piv M c N f = f := by
  rw [piv, if_neg (fun x => h x.1 x.2)]
def swp {α : Type} (M : Nat → α) (r f : Nat) : Nat → α := fun i => if i = r then M f else if i = f then M r else M i
/-- Row r taken from the rows behind it, from column c on. -/
def elm (q : Int) (c r : Nat) (M : Nat → Nat → Int) : Nat → Nat → Int := fun i k => if r < i ∧ ¬ M i c = 0 ∧ c ≤ k then (M i k - (M i c * invP q (M r c)) % q * M r k) % q else M i k
def stp (q : Int) (N c : Nat) (s : Nat × (Nat → Nat → Int)) : Nat × (Nat → Nat → Int) := if piv s.2 c N s.1 = N then s else (s.1 + 1, elm q c s.1 (swp s.2 s.1 (piv s.2 c N s.1)))
def elim (q : Int) (N : Nat) (M0 : Nat → Nat → Int) : Nat → Nat × (Nat → Nat → Int)
  | 0 => (0, M0)
  | c + 1 => stp q N c (elim q N M0 c)
theorem elim_le (q : Int) (N : Nat) (M0 : Nat → Nat → Int) : ∀ c, (elim q N M0 c).1 ≤ c
  | 0 => Nat.le_refl _
  | c + 1 => by
    have := elim_le q N M0 c
    show (stp q N c (elim q N M0 c)).1 ≤ c + 1
    unfold stp
    split
    · omega
    · show (elim q N M0 c).1 + 1 ≤ c + 1
      omega
def Bd (q : Int) (M : Nat → Nat → Int) : Prop := ∀ i k, 0 ≤ M i k ∧ M i k < q
theorem elm_bd {q : Int} {c r : Nat} {M : Nat → Nat → Int} (hq : 0 < q) (h : Bd q M) : Bd q (elm q c r M) := fun i k => by
  unfold elm
  split
  · exact ⟨Int.emod_nonneg _ (by omega), Int.emod_lt_of_pos _ hq⟩
  · exact h i k
theorem swp_bd {q : Int} {r f : Nat} {M : Nat → Nat → Int} (h : Bd q M) : Bd q (swp M r f) := fun i k => by
  unfold swp
  split
  · exact h f k
  · split
    · exact h r k
    · exact h i k
theorem elim_bd {q : Int} {N : Nat} {M0 : Nat → Nat → Int} (hq : 0 < q) (h : Bd q M0) : ∀ c, Bd q (elim q N M0 c).2
  | 0 => h
  | c + 1 => by
    have := elim_bd (N := N) hq h c
    show Bd q (stp q N c (elim q N M0 c)).2
    unfold stp
    split
    · exact this
    · exact elm_bd hq (swp_bd this)
theorem stp_none {q : Int} {N c r : Nat} {M : Nat → Nat → Int} (h : piv M c N r = N) : stp q N c (r, M) = (r, M) := by unfold stp; rw [if_pos h]
theorem stp_some {q : Int} {N c r : Nat} {M : Nat → Nat → Int} (h : ¬ piv M c N r = N) : stp q N c (r, M) = (r + 1, elm q c r (swp M r (piv M c N r))) := by unfold stp; rw [if_neg h]
/-- A up to row i and column k of it, B behind. -/
def mix (i k : Nat) (A B : Nat → Nat → Int) : Nat → Nat → Int := fun j l => if j < i ∨ (j = i ∧ l < k) then A j l else B j l
section
variable {q : Int} {c r i k N : Nat} {B : Nat → Nat → Int}
theorem elm_same (h : ¬ r < i ∨ B i c = 0 ∨ k < c) : elm q c r B i k = B i k := by
  unfold elm
  rw [if_neg]
  rintro ⟨h1, h2, h3⟩
  rcases h with h | h | h
  · exact h h1
  · exact h2 h
  · omega
theorem elm_new (h1 : r < i) (h2 : ¬ B i c = 0) (h3 : c ≤ k) : elm q c r B i k = (B i k - (B i c * invP q (B r c)) % q * B r k) % q := by
  unfold elm; rw [if_pos ⟨h1, h2, h3⟩]
theorem elm_other (h1 : r < i) (h2 : ¬ B i c = 0) (h3 : c ≤ k) : (B i k + (q - (B i c * invP q (B r c)) % q) * B r k) % q = elm q c r B i k := by
  rw [elm_new h1 h2 h3]
  have e : B i k + (q - (B i c * invP q (B r c)) % q) * B r k = (B i k - (B i c * invP q (B r c)) % q * B r k) + q * B r k := by
    rw [Int.sub_mul]; omega
  rw [e, Int.add_mul_emod_self_left]
theorem mix_first : mix (r + 1) 0 (elm q c r B) B = B := by
  funext j l
  unfold mix
  split
  · exact elm_same (.inl (by omega))
  · rfl
theorem mix_cut : mix i 0 (elm q c r B) B = mix i c (elm q c r B) B := by
  funext j l
  unfold mix
  by_cases h : j < i ∨ (j = i ∧ l < 0)
  · rw [if_pos h, if_pos (by omega)]
  · rw [if_neg h]
    by_cases h2 : j < i ∨ (j = i ∧ l < c)
    · rw [if_pos h2]; exact (elm_same (.inr (.inr (by omega)))).symm
    · rw [if_neg h2]
theorem mix_skip (h : B i c = 0) : mix i 0 (elm q c r B) B = mix (i + 1) 0 (elm q c r B) B := by
  funext j l
  unfold mix
  by_cases h1 : j < i ∨ (j = i ∧ l < 0)
  · rw [if_pos h1, if_pos (by omega)]
  · rw [if_neg h1]
    by_cases h2 : j < i + 1 ∨ (j = i + 1 ∧ l < 0)
    · rw [if_pos h2]
      obtain rfl : j = i := by omega
      exact (elm_same (.inr (.inl h))).symm
    · rw [if_neg h2]
theorem mix_row {A : Nat → Nat → Int} {j l : Nat} (hl : l < N) : mix i N A B j l = mix (i + 1) 0 A B j l := by
  unfold mix
  by_cases h1 : j < i ∨ (j = i ∧ l < N)
  · rw [if_pos h1, if_pos (by omega)]
  · rw [if_neg h1, if_neg (by omega)]
theorem mix_end {A : Nat → Nat → Int} {j l : Nat} (hj : j < N) : mix N 0 A B j l = A j l := by unfold mix; rw [if_pos (.inl hj)]
theorem mix_set {A : Nat → Nat → Int} : (fun j l => if j = i ∧ l = k then A i k else mix i k A B j l) = mix i (k + 1) A B := by
  funext j l
  unfold mix
  by_cases h : j = i ∧ l = k
  · rw [if_pos h, if_pos (by omega), h.1, h.2]
  · rw [if_neg h]
    by_cases h2 : j < i ∨ (j = i ∧ l < k)
    · rw [if_pos h2, if_pos (by omega)]
    · rw [if_neg h2, if_neg (by omega)]
theorem mix_at {A : Nat → Nat → Int} {l : Nat} (h : k ≤ l) : mix i k A B i l = B i l := by unfold mix; rw [if_neg (by omega)]
theorem mix_top {l : Nat} (h : r < i) : mix i k (elm q c r B) B r l = B r l := by
  unfold mix
  rw [if_pos (.inl h)]
  exact elm_same (.inl (by omega))
end
end Go.Proofs.Ytoagfpdicpcjnaa
/- Tables of numbers in memory: rows in blocks of their own, their headers in one. -- own lists -- numbers -/
namespace Go.Proofs.Ytoagfpdicpcjnaa
open Go.RowKit
set_option linter.unusedVariables false
set_option linter.unusedSimpArgs false
@[reducible] def rowV (N : Nat) (q : Nat × Nat) : Value := .slice (some ⟨q.1, 0, none⟩) N q.2
structure RowF (W : World) (g cap N : Nat) (F : Nat → Int) : Prop where
  room : RoomI W g cap 2
  le : N ≤ cap
  at_ : ∀ j, j < N → W.cell? ⟨g, j, none⟩ = some (.int .i64 (F j))
section
variable {W W' : World} {g g' cap N k : Nat} {F G : Nat → Int}
theorem RowF.blk (h : RowF W g cap N F) (e : W'.heap[g]? = W.heap[g]?) : RowF W' g cap N F := by
  obtain ⟨⟨cur, h1, h2⟩, h3, h4⟩ := h
  refine ⟨⟨cur, e.trans h1, h2⟩, h3, fun j hj => ?_⟩
  rw [← h4 j hj]; unfold World.cell?; rw [e]
theorem RowF.lt (h : RowF W g cap N F) : g < W.heap.size := h.room.lt
theorem RowF.below (h : RowF W g cap N F) (hb : Below W.heap.size W W') : RowF W' g cap N F := h.blk (hb.block _ h.lt)
theorem RowF.link (l : Link W W') (h : RowF W g cap N F) : RowF W' g cap N F := h.below l.out
theorem RowF.alloc (h : RowF W g cap N F) (o : Obj) : RowF (W.alloc o) g cap N F := h.below (bal (Below.refl _ _) o)
theorem RowF.set (h : RowF W g cap N F) (hk : k < N) (x : Int) : RowF (W.setCell ⟨g, k, none⟩ (.int .i64 x)) g cap N (fun j => if j = k then x else F j) := by
  refine ⟨h.room.set k _, h.le, fun j hj => ?_⟩
  by_cases e : j = k
  · subst e
    rw [World.cell?_setCell_same _ _ _ (h.at_ j hj)]
    simp
  · rw [World.cell?_setCell_other _ _ _ _ (fun h => e (by cases h; rfl)), h.at_ j hj]
    simp [e]
theorem setCell_blk (W : World) {g g' : Nat} (hne : g ≠ g') (k : Nat) (v : Value) : (W.setCell ⟨g', k, none⟩ v).heap[g]? = W.heap[g]? := by
  simp [World.setCell, Array.getElem?_modify, Ne.symm hne]
theorem RowF.other (h : RowF W g cap N F) (hne : g ≠ g') (k : Nat) (v : Value) : RowF (W.setCell ⟨g', k, none⟩ v) g cap N F := h.blk (setCell_blk W hne k v)
theorem RowF.congr (h : RowF W g cap N F) (e : ∀ j, j < N → F j = G j) : RowF W g cap N G := ⟨h.room, h.le, fun j hj => by rw [h.at_ j hj, e j hj]⟩
end
theorem room_ne {W : World} {g g' c c' : Nat} {T T' : TypeId} (h : RoomI W g c T) (h' : RoomI W g' c' T') (hT : T ≠ T') : g ≠ g' := by
  rintro rfl
  obtain ⟨_, h1, _⟩ := h
  obtain ⟨_, h2, _⟩ := h'
  rw [h1] at h2
  cases h2
  exact hT rfl
/-- A cell that holds a value; a cell that may be stored to. -/
structure CellK (W : World) (g k : Nat) (v : Value) : Prop where
  out : W.cell? ⟨g, k, none⟩ = some v
structure StK (W : World) (g k : Nat) : Prop where
  out : (W.cell? ⟨g, k, none⟩).isSome = true ∧ W.frozen? ⟨g, k, none⟩ = false ∧ g < W.heap.size
theorem CellK.link {W W' : World} {g k : Nat} {v : Value} (l : Link W W') (h : CellK W g k v) : CellK W' g k v := ⟨cell_below l.out h.out⟩
theorem CellK.alloc {W : World} {g k : Nat} {v : Value} (h : CellK W g k v) (o : Obj) : CellK (W.alloc o) g k v := ⟨cell_below (bal (Below.refl _ _) o) h.out⟩
theorem StK.link {W W' : World} {g k : Nat} (l : Link W W') (h : StK W g k) : StK W' g k := by
  obtain ⟨h1, h2, h3⟩ := h.out
  have e := l.out.block g h3
  refine ⟨?_, ?_, Nat.lt_of_lt_of_le h3 l.out.size⟩
  · unfold World.cell? at h1 ⊢; rw [e]; exact h1
  · unfold World.frozen? at h2 ⊢; rw [e]; exact h2
theorem RowF.cell {W : World} {g cap N k : Nat} {F : Nat → Int} (h : RowF W g cap N F) (hk : k < N) : CellK W g k (.int .i64 (F k)) := ⟨h.at_ k hk⟩
theorem RowF.st {W : World} {g cap N k : Nat} {F : Nat → Int} (h : RowF W g cap N F) (hk : k < N) : StK W g k := ⟨h.room.some k (Nat.lt_of_lt_of_le hk h.le), h.room.frozen k, h.lt⟩
/-- The rows of a table. -/
structure RowsK (W : World) (B k N : Nat) (gs : Nat → Nat × Nat) (M : Nat → Nat → Int) : Prop where
  row : ∀ i, i < k → RowF W (gs i).1 (gs i).2 N (M i)
  low : ∀ i, i < k → B ≤ (gs i).1
  inj : ∀ i j, i < k → j < k → (gs i).1 = (gs j).1 → i = j
section
variable {W W' : World} {B k N i c : Nat} {gs : Nat → Nat × Nat} {M M' : Nat → Nat → Int}
theorem RowsK.blk (h : RowsK W B k N gs M) (e : ∀ i, i < k → W'.heap[(gs i).1]? = W.heap[(gs i).1]?) : RowsK W' B k N gs M := ⟨fun i hi => (h.row i hi).blk (e i hi), h.low, h.inj⟩
theorem RowsK.link (l : Link W W') (h : RowsK W B k N gs M) : RowsK W' B k N gs M := h.blk (fun i hi => l.out.block _ (h.row i hi).lt)
theorem RowsK.alloc (h : RowsK W B k N gs M) (o : Obj) : RowsK (W.alloc o) B k N gs M := h.blk (fun i hi => (bal (Below.refl _ _) o : Below W.heap.size W (W.alloc o)).block _ (h.row i hi).lt)
theorem RowsK.grew {u : Value} (hg : Grew W u W') (ho : ∀ i, i < k → Off u (gs i).1) (h : RowsK W B k N gs M) : RowsK W' B k N gs M := h.blk (fun i hi => hg.out.block _ (h.row i hi).lt (fun e => (ho i hi).out e.symm))
theorem RowsK.other {g' : Nat} (h : RowsK W B k N gs M) (hne : ∀ i, i < k → (gs i).1 ≠ g') (c : Nat) (v : Value) : RowsK (W.setCell ⟨g', c, none⟩ v) B k N gs M := h.blk (fun i hi => setCell_blk W (hne i hi) c v)
theorem RowsK.set (h : RowsK W B k N gs M) (hi : i < k) (hc : c < N) (x : Int) : RowsK (W.setCell ⟨(gs i).1, c, none⟩ (.int .i64 x)) B k N gs (fun j l => if j = i ∧ l = c then x else M j l) := by
  refine ⟨fun j hj => ?_, h.low, h.inj⟩
  by_cases e : j = i
  · subst e
    exact ((h.row j hj).set hc x).congr (fun l hl => by by_cases e2 : l = c <;> simp [e2])
  · exact ((h.row j hj).other (fun e2 => e (h.inj j i hj hi e2)) c _).congr (fun l hl => by simp [e])
theorem RowsK.congr (h : RowsK W B k N gs M) (e : ∀ i l, i < k → l < N → M i l = M' i l) : RowsK W B k N gs M' := ⟨fun i hi => (h.row i hi).congr (fun l hl => e i l hi hl), h.low, h.inj⟩
theorem RowsK.swap {r f : Nat} (h : RowsK W B k N gs M) (hr : r < k) (hf : f < k) : RowsK W B k N (swp gs r f) (swp M r f) := by
  have key : ∀ i, i < k → ∃ j, j < k ∧ swp gs r f i = gs j ∧ swp M r f i = M j ∧ j = (if i = r then f else if i = f then r else i) := by
    intro i hi
    unfold swp
    by_cases h1 : i = r
    · exact ⟨f, hf, by rw [if_pos h1], by rw [if_pos h1], by rw [if_pos h1]⟩
    · by_cases h2 : i = f
      · exact ⟨r, hr, by rw [if_neg h1, if_pos h2], by rw [if_neg h1, if_pos h2], by rw [if_neg h1, if_pos h2]⟩
      · exact ⟨i, hi, by rw [if_neg h1, if_neg h2], by rw [if_neg h1, if_neg h2], by rw [if_neg h1, if_neg h2]⟩
  refine ⟨fun i hi => ?_, fun i hi => ?_, fun i j hi hj e => ?_⟩
  · obtain ⟨j, hj, e1, e2, -⟩ := key i hi
    rw [e1, e2]; exact h.row j hj
  · obtain ⟨j, hj, e1, e2, -⟩ := key i hi
    rw [e1]; exact h.low j hj
  · obtain ⟨i', hi', e1, -, x1⟩ := key i hi
    obtain ⟨j', hj', e2, -, x2⟩ := key j hj
    rw [e1, e2] at e
    have := h.inj i' j' hi' hj' e
    rw [x1, x2] at this
    clear e e1 e2 x1 x2
    split at this <;> split at this <;> (try split at this) <;> (try split at this) <;> omega
theorem RowsK.snoc {g cap : Nat} {F : Nat → Int} (h : RowsK W B k N gs M) (hF : RowF W g cap N F) (hB : B ≤ g) (hne : ∀ i, i < k → (gs i).1 ≠ g) (hM : ∀ l, l < N → F l = M k l) :
    RowsK W B (k + 1) N (fun i => if i = k then (g, cap) else gs i) M := by
  refine ⟨fun i hi => ?_, fun i hi => ?_, fun i j hi hj e => ?_⟩
  · by_cases e : i = k
    · subst e; simp only [if_true]; exact hF.congr hM
    · simp only [e, if_false]; exact h.row i (by omega)
  · by_cases e : i = k
    · subst e; simp only [if_true]; exact hB
    · simp only [e, if_false]; exact h.low i (by omega)
  · by_cases e1 : i = k <;> by_cases e2 : j = k <;> simp only [e1, e2, if_true, if_false] at e
    · omega
    · exact absurd e.symm (hne j (by omega))
    · exact absurd e (hne i (by omega))
    · exact h.inj i j (by omega) (by omega) e
theorem RowsK.nil (W : World) (B N : Nat) (gs : Nat → Nat × Nat) (M : Nat → Nat → Int) : RowsK W B 0 N gs M := ⟨fun i hi => absurd hi (Nat.not_lt_zero _), fun i hi => absurd hi (Nat.not_lt_zero _), fun i j hi => absurd hi (Nat.not_lt_zero _)⟩
end
/-- The headers of the rows. -/
structure HdK (W : World) (g0 cap0 N : Nat) (gs : Nat → Nat × Nat) : Prop where
  room : RoomI W g0 cap0 73
  le : N ≤ cap0
  at_ : ∀ i, i < N → W.cell? ⟨g0, i, none⟩ = some (rowV N (gs i))
section
variable {W W' : World} {g0 cap0 N i : Nat} {gs : Nat → Nat × Nat}
theorem HdK.blk (h : HdK W g0 cap0 N gs) (e : W'.heap[g0]? = W.heap[g0]?) : HdK W' g0 cap0 N gs := by
  obtain ⟨⟨cur, h1, h2⟩, h3, h4⟩ := h
  refine ⟨⟨cur, e.trans h1, h2⟩, h3, fun j hj => ?_⟩
  rw [← h4 j hj]; unfold World.cell?; rw [e]
theorem HdK.lt (h : HdK W g0 cap0 N gs) : g0 < W.heap.size := h.room.lt
theorem HdK.link (l : Link W W') (h : HdK W g0 cap0 N gs) : HdK W' g0 cap0 N gs := h.blk (l.out.block _ h.lt)
theorem HdK.other {g' : Nat} (h : HdK W g0 cap0 N gs) (hne : g0 ≠ g') (k : Nat) (v : Value) : HdK (W.setCell ⟨g', k, none⟩ v) g0 cap0 N gs := h.blk (setCell_blk W hne k v)
theorem HdK.set (h : HdK W g0 cap0 N gs) (hi : i < N) (q : Nat × Nat) : HdK (W.setCell ⟨g0, i, none⟩ (rowV N q)) g0 cap0 N (fun j => if j = i then q else gs j) := by
  refine ⟨h.room.set i _, h.le, fun j hj => ?_⟩
  by_cases e : j = i
  · subst e
    rw [World.cell?_setCell_same _ _ _ (h.at_ j hj)]
    simp
  · rw [World.cell?_setCell_other _ _ _ _ (fun h => e (by cases h; rfl)), h.at_ j hj]
    simp [e]
theorem HdK.cell (h : HdK W g0 cap0 N gs) (hi : i < N) : CellK W g0 i (rowV N (gs i)) := ⟨h.at_ i hi⟩
theorem HdK.st (h : HdK W g0 cap0 N gs) (hi : i < N) : StK W g0 i := ⟨h.room.some i (Nat.lt_of_lt_of_le hi h.le), h.room.frozen i, h.lt⟩
theorem HdK.congr {gs' : Nat → Nat × Nat} (h : HdK W g0 cap0 N gs) (e : ∀ i, i < N → gs i = gs' i) : HdK W g0 cap0 N gs' := ⟨h.room, h.le, fun j hj => by rw [h.at_ j hj, e j hj]⟩
theorem HdK.ne {B k : Nat} {M : Nat → Nat → Int} {gs' : Nat → Nat × Nat} (h : HdK W g0 cap0 N gs) (hR : RowsK W B k N gs' M) (hi : i < k) : (gs' i).1 ≠ g0 := room_ne (hR.row i hi).room h.room (by decide)
end
def rowVs (N : Nat) (gs : Nat → Nat × Nat) (k : Nat) : List Value := (List.range k).map (fun i => rowV N (gs i))
theorem rowVs_length (N : Nat) (gs : Nat → Nat × Nat) (k : Nat) : (rowVs N gs k).length = k := by simp [rowVs]
theorem rowVs_snoc (N : Nat) (gs : Nat → Nat × Nat) (k : Nat) (q : Nat × Nat) : rowVs N gs k ++ [rowV N q] = rowVs N (fun i => if i = k then q else gs i) (k + 1) := by
  unfold rowVs
  rw [List.range_succ, List.map_append]
  congr 1
  · refine List.map_congr_left (fun i hi => ?_)
    have := List.mem_range.1 hi
    simp [show i ≠ k by omega]
  · simp
theorem OwnK.hd {W : World} {B N : Nat} {v : Value} {gs : Nat → Nat × Nat} (h : OwnK W B 73 1 v N (rowVs N gs N)) (hn : 0 < N) :
    ∃ g cap, v = .slice (some ⟨g, 0, none⟩) N cap ∧ B ≤ g ∧ HdK W g cap N gs := by
  rcases h.out.2 with ⟨_, h0⟩ | ⟨g, cap, cur, rfl, hb, hg, hle, _, hsz, htk⟩
  · omega
  · refine ⟨g, cap, rfl, hb, ⟨cur, hg, by simpa using hsz⟩, hle, fun i hi => ?_⟩
    rw [cell_of_row W g i _ _ _ hg]
    have h1 : (cur.toList.take (N * 1))[i]? = (rowVs N gs N)[i]? := by rw [htk]
    rw [Nat.mul_one, List.getElem?_take_of_lt hi] at h1
    rw [← Array.getElem?_toList, h1]
    simp [rowVs, hi]
theorem rowF_own {W : World} {B N : Nat} {v : Value} {l : List Int} (h : OwnK W B 2 1 v N (ints l)) (hl : l.length = N) (hn : 0 < N) :
    ∃ g cap, v = .slice (some ⟨g, 0, none⟩) N cap ∧ B ≤ g ∧ RowF W g cap N (fun j => l.getD j 0) := by
  rcases h.out.2 with ⟨_, h0⟩ | ⟨g, cap, cur, rfl, hb, hg, hle, _, hsz, htk⟩
  · omega
  · refine ⟨g, cap, rfl, hb, ⟨cur, hg, by simpa using hsz⟩, hle, fun i hi => ?_⟩
    rw [cell_of_row W g i _ _ _ hg]
    have h1 : (cur.toList.take (N * 1))[i]? = (Go.Proofs.Ytoagfpdicpcjnaa.ints l)[i]? := by rw [htk]
    rw [Nat.mul_one, List.getElem?_take_of_lt hi] at h1
    rw [← Array.getElem?_toList, h1]
    unfold Go.Proofs.Ytoagfpdicpcjnaa.ints
    have hil : i < l.length := by omega
    simp [List.getD, hil]
theorem eltSl : EltK Try.prog 93 73 1 := by
  obtain ⟨i0, hi, hz0, hz1, hz2⟩ := info_parts (show (Try.prog.info? 73).map (fun i => (i.zero, i.size, i.bytes)) = some (some (.slice none 0 0), 1, 24) by kernel_rfl)
  exact ⟨Try.underlying93, i0, _, hi, hz0, hz1, rfl, by decide, by decide, by rw [hz2]; decide⟩
end Go.Proofs.Ytoagfpdicpcjnaa
/- Walks over tables of numbers: loads and stores of one cell, 'make', and the searches for them. -- tables -/
namespace Go.Proofs.Ytoagfpdicpcjnaa
open Go.RowKit
set_option linter.unusedVariables false
set_option linter.unusedSimpArgs false
theorem StK.viaLow {W W' : World} {g k : Nat} (h : StK W g k) (l : LowK W W') : StK W' g k := h.link (LowK.lnk l)
theorem CellK.viaLow {W W' : World} {g k : Nat} {v : Value} (h : CellK W g k v) (l : LowK W W') : CellK W' g k v := h.link (LowK.lnk l)
theorem LowK.setCell {w W : World} {g : Nat} (hg : w.heap.size ≤ g) (k : Nat) (v : Value) (h : LowK w W) : LowK w (W.setCell ⟨g, k, none⟩ v) := ⟨h.out.setCell hg _⟩
theorem RowK.setCell {W : World} {g g' : Nat} {cs : Array Value} {T : TypeId} (h : RowK W g cs T) (hne : g ≠ g') (k : Nat) (v : Value) : RowK (W.setCell ⟨g', k, none⟩ v) g cs T := ⟨(setCell_blk W hne k v).trans h.out⟩
theorem Off.row {W : World} {B n g cap N : Nat} {v : Value} {xs : List Value} {F : Nat → Int} (hO : OwnK W B 73 1 v n xs) (hF : RowF W g cap N F) : Off v g := by
  refine ⟨fun e => ?_⟩
  obtain ⟨cur, h1, -⟩ := hF.room
  rcases hO.out.2 with ⟨rfl, _⟩ | ⟨g2, c2, cur2, rfl, _, h2, _⟩
  · simp [Value.ownBlock] at e
  · simp [Value.ownBlock] at e
    subst e
    rw [h1] at h2
    have := congrArg (fun o : Option Obj => match o with | some (.cells _ T _) => T | _ => 0) h2
    exact absurd (show (2 : TypeId) = 73 from this) (by decide)
theorem RowF.grew {w W : World} {u : Value} {g cap N : Nat} {F : Nat → Int} (hg : Grew w u W) (ho : Off u g) (h : RowF w g cap N F) : RowF W g cap N F := h.blk (hg.out.block g h.lt (fun e => ho.out e.symm))
theorem RowF.grewO {w W : World} {u : Value} {o : Obj} {B' n g cap N : Nat} {xs : List Value} {F : Nat → Int} (hg : Grew (w.alloc o) u W) (hO : OwnK w B' 73 1 u n xs) (h : RowF w g cap N F) : RowF W g cap N F := RowF.grew hg (Off.row (hO.alloc o) (h.alloc o)) (h.alloc o)
theorem RowsK.grewO {w W : World} {u : Value} {o : Obj} {B' n B k N : Nat} {xs : List Value} {gs : Nat → Nat × Nat} {M : Nat → Nat → Int} (hg : Grew (w.alloc o) u W) (hO : OwnK w B' 73 1 u n xs) (h : RowsK w B k N gs M) : RowsK W B k N gs M :=
  ⟨fun i hi => (h.row i hi).grewO hg hO, h.low, h.inj⟩
theorem CellK.of {W : World} {g k : Nat} {v : Value} (h : CellK W g k v) : W.cell? ⟨g, k, none⟩ = some v := h.out
section
variable {ρ : Operand → Value} {ops : Array Oper} {rest : List Oper} {o : Oper} {a : Act} {w W : World} {Q : Exit → Act → World → Prop} {ty : TypeId} {x y : Operand}
theorem ld_cell {g k : Nat} {v : Value} (hop : o.op = .load ty x := by exact rfl) (hx : ρ x = .pointer (some ⟨g, k, none⟩) := by exact rfl)
    (hc : CellK W g k v := by first | with_reducible assumption | (with_reducible apply CellK.viaLow; (· with_reducible assumption); (· exact findLow)) | (with_reducible apply CellK.link; (· with_reducible assumption); (· with_reducible assumption)))
    (ha : ∀ W, (isAgg ty).run Try.prog W = .ok false W := by first | exact Try.isAgg2 | exact Try.isAgg73) : (execOp ρ o).run Try.prog W = .ok (.value v) W := by
  have h := hc.out
  unfold execOp
  simp only [hop, hx, Instr.loadAt, Instr.sureAddr, Sem.run_bind, Sem.run_pure, Result.andThen_ok, loadVar, ha, Bool.false_eq_true, if_false]
  rw [run_load]
  simp [h]
theorem wl_loadC {v : Value} (hK : wpList Try.prog ops Q rest (a.put o.dst v) w) (hgd : o.guard = none := by exact rfl) (hop : o.op = .load ty x := by exact rfl)
    (hr : (execOp a.eval o).run Try.prog w = .ok (.value v) w := by exact ld_cell) : wpList Try.prog ops Q (o :: rest) a w := wpList_load_any w hgd ty x hop hr hK
theorem q_loadC {G : Grow0 w} {K : Act → Prop} {v : Value} (hK : K (a.put o.dst v)) (hop : o.op = .load ty x := by exact rfl)
    (h : ∀ W, Link w W → (execOp a.eval o).run Try.prog W = .ok (.value v) W := by (intro W hl; exact ld_cell)) : o.quiet Try.prog a (fun w' => ∃ g : Grow w G, w' = g.W) K := q_load_any ty x hop h hK
theorem wl_storeC {g k : Nat} {v : Value} (hK : wpList Try.prog ops Q rest a (w.setCell ⟨g, k, none⟩ v)) (hgd : o.guard = none := by exact rfl) (hop : o.op = .store ty x y := by exact rfl) (hd : o.dst = none := by exact rfl)
    (hx : a.eval x = .pointer (some ⟨g, k, none⟩) := by exact rfl) (hy : a.eval y = v := by conv => lhs; whnf)
    (hS : StK w g k := by first | with_reducible assumption | (with_reducible apply StK.viaLow; (· with_reducible assumption); (· exact findLow)) | (with_reducible apply StK.link; (· with_reducible assumption); (· with_reducible assumption)))
    (h1 : v.cells = #[v] := by exact rfl) (h2 : v.oneCell' = true := by exact rfl) (hs : ∀ W, (sizeOf ty).run Try.prog W = .ok 1 W := by first | exact Try.sizeOf2 | exact Try.sizeOf73) : wpList Try.prog ops Q (o :: rest) a w := by
  obtain ⟨s1, s2, -⟩ := hS.out
  obtain ⟨u, hu⟩ := Option.isSome_iff_exists.1 s1
  have hr : (execOp a.eval o).run Try.prog w = .ok .skip (w.setCell ⟨g, k, none⟩ v) := by
    unfold execOp
    simp only [hop, hx, hy, Instr.storeAt, Instr.sureAddr, Sem.run_bind, Sem.run_pure, Result.andThen_ok, storeVar, hs, h1]
    have e : ((⟨g, k, none⟩ : Addr).add 0) = ⟨g, k, none⟩ := by unfold Addr.add; split <;> simp_all
    simp [storeCells, e, run_store, h2, hu, s2, go_sem]
  refine wpList_plain hgd fun K hK' => ?_
  unfold Oper.wp
  rw [hr]
  simp only [Oper.upon, hd]
  exact hK' _ _ hK
theorem wl_make {l c : Operand} {N : Nat} (hK : ∀ g W', w.heap.size = g → Link w W' → RowF W' g N N (fun _ => 0) → wpList Try.prog ops Q rest (a.put o.dst (.slice (some ⟨g, 0, none⟩) N N)) W') (hgd : o.guard = none := by exact rfl)
    (hop : o.op = .makeSlice 73 l c := by exact rfl) (hl : a.eval l = .int .i64 (N : Int) := by exact rfl) (hc : a.eval c = .int .i64 (N : Int) := by exact rfl) (hN : N ≤ 100000 := by omega) : wpList Try.prog ops Q (o :: rest) a w := by
  obtain ⟨i0, hi, hz0, hz1, hz2⟩ := info_parts (show (Try.prog.info? 2).map (fun i => (i.zero, i.size, i.bytes)) = some (some (.int .i64 0), 1, 8) by kernel_rfl)
  refine wpList_make_ints w hgd l c 73 hop 2 i0 Try.underlying73 hi hz0 hz1 .i64 .i64 N _ rfl hl hc (by rw [hz2]; omega) (by omega) fun W' hb hr hp hlt => hK _ W' rfl ⟨hb⟩ ⟨hr, Nat.le_refl _, fun j hj => ?_⟩
  have := hp j hj
  rw [Nat.zero_add] at this
  rw [this]
  simp [List.getD, hj]
end
end Go.Proofs.Ytoagfpdicpcjnaa
/- Go maps keyed by points, with numbers: looked up and written. -/
namespace Go.Proofs.Ytoagfpdicpcjnaa
open Go.RowKit
set_option linter.unusedVariables false
set_option linter.unusedSimpArgs false
theorem checkKey_P (em : Bool) (n : Nat) (t : Pt) (W : World) : (Instr.checkKey em (n + 1 + 1) 33 (pV t)).run Try.prog W = .ok () W := by
  show (Instr.checkKey em (n + 1 + 1) 33 (.agg #[.int .i64 t.1, .int .i64 t.2.1, .int .i64 t.2.2])).run Try.prog W = .ok () W
  unfold Instr.checkKey
  rw [Sem.run_bind, run_underlying Try.underlying33, Result.andThen_ok]
  have q0 := part_int #[.int .i64 t.1, .int .i64 t.2.1, .int .i64 t.2.2] 0 _ rfl
  have q1 := part_int #[.int .i64 t.1, .int .i64 t.2.1, .int .i64 t.2.2] 1 _ rfl
  have q2 := part_int #[.int .i64 t.1, .int .i64 t.2.1, .int .i64 t.2.2] 2 _ rfl
  simp [Std.Legacy.Range.forIn_eq_forIn_range', Std.Legacy.Range.size, List.range', List.forIn_cons, Sem.run_bind, Try.sizeOf2, Sem.run_pure, q0, q1, q2, checkKey_int]
theorem equal_P (x y : Pt) (W : World) : (Op.equal 33 (pV x) (pV y)).run Try.prog W = .ok (decide (x = y)) W := by
  have h := eqAPt W x.1 x.2.1 x.2.2 y.1 y.2.1 y.2.2
  have e : (x.1 == y.1 && (x.2.1 == y.2.1 && x.2.2 == y.2.2)) = decide (x = y) := by
    show eqP x y = decide (x = y)
    rw [Bool.eq_iff_iff, eqP_iff, decide_eq_true_iff]
  rw [e] at h
  exact h
def entP (L : List Pt) (s : Nat) : List (Value × Value) := (L.zipIdx s).map fun t => (pV t.1, .int .i64 (t.2 : Int))
theorem find_P (x : Pt) (W : World) : ∀ (es : List MapEntry) (L : List Pt) (s i : Nat), es.map (fun e => (e.key, e.val)) = entP L s →
    (x ∉ L → (Instr.findAsking 33 (pV x) es i).run Try.prog W = .ok none W) ∧ (x ∈ L → ∃ j, (Instr.findAsking 33 (pV x) es i).run Try.prog W = .ok (some (j, .int .i64 ((s + L.idxOf x : Nat) : Int))) W)
  | [], L, s, i, h => by
    obtain rfl : L = [] := by
      cases L with
      | nil => rfl
      | cons y L => simp [entP] at h
    exact ⟨fun _ => rfl, fun h => by simp at h⟩
  | e :: es, [], s, i, h => by simp [entP] at h
  | e :: es, y :: L, s, i, h => by
    simp only [entP, List.zipIdx_cons, List.map_cons, List.cons.injEq, Prod.mk.injEq] at h
    obtain ⟨⟨h1, h3⟩, h2⟩ := h
    obtain ⟨k1, k2⟩ := find_P x W es L (s + 1) (i + 1) h2
    have hq := equal_P x y W
    rw [← h1] at hq
    by_cases hxy : x = y
    · rw [show decide (x = y) = true by simpa using hxy] at hq
      refine ⟨fun hn => absurd (by rw [hxy]; exact List.mem_cons_self ..) hn, fun _ => ⟨i, ?_⟩⟩
      subst hxy
      simp [Instr.findAsking, Sem.run_bind, hq, h3]
    · rw [show decide (x = y) = false by simpa using hxy] at hq
      refine ⟨fun hn => ?_, fun hm => ?_⟩
      · simp [Instr.findAsking, Sem.run_bind, hq]
        exact k1 (fun hm => hn (List.mem_cons_of_mem _ hm))
      · obtain ⟨j, hr⟩ := k2 (by rcases List.mem_cons.1 hm with h | h; exact absurd h hxy; exact h)
        refine ⟨j, ?_⟩
        have e2 : (y :: L).idxOf x = L.idxOf x + 1 := by
          rw [List.idxOf_cons]
          have : (y == x) = false := by simpa using Ne.symm hxy
          rw [this]; rfl
        rw [e2, show s + (L.idxOf x + 1) = s + 1 + L.idxOf x by omega]
        simp [Instr.findAsking, Sem.run_bind, hq]
        simpa using hr
/-- A Go map from points to their places. -/
structure GoMapP (W : World) (g : Nat) (L : List Pt) : Prop where
  out : ∃ es clock, W.heap[g]? = some (.map es clock) ∧ es.toList.map (fun e => (e.key, e.val)) = entP L 0
theorem GoMapP.lt {W : World} {g : Nat} {L : List Pt} (h : GoMapP W g L) : g < W.heap.size := by
  obtain ⟨es, cl, h1, -⟩ := h.out
  exact (Array.getElem?_eq_some_iff.1 h1).1
theorem GoMapP.blk {W W' : World} {g : Nat} {L : List Pt} (h : GoMapP W g L) (e : W'.heap[g]? = W.heap[g]?) : GoMapP W' g L := by
  obtain ⟨es, cl, h1, h2⟩ := h.out
  exact ⟨es, cl, e.trans h1, h2⟩
theorem GoMapP.link {W W' : World} {g : Nat} {L : List Pt} (l : Link W W') (h : GoMapP W g L) : GoMapP W' g L := h.blk (l.out.block _ h.lt)
theorem GoMapP.alloc {W : World} {g : Nat} {L : List Pt} (h : GoMapP W g L) (ob : Obj) : GoMapP (W.alloc ob) g L := h.blk ((bal (Below.refl _ _) ob : Below W.heap.size W (W.alloc ob)).block _ h.lt)
theorem GoMapP.drew {W : World} {g : Nat} {L : List Pt} (h : GoMapP W g L) : GoMapP W.drew g L := h.blk rfl
theorem GoMapP.new (W : World) : GoMapP (W.alloc (.map #[] 0)) W.heap.size [] := ⟨#[], 0, heap_alloc_new _ _, rfl⟩
theorem GoMapP.set {W : World} {g b : Nat} {U : Array Value} {L : List Pt} (hne : g ≠ b) (h : GoMapP W g L) : GoMapP (W.setRow b U) g L := h.blk (setRow_other _ _ _ _ hne)
theorem GoMapP.off {w : World} {g B n sz : Nat} {T : TypeId} {v : Value} {xs : List Value} {L : List Pt} (hO : OwnK w B T sz v n xs) (h : GoMapP w g L) : v.ownBlock ≠ some g := fun e => by
  obtain ⟨es, cl, h1, -⟩ := h.out
  rcases hO.out.2 with ⟨rfl, _⟩ | ⟨g2, cap, cur, rfl, _, h2, _⟩
  · simp [Value.ownBlock] at e
  · simp [Value.ownBlock] at e
    subst e
    rw [h1] at h2; cases h2
theorem GoMapP.grew {w W : World} {u : Value} {g B n sz : Nat} {T : TypeId} {xs : List Value} {L : List Pt} (hg : Grew w u W) (hO : OwnK w B T sz u n xs) (h : GoMapP w g L) : GoMapP W g L :=
  h.blk (hg.out.block g h.lt (fun e => h.off hO e.symm))
theorem LowK.turnP {w0 w W : World} {g : Nat} (t : TurnK g w W) (hg : w0.heap.size ≤ g) (h : LowK w0 w) : LowK w0 W := LowK.turn t hg h
theorem OwnK.turnP {w W : World} {g B n sz : Nat} {T : TypeId} {v : Value} {xs : List Value} {L : List Pt} (t : TurnK g w W) (hM : GoMapP w g L) (h : OwnK w B T sz v n xs) : OwnK W B T sz v n xs :=
  ⟨own_same h.out fun b hb => t.out.2.1 b (fun e => hM.off h (by rw [hb, e]))⟩
theorem RowK.turnP {w W : World} {g b : Nat} {cs : Array Value} {T : TypeId} {L : List Pt} (t : TurnK g w W) (hM : GoMapP w g L) (h : RowK w b cs T) : RowK W b cs T := by
  refine ⟨(t.out.2.1 b (fun e => ?_)).trans h.out⟩
  subst e
  obtain ⟨es, cl, h1, -⟩ := hM.out
  have h2 := h.out
  rw [h1] at h2; cases h2
theorem lookup_P (g : Nat) (L : List Pt) (x : Pt) (W : World) (h : GoMapP W g L) (hx : x ∈ L) : (Instr.lookup 66 (.map (some g)) (pV x) false).run Try.prog W = .ok (.int .i64 ((L.idxOf x : Nat) : Int)) W := by
  obtain ⟨es, cl, h1, h2⟩ := h.out
  obtain ⟨k1, k2⟩ := find_P x W es.toList L 0 0 h2
  have hf := run_findKey_eq (P := Try.prog) (w := W) (k := 33) (by rw [Try.underlying33]) (pV x) es.toList
  unfold Instr.lookup
  rw [Sem.run_bind, run_underlying Try.underlying66, Result.andThen_ok]
  have hg : (getObj g).run Try.prog W = .ok (.map es cl) W := by simp [getObj, Sem.run, h1]
  have hk : ∀ b, (Instr.checkKey b 10000 33 (pV x)).run Try.prog W = .ok () W := fun b => checkKey_P b 9998 x W
  obtain ⟨j, hr⟩ := k2 hx
  rw [hr] at hf
  simp [Sem.run_bind, hg, hk, hf]
theorem mapUpdate_P (g : Nat) (L : List Pt) (x : Pt) (W : World) (h : GoMapP W g L) (hx : x ∉ L) :
    ∃ W', (Instr.mapUpdate 66 (.map (some g)) (pV x) (.int .i64 (L.length : Int))).run Try.prog W = .ok () W' ∧ GoMapP W' g (L ++ [x]) ∧ W'.heap.size = W.heap.size ∧ (∀ b, b ≠ g → W'.heap[b]? = W.heap[b]?) ∧ W'.os = W.os ∧ W'.tape = W.tape ∧ W'.output = W.output := by
  obtain ⟨es, cl, h1, h2⟩ := h.out
  obtain ⟨k1, -⟩ := find_P x W es.toList L 0 0 h2
  have hf := run_findKey_eq (P := Try.prog) (w := W) (k := 33) (by rw [Try.underlying33]) (pV x) es.toList
  rw [k1 hx] at hf
  have hg : (getObj g).run Try.prog W = .ok (.map es cl) W := by simp [getObj, Sem.run, h1]
  have hk : ∀ b, (Instr.checkKey b 10000 33 (pV x)).run Try.prog W = .ok () W := fun b => checkKey_P b 9998 x W
  have hlt := h.lt
  have hs : ∀ o, (setObj g o).run Try.prog W = .ok () { W with heap := W.heap.setIfInBounds g o } := fun o => by simp [setObj, Sem.run, h1]
  refine ⟨{ W with heap := W.heap.setIfInBounds g (.map (es.push { key := pV x, val := .int .i64 (L.length : Int), born := cl }) (cl + 1)) }, ?_, ⟨es.push { key := pV x, val := .int .i64 (L.length : Int), born := cl }, cl + 1, by simp [hlt], by simp [h2, entP, List.zipIdx_append]⟩, by simp, fun b hb => by simp [Array.getElem?_setIfInBounds, Ne.symm hb], rfl, rfl, rfl⟩
  · unfold Instr.mapUpdate
    rw [Sem.run_bind, run_underlying Try.underlying66, Result.andThen_ok]
    simp [Sem.run_bind, hg, hk, hf, hs]
section
variable {ops : Array Oper} {rest : List Oper} {o : Oper} {a : Act} {w : World} {Q : Exit → Act → World → Prop} {x y z : Operand} {g : Nat} {L : List Pt} {t : Pt}
theorem wl_mapNewP (h : wpList Try.prog ops Q rest (a.put o.dst (.map (some w.heap.size))) (w.alloc (.map #[] 0))) (hgd : o.guard = none := by exact rfl) (ho : o.op = .makeMap 66 none := by exact rfl) : wpList Try.prog ops Q (o :: rest) a w := by
  refine wpList_plain hgd fun K hK' => ?_
  unfold Oper.wp execOp
  simp only [ho, Option.map_none, Sem.run_bind, run_makeMap, Result.andThen_ok]
  exact hK' _ _ h
theorem q_mapLookP {G : Grow0 w} {K : Act → Prop} {v : Nat} (hK : K (a.put o.dst (.int .i64 (v : Int)))) (hM : GoMapP w g L) (hv : t ∈ L ∧ L.idxOf t = v) (ho : o.op = .lookup 66 x y false := by exact rfl) (hx : a.eval x = .map (some g) := by exact rfl) (hy : a.eval y = pV t := by exact rfl) :
    o.quiet Try.prog a (fun w' => ∃ g : Grow w G, w' = g.W) K := by
  obtain ⟨hm, rfl⟩ := hv
  refine q_run _ (fun W hW => ?_) hK
  unfold execOp
  simp only [ho, hx, hy, Sem.run_bind, lookup_P g L t W (hM.link hW) hm, Result.andThen_ok]
  rfl
theorem wl_mapUpdP {v : Int} (h : ∀ W', GoMapP W' g (L ++ [t]) → TurnK g w W' → wpList Try.prog ops Q rest a W') (hM : GoMapP w g L) (ht : t ∉ L) (hn : Hid ((L.length : Int) = v)) (hgd : o.guard = none := by exact rfl) (ho : o.op = .mapUpdate 66 x y z ∨ o.op = .insert 66 x y z) (hd : o.dst = none := by exact rfl)
    (hx : a.eval x = .map (some g) := by exact rfl) (hy : a.eval y = pV t := by exact rfl) (hz : a.eval z = .int .i64 v := by exact rfl) : wpList Try.prog ops Q (o :: rest) a w := by
  rw [← hn.out] at hz
  obtain ⟨W', hr, h1, h2, h3, h4, h5, h6⟩ := mapUpdate_P g L t w hM ht
  refine wpList_plain hgd fun K hK' => ?_
  have hK := hK' _ _ (h W' h1 ⟨h2, h3, h4, h5, h6⟩)
  unfold Oper.wp execOp
  rcases ho with ho | ho
  · simp only [ho, hx, hy, hz, Sem.run_bind, hr, Result.andThen_ok]
    simp only [Oper.upon, Sem.run_pure, hd]
    exact hK
  · simp only [ho, hx, hy, hz, Sem.run_bind, hr, Result.andThen_ok]
    simp only [Oper.upon, Sem.run_pure, hd]
    exact hK
end
end Go.Proofs.Ytoagfpdicpcjnaa
/- Plain: the image of a normal point under an invertible map is normal; different points have different images. -/
namespace Go.Proofs.Ytoagfpdicpcjnaa
open Go.RowKit
set_option linter.unusedVariables false
set_option linter.unusedSimpArgs false
def mvP (m : M9) (a : Pt) : Pt := (dotI m.1 a, dotI m.2.1 a, dotI m.2.2 a)
theorem img_nrm (p : Int) (m : M9) (a : Pt) : imgP p m a = nrm3 p (mvP m a).1 (mvP m a).2.1 (mvP m a).2.2 := by
  unfold imgP nrm3 facL mvP
  simp [dotP, dotI, Int.emod_emod_of_dvd]
theorem crs_mv1 (a b c d : Pt) : dotI a c * dotI b d - dotI b c * dotI a d = dotI (crs a b) (crs c d) := by
  unfold dotI crs; grind
theorem det_mv1 (a b c x : Pt) : dotI (crs b c) (1, 0, 0) * dotI a x + dotI (crs c a) (1, 0, 0) * dotI b x + dotI (crs a b) (1, 0, 0) * dotI c x = detZ a b c * x.1 := by
  unfold dotI crs detZ; grind
theorem det_mv2 (a b c x : Pt) : dotI (crs b c) (0, 1, 0) * dotI a x + dotI (crs c a) (0, 1, 0) * dotI b x + dotI (crs a b) (0, 1, 0) * dotI c x = detZ a b c * x.2.1 := by
  unfold dotI crs detZ; grind
theorem det_mv3 (a b c x : Pt) : dotI (crs b c) (0, 0, 1) * dotI a x + dotI (crs c a) (0, 0, 1) * dotI b x + dotI (crs a b) (0, 0, 1) * dotI c x = detZ a b c * x.2.2 := by
  unfold dotI crs detZ; grind
theorem det_cv1 (a b c v : Pt) : a.1 * dotI (crs b c) v + b.1 * dotI (crs c a) v + c.1 * dotI (crs a b) v = detZ a b c * v.1 := by
  unfold dotI crs detZ; grind
theorem det_cv2 (a b c v : Pt) : a.2.1 * dotI (crs b c) v + b.2.1 * dotI (crs c a) v + c.2.1 * dotI (crs a b) v = detZ a b c * v.2.1 := by
  unfold dotI crs detZ; grind
theorem det_cv3 (a b c v : Pt) : a.2.2 * dotI (crs b c) v + b.2.2 * dotI (crs c a) v + c.2.2 * dotI (crs a b) v = detZ a b c * v.2.2 := by
  unfold dotI crs detZ; grind
theorem dvd3 {p x y z a b c d : Int} (hx : p ∣ x) (hy : p ∣ y) (hz : p ∣ z) (h : a * x + b * y + c * z = d) : p ∣ d := by
  obtain ⟨i, rfl⟩ := hx
  obtain ⟨j, rfl⟩ := hy
  obtain ⟨k, rfl⟩ := hz
  exact ⟨a * i + b * j + c * k, by rw [← h]; grind⟩
theorem det_nd {p : Int} {m : M9} (h : okM p m = true) : prB p = true ∧ ¬ p ∣ detZ m.1 m.2.1 m.2.2 := by
  unfold okM mapB at h
  simp only [Bool.and_eq_true, bne_iff_ne, ne_eq] at h
  refine ⟨h.1, fun hd => h.2.2 (Int.emod_eq_zero_of_dvd hd)⟩
theorem nd_one {p : Int} (hp : prB p = true) : ¬ p ∣ 1 := fun h => by
  have := Int.le_of_dvd (by decide) h
  have := prB_bd hp
  omega
theorem pt_nz {p : Int} {a : Pt} (h : ptB p a.1 a.2.1 a.2.2 = true) : nzV p a := by
  obtain ⟨hp, -, -, -, hd⟩ := pt_facts h
  rintro ⟨h1, h2, h3⟩
  rcases hd with e | ⟨-, e⟩ | ⟨-, -, e⟩
  · exact nd_one hp (e ▸ h1)
  · exact nd_one hp (e ▸ h2)
  · exact nd_one hp (e ▸ h3)
theorem nzV_nzB {p : Int} {v : Pt} (h : nzV p v) : nzB p [v.1, v.2.1, v.2.2] = true := by
  unfold nzB zerosB
  rw [Bool.not_eq_true']
  rw [Bool.eq_false_iff]
  intro hz
  simp at hz
  exact h ⟨Int.dvd_of_emod_eq_zero hz.1, Int.dvd_of_emod_eq_zero hz.2.1, Int.dvd_of_emod_eq_zero hz.2.2⟩
theorem mv_nz {p : Int} {m : M9} {a : Pt} (hm : okM p m = true) (ha : ptB p a.1 a.2.1 a.2.2 = true) : nzV p (mvP m a) := by
  obtain ⟨hp, hd⟩ := det_nd hm
  rintro ⟨h1, h2, h3⟩
  exact pt_nz ha ⟨mul_dvd hp (dvd3 h1 h2 h3 (det_mv1 m.1 m.2.1 m.2.2 a)) hd, mul_dvd hp (dvd3 h1 h2 h3 (det_mv2 m.1 m.2.1 m.2.2 a)) hd, mul_dvd hp (dvd3 h1 h2 h3 (det_mv3 m.1 m.2.1 m.2.2 a)) hd⟩
theorem img_pt {p : Int} {m : M9} {a : Pt} (hm : okM p m = true) (ha : ptB p a.1 a.2.1 a.2.2 = true) : ptB p (imgP p m a).1 (imgP p m a).2.1 (imgP p m a).2.2 = true := by
  rw [img_nrm]
  exact nrm3_pt (det_nd hm).1 (nzV_nzB (mv_nz hm ha))
theorem crs_self (c : Pt) : crs c c = (0, 0, 0) := by unfold crs; simp [Int.mul_comm]
theorem img_inj {n : Nat} {m : M9} {a b : Pt} (hm : okM (n : Int) m = true) (ha : ptB (n : Int) a.1 a.2.1 a.2.2 = true) (hb : ptB (n : Int) b.1 b.2.1 b.2.2 = true) (h : imgP (n : Int) m a = imgP (n : Int) m b) : a = b := by
  obtain ⟨hp, hd⟩ := det_nd hm
  obtain ⟨p, hpn⟩ : ∃ p : Int, (n : Int) = p := ⟨_, rfl⟩
  have c1 := cg_nrm hp (mvP m a)
  have c2 := cg_nrm hp (mvP m b)
  have f1 := fac_nd hp (mv_nz hm ha)
  have f2 := fac_nd hp (mv_nz hm hb)
  rw [← img_nrm] at c1 c2
  rw [← h] at c2
  have c3 := cg_crs c1 c2
  rw [crs_self] at c3
  generalize facL (n : Int) [(mvP m a).1, (mvP m a).2.1, (mvP m a).2.2] = F1 at *
  generalize facL (n : Int) [(mvP m b).1, (mvP m b).2.1, (mvP m b).2.2] = F2 at *
  have f3 := mul_nd hp f1 f2
  obtain ⟨k1, k2, k3⟩ := c3
  have d : ∀ x : Int, (n : Int) ∣ 0 - F1 * F2 * x → (n : Int) ∣ x := fun x hx => mul_dvd hp (by obtain ⟨q, hq⟩ := hx; exact ⟨-q, by rw [Int.mul_neg]; omega⟩) f3
  have d1 := d _ k1
  have d2 := d _ k2
  have d3 := d _ k3
  have e1 : (crs (mvP m a) (mvP m b)).1 = dotI (crs m.2.1 m.2.2) (crs a b) := by rw [← crs_mv1]; unfold crs mvP; grind
  have e2 : (crs (mvP m a) (mvP m b)).2.1 = dotI (crs m.2.2 m.1) (crs a b) := by rw [← crs_mv1]; unfold crs mvP; grind
  have e3 : (crs (mvP m a) (mvP m b)).2.2 = dotI (crs m.1 m.2.1) (crs a b) := by rw [← crs_mv1]; unfold crs mvP; grind
  rw [e1] at d1
  rw [e2] at d2
  rw [e3] at d3
  have g1 := mul_dvd hp (dvd3 d1 d2 d3 (det_cv1 m.1 m.2.1 m.2.2 (crs a b))) hd
  have g2 := mul_dvd hp (dvd3 d1 d2 d3 (det_cv2 m.1 m.2.1 m.2.2 (crs a b))) hd
  have g3 := mul_dvd hp (dvd3 d1 d2 d3 (det_cv3 m.1 m.2.1 m.2.2 (crs a b))) hd
  have h1 := List.all_eq_true.1 (List.all_eq_true.1 (crsChk_of hp) _ (mem_allP ha)) _ (mem_allP hb)
  rw [Bool.or_eq_true] at h1
  rcases h1 with h1 | h1
  · exact eqP_iff.1 h1
  · exfalso
    unfold crsNz at h1
    simp only [Bool.or_eq_true, bne_iff_ne, ne_eq] at h1
    rcases h1 with h1 | h1 | h1
    · exact h1 (Int.emod_eq_zero_of_dvd g1)
    · exact h1 (Int.emod_eq_zero_of_dvd g2)
    · exact h1 (Int.emod_eq_zero_of_dvd g3)
end Go.Proofs.Ytoagfpdicpcjnaa
/- Plain: the list of all points that some functions reach from a point; it is a class when the functions are one to one. -/
namespace Go.Proofs.Ytoagfpdicpcjnaa
set_option linter.unusedVariables false
set_option linter.unusedSimpArgs false
set_option linter.unusedSectionVars false
section
variable {α : Type} [DecidableEq α]
theorem nodup_len : ∀ {l1 l2 : List α}, l1.Nodup → (∀ x ∈ l1, x ∈ l2) → l1.length ≤ l2.length
  | [], _, _, _ => Nat.zero_le _
  | x :: l1, l2, hn, hs => by
    have hx := hs x (List.mem_cons_self)
    have hn2 := List.nodup_cons.1 hn
    have h1 : l1.length ≤ (l2.erase x).length := nodup_len hn2.2 (fun y hy => (List.mem_erase_of_ne (fun (e : y = x) => hn2.1 (e ▸ hy))).2 (hs y (List.mem_cons_of_mem _ hy)))
    have h2 := List.length_erase_of_mem hx
    have h3 : 0 < l2.length := List.length_pos_of_mem hx
    simp only [List.length_cons]
    omega
theorem nodup_onto {l1 l2 : List α} (hn : l1.Nodup) (hs : ∀ x ∈ l1, x ∈ l2) (hl : l2.length ≤ l1.length) : ∀ x ∈ l2, x ∈ l1 := by
  intro x hx
  apply Classical.byContradiction
  intro hx1
  have h1 : l1.length ≤ (l2.erase x).length := nodup_len hn (fun y hy => (List.mem_erase_of_ne (fun (e : y = x) => hx1 (e ▸ hy))).2 (hs y hy))
  have h2 := List.length_erase_of_mem hx
  have h3 : 0 < l2.length := List.length_pos_of_mem hx
  omega
variable (f : Nat → α → α) (n : Nat) (d : α)
def stepO (A : List α) (y : α) : List α := if y ∈ A then A else A ++ [y]
def innO (A : List α) (x : α) : Nat → List α
  | 0 => A
  | k + 1 => stepO (innO A x k) (f k x)
def seqO (a : α) : Nat → List α
  | 0 => [a]
  | i + 1 => innO f (seqO a i) ((seqO a i).getD i d) n
theorem stepO_pre (A : List α) (y : α) : A <+: stepO A y := by
  unfold stepO; split
  · exact List.prefix_refl _
  · exact List.prefix_append _ _
theorem stepO_mem (A : List α) (y : α) : y ∈ stepO A y := by
  unfold stepO; split
  · assumption
  · simp
theorem innO_pre (A : List α) (x : α) : ∀ k, A <+: innO f A x k
  | 0 => List.prefix_refl _
  | k + 1 => (innO_pre A x k).trans (stepO_pre _ _)
theorem innO_mono (A : List α) (x : α) {j : Nat} : ∀ k, j ≤ k → innO f A x j <+: innO f A x k
  | 0, h => by obtain rfl : j = 0 := by omega
               exact List.prefix_refl _
  | k + 1, h => by
    by_cases e : j = k + 1
    · subst e; exact List.prefix_refl _
    · exact (innO_mono A x k (by omega)).trans (stepO_pre _ _)
theorem innO_mem (A : List α) (x : α) {j k : Nat} (h : j < k) : f j x ∈ innO f A x k :=
  (innO_mono f A x k (j := j + 1) h).subset (stepO_mem _ _)
theorem stepO_nodup {A : List α} {y : α} (h : A.Nodup) : (stepO A y).Nodup := by
  unfold stepO; split
  · exact h
  · rename_i hy
    rw [List.nodup_append]
    exact ⟨h, by simp, fun a ha b hb => by rw [List.mem_singleton.1 hb]; exact fun e => hy (e ▸ ha)⟩
theorem innO_nodup {A : List α} {x : α} (h : A.Nodup) : ∀ k, (innO f A x k).Nodup
  | 0 => h
  | k + 1 => stepO_nodup (innO_nodup h k)
theorem seqO_nodup (a : α) : ∀ i, (seqO f n d a i).Nodup
  | 0 => by simp [seqO]
  | i + 1 => innO_nodup f (seqO_nodup a i) n
theorem seqO_mono (a : α) {i : Nat} : ∀ j, i ≤ j → seqO f n d a i <+: seqO f n d a j
  | 0, h => by obtain rfl : i = 0 := by omega
               exact List.prefix_refl _
  | j + 1, h => by
    by_cases e : i = j + 1
    · subst e; exact List.prefix_refl _
    · exact (seqO_mono a j (by omega)).trans (innO_pre _ _ _ _)
theorem preO_at {A B : List α} (h : A <+: B) {i : Nat} (hi : i < A.length) : B.getD i d = A.getD i d := by
  obtain ⟨t, rfl⟩ := h
  simp [List.getD, List.getElem?_append_left hi]
theorem getO_mem {A : List α} {i : Nat} (hi : i < A.length) : A.getD i d ∈ A := by
  rw [List.getD_eq_getElem?_getD, List.getElem?_eq_getElem hi]; exact List.getElem_mem _
theorem memO_at {A : List α} {x : α} (h : x ∈ A) : ∃ i, i < A.length ∧ A.getD i d = x := by
  obtain ⟨q, hq, e⟩ := List.mem_iff_getElem.1 h
  exact ⟨q, hq, by rw [List.getD_eq_getElem?_getD, List.getElem?_eq_getElem hq]; exact e⟩
variable {f n d}
theorem stepO_all {P : α → Prop} {A : List α} {y : α} (h : ∀ x ∈ A, P x) (hy : P y) : ∀ x ∈ stepO A y, P x := by
  unfold stepO; split
  · exact h
  · intro x hx
    rcases List.mem_append.1 hx with hx | hx
    · exact h x hx
    · rw [List.mem_singleton.1 hx]; exact hy
theorem innO_all {P : α → Prop} {A : List α} {x : α} (h : ∀ x ∈ A, P x) (hf : ∀ k, k < n → P (f k x)) : ∀ k, k ≤ n → ∀ y ∈ innO f A x k, P y
  | 0, _ => h
  | k + 1, hk => stepO_all (innO_all h hf k (by omega)) (hf k hk)
theorem seqO_all {P : α → Prop} {a : α} (ha : P a) (hf : ∀ x, P x → ∀ k, k < n → P (f k x)) : ∀ i, (i = 0 ∨ i - 1 < (seqO f n d a (i - 1)).length) → (∀ j, j < i → j < (seqO f n d a j).length) → ∀ x ∈ seqO f n d a i, P x
  | 0, _, _ => fun x hx => by rw [List.mem_singleton.1 hx]; exact ha
  | i + 1, _, hg => by
    have ih := seqO_all ha hf i (by rcases Nat.eq_zero_or_pos i with h | h; (· exact .inl h); (· exact .inr (hg (i - 1) (by omega)))) (fun j hj => hg j (by omega))
    exact innO_all ih (hf _ (ih _ (getO_mem d (hg i (by omega))))) n (Nat.le_refl _)
/-- The list is whole behind round K. -/
structure WholeO (f : Nat → α → α) (n : Nat) (d a : α) (K : Nat) : Prop where
  run : ∀ i, i < K → i < (seqO f n d a i).length
  fin : (seqO f n d a K).length = K
theorem WholeO.all {P : α → Prop} {a : α} {K : Nat} (h : WholeO f n d a K) (ha : P a) (hf : ∀ x, P x → ∀ k, k < n → P (f k x)) : ∀ x ∈ seqO f n d a K, P x :=
  seqO_all ha hf K (by rcases Nat.eq_zero_or_pos K with h2 | h2; (· exact .inl h2); (· exact .inr (h.run (K - 1) (by omega)))) h.run
theorem WholeO.self {a : α} {K : Nat} (h : WholeO f n d a K) : a ∈ seqO f n d a K := (seqO_mono f n d a K (Nat.zero_le _)).subset (by simp [seqO])
theorem WholeO.closed {a x : α} {K k : Nat} (h : WholeO f n d a K) (hx : x ∈ seqO f n d a K) (hk : k < n) : f k x ∈ seqO f n d a K := by
  obtain ⟨i, hi, rfl⟩ := memO_at d hx
  rw [h.fin] at hi
  have hp := seqO_mono f n d a K (i := i) (by omega)
  rw [preO_at d hp (h.run i hi)]
  exact (seqO_mono f n d a K (i := i + 1) hi).subset (innO_mem f _ _ hk)
theorem WholeO.uniq {a : α} {K J : Nat} (h : WholeO f n d a K) (h2 : WholeO f n d a J) : K = J := by
  rcases Nat.lt_trichotomy K J with e | e | e
  · have := h2.run K e; have := h.fin; omega
  · exact e
  · have := h.run J e; have := h2.fin; omega
/-- A bound for the lists' lengths: the list comes to an end. -/
theorem whole_ex {a : α} {all : List α} (ha : a ∈ all) (hf : ∀ x, x ∈ all → ∀ k, k < n → f k x ∈ all) : ∃ K, K ≤ all.length ∧ WholeO f n d a K := by
  have key : ∀ i, (∃ K, WholeO f n d a K) ∨ (∀ j, j < i → j < (seqO f n d a j).length) := by
    intro i
    induction i with
    | zero => exact .inr (fun j hj => absurd hj (Nat.not_lt_zero _))
    | succ i ih =>
      rcases ih with h | h
      · exact .inl h
      · by_cases e : i < (seqO f n d a i).length
        · exact .inr (fun j hj => by
            by_cases ej : j = i
            · subst ej; exact e
            · exact h j (by omega))
        · left
          refine ⟨i, h, ?_⟩
          rcases Nat.eq_zero_or_pos i with h0 | h0
          · subst h0; exact absurd (by simp [seqO] : 0 < (seqO f n d a 0).length) e
          · have := h (i - 1) (by omega)
            have := (seqO_mono f n d a i (i := i - 1) (by omega)).length_le
            omega
  have bound : ∀ K, (∀ j, j < K → j < (seqO f n d a j).length) → (seqO f n d a K).length ≤ all.length := fun K h =>
    nodup_len (seqO_nodup f n d a K) (seqO_all (P := (· ∈ all)) ha hf K (by rcases Nat.eq_zero_or_pos K with h2 | h2; (· exact .inl h2); (· exact .inr (h (K - 1) (by omega)))) h)
  rcases key (all.length + 1) with ⟨K, h⟩ | h
  · exact ⟨K, by have := bound K h.run; have := h.fin; omega, h⟩
  · exfalso
    have h1 := h all.length (by omega)
    have h2 := bound all.length (fun j hj => h j (by omega))
    omega
/-- One to one on all: closed under preimages. -/
theorem WholeO.back {a x : α} {K k : Nat} {P : α → Prop} (h : WholeO f n d a K) (ha : P a) (hf : ∀ x, P x → ∀ k, k < n → P (f k x)) (hi : ∀ x y, P x → P y → ∀ k, k < n → f k x = f k y → x = y) (hx : P x) (hk : k < n) (hy : f k x ∈ seqO f n d a K) : x ∈ seqO f n d a K := by
  have hall := h.all ha hf
  have hnd : ((seqO f n d a K).map (f k)).Nodup := by
    have h0 := seqO_nodup f n d a K
    generalize seqO f n d a K = S at *
    clear hy h
    induction S with
    | nil => simp
    | cons y S ih =>
      rw [List.map_cons, List.nodup_cons]
      have h1 := List.nodup_cons.1 h0
      refine ⟨fun hm => ?_, ih (fun z hz => hall z (List.mem_cons_of_mem _ hz)) h1.2⟩
      obtain ⟨z, hz, e⟩ := List.mem_map.1 hm
      have := hi z y (hall z (List.mem_cons_of_mem _ hz)) (hall y List.mem_cons_self) k hk e
      exact h1.1 (this ▸ hz)
  have hon := nodup_onto hnd (fun y hy => by
    obtain ⟨z, hz, e⟩ := List.mem_map.1 hy
    rw [← e]; exact h.closed hz hk) (by simp) _ hy
  obtain ⟨z, hz, e⟩ := List.mem_map.1 hon
  have := hi z x (hall z hz) hx k hk e
  exact this ▸ hz
/-- Reached: in the whole list. -/
def Reach0 (f : Nat → α → α) (n : Nat) (d : α) (x y : α) : Prop := ∃ K, WholeO f n d x K ∧ y ∈ seqO f n d x K
theorem Reach0.least {x y : α} (h : Reach0 f n d x y) {T : α → Prop} (hx : T x) (hT : ∀ z, T z → ∀ k, k < n → T (f k z)) : T y := by
  obtain ⟨K, hK, hy⟩ := h
  exact hK.all hx hT y hy
variable {all : List α}
theorem reach_refl (hf : ∀ x, x ∈ all → ∀ k, k < n → f k x ∈ all) {x : α} (hx : x ∈ all) : Reach0 f n d x x := by
  obtain ⟨K, -, h⟩ := whole_ex (d := d) hx hf
  exact ⟨K, h, h.self⟩
theorem reach_mem (hf : ∀ x, x ∈ all → ∀ k, k < n → f k x ∈ all) {x y : α} (hx : x ∈ all) (h : Reach0 f n d x y) : y ∈ all := h.least (T := (· ∈ all)) hx hf
theorem reach_step (hf : ∀ x, x ∈ all → ∀ k, k < n → f k x ∈ all) {x : α} (hx : x ∈ all) {k : Nat} (hk : k < n) : Reach0 f n d x (f k x) := by
  obtain ⟨K, -, h⟩ := whole_ex (d := d) hx hf
  exact ⟨K, h, h.closed h.self hk⟩
theorem reach_trans (hf : ∀ x, x ∈ all → ∀ k, k < n → f k x ∈ all) {x y z : α} (h1 : Reach0 f n d x y) (h2 : Reach0 f n d y z) : Reach0 f n d x z := by
  obtain ⟨K, hK, hy⟩ := h1
  exact ⟨K, hK, h2.least (T := (· ∈ seqO f n d x K)) hy (fun z hz k hk => hK.closed hz hk)⟩
theorem reach_symm (hf : ∀ x, x ∈ all → ∀ k, k < n → f k x ∈ all) (hi : ∀ x y, x ∈ all → y ∈ all → ∀ k, k < n → f k x = f k y → x = y) {x y : α} (hx : x ∈ all) (h : Reach0 f n d x y) : Reach0 f n d y x := by
  have hy := reach_mem hf hx h
  obtain ⟨K, -, hK⟩ := whole_ex (d := d) hy hf
  have := h.least (T := fun z => z ∈ all ∧ (z ∈ seqO f n d y K → x ∈ seqO f n d y K)) ⟨hx, id⟩ (fun z hz k hk => ⟨hf z hz.1 k hk, fun hm => hz.2 (hK.back (P := (· ∈ all)) hy hf hi hz.1 hk hm)⟩)
  exact ⟨K, hK, this.2 hK.self⟩
end
end Go.Proofs.Ytoagfpdicpcjnaa
/- Plain: classes joined step by step are what is reached. -/
namespace Go.Proofs.Ytoagfpdicpcjnaa
set_option linter.unusedVariables false
set_option linter.unusedSimpArgs false
set_option linter.unusedSectionVars false
def mrg (c : Nat → Nat) (one two : Nat) : Nat → Nat := fun q => if c q = max one two then min one two else c q
def rowU (ix : Nat → Nat) (c : Nat → Nat) : Nat → Nat → Nat
  | 0 => c
  | i + 1 => mrg (rowU ix c i) (rowU ix c i i) (rowU ix c i (ix i))
def allU (ix : Nat → Nat → Nat) (N : Nat) : Nat → Nat → Nat
  | 0 => id
  | k + 1 => rowU (ix k) (allU ix N k) N
theorem mrg_self (c : Nat → Nat) (a : Nat) : mrg c a a = c := by
  funext q; unfold mrg; rw [Nat.max_self, Nat.min_self]; split <;> simp_all
theorem mrg_eq {c : Nat → Nat} {a b x y : Nat} (h : c x = c y) : mrg c a b x = mrg c a b y := by unfold mrg; rw [h]
theorem mrg_join (c : Nat → Nat) (i j : Nat) : mrg c (c i) (c j) i = mrg c (c i) (c j) j := by
  unfold mrg
  split <;> split <;> omega
def Lab (c : Nat → Nat) : Prop := ∀ q, c q ≤ q ∧ c (c q) = c q
theorem mrg_lab {c : Nat → Nat} (h : Lab c) (x y : Nat) : Lab (mrg c (c x) (c y)) := by
  intro q
  have hx := (h x).2
  have hy := (h y).2
  have hq := h q
  have hm : c (min (c x) (c y)) = min (c x) (c y) := by
    rcases Nat.le_total (c x) (c y) with e | e
    · rw [Nat.min_eq_left e]; exact hx
    · rw [Nat.min_eq_right e]; exact hy
  unfold mrg
  constructor
  · split <;> omega
  · by_cases e : c q = max (c x) (c y)
    · rw [if_pos e, hm]
      split
      · rfl
      · rfl
    · rw [if_neg e, hq.2, if_neg e]
theorem rowU_lab {ix c : Nat → Nat} (h : Lab c) : ∀ i, Lab (rowU ix c i)
  | 0 => h
  | i + 1 => mrg_lab (rowU_lab h i) _ _
theorem allU_lab (ix : Nat → Nat → Nat) (N : Nat) : ∀ k, Lab (allU ix N k)
  | 0 => fun q => ⟨Nat.le_refl _, rfl⟩
  | k + 1 => rowU_lab (allU_lab ix N k) N
theorem rowU_eq {ix c : Nat → Nat} {x y : Nat} {i : Nat} : ∀ j, i ≤ j → rowU ix c i x = rowU ix c i y → rowU ix c j x = rowU ix c j y
  | 0, h, e => by obtain rfl : i = 0 := by omega
                  exact e
  | j + 1, h, e => by
    by_cases ej : i = j + 1
    · subst ej; exact e
    · exact mrg_eq (rowU_eq j (by omega) e)
theorem rowU_join {ix c : Nat → Nat} {i j : Nat} (h : i < j) : rowU ix c j i = rowU ix c j (ix i) := rowU_eq j h (mrg_join _ _ _)
theorem allU_eq {ix : Nat → Nat → Nat} {N x y : Nat} {i : Nat} : ∀ j, i ≤ j → allU ix N i x = allU ix N i y → allU ix N j x = allU ix N j y
  | 0, h, e => by obtain rfl : i = 0 := by omega
                  exact e
  | j + 1, h, e => by
    by_cases ej : i = j + 1
    · subst ej; exact e
    · exact rowU_eq (i := 0) N (Nat.zero_le _) (allU_eq j (by omega) e)
theorem allU_join {ix : Nat → Nat → Nat} {N n i k : Nat} (hi : i < N) (hk : k < n) : allU ix N n i = allU ix N n (ix k i) := allU_eq n hk (rowU_join hi)
def Sound (R : Nat → Nat → Prop) (N : Nat) (c : Nat → Nat) : Prop := ∀ x y, x < N → y < N → c x = c y → R x y
theorem mrg_sound {R : Nat → Nat → Prop} {N : Nat} {c : Nat → Nat} (hs : ∀ x y, R x y → R y x) (ht : ∀ x y z, R x y → R y z → R x z) (h : Sound R N c) {i j : Nat} (hi : i < N) (hj : j < N) (hR : R i j) : Sound R N (mrg c (c i) (c j)) := by
  intro x y hx hy e
  have sx : c x = c i → R x i := h x i hx hi
  have sx2 : c x = c j → R x j := h x j hx hj
  have sy : c y = c i → R y i := h y i hy hi
  have sy2 : c y = c j → R y j := h y j hy hj
  by_cases e0 : c x = c y
  · exact h x y hx hy e0
  · unfold mrg at e
    have cases4 : (c x = c i ∧ c y = c j) ∨ (c x = c j ∧ c y = c i) := by
      by_cases ex : c x = max (c i) (c j) <;> by_cases ey : c y = max (c i) (c j) <;> simp only [ex, ey, if_true, if_false] at e <;> omega
    rcases cases4 with ⟨e1, e2⟩ | ⟨e1, e2⟩
    · exact ht _ _ _ (sx e1) (ht _ _ _ hR (hs _ _ (sy2 e2)))
    · exact ht _ _ _ (sx2 e1) (ht _ _ _ (hs _ _ hR) (hs _ _ (sy e2)))
theorem rowU_sound {R : Nat → Nat → Prop} {N : Nat} {ix c : Nat → Nat} (hs : ∀ x y, R x y → R y x) (ht : ∀ x y z, R x y → R y z → R x z) (hix : ∀ i, i < N → ix i < N ∧ R i (ix i)) (h : Sound R N c) : ∀ i, i ≤ N → Sound R N (rowU ix c i)
  | 0, _ => h
  | i + 1, hi => mrg_sound hs ht (rowU_sound hs ht hix h i (by omega)) hi (hix i hi).1 (hix i hi).2
theorem allU_sound {R : Nat → Nat → Prop} {N n : Nat} {ix : Nat → Nat → Nat} (hr : ∀ x, x < N → R x x) (hs : ∀ x y, R x y → R y x) (ht : ∀ x y z, R x y → R y z → R x z) (hix : ∀ k i, k < n → i < N → ix k i < N ∧ R i (ix k i)) : ∀ k, k ≤ n → Sound R N (allU ix N k)
  | 0, _ => fun x y hx hy e => by have e : x = y := e
                                  exact e ▸ hr x hx
  | k + 1, hk => rowU_sound hs ht (fun i hi => hix k i hk hi) (allU_sound hr hs ht hix k (by omega)) N (Nat.le_refl _)
section
variable {α : Type} [DecidableEq α]
def ixO (f : Nat → α → α) (d : α) (all : List α) (k i : Nat) : Nat := all.idxOf (f k (all.getD i d))
theorem getD_idx {all : List α} {d y : α} (h : y ∈ all) : all.getD (all.idxOf y) d = y := by
  have hl := List.idxOf_lt_length_of_mem h
  rw [List.getD_eq_getElem?_getD, List.getElem?_eq_getElem hl]
  exact List.getElem_idxOf hl
theorem idx_getD {all : List α} {d : α} (hn : all.Nodup) {i : Nat} (hi : i < all.length) : all.idxOf (all.getD i d) = i := by
  rw [List.getD_eq_getElem?_getD, List.getElem?_eq_getElem hi]
  exact hn.idxOf_getElem i hi
variable {f : Nat → α → α} {n : Nat} {d : α} {all : List α}
theorem getD_mem {i : Nat} (hi : i < all.length) : all.getD i d ∈ all := by
  rw [List.getD_eq_getElem?_getD, List.getElem?_eq_getElem hi]; exact List.getElem_mem _
theorem ixO_at {k i : Nat} (h : f k (all.getD i d) ∈ all) : ixO f d all k i < all.length ∧ all.getD (ixO f d all k i) d = f k (all.getD i d) := ⟨List.idxOf_lt_length_of_mem h, getD_idx h⟩
/-- The classes are what is reached. -/
theorem class_iff (hn : all.Nodup) (hf : ∀ x, x ∈ all → ∀ k, k < n → f k x ∈ all) (hi : ∀ x y, x ∈ all → y ∈ all → ∀ k, k < n → f k x = f k y → x = y) {x y : Nat} (hx : x < all.length) (hy : y < all.length) :
    allU (ixO f d all) all.length n x = allU (ixO f d all) all.length n y ↔ Reach0 f n d (all.getD x d) (all.getD y d) := by
  constructor
  · let R : Nat → Nat → Prop := fun x y => x < all.length ∧ y < all.length ∧ Reach0 f n d (all.getD x d) (all.getD y d)
    intro e
    have := allU_sound (R := R) (N := all.length) (n := n) (ix := ixO f d all) (fun x hx => ⟨hx, hx, reach_refl hf (getD_mem hx)⟩) (fun x y h => ⟨h.2.1, h.1, reach_symm hf hi (getD_mem h.1) h.2.2⟩) (fun x y z h1 h2 => ⟨h1.1, h2.2.1, reach_trans hf h1.2.2 h2.2.2⟩)
      (fun k i hk hi2 => by
        have hm := hf _ (getD_mem (d := d) hi2) k hk
        have hl : ixO f d all k i < all.length := List.idxOf_lt_length_of_mem hm
        refine ⟨hl, hi2, hl, ?_⟩
        unfold ixO
        rw [getD_idx hm]
        exact reach_step hf (getD_mem hi2) hk) n (Nat.le_refl _) x y hx hy e
    exact this.2.2
  · intro h
    have := h.least (T := fun z => z ∈ all ∧ allU (ixO f d all) all.length n x = allU (ixO f d all) all.length n (all.idxOf z)) ⟨getD_mem hx, by rw [idx_getD hn hx]⟩ (fun z hz k hk => by
      refine ⟨hf z hz.1 k hk, ?_⟩
      rw [hz.2]
      have hl : all.idxOf z < all.length := List.idxOf_lt_length_of_mem hz.1
      have := allU_join (ix := ixO f d all) (n := n) hl hk
      rw [this]
      unfold ixO
      rw [getD_idx hz.1])
    rw [idx_getD hn hy] at this
    exact this.2
end
end Go.Proofs.Ytoagfpdicpcjnaa
/- Small things for laws with lists of maps. -- maps -/
namespace Go.Proofs.Ytoagfpdicpcjnaa
open Go.RowKit
set_option linter.unusedVariables false
set_option linter.unusedSimpArgs false
theorem okM_inM {p : Int} {t : M9} (h : okM p t = true) : InM t := by
  unfold okM mapB at h
  simp only [Bool.and_eq_true] at h
  obtain ⟨hp, hn, -⟩ := h
  obtain ⟨-, h2⟩ := prB_bd hp
  intro x hx
  have := nums_at hn (x := x) hx
  exact ⟨this.1, by omega⟩
theorem codeML_ok {p : Int} {n : Nat} {v : Bool} (h : codeML p n v = 0) : prB p = true ∧ n ≤ 8 ∧ v = true := by
  unfold codeML codeOf at h
  rcases hp : prB p with _ | _
  · simp [hp] at h
  · rcases v with _ | _
    · simp [hp] at h
    · simp [hp] at h
      exact ⟨rfl, by omega, rfl⟩
theorem ListM.nil {W : World} {l : List M9} {n : Nat} (h : n = 0) (hl : l.length = n) : ListM W none n l := ⟨hl, fun h2 => by omega⟩
theorem ListM.at {W : World} {g n : Nat} {l : List M9} (hl : l.length = n) (h : MapsK W g 0 n l) : ListM W (some ⟨g, 0, none⟩) n l := ⟨hl, fun _ => ⟨g, 0, rfl, h⟩⟩
theorem toMapS_zero (b : Option Addr) (k cap : Nat) (w : World) (h : k = 0) : Calls Try.prog 8 #[.slice b k cap, .bool true] w fun e w' => e = .returned (.slice none 0 0) ∧ w = w' := by
  subst h
  go_enter Try.func8, Try.ntmps8
  go_wp2
  go_ret
  exact ⟨rfl, rfl⟩
theorem fMp {W : World} {b o n : Nat} {L : List M9} (h : MapsK W b o n L := by repeat (first | with_reducible assumption | (apply MapsK.link; (· with_reducible assumption)))) : MapsK W b o n L := h
theorem fLM {w : World} {b : Option Addr} {n : Nat} {L : List M9} (h : ListM w b n L := by repeat (first | with_reducible assumption | (apply ListM.link; (· with_reducible assumption)))) : ListM w b n L := h
end Go.Proofs.Ytoagfpdicpcjnaa
/- Plain: orbits of points under invertible maps. -/
namespace Go.Proofs.Ytoagfpdicpcjnaa
open Go.RowKit
set_option linter.unusedVariables false
set_option linter.unusedSimpArgs false
def p0 : Pt := (0, 0, 0)
def fO (p : Int) (ms : List M9) (k : Nat) (x : Pt) : Pt := imgP p (ms.getD k m0) x
/-- All maps are invertible. -/
structure MsOk (n : Nat) (ms : List M9) : Prop where
  pr : prB (n : Int) = true
  ok : ∀ m ∈ ms, okM (n : Int) m = true
theorem getM_mem {l : List M9} {j : Nat} (h : j < l.length) : l.getD j m0 ∈ l := by rw [List.getD_eq_getElem?_getD, List.getElem?_eq_getElem h]; exact List.getElem_mem _
variable {n : Nat} {ms : List M9}
theorem MsOk.fin (h : MsOk n ms) : ∀ x, x ∈ allP n → ∀ k, k < ms.length → fO n ms k x ∈ allP n := fun x hx k hk => by
  have := img_pt (h.ok _ (getM_mem hk)) (allP_pt h.pr hx)
  exact mem_allP this
theorem MsOk.inj (h : MsOk n ms) : ∀ x y, x ∈ allP n → y ∈ allP n → ∀ k, k < ms.length → fO n ms k x = fO n ms k y → x = y := fun x y hx hy k hk e => img_inj (h.ok _ (getM_mem hk)) (allP_pt h.pr hx) (allP_pt h.pr hy) e
theorem MsOk.n13 (h : MsOk n ms) : 3 ≤ n ∧ n ≤ 13 := by have := prB_bd h.pr; omega
theorem allP_len183 {n : Nat} (hn : n ≤ 13) : (allP n).length ≤ 183 := by rw [allP_length]; have : n * n ≤ 13 * 13 := Nat.mul_le_mul hn hn; omega
theorem len183 {A : List Pt} (hn : n ≤ 13) (h : A.Nodup) (hA : ∀ x ∈ A, x ∈ allP n) : A.length ≤ 183 := Nat.le_trans (nodup_len h hA) (allP_len183 hn)
/-- The points met so far, from a point on. -/
def seqP (n : Nat) (ms : List M9) (a : Pt) (i : Nat) : List Pt := seqO (fO n ms) ms.length p0 a i
def innP (n : Nat) (ms : List M9) (A : List Pt) (x : Pt) (k : Nat) : List Pt := innO (fO n ms) A x k
def RunP (n : Nat) (ms : List M9) (a : Pt) (i : Nat) : Prop := ∀ j, j < i → j < (seqP n ms a j).length
def WholeP (n : Nat) (ms : List M9) (a : Pt) (K : Nat) : Prop := WholeO (fO n ms) ms.length p0 a K
theorem RunP.in (h : MsOk n ms) {a : Pt} (ha : a ∈ allP n) {i : Nat} (hr : RunP n ms a i) : ∀ x ∈ seqP n ms a i, x ∈ allP n :=
  seqO_all (P := (· ∈ allP n)) ha h.fin i (by rcases Nat.eq_zero_or_pos i with h2 | h2; (· exact .inl h2); (· exact .inr (hr (i - 1) (by omega)))) hr
theorem seqP_nodup (n : Nat) (ms : List M9) (a : Pt) (i : Nat) : (seqP n ms a i).Nodup := seqO_nodup _ _ _ _ _
theorem innP_nodup {A : List Pt} {x : Pt} (h : A.Nodup) (k : Nat) : (innP n ms A x k).Nodup := innO_nodup _ h k
theorem innP_in (h : MsOk n ms) {A : List Pt} {x : Pt} (hA : ∀ y ∈ A, y ∈ allP n) (hx : x ∈ allP n) {k : Nat} (hk : k ≤ ms.length) : ∀ y ∈ innP n ms A x k, y ∈ allP n :=
  innO_all (n := ms.length) (P := (· ∈ allP n)) hA (fun k hk => h.fin x hx k hk) k hk
theorem innP_zero (A : List Pt) (x : Pt) : innP n ms A x 0 = A := rfl
theorem seqP_zero (a : Pt) : seqP n ms a 0 = [a] := rfl
theorem innP_succ {A : List Pt} {x y : Pt} {m : M9} {k : Nat} (hm : ms.getD k m0 = m) (hy : imgP n m x = y) : innP n ms A x (k + 1) = if y ∈ innP n ms A x k then innP n ms A x k else innP n ms A x k ++ [y] := by
  show stepO (innP n ms A x k) (imgP n (ms.getD k m0) x) = _
  rw [hm, hy]; unfold stepO
  by_cases h : y ∈ innP n ms A x k
  · rw [if_pos h, if_pos h]
  · rw [if_neg h, if_neg h]
theorem seqP_succ {A : List Pt} {a x : Pt} {i c : Nat} (hA : seqP n ms a i = A) (hx : A.getD i p0 = x) (hc : ms.length = c) : seqP n ms a (i + 1) = innP n ms A x c := by
  show innO (fO n ms) (seqP n ms a i) ((seqP n ms a i).getD i p0) ms.length = _
  rw [hA, hx, hc]; rfl
theorem innP_at {A : List Pt} {x : Pt} {i : Nat} (hi : i < A.length) (k : Nat) : (innP n ms A x k).getD i p0 = A.getD i p0 := preO_at p0 (innO_pre _ A x k) hi
theorem innP_len (A : List Pt) (x : Pt) (k : Nat) : A.length ≤ (innP n ms A x k).length := (innO_pre _ A x k).length_le
theorem RunP.fin {a : Pt} {i K : Nat} (hw : WholeP n ms a K) (hr : RunP n ms a i) (hi : (seqP n ms a i).length = i) : i = K := (WholeO.uniq (f := fO n ms) (n := ms.length) (d := p0) ⟨hr, hi⟩ hw)
theorem whole_P (h : MsOk n ms) {a : Pt} (ha : a ∈ allP n) : ∃ K, WholeP n ms a K := by
  obtain ⟨K, -, hK⟩ := whole_ex (d := p0) ha h.fin
  exact ⟨K, hK⟩
/-- The class labels behind all maps. -/
def classP (n : Nat) (ms : List M9) : Nat → Nat := allU (ixO (fO n ms) p0 (allP n)) (allP n).length ms.length
theorem class_P (h : MsOk n ms) {i j K : Nat} (hi : i < (allP n).length) (hj : j < (allP n).length) (hK : WholeP n ms ((allP n).getD i p0) K) : classP n ms i = classP n ms j ↔ (allP n).getD j p0 ∈ seqP n ms ((allP n).getD i p0) K := by
  have h1 := class_iff (d := p0) (nodup_allP h.pr) h.fin h.inj hi hj
  refine h1.trans ⟨fun ⟨J, hJ, hm⟩ => ?_, fun hm => ⟨K, hK, hm⟩⟩
  obtain rfl := WholeO.uniq hJ hK
  exact hm
/-- The place of the image. -/
def ixP (n : Nat) (ms : List M9) (k i : Nat) : Nat := ixO (fO n ms) p0 (allP n) k i
theorem ixP_at (h : MsOk n ms) {k i : Nat} (hk : k < ms.length) (hi : i < (allP n).length) : ixP n ms k i < (allP n).length ∧ (allP n).getD (ixP n ms k i) p0 = imgP n (ms.getD k m0) ((allP n).getD i p0) := by
  have hm := h.fin _ (getD_mem (d := p0) hi) k hk
  exact ixO_at hm
theorem place_of {L : List Pt} (hn : L.Nodup) {t : Pt} {v : Nat} (hv : v < L.length) (e : L.getD v p0 = t) : t ∈ L ∧ L.idxOf t = v := by
  rw [List.getD_eq_getElem?_getD, List.getElem?_eq_getElem hv] at e
  subst e
  exact ⟨List.getElem_mem _, hn.idxOf_getElem v hv⟩
/-- Labels: never above the place, and of their own class. -/
theorem classP_lab (n : Nat) (ms : List M9) (q : Nat) : classP n ms q ≤ q ∧ classP n ms (classP n ms q) = classP n ms q := allU_lab _ _ _ q
end Go.Proofs.Ytoagfpdicpcjnaa
/- Lists of class labels in memory; all blocks but one; the operations of a walk over them. -/
namespace Go.Proofs.Ytoagfpdicpcjnaa
open Go.RowKit
set_option linter.unusedVariables false
set_option linter.unusedSimpArgs false
structure RowJ (W : World) (g cap N : Nat) (F : Nat → Int) : Prop where
  room : RoomI W g cap 3
  le : N ≤ cap
  at_ : ∀ j, j < N → W.cell? ⟨g, j, none⟩ = some (.int .i64 (F j))
section
variable {W W' : World} {g g' cap N k : Nat} {F G : Nat → Int}
theorem RowJ.blk (h : RowJ W g cap N F) (e : W'.heap[g]? = W.heap[g]?) : RowJ W' g cap N F := by
  obtain ⟨⟨cur, h1, h2⟩, h3, h4⟩ := h
  refine ⟨⟨cur, e.trans h1, h2⟩, h3, fun j hj => ?_⟩
  rw [← h4 j hj]; unfold World.cell?; rw [e]
theorem RowJ.lt (h : RowJ W g cap N F) : g < W.heap.size := h.room.lt
theorem RowJ.below (h : RowJ W g cap N F) (hb : Below W.heap.size W W') : RowJ W' g cap N F := h.blk (hb.block _ h.lt)
theorem RowJ.link (l : Link W W') (h : RowJ W g cap N F) : RowJ W' g cap N F := h.below l.out
theorem RowJ.alloc (h : RowJ W g cap N F) (o : Obj) : RowJ (W.alloc o) g cap N F := h.below (bal (Below.refl _ _) o)
theorem RowJ.set (h : RowJ W g cap N F) (hk : k < N) (x : Int) : RowJ (W.setCell ⟨g, k, none⟩ (.int .i64 x)) g cap N (fun j => if j = k then x else F j) := by
  refine ⟨h.room.set k _, h.le, fun j hj => ?_⟩
  by_cases e : j = k
  · subst e
    rw [World.cell?_setCell_same _ _ _ (h.at_ j hj)]
    simp
  · rw [World.cell?_setCell_other _ _ _ _ (fun h => e (by cases h; rfl)), h.at_ j hj]
    simp [e]
theorem RowJ.other (h : RowJ W g cap N F) (hne : g ≠ g') (k : Nat) (v : Value) : RowJ (W.setCell ⟨g', k, none⟩ v) g cap N F := h.blk (setCell_blk W hne k v)
theorem RowJ.congr (h : RowJ W g cap N F) (e : ∀ j, j < N → F j = G j) : RowJ W g cap N G := ⟨h.room, h.le, fun j hj => by rw [h.at_ j hj, e j hj]⟩
end
theorem RowJ.cell {W : World} {g cap N k : Nat} {F : Nat → Int} (h : RowJ W g cap N F) (hk : k < N) : CellK W g k (.int .i64 (F k)) := ⟨h.at_ k hk⟩
theorem RowJ.st {W : World} {g cap N k : Nat} {F : Nat → Int} (h : RowJ W g cap N F) (hk : k < N) : StK W g k := ⟨h.room.some k (Nat.lt_of_lt_of_le hk h.le), h.room.frozen k, h.lt⟩
theorem rowJ_own {W : World} {B N : Nat} {v : Value} {l : List Int} (h : OwnK W B 3 1 v N (ints l)) (hl : l.length = N) (hn : 0 < N) :
    ∃ g cap, v = .slice (some ⟨g, 0, none⟩) N cap ∧ B ≤ g ∧ RowJ W g cap N (fun j => l.getD j 0) := by
  rcases h.out.2 with ⟨_, h0⟩ | ⟨g, cap, cur, rfl, hb, hg, hle, _, hsz, htk⟩
  · omega
  · refine ⟨g, cap, rfl, hb, ⟨cur, hg, by simpa using hsz⟩, hle, fun i hi => ?_⟩
    rw [cell_of_row W g i _ _ _ hg]
    have h1 : (cur.toList.take (N * 1))[i]? = (Go.Proofs.Ytoagfpdicpcjnaa.ints l)[i]? := by rw [htk]
    rw [Nat.mul_one, List.getElem?_take_of_lt hi] at h1
    rw [← Array.getElem?_toList, h1]
    unfold Go.Proofs.Ytoagfpdicpcjnaa.ints
    have hil : i < l.length := by omega
    simp [List.getD, hil]
/-- All blocks but one are as they were. -/
structure ButK (g : Nat) (w W : World) : Prop where
  out : w.heap.size ≤ W.heap.size ∧ (∀ b, b < w.heap.size → b ≠ g → W.heap[b]? = w.heap[b]?) ∧ W.os = w.os ∧ W.tape = w.tape ∧ W.output = w.output
theorem ButK.refl (g : Nat) (w : World) : ButK g w w := ⟨Nat.le_refl _, fun _ _ _ => rfl, rfl, rfl, rfl⟩
theorem ButK.low {g : Nat} {w W W' : World} (l : LowK W W') (h : ButK g w W) : ButK g w W' := by
  obtain ⟨h1, h2, h3, h4, h5⟩ := h.out
  exact ⟨Nat.le_trans h1 l.out.size, fun b hb hne => (l.out.block b (by omega)).trans (h2 b hb hne), l.out.os.trans h3, l.out.tape.trans h4, l.out.output.trans h5⟩
theorem ButK.tr {g : Nat} {w W W' : World} (h' : ButK g W W') (h : ButK g w W) : ButK g w W' := by
  obtain ⟨h1, h2, h3, h4, h5⟩ := h.out
  obtain ⟨k1, k2, k3, k4, k5⟩ := h'.out
  exact ⟨Nat.le_trans h1 k1, fun b hb hne => (k2 b (by omega) hne).trans (h2 b hb hne), k3.trans h3, k4.trans h4, k5.trans h5⟩
theorem ButK.set {g : Nat} {w W : World} (k : Nat) (v : Value) (h : ButK g w W) : ButK g w (W.setCell ⟨g, k, none⟩ v) := by
  obtain ⟨h1, h2, h3, h4, h5⟩ := h.out
  exact ⟨by simpa [World.setCell] using h1, fun b hb hne => (setCell_blk W hne k v).trans (h2 b hb hne), h3, h4, h5⟩
theorem ButK.size {g : Nat} {w W : World} (h : ButK g w W) : w.heap.size ≤ W.heap.size := h.out.1
theorem LowK.but {g : Nat} {w0 w W : World} (h : ButK g w W) (hg : w0.heap.size ≤ g) (l : LowK w0 w) : LowK w0 W := by
  obtain ⟨h1, h2, h3, h4, h5⟩ := h.out
  exact ⟨⟨h3.trans l.out.os, h4.trans l.out.tape, h5.trans l.out.output, Nat.le_trans l.out.size h1, fun k hk => (h2 k (Nat.lt_of_lt_of_le hk l.out.size) (by omega)).trans (l.out.block k hk)⟩⟩
theorem cell_but {g : Nat} {w W : World} (h : ButK g w W) {b o : Nat} {v : Value} (hne : b ≠ g) (hc : w.cell? ⟨b, o, none⟩ = some v) : W.cell? ⟨b, o, none⟩ = some v := by
  have hb : b < w.heap.size := World.block_lt_of_cell? w _ hc
  have := h.out.2.1 b hb hne
  rw [← hc]; unfold World.cell?; rw [this]
theorem PtsK.but {g : Nat} {w W : World} (h : ButK g w W) {b o n : Nat} {L : List Pt} (hne : b ≠ g) (hP : PtsK w b o n L) : PtsK W b o n L :=
  ⟨fun i hi => ⟨cell_but h hne (hP.out i hi).1, cell_but h hne (hP.out i hi).2.1, cell_but h hne (hP.out i hi).2.2⟩⟩
theorem GoMapP.but {g : Nat} {w W : World} (h : ButK g w W) {b : Nat} {L : List Pt} (hne : b ≠ g) (hM : GoMapP w b L) : GoMapP W b L := hM.blk (h.out.2.1 b hM.lt hne)
theorem RowK.but {g : Nat} {w W : World} (h : ButK g w W) {b : Nat} {cs : Array Value} {T : TypeId} (hne : b ≠ g) (hR : RowK w b cs T) : RowK W b cs T := ⟨(h.out.2.1 b hR.lt hne).trans hR.out⟩
theorem RowJ.grew {w W : World} {u : Value} {g cap N : Nat} {F : Nat → Int} (hg : Grew w u W) (ho : Off u g) (h : RowJ w g cap N F) : RowJ W g cap N F := h.blk (hg.out.block g h.lt (fun e => ho.out e.symm))
theorem findGomP {W : World} {g : Nat} {L : List Pt} (h : GoMapP W g L := by repeat (first | with_reducible assumption | (apply GoMapP.link; (· with_reducible assumption)) | with_reducible apply GoMapP.alloc | with_reducible apply GoMapP.drew | ((with_reducible apply GoMapP.set); (· first | assumption | omega | (simp; omega))))) : GoMapP W g L := h
theorem GoMapP.set2 {W : World} {g b : Nat} {U : Array Value} {L : List Pt} (hne : g ≠ b) (h : GoMapP W g L) : GoMapP (W.setRow b U) g L := h.set hne
def upI (k : Nat) : List Int := (List.range k).map (fun j : Nat => (j : Int))
theorem upI_succ (k : Nat) : upI k ++ [(k : Int)] = upI (k + 1) := by simp [upI, List.range_succ]
theorem upI_length (k : Nat) : (upI k).length = k := by simp [upI]
theorem upI_at {k j : Nat} (h : j < k) : (upI k).getD j 0 = (j : Int) := by simp [upI, List.getD, h]
theorem take_snoc {L : List Pt} {k : Nat} {t : Pt} (hk : k < L.length) (ht : L.getD k (0, 0, 0) = t) : L.take k ++ [t] = L.take (k + 1) := by
  rw [List.getD_eq_getElem?_getD, List.getElem?_eq_getElem hk] at ht
  subst ht
  exact (List.take_succ_eq_append_getElem hk).symm
theorem take_new {L : List Pt} (hn : L.Nodup) {k : Nat} {t : Pt} (hk : k < L.length) (ht : L.getD k (0, 0, 0) = t) : t ∉ L.take k := by
  rw [List.getD_eq_getElem?_getD, List.getElem?_eq_getElem hk] at ht
  replace ht : L[k] = t := ht
  subst ht
  intro hm
  obtain ⟨i, hi, e⟩ := List.mem_take_iff_getElem.1 hm
  have h1 := hn.idxOf_getElem i (by omega)
  have h2 := hn.idxOf_getElem k hk
  rw [e] at h1
  omega
theorem GoMapP.neJ {W : World} {g gc cc N : Nat} {L : List Pt} {F : Nat → Int} (h : GoMapP W g L) (hR : RowJ W gc cc N F) : g ≠ gc := by
  rintro rfl
  obtain ⟨es, cl, h1, -⟩ := h.out
  obtain ⟨cur, h2, -⟩ := hR.room
  rw [h1] at h2; cases h2
/-- The labels behind the first q maps. -/
def clsP (n : Nat) (ms : List M9) (q : Nat) : Nat → Nat := allU (ixP n ms) (allP n).length q
theorem clsP_zero (n : Nat) (ms : List M9) (j : Nat) : clsP n ms 0 j = j := rfl
theorem clsP_succ (n : Nat) (ms : List M9) (q : Nat) : clsP n ms (q + 1) = rowU (ixP n ms q) (clsP n ms q) (allP n).length := rfl
theorem clsP_all (n : Nat) (ms : List M9) : clsP n ms ms.length = classP n ms := rfl
theorem rowU_next {ix c f : Nat → Nat} {i j a b : Nat} (hf : rowU ix c i = f) (hj : ix i = j) (ha : f i = a) (hb : f j = b) : rowU ix c (i + 1) = mrg f a b := by
  show mrg (rowU ix c i) (rowU ix c i i) (rowU ix c i (ix i)) = _
  rw [hf, hj, ha, hb]
theorem mrg_put {f : Nat → Nat} {a1 a2 mx mn j fj N : Nat} (hM : ∀ l, mrg f a1 a2 l = if f l = mx then mn else f l) (hf : f j = fj) (hm : fj = mx) {l : Nat} (hl : l < N) :
    (if l = j then (mn : Int) else ((if l < j then mrg f a1 a2 l else f l : Nat) : Int)) = ((if l < j + 1 then mrg f a1 a2 l else f l : Nat) : Int) := by
  by_cases e : l = j
  · subst e; rw [if_pos rfl, if_pos (Nat.lt_succ_self _), hM, if_pos (by omega)]
  · rw [if_neg e]
    by_cases h : l < j
    · rw [if_pos h, if_pos (by omega)]
    · rw [if_neg h, if_neg (by omega)]
theorem mrg_skip {f : Nat → Nat} {a1 a2 mx mn j fj N : Nat} (hM : ∀ l, mrg f a1 a2 l = if f l = mx then mn else f l) (hf : f j = fj) (hm : fj ≠ mx) {l : Nat} (hl : l < N) :
    ((if l < j then mrg f a1 a2 l else f l : Nat) : Int) = ((if l < j + 1 then mrg f a1 a2 l else f l : Nat) : Int) := by
  by_cases e : l = j
  · subst e; rw [if_neg (Nat.lt_irrefl _), if_pos (Nat.lt_succ_self _), hM, if_neg (by omega)]
  · by_cases h : l < j
    · rw [if_pos h, if_pos (by omega)]
    · rw [if_neg h, if_neg (by omega)]
theorem eltSp : EltK Try.prog 36 51 1 := by
  obtain ⟨i0, hi, hz0, hz1, hz2⟩ := info_parts (show (Try.prog.info? 51).map (fun i => (i.zero, i.size, i.bytes)) = some (some (.slice none 0 0), 1, 24) by kernel_rfl)
  exact ⟨Try.underlying36, i0, _, hi, hz0, hz1, rfl, by decide, by decide, by rw [hz2]; decide⟩
section
variable {ρ : Operand → Value} {ops : Array Oper} {rest : List Oper} {o : Oper} {a : Act} {w W : World} {Q : Exit → Act → World → Prop} {ty : TypeId} {x y : Operand}
theorem ld_cellJ {g k : Nat} {v : Value} (hop : o.op = .load ty x := by exact rfl) (hx : ρ x = .pointer (some ⟨g, k, none⟩) := by exact rfl)
    (hc : CellK W g k v := by first | with_reducible assumption | (with_reducible apply CellK.viaLow; (· with_reducible assumption); (· exact findLow)) | (with_reducible apply CellK.link; (· with_reducible assumption); (· with_reducible assumption)))
    (ha : ∀ W, (isAgg ty).run Try.prog W = .ok false W := by first | exact Try.isAgg3 | exact Try.isAgg51) : (execOp ρ o).run Try.prog W = .ok (.value v) W := by
  have h := hc.out
  unfold execOp
  simp only [hop, hx, Instr.loadAt, Instr.sureAddr, Sem.run_bind, Sem.run_pure, Result.andThen_ok, loadVar, ha, Bool.false_eq_true, if_false]
  rw [run_load]
  simp [h]
theorem wl_loadJ {v : Value} (hK : wpList Try.prog ops Q rest (a.put o.dst v) w) (hgd : o.guard = none := by exact rfl) (hop : o.op = .load ty x := by exact rfl)
    (hr : (execOp a.eval o).run Try.prog w = .ok (.value v) w := by exact ld_cellJ) : wpList Try.prog ops Q (o :: rest) a w := wpList_load_any w hgd ty x hop hr hK
theorem q_loadJ {G : Grow0 w} {K : Act → Prop} {v : Value} (hK : K (a.put o.dst v)) (hop : o.op = .load ty x := by exact rfl)
    (h : ∀ W, Link w W → (execOp a.eval o).run Try.prog W = .ok (.value v) W := by (intro W hl; exact ld_cellJ)) : o.quiet Try.prog a (fun w' => ∃ g : Grow w G, w' = g.W) K := q_load_any ty x hop h hK
theorem wl_storeJ {g k : Nat} {v : Value} (hK : wpList Try.prog ops Q rest a (w.setCell ⟨g, k, none⟩ v)) (hgd : o.guard = none := by exact rfl) (hop : o.op = .store ty x y := by exact rfl) (hd : o.dst = none := by exact rfl)
    (hx : a.eval x = .pointer (some ⟨g, k, none⟩) := by exact rfl) (hy : a.eval y = v := by conv => lhs; whnf)
    (hS : StK w g k := by first | with_reducible assumption | (with_reducible apply StK.viaLow; (· with_reducible assumption); (· exact findLow)) | (with_reducible apply StK.link; (· with_reducible assumption); (· with_reducible assumption)))
    (h1 : v.cells = #[v] := by exact rfl) (h2 : v.oneCell' = true := by exact rfl) (hs : ∀ W, (sizeOf ty).run Try.prog W = .ok 1 W := by exact Try.sizeOf3) : wpList Try.prog ops Q (o :: rest) a w := by
  obtain ⟨s1, s2, -⟩ := hS.out
  obtain ⟨u, hu⟩ := Option.isSome_iff_exists.1 s1
  have hr : (execOp a.eval o).run Try.prog w = .ok .skip (w.setCell ⟨g, k, none⟩ v) := by
    unfold execOp
    simp only [hop, hx, hy, Instr.storeAt, Instr.sureAddr, Sem.run_bind, Sem.run_pure, Result.andThen_ok, storeVar, hs, h1]
    have e : ((⟨g, k, none⟩ : Addr).add 0) = ⟨g, k, none⟩ := by unfold Addr.add; split <;> simp_all
    simp [storeCells, e, run_store, h2, hu, s2, go_sem]
  refine wpList_plain hgd fun K hK' => ?_
  unfold Oper.wp
  rw [hr]
  simp only [Oper.upon, hd]
  exact hK' _ _ hK
end
end Go.Proofs.Ytoagfpdicpcjnaa
/- Lists of lists of points in memory; the classes as lists. -/
namespace Go.Proofs.Ytoagfpdicpcjnaa
open Go.RowKit
set_option linter.unusedVariables false
set_option linter.unusedSimpArgs false
/-- Block, room and points of each list. -/
abbrev Row3 := Nat × Nat × List Pt
@[reducible] def slV (t : Row3) : Value := .slice (some ⟨t.1, 0, none⟩) t.2.2.length t.2.1
def tabV (T : List Row3) : List Value := T.map slV
structure TabK (W : World) (B : Nat) (T : List Row3) : Prop where
  out : (∀ t ∈ T, 0 < t.2.2.length ∧ OwnK W B 33 3 (slV t) t.2.2.length (ptCs t.2.2)) ∧ (T.map (·.1)).Nodup
theorem TabK.nil (W : World) (B : Nat) : TabK W B [] := ⟨⟨fun t ht => absurd ht (by simp), by simp⟩⟩
theorem TabK.link {W W' : World} {B : Nat} {T : List Row3} (l : Link W W') (h : TabK W B T) : TabK W' B T := ⟨⟨fun t ht => ⟨(h.out.1 t ht).1, (h.out.1 t ht).2.link l⟩, h.out.2⟩⟩
theorem own_types {W : World} {B B' sz sz' n n' : Nat} {T T' : TypeId} {v u : Value} {xs xs' : List Value} (h : OwnK W B T sz v n xs) (h' : OwnK W B' T' sz' u n' xs') (hne : T ≠ T') (b : Nat) (hb : v.ownBlock = some b) : u.ownBlock ≠ some b := by
  intro hu
  rcases h.out.2 with ⟨rfl, _⟩ | ⟨g1, c1, r1, rfl, _, h1, _⟩
  · simp [Value.ownBlock] at hb
  · rcases h'.out.2 with ⟨rfl, _⟩ | ⟨g2, c2, r2, rfl, _, h2, _⟩
    · simp [Value.ownBlock] at hu
    · simp [Value.ownBlock] at hb hu
      subst hb; subst hu
      rw [h1] at h2
      cases h2
      exact hne rfl
theorem TabK.grew {W W' : World} {B B' n : Nat} {T : List Row3} {u : Value} {xs : List Value} (hg : Grew W u W') (hO : OwnK W B' 51 1 u n xs) (h : TabK W B T) : TabK W' B T :=
  ⟨⟨fun t ht => ⟨(h.out.1 t ht).1, OwnK.grew hg (h.out.1 t ht).2 (fun b hb => own_types (h.out.1 t ht).2 hO (by decide) b hb)⟩, h.out.2⟩⟩
theorem TabK.lt {W : World} {B : Nat} {T : List Row3} (h : TabK W B T) {t : Row3} (ht : t ∈ T) : t.1 < W.heap.size := (h.out.1 t ht).2.lt t.1 rfl
theorem TabK.snoc {W : World} {B g cap : Nat} {T : List Row3} {l : List Pt} (h : TabK W B T) (hl : 0 < l.length) (hO : OwnK W B 33 3 (.slice (some ⟨g, 0, none⟩) l.length cap) l.length (ptCs l)) (hne : ∀ t ∈ T, t.1 ≠ g) : TabK W B (T ++ [(g, cap, l)]) := by
  refine ⟨⟨fun t ht => ?_, ?_⟩⟩
  · rcases List.mem_append.1 ht with ht | ht
    · exact h.out.1 t ht
    · rw [List.mem_singleton.1 ht]; exact ⟨hl, hO⟩
  · rw [List.map_append, List.nodup_append]
    refine ⟨h.out.2, by simp, fun a ha b hb => ?_⟩
    obtain ⟨t, ht, rfl⟩ := List.mem_map.1 ha
    simp at hb
    subst hb
    exact hne t ht
theorem tabV_snoc (T : List Row3) (t : Row3) : tabV T ++ [slV t] = tabV (T ++ [t]) := by simp [tabV]
theorem tabV_len (T : List Row3) : (tabV T).length = T.length := by simp [tabV]
theorem OwnK.lower {W : World} {B B' sz n : Nat} {T : TypeId} {v : Value} {xs : List Value} (hB : B' ≤ B) (h : OwnK W B T sz v n xs) : OwnK W B' T sz v n xs := by
  refine ⟨⟨h.out.1, ?_⟩⟩
  rcases h.out.2 with ⟨a, b⟩ | ⟨g, c, r, h1, h2, h3⟩
  · exact .inl ⟨a, b⟩
  · exact .inr ⟨g, c, r, h1, Nat.le_trans hB h2, h3⟩
theorem TabK.lower {W : World} {B B' : Nat} {T : List Row3} (hB : B' ≤ B) (h : TabK W B T) : TabK W B' T := ⟨⟨fun t ht => ⟨(h.out.1 t ht).1, OwnK.lower hB (h.out.1 t ht).2⟩, h.out.2⟩⟩
theorem OwnK.form {W : World} {B sz n : Nat} {T : TypeId} {v : Value} {xs : List Value} (h : OwnK W B T sz v n xs) : ∃ b cap, v = .slice b n cap := by
  rcases h.out.2 with ⟨rfl, rfl⟩ | ⟨g, c, r, rfl, _⟩
  · exact ⟨_, _, rfl⟩
  · exact ⟨_, _, rfl⟩
/-- The points of a class. -/
def filtP (cls : Nat → Nat) (L : List Pt) (i : Nat) : Nat → List Pt
  | 0 => []
  | k + 1 => if cls k = i then filtP cls L i k ++ [L.getD k p0] else filtP cls L i k
theorem filtP_yes {cls : Nat → Nat} {L : List Pt} {i k : Nat} {t : Pt} (h : cls k = i) (ht : L.getD k p0 = t) : filtP cls L i (k + 1) = filtP cls L i k ++ [t] := by rw [← ht]; exact if_pos h
theorem filtP_no {cls : Nat → Nat} {L : List Pt} {i k : Nat} (h : ¬ cls k = i) : filtP cls L i (k + 1) = filtP cls L i k := if_neg h
theorem filtP_len (cls : Nat → Nat) (L : List Pt) (i : Nat) : ∀ k, (filtP cls L i k).length ≤ k
  | 0 => Nat.le_refl _
  | k + 1 => by
    have := filtP_len cls L i k
    by_cases h : cls k = i
    · rw [filtP_yes h rfl, List.length_append]; show _ + 1 ≤ _; omega
    · rw [filtP_no h]; omega
theorem filtP_mem {cls : Nat → Nat} {L : List Pt} {i : Nat} {t : Pt} : ∀ {k}, t ∈ filtP cls L i k ↔ ∃ q, q < k ∧ cls q = i ∧ L.getD q p0 = t
  | 0 => by simp [filtP]
  | k + 1 => by
    by_cases h : cls k = i
    · rw [filtP_yes h rfl, List.mem_append, filtP_mem, List.mem_singleton]
      constructor
      · rintro (⟨q, h1, h2⟩ | rfl)
        · exact ⟨q, by omega, h2⟩
        · exact ⟨k, by omega, h, rfl⟩
      · rintro ⟨q, h1, h2, h3⟩
        by_cases e : q = k
        · subst e; exact .inr h3.symm
        · exact .inl ⟨q, by omega, h2, h3⟩
    · rw [filtP_no h, filtP_mem]
      constructor
      · rintro ⟨q, h1, h2⟩; exact ⟨q, by omega, h2⟩
      · rintro ⟨q, h1, h2, h3⟩
        refine ⟨q, ?_, h2, h3⟩
        by_cases e : q = k
        · subst e; exact absurd h2 h
        · omega
def tabL (cls : Nat → Nat) (L : List Pt) (N : Nat) : Nat → List (List Pt)
  | 0 => []
  | i + 1 => if 0 < (filtP cls L i N).length then tabL cls L N i ++ [filtP cls L i N] else tabL cls L N i
theorem tabL_yes {cls : Nat → Nat} {L : List Pt} {N i : Nat} {l : List Pt} (hl : filtP cls L i N = l) (h : 0 < l.length) : tabL cls L N (i + 1) = tabL cls L N i ++ [l] := by rw [← hl]; exact if_pos (by rw [hl]; exact h)
theorem tabL_no {cls : Nat → Nat} {L : List Pt} {N i : Nat} {l : List Pt} (hl : filtP cls L i N = l) (h : ¬ 0 < l.length) : tabL cls L N (i + 1) = tabL cls L N i := if_neg (by rw [hl]; exact h)
theorem tabL_len (cls : Nat → Nat) (L : List Pt) (N : Nat) : ∀ i, (tabL cls L N i).length ≤ i
  | 0 => Nat.le_refl _
  | i + 1 => by
    have := tabL_len cls L N i
    by_cases h : 0 < (filtP cls L i N).length
    · rw [tabL_yes rfl h, List.length_append]; show _ + 1 ≤ _; omega
    · rw [tabL_no rfl h]; omega
/-- The result: the classes' lists, each in a block of its own. -/
def OrbsPost (w : World) (Ls : List (List Pt)) : Ending → World → Prop := fun e w' => ∃ v T, e = .returned v ∧ T.map (·.2.2) = Ls ∧ TabK w' w.heap.size T ∧ OwnK w' w.heap.size 51 1 v T.length (tabV T) ∧ LowK w w'
end Go.Proofs.Ytoagfpdicpcjnaa
