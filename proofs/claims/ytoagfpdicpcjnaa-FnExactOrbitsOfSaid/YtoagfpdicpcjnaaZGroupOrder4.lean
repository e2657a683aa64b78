/- Texts of the claim, in build order: H1, G1, G2, G1L, G2L, K1, K2, K3, M1, G3, P2, F3, P1, RegY, P3, P4, Auto. No condition. -/
import Derived.Laws.MakeOwn
import Derived.Laws.IdiomCopy
import Derived.Lib.AppendZeros
import Derived.Laws.AppendOwnNone
import Derived.Test.YtoagfpdicpcjnaaZGroupOrder3
/- Contracts: the laws' own lists of numbers: made with room behind, compared. -/
namespace Go.Proofs.Ytoagfpdicpcjnaa
open Go.RowKit
set_option linter.unusedVariables false
set_option linter.unusedSimpArgs false
def IntsAt (w : World) (b o n : Nat) (l : List Int) : Prop := ∀ i, i < n → w.cell? ⟨b, o + i, none⟩ = some (.int .i64 (l.getD i 0))
theorem IntsAt.below {w w1 : World} {b o n : Nat} {l : List Int} (h : IntsAt w b o n l) (hb : Below w.heap.size w w1) : IntsAt w1 b o n l := fun i hi => cell_below hb (h i hi)
/-- A block of room for numbers. -/
def RoomI (W : World) (g cap : Nat) (T : TypeId) : Prop := ∃ cur, W.heap[g]? = some (.cells cur T (0, 0)) ∧ cur.size = cap
theorem RoomI.set {W : World} {g cap : Nat} {T : TypeId} (h : RoomI W g cap T) (j : Nat) (v : Value) : RoomI (W.setCell ⟨g, j, none⟩ v) g cap T := by
  obtain ⟨cur, hb, hs⟩ := h
  exact ⟨cur.setIfInBounds j v, by simp [World.setCell, Array.getElem?_modify, hb], by simpa using hs⟩
theorem RoomI.frozen {W : World} {g cap : Nat} {T : TypeId} (h : RoomI W g cap T) (j : Nat) : W.frozen? ⟨g, j, none⟩ = false := by
  obtain ⟨cur, hb, hs⟩ := h
  exact frozen_of_row W g j _ _ hb
theorem RoomI.some {W : World} {g cap : Nat} {T : TypeId} (h : RoomI W g cap T) (j : Nat) (hj : j < cap) : (W.cell? ⟨g, j, none⟩).isSome = true := by
  obtain ⟨cur, hb, hs⟩ := h
  rw [cell_of_row W g j _ _ _ hb]
  simp [hs, hj]
theorem RoomI.below {W W' : World} {g cap : Nat} {T : TypeId} (h : RoomI W g cap T) (hb : Below W.heap.size W W') : RoomI W' g cap T := by
  obtain ⟨cur, h1, hs⟩ := h
  exact ⟨cur, by rw [hb.block _ (Array.getElem?_eq_some_iff.1 h1).1]; exact h1, hs⟩
theorem RoomI.lt {W : World} {g cap : Nat} {T : TypeId} (h : RoomI W g cap T) : g < W.heap.size := by
  obtain ⟨cur, h1, hs⟩ := h
  exact (Array.getElem?_eq_some_iff.1 h1).1
theorem ints_set {W : World} {g cap n : Nat} {T : TypeId} {L : List Int} (hr : RoomI W g cap T) (hn : n ≤ cap) (h : IntsAt W g 0 n L) (hl : L.length = n) (i : Nat) (hi : i < n) (x : Int) :
    IntsAt (W.setCell ⟨g, i, none⟩ (.int .i64 x)) g 0 n (L.set i x) := by
  obtain ⟨u0, s0⟩ := Option.isSome_iff_exists.1 (hr.some i (by omega))
  intro j hj
  have c0 := h j hj
  simp only [Nat.zero_add] at c0 ⊢
  by_cases e : j = i
  · subst e
    have hd : (L.set j x).getD j 0 = x := by simp [List.getD, hl, hj]
    rw [hd, World.cell?_setCell_same _ _ _ s0]
  · have hd : (L.set i x).getD j 0 = L.getD j 0 := by simp [List.getD, List.getElem?_set_ne (Ne.symm e)]
    rw [hd, World.cell?_setCell_other _ _ _ _ (fun h => e (by cases h; rfl))]; exact c0
theorem ints_other {W : World} {b o n : Nat} {l : List Int} (h : IntsAt W b o n l) {g i : Nat} (hg : b ≠ g) (v : Value) : IntsAt (W.setCell ⟨g, i, none⟩ v) b o n l := fun j hj => by
  rw [World.cell?_setCell_other _ _ _ _ (fun h => hg (by cases h; rfl))]; exact h j hj
theorem madeI {m j : Nat} (h : j < m) : (madeCells #[.int .i64 0] m)[j]? = some (.int .i64 0) := by simp [madeCells, h, Nat.mod_one]
/-- 'make' of m numbers: a new block, all 0. -/
theorem wpList_make_ints {P : Program} (w : World) {ops : Array Oper} {rest : List Oper} {o : Oper} {a : Act} {Q : Exit → Act → World → Prop}
    (hg : o.guard = none) (l c : Operand) (t : TypeId) (hop : o.op = Op.makeSlice t l c)
    (e : TypeId) (i : TypeInfo) (ht : P.underlying t = some (.slice e)) (hi : P.info? e = some i) (hz : i.zero = some (.int .i64 0)) (hs : i.size = 1)
    (kl kc : IntKind) (m : Nat) (C : Int) (hC : C = (m : Int)) (hl : a.eval l = .int kl C) (hc : a.eval c = .int kc C) (hbytes : i.bytes * m ≤ 281474976710656) (h63 : m ≤ 9223372036854775807)
    (hK : ∀ W', Below w.heap.size w W' → RoomI W' w.heap.size m e → IntsAt W' w.heap.size 0 m (List.replicate m 0) → w.heap.size < W'.heap.size → wpList P ops Q rest (a.put o.dst (.slice (some ⟨w.heap.size, 0, none⟩) m m)) W') :
    wpList P ops Q (o :: rest) a w := by
  subst hC
  refine wpList_plain hg fun K hK' => ?_
  have hb' : (i.bytes : Int) * (m : Int) ≤ 281474976710656 := by
    have h : ((i.bytes * m : Nat) : Int) ≤ 281474976710656 := by omega
    rwa [Int.natCast_mul] at h
  have hr := run_make (P := P) w t e i _ ht hi hz kl kc m m (by omega) (Int.le_refl _) hb' (by omega)
  have hcl : (Value.int .i64 0).cells = #[.int .i64 0] := by rfl
  rw [hcl, hs, Int.toNat_natCast, Nat.mul_one] at hr
  unfold Oper.wp
  simp [execOp, hop, hl, hc, hr, Result.andThen]
  refine hK' _ _ (hK _ ((Below.refl _ _).alloc (Nat.le_refl _) _) ⟨_, heap_alloc_new _ _, by simp [madeCells]⟩ (fun j hj => ?_) (by simp))
  have hd : (List.replicate m (0 : Int)).getD j 0 = 0 := by simp [List.getD, hj]
  rw [hd, Nat.zero_add, World.cell?_alloc_at _ _ _ _ rfl]
  exact madeI hj
theorem infoI : (Try.prog.info? 2).map (fun i => (i.zero, i.size, i.bytes)) = some (some (.int .i64 0), 1, 8) := by kernel_rfl
def fillI : Int := -7000000000000000101
def withRoomI (l : List Int) : List Int := l ++ List.replicate (roomN l.length) fillI
structure LaidI (w : World) (l : List Int) (e : Ending) (w' : World) : Prop where
  out : ∃ g, e = .returned (.slice (some ⟨g, 0, none⟩) l.length (l.length + roomN l.length)) ∧ w.heap.size ≤ g ∧ RoomI w' g (l.length + roomN l.length) 2 ∧ IntsAt w' g 0 (l.length + roomN l.length) (withRoomI l) ∧ Below w.heap.size w w'
theorem roomN_le (n : Nat) : roomN n ≤ n + 1 := by
  unfold roomN
  split
  · omega
  · split <;> omega
theorem take_setI {L l : List Int} {k : Nat} {a : Int} (h : L.take k = l.take k) (hk : k < L.length) (hk' : k < l.length) (ha : l.getD k 0 = a) : (L.set k a).take (k + 1) = l.take (k + 1) := by
  rw [take_snoc' _ 0 k (by simpa using hk), take_snoc' l 0 k hk', List.take_set_of_le (Nat.le_refl _), h, ha]
  congr 1
  simp [List.getD, hk]
theorem withRoomI_length (l : List Int) : (withRoomI l).length = l.length + roomN l.length := by simp [withRoomI]
theorem withRoomI_take (l : List Int) : (withRoomI l).take l.length = l := by simp [withRoomI]
theorem withRoomI_fill (l : List Int) (k : Nat) (h : l.length ≤ k) (h2 : k < l.length + roomN l.length) : (withRoomI l).getD k 0 = fillI := by
  have hj : k - l.length < roomN l.length := by omega
  simp [withRoomI, List.getD, List.getElem?_append_right h, hj]
theorem withRoomI_at (l : List Int) (k : Nat) (h : k < l.length) : (withRoomI l).getD k 0 = l.getD k 0 := by
  simp [withRoomI, List.getD, List.getElem?_append_left h]
end Go.Proofs.Ytoagfpdicpcjnaa
/- Contracts: the laws' own lists of points: made with room behind, compared. (Printed by geng1.py, a program of this session.) -/
namespace Go.Proofs.Ytoagfpdicpcjnaa
open Go.RowKit
set_option linter.unusedVariables false
set_option linter.unusedSimpArgs false
theorem made0 {m j : Nat} (h : j < m * 3) : (madeCells #[.int .i64 0, .int .i64 0, .int .i64 0] (m * 3))[j]? = some (.int .i64 0) := by
  have : j % 3 = 0 ∨ j % 3 = 1 ∨ j % 3 = 2 := by omega
  rcases this with e | e | e <;> simp [madeCells, h, e]
/-- 'make' of m points: a new block, all 0. -/
theorem wpList_make_pts {P : Program} (w : World) {ops : Array Oper} {rest : List Oper} {o : Oper} {a : Act} {Q : Exit → Act → World → Prop}
    (hg : o.guard = none) (l c : Operand) (t : TypeId) (hop : o.op = Op.makeSlice t l c)
    (e : TypeId) (i : TypeInfo) (ht : P.underlying t = some (.slice e)) (hi : P.info? e = some i) (hz : i.zero = some (.agg #[.int .i64 0, .int .i64 0, .int .i64 0])) (hs : i.size = 3)
    (kl kc : IntKind) (m : Nat) (C : Int) (hC : C = (m : Int)) (hl : a.eval l = .int kl C) (hc : a.eval c = .int kc C) (hbytes : i.bytes * m ≤ 281474976710656) (h63 : m ≤ 9223372036854775807)
    (hK : ∀ W', Below w.heap.size w W' → RoomP W' w.heap.size m e → PtsAt W' w.heap.size 0 m (List.replicate m (0, 0, 0)) → w.heap.size < W'.heap.size → wpList P ops Q rest (a.put o.dst (.slice (some ⟨w.heap.size, 0, none⟩) m m)) W') :
    wpList P ops Q (o :: rest) a w := by
  subst hC
  refine wpList_plain hg fun K hK' => ?_
  have hb' : (i.bytes : Int) * (m : Int) ≤ 281474976710656 := by
    have h : ((i.bytes * m : Nat) : Int) ≤ 281474976710656 := by omega
    rwa [Int.natCast_mul] at h
  have hr := run_make (P := P) w t e i _ ht hi hz kl kc m m (by omega) (Int.le_refl _) hb' (by omega)
  have hcl : (Value.agg #[.int .i64 0, .int .i64 0, .int .i64 0]).cells = #[.int .i64 0, .int .i64 0, .int .i64 0] := by rfl
  rw [hcl, hs, Int.toNat_natCast] at hr
  unfold Oper.wp
  simp [execOp, hop, hl, hc, hr, Result.andThen]
  refine hK' _ _ (hK _ ((Below.refl _ _).alloc (Nat.le_refl _) _) ⟨_, heap_alloc_new _ _, by simp [madeCells]⟩ (fun j hj => ?_) (by simp))
  have hd : (List.replicate m ((0, 0, 0) : Pt)).getD j (0, 0, 0) = (0, 0, 0) := by simp [List.getD, hj]
  rw [hd]
  simp only [Nat.zero_add]
  refine ⟨?_, ?_, ?_⟩
  · rw [World.cell?_alloc_at _ _ _ _ rfl]; exact made0 (by omega)
  · rw [World.cell?_alloc_at _ _ _ _ rfl]; exact made0 (by omega)
  · rw [World.cell?_alloc_at _ _ _ _ rfl]; exact made0 (by omega)
def fillP : Pt := (-7000000000000000101, 0, 0)
/-- What the laws lay for a list: a new block with the list and room behind it. -/
def withRoomP (l : List Pt) : List Pt := l ++ List.replicate (roomN l.length) fillP
structure LaidP (T : TypeId) (w : World) (l : List Pt) (e : Ending) (w' : World) : Prop where
  out : ∃ g, e = .returned (.slice (some ⟨g, 0, none⟩) l.length (l.length + roomN l.length)) ∧ w.heap.size ≤ g ∧ RoomP w' g (l.length + roomN l.length) T ∧ PtsAt w' g 0 (l.length + roomN l.length) (withRoomP l) ∧ Below w.heap.size w w'
theorem take_setP {L l : List Pt} {k : Nat} {a : Pt} (h : L.take k = l.take k) (hk : k < L.length) (hk' : k < l.length) (ha : l.getD k (0, 0, 0) = a) : (L.set k a).take (k + 1) = l.take (k + 1) := by
  rw [take_snoc' _ (0, 0, 0) k (by simpa using hk), take_snoc' l (0, 0, 0) k hk', List.take_set_of_le (Nat.le_refl _), h, ha]
  congr 1
  simp [List.getD, hk]
theorem withRoomP_length (l : List Pt) : (withRoomP l).length = l.length + roomN l.length := by simp [withRoomP]
theorem withRoomP_take (l : List Pt) : (withRoomP l).take l.length = l := by simp [withRoomP]
theorem withRoomP_fill (l : List Pt) (k : Nat) (h : l.length ≤ k) (h2 : k < l.length + roomN l.length) : (withRoomP l).getD k (0, 0, 0) = fillP := by
  have hj : k - l.length < roomN l.length := by omega
  simp [withRoomP, List.getD, List.getElem?_append_right h, hj]
theorem withRoomP_at (l : List Pt) (k : Nat) (h : k < l.length) : (withRoomP l).getD k (0, 0, 0) = l.getD k (0, 0, 0) := by
  simp [withRoomP, List.getD, List.getElem?_append_left h]
theorem pts_take {w : World} {b o n m : Nat} {l : List Pt} (h : PtsAt w b o n l) (hm : m ≤ n) : PtsAt w b o m (l.take m) := fun i hi => by
  have := h i (by omega)
  have hd : (l.take m).getD i (0, 0, 0) = l.getD i (0, 0, 0) := by simp [List.getD, List.getElem?_take_of_lt hi]
  rw [hd]; exact this
end Go.Proofs.Ytoagfpdicpcjnaa
/- Contracts: the laws' own lists of points: compared, intact. (Printed by geng1.py, a program of this session.) -/
namespace Go.Proofs.Ytoagfpdicpcjnaa
open Go.RowKit
set_option linter.unusedVariables false
set_option linter.unusedSimpArgs false
/-- A list of points in memory, somewhere; it may be empty. -/
def ListP (w : World) (b : Option Addr) (n : Nat) (l : List Pt) : Prop := l.length = n ∧ (0 < n → ∃ g off, b = some ⟨g, off, none⟩ ∧ PtsAt w g off n l)
theorem ListP.below {w w1 : World} {b : Option Addr} {n : Nat} {l : List Pt} (h : ListP w b n l) (hb : Below w.heap.size w w1) : ListP w1 b n l :=
  ⟨h.1, fun hn => by obtain ⟨g, off, e, hp⟩ := h.2 hn; exact ⟨g, off, e, hp.below hb⟩⟩
theorem listP_mk {w : World} {g off n : Nat} {l : List Pt} (hl : l.length = n) (h : PtsAt w g off n l) : ListP w (some ⟨g, off, none⟩) n l := ⟨hl, fun _ => ⟨g, off, rfl, h⟩⟩
theorem listP_nil {w : World} {b : Option Addr} : ListP w b 0 [] := ⟨rfl, fun h => absurd h (Nat.lt_irrefl _)⟩
theorem eqPointS_same (b b2 : Option Addr) (n cap cap2 : Nat) (l : List Pt) (w : World) (hn : n ≤ 4611686018427387904) (h1 : ListP w b n l) (h2 : ListP w b2 n l) :
    Calls Try.prog 34 #[.slice b n cap, .slice b2 n cap2] w (Ret w (.bool true)) := by
  have H1 := Lib.hid h1
  have H2 := Lib.hid h2
  clear h1 h2
  go_enter Try.func34, Try.ntmps34
  go_wp2
  go_loopw [5] (fun i wr => ∃ k : Nat, k ≤ n ∧ i = .int .i64 k ∧ Hid (Below w.heap.size w wr)) (fun i wr => n - (intOf i).toNat)
  case atStart => exact ⟨0, Nat.zero_le _, rfl, Lib.hid (Below.refl _ _)⟩
  case round =>
    obtain ⟨k, hk, rfl, HB⟩ := hrel
    by_cases hlt : k < n
    · obtain ⟨g1, o1, rfl, hp1⟩ := H1.out.2 (by omega)
      obtain ⟨g2, o2, rfl, hp2⟩ := H2.out.2 (by omega)
      obtain ⟨c0, c1, c2⟩ := hp1 k hlt
      obtain ⟨e0, e1, e2⟩ := hp2 k hlt
      clear hp1 hp2 H1 H2
      generalize l.getD k (0, 0, 0) = a at *
      obtain ⟨x, y, z⟩ := a
      go_wp2
      refine region_calm [(17, .slice (some ⟨g1, o1, none⟩) n cap), (18, .int .i64 k), (19, .pointer (some ⟨g1, o1 + k * 3, none⟩)), (20, ptV x y z), (21, .slice (some ⟨g2, o2, none⟩) n cap2), (22, .int .i64 k), (23, .pointer (some ⟨g2, o2 + k * 3, none⟩)), (24, ptV x y z), (25, .bool true), (26, .bool false)] (by kernel_rfl) (by kernel_rfl) (by kernel_rfl) (fun aE hpe => ?_)
      simp only [puts, Act.put, List.setIfInBounds_toArray, List.set_cons_zero, List.set_cons_succ] at hpe
      subst hpe
      refine ⟨⟨.inr (.inr ?_), .inr (.inr ?_), .inr (.inr ?_), .inr (.inr ?_), .inr (.inr ?_), .inr (.inr ?_), .inr (.inr ?_), .inr (.inr ?_), .inr (.inr ?_), .inr (.inr ?_), trivial⟩, ?_⟩
      · exact Calm.mk 17 (.slice (some ⟨g1, o1, none⟩) n cap) rfl rfl (fun W _ => calm_move (.tmp 0) rfl rfl)
      · exact Calm.mk 18 (.int .i64 k) rfl rfl (fun W _ => calm_move (.tmp 5) rfl rfl)
      · exact Calm.mk 19 (.pointer (some ⟨g1, o1 + k * 3, none⟩)) rfl rfl (fun W _ => calm_run (by simp [execOp, Act.eval, go_sem, hlt]))
      · exact Calm.mk 20 (ptV x y z) rfl rfl (fun W hW => calm_loadPt 33 (.tmp 19) rfl rfl (cell_below hW (cell_below HB.out c0)) (cell_below hW (cell_below HB.out c1)) (cell_below hW (cell_below HB.out c2)) Try.sizeOf33 Try.isAgg33)
      · exact Calm.mk 21 (.slice (some ⟨g2, o2, none⟩) n cap2) rfl rfl (fun W _ => calm_move (.tmp 1) rfl rfl)
      · exact Calm.mk 22 (.int .i64 k) rfl rfl (fun W _ => calm_move (.tmp 5) rfl rfl)
      · exact Calm.mk 23 (.pointer (some ⟨g2, o2 + k * 3, none⟩)) rfl rfl (fun W _ => calm_run (by simp [execOp, Act.eval, go_sem, hlt]))
      · exact Calm.mk 24 (ptV x y z) rfl rfl (fun W hW => calm_loadPt 33 (.tmp 23) rfl rfl (cell_below hW (cell_below HB.out e0)) (cell_below hW (cell_below HB.out e1)) (cell_below hW (cell_below HB.out e2)) Try.sizeOf33 Try.isAgg33)
      · exact Calm.mk 25 (.bool true) rfl rfl (fun W hW => calm_call 52 _ #[ptV x y z, ptV x y z] rfl rfl rfl (by simp [Act.eval]) (Try.call52 _ _) (eqPoint_same x y z W))
      · exact Calm.mk 26 (.bool false) rfl rfl (fun W hW => calm_run (by simp [execOp, Act.eval, go_sem]))
      intro W2 hW2
      have HB2 := Lib.hid (low_tr' HB.out hW2 HB.out.size)
      clear HB hW2
      go_wp2
      go_roundw
      case rel => exact ⟨k + 1, by omega, by go_num, HB2⟩
      case measure => simp [intOf]; omega
    · go_wp2
      go_ret
      exact ⟨rfl, HB.out⟩
end Go.Proofs.Ytoagfpdicpcjnaa
/- Contracts: the laws' own lists of lines: made with room behind, compared. (Printed by geng1.py, a program of this session.) -/
namespace Go.Proofs.Ytoagfpdicpcjnaa
open Go.RowKit
set_option linter.unusedVariables false
set_option linter.unusedSimpArgs false
end Go.Proofs.Ytoagfpdicpcjnaa
/- Contracts: the laws' own lists of lines: compared, intact. (Printed by geng1.py, a program of this session.) -/
namespace Go.Proofs.Ytoagfpdicpcjnaa
open Go.RowKit
set_option linter.unusedVariables false
set_option linter.unusedSimpArgs false
end Go.Proofs.Ytoagfpdicpcjnaa
/- Contracts: comparisons of points and lines; lists that may be empty. -/
namespace Go.Proofs.Ytoagfpdicpcjnaa
open Go.RowKit
set_option linter.unusedVariables false
set_option linter.unusedSimpArgs false
/-- Two numbers compared. -/
def cmpI (a b : Int) : Int := if a < b then -1 else if b < a then 1 else 0
def cmpP (a b : Pt) : Int := if cmpI a.1 b.1 = 0 then (if cmpI a.2.1 b.2.1 = 0 then cmpI a.2.2 b.2.2 else cmpI a.2.1 b.2.1) else cmpI a.1 b.1
def befB (a b : Pt) : Bool := if a.1 = b.1 then (if a.2.1 = b.2.1 then decide (a.2.2 < b.2.2) else decide (a.2.1 < b.2.1)) else decide (a.1 < b.1)
theorem cmpI_zero (a b : Int) : cmpI a b = 0 ↔ a = b := by unfold cmpI; constructor <;> intro h <;> repeat (first | omega | split at h | split)
theorem cmpI_neg (a b : Int) : cmpI a b < 0 ↔ a < b := by unfold cmpI; constructor <;> intro h <;> repeat (first | omega | split at h | split)
theorem cmpP_bef (a b : Pt) : decide (0 ≤ cmpP a b) = !befB a b := by
  have h : cmpP a b < 0 ↔ befB a b = true := by
    unfold cmpP befB
    simp only [cmpI_zero]
    repeat (first | (simp only [cmpI_neg, decide_eq_true_eq]) | split)
  cases hb : befB a b with
  | true => simp; exact h.2 hb
  | false => simp; exact Int.not_lt.1 (fun hc => by rw [h.1 hc] at hb; cases hb)
theorem cmpI_range (a b : Int) : -1 ≤ cmpI a b ∧ cmpI a b ≤ 1 := by unfold cmpI; repeat (first | omega | split)
end Go.Proofs.Ytoagfpdicpcjnaa
/- Contracts: triples compared; lists that ascend. (Printed by genk2.py, a program of this session.) -/
namespace Go.Proofs.Ytoagfpdicpcjnaa
open Go.RowKit
set_option linter.unusedVariables false
set_option linter.unusedSimpArgs false
theorem at_new (w : World) (o : Obj) (n : Nat) (h : n = w.heap.size) : (w.alloc o).heap[n]? = some o := by subst h; exact heap_alloc_new w o
theorem at_old (w : World) (o : Obj) (n : Nat) (h : n < w.heap.size) : (w.alloc o).heap[n]? = w.heap[n]? := by
  rw [heap_alloc_old]; exact h
/-- A list ascends strictly. -/
def ascB (l : List Pt) : Bool := (List.range (l.length - 1)).all (fun i => befB (l.getD i (0, 0, 0)) (l.getD (i + 1) (0, 0, 0)))
theorem ascB_true {l : List Pt} (h : ∀ i, i + 1 < l.length → befB (l.getD i (0, 0, 0)) (l.getD (i + 1) (0, 0, 0)) = true) : ascB l = true := by
  unfold ascB
  rw [List.all_eq_true]
  intro i hi
  exact h i (by have := List.mem_range.1 hi; omega)
theorem ascB_false {l : List Pt} {i : Nat} (hi : i + 1 < l.length) (h : befB (l.getD i (0, 0, 0)) (l.getD (i + 1) (0, 0, 0)) = false) : ascB l = false := by
  unfold ascB
  rw [List.all_eq_false]
  exact ⟨i, List.mem_range.2 (by omega), by rw [h]; decide⟩
end Go.Proofs.Ytoagfpdicpcjnaa
/- Contracts: figures: points and lines, as the program and as the reference take them. -/
namespace Go.Proofs.Ytoagfpdicpcjnaa
open Go.RowKit
set_option linter.unusedVariables false
set_option linter.unusedSimpArgs false
theorem arePoints_zero (p : Int) (b : Option Addr) (cap : Nat) (w : World) : Calls Try.prog 44 #[.int .i64 p, .slice b 0 cap] w (Ret w (.bool true)) := by
  go_enter Try.func44, Try.ntmps44
  go_wp2
  refine wp_loop_rounds 1 ?_
  rw [rounds_succ]; go_wp2
  go_ret
  exact ⟨rfl, Below.refl _ _⟩
theorem l01Code_zero (p : Int) (b : Option Addr) (cap : Nat) (w : World) : Calls Try.prog 38 #[.int .i64 p, .slice b 0 cap] w (Ret w (.int .i64 (codeOf p true))) := by
  cases hp : prB p with
  | false =>
    have HP := Lib.hid hp; clear hp
    go_enter Try.func38, Try.ntmps38
    go_wp2_with (go_at_call 53; refine (l01Prime_no _ _ HP.out).mono ?_; rintro e w' ⟨rfl, rfl⟩)
    go_ret
    exact ⟨ret_int (codeOf_no _ HP.out).symm, Below.refl _ _⟩
  | true =>
    have HP := Lib.hid hp; clear hp
    go_enter Try.func38, Try.ntmps38
    go_wp2_with (go_at_call 53; refine (l01Prime_yes _ _ HP.out).mono ?_; rintro e w' ⟨rfl, rfl⟩)
    refine wp_loop_rounds 1 ?_
    rw [rounds_succ]; go_wp2
    go_ret
    exact ⟨ret_int (codeOf_t HP.out).symm, Below.refl _ _⟩
theorem list_cases {w : World} {b : Option Addr} {n : Nat} {l : List Pt} (h : ListP w b n l) : (n = 0 ∧ l = []) ∨ ∃ g o, b = some ⟨g, o, none⟩ ∧ PtsAt w g o n l := by
  rcases Nat.eq_zero_or_pos n with e | e
  · exact .inl ⟨e, List.length_eq_zero_iff.1 (h.1.trans e)⟩
  · exact .inr (h.2 e)
theorem arePoints_list (p : Int) (b : Option Addr) (n cap : Nat) (l : List Pt) (w : World) (hn : n ≤ 1000000) (h : ListP w b n l) :
    Calls Try.prog 44 #[.int .i64 p, .slice b n cap] w (Ret w (.bool (ptsB p l))) := by
  rcases list_cases h with ⟨rfl, rfl⟩ | ⟨g, o, rfl, hp⟩
  · exact arePoints_zero p b cap w
  · exact arePoints_any p g o n cap l w h.1 (by omega) hp
theorem l01Code_list (p : Int) (b : Option Addr) (n cap : Nat) (l : List Pt) (w : World) (hn : n ≤ 1000000) (h : ListP w b n l) :
    Calls Try.prog 38 #[.int .i64 p, .slice b n cap] w (Ret w (.int .i64 (codeOf p (ptsB p l)))) := by
  rcases list_cases h with ⟨rfl, rfl⟩ | ⟨g, o, rfl, hp⟩
  · exact l01Code_zero p b cap w
  · exact l01Code_any p g o n cap l w h.1 (by omega) hp
/-- A figure's value. -/
@[reducible] def figV (b1 : Option Addr) (n1 c1 : Nat) (b2 : Option Addr) (n2 c2 : Nat) : Value := .agg #[.slice b1 n1 c1, .slice b2 n2 c2]
/-- A figure: both lists ascend, and none is too long. -/
def figB (n1 n2 : Nat) (l1 l2 : List Pt) : Bool := (ascB l1 && decide (n1 ≤ 16)) && (ascB l2 && decide (n2 ≤ 16))
end Go.Proofs.Ytoagfpdicpcjnaa
/- Contracts: slices.Grow of no list; slices.Concat of the three rows of a map. -/
namespace Go.Proofs.Ytoagfpdicpcjnaa
open Go.RowKit
set_option linter.unusedVariables false
set_option linter.unusedSimpArgs false
structure OwnI (base : Nat) (w : World) (l : List Int) (e : Ending) (w' : World) : Prop where
  out : ∃ v, e = .returned v ∧ w'.ownsRow base 2 1 v l.length (ints l) ∧ Below base w w'
set_option maxRecDepth 100000 in
theorem grow64_nil (n : Nat) (w : World) (h0 : 0 < n) (hn : n ≤ 1000000) :
    Calls Try.prog 84 #[.slice none 0 0, .int .i64 (n : Int)] w (OwnI w.heap.size w []) := by
  obtain ⟨i0, hi, hz0, hz1, hz2⟩ := info_parts info64
  have HI0 := Lib.hid hi; have HZ0 := Lib.hid hz0; have HZ1 := Lib.hid hz1; have HZ2 := Lib.hid hz2
  clear hi hz0 hz1 hz2
  have hnz : (0 : Int) < (n : Int) := by omega
  go_enter Try.func84, Try.ntmps84
  go_wp2_with (at_builtin; refine Lib.wpList_append_run _ rfl _ _ 73 3 rfl _ _ rfl rfl _ _ (Lib.run_append_nil_zeros _ 73 3 _ 2 i0 (.int .i64 0) .i64 .i64 Try.underlying73 Try.underlying3 HI0.out HZ0.out n h0 (by rw [HZ1.out]; omega) (by omega) (by rw [HZ2.out]; omega)) ?_)
  go_ret
  have hge := grownCap_ge w n 0 2
  have hle := grownCap_le_maxLen w n 0 2 (by unfold maxLen; omega)
  refine ⟨_, rfl, ⟨rfl, .inr ⟨w.heap.size, _, _, rfl, Nat.le_refl _, heap_alloc_new _ _, Nat.zero_le _, hle, ?_, rfl⟩⟩, bal (bdr (Below.refl _ _)) _⟩
  simp [Builtin.zeroCells]
  omega
theorem take3 (l : List Int) (k : Nat) (h : k + 2 < l.length) : l.take (k + 3) = l.take k ++ [l.getD k 0, l.getD (k + 1) 0, l.getD (k + 2) 0] := by
  rw [take_snoc' l 0 (k + 2) h, take_snoc' l 0 (k + 1) (by omega), take_snoc' l 0 k (by omega)]
  simp
theorem ints_app (a b : List Int) : ints (a ++ b) = ints a ++ ints b := by simp [ints]
theorem src3 {W : World} {g o : Nat} {x y z : Int} (d0 : W.cell? ⟨g, o, none⟩ = some (.int .i64 x)) (d1 : W.cell? ⟨g, o + 1, none⟩ = some (.int .i64 y)) (d2 : W.cell? ⟨g, o + 2, none⟩ = some (.int .i64 z)) :
    ∀ (j : Nat) (u : Value), [Value.int .i64 x, .int .i64 y, .int .i64 z][j]? = some u → W.cell? ((⟨g, o, none⟩ : Addr).add j) = some u := by
  intro j u hj
  have hadd : ∀ j, (⟨g, o, none⟩ : Addr).add j = ⟨g, o + j, none⟩ := by intro j; unfold Addr.add; split <;> simp_all
  rw [hadd]
  match j, hj with
  | 0, hj => simpa using d0.trans (by simpa using hj)
  | 1, hj => exact d1.trans (by simpa using hj)
  | 2, hj => exact d2.trans (by simpa using hj)
  | j + 3, hj => simp at hj
set_option maxRecDepth 100000 in
set_option maxHeartbeats 2000000 in
theorem concat9 (h g k0 k1 k2 : Nat) (l : List Int) (w : World) (hl : l.length = 9) (hA : ∀ i, i < 9 → w.cell? ⟨g, 0 + i, none⟩ = some (.int .i64 (l.getD i 0)))
    (h0 : w.cell? ⟨h, 0, none⟩ = some (.slice (some ⟨g, 0, none⟩) 3 k0)) (h1 : w.cell? ⟨h, 1, none⟩ = some (.slice (some ⟨g, 3, none⟩) 3 k1)) (h2 : w.cell? ⟨h, 2, none⟩ = some (.slice (some ⟨g, 6, none⟩) 3 k2)) :
    Calls Try.prog 78 #[.slice (some ⟨h, 0, none⟩) 3 3] w (OwnI w.heap.size w l) := by
  obtain ⟨i0, hi, hz0, hz1, hz2⟩ := info_parts info64
  have HI0 := Lib.hid hi; have HZ0 := Lib.hid hz0; have HZ1 := Lib.hid hz1; have HZ2 := Lib.hid hz2
  have HA := Lib.hid hA
  have HL := Lib.hid hl
  have hgl : g < w.heap.size := World.block_lt_of_cell? w _ (hA 0 (by omega))
  have hhl : h < w.heap.size := World.block_lt_of_cell? w _ h0
  have HGr : Hid (∀ W : World, Calls Try.prog 84 #[.slice none 0 0, .int .i64 9] W (OwnI W.heap.size W [])) := Lib.hid (fun (W : World) => grow64_nil 9 W (by omega) (by omega))
  clear hi hz0 hz1 hz2 hA hl
  go_enter Try.func78, Try.ntmps78
  go_wp2
  go_loop [3, 11] (fun s i => ∃ k : Nat, k ≤ 3 ∧ i = .int .i64 k ∧ s = .int .i64 ((3 * k : Nat) : Int)) (fun _ i => 3 - (intOf i).toNat)
  case atStart => exact ⟨0, by omega, rfl, rfl⟩
  case round =>
    obtain ⟨k, hk, rfl, rfl⟩ := hrel
    rcases (show k = 0 ∨ k = 1 ∨ k = 2 ∨ k = 3 by omega) with rfl | rfl | rfl | rfl
    · go_wp2
      go_round
      case rel => exact ⟨1, by omega, rfl, rfl⟩
      case measure => simp [intOf]
    · go_wp2
      go_round
      case rel => exact ⟨2, by omega, rfl, rfl⟩
      case measure => simp [intOf]
    · go_wp2
      go_round
      case rel => exact ⟨3, by omega, rfl, rfl⟩
      case measure => simp [intOf]
    · go_wp2_with (go_at_call 84; (with_reducible refine (HGr.out _).mono ?_); rintro e w1 ⟨v1, rfl, ho, hb⟩; have HO1 := Lib.hid ho; have HB1 := Lib.hid hb; have hs1 := hb.size; clear ho hb)
      have e0 : w1.cell? ⟨h, 0, none⟩ = some (.slice (some ⟨g, 0, none⟩) 3 k0) := (HB1.out.cell hhl).trans h0
      go_loopw [6, 27] (fun v i wr => ∃ k : Nat, k ≤ 3 ∧ i = .int .i64 k ∧ Hid (wr.ownsRow w.heap.size 2 1 v (3 * k) (ints (l.take (3 * k)))) ∧ Hid (Below w.heap.size w wr)) (fun _ i wr => 3 - (intOf i).toNat)
      case atStart => exact ⟨0, by omega, rfl, HO1, HB1⟩
      case round =>
        clear HO1 HB1 hs1 e0
        obtain ⟨k, hk, rfl, HO, HB⟩ := hrel
        rcases (show k = 0 ∨ k = 1 ∨ k = 2 ∨ k = 3 by omega) with rfl | rfl | rfl | rfl
        · clear hk
          have c0 := HA.out 0 (by omega)
          have c1 := HA.out 1 (by omega)
          have c2 := HA.out 2 (by omega)
          simp only [Nat.zero_add] at c0 c1 c2
          have d0 : wr.cell? ⟨g, 0, none⟩ = some (.int .i64 (l.getD 0 0)) := (HB.out.cell hgl).trans c0
          have d1 : wr.cell? ⟨g, 1, none⟩ = some (.int .i64 (l.getD 1 0)) := (HB.out.cell hgl).trans c1
          have d2 : wr.cell? ⟨g, 2, none⟩ = some (.int .i64 (l.getD 2 0)) := (HB.out.cell hgl).trans c2
          have HS := Lib.hid (take3 l 0 (by have := HL.out; omega))
          have s0 : wr.cell? ⟨h, 0, none⟩ = some (.slice (some ⟨g, 0, none⟩) 3 k0) := (HB.out.cell hhl).trans h0
          generalize l.getD 0 0 = x at *
          generalize l.getD 1 0 = y at *
          generalize l.getD 2 0 = z at *
          clear c0 c1 c2
          go_wp2_with (at_builtin; refine wpList_append_own _ rfl _ _ 73 rfl w.heap.size 2 i0 (.int .i64 0) 1 8 Try.underlying73 HI0.out HZ0.out HZ1.out HZ2.out rfl (by decide) _ _ _ rfl HO.out ⟨g, 0, none⟩ 3 k0 [.int .i64 x, .int .i64 y, .int .i64 z] rfl rfl (src3 d0 d1 d2) (oneP _ _ _) (by unfold maxLen; omega) (by omega) HB.out.size ?_; intro v2 w2 hown hgrow _; have HO2 := Lib.hid hown; have HG := Lib.hid hgrow; clear hown hgrow)
          go_roundw
          case rel => exact ⟨1, by omega, rfl, Lib.hid (by rw [HS.out, ints_app]; exact HO2.out), Lib.hid (HB.out.grown HG.out HB.out.size (fun k' hk' => own_base' HO.out k' hk'))⟩
          case measure => simp [intOf]
        · clear hk
          have c0 := HA.out 3 (by omega)
          have c1 := HA.out 4 (by omega)
          have c2 := HA.out 5 (by omega)
          simp only [Nat.zero_add] at c0 c1 c2
          have d0 : wr.cell? ⟨g, 3, none⟩ = some (.int .i64 (l.getD 3 0)) := (HB.out.cell hgl).trans c0
          have d1 : wr.cell? ⟨g, 4, none⟩ = some (.int .i64 (l.getD 4 0)) := (HB.out.cell hgl).trans c1
          have d2 : wr.cell? ⟨g, 5, none⟩ = some (.int .i64 (l.getD 5 0)) := (HB.out.cell hgl).trans c2
          have HS := Lib.hid (take3 l 3 (by have := HL.out; omega))
          have s0 : wr.cell? ⟨h, 1, none⟩ = some (.slice (some ⟨g, 3, none⟩) 3 k1) := (HB.out.cell hhl).trans h1
          generalize l.getD 3 0 = x at *
          generalize l.getD 4 0 = y at *
          generalize l.getD 5 0 = z at *
          clear c0 c1 c2
          go_wp2_with (at_builtin; refine wpList_append_own _ rfl _ _ 73 rfl w.heap.size 2 i0 (.int .i64 0) 1 8 Try.underlying73 HI0.out HZ0.out HZ1.out HZ2.out rfl (by decide) _ _ _ rfl HO.out ⟨g, 3, none⟩ 3 k1 [.int .i64 x, .int .i64 y, .int .i64 z] rfl rfl (src3 d0 d1 d2) (oneP _ _ _) (by unfold maxLen; omega) (by omega) HB.out.size ?_; intro v2 w2 hown hgrow _; have HO2 := Lib.hid hown; have HG := Lib.hid hgrow; clear hown hgrow)
          go_roundw
          case rel => exact ⟨2, by omega, rfl, Lib.hid (by rw [HS.out, ints_app]; exact HO2.out), Lib.hid (HB.out.grown HG.out HB.out.size (fun k' hk' => own_base' HO.out k' hk'))⟩
          case measure => simp [intOf]
        · clear hk
          have c0 := HA.out 6 (by omega)
          have c1 := HA.out 7 (by omega)
          have c2 := HA.out 8 (by omega)
          simp only [Nat.zero_add] at c0 c1 c2
          have d0 : wr.cell? ⟨g, 6, none⟩ = some (.int .i64 (l.getD 6 0)) := (HB.out.cell hgl).trans c0
          have d1 : wr.cell? ⟨g, 7, none⟩ = some (.int .i64 (l.getD 7 0)) := (HB.out.cell hgl).trans c1
          have d2 : wr.cell? ⟨g, 8, none⟩ = some (.int .i64 (l.getD 8 0)) := (HB.out.cell hgl).trans c2
          have HS := Lib.hid (take3 l 6 (by have := HL.out; omega))
          have s0 : wr.cell? ⟨h, 2, none⟩ = some (.slice (some ⟨g, 6, none⟩) 3 k2) := (HB.out.cell hhl).trans h2
          generalize l.getD 6 0 = x at *
          generalize l.getD 7 0 = y at *
          generalize l.getD 8 0 = z at *
          clear c0 c1 c2
          go_wp2_with (at_builtin; refine wpList_append_own _ rfl _ _ 73 rfl w.heap.size 2 i0 (.int .i64 0) 1 8 Try.underlying73 HI0.out HZ0.out HZ1.out HZ2.out rfl (by decide) _ _ _ rfl HO.out ⟨g, 6, none⟩ 3 k2 [.int .i64 x, .int .i64 y, .int .i64 z] rfl rfl (src3 d0 d1 d2) (oneP _ _ _) (by unfold maxLen; omega) (by omega) HB.out.size ?_; intro v2 w2 hown hgrow _; have HO2 := Lib.hid hown; have HG := Lib.hid hgrow; clear hown hgrow)
          go_roundw
          case rel => exact ⟨3, by omega, rfl, Lib.hid (by rw [HS.out, ints_app]; exact HO2.out), Lib.hid (HB.out.grown HG.out HB.out.size (fun k' hk' => own_base' HO.out k' hk'))⟩
          case measure => simp [intOf]
        · have ht : l.take (3 * 3) = l := List.take_of_length_le (by have := HL.out; omega)
          have HO' := HO.out
          rw [ht] at HO'
          have hle := HL.out
          have HOh := Lib.hid HO'
          clear HO'
          go_wp2
          go_ret
          exact ⟨_, rfl, by rw [HL.out]; exact HOh.out, HB.out⟩
end Go.Proofs.Ytoagfpdicpcjnaa
/- Contracts: the laws' own lists of points and lines, in one word; the laws' own figures. -/
namespace Go.Proofs.Ytoagfpdicpcjnaa
open Go.RowKit
set_option linter.unusedVariables false
set_option linter.unusedSimpArgs false
/-- Laid with room behind. -/
structure LaidR (w : World) (n : Nat) (l : List Pt) (e : Ending) (w' : World) : Prop where
  out : ∃ g, e = .returned (.slice (some ⟨g, 0, none⟩) n (n + roomN n)) ∧ w.heap.size ≤ g ∧ g < w'.heap.size ∧ RoomP w' g (n + roomN n) 33 ∧ PtsAt w' g 0 (n + roomN n) (withRoomP l) ∧ Below w.heap.size w w'
/-- Laid, or nil. -/
structure LaidB (w : World) (n : Nat) (l : List Pt) (e : Ending) (w' : World) : Prop where
  out : ∃ b c, e = .returned (.slice b n c) ∧ ListP w' b n l ∧ (∀ a o, b = some ⟨a, o, none⟩ → w.heap.size ≤ a) ∧ Below w.heap.size w w'
theorem laidR_list {w' : World} {g n : Nat} {l : List Pt} (hl : l.length = n) (h : PtsAt w' g 0 (n + roomN n) (withRoomP l)) : ListP w' (some ⟨g, 0, none⟩) n l := by
  subst hl
  exact listP_mk rfl (fun i hi => by have := h i (by omega); rwa [withRoomP_at l i hi] at this)
end Go.Proofs.Ytoagfpdicpcjnaa
/- Contracts: slices.Concat of two lists of points; the codes of two triples. -/
namespace Go.Proofs.Ytoagfpdicpcjnaa
open Go.RowKit
set_option linter.unusedVariables false
set_option linter.unusedSimpArgs false
structure OwnP (base : Nat) (w : World) (n : Nat) (l : List Pt) (e : Ending) (w' : World) : Prop where
  out : ∃ v, e = .returned v ∧ w'.ownsRow base 33 3 v n (ptCs l) ∧ Below base w w'
/-- A list: no list, or laid open at an address. -/
def ListC (w : World) (b : Option Addr) (n c : Nat) (l : List Pt) : Prop := l.length = n ∧ ((b = none ∧ n = 0 ∧ c = 0) ∨ ∃ g, b = some ⟨g, 0, none⟩ ∧ PtsAt w g 0 n l)
theorem ListC.below {w w1 : World} {b : Option Addr} {n c : Nat} {l : List Pt} (h : ListC w b n c l) (hb : Below w.heap.size w w1) : ListC w1 b n c l := by
  refine ⟨h.1, ?_⟩
  rcases h.2 with h0 | ⟨g, e, hp⟩
  · exact .inl h0
  · exact .inr ⟨g, e, hp.below hb⟩
theorem ListC.list {w : World} {b : Option Addr} {n c : Nat} {l : List Pt} (h : ListC w b n c l) : ListP w b n l := by
  rcases h.2 with ⟨rfl, rfl, rfl⟩ | ⟨g, rfl, hp⟩
  · exact ⟨h.1, fun h0 => absurd h0 (Nat.lt_irrefl _)⟩
  · exact ⟨h.1, fun _ => ⟨g, 0, rfl, hp⟩⟩
theorem ptCs_app (a b : List Pt) : ptCs (a ++ b) = ptCs a ++ ptCs b := by simp [ptCs]
theorem ptCs_one (l : List Pt) : ∀ u ∈ ptCs l, u.oneCell' = true := by
  intro u hu
  obtain ⟨a, _, hu⟩ := List.mem_flatMap.1 hu
  simp only [ptC, List.mem_cons, List.not_mem_nil, or_false] at hu
  rcases hu with rfl | rfl | rfl <;> rfl
theorem srcPts {W : World} {g o n : Nat} {l : List Pt} (hl : l.length = n) (h : PtsAt W g o n l) :
    ∀ (j : Nat) (u : Value), (ptCs l)[j]? = some u → W.cell? ((⟨g, o, none⟩ : Addr).add j) = some u := by
  intro j u hj
  have hadd : (⟨g, o, none⟩ : Addr).add j = ⟨g, o + j, none⟩ := by unfold Addr.add; split <;> simp_all
  rw [hadd]
  have hlt : j < (ptCs l).length := (List.getElem?_eq_some_iff.1 hj).1
  rw [ptCs_length] at hlt
  have hk : j / 3 < l.length := by omega
  obtain ⟨c0, c1, c2⟩ := ptCs_at l (j / 3) hk
  obtain ⟨d0, d1, d2⟩ := h (j / 3) (by omega)
  rcases (show j = j / 3 * 3 ∨ j = j / 3 * 3 + 1 ∨ j = j / 3 * 3 + 2 by omega) with e | e | e
  · rw [e] at hj ⊢; rw [hj] at c0; rw [c0]; exact d0
  · rw [e] at hj ⊢; rw [hj] at c1; rw [c1, ← Nat.add_assoc]; exact d1
  · rw [e] at hj ⊢; rw [hj] at c2; rw [c2, ← Nat.add_assoc]; exact d2
theorem own_listC {W : World} {base : Nat} {v : Value} {l : List Pt} {n : Nat} (h : W.ownsRow base 33 3 v n (ptCs l)) (hl : l.length = n) : ∃ b c, v = .slice b n c ∧ ListC W b n c l := by
  rcases h.2 with ⟨rfl, rfl⟩ | ⟨g, cap, cur, rfl, hb, hg, hle, _, hsz, htk⟩
  · exact ⟨none, 0, rfl, hl, .inl ⟨rfl, rfl, rfl⟩⟩
  · refine ⟨_, _, rfl, hl, .inr ⟨g, rfl, ?_⟩⟩
    intro i hi
    obtain ⟨c0, c1, c2⟩ := ptCs_at l i (by omega)
    have key : ∀ j u, (ptCs l)[j]? = some u → W.cell? ⟨g, j, none⟩ = some u := fun j u hj => by
      rw [cell_of_row W g j _ _ _ hg]
      rw [← htk, List.getElem?_take] at hj
      split at hj
      · simpa using hj
      · cases hj
    simp only [Nat.zero_add]
    exact ⟨key _ _ c0, key _ _ c1, key _ _ c2⟩
theorem ptsB_app (p : Int) (a b : List Pt) : ptsB p (a ++ b) = (ptsB p a && ptsB p b) := by simp [ptsB]
/-- The code of two triples. -/
def threesR (p : Int) (n1 n2 : Nat) (l1 l2 : List Pt) : Int := if codeOf p (ptsB p l1 && ptsB p l2) ≠ 0 then codeOf p (ptsB p l1 && ptsB p l2) else if n1 = 3 ∧ n2 = 3 then 0 else 2
theorem threesR_zero {p : Int} {n1 n2 : Nat} {l1 l2 : List Pt} (h : threesR p n1 n2 l1 l2 = 0) : prB p = true ∧ ptsB p l1 = true ∧ ptsB p l2 = true ∧ n1 = 3 ∧ n2 = 3 := by
  unfold threesR at h
  by_cases hk : codeOf p (ptsB p l1 && ptsB p l2) = 0
  · obtain ⟨h1, h2⟩ := code_zero hk
    simp only [Bool.and_eq_true] at h2
    rw [if_neg (by simpa using hk)] at h
    by_cases h3 : n1 = 3 ∧ n2 = 3
    · exact ⟨h1, h2.1, h2.2, h3.1, h3.2⟩
    · rw [if_neg h3] at h; cases h
  · rw [if_pos hk] at h; exact (hk h).elim
theorem threesR_eq (p : Int) (n1 n2 : Nat) (l1 l2 : List Pt) : threesR p n1 n2 l1 l2 = if codeOf p (ptsB p l1) ≠ 0 then codeOf p (ptsB p l1) else if codeOf p (ptsB p l2) ≠ 0 then codeOf p (ptsB p l2) else if n1 = 3 ∧ n2 = 3 then 0 else 2 := by
  unfold threesR codeOf
  cases prB p <;> cases ptsB p l1 <;> cases ptsB p l2 <;> simp
end Go.Proofs.Ytoagfpdicpcjnaa
/- Plain words: a fourth harmonic point: the points it is made with are there. -/
namespace Go.Proofs.Ytoagfpdicpcjnaa
set_option linter.unusedVariables false
set_option linter.unusedSimpArgs false
def headP (l : List Pt) : Pt := l.headD (0, 0, 0)
theorem head_at {f : Pt → Bool} {l : List Pt} {k : Nat} (h : ∀ a ∈ l.take k, f a = false) (hk : k < l.length) (hf : f (l.getD k (0, 0, 0)) = true) : headP (l.filter f) = l.getD k (0, 0, 0) := by
  have e : l = l.take k ++ (l.getD k (0, 0, 0) :: l.drop (k + 1)) := by
    have h1 : l.getD k (0, 0, 0) = l[k] := by simp [List.getD, hk]
    rw [h1, List.getElem_cons_drop, List.take_append_drop]
  generalize l.getD k (0, 0, 0) = d at *
  generalize l.take k = t at *
  generalize l.drop (k + 1) = r at *
  subst e
  rw [List.filter_append, List.filter_eq_nil_iff.2 (fun a ha => by rw [h a ha]; decide), List.nil_append, List.filter_cons, if_pos hf]
  rfl
theorem nodup3 : (allP 3).Nodup := by decide +kernel
theorem nodup5 : (allP 5).Nodup := by decide +kernel
theorem nodup7 : (allP 7).Nodup := by decide +kernel
theorem nodup11 : (allP 11).Nodup := by decide +kernel
theorem nodup13 : (allP 13).Nodup := by decide +kernel
theorem nodup_allP {n : Nat} (hp : prB (n : Int) = true) : (allP n).Nodup := by
  have h := prB_cases hp
  have : n = 3 ∨ n = 5 ∨ n = 7 ∨ n = 11 ∨ n = 13 := by omega
  rcases this with rfl | rfl | rfl | rfl | rfl
  · exact nodup3
  · exact nodup5
  · exact nodup7
  · exact nodup11
  · exact nodup13
/-- Of three different things one is neither of two. -/
theorem third {l : List Pt} (h : l.Nodup) (hl : 3 ≤ l.length) (a b : Pt) : ∃ x ∈ l, x ≠ a ∧ x ≠ b := by
  match l, hl with
  | x :: y :: z :: r, _ =>
    simp only [List.nodup_cons, List.mem_cons, not_or] at h
    obtain ⟨⟨xy, xz, _⟩, ⟨yz, _⟩, _⟩ := h
    by_cases hx : x = a ∨ x = b
    · by_cases hy : y = a ∨ y = b
      · refine ⟨z, by simp, ?_, ?_⟩
        · rintro rfl; rcases hx with rfl | rfl <;> rcases hy with rfl | rfl <;> simp_all
        · rintro rfl; rcases hx with rfl | rfl <;> rcases hy with rfl | rfl <;> simp_all
      · exact ⟨y, by simp, fun e => hy (.inl e), fun e => hy (.inr e)⟩
    · exact ⟨x, by simp, fun e => hx (.inl e), fun e => hx (.inr e)⟩
theorem allP_pt {n : Nat} (hp : prB (n : Int) = true) {a : Pt} (h : a ∈ allP n) : ptB (n : Int) a.1 a.2.1 a.2.2 = true := by
  have hb := prB_bd hp
  have mk : ∀ a b c : Int, (0 ≤ a ∧ a ≤ (n : Int) - 1) → (0 ≤ b ∧ b ≤ (n : Int) - 1) → (0 ≤ c ∧ c ≤ (n : Int) - 1) → (a = 1 ∨ (a = 0 ∧ b = 1) ∨ (a = 0 ∧ b = 0 ∧ c = 1)) → ptB (n : Int) a b c = true := by
    intro a b c ha hb hc hd
    unfold ptB normB numsB
    simp only [hp, Bool.true_and, Bool.and_eq_true, List.all_cons, List.all_nil, Bool.and_true, numB_iff]
    refine ⟨?_, ha, hb, hc⟩
    rcases hd with rfl | ⟨rfl, rfl⟩ | ⟨rfl, rfl, rfl⟩ <;> rfl
  simp only [allP, pB, pA, pR, List.mem_append, List.mem_cons, List.mem_map, List.mem_range, List.mem_flatMap] at h
  rcases h with (rfl | ⟨z, hz, rfl⟩) | ⟨y, hy, z, hz, rfl⟩
  · exact mk 0 0 1 (by omega) (by omega) (by omega) (.inr (.inr ⟨rfl, rfl, rfl⟩))
  · exact mk 0 1 z (by omega) (by omega) (by omega) (.inr (.inl ⟨rfl, rfl⟩))
  · exact mk 1 y z (by omega) (by omega) (by omega) (.inl rfl)
theorem mod_fac (p f x : Int) : ∃ q, x % p * f % p = x * f - p * q := by
  refine ⟨x / p * f + (x % p * f) / p, ?_⟩
  have h1 := Int.emod_add_mul_ediv x p
  have h2 := Int.emod_add_mul_ediv (x % p * f) p
  generalize x / p = q1 at *
  generalize (x % p * f) / p = q2 at *
  generalize x % p * f % p = r2 at *
  grind
/-- A point lies on each line through it. -/
theorem on_crsN (p : Int) (a b : Pt) : onB p a (crsN p a b) = true ∧ onB p b (crsN p a b) = true := by
  obtain ⟨a0, a1, a2⟩ := a
  obtain ⟨b0, b1, b2⟩ := b
  unfold onB crsN nrm3 crs
  simp only
  generalize facL p _ = f
  obtain ⟨q0, e0⟩ := mod_fac p f (a1 * b2 - a2 * b1)
  obtain ⟨q1, e1⟩ := mod_fac p f (a2 * b0 - a0 * b2)
  obtain ⟨q2, e2⟩ := mod_fac p f (a0 * b1 - a1 * b0)
  rw [e0, e1, e2]
  simp only [beq_iff_eq]
  refine ⟨Int.emod_eq_zero_of_dvd ⟨-(a0 * q0 + a1 * q1 + a2 * q2), ?_⟩, Int.emod_eq_zero_of_dvd ⟨-(b0 * q0 + b1 * q1 + b2 * q2), ?_⟩⟩
  · grind
  · grind
/-- The first point off the line of a and b. -/
def quadR1 (n : Nat) (a b : Pt) : Pt := headP ((allP n).filter (fun x => !onB (n : Int) x (crsN n a b)))
/-- The first point of the line of a and r that is neither. -/
def quadS (n : Nat) (a r : Pt) : Pt := headP ((allP n).filter (fun x => onB (n : Int) x (crsN n a r) && (!eqP x a && !eqP x r)))
/-- The fourth harmonic point, and the code. -/
def quadR (p : Int) (a b c : Pt) : Pt × Int :=
  if codeOf p (ptsB p [a, b, c]) ≠ 0 then ((0, 0, 0), codeOf p (ptsB p [a, b, c])) else
  if threeB p a b c = false then ((0, 0, 0), 5) else
  let r := quadR1 p.toNat a b
  let s := quadS p.toNat a r
  let t := crsN p (crsN p b s) (crsN p c r)
  let u := crsN p (crsN p b r) (crsN p a t)
  (crsN p (crsN p a b) (crsN p s u), 0)
/-- What both programs lean on: the two points are found. -/
theorem quad_facts {n : Nat} {a b : Pt} (ha : ptB (n : Int) a.1 a.2.1 a.2.2 = true) (hb : ptB (n : Int) b.1 b.2.1 b.2.2 = true) (hab : eqP a b = false) :
    (∃ x ∈ allP n, onB (n : Int) x (crsN n a b) = false) ∧ ∃ x ∈ allP n, (onB (n : Int) x (crsN n a (quadR1 n a b)) = true ∧ x ≠ a ∧ x ≠ quadR1 n a b) := by
  have hp := (pt_facts ha).1
  have hl := crsN_pt ha hb hab
  have h1 := (line_facts hl).2
  refine ⟨h1, ?_⟩
  have hr : quadR1 n a b ∈ (allP n).filter (fun x => !onB (n : Int) x (crsN n a b)) := by
    unfold quadR1 headP
    obtain ⟨x, hx, hx2⟩ := h1
    have : x ∈ (allP n).filter (fun x => !onB (n : Int) x (crsN n a b)) := List.mem_filter.2 ⟨hx, by rw [hx2]; rfl⟩
    cases hh : (allP n).filter (fun x => !onB (n : Int) x (crsN n a b)) with
    | nil => rw [hh] at this; cases this
    | cons y r => simp
  obtain ⟨hr1, hr2⟩ := List.mem_filter.1 hr
  have hne : eqP a (quadR1 n a b) = false := by
    cases he : eqP a (quadR1 n a b) with
    | false => rfl
    | true =>
      have e := eqP_iff.1 he
      rw [← e, (on_crsN (n : Int) a b).1] at hr2
      cases hr2
  have hs := crsN_pt ha (allP_pt hp hr1) hne
  obtain ⟨x, hx, h2⟩ := third ((nodup_allP hp).filter _) (Nat.le_trans (by decide) (line_facts hs).1) a (quadR1 n a b)
  obtain ⟨hx1, hx2⟩ := List.mem_filter.1 hx
  exact ⟨x, hx1, hx2, h2⟩
end Go.Proofs.Ytoagfpdicpcjnaa
/- Plain words: numbers modulo a prime, cross products, and why Pappus' meets are different. -/
namespace Go.Proofs.Ytoagfpdicpcjnaa
set_option linter.unusedVariables false
set_option linter.unusedSimpArgs false
theorem mul_dvd {p x y : Int} (hp : prB p = true) (h : p ∣ x * y) (hx : ¬ p ∣ x) : p ∣ y := by
  obtain ⟨h3, h13⟩ := prB_bd hp
  have h0 : 0 < x % p := by
    have h1 := Int.emod_nonneg x (show p ≠ 0 by omega)
    rcases Int.lt_or_eq_of_le h1 with h2 | h2
    · exact h2
    · exact (hx (Int.dvd_of_emod_eq_zero h2.symm)).elim
  have hs := (invP_spec hp h0 (Int.emod_lt_of_pos x (by omega))).2.2.1
  obtain ⟨q, hq⟩ := h
  have e1 := Int.emod_add_mul_ediv x p
  have e2 := Int.emod_add_mul_ediv (x % p * invP p (x % p)) p
  rw [hs] at e2
  generalize x % p * invP p (x % p) / p = k2 at *
  generalize invP p (x % p) = i at *
  generalize x / p = k1 at *
  generalize x % p = r at *
  exact ⟨i * q - k1 * i * y - k2 * y, by grind⟩
theorem mul_nd {p x y : Int} (hp : prB p = true) (hx : ¬ p ∣ x) (hy : ¬ p ∣ y) : ¬ p ∣ x * y := fun h => hy (mul_dvd hp h hx)
def dotI (a b : Pt) : Int := a.1 * b.1 + a.2.1 * b.2.1 + a.2.2 * b.2.2
/-- Not 0 modulo p. -/
def nzV (p : Int) (v : Pt) : Prop := ¬ (p ∣ v.1 ∧ p ∣ v.2.1 ∧ p ∣ v.2.2)
theorem nz_dot {p : Int} {v : Pt} (w : Pt) (h : ¬ p ∣ dotI w v) : nzV p v := by
  rintro ⟨⟨a, h1⟩, ⟨b, h2⟩, ⟨c, h3⟩⟩
  refine h ⟨w.1 * a + w.2.1 * b + w.2.2 * c, ?_⟩
  unfold dotI
  rw [h1, h2, h3]
  grind
/-- v is k times w, modulo p. -/
def cg (p k : Int) (v w : Pt) : Prop := p ∣ v.1 - k * w.1 ∧ p ∣ v.2.1 - k * w.2.1 ∧ p ∣ v.2.2 - k * w.2.2
theorem cg_refl (p : Int) (v : Pt) : cg p 1 v v := ⟨⟨0, by grind⟩, ⟨0, by grind⟩, ⟨0, by grind⟩⟩
theorem dvd_pair {p k x y k' x' y' : Int} (h : p ∣ x - k * x') (h' : p ∣ y - k' * y') : p ∣ x * y - k * k' * (x' * y') := by
  obtain ⟨a, ha⟩ := h
  obtain ⟨b, hb⟩ := h'
  exact ⟨a * y + k * x' * b, by grind⟩
theorem dvd_sub2 {p a b K a' b' : Int} (h : p ∣ a - K * a') (h' : p ∣ b - K * b') : p ∣ (a - b) - K * (a' - b') := by
  obtain ⟨u, hu⟩ := h
  obtain ⟨v, hv⟩ := h'
  exact ⟨u - v, by grind⟩
theorem cg_crs {p k k' : Int} {x y x' y' : Pt} (h : cg p k x x') (h' : cg p k' y y') : cg p (k * k') (crs x y) (crs x' y') := by
  obtain ⟨h1, h2, h3⟩ := h
  obtain ⟨g1, g2, g3⟩ := h'
  refine ⟨dvd_sub2 (dvd_pair h2 g3) ?_, dvd_sub2 (dvd_pair h3 g1) ?_, dvd_sub2 (dvd_pair h1 g2) ?_⟩
  · exact dvd_pair h3 g2
  · exact dvd_pair h1 g3
  · exact dvd_pair h2 g1
theorem cg_trans {p k l : Int} {v w u : Pt} (h : cg p k v w) (h' : cg p l w u) : cg p (k * l) v u := by
  have one : ∀ {a b c : Int}, p ∣ a - k * b → p ∣ b - l * c → p ∣ a - k * l * c := by
    rintro a b c ⟨x, hx⟩ ⟨y, hy⟩
    exact ⟨x + k * y, by grind⟩
  exact ⟨one h.1 h'.1, one h.2.1 h'.2.1, one h.2.2 h'.2.2⟩
theorem cg_dot {p k : Int} {v w : Pt} (a : Pt) (h : cg p k v w) : p ∣ dotI a v - k * dotI a w := by
  obtain ⟨⟨x, hx⟩, ⟨y, hy⟩, ⟨z, hz⟩⟩ := h
  exact ⟨a.1 * x + a.2.1 * y + a.2.2 * z, by unfold dotI; grind⟩
/-- Made normal, a vector is a multiple of itself, and no multiple by 0 if it is not 0. -/
theorem cg_nrm {p : Int} (hp : prB p = true) (v : Pt) : cg p (facL p [v.1, v.2.1, v.2.2]) (nrm3 p v.1 v.2.1 v.2.2) v := by
  obtain ⟨q0, e0⟩ := mod_fac p (facL p [v.1, v.2.1, v.2.2]) v.1
  obtain ⟨q1, e1⟩ := mod_fac p (facL p [v.1, v.2.1, v.2.2]) v.2.1
  obtain ⟨q2, e2⟩ := mod_fac p (facL p [v.1, v.2.1, v.2.2]) v.2.2
  refine ⟨⟨-q0, ?_⟩, ⟨-q1, ?_⟩, ⟨-q2, ?_⟩⟩
  · show v.1 % p * _ % p - _ = _; rw [e0]; grind
  · show v.2.1 % p * _ % p - _ = _; rw [e1]; grind
  · show v.2.2 % p * _ % p - _ = _; rw [e2]; grind
theorem fac_nd {p : Int} (hp : prB p = true) {v : Pt} (h : nzV p v) : ¬ p ∣ facL p [v.1, v.2.1, v.2.2] := by
  have hb := prB_bd hp
  have h0 : facL p [v.1, v.2.1, v.2.2] ≠ 0 := by
    intro e
    rw [facL_zero hp] at e
    have hz := firstNZ_eq_zero.1 e
    simp [zerosB] at hz
    exact h ⟨Int.dvd_of_emod_eq_zero hz.1, Int.dvd_of_emod_eq_zero hz.2.1, Int.dvd_of_emod_eq_zero hz.2.2⟩
  have h1 := firstNZ_mod_bd p [v.1, v.2.1, v.2.2] (by omega)
  have h2 : facL p [v.1, v.2.1, v.2.2] < p ∧ 0 ≤ facL p [v.1, v.2.1, v.2.2] := by
    unfold facL at h0 ⊢
    by_cases hz : firstNZ ([v.1, v.2.1, v.2.2].map (· % p)) = 0
    · rw [hz, invP_zero p (by omega)] at h0; exact (h0 rfl).elim
    · have := invP_spec hp (by omega) h1.2; omega
  intro hd
  have := Int.le_of_dvd (by omega) hd
  omega
theorem cg_crsN {p : Int} (hp : prB p = true) {a b : Pt} (h : nzV p (crs a b)) : ∃ f, ¬ p ∣ f ∧ cg p f (crsN p a b) (crs a b) := ⟨_, fac_nd hp h, cg_nrm hp (crs a b)⟩
/-- Not on the line: not 0 with the raw product. -/
theorem off_nd {p : Int} (hp : prB p = true) {a b d : Pt} (h : onB p d (crsN p a b) = false) : ¬ p ∣ dotI d (crs a b) := by
  intro hd
  have h1 := cg_dot d (cg_nrm hp (crs a b))
  have h2 : p ∣ dotI d (crsN p a b) := by
    obtain ⟨x, hx⟩ := h1
    obtain ⟨y, hy⟩ := hd
    rw [hy] at hx
    exact ⟨x + facL p [(crs a b).1, (crs a b).2.1, (crs a b).2.2] * y, by unfold crsN; grind⟩
  have h3 : onB p d (crsN p a b) = true := by
    unfold onB
    rw [beq_iff_eq]
    exact Int.emod_eq_zero_of_dvd h2
  rw [h3] at h; cases h
/-- The line through a and c, of three collinear points, is that through a and b. -/
theorem off_other {p : Int} (hp : prB p = true) {a b c d : Pt} (h : ¬ p ∣ dotI d (crs a b)) (hc : p ∣ detZ a b c) (hz : nzV p (crs a c)) : ¬ p ∣ dotI d (crs a c) := by
  rintro ⟨q, hq⟩
  obtain ⟨k, hk⟩ := hc
  have e : ∀ x y : Int, True := fun _ _ => trivial
  -- (d · v) u − (d · u) v is 0, where u × v is
  refine hz ⟨mul_dvd hp ?_ h, mul_dvd hp ?_ h, mul_dvd hp ?_ h⟩
  · refine ⟨q * (crs a b).1 - k * (d.2.1 * a.2.2 - d.2.2 * a.2.1), ?_⟩
    have : dotI d (crs a b) * (crs a c).1 = dotI d (crs a c) * (crs a b).1 - detZ a b c * (d.2.1 * a.2.2 - d.2.2 * a.2.1) := by unfold dotI crs detZ; simp only; grind
    rw [this, hq, hk]; grind
  · refine ⟨q * (crs a b).2.1 - k * (d.2.2 * a.1 - d.1 * a.2.2), ?_⟩
    have : dotI d (crs a b) * (crs a c).2.1 = dotI d (crs a c) * (crs a b).2.1 - detZ a b c * (d.2.2 * a.1 - d.1 * a.2.2) := by unfold dotI crs detZ; simp only; grind
    rw [this, hq, hk]; grind
  · refine ⟨q * (crs a b).2.2 - k * (d.1 * a.2.1 - d.2.1 * a.1), ?_⟩
    have : dotI d (crs a b) * (crs a c).2.2 = dotI d (crs a c) * (crs a b).2.2 - detZ a b c * (d.1 * a.2.1 - d.2.1 * a.1) := by unfold dotI crs detZ; simp only; grind
    rw [this, hq, hk]; grind
def comb (s : Int) (e : Pt) (t : Int) (a : Pt) : Pt := (s * e.1 - t * a.1, s * e.2.1 - t * a.2.1, s * e.2.2 - t * a.2.2)
theorem crs_crs (a e w : Pt) : crs (crs a e) w = comb (dotI a w) e (dotI e w) a := by
  unfold comb crs dotI
  simp only [Prod.mk.injEq]
  refine ⟨?_, ?_, ?_⟩ <;> grind
theorem dot_crs_comb (a e f : Pt) (s t s' t' : Int) : dotI a (crs (comb s e t a) (comb s' f t' a)) = s * s' * dotI a (crs e f) := by
  unfold comb crs dotI
  simp only
  grind
theorem dot_comb (w e a : Pt) (s t : Int) (h : dotI w a = 0) : dotI w (comb s e t a) = s * dotI w e := by
  unfold comb dotI at *
  simp only
  grind
/-- The two meets are different: no two of them span nothing. -/
theorem meets_ne {p : Int} (hp : prB p = true) {a b c d e f : Pt} (h1 : ¬ p ∣ dotI a (crs b d)) (h2 : ¬ p ∣ dotI a (crs c d)) (h3 : ¬ p ∣ dotI a (crs e f)) :
    nzV p (crs (crsN p (crsN p a e) (crsN p b d)) (crsN p (crsN p a f) (crsN p c d))) := by
  have h3' : ¬ p ∣ dotI f (crs a e) := by rwa [show dotI f (crs a e) = dotI a (crs e f) by unfold dotI crs; simp only; grind]
  have h3'' : ¬ p ∣ dotI e (crs a f) := by
    rintro ⟨q, hq⟩
    exact h3 ⟨-q, by rw [show dotI a (crs e f) = - dotI e (crs a f) by unfold dotI crs; simp only; grind, hq]; grind⟩
  obtain ⟨α1, n1, c1⟩ := cg_crsN hp (nz_dot f h3')
  obtain ⟨β1, n2, c2⟩ := cg_crsN hp (nz_dot a h1)
  obtain ⟨α2, n3, c3⟩ := cg_crsN hp (nz_dot e h3'')
  obtain ⟨β2, n4, c4⟩ := cg_crsN hp (nz_dot a h2)
  have r1 := cg_crs c1 c2
  have r2 := cg_crs c3 c4
  rw [crs_crs] at r1 r2
  generalize dotI e (crs b d) = t1 at *
  generalize dotI f (crs c d) = t2 at *
  generalize dotI a (crs b d) = s1 at *
  generalize dotI a (crs c d) = s2 at *
  have nz1 : nzV p (crs (crsN p a e) (crsN p b d)) := by
    refine nz_dot (crs f a) (fun hd => ?_)
    have hc := cg_dot (crs f a) r1
    rw [dot_comb _ _ _ _ _ (by unfold dotI crs; simp only; grind)] at hc
    have hx : ¬ p ∣ α1 * β1 * (s1 * dotI (crs f a) e) := mul_nd hp (mul_nd hp n1 n2) (mul_nd hp h1 (by rwa [show dotI (crs f a) e = dotI a (crs e f) by unfold dotI crs; simp only; grind]))
    exact hx ((Int.dvd_iff_dvd_of_dvd_sub hc).1 hd)
  have nz2 : nzV p (crs (crsN p a f) (crsN p c d)) := by
    refine nz_dot (crs e a) (fun hd => ?_)
    have hc := cg_dot (crs e a) r2
    rw [dot_comb _ _ _ _ _ (by unfold dotI crs; simp only; grind)] at hc
    have hx : ¬ p ∣ α2 * β2 * (s2 * dotI (crs e a) f) := mul_nd hp (mul_nd hp n3 n4) (mul_nd hp h2 (by
      rintro ⟨q, hq⟩
      exact h3 ⟨-q, by rw [show dotI a (crs e f) = - dotI (crs e a) f by unfold dotI crs; simp only; grind, hq]; grind⟩))
    exact hx ((Int.dvd_iff_dvd_of_dvd_sub hc).1 hd)
  obtain ⟨φ1, m1, g1⟩ := cg_crsN hp nz1
  obtain ⟨φ2, m2, g2⟩ := cg_crsN hp nz2
  have R := cg_dot a (cg_crs (cg_trans g1 r1) (cg_trans g2 r2))
  rw [dot_crs_comb] at R
  refine nz_dot a (fun hd => ?_)
  exact mul_nd hp (mul_nd hp (mul_nd hp m1 (mul_nd hp n1 n2)) (mul_nd hp m2 (mul_nd hp n3 n4))) (mul_nd hp (mul_nd hp h1 h2) h3) ((Int.dvd_iff_dvd_of_dvd_sub R).1 hd)
end Go.Proofs.Ytoagfpdicpcjnaa
/- A region that draws its order, all of it: operations that yield one value each in whatever later world, new blocks, and one store into each of the new blocks. -/
namespace Go.Proofs.Ytoagfpdicpcjnaa
open Go.RowKit
set_option linter.unusedVariables false
set_option linter.unusedSimpArgs false
/-- A new block: the operation that makes it, the one that stores into it, the slot that holds it, its type, its cells before and behind the store. -/
structure Bx where
  ai : Nat
  si : Nat
  d : Nat
  T : TypeId
  Z : Array Value
  U : Array Value
@[reducible] def ptr0 (g : Nat) : Value := .pointer (some ⟨g, 0, none⟩)
def readsOk (l : List Oper) (bs : List Bx) (o : Oper) (but : Option Nat) : Bool := (readsOf o).all fun t => (some t == but) || ((bs.all fun b => !(b.d == t)) && (List.range l.length).all fun j => match l[j]? with
  | none => true
  | some oj => !(oj.dst == some t) || bindsTo o j)
def boxesChk (l : List Oper) (bs : List Bx) (N : Nat) : Bool :=
  ((List.range l.length).all fun i => match l[i]? with
    | none => true
    | some o => notSelect o && (o.after.all fun e => !Region.binds .any e || e.on < i) &&
      ((bs.any fun b => b.ai == i || b.si == i) || ((match o.guard with | none => true | some (k, _) => bindsTo o k && (bs.all fun b => !(b.ai == k) && !(b.si == k))) && (match o.dst with | some t => decide (t < N) && (bs.all fun b => !(b.d == t)) | none => false) && readsOk l bs o none))) &&
  (bs.all fun b => decide (b.d < N) && (match l[b.ai]? with | some o => o.dst == some b.d && o.guard.isNone && (readsOf o).isEmpty | none => false) &&
    (match l[b.si]? with | some o => o.dst.isNone && o.guard.isNone && bindsTo o b.ai && readsOk l bs o (some b.d) | none => false) &&
    (bs.all fun c => (b.d == c.d) == (b.ai == c.ai) && ((b.d == c.d) == (b.si == c.si)) && !(b.ai == c.si)))
theorem readsOk_at {l : List Oper} {bs : List Bx} {o : Oper} {but : Option Nat} (h : readsOk l bs o but = true) {t : Nat} (ht : t ∈ readsOf o) (hb : some t ≠ but) :
    (∀ b ∈ bs, b.d ≠ t) ∧ ∀ j oj, l[j]? = some oj → oj.dst = some t → bindsTo o j = true := by
  have h1 := List.all_eq_true.1 h t ht
  rw [Bool.or_eq_true] at h1
  rcases h1 with h1 | h1
  · exact (hb (by simpa using h1)).elim
  · rw [Bool.and_eq_true] at h1
    refine ⟨fun b hb => by have := List.all_eq_true.1 h1.1 b hb; simpa using this, fun j oj hj hjd => ?_⟩
    have hjl : j < l.length := (List.getElem?_eq_some_iff.1 hj).1
    have := List.all_eq_true.1 h1.2 j (List.mem_range.2 hjl)
    simpa [hj, hjd] using this
theorem boxesChk_any {l : List Oper} {bs : List Bx} {N : Nat} (h : boxesChk l bs N = true) {i : Nat} {o : Oper} (hi : l[i]? = some o) :
    (∀ cs b, o.op ≠ .select cs b) ∧ (∀ e ∈ o.after, Region.binds .any e = true → e.on < i) ∧
    ((∃ b ∈ bs, b.ai = i) ∨ (∃ b ∈ bs, b.si = i) ∨ ((∀ b ∈ bs, b.ai ≠ i ∧ b.si ≠ i) ∧ (∀ k b, o.guard = some (k, b) → bindsTo o k = true ∧ ∀ b ∈ bs, b.ai ≠ k ∧ b.si ≠ k) ∧ (∃ t, o.dst = some t ∧ t < N ∧ ∀ b ∈ bs, b.d ≠ t) ∧ readsOk l bs o none = true)) := by
  unfold boxesChk at h
  rw [Bool.and_eq_true] at h
  have hlt : i < l.length := (List.getElem?_eq_some_iff.1 hi).1
  have h1 := List.all_eq_true.1 h.1 i (List.mem_range.2 hlt)
  simp only [hi, Bool.and_eq_true] at h1
  obtain ⟨⟨hns, haf⟩, hk⟩ := h1
  refine ⟨?_, ?_, ?_⟩
  · intro cs b e; rw [notSelect, e] at hns; cases hns
  · intro e he hb
    have := (Array.all_eq_true_iff_forall_mem.1 haf) e he
    simpa [hb] using this
  · by_cases ha : ∃ b ∈ bs, b.ai = i
    · exact .inl ha
    · by_cases hs : ∃ b ∈ bs, b.si = i
      · exact .inr (.inl hs)
      · refine .inr (.inr ?_)
        rw [Bool.or_eq_true] at hk
        rcases hk with hk | hk
        · exfalso
          obtain ⟨b, hb, h2⟩ := List.any_eq_true.1 hk
          rw [Bool.or_eq_true] at h2
          rcases h2 with h2 | h2
          · exact ha ⟨b, hb, by simpa using h2⟩
          · exact hs ⟨b, hb, by simpa using h2⟩
        · simp only [Bool.and_eq_true] at hk
          obtain ⟨⟨hg, hd⟩, hr⟩ := hk
          refine ⟨fun b hb => ⟨fun e => ha ⟨b, hb, e⟩, fun e => hs ⟨b, hb, e⟩⟩, ?_, ?_, hr⟩
          · intro k b e
            rw [e] at hg
            simp only [Bool.and_eq_true] at hg
            exact ⟨hg.1, fun c hc => by have := List.all_eq_true.1 hg.2 c hc; simpa using this⟩
          · cases hdd : o.dst with
            | none => rw [hdd] at hd; cases hd
            | some t =>
              rw [hdd] at hd
              simp only [Bool.and_eq_true, decide_eq_true_eq] at hd
              exact ⟨t, rfl, hd.1, fun c hc => by have := List.all_eq_true.1 hd.2 c hc; simpa using this⟩
theorem boxesChk_box {l : List Oper} {bs : List Bx} {N : Nat} (h : boxesChk l bs N = true) {b : Bx} (hb : b ∈ bs) :
    b.d < N ∧ (∃ o, l[b.ai]? = some o ∧ o.dst = some b.d ∧ o.guard = none ∧ readsOf o = []) ∧ (∃ o, l[b.si]? = some o ∧ o.dst = none ∧ o.guard = none ∧ bindsTo o b.ai = true ∧ readsOk l bs o (some b.d) = true) ∧
    (∀ c ∈ bs, (b.d = c.d ↔ b.ai = c.ai) ∧ (b.d = c.d ↔ b.si = c.si) ∧ b.ai ≠ c.si) := by
  unfold boxesChk at h
  rw [Bool.and_eq_true] at h
  have h1 := List.all_eq_true.1 h.2 b hb
  simp only [Bool.and_eq_true, decide_eq_true_eq] at h1
  obtain ⟨⟨⟨hd, hA⟩, hS⟩, hP⟩ := h1
  refine ⟨hd, ?_, ?_, ?_⟩
  · cases ho : l[b.ai]? with
    | none => rw [ho] at hA; cases hA
    | some o =>
      rw [ho] at hA
      simp only [Bool.and_eq_true, beq_iff_eq, Option.isNone_iff_eq_none, List.isEmpty_iff] at hA
      exact ⟨o, rfl, hA.1.1, hA.1.2, hA.2⟩
  · cases ho : l[b.si]? with
    | none => rw [ho] at hS; cases hS
    | some o =>
      rw [ho] at hS
      simp only [Bool.and_eq_true, Option.isNone_iff_eq_none] at hS
      exact ⟨o, rfl, hS.1.1.1, hS.1.1.2, hS.1.2, hS.2⟩
  · intro c hc
    have := List.all_eq_true.1 hP c hc
    simp only [Bool.and_eq_true, beq_iff_eq, Bool.not_eq_true', beq_eq_false_iff_ne] at this
    obtain ⟨⟨h2, h3⟩, h4⟩ := this
    refine ⟨?_, ?_, h4⟩
    · by_cases e : b.d = c.d
      · simp [e] at h2; exact ⟨fun _ => h2, fun _ => e⟩
      · have : (b.d == c.d) = false := by simpa using e
        rw [this] at h2
        exact ⟨fun h => (e h).elim, fun h => by rw [h] at h2; simp at h2⟩
    · by_cases e : b.d = c.d
      · simp [e] at h3; exact ⟨fun _ => h3, fun _ => e⟩
      · have : (b.d == c.d) = false := by simpa using e
        rw [this] at h3
        exact ⟨fun h => (e h).elim, fun h => by rw [h] at h3; simp at h3⟩
theorem below_setRowY {B g : Nat} {w W : World} (h : Below B w W) (hg : B ≤ g) (cs : Array Value) : Below B w (W.setRow g cs) :=
  ⟨h.os, h.tape, h.output, by simpa [World.setRow] using h.size, fun k hk => (setRow_other W g k cs (by omega)).trans (h.block k hk)⟩
structure RInvY (l : List Oper) (bs : List Bx) (a0 aE : Act) (w0 : World) (listed : Array Bool) (a : Act) (w : World) : Prop where
  df : a.defers = aE.defers
  sz : a.tmps.size = aE.tmps.size
  len : listed.size = l.length
  fr1 : ∀ (j : Nat) (o : Oper) (t : Nat), l[j]? = some o → o.dst = some t → (∀ b ∈ bs, b.d ≠ t) → listed.getD j false = true → a.tmps.getD t undef = aE.tmps.getD t undef
  fr0 : ∀ t : Nat, (∀ b ∈ bs, b.d ≠ t) → (∀ (j : Nat) (o : Oper), l[j]? = some o → o.dst = some t → listed.getD j false = false) → a.tmps.getD t undef = a0.tmps.getD t undef
  bl : Below w0.heap.size w0 w
  box : ∃ g : Nat → Nat, (∀ b ∈ bs, listed.getD b.ai false = true → a.tmps.getD b.d undef = ptr0 (g b.d) ∧ w0.heap.size ≤ g b.d ∧ w.heap[g b.d]? = some (.cells (if listed.getD b.si false = true then b.U else b.Z) b.T (0, 0))) ∧
    (∀ b ∈ bs, ∀ c ∈ bs, listed.getD b.ai false = true → listed.getD c.ai false = true → b.d ≠ c.d → g b.d ≠ g c.d)
  ord : ∀ b ∈ bs, listed.getD b.si false = true → listed.getD b.ai false = true
section
variable {P : Program} {Q : Exit → Act → World → Prop} {l : List Oper} {a0 : Act} {w : World} {vs : List (Nat × Value)} {bs : List Bx}
set_option maxHeartbeats 1000000 in
theorem wp_region_boxes {id : Nat} (hm : P.follows .mixedOrders = true)
    (chk : boxesChk l bs a0.tmps.size = true) (hkeys : vs.all (fun kv => (l.any (·.dst == some kv.1)) && (bs.all fun b => !(b.d == kv.1))) = true)
    (hal : ∀ b ∈ bs, ∀ o, l[b.ai]? = some o → ∀ (ρ : Operand → Value) (W : World), (execOp ρ o).run P W = .ok (.value (ptr0 W.heap.size)) (W.alloc (.cells b.Z b.T)))
    (hst : ∀ b ∈ bs, ∀ o, l[b.si]? = some o → ∀ (ρ : Operand → Value) (W : World) (g : Nat), (∀ t ∈ readsOf o, t ≠ b.d → ρ (.tmp t) = (puts a0 vs).tmps.getD t undef) → ρ (.tmp b.d) = ptr0 g → W.heap[g]? = some (.cells b.Z b.T (0, 0)) → (execOp ρ o).run P W = .ok .skip (W.setRow g b.U))
    (hop : ∀ (i : Nat) (o : Oper) (t : Nat), l[i]? = some o → (∀ b ∈ bs, b.ai ≠ i ∧ b.si ≠ i) → o.dst = some t → (Region.wanted o (yielded l.toArray (puts a0 vs).tmps) = true ∧ ∀ W, Below w.heap.size w W → calmAt P o (puts a0 vs).eval W ((puts a0 vs).tmps.getD t undef)) ∨ (Region.wanted o (yielded l.toArray (puts a0 vs).tmps) = false ∧ (puts a0 vs).tmps.getD t undef = undef))
    (hQ : ∀ (g : Nat → Nat) (W : World), Below w.heap.size w W → (∀ b ∈ bs, w.heap.size ≤ g b.d ∧ W.heap[g b.d]? = some (.cells b.U b.T (0, 0))) → (∀ b ∈ bs, ∀ c ∈ bs, b.d ≠ c.d → g b.d ≠ g c.d) →
      Q .normal (puts (puts a0 vs) ((bs.map (·.d)).map fun t => (t, ptr0 (g t)))) W) :
    (Code.region id l.toArray true).wp P Q a0 w := by
  have hE : ∀ t, ((∀ (j : Nat) (o : Oper), l[j]? = some o → o.dst ≠ some t) ∨ (∃ b ∈ bs, b.d = t)) → a0.tmps.getD t undef = (puts a0 vs).tmps.getD t undef := by
    intro t hno
    refine (puts_other t vs a0 (fun kv hkv e => ?_)).symm
    have := List.all_eq_true.1 hkeys kv hkv
    rw [Bool.and_eq_true] at this
    rcases hno with hno | ⟨b, hb, hbd⟩
    · obtain ⟨o, ho, hod⟩ := List.any_eq_true.1 this.1
      obtain ⟨j, hj⟩ := List.getElem?_of_mem ho
      exact hno j o hj (by rw [← e]; simpa using hod)
    · have h2 := List.all_eq_true.1 this.2 b hb
      rw [e, hbd] at h2; simp at h2
  have hEs : (puts a0 vs).tmps.size = a0.tmps.size := puts_size _ _
  have hEd : (puts a0 vs).defers = a0.defers := puts_defers _ _
  generalize puts a0 vs = aE at *
  refine wp_region_any hm ?_
  have key : ∀ (fuel : Nat) (listed : Array Bool) (a : Act) (W : World), RInvY l bs a0 aE w listed a W →
      (List.range l.length).countP (fun i => !listed.getD i true) ≤ fuel → wpAny P .any l.toArray Q fuel listed a W := by
    intro fuel
    have fin : ∀ (listed : Array Bool) (a : Act) (W : World), RInvY l bs a0 aE w listed a W → Region.ready .any l.toArray listed = [] → Q .normal a W := by
      intro listed a W hI hr
      have hall : ∀ i, i < l.length → listed.getD i false = true := by
        intro i
        induction i using Nat.strongRecOn with
        | _ i ih2 =>
          intro hi
          cases hb : listed.getD i false with
          | true => rfl
          | false =>
            exfalso
            have ho : l[i]? = some l[i] := List.getElem?_eq_getElem hi
            have hmem : i ∈ Region.ready .any l.toArray listed := by
              rw [mem_ready]
              refine ⟨?_, l[i], by simp, fun e he hbd => ?_⟩
              · have : i < listed.size := by have := hI.len; omega
                simp [this] at hb ⊢; exact hb
              · exact ih2 e.on ((boxesChk_any chk ho).2.1 e he hbd) (by have := (boxesChk_any chk ho).2.1 e he hbd; omega)
            rw [hr] at hmem; cases hmem
      obtain ⟨g, hg1, hg2⟩ := hI.box
      have lai : ∀ b ∈ bs, listed.getD b.ai false = true := fun b hb => by obtain ⟨_, ⟨o, ho, _⟩, _⟩ := boxesChk_box chk hb; exact hall _ (List.getElem?_eq_some_iff.1 ho).1
      have lsi : ∀ b ∈ bs, listed.getD b.si false = true := fun b hb => by obtain ⟨_, _, ⟨o, ho, _⟩, _⟩ := boxesChk_box chk hb; exact hall _ (List.getElem?_eq_some_iff.1 ho).1
      have ea : a = puts aE ((bs.map (·.d)).map fun t => (t, ptr0 (g t))) := by
        refine act_ext _ _ (by rw [puts_defers]; exact hI.df) (by rw [puts_size]; exact hI.sz) (fun t ht => ?_)
        by_cases hb : ∃ b ∈ bs, b.d = t
        · obtain ⟨b, hb, rfl⟩ := hb
          rw [puts_vals (fun t => ptr0 (g t)) b.d _ aE (List.mem_map.2 ⟨b, hb, rfl⟩) (by rw [← hI.sz]; exact ht)]
          exact (hg1 b hb (lai b hb)).1
        · have hnb : ∀ b ∈ bs, b.d ≠ t := fun b h e => hb ⟨b, h, e⟩
          rw [puts_other t _ _ (fun kv hkv e => by obtain ⟨x, hx, rfl⟩ := List.mem_map.1 hkv; obtain ⟨b, hbb, rfl⟩ := List.mem_map.1 hx; exact hnb b hbb e)]
          by_cases hw : ∃ (j : Nat) (o : Oper), l[j]? = some o ∧ o.dst = some t
          · obtain ⟨j, o, hj, ho⟩ := hw
            exact hI.fr1 j o t hj ho hnb (hall j (List.getElem?_eq_some_iff.1 hj).1)
          · rw [hI.fr0 t hnb (fun j o hj ho => (hw ⟨j, o, hj, ho⟩).elim)]
            exact hE t (.inl (fun j o hj ho => hw ⟨j, o, hj, ho⟩))
      rw [ea]
      refine hQ g W hI.bl (fun b hb => ⟨(hg1 b hb (lai b hb)).2.1, ?_⟩) (fun b hb c hc h => hg2 b hb c hc (lai b hb) (lai c hc) h)
      have := (hg1 b hb (lai b hb)).2.2
      rwa [if_pos (lsi b hb)] at this
    have look : ∀ (listed : Array Bool) (a : Act) (W : World), RInvY l bs a0 aE w listed a W → ∀ (i : Nat) (o : Oper), l[i]? = some o →
        (∀ e ∈ o.after, Region.binds .any e = true → listed.getD e.on false = true) → ∀ (but : Option Nat), readsOk l bs o but = true → ∀ t ∈ readsOf o, some t ≠ but → a.tmps.getD t undef = aE.tmps.getD t undef := by
      intro listed a W hI i o hi hall but hro t ht htb
      obtain ⟨hnb, h⟩ := readsOk_at hro ht htb
      by_cases hw : ∃ (j : Nat) (oj : Oper), l[j]? = some oj ∧ oj.dst = some t
      · obtain ⟨j, oj, hj, hjd⟩ := hw
        obtain ⟨e, he, hb, hon⟩ := bindsTo_spec (h j oj hj hjd)
        exact hI.fr1 j oj t hj hjd hnb (by rw [← hon]; exact hall e he hb)
      · rw [hI.fr0 t hnb (fun j oj hj ho => (hw ⟨j, oj, hj, ho⟩).elim)]
        exact hE t (.inl (fun j oj hj ho => hw ⟨j, oj, hj, ho⟩))
    induction fuel with
    | zero =>
      intro listed a W hI hc
      have hr : Region.ready .any l.toArray listed = [] := by
        rw [List.eq_nil_iff_forall_not_mem]
        intro i hi
        obtain ⟨h0, o, ho, _⟩ := mem_ready.1 hi
        have hil : i < l.length := by simpa using (Array.getElem?_eq_some_iff.1 ho).1
        have : 0 < (List.range l.length).countP (fun i => !listed.getD i true) := List.countP_pos_iff.2 ⟨i, List.mem_range.2 hil, by rw [h0]; rfl⟩
        omega
      exact ⟨hr, fin listed a W hI hr⟩
    | succ fuel ih =>
      intro listed a W hI hc
      refine ⟨fin listed a W hI, fun i hi => ?_⟩
      obtain ⟨h0, o, ho, hall⟩ := mem_ready.1 hi
      have hio : l[i]? = some o := by simpa using ho
      have hil : i < l.length := (List.getElem?_eq_some_iff.1 hio).1
      have hil' : i < listed.size := by rw [hI.len]; exact hil
      have hi0 : listed.getD i false = false := by simpa [hil'] using h0
      obtain ⟨hns, haf, hcase⟩ := boxesChk_any chk hio
      have hcnt : (List.range l.length).countP (fun j => !(listed.setIfInBounds i true).getD j true) ≤ fuel := by
        have := count_lt (fun j => !listed.getD j true) (fun j => !(listed.setIfInBounds i true).getD j true) (fun j hj => by
            by_cases e : i = j
            · subst e; simp [hil'] at hj
            · rw [getD_set_ne true e] at hj; exact hj) i (by rw [h0]; rfl) (by simp [hil']) (List.range l.length) (List.mem_range.2 hil)
        omega
      obtain ⟨g, hg1, hg2⟩ := hI.box
      rcases hcase with ⟨b, hb, hbi⟩ | ⟨b, hb, hbi⟩ | ⟨hne, hgd, ⟨t, hdst, htN, htb⟩, hro⟩
      · -- a new block
        subst hbi
        obtain ⟨hdN, ⟨o', ho', hod, hog, hord⟩, _, hdis⟩ := boxesChk_box chk hb
        rw [hio] at ho'; obtain rfl := Option.some.inj ho'
        have hrun := hal b hb o hio a.eval W
        have hw : Region.wanted o (yielded l.toArray a.tmps) = true := by unfold Region.wanted; rw [hog]
        unfold wpOp
        simp only [ho, hw, if_true]
        refine .inl ?_
        unfold Oper.wp
        rw [hrun]
        simp only [Oper.upon, hod]
        have hsi0 : listed.getD b.si false = false := by
          cases h : listed.getD b.si false with
          | false => rfl
          | true => rw [hI.ord b hb h] at hi0; cases hi0
        have lt_of : ∀ c ∈ bs, listed.getD c.ai false = true → g c.d < W.heap.size := fun c hc hl => (Array.getElem?_eq_some_iff.1 (hg1 c hc hl).2.2).1
        refine ih _ _ _ ⟨by rw [put_defers]; exact hI.df, by rw [put_size]; exact hI.sz, by simpa using hI.len, ?_, ?_, bal hI.bl _, ⟨fun t => if t = b.d then W.heap.size else g t, ?_, ?_⟩, ?_⟩ hcnt
        · intro j oj u hj hjd hud hl
          rw [put_get_ne _ _ _ _ (hud b hb)]
          rw [getD_set _ _ _ hil'] at hl
          by_cases e : b.ai = j
          · subst e; rw [hio] at hj; obtain rfl := Option.some.inj hj; rw [hod] at hjd; exact (hud b hb (Option.some.inj hjd)).elim
          · rw [if_neg e] at hl; exact hI.fr1 j oj u hj hjd hud hl
        · intro u hud hnu
          rw [put_get_ne _ _ _ _ (hud b hb)]
          refine hI.fr0 u hud (fun j oj hj hjd => ?_)
          have := hnu j oj hj hjd
          rw [getD_set _ _ _ hil'] at this
          by_cases e : b.ai = j
          · rw [if_pos e] at this; cases this
          · rw [if_neg e] at this; exact this
        · intro c hc hl
          have hbc := hdis c hc
          rw [getD_set _ _ _ hil'] at hl
          rw [getD_set _ _ _ hil', if_neg hbc.2.2]
          by_cases e : c.d = b.d
          · have hcs : b.si = c.si := (hbc.2.1).1 e.symm
            simp only [e, if_true]
            refine ⟨put_get_same _ _ _ (by rw [hI.sz, hEs]; exact hdN), hI.bl.size, ?_⟩
            rw [← hcs, hsi0]
            simp only [Bool.false_eq_true, if_false]
            have hcb : c.T = b.T ∧ c.Z = b.Z := by
              have h1 := hal c hc o (by rw [← (hbc.1).1 e.symm]; exact hio) a.eval W
              rw [hrun] at h1
              simp only [Result.ok.injEq, true_and] at h1
              have h2 : (W.alloc (.cells b.Z b.T)).heap[W.heap.size]? = (W.alloc (.cells c.Z c.T)).heap[W.heap.size]? := by rw [h1]
              rw [heap_alloc_new, heap_alloc_new] at h2
              simp only [Option.some.injEq, Obj.cells.injEq] at h2
              exact ⟨h2.2.1.symm, h2.1.symm⟩
            rw [hcb.1, hcb.2]
            exact heap_alloc_new _ _
          · have hai : b.ai ≠ c.ai := fun h => e ((hbc.1).2 h).symm
            rw [if_neg hai] at hl
            simp only [if_neg e]
            obtain ⟨h1, h2, h3⟩ := hg1 c hc hl
            exact ⟨by rw [put_get_ne _ _ _ _ (Ne.symm e)]; exact h1, h2, by rw [heap_alloc_old _ _ (lt_of c hc hl)]; exact h3⟩
        · intro c hc c' hc' hl hl' hne
          have hbc := hdis c hc
          have hbc' := hdis c' hc'
          rw [getD_set _ _ _ hil'] at hl hl'
          by_cases e : c.d = b.d
          · have e' : c'.d ≠ b.d := fun h => hne (e.trans h.symm)
            simp only [if_pos e, if_neg e']
            rw [if_neg (fun h => e' ((hbc'.1).2 h).symm)] at hl'
            have := lt_of c' hc' hl'
            omega
          · simp only [if_neg e]
            rw [if_neg (fun h => e ((hbc.1).2 h).symm)] at hl
            by_cases e' : c'.d = b.d
            · simp only [if_pos e']
              have := lt_of c hc hl
              omega
            · simp only [if_neg e']
              rw [if_neg (fun h => e' ((hbc'.1).2 h).symm)] at hl'
              exact hg2 c hc c' hc' hl hl' hne
        · intro c hc hl
          have hbc := hdis c hc
          rw [getD_set _ _ _ hil', if_neg hbc.2.2] at hl
          rw [getD_set _ _ _ hil']
          split
          · rfl
          · exact hI.ord c hc hl
      · -- a store
        subst hbi
        obtain ⟨hdN, hA, ⟨o', ho', hod, hog, hba, hro⟩, hdis⟩ := boxesChk_box chk hb
        rw [hio] at ho'; obtain rfl := Option.some.inj ho'
        have hla : listed.getD b.ai false = true := by obtain ⟨e, he, hbb, hon⟩ := bindsTo_spec hba; rw [← hon]; exact hall e he hbb
        obtain ⟨p1, p2, p3⟩ := hg1 b hb hla
        rw [hi0] at p3
        simp only [Bool.false_eq_true, if_false] at p3
        have hrun := hst b hb o hio a.eval W (g b.d) (fun t ht hne => look listed a W hI b.si o hio hall _ hro t ht (fun e => hne (Option.some.inj e))) p1 p3
        have hw : Region.wanted o (yielded l.toArray a.tmps) = true := by unfold Region.wanted; rw [hog]
        unfold wpOp
        simp only [ho, hw, if_true]
        refine .inl ?_
        unfold Oper.wp
        rw [hrun]
        simp only [Oper.upon, hod]
        have hp : a.put none undef = a := rfl
        rw [hp]
        refine ih _ _ _ ⟨hI.df, hI.sz, by simpa using hI.len, ?_, ?_, below_setRowY hI.bl p2 _, ⟨g, ?_, ?_⟩, ?_⟩ hcnt
        · intro j oj u hj hjd hud hl
          rw [getD_set _ _ _ hil'] at hl
          by_cases e : b.si = j
          · subst e; rw [hio] at hj; obtain rfl := Option.some.inj hj; rw [hod] at hjd; cases hjd
          · rw [if_neg e] at hl; exact hI.fr1 j oj u hj hjd hud hl
        · intro u hud hnu
          refine hI.fr0 u hud (fun j oj hj hjd => ?_)
          have := hnu j oj hj hjd
          rw [getD_set _ _ _ hil'] at this
          by_cases e : b.si = j
          · rw [if_pos e] at this; cases this
          · rw [if_neg e] at this; exact this
        · intro c hc hl
          obtain ⟨_, _, _, hdisc⟩ := boxesChk_box chk hc
          have hcb := hdisc b hb
          rw [getD_set _ _ _ hil', if_neg (Ne.symm hcb.2.2)] at hl
          rw [getD_set _ _ _ hil']
          obtain ⟨h1, h2, h3⟩ := hg1 c hc hl
          by_cases e : c.d = b.d
          · have hsi : b.si = c.si := ((hcb.2.1).1 e).symm
            rw [if_pos hsi]
            simp only [if_true]
            have hcc : c.T = b.T ∧ c.U = b.U := by
              have e1 := hst c hc o (by rw [← hsi]; exact hio) a.eval W (g b.d) (fun t ht hne => look listed a W hI b.si o hio hall _ hro t ht (fun h => hne (by rw [e]; exact Option.some.inj h))) (by rw [e]; exact p1) (by
                have h3' := h3
                rw [e, ← hsi, hi0] at h3'
                simpa using h3')
              have hT : c.T = b.T := by
                have h3' := h3
                rw [e, p3] at h3'
                simp only [Option.some.injEq, Obj.cells.injEq] at h3'
                exact h3'.2.1.symm
              refine ⟨hT, ?_⟩
              rw [hrun] at e1
              simp only [Result.ok.injEq, true_and] at e1
              have h4 : (W.setRow (g b.d) b.U).heap[g b.d]? = (W.setRow (g b.d) c.U).heap[g b.d]? := by rw [e1]
              rw [setRow_heap _ _ _ _ _ _ p3, setRow_heap _ _ _ _ _ _ p3] at h4
              simp only [Option.some.injEq, Obj.cells.injEq] at h4
              exact h4.1.symm
            rw [e] at h1 h2 ⊢
            exact ⟨h1, h2, by rw [hcc.1, hcc.2]; exact setRow_heap _ _ _ _ _ _ p3⟩
          · have hsi : b.si ≠ c.si := fun h => e ((hcb.2.1).2 h.symm)
            rw [if_neg hsi]
            exact ⟨h1, h2, by rw [setRow_other _ _ _ _ (hg2 c hc b hb hl hla e)]; exact h3⟩
        · intro c hc c' hc' hl hl' hne
          obtain ⟨_, _, _, hdisc⟩ := boxesChk_box chk hc
          obtain ⟨_, _, _, hdisc'⟩ := boxesChk_box chk hc'
          rw [getD_set _ _ _ hil', if_neg (Ne.symm (hdisc b hb).2.2)] at hl
          rw [getD_set _ _ _ hil', if_neg (Ne.symm (hdisc' b hb).2.2)] at hl'
          exact hg2 c hc c' hc' hl hl' hne
        · intro c hc hl
          obtain ⟨_, _, _, hdisc⟩ := boxesChk_box chk hc
          rw [getD_set _ _ _ hil', if_neg (Ne.symm (hdisc b hb).2.2)]
          rw [getD_set _ _ _ hil'] at hl
          by_cases e : b.si = c.si
          · have : c.d = b.d := ((hdisc b hb).2.1).2 e.symm
            have hai : c.ai = b.ai := ((hdisc b hb).1).1 this
            rw [hai]; exact hla
          · rw [if_neg e] at hl; exact hI.ord c hc hl
      · -- a value
        have hwe : Region.wanted o (yielded l.toArray a.tmps) = Region.wanted o (yielded l.toArray aE.tmps) := by
          unfold Region.wanted
          cases hg : o.guard with
          | none => rfl
          | some kb =>
            obtain ⟨k, b⟩ := kb
            obtain ⟨hbk, hnk⟩ := hgd k b hg
            obtain ⟨e, he, hb, hon⟩ := bindsTo_spec hbk
            have : yielded l.toArray a.tmps k = yielded l.toArray aE.tmps k := yielded_congr hI.sz (fun ok tk hk hd => hI.fr1 k ok tk (by simpa using hk) hd (by
              obtain ⟨_, _, hcase2⟩ := boxesChk_any chk (show l[k]? = some ok by simpa using hk)
              rcases hcase2 with ⟨b2, hb2, h2⟩ | ⟨b2, hb2, h2⟩ | ⟨_, _, ⟨t2, hd2, _, htb2⟩, _⟩
              · exact ((hnk b2 hb2).1 h2).elim
              · exact ((hnk b2 hb2).2 h2).elim
              · rw [hd] at hd2; obtain rfl := Option.some.inj hd2; exact htb2) (by rw [← hon]; exact hall e he hb))
            simp only [this]
        have step : ∀ W', Below w.heap.size w W' → Below W.heap.size W W' → wpAny P .any l.toArray Q fuel (listed.setIfInBounds i true) (a.put (some t) (aE.tmps.getD t undef)) W' := by
          intro W' hW' hWW
          refine ih _ _ _ ⟨by rw [put_defers]; exact hI.df, by rw [put_size]; exact hI.sz, by simpa using hI.len, ?_, ?_, hW', ⟨g, ?_, ?_⟩, ?_⟩ hcnt
          · intro j oj u hj hjd hud hl
            by_cases htu : t = u
            · subst htu; rw [put_get_same _ _ _ (by rw [hI.sz, hEs]; exact htN)]
            · rw [put_get_ne _ _ _ _ htu]
              rw [getD_set _ _ _ hil'] at hl
              by_cases e : i = j
              · subst e; rw [hio] at hj; obtain rfl := Option.some.inj hj; rw [hdst] at hjd; exact (htu (Option.some.inj hjd)).elim
              · rw [if_neg e] at hl; exact hI.fr1 j oj u hj hjd hud hl
          · intro u hud hno
            have htu : t ≠ u := fun e => by
              subst e
              have := hno i o hio hdst
              rw [getD_set _ _ _ hil', if_pos rfl] at this; cases this
            rw [put_get_ne _ _ _ _ htu]
            refine hI.fr0 u hud (fun j oj hj hjd => ?_)
            have := hno j oj hj hjd
            rw [getD_set _ _ _ hil'] at this
            by_cases e : i = j
            · rw [if_pos e] at this; cases this
            · rw [if_neg e] at this; exact this
          · intro c hc hl
            rw [getD_set _ _ _ hil', if_neg (Ne.symm (hne c hc).1)] at hl
            rw [getD_set _ _ _ hil', if_neg (Ne.symm (hne c hc).2)]
            obtain ⟨h1, h2, h3⟩ := hg1 c hc hl
            exact ⟨by rw [put_get_ne _ _ _ _ (Ne.symm (htb c hc))]; exact h1, h2, by rw [hWW.block _ (Array.getElem?_eq_some_iff.1 h3).1]; exact h3⟩
          · intro c hc c' hc' hl hl' hd
            rw [getD_set _ _ _ hil', if_neg (Ne.symm (hne c hc).1)] at hl
            rw [getD_set _ _ _ hil', if_neg (Ne.symm (hne c' hc').1)] at hl'
            exact hg2 c hc c' hc' hl hl' hd
          · intro c hc hl
            rw [getD_set _ _ _ hil', if_neg (Ne.symm (hne c hc).2)] at hl
            rw [getD_set _ _ _ hil', if_neg (Ne.symm (hne c hc).1)]
            exact hI.ord c hc hl
        unfold wpOp
        simp only [ho]
        rcases hop i o t hio hne hdst with ⟨hw, hcalm⟩ | ⟨hw, hun⟩
        · rw [hwe, hw]
          simp only [if_true]
          refine .inl ?_
          have heq : execOp aE.eval o = execOp a.eval o := execOp_congr o hns (fun x hx => by
              cases x with
              | tmp u =>
                have hu : u ∈ readsOf o := List.mem_filterMap.2 ⟨.tmp u, by simpa using hx, rfl⟩
                exact (look listed a W hI i o hio hall none hro u hu (fun e => by cases e)).symm
              | _ => rfl)
          have hcalm' : calmAt P o a.eval W (aE.tmps.getD t undef) := by
              refine ⟨?_⟩; have hh := (hcalm W hI.bl).out; unfold calmRun at hh ⊢; rw [← heq]; exact hh
          refine wp_of_calm hcalm' (fun W' hb => ?_)
          rw [hdst]
          exact step W' (below_tr' hI.bl hb) hb
        · rw [hwe, hw]
          simp only [Bool.false_eq_true, if_false, hdst]
          rw [hun] at step
          exact step W hI.bl (Below.refl _ _)
  refine key _ _ _ _ ⟨by rw [hEd], hEs.symm, by simp, ?_, ?_, ⟨rfl, rfl, rfl, Nat.le_refl _, fun _ _ => rfl⟩, ⟨fun _ => 0, (fun b _ h => by rw [rep_false] at h; cases h), (fun b _ c _ h => by rw [rep_false] at h; cases h)⟩, (fun b _ h => by rw [rep_false] at h; cases h)⟩ ?_
  · intro j o t hj hjd _ hl; rw [rep_false] at hl; cases hl
  · intro t _ _; rfl
  · exact Nat.le_trans List.countP_le_length (by simp)
/-- What the law asks of the operations that are in no list of blocks: by their place. -/
def AllEx (p : Oper → Prop) (ex : Nat → Bool) : Nat → List Oper → Prop
  | _, [] => True
  | i, o :: r => (ex i = true ∨ p o) ∧ AllEx p ex (i + 1) r
theorem AllEx.spec {p : Oper → Prop} {ex : Nat → Bool} : ∀ (l : List Oper) (n i : Nat) (o : Oper), AllEx p ex n l → l[i]? = some o → ex (n + i) = false → p o
  | [], _, _, _, _, h, _ => by cases h
  | x :: r, n, 0, o, h, hi, he => by
    simp only [List.getElem?_cons_zero, Option.some.injEq] at hi
    subst hi
    rcases h.1 with h1 | h1
    · rw [Nat.add_zero] at he; rw [h1] at he; cases he
    · exact h1
  | x :: r, n, i + 1, o, h, hi, he => by
    rw [List.getElem?_cons_succ] at hi
    exact AllEx.spec r (n + 1) i o h.2 hi (by rw [show n + 1 + i = n + (i + 1) by omega]; exact he)
def AllB (p : Bx → Prop) : List Bx → Prop
  | [] => True
  | b :: r => p b ∧ AllB p r
theorem AllB.spec {p : Bx → Prop} : ∀ (bs : List Bx), AllB p bs → ∀ b ∈ bs, p b
  | [], _, _, h => by cases h
  | x :: r, h, b, hb => by
    rcases List.mem_cons.1 hb with e | e
    · rw [e]; exact h.1
    · exact AllB.spec r h.2 b e
/-- One new block: what its two operations do. -/
structure BoxOk (P : Program) (l : List Oper) (aE : Act) (b : Bx) : Prop where
  al : ∀ o, l[b.ai]? = some o → ∀ (ρ : Operand → Value) (W : World), (execOp ρ o).run P W = .ok (.value (ptr0 W.heap.size)) (W.alloc (.cells b.Z b.T))
  st : ∀ o, l[b.si]? = some o → ∀ (ρ : Operand → Value) (W : World) (g : Nat), (∀ t ∈ readsOf o, t ≠ b.d → ρ (.tmp t) = aE.tmps.getD t undef) → ρ (.tmp b.d) = ptr0 g → W.heap[g]? = some (.cells b.Z b.T (0, 0)) → (execOp ρ o).run P W = .ok .skip (W.setRow g b.U)
theorem region_boxes {id : Nat} (bs : List Bx) (vs : List (Nat × Value)) (hm : P.follows .mixedOrders = true)
    (chk : boxesChk l bs a0.tmps.size = true) (hkeys : vs.all (fun kv => (l.any (·.dst == some kv.1)) && (bs.all fun b => !(b.d == kv.1))) = true)
    (H : ∀ aE, puts a0 vs = aE → AllB (BoxOk P l aE) bs ∧ AllEx (CalmG P aE w l) (fun i => bs.any fun b => b.ai == i || b.si == i) 0 l ∧
      ∀ (g : Nat → Nat) (W : World), Below w.heap.size w W → (∀ b ∈ bs, w.heap.size ≤ g b.d ∧ W.heap[g b.d]? = some (.cells b.U b.T (0, 0))) → (∀ b ∈ bs, ∀ c ∈ bs, b.d ≠ c.d → g b.d ≠ g c.d) →
        Q .normal (puts aE ((bs.map (·.d)).map fun t => (t, ptr0 (g t)))) W) :
    (Code.region id l.toArray true).wp P Q a0 w := by
  obtain ⟨h1, h2, h3⟩ := H _ rfl
  refine wp_region_boxes hm chk hkeys (fun b hb => (AllB.spec bs h1 b hb).al) (fun b hb => (AllB.spec bs h1 b hb).st) (fun i o t hi hne hd => ?_) h3
  exact AllEx.spec l 0 i o h2 hi (by
    rw [Nat.zero_add]
    cases h : (bs.any fun b => b.ai == i || b.si == i) with
    | false => rfl
    | true =>
      exfalso
      obtain ⟨b, hb, h2⟩ := List.any_eq_true.1 h
      rw [Bool.or_eq_true] at h2
      rcases h2 with h2 | h2
      · exact (hne b hb).1 (by simpa using h2)
      · exact (hne b hb).2 (by simpa using h2)) t hd
end
end Go.Proofs.Ytoagfpdicpcjnaa
/- Contracts: how many points of a list are on a line; the line through three points. -/
namespace Go.Proofs.Ytoagfpdicpcjnaa
open Go.RowKit
set_option linter.unusedVariables false
set_option linter.unusedSimpArgs false
def onCount (p : Int) (l : List Pt) (x : Pt) : Nat := (l.filter (fun a => onB p a x)).length
end Go.Proofs.Ytoagfpdicpcjnaa
/- Plain words: what PappusLine returns, and what both makings lean on. -/
namespace Go.Proofs.Ytoagfpdicpcjnaa
set_option linter.unusedVariables false
set_option linter.unusedSimpArgs false
def papOn (p : Int) (a b c d e f : Pt) : Bool := (onB p a (crsN p d e) || onB p d (crsN p a b)) || ((onB p b (crsN p d e) || onB p e (crsN p a b)) || (onB p c (crsN p d e) || onB p f (crsN p a b)))
def pap1 (p : Int) (a b d e : Pt) : Pt := crsN p (crsN p a e) (crsN p b d)
def papC (p : Int) (a b c d e f : Pt) : Pt × Int :=
  if (threeB p a b c && threeB p d e f) = true then (if papOn p a b c d e f = true then ((0, 0, 0), 5) else (crsN p (pap1 p a b d e) (pap1 p a c d f), 0)) else ((0, 0, 0), 5)
def papR (p : Int) (n1 n2 : Nat) (l1 l2 : List Pt) : Pt × Int :=
  if threesR p n1 n2 l1 l2 ≠ 0 then ((0, 0, 0), threesR p n1 n2 l1 l2) else
  papC p (l1.getD 0 (0, 0, 0)) (l1.getD 1 (0, 0, 0)) (l1.getD 2 (0, 0, 0)) (l2.getD 0 (0, 0, 0)) (l2.getD 1 (0, 0, 0)) (l2.getD 2 (0, 0, 0))
theorem papC_f1 {p : Int} {a b c : Pt} (d e f : Pt) (h : threeB p a b c = false) : papC p a b c d e f = ((0, 0, 0), 5) := by unfold papC; rw [h]; rfl
theorem papC_f2 {p : Int} {d e f : Pt} (a b c : Pt) (h : threeB p d e f = false) : papC p a b c d e f = ((0, 0, 0), 5) := by unfold papC; rw [h]; simp
theorem papC_on {p : Int} {a b c d e f : Pt} (h : papOn p a b c d e f = true) : papC p a b c d e f = ((0, 0, 0), 5) := by unfold papC; rw [h]; simp
theorem papC_good {p : Int} {a b c d e f : Pt} (h1 : threeB p a b c = true) (h2 : threeB p d e f = true) (h : papOn p a b c d e f = false) : papC p a b c d e f = (crsN p (pap1 p a b d e) (pap1 p a c d f), 0) := by unfold papC; rw [h1, h2, h]; rfl
theorem papOn_eq {p : Int} {a b c d e f : Pt} (h : eqP (crsN p a b) (crsN p d e) = true) : papOn p a b c d e f = true := by
  have h1 := (on_crsN p a b).1
  rw [eqP_iff.1 h] at h1
  unfold papOn
  rw [h1]; rfl
theorem onCount3 (p : Int) (a b c x : Pt) : onCount p [a, b, c] x = 0 ↔ (onB p a x = false ∧ onB p b x = false ∧ onB p c x = false) := by
  unfold onCount
  cases h1 : onB p a x <;> cases h2 : onB p b x <;> cases h3 : onB p c x <;> simp [List.filter, h1, h2, h3]
theorem papOn_1 {p : Int} {a b c d e f : Pt} (h : 0 < onCount p [a, b, c] (crsN p d e)) : papOn p a b c d e f = true := by
  cases hp : papOn p a b c d e f with
  | true => rfl
  | false =>
    unfold papOn at hp
    simp only [Bool.or_eq_false_iff] at hp
    have := (onCount3 p a b c (crsN p d e)).2 ⟨hp.1.1, hp.2.1.1, hp.2.2.1⟩
    omega
theorem papOn_2 {p : Int} {a b c d e f : Pt} (h : 0 < onCount p [d, e, f] (crsN p a b)) : papOn p a b c d e f = true := by
  cases hp : papOn p a b c d e f with
  | true => rfl
  | false =>
    unfold papOn at hp
    simp only [Bool.or_eq_false_iff] at hp
    have := (onCount3 p d e f (crsN p a b)).2 ⟨hp.1.2, hp.2.1.2, hp.2.2.2⟩
    omega
theorem papOn_0 {p : Int} {a b c d e f : Pt} (h1 : onCount p [a, b, c] (crsN p d e) = 0) (h2 : onCount p [d, e, f] (crsN p a b) = 0) : papOn p a b c d e f = false := by
  obtain ⟨a1, a2, a3⟩ := (onCount3 p a b c (crsN p d e)).1 h1
  obtain ⟨b1, b2, b3⟩ := (onCount3 p d e f (crsN p a b)).1 h2
  unfold papOn
  rw [a1, a2, a3, b1, b2, b3]; rfl
theorem nzV_of {n : Nat} {a b : Pt} (ha : ptB (n : Int) a.1 a.2.1 a.2.2 = true) (hb : ptB (n : Int) b.1 b.2.1 b.2.2 = true) (h : eqP a b = false) : nzV (n : Int) (crs a b) := by
  have hp := (pt_facts ha).1
  have h1 := List.all_eq_true.1 (List.all_eq_true.1 (crsChk_of hp) _ (mem_allP ha)) _ (mem_allP hb)
  rw [Bool.or_eq_true] at h1
  rcases h1 with h1 | h1
  · exact absurd (h1.symm.trans h) (by decide)
  · rintro ⟨c1, c2, c3⟩
    unfold crsNz at h1
    rw [Int.emod_eq_zero_of_dvd c1, Int.emod_eq_zero_of_dvd c2, Int.emod_eq_zero_of_dvd c3] at h1
    exact absurd h1 (by decide)
theorem okC_of {p : Int} {a b : Pt} (h : nzV p (crs a b)) : okC p a b = true := by
  have h1 : nzB p [(crs a b).1, (crs a b).2.1, (crs a b).2.2] = true := by
    cases hb : nzB p [(crs a b).1, (crs a b).2.1, (crs a b).2.2] with
    | true => rfl
    | false =>
      obtain ⟨c1, c2, c3⟩ := nz3 hb
      exact (h ⟨Int.dvd_of_emod_eq_zero c1, Int.dvd_of_emod_eq_zero c2, Int.dvd_of_emod_eq_zero c3⟩).elim
  unfold okC madeC made
  rw [h1]; rfl
theorem three_facts {p : Int} {a b c : Pt} (h : threeB p a b c = true) : eqP a b = false ∧ eqP a c = false ∧ eqP b c = false ∧ p ∣ detZ a b c := by
  unfold threeB at h
  simp only [Bool.and_eq_true, Bool.not_eq_true', beq_iff_eq] at h
  exact ⟨h.1, h.2.1, h.2.2.1, Int.dvd_of_emod_eq_zero h.2.2.2⟩
/-- The first two meets have a line. -/
theorem pap_ok {n : Nat} {a b c d e f : Pt} (ha : ptB (n : Int) a.1 a.2.1 a.2.2 = true) (hc : ptB (n : Int) c.1 c.2.1 c.2.2 = true) (he : ptB (n : Int) e.1 e.2.1 e.2.2 = true) (hf : ptB (n : Int) f.1 f.2.1 f.2.2 = true)
    (h1 : threeB n a b c = true) (h2 : threeB n d e f = true) (h : papOn n a b c d e f = false) : okC n (pap1 n a b d e) (pap1 n a c d f) = true := by
  have hp := (pt_facts ha).1
  unfold papOn at h
  simp only [Bool.or_eq_false_iff] at h
  obtain ⟨t1, t2, t3, t4⟩ := three_facts h1
  obtain ⟨u1, u2, u3, u4⟩ := three_facts h2
  have o1 := off_nd hp h.1.2
  have o2 := off_nd hp h.1.1
  have k1 : ¬ (n : Int) ∣ dotI a (crs b d) := by rwa [show dotI a (crs b d) = dotI d (crs a b) by unfold dotI crs; simp only; grind]
  have k2 : ¬ (n : Int) ∣ dotI a (crs c d) := by
    have := off_other hp o1 t4 (nzV_of ha hc t2)
    rwa [show dotI a (crs c d) = dotI d (crs a c) by unfold dotI crs; simp only; grind]
  have k3 : ¬ (n : Int) ∣ dotI a (crs e f) := by
    refine off_other (b := d) hp ?_ ?_ (nzV_of he hf u3)
    · rintro ⟨q, hq⟩
      exact o2 ⟨-q, by rw [show dotI a (crs d e) = - dotI a (crs e d) by unfold dotI crs; simp only; grind, hq]; grind⟩
    · obtain ⟨q, hq⟩ := u4
      exact ⟨-q, by rw [show detZ e d f = - detZ d e f by unfold detZ; grind, hq]; grind⟩
  exact okC_of (meets_ne hp k1 k2 k3)
end Go.Proofs.Ytoagfpdicpcjnaa
/- Walks by search: facts about memory, found again in later worlds. -/
namespace Go.Proofs.Ytoagfpdicpcjnaa
open Go.RowKit
set_option linter.unusedVariables false
set_option linter.unusedSimpArgs false
def pC (t : Pt) : Array Value := #[.int .i64 t.1, .int .i64 t.2.1, .int .i64 t.2.2]
abbrev pV (t : Pt) : Value := .agg (pC t)
/-- A call leaves this world behind that one. -/
structure Link (w W : World) : Prop where
  out : Below w.heap.size w W
structure LowK (w W : World) : Prop where
  out : Below w.heap.size w W
structure RowK (W : World) (g : Nat) (cs : Array Value) (T : TypeId) : Prop where
  out : W.heap[g]? = some (.cells cs T (0, 0))
structure PtsK (W : World) (b o n : Nat) (L : List Pt) : Prop where
  out : PtsAt W b o n L
structure IntsK (W : World) (b o n : Nat) (L : List Int) : Prop where
  out : ∀ i, i < n → W.cell? ⟨b, o + i, none⟩ = some (.int .i64 (L.getD i 0))
theorem Link.low {w W : World} (h : Link w W) : LowK w W := ⟨h.out⟩
theorem LowK.lnk {w W : World} (h : LowK w W) : Link w W := ⟨h.out⟩
theorem LowK.refl (w : World) : LowK w w := ⟨Below.refl _ _⟩
theorem LowK.link {w w1 W : World} (l : Link w1 W) (h : LowK w w1) : LowK w W := ⟨below_tr' h.out l.out⟩
theorem LowK.alloc {w W : World} (h : LowK w W) (o : Obj) : LowK w (W.alloc o) := ⟨bal h.out o⟩
theorem LowK.drew {w W : World} (h : LowK w W) : LowK w W.drew := ⟨bdr h.out⟩
theorem LowK.drewN {w W : World} (h : LowK w W) (n : Nat) : LowK w (W.drewN n) := ⟨bdrN h.out n⟩
theorem LowK.set {w W : World} {g : Nat} {U : Array Value} (hg : w.heap.size ≤ g) (h : LowK w W) : LowK w (W.setRow g U) := ⟨below_setRowN h.out hg U⟩
theorem LowK.size {w W : World} (h : LowK w W) : w.heap.size ≤ W.heap.size := h.out.size
theorem RowK.lt {W : World} {g : Nat} {cs : Array Value} {T : TypeId} (h : RowK W g cs T) : g < W.heap.size := (Array.getElem?_eq_some_iff.1 h.out).1
theorem RowK.link {w W : World} {g : Nat} {cs : Array Value} {T : TypeId} (l : Link w W) (h : RowK w g cs T) : RowK W g cs T := ⟨(l.out.block _ h.lt).trans h.out⟩
theorem RowK.new {w : World} {g : Nat} {cs : Array Value} {T : TypeId} (h : g = w.heap.size) : RowK (w.alloc (.cells cs T)) g cs T := ⟨hn_atN _ _ _ h⟩
theorem RowK.alloc {w : World} {g : Nat} {cs : Array Value} {T : TypeId} (h : RowK w g cs T) (o : Obj) : RowK (w.alloc o) g cs T := ⟨by rw [hn_pastN _ _ _ h.lt]; exact h.out⟩
theorem RowK.drew {w : World} {g : Nat} {cs : Array Value} {T : TypeId} (h : RowK w g cs T) : RowK w.drew g cs T := ⟨h.out⟩
theorem RowK.drewN {w : World} {g : Nat} {cs : Array Value} {T : TypeId} (h : RowK w g cs T) (n : Nat) : RowK (w.drewN n) g cs T := ⟨h.out⟩
theorem RowK.here {w : World} {g : Nat} {cs U : Array Value} {T : TypeId} (h : RowK w g cs T) : RowK (w.setRow g U) g U T := ⟨setRow_heap _ _ _ _ _ _ h.out⟩
theorem RowK.set {w : World} {g g' : Nat} {cs U : Array Value} {T : TypeId} (hg : g ≠ g') (h : RowK w g cs T) : RowK (w.setRow g' U) g cs T := ⟨(setRow_other _ _ _ _ hg).trans h.out⟩
theorem PtsK.link {w W : World} {b o n : Nat} {L : List Pt} (l : Link w W) (h : PtsK w b o n L) : PtsK W b o n L := ⟨h.out.below l.out⟩
theorem PtsK.alloc {w : World} {b o n : Nat} {L : List Pt} (h : PtsK w b o n L) (x : Obj) : PtsK (w.alloc x) b o n L := ⟨h.out.below (bal (Below.refl _ _) x)⟩
theorem PtsK.drew {w : World} {b o n : Nat} {L : List Pt} (h : PtsK w b o n L) : PtsK w.drew b o n L := ⟨h.out⟩
theorem PtsK.drewN {w : World} {b o n : Nat} {L : List Pt} (h : PtsK w b o n L) (k : Nat) : PtsK (w.drewN k) b o n L := ⟨h.out⟩
theorem cell_other (W : World) (g b o : Nat) (U : Array Value) (h : b ≠ g) : (W.setRow g U).cell? ⟨b, o, none⟩ = W.cell? ⟨b, o, none⟩ := World.cell?_of_block (w := W) (a := ⟨b, o, none⟩) (setRow_other W g b U h)
theorem PtsK.set {w : World} {b o n g : Nat} {L : List Pt} {U : Array Value} (hg : b ≠ g) (h : PtsK w b o n L) : PtsK (w.setRow g U) b o n L :=
  ⟨fun i hi => ⟨(cell_other _ _ _ _ _ hg).trans (h.out i hi).1, (cell_other _ _ _ _ _ hg).trans (h.out i hi).2.1, (cell_other _ _ _ _ _ hg).trans (h.out i hi).2.2⟩⟩
theorem IntsK.below {w W : World} {b o n : Nat} {L : List Int} (h : IntsK w b o n L) (l : Below w.heap.size w W) : IntsK W b o n L := ⟨fun i hi => cell_belowQ l (h.out i hi)⟩
theorem IntsK.link {w W : World} {b o n : Nat} {L : List Int} (l : Link w W) (h : IntsK w b o n L) : IntsK W b o n L := h.below l.out
theorem IntsK.alloc {w : World} {b o n : Nat} {L : List Int} (h : IntsK w b o n L) (x : Obj) : IntsK (w.alloc x) b o n L := h.below (bal (Below.refl _ _) x)
theorem IntsK.drew {w : World} {b o n : Nat} {L : List Int} (h : IntsK w b o n L) : IntsK w.drew b o n L := ⟨h.out⟩
theorem IntsK.drewN {w : World} {b o n : Nat} {L : List Int} (h : IntsK w b o n L) (k : Nat) : IntsK (w.drewN k) b o n L := ⟨h.out⟩
theorem IntsK.set {w : World} {b o n g : Nat} {L : List Int} {U : Array Value} (hg : b ≠ g) (h : IntsK w b o n L) : IntsK (w.setRow g U) b o n L := ⟨fun i hi => (cell_other _ _ _ _ _ hg).trans (h.out i hi)⟩
@[simp, go_sem] theorem size_setRow (W : World) (g : Nat) (U : Array Value) : (W.setRow g U).heap.size = W.heap.size := by simp [World.setRow]
theorem pC_size (t : Pt) : (pC t).size = 3 := rfl
theorem pC_one (t : Pt) : ∀ v ∈ (pC t).toList, v.oneCell' = true := by intro v hv; simp [pC] at hv; rcases hv with rfl | rfl | rfl <;> rfl
theorem growL {w : World} {G : Grow0 w} (g : Grow w G) : Link w g.W := ⟨g.low⟩
theorem grow_ret {P : Program} {f : FuncId} {args : Array Value} {w : World} {G : Grow0 w} {g : Grow w G} {v : Value} (h : Calls P f args g.W (Ret g.W v)) : Calls P f args g.W (fun e w'' => e = .returned v ∧ ∃ g' : Grow w G, w'' = g'.W) :=
  h.mono fun _ W ⟨he, hb⟩ => ⟨he, ⟨W, below_tr' g.b hb⟩, rfl⟩
theorem grow_same {P : Program} {f : FuncId} {args : Array Value} {w : World} {G : Grow0 w} {g : Grow w G} {v : Value} (h : Calls P f args g.W (fun e w' => e = .returned v ∧ g.W = w')) : Calls P f args g.W (fun e w'' => e = .returned v ∧ ∃ g' : Grow w G, w'' = g'.W) :=
  h.mono fun _ W ⟨he, hb⟩ => ⟨he, g, hb.symm⟩
/-- Some of a list's operations, by a mask. -/
inductive Pick : List Oper → List Bool → List Oper → Prop
  | n : Pick [] [] []
  | k {o : Oper} {l r : List Oper} {ms : List Bool} : Pick l ms r → Pick (o :: l) (true :: ms) (o :: r)
  | d {o : Oper} {l r : List Oper} {ms : List Bool} : Pick l ms r → Pick (o :: l) (false :: ms) r
section
variable {P : Program} {Q : Exit → Act → World → Prop} {l : List Oper} {a0 : Act} {w : World}
theorem region_Q {id : Nat} (m : Nat) (hm : P.follows .mixedOrders = true) (hml : m ≤ l.length)
    (chk : viaChk l m a0.tmps.size = true) (hgd : guardsIn l m = true) (hon : onceB l m = true)
    (H : ∃ aE, (∀ G : Grow0 w, wpQuiet P l.toArray (fun w' => ∃ g : Grow w G, w' = g.W) (fun a' => a' = aE) (l.take m) a0) ∧ ∀ W, Link w W → wpList P l.toArray Q (l.drop m) aE W) :
    (Code.region id l.toArray true).wp P Q a0 w := by
  obtain ⟨aE, h1, h2⟩ := H
  exact region_q m hm hml chk hgd hon h1 (fun W hW => h2 W ⟨hW⟩)
theorem region_QN {id : Nat} (m : Nat) (ns : List CellS) {ms : List Bool} {rl : List Oper} (hpk : Pick l ms rl) (hm : P.follows .mixedOrders = true) (hml : m ≤ l.length) (hrl : (l.take m).filter (fun o => !isNew (ns.map (·.n)) o) = rl)
    (chk : viaChk l m a0.tmps.size = true) (hnew : newB l m (ns.map (·.n)) = true) (hcell : cellB l m ns = true)
    (hal : AllNs (fun s : CellS => ∀ o, l[s.i]? = some o → ∀ (ρ : Operand → Value) (W : World), (execOp ρ o).run P W = .ok (.value (.pointer (some ⟨W.heap.size, 0, none⟩))) (W.alloc (.cells s.Z s.T))) ns)
    (H : ∃ aE, (∀ G : Grow0 w, wpQuiet P l.toArray (fun w' => ∃ g : Grow w G, w' = g.W) (fun a' => a' = aE) rl a0) ∧
      ∀ (g : Nat → Nat) (W : World), Link w W → AllNs (fun s : CellS => w.heap.size ≤ g s.t ∧ RowK W (g s.t) s.Z s.T) ns → AllNs (fun s : CellS => AllNs (fun s' : CellS => s.t ≠ s'.t → g s.t ≠ g s'.t) ns) ns → wpList P l.toArray Q (l.drop m) (puts aE (ns.map fun s => (s.t, .pointer (some ⟨g s.t, 0, none⟩)))) W) :
    (Code.region id l.toArray true).wp P Q a0 w := by
  obtain ⟨aE, h1, h2⟩ := H
  subst hrl
  exact region_qn m ns hm hml chk hnew hcell hal h1 (fun g W hW h3 h4 => h2 g W ⟨hW⟩ (AllNs.of ns fun s hs => ⟨(AllNs.spec ns h3 s hs).1, ⟨(AllNs.spec ns h3 s hs).2⟩⟩) h4)
end
section
variable {P : Program} {ops : Array Oper} {rest : List Oper} {o : Oper} {a : Act} {Q : Exit → Act → World → Prop}
theorem wpList_load_rowK (w : World) (hgd : o.guard = none) (ty : TypeId) (x : Operand) (hop : o.op = .load ty x) {g : Nat} {T : TypeId} {cs : Array Value} (hx : a.eval x = .pointer (some ⟨g, 0, none⟩))
    (hg : RowK w g cs T) (n : Nat) (hn : cs.size = n) (hs : ∀ W, (sizeOf ty).run P W = .ok n W) (ha : ∀ W, (isAgg ty).run P W = .ok true W) (hK : wpList P ops Q rest (a.put o.dst (.agg cs)) w) : wpList P ops Q (o :: rest) a w :=
  wpList_load_row w hgd ty x hop hx hg.out n hn hs ha hK
theorem wpList_store_rowK (w : World) (hgd : o.guard = none) (ty : TypeId) (x y : Operand) (hop : o.op = .store ty x y) (hd : o.dst = none) {g : Nat} {T : TypeId} {cs U : Array Value} (hx : a.eval x = .pointer (some ⟨g, 0, none⟩)) (hy : a.eval y = .agg U)
    (hg : RowK w g cs T) (n : Nat) (hn : cs.size = n) (hU : U.size = n) (hs : ∀ W, (sizeOf ty).run P W = .ok n W) (h1 : ∀ v ∈ U.toList, v.oneCell' = true) (hK : wpList P ops Q rest a (w.setRow g U)) : wpList P ops Q (o :: rest) a w :=
  wpList_store_row w hgd ty x y hop hd hx hy hg.out (by rw [hn, hU]) (by rw [hU]; exact hs) h1 hK
theorem wp_of_calmQ {w : World} {o : Oper} {a : Act} {v : Value} {K : Act → World → Prop} (h : calmAt P o a.eval w v) (he : ∀ f args, (execOp a.eval o).run P w ≠ .ok (.enter f args) w) (hK : K (a.put o.dst v) w) : o.wp P a w K Q := by
  have h := h.out
  unfold calmRun at h
  unfold Oper.wp
  generalize (execOp a.eval o).run P w = r at *
  cases r with
  | ok n w' =>
    cases n <;> simp only [Oper.upon] at h ⊢
    case value u => obtain ⟨rfl, rfl⟩ := h; exact hK
    case skip => obtain ⟨rfl, rfl⟩ := h; exact hK
    case enter f args => obtain ⟨rfl, _⟩ := h; exact absurd rfl (he f args)
  | halt x w' => simp only at h
/-- A point out of a list is loaded. -/
theorem run_load_pt {W : World} {ρ : Operand → Value} {ty : TypeId} {x : Operand} {b e n : Nat} {L : List Pt} (k : Nat) (hop : o.op = .load ty x) (hx : ρ x = .pointer (some ⟨b, e, none⟩)) (hL : PtsK W b 0 n L) (hk : k < n) (he : e = k * 3)
    (hs : ∀ W, (sizeOf ty).run P W = .ok 3 W) (ha : ∀ W, (isAgg ty).run P W = .ok true W) : (execOp ρ o).run P W = .ok (.value (pV (L.getD k (0, 0, 0)))) W := by
  obtain ⟨h0, h1, h2⟩ := hL.out k hk
  subst he
  simp only [Nat.zero_add] at h0 h1 h2
  generalize L.getD k (0, 0, 0) = t at *
  have hl : (loadCells ⟨b, k * 3, none⟩ 3).run P W = .ok (pC t) W :=
    run_loadCells_list (P := P) W ⟨b, k * 3, none⟩ [.int .i64 t.1, .int .i64 t.2.1, .int .i64 t.2.2] (fun j v hv => by
      have hadd : ∀ j, (⟨b, k * 3, none⟩ : Addr).add j = ⟨b, k * 3 + j, none⟩ := by intro j; unfold Addr.add; split <;> simp_all
      rw [hadd]
      match j, hv with
      | 0, hv => simpa using h0.trans (by simpa using hv)
      | 1, hv => exact h1.trans (by simpa using hv)
      | 2, hv => exact h2.trans (by simpa using hv)
      | j + 3, hv => simp at hv)
  have hv : (loadVar ty ⟨b, k * 3, none⟩).run P W = .ok (pV t) W := by
    unfold loadVar
    rw [Sem.run_bind, ha]
    simp only [Result.andThen_ok, if_true]
    rw [Sem.run_bind, hs]
    simp only [Result.andThen_ok]
    rw [Sem.run_bind, hl]
    rfl
  unfold execOp
  simp only [hop, hx, Instr.loadAt, Instr.sureAddr, Sem.run_bind, Sem.run_pure, Result.andThen_ok, hv]
theorem run_load_rowK {W : World} {ρ : Operand → Value} {ty : TypeId} {x : Operand} {g : Nat} {T : TypeId} {cs : Array Value} (hop : o.op = .load ty x) (hx : ρ x = .pointer (some ⟨g, 0, none⟩)) (hg : RowK W g cs T) (n : Nat) (hn : cs.size = n)
    (hs : ∀ W, (sizeOf ty).run P W = .ok n W) (ha : ∀ W, (isAgg ty).run P W = .ok true W) : (execOp ρ o).run P W = .ok (.value (.agg cs)) W := by
  have hv := run_loadRow (P := P) ty hg.out n hn hs ha
  unfold execOp
  simp only [hop, hx, Instr.loadAt, Instr.sureAddr, Sem.run_bind, Sem.run_pure, Result.andThen_ok, hv]
theorem wpList_load_pt (w : World) (hgd : o.guard = none) (ty : TypeId) (x : Operand) (k : Nat) (hop : o.op = .load ty x) {b e n : Nat} {L : List Pt} (hx : a.eval x = .pointer (some ⟨b, e, none⟩)) (hL : PtsK w b 0 n L) (he : e = k * 3) (hk : k < n)
    (hs : ∀ W, (sizeOf ty).run P W = .ok 3 W) (ha : ∀ W, (isAgg ty).run P W = .ok true W) (t : Pt) (ht : L.getD k (0, 0, 0) = t) (hK : wpList P ops Q rest (a.put o.dst (pV t)) w) : wpList P ops Q (o :: rest) a w := by
  refine wpList_plain hgd fun K hK' => ?_
  unfold Oper.wp
  rw [run_load_pt k hop hx hL hk he hs ha, ht]
  exact hK' _ _ hK
theorem wpList_load_any (w : World) (hgd : o.guard = none) (ty : TypeId) (x : Operand) (hop : o.op = .load ty x) {v : Value} (hr : (execOp a.eval o).run P w = .ok (.value v) w) (hK : wpList P ops Q rest (a.put o.dst v) w) : wpList P ops Q (o :: rest) a w := by
  refine wpList_plain hgd fun K hK' => ?_
  unfold Oper.wp
  rw [hr]
  exact hK' _ _ hK
theorem run_load_ptT {W : World} {ρ : Operand → Value} {ty : TypeId} {x : Operand} {b e n : Nat} {L : List Pt} (k : Nat) (hop : o.op = .load ty x) (hx : ρ x = .pointer (some ⟨b, e, none⟩)) (hL : PtsK W b 0 n L) (he : e = k * 3) (hk : k < n)
    (hs : ∀ W, (sizeOf ty).run P W = .ok 3 W) (ha : ∀ W, (isAgg ty).run P W = .ok true W) (t : Pt) (ht : L.getD k (0, 0, 0) = t) : (execOp ρ o).run P W = .ok (.value (pV t)) W := by
  rw [← ht]; exact run_load_pt k hop hx hL hk he hs ha
theorem region_gd {id : Nat} {l : List Oper} {w : World} (h : (Code.region id l.toArray true).wp P Q a w) : (Code.region id l.toArray true).wp P Q a w := h
/-- In a quiet walk. -/
theorem q_load_any {w : World} {G : Grow0 w} {K : Act → Prop} (ty : TypeId) (x : Operand) (hop : o.op = .load ty x) {v : Value} (h : ∀ W, Link w W → (execOp a.eval o).run P W = .ok (.value v) W) (hK : K (a.put o.dst v)) : o.quiet P a (fun w' => ∃ g : Grow w G, w' = g.W) K :=
  ⟨v, fun W ⟨g, hg⟩ => by unfold Oper.quietAt; rw [h W (by rw [hg]; exact growL g)]; exact ⟨rfl, rfl⟩, hK⟩
/-- In a quiet walk. -/
theorem q_run {w : World} {G : Grow0 w} {K : Act → Prop} (v : Value) (h : ∀ W, Link w W → (execOp a.eval o).run P W = .ok (.value v) W) (hK : K (a.put o.dst v)) : o.quiet P a (fun w' => ∃ g : Grow w G, w' = g.W) K :=
  ⟨v, fun W ⟨g, hg⟩ => by unfold Oper.quietAt; rw [h W (by rw [hg]; exact growL g)]; exact ⟨rfl, rfl⟩, hK⟩
theorem q_load_pt {w : World} {G : Grow0 w} {K : Act → Prop} (ty : TypeId) (x : Operand) (k : Nat) (hop : o.op = .load ty x) {b e n : Nat} {L : List Pt} (hx : a.eval x = .pointer (some ⟨b, e, none⟩)) (hL : PtsK w b 0 n L) (he : e = k * 3) (hk : k < n)
    (hs : ∀ W, (sizeOf ty).run P W = .ok 3 W) (ha : ∀ W, (isAgg ty).run P W = .ok true W) (t : Pt) (ht : L.getD k (0, 0, 0) = t) (hK : K (a.put o.dst (pV t))) : o.quiet P a (fun w' => ∃ g : Grow w G, w' = g.W) K :=
  q_run _ (fun W hW => by rw [run_load_pt k hop hx (hL.link hW) hk he hs ha, ht]) hK
theorem q_load_row {w : World} {G : Grow0 w} {K : Act → Prop} (ty : TypeId) (x : Operand) (hop : o.op = .load ty x) {g : Nat} {T : TypeId} {cs : Array Value} (hx : a.eval x = .pointer (some ⟨g, 0, none⟩)) (hg : RowK w g cs T) (n : Nat) (hn : cs.size = n)
    (hs : ∀ W, (sizeOf ty).run P W = .ok n W) (ha : ∀ W, (isAgg ty).run P W = .ok true W) (hK : K (a.put o.dst (.agg cs))) : o.quiet P a (fun w' => ∃ g : Grow w G, w' = g.W) K :=
  q_run _ (fun W hW => run_load_rowK hop hx (hg.link hW) n hn hs ha) hK
end
@[go_sem high] theorem eqPoP (w : World) (a b : Pt) : (binOp .eql 33 (.agg (pC a)) (.agg (pC b))).run Try.prog w = .ok (.bool (eqP a b)) w := eqPo w a.1 a.2.1 a.2.2 b.1 b.2.1 b.2.2
@[go_sem high] theorem nePoP (w : World) (a b : Pt) : (binOp .neq 33 (.agg (pC a)) (.agg (pC b))).run Try.prog w = .ok (.bool (!eqP a b)) w := nePo w a.1 a.2.1 a.2.2 b.1 b.2.1 b.2.2
theorem bzPo : Try.prog.built 33 [] = some (pC (0, 0, 0)) := by kernel_rfl
theorem determinant_P {p : Int} {a b c : Pt} (w : World) (hp : prB p = true) (ha : In13 a) (hb : In13 b) (hc : In13 c) : Calls Try.prog 83 #[.int .i64 p, pV a, pV b, pV c] w (Ret w (.int .i64 (detZ a b c % p))) := determinant_any p a.1 a.2.1 a.2.2 b.1 b.2.1 b.2.2 c.1 c.2.1 c.2.2 w hp ha hb hc
theorem l01Det_P {p : Int} {a b c : Pt} (w : World) (hp : prB p = true) (ha : In13 a) (hb : In13 b) (hc : In13 c) : Calls Try.prog 81 #[.int .i64 p, pV a, pV b, pV c] w (Ret w (.int .i64 (detZ a b c % p))) := l01Det_any p a.1 a.2.1 a.2.2 b.1 b.2.1 b.2.2 c.1 c.2.1 c.2.2 w hp ha hb hc
theorem in13_crs {p : Int} {a b : Pt} (hp : prB p = true) : In13 (crsN p a b) := crsN_in' hp
theorem in13_pt {p : Int} {t : Pt} (h : ptB p t.1 t.2.1 t.2.2 = true) (hp : prB p = true) : In13 t := in13' h
theorem results_rowT' {P : Program} {fn : Func} {tmps : Array Value} {t s : Tmp} {W : World} {g : Nat} {T : TypeId} {cs : Array Value} {fr : Nat × Nat} {ty : TypeId} {x : Value} (h : fn.results = #[.cell t ty, .tmp s]) (ht : tmps.getD t undef = .pointer (some ⟨g, 0, none⟩)) (hx : tmps.getD s undef = x)
    (hg : W.heap[g]? = some (.cells cs T fr)) (n : Nat) (hn : cs.size = n) (hs : ∀ W, (sizeOf ty).run P W = .ok n W) (ha : ∀ W, (isAgg ty).run P W = .ok true W) : (results fn tmps).run P W = .ok (.tuple #[.agg cs, x]) W := by
  have hv := run_loadRow (P := P) ty hg n hn hs ha
  have ht' : tmps[t]?.getD undef = .pointer (some ⟨g, 0, none⟩) := by rw [← Array.getD_eq_getD_getElem?]; exact ht
  have hx' : tmps[s]?.getD undef = x := by rw [← Array.getD_eq_getD_getElem?]; exact hx
  have hp : ∀ a : Addr, asAddr (.pointer (some a)) = pure a := fun _ => rfl
  simp [results, h, ht', hx', hp, Sem.run_bind, Sem.run_pure, hv]
section
variable {P : Program} {fn : Func} {R : Ending → World → Prop} {a : Act} {w : World}
theorem ret_rowT {t s : Tmp} {g : Nat} {T ty : TypeId} {cs : Array Value} {x : Value} (h : fn.results = #[.cell t ty, .tmp s]) (ht : a.tmps.getD t undef = .pointer (some ⟨g, 0, none⟩)) (hx : a.tmps.getD s undef = x)
    (hg : RowK w g cs T) (n : Nat) (hn : cs.size = n) (hs : ∀ W, (sizeOf ty).run P W = .ok n W) (ha : ∀ W, (isAgg ty).run P W = .ok true W) (hd : a.defers = []) (hR : R (.returned (.tuple #[.agg cs, x])) w) : bodyPost P fn R .ret a w :=
  bodyPost_ret (results_rowT' h ht hx hg.out n hn hs ha) hd hR
theorem ret_row {t : Tmp} {g : Nat} {T ty : TypeId} {cs : Array Value} (h : fn.results = #[.cell t ty]) (ht : a.tmps.getD t undef = .pointer (some ⟨g, 0, none⟩))
    (hg : RowK w g cs T) (n : Nat) (hn : cs.size = n) (hs : ∀ W, (sizeOf ty).run P W = .ok n W) (ha : ∀ W, (isAgg ty).run P W = .ok true W) (hd : a.defers = []) (hR : R (.returned (.agg cs)) w) : bodyPost P fn R .ret a w :=
  bodyPost_ret (results_row h ht hg.out n hn hs ha) hd hR
theorem ret_one {s : Tmp} {x : Value} (h : fn.results = #[.tmp s]) (hx : a.tmps.getD s undef = x) (hd : a.defers = []) (hR : R (.returned x) w) : bodyPost P fn R .ret a w :=
  bodyPost_ret (by simp [results, h, ← Array.getD_eq_getD_getElem?, hx]) hd hR
theorem ret_two {s t : Tmp} {x y : Value} (h : fn.results = #[.tmp s, .tmp t]) (hx : a.tmps.getD s undef = x) (hy : a.tmps.getD t undef = y) (hd : a.defers = []) (hR : R (.returned (.tuple #[x, y])) w) : bodyPost P fn R .ret a w :=
  bodyPost_ret (by simp [results, h, ← Array.getD_eq_getD_getElem?, hx, hy, Sem.run_bind, Sem.run_pure]) hd hR
theorem ret_three {s t u : Tmp} {x y z : Value} (h : fn.results = #[.tmp s, .tmp t, .tmp u]) (hx : a.tmps.getD s undef = x) (hy : a.tmps.getD t undef = y) (hz : a.tmps.getD u undef = z) (hd : a.defers = []) (hR : R (.returned (.tuple #[x, y, z])) w) : bodyPost P fn R .ret a w :=
  bodyPost_ret (by simp [results, h, ← Array.getD_eq_getD_getElem?, hx, hy, hz, Sem.run_bind, Sem.run_pure]) hd hR
end
theorem ret_ret {w w' : World} {v u : Value} (h : v = u) (hl : LowK w w') : Ret w u (.returned v) w' := ⟨by rw [h], hl.out⟩
end Go.Proofs.Ytoagfpdicpcjnaa
