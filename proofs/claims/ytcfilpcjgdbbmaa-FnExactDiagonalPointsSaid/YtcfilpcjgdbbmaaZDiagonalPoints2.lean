/- Texts of the claim, in build order: G4, S7, T4, T5, LP1, DP4, LP2. No condition. -/
import Derived.Test.YtcfilpcjgdbbmaaZDiagonalPoints1
/- Contracts: the laws' marks on lists of points (and lines). (Printed by geng4.py, a program of this session.) -/
namespace Go.Proofs.Ytcfilpcjgdbbmaa
open Go.RowKit
set_option linter.unusedVariables false
set_option linter.unusedSimpArgs false
def markP (k i : Nat) : Pt := (((k + 3 * i : Nat) : Int), ((k + 3 * i + 1 : Nat) : Int), ((k + 3 * i + 2 : Nat) : Int))
def markL (k n : Nat) : List Pt := (List.range n).map (markP k)
theorem markL_at (k n i : Nat) (h : i < n) : (markL k n).getD i (0, 0, 0) = markP k i := by simp [markL, List.getD, h]
theorem markL_length (k n : Nat) : (markL k n).length = n := by simp [markL]
theorem ret_num {a b : Int} (h : a = b) : Value.int .i64 a = Value.int .i64 b := by rw [h]
theorem mark_eq (k i : Nat) : markP k i = ((k : Int) + 3 * (i : Int), (k : Int) + 3 * (i : Int) + 1, (k : Int) + 3 * (i : Int) + 1 + 1) := by
  unfold markP
  refine Prod.ext ?_ (Prod.ext ?_ ?_) <;> simp <;> omega
theorem pts_grow {W : World} {g cap i : Nat} {T : TypeId} {M : List Pt} {x y z : Int} (hr : RoomP W g cap T) (hi : i < cap) (h : PtsAt W g 0 i M) (hM : M.getD i (0, 0, 0) = (x, y, z)) :
    PtsAt (((W.setCell ⟨g, i * 3, none⟩ (.int .i64 x)).setCell ⟨g, i * 3 + 1, none⟩ (.int .i64 y)).setCell ⟨g, i * 3 + 2, none⟩ (.int .i64 z)) g 0 (i + 1) M := by
  have ne : ∀ a b : Nat, a ≠ b → (⟨g, a, none⟩ : Addr) ≠ ⟨g, b, none⟩ := fun a b h e => h (by cases e; rfl)
  obtain ⟨u0, s0⟩ := Option.isSome_iff_exists.1 (hr.some (i * 3) (by omega))
  obtain ⟨u1, s1⟩ := Option.isSome_iff_exists.1 (hr.some (i * 3 + 1) (by omega))
  obtain ⟨u2, s2⟩ := Option.isSome_iff_exists.1 (hr.some (i * 3 + 2) (by omega))
  intro j hj
  simp only [Nat.zero_add]
  by_cases e : j = i
  · subst e
    rw [hM]
    refine ⟨?_, ?_, ?_⟩
    · rw [World.cell?_setCell_other _ _ _ _ (ne _ _ (by omega)), World.cell?_setCell_other _ _ _ _ (ne _ _ (by omega)), World.cell?_setCell_same _ _ _ s0]
    · rw [World.cell?_setCell_other _ _ _ _ (ne _ _ (by omega)), World.cell?_setCell_same (u := u1) _ _ _ (by rw [World.cell?_setCell_other _ _ _ _ (ne _ _ (by omega))]; exact s1)]
    · rw [World.cell?_setCell_same (u := u2) _ _ _ (by rw [World.cell?_setCell_other _ _ _ _ (ne _ _ (by omega)), World.cell?_setCell_other _ _ _ _ (ne _ _ (by omega))]; exact s2)]
  · obtain ⟨c0, c1, c2⟩ := h j (by omega)
    simp only [Nat.zero_add] at c0 c1 c2
    refine ⟨?_, ?_, ?_⟩
    · rw [World.cell?_setCell_other _ _ _ _ (ne _ _ (by omega)), World.cell?_setCell_other _ _ _ _ (ne _ _ (by omega)), World.cell?_setCell_other _ _ _ _ (ne _ _ (by omega))]; exact c0
    · rw [World.cell?_setCell_other _ _ _ _ (ne _ _ (by omega)), World.cell?_setCell_other _ _ _ _ (ne _ _ (by omega)), World.cell?_setCell_other _ _ _ _ (ne _ _ (by omega))]; exact c1
    · rw [World.cell?_setCell_other _ _ _ _ (ne _ _ (by omega)), World.cell?_setCell_other _ _ _ _ (ne _ _ (by omega)), World.cell?_setCell_other _ _ _ _ (ne _ _ (by omega))]; exact c2
theorem Save.refl (g : Nat) (w : World) : Save g w w := ⟨rfl, rfl, rfl, Nat.le_refl _, fun _ _ _ => rfl⟩
theorem Save.setCell {g0 : Nat} {w W : World} (h : Save g0 w W) (i : Nat) (v : Value) : Save g0 w (W.setCell ⟨g0, i, none⟩ v) :=
  ⟨h.os, h.tape, h.output, by simpa [World.setCell] using h.size, fun k hk hne => by
    have : (W.setCell ⟨g0, i, none⟩ v).heap[k]? = W.heap[k]? := by simp [World.setCell, Array.getElem?_modify, Ne.symm hne]
    rw [this]; exact h.block k hk hne⟩
/-- What marks leave. -/
structure MarkPost (g n k cap : Nat) (T : TypeId) (w : World) (e : Ending) (w' : World) : Prop where
  out : e = .returned (.int .i64 ((k + 3 * n : Nat) : Int)) ∧ Save g w w' ∧ RoomP w' g cap T ∧ PtsAt w' g 0 n (markL k n)
set_option maxHeartbeats 1000000 in
theorem markPointS_any (g n c k cap : Nat) (T : TypeId) (w : World) (hr : RoomP w g cap T) (hn : n ≤ cap) (hn1 : n ≤ 1000000) (hk : k ≤ 10000000) :
    Calls Try.prog 14 #[.slice (some ⟨g, 0, none⟩) n c, .int .i64 (k : Int)] w (MarkPost g n k cap T w) := by
  have HR0 := Lib.hid hr
  clear hr
  go_enter Try.func14, Try.ntmps14
  go_wp2
  go_loopw [1, 5, 6] (fun q i jj wr => ∃ ii : Nat, ii ≤ n ∧ i = .int .i64 ii ∧ q = .int .i64 ((k + 3 * ii : Nat) : Int) ∧ Hid (Save g w wr) ∧ Hid (RoomP wr g cap T) ∧ Hid (PtsAt wr g 0 ii (markL k n))) (fun _ i _ wr => n - (intOf i).toNat)
  case atStart => exact ⟨0, Nat.zero_le _, rfl, rfl, Lib.hid (Save.refl _ _), HR0, Lib.hid (fun j hj => absurd hj (by omega))⟩
  case round =>
    obtain ⟨ii, hi, rfl, rfl, HS, HR, HP⟩ := hrel
    by_cases hlt : ii < n
    · obtain ⟨u0, s0⟩ := Option.isSome_iff_exists.1 (HR.out.some (ii * 3) (by omega))
      have r0 := HR.out.frozen (ii * 3)
      obtain ⟨u1, s1⟩ := Option.isSome_iff_exists.1 (HR.out.some (ii * 3 + 1) (by omega))
      have r1 := HR.out.frozen (ii * 3 + 1)
      obtain ⟨u2, s2⟩ := Option.isSome_iff_exists.1 (HR.out.some (ii * 3 + 2) (by omega))
      have r2 := HR.out.frozen (ii * 3 + 2)
      go_wp2
      refine wp_loop_rounds 4 ?_
      iterate 4 (rw [rounds_succ]; go_wp2)
      go_roundw
      case rel => exact ⟨ii + 1, by omega, by go_num, ret_num (by omega), Lib.hid (((HS.out.setCell _ _).setCell _ _).setCell _ _), Lib.hid (((HR.out.set _ _).set _ _).set _ _), Lib.hid (pts_grow HR.out (by omega) HP.out (by rw [markL_at _ _ _ hlt]; exact mark_eq k ii))⟩
      case measure => simp [intOf]; omega
    · have : ii = n := by omega
      subst this
      go_wp2
      go_ret
      exact ⟨rfl, HS.out, HR.out, HP.out⟩
theorem heldPointS_any (g n c k : Nat) (w : World) (hn1 : n ≤ 1000000) (hk : k ≤ 10000000) (hp : PtsAt w g 0 n (markL k n)) :
    Calls Try.prog 15 #[.slice (some ⟨g, 0, none⟩) n c, .int .i64 (k : Int)] w (Ret w (.int .i64 ((k + 3 * n : Nat) : Int))) := by
  have HP := Lib.hid hp
  clear hp
  go_enter Try.func15, Try.ntmps15
  go_wp2
  go_loopw [1, 5, 6] (fun q i jj wr => ∃ ii : Nat, ii ≤ n ∧ i = .int .i64 ii ∧ q = .int .i64 ((k + 3 * ii : Nat) : Int) ∧ Hid (Below w.heap.size w wr)) (fun _ i _ wr => n - (intOf i).toNat)
  case atStart => exact ⟨0, Nat.zero_le _, rfl, rfl, Lib.hid (Below.refl _ _)⟩
  case round =>
    obtain ⟨ii, hi, rfl, rfl, HB⟩ := hrel
    by_cases hlt : ii < n
    · obtain ⟨c0, c1, c2⟩ := (HP.out.below HB.out) ii hlt
      rw [markL_at _ _ _ hlt, mark_eq] at c0 c1 c2
      simp only [Nat.zero_add] at c0 c1 c2
      go_wp2
      refine wp_loop_rounds 4 ?_
      iterate 4 (rw [rounds_succ]; go_wp2)
      go_roundw
      case rel => exact ⟨ii + 1, by omega, by go_num, ret_num (by omega), HB⟩
      case measure => simp [intOf]; omega
    · have : ii = n := by omega
      subst this
      go_wp2
      go_ret
      exact ⟨rfl, HB.out⟩
theorem markPointS_nil (b : Option Addr) (c : Nat) (k : Int) (w : World) : Calls Try.prog 14 #[.slice b 0 c, .int .i64 k] w fun e w' => e = .returned (.int .i64 k) ∧ w = w' := by
  go_enter Try.func14, Try.ntmps14
  go_wp2
  refine wp_loop_rounds 1 ?_
  rw [rounds_succ]; go_wp2
  go_ret
  exact ⟨rfl, rfl⟩
theorem heldPointS_nil (b : Option Addr) (c : Nat) (k : Int) (w : World) : Calls Try.prog 15 #[.slice b 0 c, .int .i64 k] w fun e w' => e = .returned (.int .i64 k) ∧ w = w' := by
  go_enter Try.func15, Try.ntmps15
  go_wp2
  refine wp_loop_rounds 1 ?_
  rw [rounds_succ]; go_wp2
  go_ret
  exact ⟨rfl, rfl⟩
end Go.Proofs.Ytcfilpcjgdbbmaa
/- Contracts: the Singer map, as the reference finds it; SingerMap. (Printed by gens7.py, a program of this session.) -/
namespace Go.Proofs.Ytcfilpcjgdbbmaa
open Go.RowKit
set_option linter.unusedVariables false
set_option linter.unusedSimpArgs false
/-- What SingerMap returns. -/
def singM (n : Nat) : Value := .agg (cellsM9 (compM n (firstC n)))
end Go.Proofs.Ytcfilpcjgdbbmaa
/- Contracts: the Singer order of a prime; SingerOrder, the program's and the reference's. -/
namespace Go.Proofs.Ytcfilpcjgdbbmaa
open Go.RowKit
set_option linter.unusedVariables false
set_option linter.unusedSimpArgs false
/-- A new list of points, and no error. -/
structure PtsPost2 (w : World) (l : List Pt) (e : Ending) (w' : World) : Prop where
  out : ∃ v, e = .returned (.tuple #[v, .int .i64 0]) ∧ w'.ownsRow w.heap.size 45 3 v l.length (ptCs l) ∧ Below w.heap.size w w'
end Go.Proofs.Ytcfilpcjgdbbmaa
/- The law FnExactSingerOrder, walked. -/
namespace Go.Proofs.Ytcfilpcjgdbbmaa
open Go.RowKit
set_option linter.unusedVariables false
set_option linter.unusedSimpArgs false
theorem own_room {W : World} {base : Nat} {T : TypeId} {v : Value} {l : List Pt} {n : Nat} (h : W.ownsRow base T 3 v n (ptCs l)) (hl : l.length = n) (hn : 0 < n) :
    ∃ g cap, v = .slice (some ⟨g, 0, none⟩) n cap ∧ base ≤ g ∧ g < W.heap.size ∧ n ≤ cap ∧ RoomP W g cap T ∧ PtsAt W g 0 n l := by
  obtain ⟨g, cap, e, hb, hg, hp⟩ := ownPts h hl hn
  rcases h.2 with ⟨_, h0⟩ | ⟨g', cap', cur, e', hb', hg', hle, _, hsz, htk⟩
  · omega
  · rw [e] at e'
    cases e'
    exact ⟨g, cap, e, hb, hg, hle, ⟨cur, hg', hsz⟩, hp⟩
theorem PtsAt.save {w W : World} {g0 b o n : Nat} {l : List Pt} (h : PtsAt w b o n l) (hs : Save g0 w W) (hne : b ≠ g0) (hlt : b < w.heap.size) : PtsAt W b o n l := by
  have hc : ∀ i, W.cell? ⟨b, i, none⟩ = w.cell? ⟨b, i, none⟩ := fun i => by
    unfold World.cell?
    rw [hs.block b hlt hne]
  intro i hi
  rw [hc, hc, hc]
  exact h i hi
theorem mark_101 (g Q c cap : Nat) (T : TypeId) (W : World) (hr : RoomP W g cap T) (hn : Q ≤ cap) (hQ : Q ≤ 1000000) (M : Int) (hM : ((101 + 3 * Q : Nat) : Int) = M) :
    Calls Try.prog 14 #[.slice (some ⟨g, 0, none⟩) Q c, .int .i64 101] W (fun e w' => e = .returned (.int .i64 M) ∧ Save g W w' ∧ PtsAt w' g 0 Q (markL 101 Q)) := by
  have h := markPointS_any g Q c 101 cap T W hr hn hQ (by omega)
  rw [← hM]
  exact h.mono fun e w' ⟨h1, h2, _, h4⟩ => ⟨h1, h2, h4⟩
theorem held_101 (g Q c : Nat) (W : World) (hQ : Q ≤ 1000000) (hp : PtsAt W g 0 Q (markL 101 Q)) (M : Int) (hM : ((101 + 3 * Q : Nat) : Int) = M) :
    Calls Try.prog 15 #[.slice (some ⟨g, 0, none⟩) Q c, .int .i64 101] W (Ret W (.int .i64 M)) := by
  rw [← hM]
  exact heldPointS_any g Q c 101 W hQ (by omega) hp
end Go.Proofs.Ytcfilpcjgdbbmaa
/- Laws with a list of points in and a list of points out: what their helpers do, in facts that a search finds. -/
namespace Go.Proofs.Ytcfilpcjgdbbmaa
open Go.RowKit
set_option linter.unusedVariables false
set_option linter.unusedSimpArgs false
/-- All blocks but one are as they were. -/
structure SaveP (g : Nat) (w W : World) : Prop where
  out : Save g w W
/-- A block of points that can be written. -/
structure RoomPK (W : World) (g cap : Nat) (T : TypeId) : Prop where
  out : RoomP W g cap T
theorem save_cell {w W : World} {g b o : Nat} {v : Value} (hs : Save g w W) (hne : b ≠ g) (h : w.cell? ⟨b, o, none⟩ = some v) : W.cell? ⟨b, o, none⟩ = some v := by
  have hlt : b < w.heap.size := World.block_lt_of_cell? w _ h
  rw [← h]
  unfold World.cell?
  rw [hs.block b hlt hne]
theorem PtsK.saveP {w W : World} {g b o n : Nat} {L : List Pt} (hs : SaveP g w W) (hne : b ≠ g) (h : PtsK w b o n L) : PtsK W b o n L := ⟨fun i hi => ⟨save_cell hs.out hne (h.out i hi).1, save_cell hs.out hne (h.out i hi).2.1, save_cell hs.out hne (h.out i hi).2.2⟩⟩
theorem RoomPK.lt {W : World} {g cap : Nat} {T : TypeId} (h : RoomPK W g cap T) : g < W.heap.size := by
  obtain ⟨cur, h1, -⟩ := h.out
  exact (Array.getElem?_eq_some_iff.1 h1).1
theorem RoomPK.link {w W : World} {g cap : Nat} {T : TypeId} (l : Link w W) (h : RoomPK w g cap T) : RoomPK W g cap T := by
  obtain ⟨cur, h1, h2⟩ := h.out
  exact ⟨⟨cur, by rw [l.out.block _ (Array.getElem?_eq_some_iff.1 h1).1]; exact h1, h2⟩⟩
theorem RoomPK.saveP {w W : World} {g b cap : Nat} {T : TypeId} (hs : SaveP g w W) (hne : b ≠ g) (h : RoomPK w b cap T) : RoomPK W b cap T := by
  obtain ⟨cur, h1, h2⟩ := h.out
  exact ⟨⟨cur, by rw [hs.out.block b (Array.getElem?_eq_some_iff.1 h1).1 hne]; exact h1, h2⟩⟩
theorem LowK.saveP {w w1 W : World} {g : Nat} (hs : SaveP g w1 W) (hg : w.heap.size ≤ g) (h : LowK w w1) : LowK w W := ⟨hs.out.below h.out hg h.out.size⟩
theorem fP {W : World} {b o n : Nat} {L : List Pt} (h : PtsK W b o n L := by repeat (first | with_reducible assumption | (apply PtsK.link; (· with_reducible assumption)) | (apply PtsK.saveP; (· with_reducible assumption); (· omega)))) : PtsK W b o n L := h
theorem fQ {W : World} {g cap : Nat} {T : TypeId} (h : RoomPK W g cap T := by repeat (first | with_reducible assumption | (apply RoomPK.link; (· with_reducible assumption)) | (apply RoomPK.saveP; (· with_reducible assumption); (· omega)))) : RoomPK W g cap T := h
theorem fLP {w W : World} (h : LowK w W := by repeat (first | with_reducible assumption | with_reducible exact LowK.refl _ | (apply LowK.link; (· with_reducible assumption)) | (apply LowK.saveP; (· with_reducible assumption); (· omega)))) : LowK w W := h
/-- A copy of an argument. -/
structure CopyP (w : World) (k : Nat) (l : List Pt) (e : Ending) (w' : World) : Prop where
  out : ∃ g, e = .returned (.slice (some ⟨g, 0, none⟩) k (k + roomN k)) ∧ w.heap.size ≤ g ∧ g < w'.heap.size ∧ RoomPK w' g (k + roomN k) 45 ∧ PtsK w' g 0 (k + roomN k) (withRoomP l) ∧ PtsK w' g 0 k l ∧ Link w w'
theorem copyP_K (b : Option Addr) (k cap : Nat) (bare : Bool) (l : List Pt) (w0 w : World) (hl : l.length = k) (hn : k ≤ 1000000) (hb : bare = false ∨ 0 < k) (hc : ListP w0 b k l) (hL : LowK w0 w) :
    Calls Try.prog 10 #[.slice b k cap, .bool bare] w (CopyP w k l) := by
  obtain ⟨-, hc⟩ := hc.below hL.out
  subst hl
  exact (toPointS_any b l.length cap bare l w rfl hn hb hc).mono fun e w' ⟨g, he, h1, h2, h3, h4⟩ =>
    ⟨g, he, h1, h2.lt, ⟨h2⟩, ⟨h3⟩, ⟨by
      have h5 := pts_take h3 (Nat.le_add_right l.length (roomN l.length))
      have h6 := withRoomP_take l
      rwa [h6] at h5⟩, Link.mk h4⟩
theorem intactP_K (g g2 k : Nat) (l : List Pt) (w : World) (hn : k ≤ 1000000) (hl : l.length = k) (h1 : PtsK w g 0 (k + roomN k) (withRoomP l)) (h2 : PtsK w g2 0 (k + roomN k) (withRoomP l)) :
    Calls Try.prog 13 #[.slice (some ⟨g, 0, none⟩) k (k + roomN k), .slice (some ⟨g2, 0, none⟩) k (k + roomN k)] w (Ret w (.bool true)) :=
  intactPointS_same g g2 k (withRoomP l) w hn (by rw [withRoomP_length, hl]) h1.out h2.out
theorem eqP_K (g g2 n c c2 : Nat) (L : List Pt) (w : World) (hn : n ≤ 1000000) (hL : L.length = n) (h1 : PtsK w g 0 n L) (h2 : PtsK w g2 0 n L) :
    Calls Try.prog 12 #[.slice (some ⟨g, 0, none⟩) n c, .slice (some ⟨g2, 0, none⟩) n c2] w (Ret w (.bool true)) :=
  eqPointS_same (some ⟨g, 0, none⟩) (some ⟨g2, 0, none⟩) n c c2 L w (by omega) (listP_mk hL h1.out) (listP_mk hL h2.out)
theorem eqPZ_K (c c2 : Nat) (w : World) : Calls Try.prog 12 #[.slice none 0 c, .slice none 0 c2] w (Ret w (.bool true)) :=
  eqPointS_same none none 0 c c2 [] w (by omega) ⟨rfl, fun h => absurd h (Nat.lt_irrefl _)⟩ ⟨rfl, fun h => absurd h (Nat.lt_irrefl _)⟩
structure MarkP (g n : Nat) (M : Int) (w : World) (e : Ending) (w' : World) : Prop where
  out : e = .returned (.int .i64 M) ∧ SaveP g w w' ∧ w.heap.size ≤ w'.heap.size ∧ PtsK w' g 0 n (markL 101 n)
theorem markP_K (g n c cap : Nat) (T : TypeId) (w : World) (hr : RoomPK w g cap T) (hn : n ≤ cap) (h1 : n ≤ 1000000) (M : Int) (hM : ((101 + 3 * n : Nat) : Int) = M) :
    Calls Try.prog 14 #[.slice (some ⟨g, 0, none⟩) n c, .int .i64 101] w (MarkP g n M w) :=
  (mark_101 g n c cap T w hr.out hn h1 M hM).mono fun e w' ⟨h1, h2, h3⟩ => ⟨h1, ⟨h2⟩, h2.size, ⟨h3⟩⟩
theorem heldP_K (g n c : Nat) (w : World) (h1 : n ≤ 1000000) (hp : PtsK w g 0 n (markL 101 n)) (M : Int) (hM : ((101 + 3 * n : Nat) : Int) = M) :
    Calls Try.prog 15 #[.slice (some ⟨g, 0, none⟩) n c, .int .i64 101] w (Ret w (.int .i64 M)) := held_101 g n c w h1 hp.out M hM
theorem markPZ_K (b : Option Addr) (k c : Nat) (q : Int) (w : World) (h : k = 0) : Calls Try.prog 14 #[.slice b k c, .int .i64 q] w fun e w' => e = .returned (.int .i64 q) ∧ w = w' := by
  subst h; exact markPointS_nil b c q w
theorem toPointS_zero (b : Option Addr) (k cap : Nat) (w : World) (h : k = 0) : Calls Try.prog 10 #[.slice b k cap, .bool true] w fun e w' => e = .returned (.slice none 0 0) ∧ w = w' := by
  subst h; exact toPointS_nil cap b w
theorem szP_K (b : Option Addr) (k cap : Nat) (w : World) (h : k ≤ 1000000) : Calls Try.prog 8 #[.slice b k cap, .int .i64 1000000] w fun e w' => e = .returned (.int .i64 (1000000 - (k : Int))) ∧ w = w' := by
  have := szPointS_any b k cap 1000000 w (by omega) (by omega)
  rwa [if_neg (by omega)] at this
/-- A new list of points, not empty, and no error. -/
structure MadeP (w : World) (n : Nat) (R : List Pt) (e : Ending) (w' : World) : Prop where
  out : ∃ g c, e = .returned (.tuple #[.slice (some ⟨g, 0, none⟩) n c, .int .i64 0]) ∧ w.heap.size ≤ g ∧ g < w'.heap.size ∧ n ≤ c ∧ RoomPK w' g c 45 ∧ PtsK w' g 0 n R ∧ Link w w'
theorem ListC.at {W : World} {g n c : Nat} {l : List Pt} (hl : l.length = n) (h : PtsK W g 0 n l) : ListC W (some ⟨g, 0, none⟩) n c l := ⟨hl, .inr ⟨g, rfl, h.out⟩⟩
theorem ListC.nil {W : World} {l : List Pt} {n : Nat} (h : n = 0) (hl : l.length = n) : ListC W none n 0 l := ⟨hl, .inl ⟨rfl, h, rfl⟩⟩
theorem OwnK.made {w W : World} {v : Value} {n : Nat} {l : List Pt} (h : OwnK W w.heap.size 45 3 v n (ptCs l)) (hl : l.length = n) (hn : 0 < n) (hL : LowK w W) : MadeP w n l (.returned (.tuple #[v, .int .i64 0])) W := by
  have h0 := h
  rcases h.out.2 with ⟨_, h0⟩ | ⟨g, cap, cur, rfl, hb, hg, hle, _, hsz, htk⟩
  · omega
  · obtain ⟨g2, cap2, e2, -, -, hP⟩ := h.pts hl hn
    cases e2
    exact ⟨⟨_, _, rfl, hb, (Array.getElem?_eq_some_iff.1 hg).1, hle, ⟨cur, hg, hsz⟩, hP, LowK.lnk hL⟩⟩
end Go.Proofs.Ytcfilpcjgdbbmaa
/- Contracts: the program's DiagonalPoints. (Printed by gendp4.py.) -/
namespace Go.Proofs.Ytcfilpcjgdbbmaa
open Go.RowKit
set_option linter.unusedVariables false
set_option linter.unusedSimpArgs false
theorem pc_b {p : Int} {b : Option Addr} {n c : Nat} {l : List Pt} {v : Int} (w : World) (hv : codeOf p (ptsB p l) = v) (hn : n ≤ 1000000) (h : ListC w b n c l) : Calls Try.prog 34 #[.int .i64 p, .slice b n c] w (Ret w (.int .i64 v)) := by
  rw [← hv]; exact pointsCode_C p b n c l w (by omega) h
/-- One of the numbers 1, 2, 3 deleted. -/
theorem Delete3 (g i : Nat) (I J : Int) (x y : Int) (w : World) (hI : I = (i : Int)) (hJ : J = ((i + 1 : Nat) : Int)) (hi : i < 3) (h : RowK w g #[.int .i64 1, .int .i64 2, .int .i64 3] 3)
    (hy : ([.int .i64 1, .int .i64 2, .int .i64 3] : List Value).take i ++ ([.int .i64 1, .int .i64 2, .int .i64 3] : List Value).drop (i + 1) = [.int .i64 x, .int .i64 y]) :
    Calls Try.prog 36 #[.slice (some ⟨g, 0, none⟩) 3 3, .int .i64 I, .int .i64 J] w
      (fun e w' => e = .returned (.slice (some ⟨g, 0, none⟩) 2 3) ∧ IntsK w' g 0 2 [x, y] ∧ Below g w w') := by
  subst hI hJ
  refine (Delete_int g 3 i (i + 1) 3 [.int .i64 1, .int .i64 2, .int .i64 3] w (by omega) (by omega) (by decide) (by decide) rfl (by intro u hu; simp at hu; rcases hu with rfl | rfl | rfl <;> rfl) (fun j u hu => by rw [cell_of_row w g j _ _ _ h.out]; simpa using hu) (fun j => frozen_of_row w g j _ _ h.out) h.lt).mono ?_
  rintro e w' ⟨he, hcs, hb⟩
  rw [hy] at hcs
  refine ⟨by rw [he, show 3 - (i + 1 - i) = 2 by omega], ⟨fun k hk => ?_⟩, hb⟩
  rw [Nat.zero_add]
  have e : k = 0 ∨ k = 1 := by omega
  rcases e with rfl | rfl
  · exact hcs 0 _ rfl
  · exact hcs 1 _ rfl
theorem OwnK.lowB {W : World} {B B' : Nat} {T : TypeId} {sz n : Nat} {v : Value} {xs : List Value} (h : OwnK W B T sz v n xs) (hB : B' ≤ B) : OwnK W B' T sz v n xs := ⟨own_low h.out hB⟩
set_option maxRecDepth 20000 in
set_option maxHeartbeats 8000000 in
theorem DiagonalPoints_impl_code (p : Int) (b : Option Addr) (n c : Nat) (l : List Pt) (cd : Int) (w : World) (hn : n ≤ 1000000) (h : ListC w b n c l) (hv : codeOf p (ptsB p l) = cd) (hc : ¬ cd = 0) :
    Calls Try.prog 11 #[.int .i64 p, .slice b n c] w (Ret w (.tuple #[.slice none 0 0, .int .i64 cd])) := by
  have HV := Lib.hid hv
  have H := Lib.hid h
  clear hv h
  go_enter Try.func11, Try.ntmps11
  go_wp2_with (first | (refine wl_load ?_) | (refine wl_store ?_) | (refine wl_build ?_) | (refine wl_slice ?_) | (refine wl_append ?_; intro v' w' ho hg hb; have hs := hg.size; (try simp at hs); (try rw [ptCs_end] at ho); (try rw [ints_end] at ho); (try simp only [Nat.zero_add, Nat.reduceAdd, List.nil_append, List.cons_append] at ho)) | (go_at_call 34; (with_reducible refine (pc_b _ HV.out hn H.out).mono ?_); rintro e w' ⟨rfl, hb⟩; have hl := Link.mk hb; have hs := hb.size; (try simp at hs); clear hb))
  (apply ret_two Try.results11; (conv => lhs; whnf); (conv => lhs; whnf); exact rfl)
  exact ret_ret rfl findLow
set_option maxRecDepth 20000 in
set_option maxHeartbeats 8000000 in
theorem DiagonalPoints_impl_len (p : Int) (b : Option Addr) (n c : Nat) (l : List Pt) (w : World) (hn : n ≤ 1000000) (h : ListC w b n c l) (hv : codeOf p (ptsB p l) = 0) (hc : ¬ n = 4) :
    Calls Try.prog 11 #[.int .i64 p, .slice b n c] w (Ret w (.tuple #[.slice none 0 0, .int .i64 2])) := by
  have HV := Lib.hid hv
  have H := Lib.hid h
  have hc4 : ¬ (n : Int) = 4 := by omega
  clear hv h
  go_enter Try.func11, Try.ntmps11
  go_wp2_with (first | (refine wl_load ?_) | (refine wl_store ?_) | (refine wl_build ?_) | (refine wl_slice ?_) | (refine wl_append ?_; intro v' w' ho hg hb; have hs := hg.size; (try simp at hs); (try rw [ptCs_end] at ho); (try rw [ints_end] at ho); (try simp only [Nat.zero_add, Nat.reduceAdd, List.nil_append, List.cons_append] at ho)) | (go_at_call 34; (with_reducible refine (pc_b _ HV.out hn H.out).mono ?_); rintro e w' ⟨rfl, hb⟩; have hl := Link.mk hb; have hs := hb.size; (try simp at hs); clear hb))
  (apply ret_two Try.results11; (conv => lhs; whnf); (conv => lhs; whnf); exact rfl)
  exact ret_ret rfl findLow
set_option maxRecDepth 20000 in
set_option maxHeartbeats 8000000 in
theorem DiagonalPoints_impl_fr (p : Int) (g cap : Nat) (a b c d : Pt) (w : World) (hp : prB p = true) (ha : In13 a) (hb : In13 b) (hc : In13 c) (hd : In13 d) (hP : PtsK w g 0 4 [a, b, c, d]) (hv : codeOf p (ptsB p [a, b, c, d]) = 0) (hf : frB p a b c d = false) :
    Calls Try.prog 11 #[.int .i64 p, .slice (some ⟨g, 0, none⟩) 4 cap] w (Ret w (.tuple #[.slice none 0 0, .int .i64 5])) := by
  have HV := Lib.hid hv
  have HF := Lib.hid hf
  clear hv hf
  go_enter Try.func11, Try.ntmps11
  go_wp2_with (first | (refine wl_load ?_) | (refine wl_store ?_) | (refine wl_build ?_) | (refine wl_slice ?_) | (refine wl_append ?_; intro v' w' ho hg hb; have hs := hg.size; (try simp at hs); (try rw [ptCs_end] at ho); (try rw [ints_end] at ho); (try simp only [Nat.zero_add, Nat.reduceAdd, List.nil_append, List.cons_append] at ho)) | (go_at_call 34; (with_reducible refine (pc_b _ HV.out (by decide) (ListC.at (n := 4) rfl findPts)).mono ?_); rintro e w' ⟨rfl, hb⟩; have hl := Link.mk hb; have hs := hb.size; (try simp at hs); clear hb) | (go_at_call 35; (with_reducible refine (isFrame_4 p _ _ a b c d _ hp ha hb hc hd findPts false HF.out).mono ?_); rintro e w' ⟨rfl, hb⟩; have hl := Link.mk hb; have hs := hb.size; (try simp at hs); clear hb))
  (apply ret_two Try.results11; (conv => lhs; whnf); (conv => lhs; whnf); exact rfl)
  exact ret_ret rfl findLow
set_option pp.deepTerms false
set_option pp.deepTerms.threshold 10
set_option maxRecDepth 20000 in
set_option maxHeartbeats 8000000 in
theorem DiagonalPoints_impl_yes (p : Int) (g cap : Nat) (a b c d : Pt) (w : World) (hp : prB p = true) (ha : In13 a) (hb : In13 b) (hc : In13 c) (hd : In13 d) (hP : PtsK w g 0 4 [a, b, c, d]) (hv : codeOf p (ptsB p [a, b, c, d]) = 0) (hf : frB p a b c d = true) :
    Calls Try.prog 11 #[.int .i64 p, .slice (some ⟨g, 0, none⟩) 4 cap] w (MadeP w 3 (diag1 p a b c d)) := by
  have HV := Lib.hid hv
  have HF := Lib.hid hf
  have hgl := World.block_lt_of_cell? w _ (hP.out 0 (by decide)).1
  have hpn : p ≤ 13 := (prB_bd hp).2
  clear hv hf
  go_enter Try.func11, Try.ntmps11
  go_wp2_with (first | (refine wl_load ?_) | (refine wl_store ?_) | (refine wl_build ?_) | (refine wl_slice ?_) | (refine wl_append ?_; intro v' w' ho hg hb; have hs := hg.size; (try simp at hs); (try rw [ptCs_end] at ho); (try rw [ints_end] at ho); (try simp only [Nat.zero_add, Nat.reduceAdd, List.nil_append, List.cons_append] at ho)) | (go_at_call 34; (with_reducible refine (pc_b _ HV.out (by decide) (ListC.at (n := 4) rfl findPts)).mono ?_); rintro e w' ⟨rfl, hb⟩; have hl := Link.mk hb; have hs := hb.size; (try simp at hs); clear hb) | (go_at_call 35; (with_reducible refine (isFrame_4 p _ _ a b c d _ hp ha hb hc hd findPts true HF.out).mono ?_); rintro e w' ⟨rfl, hb⟩; have hl := Link.mk hb; have hs := hb.size; (try simp at hs); clear hb))
  obtain ⟨B, hB⟩ : ∃ B, w'.heap.size = B := ⟨_, rfl⟩
  refine wp_loop_rounds 4 ?_
  rw [hB]
  have hBw : w.heap.size ≤ B := by have := LowK.size (w := w) (W := w') findLow; omega
  refine at_rounds _ (fun V => LowK w V ∧ PtsK V g 0 4 [a, b, c, d] ∧ OwnK V B 45 3 (.slice (some ⟨B, 0, none⟩) 0 0) 0 (ptCs []) ∧ B ≤ V.heap.size) ⟨findLow, findPts, OwnK.empty findRow (by omega), (by simp; omega)⟩ ?_
  clear hP hB
  rintro V ⟨hV, hP, hO, hsV⟩
  have hOf := Off.above hO (Nat.le_refl V.heap.size)
  rw [rounds_succ]
  go_wp2_with (first | (refine wl_load ?_) | (refine wl_store ?_) | (refine wl_build ?_) | (refine wl_slice ?_) | (refine wl_append ?_; intro v' w' ho hg hb; have hs := hg.size; (try simp at hs); (try rw [ptCs_end] at ho); (try rw [ints_end] at ho); (try simp only [Nat.zero_add, Nat.reduceAdd, List.nil_append, List.cons_append] at ho)) | (go_at_call 36; (with_reducible refine (Delete3 V.heap.size 0 _ _ 2 3 _ (by first | rfl | simp) (by first | rfl | simp) (by decide) findRow rfl).mono ?_); rintro e w2 ⟨rfl, hI2, hbd⟩; have hVV : LowK V w2 := LowK.del (LowK.alloc (LowK.refl V) _) hbd (Nat.le_refl _); have hP2 := PtsK.link (LowK.lnk hVV) hP; have hO2 := OwnK.link (LowK.lnk hVV) hO; have hV2 := LowK.link (LowK.lnk hVV) hV; have hs2 := hbd.size; (try simp at hs2)))
  refine region_CHA (id := 14) 28 [26, 27] (fun W => PtsK W g 0 4 [a, b, c, d] ∧ IntsK W V.heap.size 0 2 [2, 3]) (.k (.k (.k (.k (.k (.k (.k (.k (.k (.k (.k (.k (.k (.k (.k (.k (.k (.k (.k (.k (.k (.k (.k (.k (.k (.k (.d (.d (.d .n))))))))))))))))))))))))))))) (.d (.d (.d (.d (.d (.d (.d (.d (.d (.d (.d (.d (.d (.d (.d (.d (.d (.d (.d (.d (.d (.d (.d (.d (.d (.d (.k (.k (.d .n))))))))))))))))))))))))))))) (fun W W' h l => ⟨h.1.link l, h.2.link l⟩) ⟨hP2, hI2⟩ ?_
  apply Exists.intro
  refine ⟨fun W0 hk G => ?_, ?_⟩
  · obtain ⟨k1, k2⟩ := hk
    repeat (first | go_big_quiet_skip | (go_big_quiet_want; first | (refine q_load ?_; simp only [Act.put, List.setIfInBounds_toArray, List.set_cons_zero, List.set_cons_succ]; go_big_quiet_on) | (go_big_quiet_op; first | go_big_quiet_on | (apply Exists.intro; refine ⟨fun g => ?_, ?_⟩; (· (have hl := growL g; first | (go_at_call 38; with_reducible exact grow_ret (join_P _ hp (by first | assumption | exact in13_crs (by assumption)) (by first | assumption | exact in13_crs (by assumption)))) | (go_at_call 37; with_reducible exact grow_ret (meet_P _ hp (by first | assumption | exact in13_crs (by assumption)) (by first | assumption | exact in13_crs (by assumption)))))); go_big_quiet_on))))
    exact rfl
  refine ch_step fun W0 hl0 => ?_
  have hs3 := hl0.out.size
  (try simp at hs3)
  go_wp2_with (first | (refine wl_load ?_) | (refine wl_store ?_) | (refine wl_build ?_) | (refine wl_slice ?_) | (refine wl_append ?_; intro v' w' ho hg hb; have hs := hg.size; (try simp at hs); (try rw [ptCs_end] at ho); (try rw [ints_end] at ho); (try simp only [Nat.zero_add, Nat.reduceAdd, List.nil_append, List.cons_append] at ho)))
  refine ⟨rfl, ⟨_, rfl⟩, ⟨findPts, findInts⟩, ?_⟩
  refine ch_step fun W1 hl1 => ?_
  have hs3 := hl1.out.size
  (try simp at hs3)
  go_wp2_with (first | (refine wl_load ?_) | (refine wl_store ?_) | (refine wl_build ?_) | (refine wl_slice ?_) | (refine wl_append ?_; intro v' w' ho hg hb; have hs := hg.size; (try simp at hs); (try rw [ptCs_end] at ho); (try rw [ints_end] at ho); (try simp only [Nat.zero_add, Nat.reduceAdd, List.nil_append, List.cons_append] at ho)))
  refine ⟨rfl, ⟨_, rfl⟩, ⟨findPts, findInts⟩, ?_⟩
  refine ch_nil fun W5 hl5 => ?_
  have hs5 := hl5.out.size
  (try simp at hs5)
  (try simp only [List.drop_succ_cons, List.drop_zero])
  go_wp2_with (first | (refine wl_load ?_) | (refine wl_store ?_) | (refine wl_build ?_) | (refine wl_slice ?_) | (refine wl_append ?_; intro v' w' ho hg hb; have hs := hg.size; (try simp at hs); (try rw [ptCs_end] at ho); (try rw [ints_end] at ho); (try simp only [Nat.zero_add, Nat.reduceAdd, List.nil_append, List.cons_append] at ho)))
  refine at_rounds _ (fun V => LowK w V ∧ PtsK V g 0 4 [a, b, c, d] ∧ OwnK V B 45 3 _ 1 (ptCs [(crsN p (crsN p a b) (crsN p c d))]) ∧ B ≤ V.heap.size) ⟨findLow, findPts, findOwn, (by omega)⟩ ?_
  clear hP hV hO hsV hP2 hV2 hO2 hVV hI2 hOf
  rintro V ⟨hV, hP, hO, hsV⟩
  have hOf := Off.above hO (Nat.le_refl V.heap.size)
  rw [rounds_succ]
  go_wp2_with (first | (refine wl_load ?_) | (refine wl_store ?_) | (refine wl_build ?_) | (refine wl_slice ?_) | (refine wl_append ?_; intro v' w' ho hg hb; have hs := hg.size; (try simp at hs); (try rw [ptCs_end] at ho); (try rw [ints_end] at ho); (try simp only [Nat.zero_add, Nat.reduceAdd, List.nil_append, List.cons_append] at ho)) | (go_at_call 36; (with_reducible refine (Delete3 V.heap.size 1 _ _ 1 3 _ (by first | rfl | simp) (by first | rfl | simp) (by decide) findRow rfl).mono ?_); rintro e w2 ⟨rfl, hI2, hbd⟩; have hVV : LowK V w2 := LowK.del (LowK.alloc (LowK.refl V) _) hbd (Nat.le_refl _); have hP2 := PtsK.link (LowK.lnk hVV) hP; have hO2 := OwnK.link (LowK.lnk hVV) hO; have hV2 := LowK.link (LowK.lnk hVV) hV; have hs2 := hbd.size; (try simp at hs2)))
  refine region_CHA (id := 14) 28 [26, 27] (fun W => PtsK W g 0 4 [a, b, c, d] ∧ IntsK W V.heap.size 0 2 [1, 3]) (.k (.k (.k (.k (.k (.k (.k (.k (.k (.k (.k (.k (.k (.k (.k (.k (.k (.k (.k (.k (.k (.k (.k (.k (.k (.k (.d (.d (.d .n))))))))))))))))))))))))))))) (.d (.d (.d (.d (.d (.d (.d (.d (.d (.d (.d (.d (.d (.d (.d (.d (.d (.d (.d (.d (.d (.d (.d (.d (.d (.d (.k (.k (.d .n))))))))))))))))))))))))))))) (fun W W' h l => ⟨h.1.link l, h.2.link l⟩) ⟨hP2, hI2⟩ ?_
  apply Exists.intro
  refine ⟨fun W0 hk G => ?_, ?_⟩
  · obtain ⟨k1, k2⟩ := hk
    repeat (first | go_big_quiet_skip | (go_big_quiet_want; first | (refine q_load ?_; simp only [Act.put, List.setIfInBounds_toArray, List.set_cons_zero, List.set_cons_succ]; go_big_quiet_on) | (go_big_quiet_op; first | go_big_quiet_on | (apply Exists.intro; refine ⟨fun g => ?_, ?_⟩; (· (have hl := growL g; first | (go_at_call 38; with_reducible exact grow_ret (join_P _ hp (by first | assumption | exact in13_crs (by assumption)) (by first | assumption | exact in13_crs (by assumption)))) | (go_at_call 37; with_reducible exact grow_ret (meet_P _ hp (by first | assumption | exact in13_crs (by assumption)) (by first | assumption | exact in13_crs (by assumption)))))); go_big_quiet_on))))
    exact rfl
  refine ch_step fun W0 hl0 => ?_
  have hs3 := hl0.out.size
  (try simp at hs3)
  go_wp2_with (first | (refine wl_load ?_) | (refine wl_store ?_) | (refine wl_build ?_) | (refine wl_slice ?_) | (refine wl_append ?_; intro v' w' ho hg hb; have hs := hg.size; (try simp at hs); (try rw [ptCs_end] at ho); (try rw [ints_end] at ho); (try simp only [Nat.zero_add, Nat.reduceAdd, List.nil_append, List.cons_append] at ho)))
  refine ⟨rfl, ⟨_, rfl⟩, ⟨findPts, findInts⟩, ?_⟩
  refine ch_step fun W1 hl1 => ?_
  have hs3 := hl1.out.size
  (try simp at hs3)
  go_wp2_with (first | (refine wl_load ?_) | (refine wl_store ?_) | (refine wl_build ?_) | (refine wl_slice ?_) | (refine wl_append ?_; intro v' w' ho hg hb; have hs := hg.size; (try simp at hs); (try rw [ptCs_end] at ho); (try rw [ints_end] at ho); (try simp only [Nat.zero_add, Nat.reduceAdd, List.nil_append, List.cons_append] at ho)))
  refine ⟨rfl, ⟨_, rfl⟩, ⟨findPts, findInts⟩, ?_⟩
  refine ch_nil fun W5 hl5 => ?_
  have hs5 := hl5.out.size
  (try simp at hs5)
  (try simp only [List.drop_succ_cons, List.drop_zero])
  go_wp2_with (first | (refine wl_load ?_) | (refine wl_store ?_) | (refine wl_build ?_) | (refine wl_slice ?_) | (refine wl_append ?_; intro v' w' ho hg hb; have hs := hg.size; (try simp at hs); (try rw [ptCs_end] at ho); (try rw [ints_end] at ho); (try simp only [Nat.zero_add, Nat.reduceAdd, List.nil_append, List.cons_append] at ho)))
  refine at_rounds _ (fun V => LowK w V ∧ PtsK V g 0 4 [a, b, c, d] ∧ OwnK V B 45 3 _ 2 (ptCs [(crsN p (crsN p a b) (crsN p c d)), (crsN p (crsN p a c) (crsN p b d))]) ∧ B ≤ V.heap.size) ⟨findLow, findPts, findOwn, (by omega)⟩ ?_
  clear hP hV hO hsV hP2 hV2 hO2 hVV hI2 hOf
  rintro V ⟨hV, hP, hO, hsV⟩
  have hOf := Off.above hO (Nat.le_refl V.heap.size)
  rw [rounds_succ]
  go_wp2_with (first | (refine wl_load ?_) | (refine wl_store ?_) | (refine wl_build ?_) | (refine wl_slice ?_) | (refine wl_append ?_; intro v' w' ho hg hb; have hs := hg.size; (try simp at hs); (try rw [ptCs_end] at ho); (try rw [ints_end] at ho); (try simp only [Nat.zero_add, Nat.reduceAdd, List.nil_append, List.cons_append] at ho)) | (go_at_call 36; (with_reducible refine (Delete3 V.heap.size 2 _ _ 1 2 _ (by first | rfl | simp) (by first | rfl | simp) (by decide) findRow rfl).mono ?_); rintro e w2 ⟨rfl, hI2, hbd⟩; have hVV : LowK V w2 := LowK.del (LowK.alloc (LowK.refl V) _) hbd (Nat.le_refl _); have hP2 := PtsK.link (LowK.lnk hVV) hP; have hO2 := OwnK.link (LowK.lnk hVV) hO; have hV2 := LowK.link (LowK.lnk hVV) hV; have hs2 := hbd.size; (try simp at hs2)))
  refine region_CHA (id := 14) 28 [26, 27] (fun W => PtsK W g 0 4 [a, b, c, d] ∧ IntsK W V.heap.size 0 2 [1, 2]) (.k (.k (.k (.k (.k (.k (.k (.k (.k (.k (.k (.k (.k (.k (.k (.k (.k (.k (.k (.k (.k (.k (.k (.k (.k (.k (.d (.d (.d .n))))))))))))))))))))))))))))) (.d (.d (.d (.d (.d (.d (.d (.d (.d (.d (.d (.d (.d (.d (.d (.d (.d (.d (.d (.d (.d (.d (.d (.d (.d (.d (.k (.k (.d .n))))))))))))))))))))))))))))) (fun W W' h l => ⟨h.1.link l, h.2.link l⟩) ⟨hP2, hI2⟩ ?_
  apply Exists.intro
  refine ⟨fun W0 hk G => ?_, ?_⟩
  · obtain ⟨k1, k2⟩ := hk
    repeat (first | go_big_quiet_skip | (go_big_quiet_want; first | (refine q_load ?_; simp only [Act.put, List.setIfInBounds_toArray, List.set_cons_zero, List.set_cons_succ]; go_big_quiet_on) | (go_big_quiet_op; first | go_big_quiet_on | (apply Exists.intro; refine ⟨fun g => ?_, ?_⟩; (· (have hl := growL g; first | (go_at_call 38; with_reducible exact grow_ret (join_P _ hp (by first | assumption | exact in13_crs (by assumption)) (by first | assumption | exact in13_crs (by assumption)))) | (go_at_call 37; with_reducible exact grow_ret (meet_P _ hp (by first | assumption | exact in13_crs (by assumption)) (by first | assumption | exact in13_crs (by assumption)))))); go_big_quiet_on))))
    exact rfl
  refine ch_step fun W0 hl0 => ?_
  have hs3 := hl0.out.size
  (try simp at hs3)
  go_wp2_with (first | (refine wl_load ?_) | (refine wl_store ?_) | (refine wl_build ?_) | (refine wl_slice ?_) | (refine wl_append ?_; intro v' w' ho hg hb; have hs := hg.size; (try simp at hs); (try rw [ptCs_end] at ho); (try rw [ints_end] at ho); (try simp only [Nat.zero_add, Nat.reduceAdd, List.nil_append, List.cons_append] at ho)))
  refine ⟨rfl, ⟨_, rfl⟩, ⟨findPts, findInts⟩, ?_⟩
  refine ch_step fun W1 hl1 => ?_
  have hs3 := hl1.out.size
  (try simp at hs3)
  go_wp2_with (first | (refine wl_load ?_) | (refine wl_store ?_) | (refine wl_build ?_) | (refine wl_slice ?_) | (refine wl_append ?_; intro v' w' ho hg hb; have hs := hg.size; (try simp at hs); (try rw [ptCs_end] at ho); (try rw [ints_end] at ho); (try simp only [Nat.zero_add, Nat.reduceAdd, List.nil_append, List.cons_append] at ho)))
  refine ⟨rfl, ⟨_, rfl⟩, ⟨findPts, findInts⟩, ?_⟩
  refine ch_nil fun W5 hl5 => ?_
  have hs5 := hl5.out.size
  (try simp at hs5)
  (try simp only [List.drop_succ_cons, List.drop_zero])
  go_wp2_with (first | (refine wl_load ?_) | (refine wl_store ?_) | (refine wl_build ?_) | (refine wl_slice ?_) | (refine wl_append ?_; intro v' w' ho hg hb; have hs := hg.size; (try simp at hs); (try rw [ptCs_end] at ho); (try rw [ints_end] at ho); (try simp only [Nat.zero_add, Nat.reduceAdd, List.nil_append, List.cons_append] at ho)))
  refine at_rounds _ (fun V => LowK w V ∧ PtsK V g 0 4 [a, b, c, d] ∧ OwnK V B 45 3 _ 3 (ptCs [(crsN p (crsN p a b) (crsN p c d)), (crsN p (crsN p a c) (crsN p b d)), (crsN p (crsN p a d) (crsN p b c))]) ∧ B ≤ V.heap.size) ⟨findLow, findPts, findOwn, (by omega)⟩ ?_
  clear hP hV hO hsV hP2 hV2 hO2 hVV hI2 hOf
  rintro V ⟨hV, hP, hO, hsV⟩
  rw [rounds_succ]
  go_wp2_with (first | (refine wl_load ?_) | (refine wl_store ?_) | (refine wl_build ?_) | (refine wl_slice ?_) | (refine wl_append ?_; intro v' w' ho hg hb; have hs := hg.size; (try simp at hs); (try rw [ptCs_end] at ho); (try rw [ints_end] at ho); (try simp only [Nat.zero_add, Nat.reduceAdd, List.nil_append, List.cons_append] at ho)))
  (apply ret_two Try.results11; (conv => lhs; whnf); (conv => lhs; whnf); exact rfl)
  exact OwnK.made (OwnK.lowB hO hBw) rfl (by decide) hV
end Go.Proofs.Ytcfilpcjgdbbmaa
/- The law FnExactDiagonalPoints: walked, from what the two sides do. -/
namespace Go.Proofs.Ytcfilpcjgdbbmaa
open Go.RowKit
set_option linter.unusedVariables false
set_option linter.unusedSimpArgs false
set_option maxHeartbeats 4000000 in
theorem FnExactDiagonalPoints_big (p : Int) (b : Option Addr) (k cap : Nat) (w : World) (hk : 1000000 < k) (hk2 : k ≤ 9223372036854775807) :
    Calls Try.prog 4 #[.int .i64 p, .slice b k cap] w (Ret w (.bool true)) := by
  have HZ := Lib.hid (fun (W : World) => szPointS_any b k cap 1000000 W (by omega) hk2)
  rw [if_pos (by omega)] at HZ
  go_enter Try.func4, Try.ntmps4
  go_wp2_with (go_at_call 8; refine (HZ.out _).mono ?_; rintro e w' ⟨rfl, rfl⟩)
  go_ret
  exact ⟨rfl, Below.refl _ _⟩
set_option maxRecDepth 20000 in
set_option maxHeartbeats 8000000 in
theorem FnExactDiagonalPoints_pos_made (p : Int) (b : Option Addr) (k cap : Nat) (l : List Pt) (w : World) (hl : l.length = k) (hk : k ≤ 1000000) (hc : ListP w b k l) (h0 : 0 < k) (Q : Nat) (R : List Pt) (hRL0 : R.length = Q) (hQ0 : 0 < Q) (hQ1 : Q ≤ 1000000)
    (HS0 : ∀ (W : World) (b : Option Addr) (c : Nat), ListC W b k c l → Calls Try.prog 9 #[.int .i64 p, .slice b k c] W (MadeP W Q R)) (HI1 : ∀ (W : World) (b : Option Addr) (c : Nat), ListC W b k c l → Calls Try.prog 11 #[.int .i64 p, .slice b k c] W (MadeP W Q R)) :
    Calls Try.prog 4 #[.int .i64 p, .slice b k cap] w (Ret w (.bool true)) := by
  have hz1 : ¬ (1000000 - (k : Int)) < 0 := by omega
  have hk0 : ((k : Int) == 0) = false := beqf (by omega)
  have HS := Lib.hid HS0
  have HI := Lib.hid HI1
  have HRL := Lib.hid hRL0
  clear hRL0
  have HL := Lib.hid hl
  have HC := Lib.hid hc
  have H0 := Lib.hid h0
  have hz : ¬ (1000000 : Int) < (k : Int) := by omega
  obtain ⟨Mk, hMk⟩ : ∃ M : Int, ((101 + 3 * k : Nat) : Int) = M := ⟨_, rfl⟩
  have hMk0 : ¬ Mk < 0 := by omega
  have HMk := Lib.hid hMk
  clear hMk
  obtain ⟨MQ, hMQ⟩ : ∃ M : Int, ((101 + 3 * Q : Nat) : Int) = M := ⟨_, rfl⟩
  have hMQ0 : ¬ MQ < 0 := by omega
  have HMQ := Lib.hid hMQ
  clear hMQ
  clear hl hc HS0 HI1
  go_enter Try.func4, Try.ntmps4
  go_wp2_with (first
    | (go_at_call 8; (with_reducible refine (szP_K _ k _ _ hk).mono ?_); rintro e w' ⟨rfl, rfl⟩)
    | (go_at_call 10; (with_reducible refine (copyP_K b k cap _ l w _ HL.out hk (.inr h0) HC.out fLP).mono ?_); rintro e w' ⟨g, rfl, hg1, hg2, hR, hp, hI, hl'⟩; have hs := hl'.out.size)
    | (go_at_call 9; (with_reducible refine (HS.out _ _ _ (ListC.at HL.out fP)).mono ?_); rintro e w' ⟨g, c, rfl, hg1, hg2, hg3, hR, hI, hl'⟩; have hs := hl'.out.size)
    | (go_at_call 11; (with_reducible refine (HI.out _ _ _ (ListC.at HL.out fP)).mono ?_); rintro e w' ⟨g, c, rfl, hg1, hg2, hg3, hR, hI, hl'⟩; have hs := hl'.out.size)
    | (go_at_call 12; (with_reducible refine (eqP_K _ _ Q _ _ R _ hQ1 HRL.out fP fP).mono ?_); rintro e w' ⟨rfl, hb⟩; have hl' := Link.mk hb; have hs := hb.size; clear hb)
    | (go_at_call 13; (with_reducible refine (intactP_K _ _ k l _ hk HL.out fP fP).mono ?_); rintro e w' ⟨rfl, hb⟩; have hl' := Link.mk hb; have hs := hb.size; clear hb)
    | (go_at_call 14; (with_reducible refine (markP_K _ k _ _ _ _ fQ (by omega) hk Mk HMk.out).mono ?_); rintro e w' ⟨rfl, hS, hs, hI⟩)
    | (go_at_call 14; (with_reducible refine (markP_K _ Q _ _ _ _ fQ (by omega) hQ1 MQ HMQ.out).mono ?_); rintro e w' ⟨rfl, hS, hs, hI⟩)
    | (go_at_call 15; (with_reducible refine (heldP_K _ Q _ _ hQ1 fP MQ HMQ.out).mono ?_); rintro e w' ⟨rfl, hb⟩; have hl' := Link.mk hb; have hs := hb.size; clear hb))
  go_ret
  exact ⟨rfl, LowK.out fLP⟩
set_option maxRecDepth 20000 in
set_option maxHeartbeats 8000000 in
theorem FnExactDiagonalPoints_pos_no (p : Int) (b : Option Addr) (k cap : Nat) (l : List Pt) (w : World) (hl : l.length = k) (hk : k ≤ 1000000) (hc : ListP w b k l) (h0 : 0 < k) (cd : Int)
    (HS0 : ∀ (W : World) (b : Option Addr) (c : Nat), ListC W b k c l → Calls Try.prog 9 #[.int .i64 p, .slice b k c] W (Ret W (.tuple #[.slice none 0 0, .int .i64 cd]))) (HI1 : ∀ (W : World) (b : Option Addr) (c : Nat), ListC W b k c l → Calls Try.prog 11 #[.int .i64 p, .slice b k c] W (Ret W (.tuple #[.slice none 0 0, .int .i64 cd]))) :
    Calls Try.prog 4 #[.int .i64 p, .slice b k cap] w (Ret w (.bool true)) := by
  have hz1 : ¬ (1000000 - (k : Int)) < 0 := by omega
  have hk0 : ((k : Int) == 0) = false := beqf (by omega)
  have HS := Lib.hid HS0
  have HI := Lib.hid HI1
  have HL := Lib.hid hl
  have HC := Lib.hid hc
  have H0 := Lib.hid h0
  have hz : ¬ (1000000 : Int) < (k : Int) := by omega
  obtain ⟨Mk, hMk⟩ : ∃ M : Int, ((101 + 3 * k : Nat) : Int) = M := ⟨_, rfl⟩
  have hMk0 : ¬ Mk < 0 := by omega
  have HMk := Lib.hid hMk
  clear hMk
  clear hl hc HS0 HI1
  go_enter Try.func4, Try.ntmps4
  go_wp2_with (first
    | (go_at_call 8; (with_reducible refine (szP_K _ k _ _ hk).mono ?_); rintro e w' ⟨rfl, rfl⟩)
    | (go_at_call 10; (with_reducible refine (copyP_K b k cap _ l w _ HL.out hk (.inr h0) HC.out fLP).mono ?_); rintro e w' ⟨g, rfl, hg1, hg2, hR, hp, hI, hl'⟩; have hs := hl'.out.size)
    | (go_at_call 9; (with_reducible refine (HS.out _ _ _ (ListC.at HL.out fP)).mono ?_); rintro e w' ⟨rfl, hb⟩; have hl' := Link.mk hb; have hs := hb.size; clear hb)
    | (go_at_call 11; (with_reducible refine (HI.out _ _ _ (ListC.at HL.out fP)).mono ?_); rintro e w' ⟨rfl, hb⟩; have hl' := Link.mk hb; have hs := hb.size; clear hb)
    | (go_at_call 12; (with_reducible refine (eqPZ_K _ _ _).mono ?_); rintro e w' ⟨rfl, hb⟩; have hl' := Link.mk hb; have hs := hb.size; clear hb)
    | (go_at_call 13; (with_reducible refine (intactP_K _ _ k l _ hk HL.out fP fP).mono ?_); rintro e w' ⟨rfl, hb⟩; have hl' := Link.mk hb; have hs := hb.size; clear hb)
    | (go_at_call 14; (with_reducible refine (markP_K _ k _ _ _ _ fQ (by omega) hk Mk HMk.out).mono ?_); rintro e w' ⟨rfl, hS, hs, hI⟩)
    | (go_at_call 14; (with_reducible refine (markPointS_nil _ _ 101 _).mono ?_); rintro e w' ⟨rfl, rfl⟩)
    | (go_at_call 15; (with_reducible refine (heldPointS_nil _ _ 101 _).mono ?_); rintro e w' ⟨rfl, rfl⟩))
  go_ret
  exact ⟨rfl, LowK.out fLP⟩
set_option maxRecDepth 20000 in
set_option maxHeartbeats 8000000 in
theorem FnExactDiagonalPoints_zero_no (p : Int) (b : Option Addr) (k cap : Nat) (l : List Pt) (w : World) (hl : l.length = k) (hk : k ≤ 1000000) (hc : ListP w b k l) (h0 : k = 0) (cd : Int)
    (HS0 : ∀ (W : World) (b : Option Addr) (c : Nat), ListC W b k c l → Calls Try.prog 9 #[.int .i64 p, .slice b k c] W (Ret W (.tuple #[.slice none 0 0, .int .i64 cd]))) (HI1 : ∀ (W : World) (b : Option Addr) (c : Nat), ListC W b k c l → Calls Try.prog 11 #[.int .i64 p, .slice b k c] W (Ret W (.tuple #[.slice none 0 0, .int .i64 cd]))) :
    Calls Try.prog 4 #[.int .i64 p, .slice b k cap] w (Ret w (.bool true)) := by
  have hz1 : ¬ (1000000 - (k : Int)) < 0 := by omega
  have hk0 : ((k : Int) == 0) = true := by simp [h0]
  have HS := Lib.hid HS0
  have HI := Lib.hid HI1
  have HI0 : Hid (∀ W : World, Calls Try.prog 11 #[.int .i64 p, .slice none 0 0] W (Ret W (.tuple #[.slice none 0 0, .int .i64 cd]))) := Lib.hid (fun W => by have := HI1 W none 0 (ListC.nil h0 hl); rw [h0] at this; exact this)
  have HL := Lib.hid hl
  have HC := Lib.hid hc
  have H0 := Lib.hid h0
  have hz : ¬ (1000000 : Int) < (k : Int) := by omega
  clear hl hc HS0 HI1 h0
  go_enter Try.func4, Try.ntmps4
  go_wp2_with (first
    | (go_at_call 8; (with_reducible refine (szP_K _ k _ _ hk).mono ?_); rintro e w' ⟨rfl, rfl⟩)
    | (go_at_call 10; (with_reducible refine (copyP_K b k cap false l w _ HL.out hk (.inl rfl) HC.out fLP).mono ?_); rintro e w' ⟨g, rfl, hg1, hg2, hR, hp, hI, hl'⟩; have hs := hl'.out.size)
    | (go_at_call 10; (with_reducible refine (toPointS_zero b k cap _ H0.out).mono ?_); rintro e w' ⟨rfl, rfl⟩)
    | (go_at_call 9; (with_reducible refine (HS.out _ _ _ (ListC.at HL.out fP)).mono ?_); rintro e w' ⟨rfl, hb⟩; have hl' := Link.mk hb; have hs := hb.size; clear hb)
    | (go_at_call 11; (with_reducible refine (HI.out _ _ _ (ListC.at HL.out fP)).mono ?_); rintro e w' ⟨rfl, hb⟩; have hl' := Link.mk hb; have hs := hb.size; clear hb)
    | (go_at_call 11; (with_reducible refine (HI0.out _).mono ?_); rintro e w' ⟨rfl, hb⟩; have hl' := Link.mk hb; have hs := hb.size; clear hb)
    | (go_at_call 12; (with_reducible refine (eqPZ_K _ _ _).mono ?_); rintro e w' ⟨rfl, hb⟩; have hl' := Link.mk hb; have hs := hb.size; clear hb)
    | (go_at_call 13; (with_reducible refine (intactP_K _ _ k l _ hk HL.out fP fP).mono ?_); rintro e w' ⟨rfl, hb⟩; have hl' := Link.mk hb; have hs := hb.size; clear hb)
    | (go_at_call 14; (with_reducible refine (markPZ_K _ k _ 101 _ H0.out).mono ?_); rintro e w' ⟨rfl, rfl⟩)
    | (go_at_call 14; (with_reducible refine (markPointS_nil _ _ 101 _).mono ?_); rintro e w' ⟨rfl, rfl⟩)
    | (go_at_call 15; (with_reducible refine (heldPointS_nil _ _ 101 _).mono ?_); rintro e w' ⟨rfl, rfl⟩))
  go_ret
  exact ⟨rfl, LowK.out fLP⟩
end Go.Proofs.Ytcfilpcjgdbbmaa
