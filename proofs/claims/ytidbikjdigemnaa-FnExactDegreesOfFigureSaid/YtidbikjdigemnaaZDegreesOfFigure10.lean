/- Texts of the claim, in build order: Y5, I1, I2. No condition. -/
import Derived.Test.YtidbikjdigemnaaZDegreesOfFigure9
/- Contracts: DualFigure in one form; what marks on a figure leave. -/
namespace Go.Proofs.Ytidbikjdigemnaa
open Go.RowKit
set_option linter.unusedVariables false
set_option linter.unusedSimpArgs false
theorem lies_ranges {a1 a2 : Option Addr} {B S : Nat} (h1 : Lies a1 B S) (h2 : Lies a2 B S) (hd : ∀ x y, a1 = some x → a2 = some y → x.block ≠ y.block) (hBS : B ≤ S) :
    ∃ lo1 hi1 lo2 hi2, Lies a1 lo1 hi1 ∧ Lies a2 lo2 hi2 ∧ (B ≤ lo1 ∧ hi1 ≤ S) ∧ (B ≤ lo2 ∧ hi2 ≤ S) ∧ (hi1 ≤ lo2 ∨ hi2 ≤ lo1) := by
  cases a1 with
  | none =>
    cases a2 with
    | none => exact ⟨B, B, B, B, (fun a ha => by cases ha), (fun a ha => by cases ha), ⟨Nat.le_refl _, hBS⟩, ⟨Nat.le_refl _, hBS⟩, .inl (Nat.le_refl _)⟩
    | some y =>
      obtain ⟨k1, k2⟩ := h2 y rfl
      exact ⟨B, B, y.block, y.block + 1, (fun a ha => by cases ha), (fun a ha => by cases ha; omega), ⟨Nat.le_refl _, hBS⟩, ⟨k1, k2⟩, .inl k1⟩
  | some x =>
    obtain ⟨j1, j2⟩ := h1 x rfl
    cases a2 with
    | none => exact ⟨x.block, x.block + 1, B, B, (fun a ha => by cases ha; omega), (fun a ha => by cases ha), ⟨j1, j2⟩, ⟨Nat.le_refl _, hBS⟩, .inr j1⟩
    | some y =>
      obtain ⟨k1, k2⟩ := h2 y rfl
      have := hd x y rfl rfl
      exact ⟨x.block, x.block + 1, y.block, y.block + 1, (fun a ha => by cases ha; omega), (fun a ha => by cases ha; omega), ⟨j1, j2⟩, ⟨k1, k2⟩, by omega⟩
/-- A new figure, and a code. -/
structure DualAny (m1 m2 : Nat) (L1 L2 : List Pt) (k : Int) (w : World) (e : Ending) (w' : World) : Prop where
  out : ∃ a1 d1 a2 d2 lo1 hi1 lo2 hi2, e = .returned (.tuple #[.agg #[.slice a1 m1 d1, .slice a2 m2 d2], .int .i64 k]) ∧ ListP w' a1 m1 L1 ∧ ListP w' a2 m2 L2 ∧ Lies a1 lo1 hi1 ∧ Lies a2 lo2 hi2 ∧ (w.heap.size ≤ lo1 ∧ hi1 ≤ w'.heap.size) ∧ (w.heap.size ≤ lo2 ∧ hi2 ≤ w'.heap.size) ∧ (hi1 ≤ lo2 ∨ hi2 ≤ lo1) ∧ MkL w' a1 m1 49 ∧ MkL w' a2 m2 50 ∧ Below w.heap.size w w'
theorem dual_any {n1 n2 : Nat} {l1 l2 : List Pt} (hl1 : l1.length = n1) (hl2 : l2.length = n2) {w w' : World} {e : Ending} (h : DualPost w n1 n2 l1 l2 e w') : DualAny n2 n1 l2 l1 0 w e w' := by
  obtain ⟨v1, v2, he, o1, o2, hb⟩ := h
  obtain ⟨b1, c1, e1, p1, i1, m1⟩ := own_all o1 hl2
  obtain ⟨b2, c2, e2, p2, i2, m2⟩ := own_all o2 hl1
  subst e1
  subst e2
  have hd : ∀ x y, b1 = some x → b2 = some y → x.block ≠ y.block := fun x y hx hy e => by
    subst hx
    subst hy
    exact own_neO o1 o2 (by decide) x.block rfl (by show some x.block = some y.block; rw [e])
  obtain ⟨lo1, hi1, lo2, hi2, r1, r2, r3, r4, r5⟩ := lies_ranges i1 i2 hd hb.size
  exact ⟨b1, c1, b2, c2, lo1, hi1, lo2, hi2, he, p1, p2, r1, r2, r3, r4, r5, m1, m2, hb⟩
theorem dual_zero {k : Int} {w w' : World} {e : Ending} (h : Ret w (.tuple #[.agg #[.slice none 0 0, .slice none 0 0], .int .i64 k]) e w') : DualAny 0 0 [] [] k w e w' := by
  obtain ⟨he, hb⟩ := h
  exact ⟨none, 0, none, 0, w.heap.size, w.heap.size, w.heap.size, w.heap.size, he, listP_nil, listP_nil, (fun a ha => by cases ha), (fun a ha => by cases ha), ⟨Nat.le_refl _, hb.size⟩, ⟨Nat.le_refl _, hb.size⟩, .inl (Nat.le_refl _), .inl ⟨rfl, rfl⟩, .inl ⟨rfl, rfl⟩, hb⟩
/-- What the answer's lists are. -/
def dualM (k : Int) (n : Nat) : Nat := if k = 0 then n else 0
def dualL (k : Int) (l : List Pt) : List Pt := if k = 0 then l else []
theorem dual_all (p : Int) (n1 n2 : Nat) (l1 l2 : List Pt) (w w' : World) (e : Ending) (hl1 : l1.length = n1) (hl2 : l2.length = n2)
    (h : (figC p n1 n2 l1 l2 = 0 ∧ DualPost w n1 n2 l1 l2 e w') ∨ (figC p n1 n2 l1 l2 ≠ 0 ∧ Ret w (.tuple #[.agg #[.slice none 0 0, .slice none 0 0], .int .i64 (figC p n1 n2 l1 l2)]) e w')) :
    DualAny (dualM (figC p n1 n2 l1 l2) n2) (dualM (figC p n1 n2 l1 l2) n1) (dualL (figC p n1 n2 l1 l2) l2) (dualL (figC p n1 n2 l1 l2) l1) (figC p n1 n2 l1 l2) w e w' := by
  unfold dualM dualL
  rcases h with ⟨h0, h⟩ | ⟨h0, h⟩
  · simp only [h0, if_true]; exact dual_any hl1 hl2 h
  · simp only [h0, if_false]; exact dual_zero h
theorem DualFigure_impl (p : Int) (b1 : Option Addr) (n1 c1 : Nat) (b2 : Option Addr) (n2 c2 : Nat) (l1 l2 : List Pt) (w : World) (hn1 : n1 ≤ 1000000) (hn2 : n2 ≤ 1000000) (h1 : ListP w b1 n1 l1) (h2 : ListP w b2 n2 l2) :
    Calls Try.prog 9 #[.int .i64 p, figV b1 n1 c1 b2 n2 c2] w (DualAny (dualM (figC p n1 n2 l1 l2) n2) (dualM (figC p n1 n2 l1 l2) n1) (dualL (figC p n1 n2 l1 l2) l2) (dualL (figC p n1 n2 l1 l2) l1) (figC p n1 n2 l1 l2) w) := by
  by_cases h0 : figC p n1 n2 l1 l2 = 0
  · exact (DualFigure_impl_good p b1 n1 c1 b2 n2 c2 l1 l2 w hn1 hn2 h1 h2 h0).mono fun e w' h => dual_all p n1 n2 l1 l2 w w' e h1.1 h2.1 (.inl ⟨h0, h⟩)
  · exact (DualFigure_impl_code p b1 n1 c1 b2 n2 c2 l1 l2 w hn1 hn2 h1 h2 _ rfl h0).mono fun e w' h => dual_all p n1 n2 l1 l2 w w' e h1.1 h2.1 (.inr ⟨h0, h⟩)
theorem DualFigure_spec (p : Int) (b1 : Option Addr) (n1 c1 : Nat) (b2 : Option Addr) (n2 c2 : Nat) (l1 l2 : List Pt) (w : World) (hn1 : n1 ≤ 1000000) (hn2 : n2 ≤ 1000000) (h1 : ListP w b1 n1 l1) (h2 : ListP w b2 n2 l2) :
    Calls Try.prog 7 #[.int .i64 p, figV b1 n1 c1 b2 n2 c2] w (DualAny (dualM (figC p n1 n2 l1 l2) n2) (dualM (figC p n1 n2 l1 l2) n1) (dualL (figC p n1 n2 l1 l2) l2) (dualL (figC p n1 n2 l1 l2) l1) (figC p n1 n2 l1 l2) w) := by
  by_cases h0 : figC p n1 n2 l1 l2 = 0
  · exact (DualFigure_spec_good p b1 n1 c1 b2 n2 c2 l1 l2 w hn1 hn2 h1 h2 h0).mono fun e w' h => dual_all p n1 n2 l1 l2 w w' e h1.1 h2.1 (.inl ⟨h0, h⟩)
  · exact (DualFigure_spec_code p b1 n1 c1 b2 n2 c2 l1 l2 w hn1 hn2 h1 h2 _ rfl h0).mono fun e w' h => dual_all p n1 n2 l1 l2 w w' e h1.1 h2.1 (.inr ⟨h0, h⟩)
/-- All blocks but those of two lists are as they were. -/
structure SaveF (b1 b2 : Option Addr) (w W : World) : Prop where
  os : W.os = w.os
  tape : W.tape = w.tape
  output : W.output = w.output
  size : w.heap.size ≤ W.heap.size
  block : ∀ k, k < w.heap.size → (∀ a, b1 = some a → a.block ≠ k) → (∀ a, b2 = some a → a.block ≠ k) → W.heap[k]? = w.heap[k]?
theorem markFigure_F (b1 : Option Addr) (n1 c1 : Nat) (b2 : Option Addr) (n2 c2 : Nat) (T1 T2 : TypeId) (w : World) (hn1 : n1 ≤ 1000000) (hn2 : n2 ≤ 1000000) (h1 : MkL w b1 n1 T1) (h2 : MkL w b2 n2 T2)
    (lo1 hi1 lo2 hi2 : Nat) (e1 : Lies b1 lo1 hi1) (e2 : Lies b2 lo2 hi2) (m1 : hi1 ≤ w.heap.size) (m2 : hi2 ≤ w.heap.size) (hd : hi1 ≤ lo2 ∨ hi2 ≤ lo1) :
    Calls Try.prog 12 #[figV b1 n1 c1 b2 n2 c2, .int .i64 101] w (fun e W => e = .returned (.int .i64 (markN n1 n2)) ∧ SaveF b1 b2 w W ∧ Mkd W b1 n1 101 ∧ Mkd W b2 n2 (101 + 3 * n1)) := by
  refine (markFigure_any b1 n1 c1 b2 n2 c2 T1 T2 w hn1 hn2 h1 h2 lo1 hi1 lo2 hi2 e1 e2 m1 m2 hd).mono fun e W ⟨⟨wm, wn, he, hb, s1, s2, k1, k2⟩⟩ => ⟨he, ?_, k1, k2⟩
  exact ⟨s2.os.trans (s1.os.trans hb.os), s2.tape.trans (s1.tape.trans hb.tape), s2.output.trans (s1.output.trans hb.output), Nat.le_trans hb.size (Nat.le_trans s1.size s2.size),
    fun k hk q1 q2 => (s2.block k (by have := hb.size; have := s1.size; omega) q2).trans ((s1.block k (by have := hb.size; omega) q1).trans (hb.block k hk))⟩
theorem SaveF.pts {b1 b2 : Option Addr} {w W : World} (hs : SaveF b1 b2 w W) {g o n : Nat} {l : List Pt} (h : PtsAt w g o n l) (q1 : ∀ a, b1 = some a → a.block ≠ g) (q2 : ∀ a, b2 = some a → a.block ≠ g) (hlt : g < w.heap.size) : PtsAt W g o n l := by
  have hc : ∀ i, W.cell? ⟨g, i, none⟩ = w.cell? ⟨g, i, none⟩ := fun i => by
    unfold World.cell?
    rw [hs.block g hlt q1 q2]
  intro i hi
  rw [hc, hc, hc]
  exact h i hi
theorem SaveF.list {b1 b2 : Option Addr} {w W : World} (hs : SaveF b1 b2 w W) {b : Option Addr} {n lo hi : Nat} {l : List Pt} (h : ListP w b n l) (hl : Lies b lo hi) (hw : hi ≤ w.heap.size) (q1 : ∀ a, b1 = some a → a.block < lo ∨ hi ≤ a.block) (q2 : ∀ a, b2 = some a → a.block < lo ∨ hi ≤ a.block) : ListP W b n l :=
  ⟨h.1, fun hn => by
    obtain ⟨g, o, rfl, hp⟩ := h.2 hn
    obtain ⟨h1, h2⟩ := hl _ rfl
    simp only at h1 h2
    exact ⟨g, o, rfl, hs.pts hp (fun a ha => by have := q1 a ha; omega) (fun a ha => by have := q2 a ha; omega) (by omega)⟩⟩
theorem SaveF.mkl {b1 b2 : Option Addr} {w W : World} (hs : SaveF b1 b2 w W) {b : Option Addr} {n lo hi : Nat} {T : TypeId} (h : MkL w b n T) (hl : Lies b lo hi) (hw : hi ≤ w.heap.size) (q1 : ∀ a, b1 = some a → a.block < lo ∨ hi ≤ a.block) (q2 : ∀ a, b2 = some a → a.block < lo ∨ hi ≤ a.block) : MkL W b n T := by
  rcases h with h0 | ⟨g, cap, rfl, hc, cur, h1, h2⟩
  · exact .inl h0
  · obtain ⟨k1, k2⟩ := hl _ rfl
    simp only at k1 k2
    exact .inr ⟨g, cap, rfl, hc, cur, (hs.block g (by omega) (fun a ha => by have := q1 a ha; omega) (fun a ha => by have := q2 a ha; omega)).trans h1, h2⟩
theorem SaveF.below {b1 b2 : Option Addr} {B : Nat} {w W W' : World} (h : SaveF b1 b2 W W') (hb : Below B w W) (q1 : ∀ a, b1 = some a → B ≤ a.block) (q2 : ∀ a, b2 = some a → B ≤ a.block) (hs : B ≤ W.heap.size) : Below B w W' :=
  ⟨h.os.trans hb.os, h.tape.trans hb.tape, h.output.trans hb.output, Nat.le_trans hb.size h.size, fun k hk => (h.block k (by omega) (fun a ha => by have := q1 a ha; omega) (fun a ha => by have := q2 a ha; omega)).trans (hb.block k hk)⟩
end Go.Proofs.Ytidbikjdigemnaa
/- Tables of numbers in memory; the laws' marks on lists of numbers. -/
namespace Go.Proofs.Ytidbikjdigemnaa
open Go.RowKit
set_option linter.unusedVariables false
set_option linter.unusedSimpArgs false
def markI (k n : Nat) : List Int := (List.range n).map (fun i : Nat => ((k + i : Nat) : Int))
theorem markI_at (k n i : Nat) (h : i < n) : (markI k n).getD i 0 = ((k + i : Nat) : Int) := by simp [markI, List.getD, h]
theorem ints_grow {W : World} {g cap i : Nat} {T : TypeId} {M : List Int} {x : Int} (hr : RoomI W g cap T) (hi : i < cap) (h : IntsAt W g 0 i M) (hM : M.getD i 0 = x) :
    IntsAt (W.setCell ⟨g, i, none⟩ (.int .i64 x)) g 0 (i + 1) M := by
  have ne : ∀ a b : Nat, a ≠ b → (⟨g, a, none⟩ : Addr) ≠ ⟨g, b, none⟩ := fun a b h e => h (by cases e; rfl)
  obtain ⟨u0, s0⟩ := Option.isSome_iff_exists.1 (hr.some i hi)
  intro j hj
  simp only [Nat.zero_add]
  by_cases e : j = i
  · subst e
    rw [hM]
    exact World.cell?_setCell_same (u := u0) _ _ _ s0
  · have c0 := h j (by omega)
    simp only [Nat.zero_add] at c0
    rw [World.cell?_setCell_other _ _ _ _ (ne _ _ (by omega))]; exact c0
/-- What marks leave. -/
structure MarkPostI (g n k cap : Nat) (T : TypeId) (w : World) (e : Ending) (w' : World) : Prop where
  out : e = .returned (.int .i64 ((k + n : Nat) : Int)) ∧ Save g w w' ∧ RoomI w' g cap T ∧ IntsAt w' g 0 n (markI k n)
set_option maxHeartbeats 1000000 in
theorem markInt64S_any (g n c k cap : Nat) (T : TypeId) (w : World) (hr : RoomI w g cap T) (hn : n ≤ cap) (hn1 : n ≤ 1000000) (hk : k ≤ 10000000) :
    Calls Try.prog 17 #[.slice (some ⟨g, 0, none⟩) n c, .int .i64 (k : Int)] w (MarkPostI g n k cap T w) := by
  have HR0 := Lib.hid hr
  clear hr
  go_enter Try.func17, Try.ntmps17
  go_wp2
  go_loopw [1, 5] (fun q i wr => ∃ ii : Nat, ii ≤ n ∧ i = .int .i64 ii ∧ q = .int .i64 ((k + ii : Nat) : Int) ∧ Hid (Save g w wr) ∧ Hid (RoomI wr g cap T) ∧ Hid (IntsAt wr g 0 ii (markI k n))) (fun _ i wr => n - (intOf i).toNat)
  case atStart => exact ⟨0, Nat.zero_le _, rfl, rfl, Lib.hid (Save.refl _ _), HR0, Lib.hid (fun j hj => absurd hj (by omega))⟩
  case round =>
    obtain ⟨ii, hi, rfl, rfl, HS, HR, HP⟩ := hrel
    by_cases hlt : ii < n
    · obtain ⟨u0, s0⟩ := Option.isSome_iff_exists.1 (HR.out.some ii (by omega))
      have r0 := HR.out.frozen ii
      go_wp2
      go_roundw
      case rel => exact ⟨ii + 1, by omega, by go_num, ret_num (by omega), Lib.hid (HS.out.setCell _ _), Lib.hid (HR.out.set _ _), Lib.hid (ints_grow HR.out (by omega) HP.out (by rw [markI_at _ _ _ hlt]; simp))⟩
      case measure => simp [intOf]; omega
    · have : ii = n := by omega
      subst this
      go_wp2
      go_ret
      exact ⟨rfl, HS.out, HR.out, HP.out⟩
theorem heldInt64S_any (g n c k : Nat) (w : World) (hn1 : n ≤ 1000000) (hk : k ≤ 10000000) (hp : IntsAt w g 0 n (markI k n)) :
    Calls Try.prog 18 #[.slice (some ⟨g, 0, none⟩) n c, .int .i64 (k : Int)] w (Ret w (.int .i64 ((k + n : Nat) : Int))) := by
  have HP := Lib.hid hp
  clear hp
  go_enter Try.func18, Try.ntmps18
  go_wp2
  go_loopw [1, 5] (fun q i wr => ∃ ii : Nat, ii ≤ n ∧ i = .int .i64 ii ∧ q = .int .i64 ((k + ii : Nat) : Int) ∧ Hid (Below w.heap.size w wr)) (fun _ i wr => n - (intOf i).toNat)
  case atStart => exact ⟨0, Nat.zero_le _, rfl, rfl, Lib.hid (Below.refl _ _)⟩
  case round =>
    obtain ⟨ii, hi, rfl, rfl, HB⟩ := hrel
    by_cases hlt : ii < n
    · have c0 := (HP.out.below HB.out) ii hlt
      rw [markI_at _ _ _ hlt] at c0
      simp only [Nat.zero_add, Int.natCast_add] at c0
      go_wp2
      go_roundw
      case rel => exact ⟨ii + 1, by omega, by go_num, ret_num (by omega), HB⟩
      case measure => simp [intOf]; omega
    · have : ii = n := by omega
      subst this
      go_wp2
      go_ret
      exact ⟨rfl, HB.out⟩
theorem newI (wr : World) (x : Value) (T : TypeId) : ∀ (j : Nat) (u : Value), [x][j]? = some u → (wr.alloc (.cells #[x] T)).cell? ((⟨wr.heap.size, 0, none⟩ : Addr).add j) = some u := by
  intro j u hj
  have e : (wr.alloc (.cells #[x] T)).cell? ((⟨wr.heap.size, 0, none⟩ : Addr).add j) = #[x][j]? := by
    have hadd : (⟨wr.heap.size, 0, none⟩ : Addr).add j = ⟨wr.heap.size, j, none⟩ := by unfold Addr.add; split <;> simp_all
    rw [hadd, World.cell?_alloc_at _ _ _ _ rfl]
  rw [e]; simpa using hj
theorem ints_app (a b : List Int) : ints (a ++ b) = ints a ++ ints b := by simp [ints]
/-- A bit for each number below k. -/
def bits (f : Nat → Bool) (k : Nat) : List Int := (List.range k).map (fun t => if f t then (1 : Int) else 0)
theorem bits_succ (f : Nat → Bool) (k : Nat) : bits f (k + 1) = bits f k ++ [if f k then (1 : Int) else 0] := by
  unfold bits; rw [List.range_succ, List.map_append]; rfl
theorem bits_length (f : Nat → Bool) (k : Nat) : (bits f k).length = k := by unfold bits; simp
/-- A row's value. -/
@[reducible] def rowQ (n2 : Nat) (q : Nat × Nat) : Value := .slice (some ⟨q.1, 0, none⟩) n2 q.2
/-- The rows of a table, each in a block of its own. -/
def TabAt (W : World) (base n2 : Nat) (tbl : Nat → List Int) (gs : List (Nat × Nat)) : Prop := ∀ i, i < gs.length →
  base ≤ (gs.getD i (0, 0)).1 ∧ (gs.getD i (0, 0)).1 < W.heap.size ∧ n2 ≤ (gs.getD i (0, 0)).2 ∧ RoomI W (gs.getD i (0, 0)).1 (gs.getD i (0, 0)).2 2 ∧ IntsAt W (gs.getD i (0, 0)).1 0 n2 (tbl i) ∧ ∀ j, j < i → (gs.getD j (0, 0)).1 < (gs.getD i (0, 0)).1
theorem ints_block {w W : World} {g o n : Nat} {l : List Int} (h : IntsAt w g o n l) (hb : W.heap[g]? = w.heap[g]?) : IntsAt W g o n l := by
  intro i hi
  have hc : W.cell? ⟨g, o + i, none⟩ = w.cell? ⟨g, o + i, none⟩ := by unfold World.cell?; rw [hb]
  rw [hc]; exact h i hi
theorem tab_same {W W' : World} {base n2 : Nat} {tbl : Nat → List Int} {gs : List (Nat × Nat)} (h : TabAt W base n2 tbl gs) (hs : W.heap.size ≤ W'.heap.size) (hk : ∀ i, i < gs.length → W'.heap[(gs.getD i (0, 0)).1]? = W.heap[(gs.getD i (0, 0)).1]?) : TabAt W' base n2 tbl gs := by
  intro i hi
  obtain ⟨h1, h2, h3, ⟨cur, h4, h5⟩, h6, h7⟩ := h i hi
  exact ⟨h1, by omega, h3, ⟨cur, (hk i hi).trans h4, h5⟩, ints_block h6 (hk i hi), h7⟩
theorem tab_below {W W' : World} {base n2 : Nat} {tbl : Nat → List Int} {gs : List (Nat × Nat)} (h : TabAt W base n2 tbl gs) (hb : Below W.heap.size W W') : TabAt W' base n2 tbl gs :=
  tab_same h hb.size (fun i hi => hb.block _ (h i hi).2.1)
theorem tab_snoc {W : World} {base n2 g c : Nat} {tbl : Nat → List Int} {gs : List (Nat × Nat)} (h : TabAt W base n2 tbl gs) (h1 : base ≤ g) (h2 : g < W.heap.size) (h3 : n2 ≤ c) (h4 : RoomI W g c 2) (h5 : IntsAt W g 0 n2 (tbl gs.length)) (h6 : ∀ j, j < gs.length → (gs.getD j (0, 0)).1 < g) : TabAt W base n2 tbl (gs ++ [(g, c)]) := by
  have e0 : ∀ j, j < gs.length → (gs ++ [(g, c)]).getD j (0, 0) = gs.getD j (0, 0) := fun j hj => by simp [List.getD, List.getElem?_append_left hj]
  have e1 : (gs ++ [(g, c)]).getD gs.length (0, 0) = (g, c) := by simp [List.getD]
  intro i hi
  rw [List.length_append, List.length_singleton] at hi
  by_cases e : i = gs.length
  · subst e
    rw [e1]
    exact ⟨h1, h2, h3, h4, h5, fun j hj => by rw [e0 j hj]; exact h6 j hj⟩
  · have hlt : i < gs.length := by omega
    rw [e0 i hlt]
    obtain ⟨k1, k2, k3, k4, k5, k6⟩ := h i hlt
    exact ⟨k1, k2, k3, k4, k5, fun j hj => by rw [e0 j (by omega)]; exact k6 j hj⟩
theorem tab_low {W : World} {base base' n2 : Nat} {tbl : Nat → List Int} {gs : List (Nat × Nat)} (h : TabAt W base n2 tbl gs) (hb : base' ≤ base) : TabAt W base' n2 tbl gs := fun i hi => by
  obtain ⟨h1, h2⟩ := h i hi
  exact ⟨by omega, h2⟩
theorem own_rowI {W : World} {base : Nat} {T : TypeId} {v : Value} {l : List Int} {n : Nat} (h : W.ownsRow base T 1 v n (ints l)) (hl : l.length = n) (hv : v ≠ .slice none 0 0) :
    ∃ g cap, v = rowQ n (g, cap) ∧ base ≤ g ∧ g < W.heap.size ∧ n ≤ cap ∧ RoomI W g cap T ∧ IntsAt W g 0 n l := by
  rcases h.2 with ⟨h1, _⟩ | ⟨g, cap, cur, e, hb, hg, hle, _, hsz, htk⟩
  · exact (hv h1).elim
  · refine ⟨g, cap, e, hb, (Array.getElem?_eq_some_iff.1 hg).1, hle, ⟨cur, hg, by simpa using hsz⟩, ?_⟩
    intro i hi
    rw [cell_of_row W g (0 + i) _ _ _ hg, Nat.zero_add]
    have h1 : (cur.toList.take (n * 1))[i]? = (ints l)[i]? := by rw [htk]
    rw [List.getElem?_take_of_lt (by omega)] at h1
    rw [← Array.getElem?_toList, h1]
    simp [ints, List.getD, show i < l.length by omega]
theorem row_one (n2 : Nat) (q : Nat × Nat) : ∀ u ∈ [rowQ n2 q], u.oneCell' = true := by
  intro u hu
  rw [List.mem_singleton.1 hu]; rfl
theorem infoSl : (Try.prog.info? 36).map (fun i => (i.zero, i.size, i.bytes)) = some (some (.slice none 0 0), 1, 24) := by kernel_rfl
/-- A new table. -/
structure TabPost (w : World) (n1 n2 : Nat) (tbl : Nat → List Int) (e : Ending) (w' : World) : Prop where
  out : ∃ v gs, e = .returned v ∧ gs.length = n1 ∧ w'.ownsRow w.heap.size 36 1 v n1 (gs.map (rowQ n2)) ∧ TabAt w' w.heap.size n2 tbl gs ∧ Below w.heap.size w w'
def tblF (p : Int) (l1 l2 : List Pt) (i : Nat) : Nat → Bool := fun j => onB p (l1.getD i (0, 0, 0)) (l2.getD j (0, 0, 0))
def tblR (p : Int) (l1 l2 : List Pt) (n2 i : Nat) : List Int := bits (tblF p l1 l2 i) n2
end Go.Proofs.Ytidbikjdigemnaa
/- Contracts: the table of incidences, the program's and the reference's. (Printed by geni2.py, a program of this session.) -/
namespace Go.Proofs.Ytidbikjdigemnaa
open Go.RowKit
set_option linter.unusedVariables false
set_option linter.unusedSimpArgs false
theorem own_szl {w : World} {base : Nat} {e : TypeId} {size n : Nat} {v : Value} {xs : List Value} (h : w.ownsRow base e size v n xs) (hn : 0 < n) : base < w.heap.size := by
  rcases h.2 with ⟨_, h1⟩ | ⟨g, cap, cur, h1, hb, hg, _⟩
  · omega
  · exact Nat.lt_of_le_of_lt hb (Array.getElem?_eq_some_iff.1 hg).1
set_option maxRecDepth 20000 in
set_option maxHeartbeats 8000000 in
theorem incidences_any (p : Int) (b1 : Option Addr) (n1 c1 : Nat) (b2 : Option Addr) (n2 c2 : Nat) (l1 l2 : List Pt) (w : World) (hp : prB p = true) (m1 : n1 ≤ 16) (m2 : n2 ≤ 16) (h1 : ListP w b1 n1 l1) (h2 : ListP w b2 n2 l2) (q1 : ∀ a ∈ l1, In13 a) (q2 : ∀ a ∈ l2, In13 a) :
    Calls Try.prog 39 #[.int .i64 p, figV b1 n1 c1 b2 n2 c2] w (TabPost w n1 n2 (tblR p l1 l2 n2)) := by
  have HL1 := Lib.hid h1
  have HL2 := Lib.hid h2
  have hl1 := h1.1
  have hl2 := h2.1
  have HO := Lib.hid (fun (W : World) (a0 a1 a2 z0 z1 z2 : Int) (ha : In13 (a0, a1, a2)) (hz : In13 (z0, z1, z2)) => isOn_any p a0 a1 a2 z0 z1 z2 W hp ha hz)
  have Q1 := Lib.hid q1
  have Q2 := Lib.hid q2
  obtain ⟨i0, hi, hz0, hz1, hz2⟩ := info_parts info64
  have HI0 := Lib.hid hi; have HZ0 := Lib.hid hz0; have HZ1 := Lib.hid hz1; have HZ2 := Lib.hid hz2
  obtain ⟨j0, hj, hy0, hy1, hy2⟩ := info_parts infoSl
  have HJ0 := Lib.hid hj; have HY0 := Lib.hid hy0; have HY1 := Lib.hid hy1; have HY2 := Lib.hid hy2
  clear h1 h2 hp q1 q2 hi hz0 hz1 hz2 hj hy0 hy1 hy2
  go_enter Try.func39, Try.ntmps39
  go_wp2
  go_loopw [5, 16] (fun v i wr => ∃ (k : Nat) (gs : List (Nat × Nat)), k ≤ n1 ∧ i = .int .i64 k ∧ gs.length = k ∧ Hid (wr.ownsRow (w.heap.size + 1) 36 1 v k (gs.map (rowQ n2))) ∧ Hid (TabAt wr (w.heap.size + 1) n2 (tblR p l1 l2 n2) gs) ∧ Hid (wr.heap[w.heap.size]? = some (.cells #[.slice b1 n1 c1, .slice b2 n2 c2] 29 (0, 0))) ∧ Hid (Below w.heap.size w wr)) (fun _ i wr => n1 - (intOf i).toNat)
  case atStart => exact ⟨0, [], Nat.zero_le _, rfl, rfl, Lib.hid ⟨rfl, .inr ⟨w.heap.size + 1, 0, #[], rfl, Nat.le_refl _, by rw [hn_atN _ _ _ (by simp)], Nat.le_refl _, by unfold maxLen; omega, rfl, rfl⟩⟩, Lib.hid (fun i hi => absurd hi (by simp)), Lib.hid (by rw [hn_pastN _ _ _ (by simp), hn_atN _ _ _ rfl]), Lib.hid (by repeat (first | exact Below.refl _ _ | refine bset ?_ _ _ (by omega) _ | refine bal ?_ _ | refine bdrN ?_ _ | refine bdr ?_))⟩
  case round =>
    obtain ⟨k, gs, hk, rfl, hgs, HOut, HTab, KF, HB⟩ := hrel
    have lf := (Array.getElem?_eq_some_iff.1 KF.out).1
    have xf0 : wr.cell? ⟨w.heap.size, 0, none⟩ = some (.slice b1 n1 c1) := rowV KF.out rfl
    have xf1 : wr.cell? ⟨w.heap.size, 1, none⟩ = some (.slice b2 n2 c2) := rowV KF.out rfl
    by_cases hlt : k < n1
    · obtain ⟨ga, oa, rfl, hp1⟩ := HL1.out.2 (by omega)
      have HPA := Lib.hid (hp1 k hlt)
      obtain ⟨d0, d1, d2⟩ := (hp1.below HB.out) k hlt
      clear hp1
      have hina : In13 (l1.getD k (0, 0, 0)) := Q1.out _ (by simp [List.getD, show k < l1.length by omega])
      obtain ⟨f, hf⟩ : ∃ f, tblF p l1 l2 k = f := ⟨_, rfl⟩
      have HFd : Hid (∀ j, f j = onB p (l1.getD k (0, 0, 0)) (l2.getD j (0, 0, 0))) := Lib.hid (fun j => by rw [← hf]; rfl)
      have HRow : Hid (tblR p l1 l2 n2 k = bits f n2) := Lib.hid (by unfold tblR; rw [hf])
      clear hf
      generalize l1.getD k (0, 0, 0) = a at *
      obtain ⟨a0, a1, a2⟩ := a
      have hgl : ∀ i, i < gs.length → (gs.getD i (0, 0)).1 < wr.heap.size := fun i hi => (HTab.out i hi).2.1
      have HGL := Lib.hid hgl
      clear hgl
      have hszw := HB.out.size
      go_wp2_with (refine wpList_store_row _ rfl 49 _ _ rfl rfl (U := #[.int .i64 a0, .int .i64 a1, .int .i64 a2]) rfl rfl (heap_alloc_new _ _) rfl Try.sizeOf49 (by simp [Value.oneCell']) ?_; rw [alloc_setRow])
      have o0 : Hid (((wr.alloc (.cells #[.int .i64 a0, .int .i64 a1, .int .i64 a2] 49)).alloc (.cells #[] 2)).ownsRow (wr.heap.size + 1) 2 1 (.slice (some ⟨wr.heap.size + 1, 0, none⟩) 0 0) 0 (ints (bits f 0))) := Lib.hid ⟨rfl, .inr ⟨wr.heap.size + 1, 0, #[], rfl, Nat.le_refl _, by rw [hn_atN _ _ _ (by simp)], Nat.le_refl _, by unfold maxLen; omega, rfl, rfl⟩⟩
      have U0 := Lib.hid (own_same (W' := ((wr.alloc (.cells #[.int .i64 a0, .int .i64 a1, .int .i64 a2] 49)).alloc (.cells #[] 2))) HOut.out (fun b hb => by rw [hn_pastN _ _ (b) (Nat.lt_of_lt_of_le (own_lt HOut.out b hb) (by simp)), hn_pastN _ _ (b) (own_lt HOut.out b hb)]))
      have T0 := Lib.hid (tab_same (W' := ((wr.alloc (.cells #[.int .i64 a0, .int .i64 a1, .int .i64 a2] 49)).alloc (.cells #[] 2))) HTab.out (by simp; omega) (fun i hi => by rw [hn_pastN _ _ ((gs.getD i (0, 0)).1) (Nat.lt_of_lt_of_le (HGL.out i hi) (by simp)), hn_pastN _ _ ((gs.getD i (0, 0)).1) (HGL.out i hi)]))
      have F0 : Hid (((wr.alloc (.cells #[.int .i64 a0, .int .i64 a1, .int .i64 a2] 49)).alloc (.cells #[] 2)).heap[w.heap.size]? = some (.cells #[.slice (some ⟨ga, oa, none⟩) n1 c1, .slice b2 n2 c2] 29 (0, 0))) := Lib.hid (by rw [hn_pastN _ _ (w.heap.size) (Nat.lt_of_lt_of_le (lf) (by simp)), hn_pastN _ _ (w.heap.size) (lf)]; exact KF.out)
      have B0 : Hid (Below w.heap.size w ((wr.alloc (.cells #[.int .i64 a0, .int .i64 a1, .int .i64 a2] 49)).alloc (.cells #[] 2))) := Lib.hid (bal (bal HB.out _) _)
      have A0 : Hid (((wr.alloc (.cells #[.int .i64 a0, .int .i64 a1, .int .i64 a2] 49)).alloc (.cells #[] 2)).heap[wr.heap.size]? = some (.cells #[.int .i64 a0, .int .i64 a1, .int .i64 a2] 49 (0, 0))) := Lib.hid (by rw [hn_pastN _ _ _ (by simp), hn_atN _ _ _ rfl])
      have S0 : wr.heap.size < ((wr.alloc (.cells #[.int .i64 a0, .int .i64 a1, .int .i64 a2] 49)).alloc (.cells #[] 2)).heap.size := by simp; omega
      have hws := lf
      generalize ((wr.alloc (.cells #[.int .i64 a0, .int .i64 a1, .int .i64 a2] 49)).alloc (.cells #[] 2)) = V0 at *
      generalize hs0 : wr.heap.size = s0 at *
      go_loopw [8, 24] (fun r j wr => ∃ (m : Nat), m ≤ n2 ∧ j = .int .i64 m ∧ Hid (wr.ownsRow (s0 + 1) 2 1 r m (ints (bits f m))) ∧ Hid (r ≠ .slice none 0 0) ∧ Hid (wr.ownsRow (w.heap.size + 1) 36 1 u5 k (gs.map (rowQ n2))) ∧ Hid (TabAt wr (w.heap.size + 1) n2 (tblR p l1 l2 n2) gs) ∧ Hid (wr.heap[w.heap.size]? = some (.cells #[.slice (some ⟨ga, oa, none⟩) n1 c1, .slice b2 n2 c2] 29 (0, 0))) ∧ Hid (wr.heap[s0]? = some (.cells #[.int .i64 a0, .int .i64 a1, .int .i64 a2] 49 (0, 0))) ∧ s0 < wr.heap.size ∧ Hid (Below w.heap.size w wr)) (fun _ j wr => n2 - (intOf j).toNat)
      case atStart => exact ⟨0, Nat.zero_le _, rfl, o0, Lib.hid (by simp), U0, T0, F0, A0, S0, B0⟩
      case round =>
        clear o0 U0 T0 F0 B0 S0 A0 KF HB HOut HTab xf0 xf1 lf
        obtain ⟨m, hm, rfl, HR, HNn, HOut, HTab, KF, KA, hsi, HB⟩ := hrel
        have lf := (Array.getElem?_eq_some_iff.1 KF.out).1
        have xf0 : wr.cell? ⟨w.heap.size, 0, none⟩ = some (.slice (some ⟨ga, oa, none⟩) n1 c1) := rowV KF.out rfl
        have xf1 : wr.cell? ⟨w.heap.size, 1, none⟩ = some (.slice b2 n2 c2) := rowV KF.out rfl
        by_cases hlm : m < n2
        · obtain ⟨gz, oz, rfl, hp2⟩ := HL2.out.2 (by omega)
          obtain ⟨e0, e1, e2⟩ := (hp2.below HB.out) m hlm
          clear hp2
          have hinz : In13 (l2.getD m (0, 0, 0)) := Q2.out _ (by simp [List.getD, show m < l2.length by omega])
          have HFm := Lib.hid (HFd.out m)
          have HBs := Lib.hid (bits_succ f m)
          generalize l2.getD m (0, 0, 0) = z at *
          obtain ⟨z0, z1, z2⟩ := z
          have HC := Lib.hid (fun (W : World) => HO.out W a0 a1 a2 z0 z1 z2 hina hinz)
          have hnb := own_base' HR.out
          have HNb := Lib.hid hnb
          clear hnb
          have hsw := HB.out.size
          cases hb : onB p (a0, a1, a2) (z0, z1, z2) with
          | true =>
            have HV : Hid (bits f (m + 1) = bits f m ++ [1]) := Lib.hid (by rw [HBs.out, HFm.out, hb]; rfl)
            rw [hb] at HC
            clear HBs HFm
            go_wp2_with (first
              | (refine wpList_store_row _ rfl 50 _ _ rfl rfl (U := #[.int .i64 z0, .int .i64 z1, .int .i64 z2]) rfl rfl (heap_alloc_new _ _) rfl Try.sizeOf50 (by simp [Value.oneCell']) ?_; rw [alloc_setRow])
              | (refine wpList_load_row _ rfl 49 _ rfl (g := s0) (T := 49) (cs := #[.int .i64 a0, .int .i64 a1, .int .i64 a2]) (fr := (0, 0)) rfl (by rw [hn_pastN _ _ _ hsi]; exact KA.out) 3 rfl Try.sizeOf49 Try.isAgg49 ?_)
              | (refine wpList_load_row _ rfl 50 _ rfl (g := wr.heap.size) (T := 50) (cs := #[.int .i64 z0, .int .i64 z1, .int .i64 z2]) (fr := (0, 0)) rfl (by rw [hn_atN _ _ _ rfl]) 3 rfl Try.sizeOf50 Try.isAgg50 ?_)
              | (go_at_call 50; (with_reducible refine (HC.out _).mono ?_); rintro e w3_ ⟨rfl, hb3⟩; obtain ⟨hcb3, hfb3, hlb3⟩ := bcell hb3; have hsz3 := hb3.size; (try simp at hsz3); have HB3 := Lib.hid hb3; clear hb3; (try (have hl03 : w.heap.size < w3_.heap.size := by omega)))
              | (at_builtin; go_loud (refine wpList_append_own _ rfl _ _ 36 rfl (s0 + 1) 2 i0 (.int .i64 0) 1 8 Try.underlying36 HI0.out HZ0.out HZ1.out HZ2.out rfl (by decide) _ _ _ rfl ((own_below (HR.out.alloc _) HB3.out).alloc _) ⟨w3_.heap.size, 0, none⟩ 1 1 [.int .i64 1] rfl rfl (newI _ _ _) (one1 _ _) (by unfold maxLen; omega) (by omega) (by first | omega | (simp; done) | (simp; omega)) ?_; intro v2 w2 hown hgrow hnil; have HR2 := Lib.hid hown; have HG := Lib.hid hgrow; have HNn2 := Lib.hid (fun h => by have := (hnil.1 h).2; omega : v2 ≠ .slice none 0 0); clear hown hgrow hnil)))
            have s3 := HB3.out.size
            try simp at s3
            have BM := bal (low_tr' (bal HB.out (.cells #[.int .i64 z0, .int .i64 z1, .int .i64 z2] 50)) HB3.out (by first | omega | (simp; done) | (simp; omega))) (.cells #[.int .i64 1] 2)
            have hsg : Below w.heap.size w w2 := BM.grown HG.out BM.size (fun k' hk' => by have := HNb.out k' hk'; omega)
            have U2 := Lib.hid (own_same (W' := w2) HOut.out (fun b hb' => by rw [HG.out.block (b) (Nat.lt_of_lt_of_le (own_lt HOut.out b hb') (by simp; omega)) (own_neO HOut.out HR.out (by decide) b hb'), hn_pastN _ _ (b) (Nat.lt_of_lt_of_le (own_lt HOut.out b hb') (by omega)), HB3.out.block (b) (Nat.lt_of_lt_of_le (own_lt HOut.out b hb') (by simp)), hn_pastN _ _ (b) (own_lt HOut.out b hb')]))
            have KF2 := Lib.hid (show w2.heap[w.heap.size]? = some (.cells #[.slice (some ⟨ga, oa, none⟩) n1 c1, .slice (some ⟨gz, oz, none⟩) n2 c2] 29 (0, 0)) from (by rw [HG.out.block (w.heap.size) (Nat.lt_of_lt_of_le (lf) (by simp; omega)) (fun e => by have := HNb.out _ e.symm; omega), hn_pastN _ _ (w.heap.size) (Nat.lt_of_lt_of_le (lf) (by omega)), HB3.out.block (w.heap.size) (Nat.lt_of_lt_of_le (lf) (by simp)), hn_pastN _ _ (w.heap.size) (lf)]; exact KF.out))
            have KA2 := Lib.hid (show w2.heap[s0]? = some (.cells #[.int .i64 a0, .int .i64 a1, .int .i64 a2] 49 (0, 0)) from (by rw [HG.out.block (s0) (Nat.lt_of_lt_of_le (hsi) (by simp; omega)) (fun e => by have := HNb.out _ e.symm; omega), hn_pastN _ _ (s0) (Nat.lt_of_lt_of_le (hsi) (by omega)), HB3.out.block (s0) (Nat.lt_of_lt_of_le (hsi) (by simp)), hn_pastN _ _ (s0) (hsi)]; exact KA.out))
            have hw2 : s0 < w2.heap.size := by have := (Array.getElem?_eq_some_iff.1 KA2.out).1; omega
            have T2 := Lib.hid (tab_same (W' := w2) HTab.out (by have h8 := HG.out.size; simp at h8; omega) (fun i hi => by rw [HG.out.block ((gs.getD i (0, 0)).1) (Nat.lt_of_lt_of_le ((HTab.out i hi).2.1) (by simp; omega)) (fun e => by have h7 := HNb.out _ e.symm; have h6 := HGL.out i hi; omega), hn_pastN _ _ ((gs.getD i (0, 0)).1) (Nat.lt_of_lt_of_le ((HTab.out i hi).2.1) (by omega)), HB3.out.block ((gs.getD i (0, 0)).1) (Nat.lt_of_lt_of_le ((HTab.out i hi).2.1) (by simp)), hn_pastN _ _ ((gs.getD i (0, 0)).1) ((HTab.out i hi).2.1)]))
            go_roundw
            case rel => first | exact ⟨m + 1, by omega, by go_num, Lib.hid (by rw [HV.out, ints_app]; exact HR2.out), HNn2, U2, T2, KF2, KA2, hw2, Lib.hid hsg⟩ | exact ⟨m + 1, by omega, by first | go_num | omega, Lib.hid (by rw [HV.out, ints_app]; exact HR2.out), HNn2, U2, T2, KF2, KA2, hw2, Lib.hid hsg⟩
            case measure => simp [intOf]; omega
          | false =>
            have HV : Hid (bits f (m + 1) = bits f m ++ [0]) := Lib.hid (by rw [HBs.out, HFm.out, hb]; rfl)
            rw [hb] at HC
            clear HBs HFm
            go_wp2_with (first
              | (refine wpList_store_row _ rfl 50 _ _ rfl rfl (U := #[.int .i64 z0, .int .i64 z1, .int .i64 z2]) rfl rfl (heap_alloc_new _ _) rfl Try.sizeOf50 (by simp [Value.oneCell']) ?_; rw [alloc_setRow])
              | (refine wpList_load_row _ rfl 49 _ rfl (g := s0) (T := 49) (cs := #[.int .i64 a0, .int .i64 a1, .int .i64 a2]) (fr := (0, 0)) rfl (by rw [hn_pastN _ _ _ hsi]; exact KA.out) 3 rfl Try.sizeOf49 Try.isAgg49 ?_)
              | (refine wpList_load_row _ rfl 50 _ rfl (g := wr.heap.size) (T := 50) (cs := #[.int .i64 z0, .int .i64 z1, .int .i64 z2]) (fr := (0, 0)) rfl (by rw [hn_atN _ _ _ rfl]) 3 rfl Try.sizeOf50 Try.isAgg50 ?_)
              | (go_at_call 50; (with_reducible refine (HC.out _).mono ?_); rintro e w3_ ⟨rfl, hb3⟩; obtain ⟨hcb3, hfb3, hlb3⟩ := bcell hb3; have hsz3 := hb3.size; (try simp at hsz3); have HB3 := Lib.hid hb3; clear hb3; (try (have hl03 : w.heap.size < w3_.heap.size := by omega)))
              | (at_builtin; go_loud (refine wpList_append_own _ rfl _ _ 36 rfl (s0 + 1) 2 i0 (.int .i64 0) 1 8 Try.underlying36 HI0.out HZ0.out HZ1.out HZ2.out rfl (by decide) _ _ _ rfl ((own_below (HR.out.alloc _) HB3.out).alloc _) ⟨w3_.heap.size, 0, none⟩ 1 1 [.int .i64 0] rfl rfl (newI _ _ _) (one1 _ _) (by unfold maxLen; omega) (by omega) (by first | omega | (simp; done) | (simp; omega)) ?_; intro v2 w2 hown hgrow hnil; have HR2 := Lib.hid hown; have HG := Lib.hid hgrow; have HNn2 := Lib.hid (fun h => by have := (hnil.1 h).2; omega : v2 ≠ .slice none 0 0); clear hown hgrow hnil)))
            have s3 := HB3.out.size
            try simp at s3
            have BM := bal (low_tr' (bal HB.out (.cells #[.int .i64 z0, .int .i64 z1, .int .i64 z2] 50)) HB3.out (by first | omega | (simp; done) | (simp; omega))) (.cells #[.int .i64 0] 2)
            have hsg : Below w.heap.size w w2 := BM.grown HG.out BM.size (fun k' hk' => by have := HNb.out k' hk'; omega)
            have U2 := Lib.hid (own_same (W' := w2) HOut.out (fun b hb' => by rw [HG.out.block (b) (Nat.lt_of_lt_of_le (own_lt HOut.out b hb') (by simp; omega)) (own_neO HOut.out HR.out (by decide) b hb'), hn_pastN _ _ (b) (Nat.lt_of_lt_of_le (own_lt HOut.out b hb') (by omega)), HB3.out.block (b) (Nat.lt_of_lt_of_le (own_lt HOut.out b hb') (by simp)), hn_pastN _ _ (b) (own_lt HOut.out b hb')]))
            have KF2 := Lib.hid (show w2.heap[w.heap.size]? = some (.cells #[.slice (some ⟨ga, oa, none⟩) n1 c1, .slice (some ⟨gz, oz, none⟩) n2 c2] 29 (0, 0)) from (by rw [HG.out.block (w.heap.size) (Nat.lt_of_lt_of_le (lf) (by simp; omega)) (fun e => by have := HNb.out _ e.symm; omega), hn_pastN _ _ (w.heap.size) (Nat.lt_of_lt_of_le (lf) (by omega)), HB3.out.block (w.heap.size) (Nat.lt_of_lt_of_le (lf) (by simp)), hn_pastN _ _ (w.heap.size) (lf)]; exact KF.out))
            have KA2 := Lib.hid (show w2.heap[s0]? = some (.cells #[.int .i64 a0, .int .i64 a1, .int .i64 a2] 49 (0, 0)) from (by rw [HG.out.block (s0) (Nat.lt_of_lt_of_le (hsi) (by simp; omega)) (fun e => by have := HNb.out _ e.symm; omega), hn_pastN _ _ (s0) (Nat.lt_of_lt_of_le (hsi) (by omega)), HB3.out.block (s0) (Nat.lt_of_lt_of_le (hsi) (by simp)), hn_pastN _ _ (s0) (hsi)]; exact KA.out))
            have hw2 : s0 < w2.heap.size := by have := (Array.getElem?_eq_some_iff.1 KA2.out).1; omega
            have T2 := Lib.hid (tab_same (W' := w2) HTab.out (by have h8 := HG.out.size; simp at h8; omega) (fun i hi => by rw [HG.out.block ((gs.getD i (0, 0)).1) (Nat.lt_of_lt_of_le ((HTab.out i hi).2.1) (by simp; omega)) (fun e => by have h7 := HNb.out _ e.symm; have h6 := HGL.out i hi; omega), hn_pastN _ _ ((gs.getD i (0, 0)).1) (Nat.lt_of_lt_of_le ((HTab.out i hi).2.1) (by omega)), HB3.out.block ((gs.getD i (0, 0)).1) (Nat.lt_of_lt_of_le ((HTab.out i hi).2.1) (by simp)), hn_pastN _ _ ((gs.getD i (0, 0)).1) ((HTab.out i hi).2.1)]))
            go_roundw
            case rel => first | exact ⟨m + 1, by omega, by go_num, Lib.hid (by rw [HV.out, ints_app]; exact HR2.out), HNn2, U2, T2, KF2, KA2, hw2, Lib.hid hsg⟩ | exact ⟨m + 1, by omega, by first | go_num | omega, Lib.hid (by rw [HV.out, ints_app]; exact HR2.out), HNn2, U2, T2, KF2, KA2, hw2, Lib.hid hsg⟩
            case measure => simp [intOf]; omega
        · have hmn : m = n2 := by omega
          rw [hmn] at HR
          obtain ⟨gq, cq, hrq, hq1, hq2, hq3, hq4, hq5⟩ := own_rowI HR.out (bits_length f n2) HNn.out
          subst hrq
          have KT := Lib.hid (tab_snoc HTab.out (by omega) hq2 hq3 hq4 (by rw [hgs, HRow.out]; exact hq5) (fun j hj => by have := HGL.out j hj; omega))
          have hln : (gs ++ [(gq, cq)]).length = k + 1 := by simp [hgs]
          have hnb := own_base' HOut.out
          have HNb := Lib.hid hnb
          clear hnb hmn HRow HFd hq4 hq5
          have hsw := HB.out.size
          go_wp2_with (at_builtin; go_loud (refine wpList_append_own _ rfl _ _ 41 rfl (w.heap.size + 1) 36 j0 (.slice none 0 0) 1 24 Try.underlying41 HJ0.out HY0.out HY1.out HY2.out rfl (by decide) _ _ _ rfl (HOut.out.alloc _) ⟨wr.heap.size, 0, none⟩ 1 1 [rowQ n2 (gq, cq)] rfl rfl (newI _ _ _) (row_one _ _) (by unfold maxLen; omega) (by omega) (by first | omega | (simp; done) | (simp; omega)) ?_; intro v2 w2 hown hgrow _; have HO2 := Lib.hid hown; have HG := Lib.hid hgrow; clear hown hgrow))
          have BM := bal HB.out (.cells #[rowQ n2 (gq, cq)] 36)
          have hsg : Below w.heap.size w w2 := BM.grown HG.out BM.size (fun k' hk' => by have := HNb.out k' hk'; omega)
          have PF2 := Lib.hid (show w2.heap[w.heap.size]? = some (.cells #[.slice (some ⟨ga, oa, none⟩) n1 c1, .slice b2 n2 c2] 29 (0, 0)) from (by rw [HG.out.block (w.heap.size) (by first | omega | (simp; done) | (simp; omega)) (fun e => by have := HNb.out _ e.symm; omega), hn_pastN _ _ _ lf]; exact KF.out))
          have T2 := Lib.hid (tab_same (W' := w2) KT.out (by have h8 := HG.out.size; simp at h8; omega) (fun i hi => by obtain ⟨_, t2, _, ⟨cur, t4, _⟩, _, _⟩ := KT.out i hi; rw [HG.out.block _ (Nat.lt_of_lt_of_le t2 (by simp)) (fun e => own_neT HOut.out t4 (by decide) e.symm), hn_pastN _ _ _ t2]))
          go_roundw
          case rel => first | exact ⟨k + 1, gs ++ [(gq, cq)], by omega, by go_num, hln, Lib.hid (by rw [List.map_append]; exact HO2.out), T2, PF2, Lib.hid hsg⟩ | exact ⟨k + 1, by omega, by first | go_num | omega, gs ++ [(gq, cq)], hln, Lib.hid (by rw [List.map_append]; exact HO2.out), T2, PF2, Lib.hid hsg⟩
          case measure => simp [intOf]; omega
    · have hkn : k = n1 := by omega
      rw [hkn] at HOut hgs
      clear hkn
      go_wp2
      go_ret
      exact ⟨_, gs, rfl, hgs, own_low HOut.out (by omega), tab_low HTab.out (by omega), HB.out⟩
set_option maxRecDepth 20000 in
set_option maxHeartbeats 8000000 in
theorem l09Table_any (p : Int) (b1 : Option Addr) (n1 c1 : Nat) (b2 : Option Addr) (n2 c2 : Nat) (l1 l2 : List Pt) (w : World) (hp : prB p = true) (m1 : n1 ≤ 16) (m2 : n2 ≤ 16) (h1 : ListP w b1 n1 l1) (h2 : ListP w b2 n2 l2) (q1 : ∀ a ∈ l1, In13 a) (q2 : ∀ a ∈ l2, In13 a) :
    Calls Try.prog 38 #[.int .i64 p, figV b1 n1 c1 b2 n2 c2] w (TabPost w n1 n2 (tblR p l1 l2 n2)) := by
  have HL1 := Lib.hid h1
  have HL2 := Lib.hid h2
  have hl1 := h1.1
  have hl2 := h2.1
  have HO := Lib.hid (fun (W : World) (a0 a1 a2 z0 z1 z2 : Int) (ha : In13 (a0, a1, a2)) (hz : In13 (z0, z1, z2)) => l01On_any p a0 a1 a2 z0 z1 z2 W hp ha hz)
  have Q1 := Lib.hid q1
  have Q2 := Lib.hid q2
  obtain ⟨i0, hi, hz0, hz1, hz2⟩ := info_parts info64
  have HI0 := Lib.hid hi; have HZ0 := Lib.hid hz0; have HZ1 := Lib.hid hz1; have HZ2 := Lib.hid hz2
  obtain ⟨j0, hj, hy0, hy1, hy2⟩ := info_parts infoSl
  have HJ0 := Lib.hid hj; have HY0 := Lib.hid hy0; have HY1 := Lib.hid hy1; have HY2 := Lib.hid hy2
  clear h1 h2 hp q1 q2 hi hz0 hz1 hz2 hj hy0 hy1 hy2
  go_enter Try.func38, Try.ntmps38
  go_wp2
  go_loopw [5, 6] (fun v i wr => ∃ (k : Nat) (gs : List (Nat × Nat)), k ≤ n1 ∧ i = .int .i64 k ∧ gs.length = k ∧ Hid (wr.ownsRow (w.heap.size + 1) 36 1 v k (gs.map (rowQ n2))) ∧ Hid (TabAt wr (w.heap.size + 1) n2 (tblR p l1 l2 n2) gs) ∧ Hid (wr.heap[w.heap.size]? = some (.cells #[.slice b1 n1 c1, .slice b2 n2 c2] 29 (0, 0))) ∧ Hid (Below w.heap.size w wr)) (fun _ i wr => n1 - (intOf i).toNat)
  case atStart => exact ⟨0, [], Nat.zero_le _, rfl, rfl, Lib.hid ⟨rfl, .inr ⟨w.heap.size + 1, 0, #[], rfl, Nat.le_refl _, by rw [hn_atN _ _ _ (by simp)], Nat.le_refl _, by unfold maxLen; omega, rfl, rfl⟩⟩, Lib.hid (fun i hi => absurd hi (by simp)), Lib.hid (by rw [hn_pastN _ _ _ (by simp), hn_atN _ _ _ rfl]), Lib.hid (by repeat (first | exact Below.refl _ _ | refine bset ?_ _ _ (by omega) _ | refine bal ?_ _ | refine bdrN ?_ _ | refine bdr ?_))⟩
  case round =>
    obtain ⟨k, gs, hk, rfl, hgs, HOut, HTab, KF, HB⟩ := hrel
    have lf := (Array.getElem?_eq_some_iff.1 KF.out).1
    have xf0 : wr.cell? ⟨w.heap.size, 0, none⟩ = some (.slice b1 n1 c1) := rowV KF.out rfl
    have xf1 : wr.cell? ⟨w.heap.size, 1, none⟩ = some (.slice b2 n2 c2) := rowV KF.out rfl
    by_cases hlt : k < n1
    · obtain ⟨ga, oa, rfl, hp1⟩ := HL1.out.2 (by omega)
      have HPA := Lib.hid (hp1 k hlt)
      obtain ⟨d0, d1, d2⟩ := (hp1.below HB.out) k hlt
      clear hp1
      have hina : In13 (l1.getD k (0, 0, 0)) := Q1.out _ (by simp [List.getD, show k < l1.length by omega])
      obtain ⟨f, hf⟩ : ∃ f, tblF p l1 l2 k = f := ⟨_, rfl⟩
      have HFd : Hid (∀ j, f j = onB p (l1.getD k (0, 0, 0)) (l2.getD j (0, 0, 0))) := Lib.hid (fun j => by rw [← hf]; rfl)
      have HRow : Hid (tblR p l1 l2 n2 k = bits f n2) := Lib.hid (by unfold tblR; rw [hf])
      clear hf
      generalize l1.getD k (0, 0, 0) = a at *
      obtain ⟨a0, a1, a2⟩ := a
      have hgl : ∀ i, i < gs.length → (gs.getD i (0, 0)).1 < wr.heap.size := fun i hi => (HTab.out i hi).2.1
      have HGL := Lib.hid hgl
      clear hgl
      have hszw := HB.out.size
      go_wp2
      have o0 : Hid ((wr.alloc (.cells #[] 2)).ownsRow wr.heap.size 2 1 (.slice (some ⟨wr.heap.size, 0, none⟩) 0 0) 0 (ints (bits f 0))) := Lib.hid ⟨rfl, .inr ⟨wr.heap.size, 0, #[], rfl, Nat.le_refl _, by rw [hn_atN _ _ _ (by simp)], Nat.le_refl _, by unfold maxLen; omega, rfl, rfl⟩⟩
      have U0 := Lib.hid (own_same (W' := (wr.alloc (.cells #[] 2))) HOut.out (fun b hb => by rw [hn_pastN _ _ (b) (own_lt HOut.out b hb)]))
      have T0 := Lib.hid (tab_same (W' := (wr.alloc (.cells #[] 2))) HTab.out (by simp) (fun i hi => by rw [hn_pastN _ _ ((gs.getD i (0, 0)).1) (HGL.out i hi)]))
      have F0 : Hid ((wr.alloc (.cells #[] 2)).heap[w.heap.size]? = some (.cells #[.slice (some ⟨ga, oa, none⟩) n1 c1, .slice b2 n2 c2] 29 (0, 0))) := Lib.hid (by rw [hn_pastN _ _ (w.heap.size) (lf)]; exact KF.out)
      have B0 : Hid (Below w.heap.size w (wr.alloc (.cells #[] 2))) := Lib.hid (bal HB.out _)
      have S0 : wr.heap.size < (wr.alloc (.cells #[] 2)).heap.size := by simp
      have hws := lf
      generalize (wr.alloc (.cells #[] 2)) = V0 at *
      generalize hs0 : wr.heap.size = s0 at *
      go_loopw [7, 8] (fun r j wr => ∃ (m : Nat), m ≤ n2 ∧ j = .int .i64 m ∧ Hid (wr.ownsRow s0 2 1 r m (ints (bits f m))) ∧ Hid (r ≠ .slice none 0 0) ∧ Hid (wr.ownsRow (w.heap.size + 1) 36 1 u5 k (gs.map (rowQ n2))) ∧ Hid (TabAt wr (w.heap.size + 1) n2 (tblR p l1 l2 n2) gs) ∧ Hid (wr.heap[w.heap.size]? = some (.cells #[.slice (some ⟨ga, oa, none⟩) n1 c1, .slice b2 n2 c2] 29 (0, 0))) ∧ s0 < wr.heap.size ∧ Hid (Below w.heap.size w wr)) (fun _ j wr => n2 - (intOf j).toNat)
      case atStart => exact ⟨0, Nat.zero_le _, rfl, o0, Lib.hid (by simp), U0, T0, F0, S0, B0⟩
      case round =>
        clear o0 U0 T0 F0 B0 S0 KF HB HOut HTab xf0 xf1 lf
        obtain ⟨m, hm, rfl, HR, HNn, HOut, HTab, KF, hsi, HB⟩ := hrel
        have lf := (Array.getElem?_eq_some_iff.1 KF.out).1
        have xf0 : wr.cell? ⟨w.heap.size, 0, none⟩ = some (.slice (some ⟨ga, oa, none⟩) n1 c1) := rowV KF.out rfl
        have xf1 : wr.cell? ⟨w.heap.size, 1, none⟩ = some (.slice b2 n2 c2) := rowV KF.out rfl
        by_cases hlm : m < n2
        · obtain ⟨gz, oz, rfl, hp2⟩ := HL2.out.2 (by omega)
          obtain ⟨e0, e1, e2⟩ := (hp2.below HB.out) m hlm
          clear hp2
          have hinz : In13 (l2.getD m (0, 0, 0)) := Q2.out _ (by simp [List.getD, show m < l2.length by omega])
          have HFm := Lib.hid (HFd.out m)
          have HBs := Lib.hid (bits_succ f m)
          obtain ⟨g0, g1, g2⟩ := HPA.out
          have d0 := cell_below HB.out g0
          have d1 := cell_below HB.out g1
          have d2 := cell_below HB.out g2
          clear g0 g1 g2
          generalize l2.getD m (0, 0, 0) = z at *
          obtain ⟨z0, z1, z2⟩ := z
          have HC := Lib.hid (fun (W : World) => HO.out W a0 a1 a2 z0 z1 z2 hina hinz)
          have hnb := own_base' HR.out
          have HNb := Lib.hid hnb
          clear hnb
          have hsw := HB.out.size
          go_wp2
          refine region_calm [(25, .int .i64 p), (26, .pointer (some ⟨w.heap.size, 0, none⟩)), (27, .slice (some ⟨ga, oa, none⟩) n1 c1), (28, .int .i64 (k : Int)), (29, .pointer (some ⟨ga, oa + k * 3, none⟩)), (30, ptV a0 a1 a2), (31, .pointer (some ⟨w.heap.size, 1, none⟩)), (32, .slice (some ⟨gz, oz, none⟩) n2 c2), (33, .int .i64 (m : Int)), (34, .pointer (some ⟨gz, oz + m * 3, none⟩)), (35, ptV z0 z1 z2), (36, .bool (onB p (a0, a1, a2) (z0, z1, z2)))] (by kernel_rfl) (by kernel_rfl) (by kernel_rfl) (fun aE hpe => ?_)
          simp only [puts, Act.put, List.setIfInBounds_toArray, List.set_cons_zero, List.set_cons_succ] at hpe
          subst hpe
          refine ⟨⟨.inr (.inr ?_), .inr (.inr ?_), .inr (.inr ?_), .inr (.inr ?_), .inr (.inr ?_), .inr (.inr ?_), .inr (.inr ?_), .inr (.inr ?_), .inr (.inr ?_), .inr (.inr ?_), .inr (.inr ?_), .inr (.inr ?_), trivial⟩, ?_⟩
          · exact Calm.mk 25 (.int .i64 p) rfl rfl (fun W hW => calm_move (.tmp 0) rfl rfl)
          · exact Calm.mk 26 (.pointer (some ⟨w.heap.size, 0, none⟩)) rfl rfl (fun W hW => calm_run (by simp [execOp, Act.eval, go_sem]))
          · exact Calm.mk 27 (.slice (some ⟨ga, oa, none⟩) n1 c1) rfl rfl (fun W hW => calm_run (by have hc := cell_below hW xf0; simp [execOp, Act.eval, go_sem, hc]))
          · exact Calm.mk 28 (.int .i64 (k : Int)) rfl rfl (fun W hW => calm_move (.tmp 6) rfl rfl)
          · exact Calm.mk 29 (.pointer (some ⟨ga, oa + k * 3, none⟩)) rfl rfl (fun W hW => calm_run (by simp [execOp, Act.eval, go_sem, hlt]))
          · exact Calm.mk 30 (ptV a0 a1 a2) rfl rfl (fun W hW => calm_loadPt 49 (.tmp 29) rfl rfl (cell_below hW d0) (cell_below hW d1) (cell_below hW d2) Try.sizeOf49 Try.isAgg49)
          · exact Calm.mk 31 (.pointer (some ⟨w.heap.size, 1, none⟩)) rfl rfl (fun W hW => calm_run (by simp [execOp, Act.eval, go_sem]))
          · exact Calm.mk 32 (.slice (some ⟨gz, oz, none⟩) n2 c2) rfl rfl (fun W hW => calm_run (by have hc := cell_below hW xf1; simp [execOp, Act.eval, go_sem, hc]))
          · exact Calm.mk 33 (.int .i64 (m : Int)) rfl rfl (fun W hW => calm_move (.tmp 8) rfl rfl)
          · exact Calm.mk 34 (.pointer (some ⟨gz, oz + m * 3, none⟩)) rfl rfl (fun W hW => calm_run (by simp [execOp, Act.eval, go_sem, hlm]))
          · exact Calm.mk 35 (ptV z0 z1 z2) rfl rfl (fun W hW => calm_loadPt 50 (.tmp 34) rfl rfl (cell_below hW e0) (cell_below hW e1) (cell_below hW e2) Try.sizeOf50 Try.isAgg50)
          · exact Calm.mk 36 (.bool (onB p (a0, a1, a2) (z0, z1, z2))) rfl rfl (fun W hW => calm_call 49 _ #[.int .i64 p, ptV a0 a1 a2, ptV z0 z1 z2] rfl rfl rfl (by simp [Act.eval]) (Try.call49 _ _) (HC.out W))
          intro W hW
          have hsW := hW.size
          replace HR := Lib.hid (own_below HR.out hW)
          replace HOut := Lib.hid (own_below HOut.out hW)
          replace HTab := Lib.hid (tab_below HTab.out hW)
          replace KF := Lib.hid ((hW.block _ lf).trans KF.out)
          replace HB := Lib.hid (low_tr' HB.out hW HB.out.size)
          replace lf := (Array.getElem?_eq_some_iff.1 KF.out).1
          have hBW : s0 ≤ W.heap.size := by omega
          clear hW xf0 xf1 d0 d1 d2 e0 e1 e2 HC
          cases hb : onB p (a0, a1, a2) (z0, z1, z2) with
          | true =>
            have HV : Hid (bits f (m + 1) = bits f m ++ [1]) := Lib.hid (by rw [HBs.out, HFm.out, hb]; rfl)
            clear HBs HFm
            go_wp2_with (at_builtin; go_loud (refine wpList_append_own _ rfl _ _ 36 rfl s0 2 i0 (.int .i64 0) 1 8 Try.underlying36 HI0.out HZ0.out HZ1.out HZ2.out rfl (by decide) _ _ _ rfl (HR.out.alloc _) ⟨W.heap.size, 0, none⟩ 1 1 [.int .i64 1] rfl rfl (newI _ _ _) (one1 _ _) (by unfold maxLen; omega) (by omega) (by first | omega | (simp; done) | (simp; omega)) ?_; intro v2 w2 hown hgrow hnil; have HR2 := Lib.hid hown; have HG := Lib.hid hgrow; have HNn2 := Lib.hid (fun h => by have := (hnil.1 h).2; omega : v2 ≠ .slice none 0 0); clear hown hgrow hnil))
            have BM := bal HB.out (.cells #[.int .i64 1] 2)
            have hsg : Below w.heap.size w w2 := BM.grown HG.out BM.size (fun k' hk' => by have := HNb.out k' hk'; omega)
            have U2 := Lib.hid (own_same (W' := w2) HOut.out (fun b hb' => by rw [HG.out.block (b) (Nat.lt_of_lt_of_le (own_lt HOut.out b hb') (by simp)) (own_neO HOut.out HR.out (by decide) b hb'), hn_pastN _ _ (b) (own_lt HOut.out b hb')]))
            have KF2 := Lib.hid (show w2.heap[w.heap.size]? = some (.cells #[.slice (some ⟨ga, oa, none⟩) n1 c1, .slice (some ⟨gz, oz, none⟩) n2 c2] 29 (0, 0)) from (by rw [HG.out.block (w.heap.size) (Nat.lt_of_lt_of_le (lf) (by simp)) (fun e => by have := HNb.out _ e.symm; omega), hn_pastN _ _ (w.heap.size) (lf)]; exact KF.out))
            have hw2 : s0 < w2.heap.size := own_szl HR2.out (by omega)
            have T2 := Lib.hid (tab_same (W' := w2) HTab.out (by have h8 := HG.out.size; simp at h8; omega) (fun i hi => by rw [HG.out.block ((gs.getD i (0, 0)).1) (Nat.lt_of_lt_of_le ((HTab.out i hi).2.1) (by simp)) (fun e => by have h7 := HNb.out _ e.symm; have h6 := HGL.out i hi; omega), hn_pastN _ _ ((gs.getD i (0, 0)).1) ((HTab.out i hi).2.1)]))
            go_roundw
            case rel => first | exact ⟨m + 1, by omega, by go_num, Lib.hid (by rw [HV.out, ints_app]; exact HR2.out), HNn2, U2, T2, KF2, hw2, Lib.hid hsg⟩ | exact ⟨m + 1, by omega, by first | go_num | omega, Lib.hid (by rw [HV.out, ints_app]; exact HR2.out), HNn2, U2, T2, KF2, hw2, Lib.hid hsg⟩
            case measure => simp [intOf]; omega
          | false =>
            have HV : Hid (bits f (m + 1) = bits f m ++ [0]) := Lib.hid (by rw [HBs.out, HFm.out, hb]; rfl)
            clear HBs HFm
            go_wp2_with (at_builtin; go_loud (refine wpList_append_own _ rfl _ _ 36 rfl s0 2 i0 (.int .i64 0) 1 8 Try.underlying36 HI0.out HZ0.out HZ1.out HZ2.out rfl (by decide) _ _ _ rfl (HR.out.alloc _) ⟨W.heap.size, 0, none⟩ 1 1 [.int .i64 0] rfl rfl (newI _ _ _) (one1 _ _) (by unfold maxLen; omega) (by omega) (by first | omega | (simp; done) | (simp; omega)) ?_; intro v2 w2 hown hgrow hnil; have HR2 := Lib.hid hown; have HG := Lib.hid hgrow; have HNn2 := Lib.hid (fun h => by have := (hnil.1 h).2; omega : v2 ≠ .slice none 0 0); clear hown hgrow hnil))
            have BM := bal HB.out (.cells #[.int .i64 0] 2)
            have hsg : Below w.heap.size w w2 := BM.grown HG.out BM.size (fun k' hk' => by have := HNb.out k' hk'; omega)
            have U2 := Lib.hid (own_same (W' := w2) HOut.out (fun b hb' => by rw [HG.out.block (b) (Nat.lt_of_lt_of_le (own_lt HOut.out b hb') (by simp)) (own_neO HOut.out HR.out (by decide) b hb'), hn_pastN _ _ (b) (own_lt HOut.out b hb')]))
            have KF2 := Lib.hid (show w2.heap[w.heap.size]? = some (.cells #[.slice (some ⟨ga, oa, none⟩) n1 c1, .slice (some ⟨gz, oz, none⟩) n2 c2] 29 (0, 0)) from (by rw [HG.out.block (w.heap.size) (Nat.lt_of_lt_of_le (lf) (by simp)) (fun e => by have := HNb.out _ e.symm; omega), hn_pastN _ _ (w.heap.size) (lf)]; exact KF.out))
            have hw2 : s0 < w2.heap.size := own_szl HR2.out (by omega)
            have T2 := Lib.hid (tab_same (W' := w2) HTab.out (by have h8 := HG.out.size; simp at h8; omega) (fun i hi => by rw [HG.out.block ((gs.getD i (0, 0)).1) (Nat.lt_of_lt_of_le ((HTab.out i hi).2.1) (by simp)) (fun e => by have h7 := HNb.out _ e.symm; have h6 := HGL.out i hi; omega), hn_pastN _ _ ((gs.getD i (0, 0)).1) ((HTab.out i hi).2.1)]))
            go_roundw
            case rel => first | exact ⟨m + 1, by omega, by go_num, Lib.hid (by rw [HV.out, ints_app]; exact HR2.out), HNn2, U2, T2, KF2, hw2, Lib.hid hsg⟩ | exact ⟨m + 1, by omega, by first | go_num | omega, Lib.hid (by rw [HV.out, ints_app]; exact HR2.out), HNn2, U2, T2, KF2, hw2, Lib.hid hsg⟩
            case measure => simp [intOf]; omega
        · have hmn : m = n2 := by omega
          rw [hmn] at HR
          obtain ⟨gq, cq, hrq, hq1, hq2, hq3, hq4, hq5⟩ := own_rowI HR.out (bits_length f n2) HNn.out
          subst hrq
          have KT := Lib.hid (tab_snoc HTab.out (by omega) hq2 hq3 hq4 (by rw [hgs, HRow.out]; exact hq5) (fun j hj => by have := HGL.out j hj; omega))
          have hln : (gs ++ [(gq, cq)]).length = k + 1 := by simp [hgs]
          have hnb := own_base' HOut.out
          have HNb := Lib.hid hnb
          clear hnb hmn HRow HFd hq4 hq5
          have hsw := HB.out.size
          go_wp2_with (at_builtin; go_loud (refine wpList_append_own _ rfl _ _ 41 rfl (w.heap.size + 1) 36 j0 (.slice none 0 0) 1 24 Try.underlying41 HJ0.out HY0.out HY1.out HY2.out rfl (by decide) _ _ _ rfl (HOut.out.alloc _) ⟨wr.heap.size, 0, none⟩ 1 1 [rowQ n2 (gq, cq)] rfl rfl (newI _ _ _) (row_one _ _) (by unfold maxLen; omega) (by omega) (by first | omega | (simp; done) | (simp; omega)) ?_; intro v2 w2 hown hgrow _; have HO2 := Lib.hid hown; have HG := Lib.hid hgrow; clear hown hgrow))
          have BM := bal HB.out (.cells #[rowQ n2 (gq, cq)] 36)
          have hsg : Below w.heap.size w w2 := BM.grown HG.out BM.size (fun k' hk' => by have := HNb.out k' hk'; omega)
          have PF2 := Lib.hid (show w2.heap[w.heap.size]? = some (.cells #[.slice (some ⟨ga, oa, none⟩) n1 c1, .slice b2 n2 c2] 29 (0, 0)) from (by rw [HG.out.block (w.heap.size) (by first | omega | (simp; done) | (simp; omega)) (fun e => by have := HNb.out _ e.symm; omega), hn_pastN _ _ _ lf]; exact KF.out))
          have T2 := Lib.hid (tab_same (W' := w2) KT.out (by have h8 := HG.out.size; simp at h8; omega) (fun i hi => by obtain ⟨_, t2, _, ⟨cur, t4, _⟩, _, _⟩ := KT.out i hi; rw [HG.out.block _ (Nat.lt_of_lt_of_le t2 (by simp)) (fun e => own_neT HOut.out t4 (by decide) e.symm), hn_pastN _ _ _ t2]))
          go_roundw
          case rel => first | exact ⟨k + 1, gs ++ [(gq, cq)], by omega, by go_num, hln, Lib.hid (by rw [List.map_append]; exact HO2.out), T2, PF2, Lib.hid hsg⟩ | exact ⟨k + 1, by omega, by first | go_num | omega, gs ++ [(gq, cq)], hln, Lib.hid (by rw [List.map_append]; exact HO2.out), T2, PF2, Lib.hid hsg⟩
          case measure => simp [intOf]; omega
    · have hkn : k = n1 := by omega
      rw [hkn] at HOut hgs
      clear hkn
      go_wp2
      go_ret
      exact ⟨_, gs, rfl, hgs, own_low HOut.out (by omega), tab_low HTab.out (by omega), HB.out⟩
end Go.Proofs.Ytidbikjdigemnaa
