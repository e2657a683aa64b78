/- Texts of the claim, in build order: L1, L2, L4. No condition. -/
import Derived.Test.YtkhaiphipdpgeaaZTranslateOf10
/- Laws with a list of numbers in and a list of numbers out: what their helpers do, in facts that a search finds. -- numbers -/
namespace Go.Proofs.Ytkhaiphipdpgeaa
open Go.RowKit
set_option linter.unusedVariables false
set_option linter.unusedSimpArgs false
/-- All blocks but one are as they were. -/
structure SaveK (g : Nat) (w W : World) : Prop where
  out : Save g w W
/-- A block of numbers that can be written. -/
structure RoomK (W : World) (g cap : Nat) (T : TypeId) : Prop where
  out : RoomI W g cap T
theorem IntsK.at {W : World} {b o n : Nat} {L : List Int} (h : IntsK W b o n L) : IntsAt W b o n L := h.out
theorem IntsK.save {w W : World} {g b o n : Nat} {L : List Int} (hs : SaveK g w W) (hne : b ≠ g) (h : IntsK w b o n L) : IntsK W b o n L := ⟨fun i hi => by
  have h1 := h.out i hi
  have hlt : b < w.heap.size := World.block_lt_of_cell? w _ h1
  rw [← h1]
  unfold World.cell?
  rw [hs.out.block b hlt hne]⟩
theorem RoomK.lt {W : World} {g cap : Nat} {T : TypeId} (h : RoomK W g cap T) : g < W.heap.size := by
  obtain ⟨cur, h1, -⟩ := h.out
  exact (Array.getElem?_eq_some_iff.1 h1).1
theorem RoomK.link {w W : World} {g cap : Nat} {T : TypeId} (l : Link w W) (h : RoomK w g cap T) : RoomK W g cap T := ⟨h.out.below l.out⟩
theorem RoomK.save {w W : World} {g b cap : Nat} {T : TypeId} (hs : SaveK g w W) (hne : b ≠ g) (h : RoomK w b cap T) : RoomK W b cap T := by
  obtain ⟨cur, h1, h2⟩ := h.out
  exact ⟨⟨cur, by rw [hs.out.block b (Array.getElem?_eq_some_iff.1 h1).1 hne]; exact h1, h2⟩⟩
theorem LowK.save {w w1 W : World} {g : Nat} (hs : SaveK g w1 W) (hg : w.heap.size ≤ g) (h : LowK w w1) : LowK w W := ⟨hs.out.below h.out hg h.out.size⟩
theorem fI {W : World} {b o n : Nat} {L : List Int} (h : IntsK W b o n L := by repeat (first | with_reducible assumption | (apply IntsK.link; (· with_reducible assumption)) | (apply IntsK.save; (· with_reducible assumption); (· omega)))) : IntsK W b o n L := h
theorem fR {W : World} {g cap : Nat} {T : TypeId} (h : RoomK W g cap T := by repeat (first | with_reducible assumption | (apply RoomK.link; (· with_reducible assumption)) | (apply RoomK.save; (· with_reducible assumption); (· omega)))) : RoomK W g cap T := h
theorem fL {w W : World} (h : LowK w W := by repeat (first | with_reducible assumption | with_reducible exact LowK.refl _ | (apply LowK.link; (· with_reducible assumption)) | (apply LowK.save; (· with_reducible assumption); (· omega)))) : LowK w W := h
/-- A copy of an argument. -/
structure CopyK (w : World) (k : Nat) (l : List Int) (e : Ending) (w' : World) : Prop where
  out : ∃ g, e = .returned (.slice (some ⟨g, 0, none⟩) k (k + roomN k)) ∧ w.heap.size ≤ g ∧ g < w'.heap.size ∧ RoomK w' g (k + roomN k) 2 ∧ IntsK w' g 0 (k + roomN k) (withRoomI l) ∧ IntsK w' g 0 k l ∧ Link w w'
theorem copy_K (b : Option Addr) (k cap : Nat) (bare : Bool) (l : List Int) (w0 w : World) (hl : l.length = k) (hn : k ≤ 1000000) (hb : bare = false ∨ 0 < k) (hc : ArgI w0 b k l) (hL : LowK w0 w) :
    Calls Try.prog 9 #[.slice b k cap, .bool bare] w (CopyK w k l) :=
  (toInt64S_k b k cap bare l w hl hn hb (hc.below hL.out)).mono fun e w' ⟨g, he, h1, h2, h3, h4, h5⟩ =>
    ⟨g, he, h1, h2, ⟨h3⟩, ⟨h4⟩, ⟨fun i hi => by subst hl; rw [h4 i (by omega), withRoomI_at l i hi]⟩, Link.mk h5⟩
theorem intact_K (g g2 k : Nat) (L : List Int) (w : World) (hn : k ≤ 1000000) (h1 : IntsK w g 0 (k + roomN k) L) (h2 : IntsK w g2 0 (k + roomN k) L) :
    Calls Try.prog 12 #[.slice (some ⟨g, 0, none⟩) k (k + roomN k), .slice (some ⟨g2, 0, none⟩) k (k + roomN k)] w (Ret w (.bool true)) :=
  intactInt64S_same g g2 k L w hn h1.out h2.out
theorem eq_K (g g2 n c c2 : Nat) (L : List Int) (w : World) (hn : n ≤ 1000000) (h1 : IntsK w g 0 n L) (h2 : IntsK w g2 0 n L) :
    Calls Try.prog 11 #[.slice (some ⟨g, 0, none⟩) n c, .slice (some ⟨g2, 0, none⟩) n c2] w (Ret w (.bool true)) :=
  eqInt64S_same g g2 n c c2 L w (by omega) h1.out h2.out
structure MarkK (g n : Nat) (M : Int) (w : World) (e : Ending) (w' : World) : Prop where
  out : e = .returned (.int .i64 M) ∧ SaveK g w w' ∧ w.heap.size ≤ w'.heap.size ∧ IntsK w' g 0 n (markI 101 n)
theorem mark_K (g n c cap : Nat) (T : TypeId) (w : World) (hr : RoomK w g cap T) (hn : n ≤ cap) (h1 : n ≤ 1000000) (M : Int) (hM : ((101 + n : Nat) : Int) = M) :
    Calls Try.prog 13 #[.slice (some ⟨g, 0, none⟩) n c, .int .i64 101] w (MarkK g n M w) :=
  (markI_101 g n c cap T w hr.out hn h1 M hM).mono fun e w' ⟨h1, h2, h3⟩ => ⟨h1, ⟨h2⟩, h2.size, ⟨h3⟩⟩
theorem held_K (g n c : Nat) (w : World) (h1 : n ≤ 1000000) (hp : IntsK w g 0 n (markI 101 n)) (M : Int) (hM : ((101 + n : Nat) : Int) = M) :
    Calls Try.prog 14 #[.slice (some ⟨g, 0, none⟩) n c, .int .i64 101] w (Ret w (.int .i64 M)) := heldI_101 g n c w h1 hp.out M hM
theorem markZ_K (b : Option Addr) (k c : Nat) (q : Int) (w : World) (h : k = 0) : Calls Try.prog 13 #[.slice b k c, .int .i64 q] w fun e w' => e = .returned (.int .i64 q) ∧ w = w' := by
  subst h; exact markInt64S_nil b c q w
/-- A new list, not empty, and no error. -/
structure MadeK (w : World) (n : Nat) (R : List Int) (e : Ending) (w' : World) : Prop where
  out : ∃ g c, e = .returned (.tuple #[.slice (some ⟨g, 0, none⟩) n c, .int .i64 0]) ∧ w.heap.size ≤ g ∧ g < w'.heap.size ∧ n ≤ c ∧ RoomK w' g c 2 ∧ IntsK w' g 0 n R ∧ Link w w'
/-- A new list, empty, and no error. -/
structure NoneK (w : World) (e : Ending) (w' : World) : Prop where
  out : ∃ b c, e = .returned (.tuple #[.slice b 0 c, .int .i64 0]) ∧ Link w w'
theorem MadeK.of {w w' : World} {n : Nat} {R : List Int} {e : Ending} (h : IntsPost2 w R e w') (hl : R.length = n) (hn : 0 < n) : MadeK w n R e w' := by
  obtain ⟨v, he, ho, hb⟩ := h
  rw [hl] at ho
  obtain ⟨g, c, rfl, h1, h2, h3, h4, h5⟩ := own_roomI ho hl hn
  exact ⟨g, c, he, h1, h2, h3, ⟨h4⟩, ⟨h5⟩, Link.mk hb⟩
theorem NoneK.of {w w' : World} {R : List Int} {e : Ending} (h : IntsPost2 w R e w') (hl : R.length = 0) : NoneK w e w' := by
  obtain ⟨v, he, ho, hb⟩ := h
  rw [hl] at ho
  rcases ho.2 with ⟨rfl, -⟩ | ⟨g, cap, cur, rfl, -⟩
  · exact ⟨none, 0, he, Link.mk hb⟩
  · exact ⟨_, cap, he, Link.mk hb⟩
theorem ArgK.zero {W : World} {b : Option Addr} {n : Nat} {l : List Int} (h : n = 0) : ArgK W b n l := ⟨fun h0 => by omega⟩
theorem ArgK.at {W : World} {g n : Nat} {l : List Int} (h : IntsK W g 0 n l) : ArgK W (some ⟨g, 0, none⟩) n l := ⟨fun _ => ⟨g, rfl, h⟩⟩
end Go.Proofs.Ytkhaiphipdpgeaa
/- The law FnExactTranslateSet: walked, from what the two sides do. -- numbers -/
namespace Go.Proofs.Ytkhaiphipdpgeaa
open Go.RowKit
set_option linter.unusedVariables false
set_option linter.unusedSimpArgs false
set_option maxHeartbeats 4000000 in
theorem FnExactTranslateSet_big (n t : Int) (b : Option Addr) (k cap : Nat) (w : World) (hk : 1000000 < k) :
    Calls Try.prog 3 #[.int .i64 n, .slice b k cap, .int .i64 t] w (Ret w (.bool true)) := by
  have hz : (1000000 : Int) < (k : Int) := by omega
  go_enter Try.func3, Try.ntmps3
  go_wp2
  go_ret
  exact ⟨rfl, Below.refl _ _⟩
set_option maxRecDepth 20000 in
set_option maxHeartbeats 8000000 in
theorem FnExactTranslateSet_pos_made (n t : Int) (b : Option Addr) (k cap : Nat) (l : List Int) (w : World) (hl : l.length = k) (hk : k ≤ 1000000) (hc : ArgI w b k l) (h0 : 0 < k) (Q : Nat) (R : List Int) (hQ0 : 0 < Q) (hQ1 : Q ≤ 1000000)
    (HS0 : ∀ (W : World) (b : Option Addr) (c : Nat), ArgK W b k l → Calls Try.prog 8 #[.int .i64 n, .slice b k c, .int .i64 t] W (MadeK W Q R)) (HI1 : ∀ (W : World) (b : Option Addr) (c : Nat), ArgK W b k l → Calls Try.prog 10 #[.int .i64 n, .slice b k c, .int .i64 t] W (MadeK W Q R)) :
    Calls Try.prog 3 #[.int .i64 n, .slice b k cap, .int .i64 t] w (Ret w (.bool true)) := by
  have hk0 : ((k : Int) == 0) = false := beqf (by omega)
  have HS := Lib.hid HS0
  have HI := Lib.hid HI1
  have HL := Lib.hid hl
  have HC := Lib.hid hc
  have H0 := Lib.hid h0
  have hz : ¬ (1000000 : Int) < (k : Int) := by omega
  obtain ⟨Mk, hMk⟩ : ∃ M : Int, ((101 + k : Nat) : Int) = M := ⟨_, rfl⟩
  have hMk0 : ¬ Mk < 0 := by omega
  have HMk := Lib.hid hMk
  clear hMk
  obtain ⟨MQ, hMQ⟩ : ∃ M : Int, ((101 + Q : Nat) : Int) = M := ⟨_, rfl⟩
  have hMQ0 : ¬ MQ < 0 := by omega
  have HMQ := Lib.hid hMQ
  clear hMQ
  clear hl hc HS0 HI1
  go_enter Try.func3, Try.ntmps3
  go_wp2_with (first
    | (go_at_call 9; (with_reducible refine (copy_K b k cap _ l w _ HL.out hk (.inr h0) HC.out fL).mono ?_); rintro e w' ⟨g, rfl, hg1, hg2, hR, hp, hI, hl'⟩; have hs := hl'.out.size)
    | (go_at_call 8; (with_reducible refine (HS.out _ _ _ (ArgK.at fI)).mono ?_); rintro e w' ⟨g, c, rfl, hg1, hg2, hg3, hR, hI, hl'⟩; have hs := hl'.out.size)
    | (go_at_call 10; (with_reducible refine (HI.out _ _ _ (ArgK.at fI)).mono ?_); rintro e w' ⟨g, c, rfl, hg1, hg2, hg3, hR, hI, hl'⟩; have hs := hl'.out.size)
    | (go_at_call 11; (with_reducible refine (eq_K _ _ Q _ _ R _ hQ1 fI fI).mono ?_); rintro e w' ⟨rfl, hb⟩; have hl' := Link.mk hb; have hs := hb.size; clear hb)
    | (go_at_call 12; (with_reducible refine (intact_K _ _ k (withRoomI l) _ hk fI fI).mono ?_); rintro e w' ⟨rfl, hb⟩; have hl' := Link.mk hb; have hs := hb.size; clear hb)
    | (go_at_call 13; (with_reducible refine (mark_K _ k _ _ _ _ fR (by omega) hk Mk HMk.out).mono ?_); rintro e w' ⟨rfl, hS, hs, hI⟩)
    | (go_at_call 13; (with_reducible refine (mark_K _ Q _ _ _ _ fR (by omega) hQ1 MQ HMQ.out).mono ?_); rintro e w' ⟨rfl, hS, hs, hI⟩)
    | (go_at_call 14; (with_reducible refine (held_K _ Q _ _ hQ1 fI MQ HMQ.out).mono ?_); rintro e w' ⟨rfl, hb⟩; have hl' := Link.mk hb; have hs := hb.size; clear hb))
  go_ret
  exact ⟨rfl, LowK.out fL⟩
set_option maxRecDepth 20000 in
set_option maxHeartbeats 8000000 in
theorem FnExactTranslateSet_pos_none (n t : Int) (b : Option Addr) (k cap : Nat) (l : List Int) (w : World) (hl : l.length = k) (hk : k ≤ 1000000) (hc : ArgI w b k l) (h0 : 0 < k)
    (HS0 : ∀ (W : World) (b : Option Addr) (c : Nat), ArgK W b k l → Calls Try.prog 8 #[.int .i64 n, .slice b k c, .int .i64 t] W (NoneK W)) (HI1 : ∀ (W : World) (b : Option Addr) (c : Nat), ArgK W b k l → Calls Try.prog 10 #[.int .i64 n, .slice b k c, .int .i64 t] W (NoneK W)) :
    Calls Try.prog 3 #[.int .i64 n, .slice b k cap, .int .i64 t] w (Ret w (.bool true)) := by
  have hk0 : ((k : Int) == 0) = false := beqf (by omega)
  have HS := Lib.hid HS0
  have HI := Lib.hid HI1
  have HL := Lib.hid hl
  have HC := Lib.hid hc
  have H0 := Lib.hid h0
  have hz : ¬ (1000000 : Int) < (k : Int) := by omega
  obtain ⟨Mk, hMk⟩ : ∃ M : Int, ((101 + k : Nat) : Int) = M := ⟨_, rfl⟩
  have hMk0 : ¬ Mk < 0 := by omega
  have HMk := Lib.hid hMk
  clear hMk
  clear hl hc HS0 HI1
  go_enter Try.func3, Try.ntmps3
  go_wp2_with (first
    | (go_at_call 9; (with_reducible refine (copy_K b k cap _ l w _ HL.out hk (.inr h0) HC.out fL).mono ?_); rintro e w' ⟨g, rfl, hg1, hg2, hR, hp, hI, hl'⟩; have hs := hl'.out.size)
    | (go_at_call 8; (with_reducible refine (HS.out _ _ _ (ArgK.at fI)).mono ?_); rintro e w' ⟨b', c, rfl, hl'⟩; have hs := hl'.out.size)
    | (go_at_call 10; (with_reducible refine (HI.out _ _ _ (ArgK.at fI)).mono ?_); rintro e w' ⟨b', c, rfl, hl'⟩; have hs := hl'.out.size)
    | (go_at_call 11; (with_reducible refine (eqInt64S_nil _ _ _ _ _).mono ?_); rintro e w' ⟨rfl, rfl⟩)
    | (go_at_call 12; (with_reducible refine (intact_K _ _ k (withRoomI l) _ hk fI fI).mono ?_); rintro e w' ⟨rfl, hb⟩; have hl' := Link.mk hb; have hs := hb.size; clear hb)
    | (go_at_call 13; (with_reducible refine (mark_K _ k _ _ _ _ fR (by omega) hk Mk HMk.out).mono ?_); rintro e w' ⟨rfl, hS, hs, hI⟩)
    | (go_at_call 13; (with_reducible refine (markInt64S_nil _ _ 101 _).mono ?_); rintro e w' ⟨rfl, rfl⟩)
    | (go_at_call 14; (with_reducible refine (heldInt64S_nil _ _ 101 _).mono ?_); rintro e w' ⟨rfl, rfl⟩))
  go_ret
  exact ⟨rfl, LowK.out fL⟩
set_option maxRecDepth 20000 in
set_option maxHeartbeats 8000000 in
theorem FnExactTranslateSet_pos_no (n t : Int) (b : Option Addr) (k cap : Nat) (l : List Int) (w : World) (hl : l.length = k) (hk : k ≤ 1000000) (hc : ArgI w b k l) (h0 : 0 < k)
    (HS0 : ∀ (W : World) (b : Option Addr) (c : Nat), ArgK W b k l → Calls Try.prog 8 #[.int .i64 n, .slice b k c, .int .i64 t] W (Ret W (.tuple #[.slice none 0 0, .int .i64 2]))) (HI1 : ∀ (W : World) (b : Option Addr) (c : Nat), ArgK W b k l → Calls Try.prog 10 #[.int .i64 n, .slice b k c, .int .i64 t] W (Ret W (.tuple #[.slice none 0 0, .int .i64 2]))) :
    Calls Try.prog 3 #[.int .i64 n, .slice b k cap, .int .i64 t] w (Ret w (.bool true)) := by
  have hk0 : ((k : Int) == 0) = false := beqf (by omega)
  have HS := Lib.hid HS0
  have HI := Lib.hid HI1
  have HL := Lib.hid hl
  have HC := Lib.hid hc
  have H0 := Lib.hid h0
  have hz : ¬ (1000000 : Int) < (k : Int) := by omega
  obtain ⟨Mk, hMk⟩ : ∃ M : Int, ((101 + k : Nat) : Int) = M := ⟨_, rfl⟩
  have hMk0 : ¬ Mk < 0 := by omega
  have HMk := Lib.hid hMk
  clear hMk
  clear hl hc HS0 HI1
  go_enter Try.func3, Try.ntmps3
  go_wp2_with (first
    | (go_at_call 9; (with_reducible refine (copy_K b k cap _ l w _ HL.out hk (.inr h0) HC.out fL).mono ?_); rintro e w' ⟨g, rfl, hg1, hg2, hR, hp, hI, hl'⟩; have hs := hl'.out.size)
    | (go_at_call 8; (with_reducible refine (HS.out _ _ _ (ArgK.at fI)).mono ?_); rintro e w' ⟨rfl, hb⟩; have hl' := Link.mk hb; have hs := hb.size; clear hb)
    | (go_at_call 10; (with_reducible refine (HI.out _ _ _ (ArgK.at fI)).mono ?_); rintro e w' ⟨rfl, hb⟩; have hl' := Link.mk hb; have hs := hb.size; clear hb)
    | (go_at_call 11; (with_reducible refine (eqInt64S_nil _ _ _ _ _).mono ?_); rintro e w' ⟨rfl, rfl⟩)
    | (go_at_call 12; (with_reducible refine (intact_K _ _ k (withRoomI l) _ hk fI fI).mono ?_); rintro e w' ⟨rfl, hb⟩; have hl' := Link.mk hb; have hs := hb.size; clear hb)
    | (go_at_call 13; (with_reducible refine (mark_K _ k _ _ _ _ fR (by omega) hk Mk HMk.out).mono ?_); rintro e w' ⟨rfl, hS, hs, hI⟩)
    | (go_at_call 13; (with_reducible refine (markInt64S_nil _ _ 101 _).mono ?_); rintro e w' ⟨rfl, rfl⟩)
    | (go_at_call 14; (with_reducible refine (heldInt64S_nil _ _ 101 _).mono ?_); rintro e w' ⟨rfl, rfl⟩))
  go_ret
  exact ⟨rfl, LowK.out fL⟩
set_option maxRecDepth 20000 in
set_option maxHeartbeats 8000000 in
theorem FnExactTranslateSet_zero_made (n t : Int) (b : Option Addr) (k cap : Nat) (l : List Int) (w : World) (hl : l.length = k) (hk : k ≤ 1000000) (hc : ArgI w b k l) (h0 : k = 0) (Q : Nat) (R : List Int) (hQ0 : 0 < Q) (hQ1 : Q ≤ 1000000)
    (HS0 : ∀ (W : World) (b : Option Addr) (c : Nat), ArgK W b k l → Calls Try.prog 8 #[.int .i64 n, .slice b k c, .int .i64 t] W (MadeK W Q R)) (HI1 : ∀ (W : World) (b : Option Addr) (c : Nat), ArgK W b k l → Calls Try.prog 10 #[.int .i64 n, .slice b k c, .int .i64 t] W (MadeK W Q R)) :
    Calls Try.prog 3 #[.int .i64 n, .slice b k cap, .int .i64 t] w (Ret w (.bool true)) := by
  have hk0 : ((k : Int) == 0) = true := by simp [h0]
  have HS := Lib.hid HS0
  have HI := Lib.hid HI1
  have HI0 : Hid (∀ W : World, Calls Try.prog 10 #[.int .i64 n, .slice none 0 0, .int .i64 t] W (MadeK W Q R)) := Lib.hid (fun W => by have := HI1 W none 0 (ArgK.zero h0); rw [h0] at this; exact this)
  have HL := Lib.hid hl
  have HC := Lib.hid hc
  have H0 := Lib.hid h0
  have hz : ¬ (1000000 : Int) < (k : Int) := by omega
  obtain ⟨MQ, hMQ⟩ : ∃ M : Int, ((101 + Q : Nat) : Int) = M := ⟨_, rfl⟩
  have hMQ0 : ¬ MQ < 0 := by omega
  have HMQ := Lib.hid hMQ
  clear hMQ
  clear hl hc HS0 HI1 h0
  go_enter Try.func3, Try.ntmps3
  go_wp2_with (first
    | (go_at_call 9; (with_reducible refine (copy_K b k cap false l w _ HL.out hk (.inl rfl) HC.out fL).mono ?_); rintro e w' ⟨g, rfl, hg1, hg2, hR, hp, hI, hl'⟩; have hs := hl'.out.size)
    | (go_at_call 9; (with_reducible refine (toInt64S_zero b k cap _ H0.out).mono ?_); rintro e w' ⟨rfl, rfl⟩)
    | (go_at_call 8; (with_reducible refine (HS.out _ _ _ (ArgK.at fI)).mono ?_); rintro e w' ⟨g, c, rfl, hg1, hg2, hg3, hR, hI, hl'⟩; have hs := hl'.out.size)
    | (go_at_call 10; (with_reducible refine (HI.out _ _ _ (ArgK.at fI)).mono ?_); rintro e w' ⟨g, c, rfl, hg1, hg2, hg3, hR, hI, hl'⟩; have hs := hl'.out.size)
    | (go_at_call 10; (with_reducible refine (HI0.out _).mono ?_); rintro e w' ⟨g, c, rfl, hg1, hg2, hg3, hR, hI, hl'⟩; have hs := hl'.out.size)
    | (go_at_call 11; (with_reducible refine (eq_K _ _ Q _ _ R _ hQ1 fI fI).mono ?_); rintro e w' ⟨rfl, hb⟩; have hl' := Link.mk hb; have hs := hb.size; clear hb)
    | (go_at_call 12; (with_reducible refine (intact_K _ _ k (withRoomI l) _ hk fI fI).mono ?_); rintro e w' ⟨rfl, hb⟩; have hl' := Link.mk hb; have hs := hb.size; clear hb)
    | (go_at_call 13; (with_reducible refine (mark_K _ Q _ _ _ _ fR (by omega) hQ1 MQ HMQ.out).mono ?_); rintro e w' ⟨rfl, hS, hs, hI⟩)
    | (go_at_call 13; (with_reducible refine (markZ_K _ k _ 101 _ H0.out).mono ?_); rintro e w' ⟨rfl, rfl⟩)
    | (go_at_call 14; (with_reducible refine (held_K _ Q _ _ hQ1 fI MQ HMQ.out).mono ?_); rintro e w' ⟨rfl, hb⟩; have hl' := Link.mk hb; have hs := hb.size; clear hb))
  go_ret
  exact ⟨rfl, LowK.out fL⟩
set_option maxRecDepth 20000 in
set_option maxHeartbeats 8000000 in
theorem FnExactTranslateSet_zero_none (n t : Int) (b : Option Addr) (k cap : Nat) (l : List Int) (w : World) (hl : l.length = k) (hk : k ≤ 1000000) (hc : ArgI w b k l) (h0 : k = 0)
    (HS0 : ∀ (W : World) (b : Option Addr) (c : Nat), ArgK W b k l → Calls Try.prog 8 #[.int .i64 n, .slice b k c, .int .i64 t] W (NoneK W)) (HI1 : ∀ (W : World) (b : Option Addr) (c : Nat), ArgK W b k l → Calls Try.prog 10 #[.int .i64 n, .slice b k c, .int .i64 t] W (NoneK W)) :
    Calls Try.prog 3 #[.int .i64 n, .slice b k cap, .int .i64 t] w (Ret w (.bool true)) := by
  have hk0 : ((k : Int) == 0) = true := by simp [h0]
  have HS := Lib.hid HS0
  have HI := Lib.hid HI1
  have HI0 : Hid (∀ W : World, Calls Try.prog 10 #[.int .i64 n, .slice none 0 0, .int .i64 t] W (NoneK W)) := Lib.hid (fun W => by have := HI1 W none 0 (ArgK.zero h0); rw [h0] at this; exact this)
  have HL := Lib.hid hl
  have HC := Lib.hid hc
  have H0 := Lib.hid h0
  have hz : ¬ (1000000 : Int) < (k : Int) := by omega
  clear hl hc HS0 HI1 h0
  go_enter Try.func3, Try.ntmps3
  go_wp2_with (first
    | (go_at_call 9; (with_reducible refine (copy_K b k cap false l w _ HL.out hk (.inl rfl) HC.out fL).mono ?_); rintro e w' ⟨g, rfl, hg1, hg2, hR, hp, hI, hl'⟩; have hs := hl'.out.size)
    | (go_at_call 9; (with_reducible refine (toInt64S_zero b k cap _ H0.out).mono ?_); rintro e w' ⟨rfl, rfl⟩)
    | (go_at_call 8; (with_reducible refine (HS.out _ _ _ (ArgK.at fI)).mono ?_); rintro e w' ⟨b', c, rfl, hl'⟩; have hs := hl'.out.size)
    | (go_at_call 10; (with_reducible refine (HI.out _ _ _ (ArgK.at fI)).mono ?_); rintro e w' ⟨b', c, rfl, hl'⟩; have hs := hl'.out.size)
    | (go_at_call 10; (with_reducible refine (HI0.out _).mono ?_); rintro e w' ⟨b', c, rfl, hl'⟩; have hs := hl'.out.size)
    | (go_at_call 11; (with_reducible refine (eqInt64S_nil _ _ _ _ _).mono ?_); rintro e w' ⟨rfl, rfl⟩)
    | (go_at_call 12; (with_reducible refine (intact_K _ _ k (withRoomI l) _ hk fI fI).mono ?_); rintro e w' ⟨rfl, hb⟩; have hl' := Link.mk hb; have hs := hb.size; clear hb)
    | (go_at_call 13; (with_reducible refine (markZ_K _ k _ 101 _ H0.out).mono ?_); rintro e w' ⟨rfl, rfl⟩)
    | (go_at_call 13; (with_reducible refine (markInt64S_nil _ _ 101 _).mono ?_); rintro e w' ⟨rfl, rfl⟩)
    | (go_at_call 14; (with_reducible refine (heldInt64S_nil _ _ 101 _).mono ?_); rintro e w' ⟨rfl, rfl⟩))
  go_ret
  exact ⟨rfl, LowK.out fL⟩
set_option maxRecDepth 20000 in
set_option maxHeartbeats 8000000 in
theorem FnExactTranslateSet_zero_no (n t : Int) (b : Option Addr) (k cap : Nat) (l : List Int) (w : World) (hl : l.length = k) (hk : k ≤ 1000000) (hc : ArgI w b k l) (h0 : k = 0)
    (HS0 : ∀ (W : World) (b : Option Addr) (c : Nat), ArgK W b k l → Calls Try.prog 8 #[.int .i64 n, .slice b k c, .int .i64 t] W (Ret W (.tuple #[.slice none 0 0, .int .i64 2]))) (HI1 : ∀ (W : World) (b : Option Addr) (c : Nat), ArgK W b k l → Calls Try.prog 10 #[.int .i64 n, .slice b k c, .int .i64 t] W (Ret W (.tuple #[.slice none 0 0, .int .i64 2]))) :
    Calls Try.prog 3 #[.int .i64 n, .slice b k cap, .int .i64 t] w (Ret w (.bool true)) := by
  have hk0 : ((k : Int) == 0) = true := by simp [h0]
  have HS := Lib.hid HS0
  have HI := Lib.hid HI1
  have HI0 : Hid (∀ W : World, Calls Try.prog 10 #[.int .i64 n, .slice none 0 0, .int .i64 t] W (Ret W (.tuple #[.slice none 0 0, .int .i64 2]))) := Lib.hid (fun W => by have := HI1 W none 0 (ArgK.zero h0); rw [h0] at this; exact this)
  have HL := Lib.hid hl
  have HC := Lib.hid hc
  have H0 := Lib.hid h0
  have hz : ¬ (1000000 : Int) < (k : Int) := by omega
  clear hl hc HS0 HI1 h0
  go_enter Try.func3, Try.ntmps3
  go_wp2_with (first
    | (go_at_call 9; (with_reducible refine (copy_K b k cap false l w _ HL.out hk (.inl rfl) HC.out fL).mono ?_); rintro e w' ⟨g, rfl, hg1, hg2, hR, hp, hI, hl'⟩; have hs := hl'.out.size)
    | (go_at_call 9; (with_reducible refine (toInt64S_zero b k cap _ H0.out).mono ?_); rintro e w' ⟨rfl, rfl⟩)
    | (go_at_call 8; (with_reducible refine (HS.out _ _ _ (ArgK.at fI)).mono ?_); rintro e w' ⟨rfl, hb⟩; have hl' := Link.mk hb; have hs := hb.size; clear hb)
    | (go_at_call 10; (with_reducible refine (HI.out _ _ _ (ArgK.at fI)).mono ?_); rintro e w' ⟨rfl, hb⟩; have hl' := Link.mk hb; have hs := hb.size; clear hb)
    | (go_at_call 10; (with_reducible refine (HI0.out _).mono ?_); rintro e w' ⟨rfl, hb⟩; have hl' := Link.mk hb; have hs := hb.size; clear hb)
    | (go_at_call 11; (with_reducible refine (eqInt64S_nil _ _ _ _ _).mono ?_); rintro e w' ⟨rfl, rfl⟩)
    | (go_at_call 12; (with_reducible refine (intact_K _ _ k (withRoomI l) _ hk fI fI).mono ?_); rintro e w' ⟨rfl, hb⟩; have hl' := Link.mk hb; have hs := hb.size; clear hb)
    | (go_at_call 13; (with_reducible refine (markZ_K _ k _ 101 _ H0.out).mono ?_); rintro e w' ⟨rfl, rfl⟩)
    | (go_at_call 13; (with_reducible refine (markInt64S_nil _ _ 101 _).mono ?_); rintro e w' ⟨rfl, rfl⟩)
    | (go_at_call 14; (with_reducible refine (heldInt64S_nil _ _ 101 _).mono ?_); rintro e w' ⟨rfl, rfl⟩))
  go_ret
  exact ⟨rfl, LowK.out fL⟩
end Go.Proofs.Ytkhaiphipdpgeaa
/- The law FnExactTranslateSet: all cases. -/
namespace Go.Proofs.Ytkhaiphipdpgeaa
open Go.RowKit
set_option linter.unusedVariables false
set_option linter.unusedSimpArgs false
theorem FnExactTranslateSet_walk (n : Int) (b : Option Addr) (k cap : Nat) (l : List Int) (t : Int) (w : World) (hl : l.length = k) (hc : ArgI w b k l) :
    Calls Try.prog 3 #[.int .i64 n, .slice b k cap, .int .i64 t] w (Ret w (.bool true)) := by
  rcases Nat.lt_or_ge 1000000 k with h | h
  · exact FnExactTranslateSet_big n t b k cap w h
  · by_cases hy : setB n l = true ∧ 0 ≤ t ∧ t ≤ n - 1
    · obtain ⟨h1, h2, h3⟩ := hy
      have hR : (sortN (movN n 1 t l)).length = k := by rw [sml]; exact hl
      have HS : ∀ (W : World) (b : Option Addr) (c : Nat), ArgK W b k l → Calls Try.prog 8 #[.int .i64 n, .slice b k c, .int .i64 t] W (IntsPost2 W (sortN (movN n 1 t l))) := fun W b c hA => by
        subst hl; exact TranslateSet_spec_yes n t b c l W h1 h2 h3 hA
      have HI : ∀ (W : World) (b : Option Addr) (c : Nat), ArgK W b k l → Calls Try.prog 10 #[.int .i64 n, .slice b k c, .int .i64 t] W (IntsPost2 W (sortN (movN n 1 t l))) := fun W b c hA => by
        subst hl; exact TranslateSet_impl_yes n t b c l W h1 h2 h3 hA
      rcases Nat.eq_zero_or_pos k with h0 | h0
      · exact FnExactTranslateSet_zero_none n t b k cap l w hl h hc h0 (fun W b c hA => (HS W b c hA).mono fun e w' hp => NoneK.of hp (by omega)) (fun W b c hA => (HI W b c hA).mono fun e w' hp => NoneK.of hp (by omega))
      · exact FnExactTranslateSet_pos_made n t b k cap l w hl h hc h0 k _ h0 h (fun W b c hA => (HS W b c hA).mono fun e w' hp => MadeK.of hp hR h0) (fun W b c hA => (HI W b c hA).mono fun e w' hp => MadeK.of hp hR h0)
    · have hno : setB n l = false ∨ t < 0 ∨ n - 1 < t := by
        rcases hs : setB n l with _ | _
        · exact .inl rfl
        · right
          by_cases h1 : 0 ≤ t
          · right
            have : ¬ t ≤ n - 1 := fun h2 => hy ⟨hs, h1, h2⟩
            omega
          · left; omega
      have HS : ∀ (W : World) (b : Option Addr) (c : Nat), ArgK W b k l → Calls Try.prog 8 #[.int .i64 n, .slice b k c, .int .i64 t] W (Ret W (.tuple #[.slice none 0 0, .int .i64 2])) := fun W b c hA => by
        subst hl; exact TranslateSet_spec_no n t b c l W h hno hA
      have HI : ∀ (W : World) (b : Option Addr) (c : Nat), ArgK W b k l → Calls Try.prog 10 #[.int .i64 n, .slice b k c, .int .i64 t] W (Ret W (.tuple #[.slice none 0 0, .int .i64 2])) := fun W b c hA => by
        subst hl; exact TranslateSet_impl_no n t b c l W h hno hA
      rcases Nat.eq_zero_or_pos k with h0 | h0
      · exact FnExactTranslateSet_zero_no n t b k cap l w hl h hc h0 HS HI
      · exact FnExactTranslateSet_pos_no n t b k cap l w hl h hc h0 HS HI
end Go.Proofs.Ytkhaiphipdpgeaa
