/- Texts of the claim, in build order: L1, L3, UA, L5. No condition. -/
import Derived.Test.YtkhaiphipdpgeaaZTranslateOf10
/- Laws with a list of numbers in and a list of numbers out: what their helpers do, in facts that a search finds. -- numbers -/
namespace Go.Proofs.Ytkhaiphipdpgeaa
open Go.RowKit
set_option linter.unusedVariables false
set_option linter.unusedSimpArgs false
/-- All blocks but one are as they were. -/
structure SaveK (g : Nat) (w W : World) : Prop where
  out : Save g w W
/-- A block of numbers that can be written. -/
structure RoomK (W : World) (g cap : Nat) (T : TypeId) : Prop where
  out : RoomI W g cap T
theorem IntsK.at {W : World} {b o n : Nat} {L : List Int} (h : IntsK W b o n L) : IntsAt W b o n L := h.out
theorem IntsK.save {w W : World} {g b o n : Nat} {L : List Int} (hs : SaveK g w W) (hne : b ≠ g) (h : IntsK w b o n L) : IntsK W b o n L := ⟨fun i hi => by
  have h1 := h.out i hi
  have hlt : b < w.heap.size := World.block_lt_of_cell? w _ h1
  rw [← h1]
  unfold World.cell?
  rw [hs.out.block b hlt hne]⟩
theorem RoomK.lt {W : World} {g cap : Nat} {T : TypeId} (h : RoomK W g cap T) : g < W.heap.size := by
  obtain ⟨cur, h1, -⟩ := h.out
  exact (Array.getElem?_eq_some_iff.1 h1).1
theorem RoomK.link {w W : World} {g cap : Nat} {T : TypeId} (l : Link w W) (h : RoomK w g cap T) : RoomK W g cap T := ⟨h.out.below l.out⟩
theorem RoomK.save {w W : World} {g b cap : Nat} {T : TypeId} (hs : SaveK g w W) (hne : b ≠ g) (h : RoomK w b cap T) : RoomK W b cap T := by
  obtain ⟨cur, h1, h2⟩ := h.out
  exact ⟨⟨cur, by rw [hs.out.block b (Array.getElem?_eq_some_iff.1 h1).1 hne]; exact h1, h2⟩⟩
theorem LowK.save {w w1 W : World} {g : Nat} (hs : SaveK g w1 W) (hg : w.heap.size ≤ g) (h : LowK w w1) : LowK w W := ⟨hs.out.below h.out hg h.out.size⟩
theorem fI {W : World} {b o n : Nat} {L : List Int} (h : IntsK W b o n L := by repeat (first | with_reducible assumption | (apply IntsK.link; (· with_reducible assumption)) | (apply IntsK.save; (· with_reducible assumption); (· omega)))) : IntsK W b o n L := h
theorem fR {W : World} {g cap : Nat} {T : TypeId} (h : RoomK W g cap T := by repeat (first | with_reducible assumption | (apply RoomK.link; (· with_reducible assumption)) | (apply RoomK.save; (· with_reducible assumption); (· omega)))) : RoomK W g cap T := h
theorem fL {w W : World} (h : LowK w W := by repeat (first | with_reducible assumption | with_reducible exact LowK.refl _ | (apply LowK.link; (· with_reducible assumption)) | (apply LowK.save; (· with_reducible assumption); (· omega)))) : LowK w W := h
/-- A copy of an argument. -/
structure CopyK (w : World) (k : Nat) (l : List Int) (e : Ending) (w' : World) : Prop where
  out : ∃ g, e = .returned (.slice (some ⟨g, 0, none⟩) k (k + roomN k)) ∧ w.heap.size ≤ g ∧ g < w'.heap.size ∧ RoomK w' g (k + roomN k) 2 ∧ IntsK w' g 0 (k + roomN k) (withRoomI l) ∧ IntsK w' g 0 k l ∧ Link w w'
theorem copy_K (b : Option Addr) (k cap : Nat) (bare : Bool) (l : List Int) (w0 w : World) (hl : l.length = k) (hn : k ≤ 1000000) (hb : bare = false ∨ 0 < k) (hc : ArgI w0 b k l) (hL : LowK w0 w) :
    Calls Try.prog 9 #[.slice b k cap, .bool bare] w (CopyK w k l) :=
  (toInt64S_k b k cap bare l w hl hn hb (hc.below hL.out)).mono fun e w' ⟨g, he, h1, h2, h3, h4, h5⟩ =>
    ⟨g, he, h1, h2, ⟨h3⟩, ⟨h4⟩, ⟨fun i hi => by subst hl; rw [h4 i (by omega), withRoomI_at l i hi]⟩, Link.mk h5⟩
theorem intact_K (g g2 k : Nat) (L : List Int) (w : World) (hn : k ≤ 1000000) (h1 : IntsK w g 0 (k + roomN k) L) (h2 : IntsK w g2 0 (k + roomN k) L) :
    Calls Try.prog 12 #[.slice (some ⟨g, 0, none⟩) k (k + roomN k), .slice (some ⟨g2, 0, none⟩) k (k + roomN k)] w (Ret w (.bool true)) :=
  intactInt64S_same g g2 k L w hn h1.out h2.out
theorem eq_K (g g2 n c c2 : Nat) (L : List Int) (w : World) (hn : n ≤ 1000000) (h1 : IntsK w g 0 n L) (h2 : IntsK w g2 0 n L) :
    Calls Try.prog 11 #[.slice (some ⟨g, 0, none⟩) n c, .slice (some ⟨g2, 0, none⟩) n c2] w (Ret w (.bool true)) :=
  eqInt64S_same g g2 n c c2 L w (by omega) h1.out h2.out
structure MarkK (g n : Nat) (M : Int) (w : World) (e : Ending) (w' : World) : Prop where
  out : e = .returned (.int .i64 M) ∧ SaveK g w w' ∧ w.heap.size ≤ w'.heap.size ∧ IntsK w' g 0 n (markI 101 n)
theorem mark_K (g n c cap : Nat) (T : TypeId) (w : World) (hr : RoomK w g cap T) (hn : n ≤ cap) (h1 : n ≤ 1000000) (M : Int) (hM : ((101 + n : Nat) : Int) = M) :
    Calls Try.prog 13 #[.slice (some ⟨g, 0, none⟩) n c, .int .i64 101] w (MarkK g n M w) :=
  (markI_101 g n c cap T w hr.out hn h1 M hM).mono fun e w' ⟨h1, h2, h3⟩ => ⟨h1, ⟨h2⟩, h2.size, ⟨h3⟩⟩
theorem held_K (g n c : Nat) (w : World) (h1 : n ≤ 1000000) (hp : IntsK w g 0 n (markI 101 n)) (M : Int) (hM : ((101 + n : Nat) : Int) = M) :
    Calls Try.prog 14 #[.slice (some ⟨g, 0, none⟩) n c, .int .i64 101] w (Ret w (.int .i64 M)) := heldI_101 g n c w h1 hp.out M hM
theorem markZ_K (b : Option Addr) (k c : Nat) (q : Int) (w : World) (h : k = 0) : Calls Try.prog 13 #[.slice b k c, .int .i64 q] w fun e w' => e = .returned (.int .i64 q) ∧ w = w' := by
  subst h; exact markInt64S_nil b c q w
/-- A new list, not empty, and no error. -/
structure MadeK (w : World) (n : Nat) (R : List Int) (e : Ending) (w' : World) : Prop where
  out : ∃ g c, e = .returned (.tuple #[.slice (some ⟨g, 0, none⟩) n c, .int .i64 0]) ∧ w.heap.size ≤ g ∧ g < w'.heap.size ∧ n ≤ c ∧ RoomK w' g c 2 ∧ IntsK w' g 0 n R ∧ Link w w'
/-- A new list, empty, and no error. -/
structure NoneK (w : World) (e : Ending) (w' : World) : Prop where
  out : ∃ b c, e = .returned (.tuple #[.slice b 0 c, .int .i64 0]) ∧ Link w w'
theorem MadeK.of {w w' : World} {n : Nat} {R : List Int} {e : Ending} (h : IntsPost2 w R e w') (hl : R.length = n) (hn : 0 < n) : MadeK w n R e w' := by
  obtain ⟨v, he, ho, hb⟩ := h
  rw [hl] at ho
  obtain ⟨g, c, rfl, h1, h2, h3, h4, h5⟩ := own_roomI ho hl hn
  exact ⟨g, c, he, h1, h2, h3, ⟨h4⟩, ⟨h5⟩, Link.mk hb⟩
theorem NoneK.of {w w' : World} {R : List Int} {e : Ending} (h : IntsPost2 w R e w') (hl : R.length = 0) : NoneK w e w' := by
  obtain ⟨v, he, ho, hb⟩ := h
  rw [hl] at ho
  rcases ho.2 with ⟨rfl, -⟩ | ⟨g, cap, cur, rfl, -⟩
  · exact ⟨none, 0, he, Link.mk hb⟩
  · exact ⟨_, cap, he, Link.mk hb⟩
theorem ArgK.zero {W : World} {b : Option Addr} {n : Nat} {l : List Int} (h : n = 0) : ArgK W b n l := ⟨fun h0 => by omega⟩
theorem ArgK.at {W : World} {g n : Nat} {l : List Int} (h : IntsK W g 0 n l) : ArgK W (some ⟨g, 0, none⟩) n l := ⟨fun _ => ⟨g, rfl, h⟩⟩
end Go.Proofs.Ytkhaiphipdpgeaa
/- The law FnExactMultipliersOf: walked, from what the two sides do. -- numbers -/
namespace Go.Proofs.Ytkhaiphipdpgeaa
open Go.RowKit
set_option linter.unusedVariables false
set_option linter.unusedSimpArgs false
set_option maxHeartbeats 4000000 in
theorem FnExactMultipliersOf_big (n : Int) (b : Option Addr) (k cap : Nat) (w : World) (hk : 1000000 < k) :
    Calls Try.prog 5 #[.int .i64 n, .slice b k cap] w (Ret w (.bool true)) := by
  have hz : (1000000 : Int) < (k : Int) := by omega
  go_enter Try.func5, Try.ntmps5
  go_wp2
  go_ret
  exact ⟨rfl, Below.refl _ _⟩
set_option maxRecDepth 20000 in
set_option maxHeartbeats 8000000 in
theorem FnExactMultipliersOf_pos_made (n : Int) (b : Option Addr) (k cap : Nat) (l : List Int) (w : World) (hl : l.length = k) (hk : k ≤ 1000000) (hc : ArgI w b k l) (h0 : 0 < k) (Q : Nat) (R : List Int) (hQ0 : 0 < Q) (hQ1 : Q ≤ 1000000)
    (HS0 : ∀ (W : World) (b : Option Addr) (c : Nat), ArgK W b k l → Calls Try.prog 17 #[.int .i64 n, .slice b k c] W (MadeK W Q R)) (HI1 : ∀ (W : World) (b : Option Addr) (c : Nat), ArgK W b k l → Calls Try.prog 18 #[.int .i64 n, .slice b k c] W (MadeK W Q R)) :
    Calls Try.prog 5 #[.int .i64 n, .slice b k cap] w (Ret w (.bool true)) := by
  have hk0 : ((k : Int) == 0) = false := beqf (by omega)
  have HS := Lib.hid HS0
  have HI := Lib.hid HI1
  have HL := Lib.hid hl
  have HC := Lib.hid hc
  have H0 := Lib.hid h0
  have hz : ¬ (1000000 : Int) < (k : Int) := by omega
  obtain ⟨Mk, hMk⟩ : ∃ M : Int, ((101 + k : Nat) : Int) = M := ⟨_, rfl⟩
  have hMk0 : ¬ Mk < 0 := by omega
  have HMk := Lib.hid hMk
  clear hMk
  obtain ⟨MQ, hMQ⟩ : ∃ M : Int, ((101 + Q : Nat) : Int) = M := ⟨_, rfl⟩
  have hMQ0 : ¬ MQ < 0 := by omega
  have HMQ := Lib.hid hMQ
  clear hMQ
  clear hl hc HS0 HI1
  go_enter Try.func5, Try.ntmps5
  go_wp2_with (first
    | (go_at_call 9; (with_reducible refine (copy_K b k cap _ l w _ HL.out hk (.inr h0) HC.out fL).mono ?_); rintro e w' ⟨g, rfl, hg1, hg2, hR, hp, hI, hl'⟩; have hs := hl'.out.size)
    | (go_at_call 17; (with_reducible refine (HS.out _ _ _ (ArgK.at fI)).mono ?_); rintro e w' ⟨g, c, rfl, hg1, hg2, hg3, hR, hI, hl'⟩; have hs := hl'.out.size)
    | (go_at_call 18; (with_reducible refine (HI.out _ _ _ (ArgK.at fI)).mono ?_); rintro e w' ⟨g, c, rfl, hg1, hg2, hg3, hR, hI, hl'⟩; have hs := hl'.out.size)
    | (go_at_call 11; (with_reducible refine (eq_K _ _ Q _ _ R _ hQ1 fI fI).mono ?_); rintro e w' ⟨rfl, hb⟩; have hl' := Link.mk hb; have hs := hb.size; clear hb)
    | (go_at_call 12; (with_reducible refine (intact_K _ _ k (withRoomI l) _ hk fI fI).mono ?_); rintro e w' ⟨rfl, hb⟩; have hl' := Link.mk hb; have hs := hb.size; clear hb)
    | (go_at_call 13; (with_reducible refine (mark_K _ k _ _ _ _ fR (by omega) hk Mk HMk.out).mono ?_); rintro e w' ⟨rfl, hS, hs, hI⟩)
    | (go_at_call 13; (with_reducible refine (mark_K _ Q _ _ _ _ fR (by omega) hQ1 MQ HMQ.out).mono ?_); rintro e w' ⟨rfl, hS, hs, hI⟩)
    | (go_at_call 14; (with_reducible refine (held_K _ Q _ _ hQ1 fI MQ HMQ.out).mono ?_); rintro e w' ⟨rfl, hb⟩; have hl' := Link.mk hb; have hs := hb.size; clear hb))
  go_ret
  exact ⟨rfl, LowK.out fL⟩
set_option maxRecDepth 20000 in
set_option maxHeartbeats 8000000 in
theorem FnExactMultipliersOf_pos_none (n : Int) (b : Option Addr) (k cap : Nat) (l : List Int) (w : World) (hl : l.length = k) (hk : k ≤ 1000000) (hc : ArgI w b k l) (h0 : 0 < k)
    (HS0 : ∀ (W : World) (b : Option Addr) (c : Nat), ArgK W b k l → Calls Try.prog 17 #[.int .i64 n, .slice b k c] W (NoneK W)) (HI1 : ∀ (W : World) (b : Option Addr) (c : Nat), ArgK W b k l → Calls Try.prog 18 #[.int .i64 n, .slice b k c] W (NoneK W)) :
    Calls Try.prog 5 #[.int .i64 n, .slice b k cap] w (Ret w (.bool true)) := by
  have hk0 : ((k : Int) == 0) = false := beqf (by omega)
  have HS := Lib.hid HS0
  have HI := Lib.hid HI1
  have HL := Lib.hid hl
  have HC := Lib.hid hc
  have H0 := Lib.hid h0
  have hz : ¬ (1000000 : Int) < (k : Int) := by omega
  obtain ⟨Mk, hMk⟩ : ∃ M : Int, ((101 + k : Nat) : Int) = M := ⟨_, rfl⟩
  have hMk0 : ¬ Mk < 0 := by omega
  have HMk := Lib.hid hMk
  clear hMk
  clear hl hc HS0 HI1
  go_enter Try.func5, Try.ntmps5
  go_wp2_with (first
    | (go_at_call 9; (with_reducible refine (copy_K b k cap _ l w _ HL.out hk (.inr h0) HC.out fL).mono ?_); rintro e w' ⟨g, rfl, hg1, hg2, hR, hp, hI, hl'⟩; have hs := hl'.out.size)
    | (go_at_call 17; (with_reducible refine (HS.out _ _ _ (ArgK.at fI)).mono ?_); rintro e w' ⟨b', c, rfl, hl'⟩; have hs := hl'.out.size)
    | (go_at_call 18; (with_reducible refine (HI.out _ _ _ (ArgK.at fI)).mono ?_); rintro e w' ⟨b', c, rfl, hl'⟩; have hs := hl'.out.size)
    | (go_at_call 11; (with_reducible refine (eqInt64S_nil _ _ _ _ _).mono ?_); rintro e w' ⟨rfl, rfl⟩)
    | (go_at_call 12; (with_reducible refine (intact_K _ _ k (withRoomI l) _ hk fI fI).mono ?_); rintro e w' ⟨rfl, hb⟩; have hl' := Link.mk hb; have hs := hb.size; clear hb)
    | (go_at_call 13; (with_reducible refine (mark_K _ k _ _ _ _ fR (by omega) hk Mk HMk.out).mono ?_); rintro e w' ⟨rfl, hS, hs, hI⟩)
    | (go_at_call 13; (with_reducible refine (markInt64S_nil _ _ 101 _).mono ?_); rintro e w' ⟨rfl, rfl⟩)
    | (go_at_call 14; (with_reducible refine (heldInt64S_nil _ _ 101 _).mono ?_); rintro e w' ⟨rfl, rfl⟩))
  go_ret
  exact ⟨rfl, LowK.out fL⟩
set_option maxRecDepth 20000 in
set_option maxHeartbeats 8000000 in
theorem FnExactMultipliersOf_pos_no (n : Int) (b : Option Addr) (k cap : Nat) (l : List Int) (w : World) (hl : l.length = k) (hk : k ≤ 1000000) (hc : ArgI w b k l) (h0 : 0 < k)
    (HS0 : ∀ (W : World) (b : Option Addr) (c : Nat), ArgK W b k l → Calls Try.prog 17 #[.int .i64 n, .slice b k c] W (Ret W (.tuple #[.slice none 0 0, .int .i64 2]))) (HI1 : ∀ (W : World) (b : Option Addr) (c : Nat), ArgK W b k l → Calls Try.prog 18 #[.int .i64 n, .slice b k c] W (Ret W (.tuple #[.slice none 0 0, .int .i64 2]))) :
    Calls Try.prog 5 #[.int .i64 n, .slice b k cap] w (Ret w (.bool true)) := by
  have hk0 : ((k : Int) == 0) = false := beqf (by omega)
  have HS := Lib.hid HS0
  have HI := Lib.hid HI1
  have HL := Lib.hid hl
  have HC := Lib.hid hc
  have H0 := Lib.hid h0
  have hz : ¬ (1000000 : Int) < (k : Int) := by omega
  obtain ⟨Mk, hMk⟩ : ∃ M : Int, ((101 + k : Nat) : Int) = M := ⟨_, rfl⟩
  have hMk0 : ¬ Mk < 0 := by omega
  have HMk := Lib.hid hMk
  clear hMk
  clear hl hc HS0 HI1
  go_enter Try.func5, Try.ntmps5
  go_wp2_with (first
    | (go_at_call 9; (with_reducible refine (copy_K b k cap _ l w _ HL.out hk (.inr h0) HC.out fL).mono ?_); rintro e w' ⟨g, rfl, hg1, hg2, hR, hp, hI, hl'⟩; have hs := hl'.out.size)
    | (go_at_call 17; (with_reducible refine (HS.out _ _ _ (ArgK.at fI)).mono ?_); rintro e w' ⟨rfl, hb⟩; have hl' := Link.mk hb; have hs := hb.size; clear hb)
    | (go_at_call 18; (with_reducible refine (HI.out _ _ _ (ArgK.at fI)).mono ?_); rintro e w' ⟨rfl, hb⟩; have hl' := Link.mk hb; have hs := hb.size; clear hb)
    | (go_at_call 11; (with_reducible refine (eqInt64S_nil _ _ _ _ _).mono ?_); rintro e w' ⟨rfl, rfl⟩)
    | (go_at_call 12; (with_reducible refine (intact_K _ _ k (withRoomI l) _ hk fI fI).mono ?_); rintro e w' ⟨rfl, hb⟩; have hl' := Link.mk hb; have hs := hb.size; clear hb)
    | (go_at_call 13; (with_reducible refine (mark_K _ k _ _ _ _ fR (by omega) hk Mk HMk.out).mono ?_); rintro e w' ⟨rfl, hS, hs, hI⟩)
    | (go_at_call 13; (with_reducible refine (markInt64S_nil _ _ 101 _).mono ?_); rintro e w' ⟨rfl, rfl⟩)
    | (go_at_call 14; (with_reducible refine (heldInt64S_nil _ _ 101 _).mono ?_); rintro e w' ⟨rfl, rfl⟩))
  go_ret
  exact ⟨rfl, LowK.out fL⟩
set_option maxRecDepth 20000 in
set_option maxHeartbeats 8000000 in
theorem FnExactMultipliersOf_zero_made (n : Int) (b : Option Addr) (k cap : Nat) (l : List Int) (w : World) (hl : l.length = k) (hk : k ≤ 1000000) (hc : ArgI w b k l) (h0 : k = 0) (Q : Nat) (R : List Int) (hQ0 : 0 < Q) (hQ1 : Q ≤ 1000000)
    (HS0 : ∀ (W : World) (b : Option Addr) (c : Nat), ArgK W b k l → Calls Try.prog 17 #[.int .i64 n, .slice b k c] W (MadeK W Q R)) (HI1 : ∀ (W : World) (b : Option Addr) (c : Nat), ArgK W b k l → Calls Try.prog 18 #[.int .i64 n, .slice b k c] W (MadeK W Q R)) :
    Calls Try.prog 5 #[.int .i64 n, .slice b k cap] w (Ret w (.bool true)) := by
  have hk0 : ((k : Int) == 0) = true := by simp [h0]
  have HS := Lib.hid HS0
  have HI := Lib.hid HI1
  have HI0 : Hid (∀ W : World, Calls Try.prog 18 #[.int .i64 n, .slice none 0 0] W (MadeK W Q R)) := Lib.hid (fun W => by have := HI1 W none 0 (ArgK.zero h0); rw [h0] at this; exact this)
  have HL := Lib.hid hl
  have HC := Lib.hid hc
  have H0 := Lib.hid h0
  have hz : ¬ (1000000 : Int) < (k : Int) := by omega
  obtain ⟨MQ, hMQ⟩ : ∃ M : Int, ((101 + Q : Nat) : Int) = M := ⟨_, rfl⟩
  have hMQ0 : ¬ MQ < 0 := by omega
  have HMQ := Lib.hid hMQ
  clear hMQ
  clear hl hc HS0 HI1 h0
  go_enter Try.func5, Try.ntmps5
  go_wp2_with (first
    | (go_at_call 9; (with_reducible refine (copy_K b k cap false l w _ HL.out hk (.inl rfl) HC.out fL).mono ?_); rintro e w' ⟨g, rfl, hg1, hg2, hR, hp, hI, hl'⟩; have hs := hl'.out.size)
    | (go_at_call 9; (with_reducible refine (toInt64S_zero b k cap _ H0.out).mono ?_); rintro e w' ⟨rfl, rfl⟩)
    | (go_at_call 17; (with_reducible refine (HS.out _ _ _ (ArgK.at fI)).mono ?_); rintro e w' ⟨g, c, rfl, hg1, hg2, hg3, hR, hI, hl'⟩; have hs := hl'.out.size)
    | (go_at_call 18; (with_reducible refine (HI.out _ _ _ (ArgK.at fI)).mono ?_); rintro e w' ⟨g, c, rfl, hg1, hg2, hg3, hR, hI, hl'⟩; have hs := hl'.out.size)
    | (go_at_call 18; (with_reducible refine (HI0.out _).mono ?_); rintro e w' ⟨g, c, rfl, hg1, hg2, hg3, hR, hI, hl'⟩; have hs := hl'.out.size)
    | (go_at_call 11; (with_reducible refine (eq_K _ _ Q _ _ R _ hQ1 fI fI).mono ?_); rintro e w' ⟨rfl, hb⟩; have hl' := Link.mk hb; have hs := hb.size; clear hb)
    | (go_at_call 12; (with_reducible refine (intact_K _ _ k (withRoomI l) _ hk fI fI).mono ?_); rintro e w' ⟨rfl, hb⟩; have hl' := Link.mk hb; have hs := hb.size; clear hb)
    | (go_at_call 13; (with_reducible refine (mark_K _ Q _ _ _ _ fR (by omega) hQ1 MQ HMQ.out).mono ?_); rintro e w' ⟨rfl, hS, hs, hI⟩)
    | (go_at_call 13; (with_reducible refine (markZ_K _ k _ 101 _ H0.out).mono ?_); rintro e w' ⟨rfl, rfl⟩)
    | (go_at_call 14; (with_reducible refine (held_K _ Q _ _ hQ1 fI MQ HMQ.out).mono ?_); rintro e w' ⟨rfl, hb⟩; have hl' := Link.mk hb; have hs := hb.size; clear hb))
  go_ret
  exact ⟨rfl, LowK.out fL⟩
set_option maxRecDepth 20000 in
set_option maxHeartbeats 8000000 in
theorem FnExactMultipliersOf_zero_none (n : Int) (b : Option Addr) (k cap : Nat) (l : List Int) (w : World) (hl : l.length = k) (hk : k ≤ 1000000) (hc : ArgI w b k l) (h0 : k = 0)
    (HS0 : ∀ (W : World) (b : Option Addr) (c : Nat), ArgK W b k l → Calls Try.prog 17 #[.int .i64 n, .slice b k c] W (NoneK W)) (HI1 : ∀ (W : World) (b : Option Addr) (c : Nat), ArgK W b k l → Calls Try.prog 18 #[.int .i64 n, .slice b k c] W (NoneK W)) :
    Calls Try.prog 5 #[.int .i64 n, .slice b k cap] w (Ret w (.bool true)) := by
  have hk0 : ((k : Int) == 0) = true := by simp [h0]
  have HS := Lib.hid HS0
  have HI := Lib.hid HI1
  have HI0 : Hid (∀ W : World, Calls Try.prog 18 #[.int .i64 n, .slice none 0 0] W (NoneK W)) := Lib.hid (fun W => by have := HI1 W none 0 (ArgK.zero h0); rw [h0] at this; exact this)
  have HL := Lib.hid hl
  have HC := Lib.hid hc
  have H0 := Lib.hid h0
  have hz : ¬ (1000000 : Int) < (k : Int) := by omega
  clear hl hc HS0 HI1 h0
  go_enter Try.func5, Try.ntmps5
  go_wp2_with (first
    | (go_at_call 9; (with_reducible refine (copy_K b k cap false l w _ HL.out hk (.inl rfl) HC.out fL).mono ?_); rintro e w' ⟨g, rfl, hg1, hg2, hR, hp, hI, hl'⟩; have hs := hl'.out.size)
    | (go_at_call 9; (with_reducible refine (toInt64S_zero b k cap _ H0.out).mono ?_); rintro e w' ⟨rfl, rfl⟩)
    | (go_at_call 17; (with_reducible refine (HS.out _ _ _ (ArgK.at fI)).mono ?_); rintro e w' ⟨b', c, rfl, hl'⟩; have hs := hl'.out.size)
    | (go_at_call 18; (with_reducible refine (HI.out _ _ _ (ArgK.at fI)).mono ?_); rintro e w' ⟨b', c, rfl, hl'⟩; have hs := hl'.out.size)
    | (go_at_call 18; (with_reducible refine (HI0.out _).mono ?_); rintro e w' ⟨b', c, rfl, hl'⟩; have hs := hl'.out.size)
    | (go_at_call 11; (with_reducible refine (eqInt64S_nil _ _ _ _ _).mono ?_); rintro e w' ⟨rfl, rfl⟩)
    | (go_at_call 12; (with_reducible refine (intact_K _ _ k (withRoomI l) _ hk fI fI).mono ?_); rintro e w' ⟨rfl, hb⟩; have hl' := Link.mk hb; have hs := hb.size; clear hb)
    | (go_at_call 13; (with_reducible refine (markZ_K _ k _ 101 _ H0.out).mono ?_); rintro e w' ⟨rfl, rfl⟩)
    | (go_at_call 13; (with_reducible refine (markInt64S_nil _ _ 101 _).mono ?_); rintro e w' ⟨rfl, rfl⟩)
    | (go_at_call 14; (with_reducible refine (heldInt64S_nil _ _ 101 _).mono ?_); rintro e w' ⟨rfl, rfl⟩))
  go_ret
  exact ⟨rfl, LowK.out fL⟩
set_option maxRecDepth 20000 in
set_option maxHeartbeats 8000000 in
theorem FnExactMultipliersOf_zero_no (n : Int) (b : Option Addr) (k cap : Nat) (l : List Int) (w : World) (hl : l.length = k) (hk : k ≤ 1000000) (hc : ArgI w b k l) (h0 : k = 0)
    (HS0 : ∀ (W : World) (b : Option Addr) (c : Nat), ArgK W b k l → Calls Try.prog 17 #[.int .i64 n, .slice b k c] W (Ret W (.tuple #[.slice none 0 0, .int .i64 2]))) (HI1 : ∀ (W : World) (b : Option Addr) (c : Nat), ArgK W b k l → Calls Try.prog 18 #[.int .i64 n, .slice b k c] W (Ret W (.tuple #[.slice none 0 0, .int .i64 2]))) :
    Calls Try.prog 5 #[.int .i64 n, .slice b k cap] w (Ret w (.bool true)) := by
  have hk0 : ((k : Int) == 0) = true := by simp [h0]
  have HS := Lib.hid HS0
  have HI := Lib.hid HI1
  have HI0 : Hid (∀ W : World, Calls Try.prog 18 #[.int .i64 n, .slice none 0 0] W (Ret W (.tuple #[.slice none 0 0, .int .i64 2]))) := Lib.hid (fun W => by have := HI1 W none 0 (ArgK.zero h0); rw [h0] at this; exact this)
  have HL := Lib.hid hl
  have HC := Lib.hid hc
  have H0 := Lib.hid h0
  have hz : ¬ (1000000 : Int) < (k : Int) := by omega
  clear hl hc HS0 HI1 h0
  go_enter Try.func5, Try.ntmps5
  go_wp2_with (first
    | (go_at_call 9; (with_reducible refine (copy_K b k cap false l w _ HL.out hk (.inl rfl) HC.out fL).mono ?_); rintro e w' ⟨g, rfl, hg1, hg2, hR, hp, hI, hl'⟩; have hs := hl'.out.size)
    | (go_at_call 9; (with_reducible refine (toInt64S_zero b k cap _ H0.out).mono ?_); rintro e w' ⟨rfl, rfl⟩)
    | (go_at_call 17; (with_reducible refine (HS.out _ _ _ (ArgK.at fI)).mono ?_); rintro e w' ⟨rfl, hb⟩; have hl' := Link.mk hb; have hs := hb.size; clear hb)
    | (go_at_call 18; (with_reducible refine (HI.out _ _ _ (ArgK.at fI)).mono ?_); rintro e w' ⟨rfl, hb⟩; have hl' := Link.mk hb; have hs := hb.size; clear hb)
    | (go_at_call 18; (with_reducible refine (HI0.out _).mono ?_); rintro e w' ⟨rfl, hb⟩; have hl' := Link.mk hb; have hs := hb.size; clear hb)
    | (go_at_call 11; (with_reducible refine (eqInt64S_nil _ _ _ _ _).mono ?_); rintro e w' ⟨rfl, rfl⟩)
    | (go_at_call 12; (with_reducible refine (intact_K _ _ k (withRoomI l) _ hk fI fI).mono ?_); rintro e w' ⟨rfl, hb⟩; have hl' := Link.mk hb; have hs := hb.size; clear hb)
    | (go_at_call 13; (with_reducible refine (markZ_K _ k _ 101 _ H0.out).mono ?_); rintro e w' ⟨rfl, rfl⟩)
    | (go_at_call 13; (with_reducible refine (markInt64S_nil _ _ 101 _).mono ?_); rintro e w' ⟨rfl, rfl⟩)
    | (go_at_call 14; (with_reducible refine (heldInt64S_nil _ _ 101 _).mono ?_); rintro e w' ⟨rfl, rfl⟩))
  go_ret
  exact ⟨rfl, LowK.out fL⟩
end Go.Proofs.Ytkhaiphipdpgeaa
/- Contracts: the program's and the specification's MultipliersOf. -- numbers -/
namespace Go.Proofs.Ytkhaiphipdpgeaa
open Go.RowKit
set_option linter.unusedVariables false
set_option linter.unusedSimpArgs false
/-- The multipliers up to k. -/
def multK (n : Int) (l : List Int) (k : Nat) : List Int := ((List.range k).filter fun i : Nat => decide (0 ≤ shiftI n ((i : Int) + 1) l)).map fun i : Nat => ((i : Int) + 1)
theorem multK_length (n : Int) (l : List Int) (k : Nat) : (multK n l k).length ≤ k := by
  unfold multK
  rw [List.length_map]
  exact Nat.le_trans (List.length_filter_le _ _) (by simp)
theorem multK_yes {n : Int} {l : List Int} {k : Nat} (h : 0 ≤ shiftI n ((k : Int) + 1) l) : multK n l (k + 1) = multK n l k ++ [(k : Int) + 1] := by
  unfold multK; rw [List.range_succ, List.filter_append, List.map_append]; simp [h]
theorem multK_no {n : Int} {l : List Int} {k : Nat} (h : ¬ 0 ≤ shiftI n ((k : Int) + 1) l) : multK n l (k + 1) = multK n l k := by
  unfold multK; rw [List.range_succ, List.filter_append, List.map_append]; simp [h]
def multL (n : Int) (l : List Int) : List Int := multK n l (n - 1).toNat
set_option maxRecDepth 20000 in
set_option maxHeartbeats 8000000 in
theorem MultipliersOf_impl_yes (n : Int) (b : Option Addr) (c : Nat) (l : List Int) (w : World) (hs0 : setB n l = true) (n200 : n ≤ 200) (hP : ArgK w b l.length l) :
    Calls Try.prog 18 #[.int .i64 n, .slice b l.length c] w (IntsPost2 w (multL n l)) := by
  obtain ⟨n2, n1, hl60, HB⟩ := setB_bd hs0
  have HB := Lib.hid HB
  have hl : l.length ≤ 1000000 := by omega
  go_enter Try.func18, Try.ntmps18
  go_wp2_with (first | (refine wl_load ?_) | (refine wl_store ?_) | (refine wl_build ?_) | (refine wl_slice ?_) | (refine wl_append ?_; intro v' w' ho hg hb; have hs := hg.size; (try simp at hs); (try rw [ptCs_end] at ho); (try rw [ints_end] at ho); (try simp only [Nat.zero_add, Nat.reduceAdd, List.nil_append, List.cons_append] at ho)) | (go_at_call 29; (with_reducible refine (isNumberSet_v n b c l _ true hs0 hl findArg).mono ?_); rintro e w' ⟨rfl, hb⟩; have hl := Link.mk hb; have hs := hb.size; (try simp at hs); clear hb))
  go_loopw [6, 7] (fun v i wr => ∃ k q : Nat, (k : Int) + 1 ≤ n ∧ i = .int .i64 ((k : Int) + 1) ∧ (multK n l k).length = q ∧ OwnK wr w.heap.size 2 1 v q (ints (multK n l k)) ∧ LowK w wr ∧ ArgK wr b l.length l) (fun _ i wr => n.toNat - (intOf i).toNat)
  case atStart => exact ⟨0, 0, by omega, rfl, rfl, (OwnK.empty (T := 2) (sz := 1) findRow (Nat.le_refl _)).rebase (by omega), findLow, findArg⟩
  case round =>
    obtain ⟨k, q, hk, rfl, hq, hO, hV, hA⟩ := hrel
    have hsz := hV.size
    have hqk : q ≤ k := by rw [← hq]; exact multK_length n l k
    by_cases hlt : (k : Int) + 1 < n
    · by_cases h0 : 0 ≤ shiftI n ((k : Int) + 1) l
      · have HM := Lib.hid (multK_yes h0)
        obtain ⟨z, hz0⟩ : ∃ z, shiftI n ((k : Int) + 1) l = z := ⟨_, rfl⟩
        have hz : Hid (Value.int .i64 (shiftI n ((k : Int) + 1) l) = .int .i64 z) := Lib.hid (by rw [hz0])
        rw [hz0] at h0
        clear hz0
        go_wp2_with (first | (refine wl_load ?_) | (refine wl_store ?_) | (refine wl_build ?_) | (refine wl_slice ?_) | (refine wl_append ?_; intro v' w' ho hg hb; have hs := hg.size; (try simp at hs); (try rw [ptCs_end] at ho); (try rw [ints_end] at ho); (try simp only [Nat.zero_add, Nat.reduceAdd, List.nil_append, List.cons_append] at ho)) | (go_at_call 33; (with_reducible refine (shiftO _ n ((k : Int) + 1) b c l _ n2 n1 (by omega) (by omega) HB.out (by omega) findArg hz.out).mono ?_); rintro e w' ⟨rfl, hb⟩; have hl := Link.mk hb; have hs := hb.size; (try simp at hs); clear hb))
        go_roundw
        case rel => exact ⟨k + 1, q + 1, by omega, by go_num, by rw [HM.out]; simp [hq], by rw [HM.out]; exact ho, findLow, ⟨fun h0 => by obtain ⟨g, e, h1⟩ := hP.out h0; have hlg := h1.lt h0; subst e; obtain ⟨g', e', h1'⟩ := hA.out h0; injection e' with e'; injection e' with e'; subst e'; exact ⟨g, rfl, findInts⟩⟩⟩
        case measure => (simp [intOf]; try omega)
      · have HM := Lib.hid (multK_no h0)
        obtain ⟨z, hz0⟩ : ∃ z, shiftI n ((k : Int) + 1) l = z := ⟨_, rfl⟩
        have hz : Hid (Value.int .i64 (shiftI n ((k : Int) + 1) l) = .int .i64 z) := Lib.hid (by rw [hz0])
        rw [hz0] at h0
        clear hz0
        go_wp2_with (first | (refine wl_load ?_) | (refine wl_store ?_) | (refine wl_build ?_) | (refine wl_slice ?_) | (refine wl_append ?_; intro v' w' ho hg hb; have hs := hg.size; (try simp at hs); (try rw [ptCs_end] at ho); (try rw [ints_end] at ho); (try simp only [Nat.zero_add, Nat.reduceAdd, List.nil_append, List.cons_append] at ho)) | (go_at_call 33; (with_reducible refine (shiftO _ n ((k : Int) + 1) b c l _ n2 n1 (by omega) (by omega) HB.out (by omega) findArg hz.out).mono ?_); rintro e w' ⟨rfl, hb⟩; have hl := Link.mk hb; have hs := hb.size; (try simp at hs); clear hb))
        go_roundw
        case rel => exact ⟨k + 1, q, by omega, by go_num, by rw [HM.out]; exact hq, by rw [HM.out]; exact findOwn, findLow, findArg⟩
        case measure => (simp [intOf]; try omega)
    · have hkn : (n - 1).toNat = k := by omega
      go_wp2_with (first | (refine wl_load ?_) | (refine wl_store ?_) | (refine wl_build ?_) | (refine wl_slice ?_) | (refine wl_append ?_; intro v' w' ho hg hb; have hs := hg.size; (try simp at hs); (try rw [ptCs_end] at ho); (try rw [ints_end] at ho); (try simp only [Nat.zero_add, Nat.reduceAdd, List.nil_append, List.cons_append] at ho)))
      (apply ret_two Try.results18; (conv => lhs; whnf); (conv => lhs; whnf); exact rfl)
      exact ⟨_, rfl, by unfold multL; rw [hkn, hq]; exact OwnK.out findOwn, LowK.out findLow⟩
set_option maxHeartbeats 4000000 in
theorem MultipliersOf_impl_no (n : Int) (b : Option Addr) (c : Nat) (l : List Int) (w : World) (hl : l.length ≤ 1000000) (hno : setB n l = false ∨ 200 < n) (hP : ArgK w b l.length l) :
    Calls Try.prog 18 #[.int .i64 n, .slice b l.length c] w (Ret w (.tuple #[.slice none 0 0, .int .i64 2])) := by
  rcases hs0 : setB n l with _ | _
  · skip
    go_enter Try.func18, Try.ntmps18
    go_wp2_with (first | (refine wl_load ?_) | (refine wl_store ?_) | (refine wl_build ?_) | (refine wl_slice ?_) | (refine wl_append ?_; intro v' w' ho hg hb; have hs := hg.size; (try simp at hs); (try rw [ptCs_end] at ho); (try rw [ints_end] at ho); (try simp only [Nat.zero_add, Nat.reduceAdd, List.nil_append, List.cons_append] at ho)) | (go_at_call 29; (with_reducible refine (isNumberSet_v n b c l _ false hs0 hl findArg).mono ?_); rintro e w' ⟨rfl, hb⟩; have hl := Link.mk hb; have hs := hb.size; (try simp at hs); clear hb))
    (apply ret_two Try.results18; (conv => lhs; whnf); (conv => lhs; whnf); exact rfl)
    exact ret_ret rfl findLow
  · have hr : 200 < n := by rcases hno with h | h; (· rw [h] at hs0; cases hs0); exact h
    go_enter Try.func18, Try.ntmps18
    go_wp2_with (first | (refine wl_load ?_) | (refine wl_store ?_) | (refine wl_build ?_) | (refine wl_slice ?_) | (refine wl_append ?_; intro v' w' ho hg hb; have hs := hg.size; (try simp at hs); (try rw [ptCs_end] at ho); (try rw [ints_end] at ho); (try simp only [Nat.zero_add, Nat.reduceAdd, List.nil_append, List.cons_append] at ho)) | (go_at_call 29; (with_reducible refine (isNumberSet_v n b c l _ true hs0 hl findArg).mono ?_); rintro e w' ⟨rfl, hb⟩; have hl := Link.mk hb; have hs := hb.size; (try simp at hs); clear hb))
    (apply ret_two Try.results18; (conv => lhs; whnf); (conv => lhs; whnf); exact rfl)
    exact ret_ret rfl findLow
set_option maxRecDepth 20000 in
set_option maxHeartbeats 8000000 in
theorem MultipliersOf_spec_yes (n : Int) (b : Option Addr) (c : Nat) (l : List Int) (w : World) (hs0 : setB n l = true) (n200 : n ≤ 200) (hP : ArgK w b l.length l) :
    Calls Try.prog 17 #[.int .i64 n, .slice b l.length c] w (IntsPost2 w (multL n l)) := by
  obtain ⟨n2, n1, hl60, HB⟩ := setB_bd hs0
  have HB := Lib.hid HB
  have hl : l.length ≤ 1000000 := by omega
  have hc0 : codeS n l = 0 := by unfold codeS; rw [hs0]; rfl
  go_enter Try.func17, Try.ntmps17
  go_wp2_with (first | (refine wl_load ?_) | (refine wl_store ?_) | (refine wl_build ?_) | (refine wl_slice ?_) | (refine wl_append ?_; intro v' w' ho hg hb; have hs := hg.size; (try simp at hs); (try rw [ptCs_end] at ho); (try rw [ints_end] at ho); (try simp only [Nat.zero_add, Nat.reduceAdd, List.nil_append, List.cons_append] at ho)) | (go_at_call 25; (with_reducible refine (l10Set_v n b c l _ 0 hc0 hl findArg).mono ?_); rintro e w' ⟨rfl, hb⟩; have hl := Link.mk hb; have hs := hb.size; (try simp at hs); clear hb))
  go_loopw [7, 8] (fun v i wr => ∃ k q : Nat, (k : Int) + 1 ≤ n ∧ i = .int .i64 ((k : Int) + 1) ∧ (multK n l k).length = q ∧ OwnK wr w.heap.size 2 1 v q (ints (multK n l k)) ∧ LowK w wr ∧ ArgK wr b l.length l) (fun _ i wr => n.toNat - (intOf i).toNat)
  case atStart => exact ⟨0, 0, by omega, rfl, rfl, (OwnK.empty (T := 2) (sz := 1) findRow (Nat.le_refl _)).rebase (by omega), findLow, findArg⟩
  case round =>
    obtain ⟨k, q, hk, rfl, hq, hO, hV, hA⟩ := hrel
    have hsz := hV.size
    have hqk : q ≤ k := by rw [← hq]; exact multK_length n l k
    by_cases hlt : (k : Int) + 1 < n
    · by_cases h0 : 0 ≤ shiftI n ((k : Int) + 1) l
      · have HM := Lib.hid (multK_yes h0)
        have hz : Hid (shiftV n ((k : Int) + 1) l = .tuple #[.int .i64 (shiftI n ((k : Int) + 1) l), .bool true]) := Lib.hid (by unfold shiftV; rw [if_pos h0])
        obtain ⟨z, hz0⟩ : ∃ z, shiftI n ((k : Int) + 1) l = z := ⟨_, rfl⟩
        try rw [hz0] at hz
        clear hz0 h0
        go_wp2_with (first | (refine wl_load ?_) | (refine wl_store ?_) | (refine wl_build ?_) | (refine wl_slice ?_) | (refine wl_append ?_; intro v' w' ho hg hb; have hs := hg.size; (try simp at hs); (try rw [ptCs_end] at ho); (try rw [ints_end] at ho); (try simp only [Nat.zero_add, Nat.reduceAdd, List.nil_append, List.cons_append] at ho)) | (go_at_call 32; (with_reducible refine (shiftO2 _ n ((k : Int) + 1) b c l _ n2 n1 (by omega) (by omega) HB.out (by omega) findArg hz.out).mono ?_); rintro e w' ⟨rfl, hb⟩; have hl := Link.mk hb; have hs := hb.size; (try simp at hs); clear hb))
        go_roundw
        case rel => exact ⟨k + 1, q + 1, by omega, by go_num, by rw [HM.out]; simp [hq], by rw [HM.out]; exact ho, findLow, ⟨fun h0 => by obtain ⟨g, e, h1⟩ := hP.out h0; have hlg := h1.lt h0; subst e; obtain ⟨g', e', h1'⟩ := hA.out h0; injection e' with e'; injection e' with e'; subst e'; exact ⟨g, rfl, findInts⟩⟩⟩
        case measure => (simp [intOf]; try omega)
      · have HM := Lib.hid (multK_no h0)
        have hz : Hid (shiftV n ((k : Int) + 1) l = .tuple #[.int .i64 0, .bool false]) := Lib.hid (by unfold shiftV; rw [if_neg h0])
        obtain ⟨z, hz0⟩ : ∃ z, shiftI n ((k : Int) + 1) l = z := ⟨_, rfl⟩
        try rw [hz0] at hz
        clear hz0 h0
        go_wp2_with (first | (refine wl_load ?_) | (refine wl_store ?_) | (refine wl_build ?_) | (refine wl_slice ?_) | (refine wl_append ?_; intro v' w' ho hg hb; have hs := hg.size; (try simp at hs); (try rw [ptCs_end] at ho); (try rw [ints_end] at ho); (try simp only [Nat.zero_add, Nat.reduceAdd, List.nil_append, List.cons_append] at ho)) | (go_at_call 32; (with_reducible refine (shiftO2 _ n ((k : Int) + 1) b c l _ n2 n1 (by omega) (by omega) HB.out (by omega) findArg hz.out).mono ?_); rintro e w' ⟨rfl, hb⟩; have hl := Link.mk hb; have hs := hb.size; (try simp at hs); clear hb))
        go_roundw
        case rel => exact ⟨k + 1, q, by omega, by go_num, by rw [HM.out]; exact hq, by rw [HM.out]; exact findOwn, findLow, findArg⟩
        case measure => (simp [intOf]; try omega)
    · have hkn : (n - 1).toNat = k := by omega
      go_wp2_with (first | (refine wl_load ?_) | (refine wl_store ?_) | (refine wl_build ?_) | (refine wl_slice ?_) | (refine wl_append ?_; intro v' w' ho hg hb; have hs := hg.size; (try simp at hs); (try rw [ptCs_end] at ho); (try rw [ints_end] at ho); (try simp only [Nat.zero_add, Nat.reduceAdd, List.nil_append, List.cons_append] at ho)))
      (apply ret_two Try.results17; (conv => lhs; whnf); (conv => lhs; whnf); exact rfl)
      exact ⟨_, rfl, by unfold multL; rw [hkn, hq]; exact OwnK.out findOwn, LowK.out findLow⟩
set_option maxHeartbeats 4000000 in
theorem MultipliersOf_spec_no (n : Int) (b : Option Addr) (c : Nat) (l : List Int) (w : World) (hl : l.length ≤ 1000000) (hno : setB n l = false ∨ 200 < n) (hP : ArgK w b l.length l) :
    Calls Try.prog 17 #[.int .i64 n, .slice b l.length c] w (Ret w (.tuple #[.slice none 0 0, .int .i64 2])) := by
  rcases hs0 : setB n l with _ | _
  · skip
    have hc0 : codeS n l = 2 := by unfold codeS; rw [hs0]; rfl
    go_enter Try.func17, Try.ntmps17
    go_wp2_with (first | (refine wl_load ?_) | (refine wl_store ?_) | (refine wl_build ?_) | (refine wl_slice ?_) | (refine wl_append ?_; intro v' w' ho hg hb; have hs := hg.size; (try simp at hs); (try rw [ptCs_end] at ho); (try rw [ints_end] at ho); (try simp only [Nat.zero_add, Nat.reduceAdd, List.nil_append, List.cons_append] at ho)) | (go_at_call 25; (with_reducible refine (l10Set_v n b c l _ 2 hc0 hl findArg).mono ?_); rintro e w' ⟨rfl, hb⟩; have hl := Link.mk hb; have hs := hb.size; (try simp at hs); clear hb))
    (apply ret_two Try.results17; (conv => lhs; whnf); (conv => lhs; whnf); exact rfl)
    exact ret_ret rfl findLow
  · have hr : 200 < n := by rcases hno with h | h; (· rw [h] at hs0; cases hs0); exact h
    have hc0 : codeS n l = 0 := by unfold codeS; rw [hs0]; rfl
    go_enter Try.func17, Try.ntmps17
    go_wp2_with (first | (refine wl_load ?_) | (refine wl_store ?_) | (refine wl_build ?_) | (refine wl_slice ?_) | (refine wl_append ?_; intro v' w' ho hg hb; have hs := hg.size; (try simp at hs); (try rw [ptCs_end] at ho); (try rw [ints_end] at ho); (try simp only [Nat.zero_add, Nat.reduceAdd, List.nil_append, List.cons_append] at ho)) | (go_at_call 25; (with_reducible refine (l10Set_v n b c l _ 0 hc0 hl findArg).mono ?_); rintro e w' ⟨rfl, hb⟩; have hl := Link.mk hb; have hs := hb.size; (try simp at hs); clear hb))
    (apply ret_two Try.results17; (conv => lhs; whnf); (conv => lhs; whnf); exact rfl)
    exact ret_ret rfl findLow
end Go.Proofs.Ytkhaiphipdpgeaa
/- The law FnExactMultipliersOf: all cases. -/
namespace Go.Proofs.Ytkhaiphipdpgeaa
open Go.RowKit
set_option linter.unusedVariables false
set_option linter.unusedSimpArgs false
theorem FnExactMultipliersOf_walk (n : Int) (b : Option Addr) (k cap : Nat) (l : List Int) (w : World) (hl : l.length = k) (hc : ArgI w b k l) :
    Calls Try.prog 5 #[.int .i64 n, .slice b k cap] w (Ret w (.bool true)) := by
  rcases Nat.lt_or_ge 1000000 k with h | h
  · exact FnExactMultipliersOf_big n b k cap w h
  · by_cases hy : setB n l = true ∧ n ≤ 200
    · obtain ⟨h1, h2⟩ := hy
      have HS : ∀ (W : World) (b : Option Addr) (c : Nat), ArgK W b k l → Calls Try.prog 17 #[.int .i64 n, .slice b k c] W (IntsPost2 W (multL n l)) := fun W b c hA => by
        subst hl; exact MultipliersOf_spec_yes n b c l W h1 h2 hA
      have HI : ∀ (W : World) (b : Option Addr) (c : Nat), ArgK W b k l → Calls Try.prog 18 #[.int .i64 n, .slice b k c] W (IntsPost2 W (multL n l)) := fun W b c hA => by
        subst hl; exact MultipliersOf_impl_yes n b c l W h1 h2 hA
      obtain ⟨Q, hQ⟩ : ∃ Q, (multL n l).length = Q := ⟨_, rfl⟩
      have hQ1 : Q ≤ 1000000 := by have := multK_length n l (n - 1).toNat; unfold multL at hQ; omega
      rcases Nat.eq_zero_or_pos Q with q0 | q0
      · have HS' : ∀ (W : World) (b : Option Addr) (c : Nat), ArgK W b k l → Calls Try.prog 17 #[.int .i64 n, .slice b k c] W (NoneK W) := fun W b c hA => (HS W b c hA).mono fun e w' hp => NoneK.of hp (by omega)
        have HI' : ∀ (W : World) (b : Option Addr) (c : Nat), ArgK W b k l → Calls Try.prog 18 #[.int .i64 n, .slice b k c] W (NoneK W) := fun W b c hA => (HI W b c hA).mono fun e w' hp => NoneK.of hp (by omega)
        rcases Nat.eq_zero_or_pos k with h0 | h0
        · exact FnExactMultipliersOf_zero_none n b k cap l w hl h hc h0 HS' HI'
        · exact FnExactMultipliersOf_pos_none n b k cap l w hl h hc h0 HS' HI'
      · have HS' : ∀ (W : World) (b : Option Addr) (c : Nat), ArgK W b k l → Calls Try.prog 17 #[.int .i64 n, .slice b k c] W (MadeK W Q (multL n l)) := fun W b c hA => (HS W b c hA).mono fun e w' hp => MadeK.of hp hQ q0
        have HI' : ∀ (W : World) (b : Option Addr) (c : Nat), ArgK W b k l → Calls Try.prog 18 #[.int .i64 n, .slice b k c] W (MadeK W Q (multL n l)) := fun W b c hA => (HI W b c hA).mono fun e w' hp => MadeK.of hp hQ q0
        rcases Nat.eq_zero_or_pos k with h0 | h0
        · exact FnExactMultipliersOf_zero_made n b k cap l w hl h hc h0 Q _ q0 hQ1 HS' HI'
        · exact FnExactMultipliersOf_pos_made n b k cap l w hl h hc h0 Q _ q0 hQ1 HS' HI'
    · have hno : setB n l = false ∨ 200 < n := by
        rcases hs : setB n l with _ | _
        · exact .inl rfl
        · right
          have : ¬ n ≤ 200 := fun h2 => hy ⟨hs, h2⟩
          omega
      have HS : ∀ (W : World) (b : Option Addr) (c : Nat), ArgK W b k l → Calls Try.prog 17 #[.int .i64 n, .slice b k c] W (Ret W (.tuple #[.slice none 0 0, .int .i64 2])) := fun W b c hA => by
        subst hl; exact MultipliersOf_spec_no n b c l W h hno hA
      have HI : ∀ (W : World) (b : Option Addr) (c : Nat), ArgK W b k l → Calls Try.prog 18 #[.int .i64 n, .slice b k c] W (Ret W (.tuple #[.slice none 0 0, .int .i64 2])) := fun W b c hA => by
        subst hl; exact MultipliersOf_impl_no n b c l W h hno hA
      rcases Nat.eq_zero_or_pos k with h0 | h0
      · exact FnExactMultipliersOf_zero_no n b k cap l w hl h hc h0 HS HI
      · exact FnExactMultipliersOf_pos_no n b k cap l w hl h hc h0 HS HI
end Go.Proofs.Ytkhaiphipdpgeaa
