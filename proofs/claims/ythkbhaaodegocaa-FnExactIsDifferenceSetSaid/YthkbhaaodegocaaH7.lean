/- The law FnExactIsDifferenceSet: walked. -/
import Derived.Test.YthkbhaaodegocaaH6
namespace Go.Proofs.Ythkbhaaodegocaa
open Go.RowKit
set_option linter.unusedVariables false
set_option linter.unusedSimpArgs false
structure LaidK (w : World) (k : Nat) (l : List Int) (e : Ending) (w' : World) : Prop where
  out : ∃ g, e = .returned (.slice (some ⟨g, 0, none⟩) k (k + roomN k)) ∧ w.heap.size ≤ g ∧ g < w'.heap.size ∧ RoomI w' g (k + roomN k) 2 ∧ IntsAt w' g 0 (k + roomN k) (withRoomI l) ∧ Below w.heap.size w w'
theorem toInt64S_k (b : Option Addr) (k cap : Nat) (bare : Bool) (l : List Int) (w : World) (hl : l.length = k) (hn : k ≤ 1000000) (hb : bare = false ∨ 0 < k) (hc : ArgI w b k l) :
    Calls Try.prog 19 #[.slice b k cap, .bool bare] w (LaidK w k l) := by
  subst hl
  exact (toInt64S_any b l.length cap bare l w rfl hn hb hc).mono fun e w' ⟨g, he, h1, h2, h3, h4⟩ => ⟨g, he, h1, h2.lt, h2, h3, h4⟩
theorem toInt64S_zero (b : Option Addr) (k cap : Nat) (w : World) (hk : k = 0) : Calls Try.prog 19 #[.slice b k cap, .bool true] w fun e w' => e = .returned (.slice none 0 0) ∧ w = w' := by
  subst hk; exact toInt64S_nil cap b w
theorem laid_arg {w' : World} {g k : Nat} {l : List Int} (hl : l.length = k) (h : IntsAt w' g 0 (k + roomN k) (withRoomI l)) : ArgI w' (some ⟨g, 0, none⟩) k l := by
  subst hl
  exact fun _ => ⟨g, 0, rfl, fun i hi => by rw [h i (by omega), withRoomI_at l i hi]⟩
set_option maxHeartbeats 4000000 in
theorem FnExactIsDifferenceSet_big (n : Int) (b : Option Addr) (k cap : Nat) (w : World) (hk : 1000000 < k) :
    Calls Try.prog 4 #[.int .i64 n, .slice b k cap] w (Ret w (.bool true)) := by
  have hz : (1000000 : Int) < (k : Int) := by omega
  go_enter Try.func4, Try.ntmps4
  go_wp2
  go_ret
  exact ⟨rfl, Below.refl _ _⟩
set_option maxHeartbeats 4000000 in
theorem FnExactIsDifferenceSet_pos (n : Int) (b : Option Addr) (k cap : Nat) (l : List Int) (w : World) (hl : l.length = k) (hk : k ≤ 1000000) (hc : ArgI w b k l) (h0 : 0 < k) :
    Calls Try.prog 4 #[.int .i64 n, .slice b k cap] w (Ret w (.bool true)) := by
  have HT := Lib.hid (fun (W : World) (hW : Below w.heap.size w W) => toInt64S_k b k cap false l W hl hk (.inl rfl) (hc.below hW))
  have HU := Lib.hid (fun (W : World) (hW : Below w.heap.size w W) => toInt64S_k b k cap true l W hl hk (.inr h0) (hc.below hW))
  have hk0 : ((k : Int) == 0) = false := beqf (by omega)
  have HS := Lib.hid (fun (W : World) (g cap : Nat) (h : ArgI W (some ⟨g, 0, none⟩) k l) => IsDifferenceSet_spec n (some ⟨g, 0, none⟩) k cap l W hl hk h)
  have HI := Lib.hid (fun (W : World) (b : Option Addr) (cap : Nat) (h : ArgI W b k l) => IsDifferenceSet_impl n b k cap l W hl hk h)
  have HN := Lib.hid (fun (W : World) (g g2 : Nat) h1 h2 => intactInt64S_same g g2 k (withRoomI l) W hk h1 h2)
  have HL := Lib.hid hl
  have hz : ¬ (1000000 : Int) < (k : Int) := by omega
  have tok1 : True := trivial
  have tok2 : True := trivial
  have tok3 : True := trivial
  have tok4 : True := trivial
  have tok5 : True := trivial
  have tok6 : True := trivial
  have tok7 : True := trivial
  have tok8 : True := trivial
  generalize diffR n l = r at *
  obtain ⟨o, c⟩ := r
  clear hc hl
  go_enter Try.func4, Try.ntmps4
  go_wp2_with (first
    | (have _t := tok1; go_at_call 19; (with_reducible refine (HT.out _ (Below.refl _ _)).mono ?_); rintro e w1_ ⟨g1, rfl, hg1, hgl1, hr1, hp1, hb1⟩; have hsz1 := hb1.size; have HB1 := Lib.hid hb1; have HP1 := Lib.hid hp1; clear hr1 hp1 hb1 tok1)
    | (have _t := tok2; go_at_call 18; (with_reducible refine (HS.out _ _ _ (laid_arg HL.out HP1.out)).mono ?_); rintro e w2_ ⟨rfl, hb2⟩; have hsz2 := hb2.size; have HB2 := Lib.hid hb2; clear hb2 tok2)
    | (have _t := tok3; go_at_call 19; (with_reducible refine (HT.out _ (by refine low_tr' ?_ HB2.out (by omega); refine low_tr' ?_ HB1.out (by omega); exact Below.refl _ _)).mono ?_); rintro e w3_ ⟨g3, rfl, hg3, hgl3, hr3, hp3, hb3⟩; have hsz3 := hb3.size; have HB3 := Lib.hid hb3; have HP3 := Lib.hid hp3; clear hr3 hp3 hb3 tok3)
    | (have _t := tok4; go_at_call 20; (with_reducible refine (HI.out _ _ _ (laid_arg HL.out HP3.out)).mono ?_); rintro e w4_ ⟨rfl, hb4⟩; have hsz4 := hb4.size; have HB4 := Lib.hid hb4; clear hb4 tok4)
    | (have _t := tok5; go_at_call 19; (with_reducible refine (HT.out _ (by refine low_tr' ?_ HB4.out (by omega); refine low_tr' ?_ HB3.out (by omega); refine low_tr' ?_ HB2.out (by omega); refine low_tr' ?_ HB1.out (by omega); exact Below.refl _ _)).mono ?_); rintro e w5_ ⟨g5, rfl, hg5, hgl5, hr5, hp5, hb5⟩; have hsz5 := hb5.size; have HB5 := Lib.hid hb5; have HP5 := Lib.hid hp5; clear hr5 hp5 hb5 tok5)
    | (have _t := tok6; go_at_call 21; (with_reducible refine (HN.out _ _ _ ((HP3.out.below HB4.out).below HB5.out) HP5.out).mono ?_); rintro e w6_ ⟨rfl, hb6⟩; have hsz6 := hb6.size; have HB6 := Lib.hid hb6; clear hb6 tok6)
    | (have _t := tok7; go_at_call 19; (with_reducible refine (HU.out _ (low_tr' (low_tr' (low_tr' (low_tr' (low_tr' (low_tr' (Below.refl _ _) HB1.out (by omega)) HB2.out (by omega)) HB3.out (by omega)) HB4.out (by omega)) HB5.out (by omega)) HB6.out (by omega))).mono ?_); rintro e w7_ ⟨g7, rfl, hg7, hgl7, hr7, hp7, hb7⟩; have hsz7 := hb7.size; have HB7 := Lib.hid hb7; have HP7 := Lib.hid hp7; clear hr7 hp7 hb7 tok7)
    | (have _t := tok8; go_at_call 20; (with_reducible refine (HI.out _ _ _ (laid_arg HL.out HP7.out)).mono ?_); rintro e w8_ ⟨rfl, hb8⟩; have hsz8 := hb8.size; have HB8 := Lib.hid hb8; clear hb8 tok8))
  go_ret
  exact ⟨rfl, low_tr' (low_tr' (low_tr' (low_tr' (low_tr' (low_tr' (low_tr' (low_tr' (Below.refl _ _) HB1.out (by omega)) HB2.out (by omega)) HB3.out (by omega)) HB4.out (by omega)) HB5.out (by omega)) HB6.out (by omega)) HB7.out (by omega)) HB8.out (by omega)⟩
set_option maxHeartbeats 4000000 in
theorem FnExactIsDifferenceSet_zero (n : Int) (b : Option Addr) (k cap : Nat) (l : List Int) (w : World) (hl : l.length = k) (hk : k ≤ 1000000) (hc : ArgI w b k l) (h0 : k = 0) :
    Calls Try.prog 4 #[.int .i64 n, .slice b k cap] w (Ret w (.bool true)) := by
  have hk0 : ((k : Int) == 0) = true := by simp [h0]
  have HT := Lib.hid (fun (W : World) (hW : Below w.heap.size w W) => toInt64S_k b k cap false l W hl hk (.inl rfl) (hc.below hW))
  have HS := Lib.hid (fun (W : World) (g cap : Nat) (h : ArgI W (some ⟨g, 0, none⟩) k l) => IsDifferenceSet_spec n (some ⟨g, 0, none⟩) k cap l W hl hk h)
  have HI := Lib.hid (fun (W : World) (b : Option Addr) (cap : Nat) (h : ArgI W b k l) => IsDifferenceSet_impl n b k cap l W hl hk h)
  have HU := Lib.hid (fun (W : World) => toInt64S_zero b k cap W h0)
  have HI0 := Lib.hid (fun (W : World) => IsDifferenceSet_impl n none 0 0 l W (by omega) (by omega) (fun h => absurd h (Nat.lt_irrefl _)))
  have HN := Lib.hid (fun (W : World) (g g2 : Nat) h1 h2 => intactInt64S_same g g2 k (withRoomI l) W hk h1 h2)
  have HL := Lib.hid hl
  have hz : ¬ (1000000 : Int) < (k : Int) := by omega
  have tok1 : True := trivial
  have tok2 : True := trivial
  have tok3 : True := trivial
  have tok4 : True := trivial
  have tok5 : True := trivial
  have tok6 : True := trivial
  have tok7 : True := trivial
  have tok8 : True := trivial
  generalize diffR n l = r at *
  obtain ⟨o, c⟩ := r
  clear hc hl h0
  go_enter Try.func4, Try.ntmps4
  go_wp2_with (first
    | (have _t := tok1; go_at_call 19; (with_reducible refine (HT.out _ (Below.refl _ _)).mono ?_); rintro e w1_ ⟨g1, rfl, hg1, hgl1, hr1, hp1, hb1⟩; have hsz1 := hb1.size; have HB1 := Lib.hid hb1; have HP1 := Lib.hid hp1; clear hr1 hp1 hb1 tok1)
    | (have _t := tok2; go_at_call 18; (with_reducible refine (HS.out _ _ _ (laid_arg HL.out HP1.out)).mono ?_); rintro e w2_ ⟨rfl, hb2⟩; have hsz2 := hb2.size; have HB2 := Lib.hid hb2; clear hb2 tok2)
    | (have _t := tok3; go_at_call 19; (with_reducible refine (HT.out _ (by refine low_tr' ?_ HB2.out (by omega); refine low_tr' ?_ HB1.out (by omega); exact Below.refl _ _)).mono ?_); rintro e w3_ ⟨g3, rfl, hg3, hgl3, hr3, hp3, hb3⟩; have hsz3 := hb3.size; have HB3 := Lib.hid hb3; have HP3 := Lib.hid hp3; clear hr3 hp3 hb3 tok3)
    | (have _t := tok4; go_at_call 20; (with_reducible refine (HI.out _ _ _ (laid_arg HL.out HP3.out)).mono ?_); rintro e w4_ ⟨rfl, hb4⟩; have hsz4 := hb4.size; have HB4 := Lib.hid hb4; clear hb4 tok4)
    | (have _t := tok5; go_at_call 19; (with_reducible refine (HT.out _ (by refine low_tr' ?_ HB4.out (by omega); refine low_tr' ?_ HB3.out (by omega); refine low_tr' ?_ HB2.out (by omega); refine low_tr' ?_ HB1.out (by omega); exact Below.refl _ _)).mono ?_); rintro e w5_ ⟨g5, rfl, hg5, hgl5, hr5, hp5, hb5⟩; have hsz5 := hb5.size; have HB5 := Lib.hid hb5; have HP5 := Lib.hid hp5; clear hr5 hp5 hb5 tok5)
    | (have _t := tok6; go_at_call 21; (with_reducible refine (HN.out _ _ _ ((HP3.out.below HB4.out).below HB5.out) HP5.out).mono ?_); rintro e w6_ ⟨rfl, hb6⟩; have hsz6 := hb6.size; have HB6 := Lib.hid hb6; clear hb6 tok6)
    | (have _t := tok7; go_at_call 19; (with_reducible refine (HU.out _).mono ?_); rintro e w' ⟨rfl, rfl⟩; clear tok7)
    | (have _t := tok8; go_at_call 20; (with_reducible refine (HI0.out _).mono ?_); rintro e w8_ ⟨rfl, hb8⟩; have hsz8 := hb8.size; have HB8 := Lib.hid hb8; clear hb8 tok8))
  go_ret
  exact ⟨rfl, low_tr' (low_tr' (low_tr' (low_tr' (low_tr' (low_tr' (low_tr' (Below.refl _ _) HB1.out (by omega)) HB2.out (by omega)) HB3.out (by omega)) HB4.out (by omega)) HB5.out (by omega)) HB6.out (by omega)) HB8.out (by omega)⟩
theorem FnExactIsDifferenceSet_walk (n : Int) (b : Option Addr) (k cap : Nat) (l : List Int) (w : World) (hl : l.length = k) (hc : ArgI w b k l) :
    Calls Try.prog 4 #[.int .i64 n, .slice b k cap] w (Ret w (.bool true)) := by
  rcases Nat.lt_or_ge 1000000 k with h | h
  · exact FnExactIsDifferenceSet_big n b k cap w h
  · rcases Nat.eq_zero_or_pos k with h0 | h0
    · exact FnExactIsDifferenceSet_zero n b k cap l w hl h hc h0
    · exact FnExactIsDifferenceSet_pos n b k cap l w hl h hc h0
end Go.Proofs.Ythkbhaaodegocaa
