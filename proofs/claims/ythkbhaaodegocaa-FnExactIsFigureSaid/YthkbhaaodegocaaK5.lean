/- Contracts: the laws' own figures: laid, weighed, intact. (Printed by genk5.py, a program of this session.) -/
import Derived.Test.YthkbhaaodegocaaK4
import Derived.Test.YthkbhaaodegocaaG3
namespace Go.Proofs.Ythkbhaaodegocaa
open Go.RowKit
set_option linter.unusedVariables false
set_option linter.unusedSimpArgs false
structure LaidF (w : World) (n1 n2 : Nat) (l1 l2 : List Pt) (e : Ending) (w' : World) : Prop where
  out : ∃ g1 g2, e = .returned (figV (some ⟨g1, 0, none⟩) n1 (n1 + roomN n1) (some ⟨g2, 0, none⟩) n2 (n2 + roomN n2)) ∧ PtsAt w' g1 0 (n1 + roomN n1) (withRoomP l1) ∧ PtsAt w' g2 0 (n2 + roomN n2) (withRoomP l2) ∧ Below w.heap.size w w'
structure LaidFB (w : World) (n1 n2 : Nat) (l1 l2 : List Pt) (e : Ending) (w' : World) : Prop where
  out : ∃ b1 c1 b2 c2, e = .returned (figV b1 n1 c1 b2 n2 c2) ∧ ListP w' b1 n1 l1 ∧ ListP w' b2 n2 l2 ∧ Below w.heap.size w w'
theorem pts_setCell_other {w : World} {b o n : Nat} {l : List Pt} (h : PtsAt w b o n l) {g i : Nat} (hg : b ≠ g) (v : Value) : PtsAt (w.setCell ⟨g, i, none⟩ v) b o n l := fun j hj => by
  obtain ⟨h0, h1, h2⟩ := h j hj
  refine ⟨?_, ?_, ?_⟩
  · rw [World.cell?_setCell_other _ _ _ _ (fun h => hg (by cases h; rfl))]; exact h0
  · rw [World.cell?_setCell_other _ _ _ _ (fun h => hg (by cases h; rfl))]; exact h1
  · rw [World.cell?_setCell_other _ _ _ _ (fun h => hg (by cases h; rfl))]; exact h2
theorem list_setCell_other {w : World} {b : Option Addr} {n : Nat} {l : List Pt} (h : ListP w b n l) {g i : Nat} (hg : ∀ a o, b = some ⟨a, o, none⟩ → a ≠ g) (v : Value) : ListP (w.setCell ⟨g, i, none⟩ v) b n l :=
  ⟨h.1, fun hn => by obtain ⟨a, o, e, hp⟩ := h.2 hn; exact ⟨a, o, e, pts_setCell_other hp (hg a o e) v⟩⟩
set_option maxHeartbeats 1000000 in
theorem toFigure_R (b1 : Option Addr) (n1 c1 : Nat) (b2 : Option Addr) (n2 c2 : Nat) (l1 l2 : List Pt) (w : World) (hn1 : n1 ≤ 1000000) (hn2 : n2 ≤ 1000000) (h1 : ListP w b1 n1 l1) (h2 : ListP w b2 n2 l2) :
    Calls Try.prog 51 #[figV b1 n1 c1 b2 n2 c2, .bool false] w (LaidF w n1 n2 l1 l2) := by
  have HA := Lib.hid (fun (W : World) (hW : Below w.heap.size w W) => toPointS_R b1 n1 c1 l1 W hn1 (h1.below hW))
  have HL := Lib.hid (fun (W : World) (hW : Below w.heap.size w W) => toLineS_R b2 n2 c2 l2 W hn2 (h2.below hW))
  clear h1 h2
  go_enter Try.func51, Try.ntmps51
  go_wp2_with (first
    | (go_at_call 46; (with_reducible refine (HA.out _ (by repeat (first | exact Below.refl _ _ | refine bset ?_ _ _ (by omega) _ | refine bal ?_ _ | refine bdrN ?_ _ | refine bdr ?_))).mono ?_); rintro e w1_ ⟨g1, rfl, hg1, hgl1, hr1, hp1, hb1⟩; obtain ⟨hcb1, hfb1, hlb1⟩ := bcell hb1; have hsz1 := hb1.size; (try simp at hsz1); (try simp at hg1); have HB1 := Lib.hid hb1; have HP1 := Lib.hid hp1; clear hb1 hp1 hr1; have hl01 : w.heap.size < w1_.heap.size := (by omega); have hl11 : w.heap.size + 1 < w1_.heap.size := (by omega); have hl21 : w.heap.size + 1 + 1 < w1_.heap.size := (by omega))
    | (go_at_call 112; (with_reducible refine (HL.out _ (by repeat (first | exact Below.refl _ _ | refine bset ?_ _ _ (by omega) _ | refine bal ?_ _ | refine bdrN ?_ _ | refine bdr ?_ | refine below_tr' ?_ HB1.out))).mono ?_); rintro e w2_ ⟨g2, rfl, hg2, hgl2, hr2, hp2, hb2⟩; obtain ⟨hcb2, hfb2, hlb2⟩ := bcell hb2; have hsz2 := hb2.size; (try simp at hsz2); (try simp at hg2); have HB2 := Lib.hid hb2; have HP2 := Lib.hid hp2; clear hb2 hp2 hr2; have hl02 : w.heap.size < w2_.heap.size := (by omega); have hl12 : w.heap.size + 1 < w2_.heap.size := (by omega); have hl22 : w.heap.size + 1 + 1 < w2_.heap.size := (by omega)))
  refine bodyPost_ret (v := figV (some ⟨g1, 0, none⟩) n1 (n1 + roomN n1) (some ⟨g2, 0, none⟩) n2 (n2 + roomN n2)) (by simp [results, Try.results51, go_sem, hcb2, hcb1, hl02, hl12, hl22, hl01, hl11, hl21]) rfl ⟨⟨g1, g2, rfl, ?_, ?_, (by repeat (first | exact Below.refl _ _ | refine bset ?_ _ _ (by omega) _ | refine bal ?_ _ | refine bdrN ?_ _ | refine bdr ?_ | refine below_tr' ?_ HB2.out | refine below_tr' ?_ HB1.out))⟩⟩
  · exact pts_setCell_other (pts_setCell_other (pts_setCell_other ((pts_setCell_other HP1.out (by omega) _).below HB2.out) (by omega) _) (by omega) _) (by omega) _
  · exact pts_setCell_other (pts_setCell_other (pts_setCell_other HP2.out (by omega) _) (by omega) _) (by omega) _
set_option maxHeartbeats 1000000 in
theorem toFigure_B (b1 : Option Addr) (n1 c1 : Nat) (b2 : Option Addr) (n2 c2 : Nat) (l1 l2 : List Pt) (w : World) (hn1 : n1 ≤ 1000000) (hn2 : n2 ≤ 1000000) (h1 : ListP w b1 n1 l1) (h2 : ListP w b2 n2 l2) :
    Calls Try.prog 51 #[figV b1 n1 c1 b2 n2 c2, .bool true] w (LaidFB w n1 n2 l1 l2) := by
  have HA := Lib.hid (fun (W : World) (hW : Below w.heap.size w W) => toPointS_B b1 n1 c1 l1 W hn1 (h1.below hW))
  have HL := Lib.hid (fun (W : World) (hW : Below w.heap.size w W) => toLineS_B b2 n2 c2 l2 W hn2 (h2.below hW))
  clear h1 h2
  go_enter Try.func51, Try.ntmps51
  go_wp2_with (first
    | (go_at_call 46; (with_reducible refine (HA.out _ (by repeat (first | exact Below.refl _ _ | refine bset ?_ _ _ (by omega) _ | refine bal ?_ _ | refine bdrN ?_ _ | refine bdr ?_))).mono ?_); rintro e w1_ ⟨B1, C1, rfl, hp1, hg1, hb1⟩; obtain ⟨hcb1, hfb1, hlb1⟩ := bcell hb1; have hsz1 := hb1.size; (try simp at hsz1); have HB1 := Lib.hid hb1; have HP1 := Lib.hid hp1; clear hb1 hp1; have hl01 : w.heap.size < w1_.heap.size := (by omega); have hl11 : w.heap.size + 1 < w1_.heap.size := (by omega); have hl21 : w.heap.size + 1 + 1 < w1_.heap.size := (by omega))
    | (go_at_call 112; (with_reducible refine (HL.out _ (by repeat (first | exact Below.refl _ _ | refine bset ?_ _ _ (by omega) _ | refine bal ?_ _ | refine bdrN ?_ _ | refine bdr ?_ | refine below_tr' ?_ HB1.out))).mono ?_); rintro e w2_ ⟨B2, C2, rfl, hp2, hg2, hb2⟩; obtain ⟨hcb2, hfb2, hlb2⟩ := bcell hb2; have hsz2 := hb2.size; (try simp at hsz2); have HB2 := Lib.hid hb2; have HP2 := Lib.hid hp2; clear hb2 hp2; have hl02 : w.heap.size < w2_.heap.size := (by omega); have hl12 : w.heap.size + 1 < w2_.heap.size := (by omega); have hl22 : w.heap.size + 1 + 1 < w2_.heap.size := (by omega)))
  refine bodyPost_ret (v := figV B1 n1 C1 B2 n2 C2) (by simp [results, Try.results51, go_sem, hcb2, hcb1, hl02, hl12, hl22, hl01, hl11, hl21]) rfl ⟨⟨B1, C1, B2, C2, rfl, ?_, ?_, (by repeat (first | exact Below.refl _ _ | refine bset ?_ _ _ (by omega) _ | refine bal ?_ _ | refine bdrN ?_ _ | refine bdr ?_ | refine below_tr' ?_ HB2.out | refine below_tr' ?_ HB1.out))⟩⟩
  · have f1 := fun a o e => (by have := hg1 a o e; simp at this; omega : w.heap.size + 1 + 1 < a)
    exact list_setCell_other (list_setCell_other (list_setCell_other ((list_setCell_other HP1.out (fun a o e => by have := f1 a o e; omega) _).below HB2.out) (fun a o e => by have := f1 a o e; omega) _) (fun a o e => by have := f1 a o e; omega) _) (fun a o e => by have := f1 a o e; omega) _
  · have f1 := fun a o e => (by have := hg2 a o e; simp at this; omega : w.heap.size + 1 + 1 < a)
    exact list_setCell_other (list_setCell_other (list_setCell_other HP2.out (fun a o e => by have := f1 a o e; omega) _) (fun a o e => by have := f1 a o e; omega) _) (fun a o e => by have := f1 a o e; omega) _
theorem szFigure_any (b1 : Option Addr) (n1 c1 : Nat) (b2 : Option Addr) (n2 c2 : Nat) (w : World) (hn1 : n1 ≤ 9223372036854775807) (hn2 : n2 ≤ 9223372036854775807) :
    Calls Try.prog 49 #[figV b1 n1 c1 b2 n2 c2, .int .i64 1000000] w (Ret w (.int .i64 (if n1 + n2 ≤ 1000000 then 1000000 - n1 - n2 else -1))) := by
  have HA := Lib.hid (fun (W : World) => szPointS_any b1 n1 c1 1000000 W (by omega) hn1)
  by_cases h1 : n1 ≤ 1000000
  · have h1z : ¬ (1000000 : Int) < (n1 : Int) := by omega
    rw [if_neg h1z] at HA
    have HL := Lib.hid (fun (W : World) => szLineS_any b2 n2 c2 (1000000 - (n1 : Int)) W (by omega) hn2)
    by_cases h2 : n1 + n2 ≤ 1000000
    · have h2z : ¬ (1000000 - (n1 : Int)) < (n2 : Int) := by omega
      rw [if_neg h2z] at HL
      rw [if_pos h2]
      generalize hq : (1000000 : Int) - (n1 : Int) = q at *
      generalize hs : q - (n2 : Int) = t at *
      have hq0 : 0 ≤ q := by omega
      have ht0 : 0 ≤ t := by omega
      go_enter Try.func49, Try.ntmps49
      go_wp2_with (first
        | (go_at_call 44; refine (HA.out _).mono ?_; rintro e w' ⟨rfl, rfl⟩)
        | (go_at_call 109; refine (HL.out _).mono ?_; rintro e w' ⟨rfl, rfl⟩))
      go_ret
      exact ⟨rfl, (by repeat (first | exact Below.refl _ _ | refine bset ?_ _ _ (by omega) _ | refine bal ?_ _ | refine bdrN ?_ _ | refine bdr ?_))⟩
    · have h2z : (1000000 - (n1 : Int)) < (n2 : Int) := by omega
      rw [if_pos h2z] at HL
      rw [if_neg h2]
      generalize hq : (1000000 : Int) - (n1 : Int) = q at *
      have hq0 : 0 ≤ q := by omega
      go_enter Try.func49, Try.ntmps49
      go_wp2_with (first
        | (go_at_call 44; refine (HA.out _).mono ?_; rintro e w' ⟨rfl, rfl⟩)
        | (go_at_call 109; refine (HL.out _).mono ?_; rintro e w' ⟨rfl, rfl⟩))
      go_ret
      exact ⟨rfl, (by repeat (first | exact Below.refl _ _ | refine bset ?_ _ _ (by omega) _ | refine bal ?_ _ | refine bdrN ?_ _ | refine bdr ?_))⟩
  · have h1z : (1000000 : Int) < (n1 : Int) := by omega
    rw [if_pos h1z] at HA
    rw [if_neg (by omega : ¬ n1 + n2 ≤ 1000000)]
    go_enter Try.func49, Try.ntmps49
    go_wp2_with (go_at_call 44; refine (HA.out _).mono ?_; rintro e w' ⟨rfl, rfl⟩)
    go_ret
    exact ⟨rfl, (by repeat (first | exact Below.refl _ _ | refine bset ?_ _ _ (by omega) _ | refine bal ?_ _ | refine bdrN ?_ _ | refine bdr ?_))⟩
theorem intactFigure_same (g1 g2 k1 k2 n1 n2 : Nat) (l1 l2 : List Pt) (w : World) (hn1 : n1 ≤ 1000000) (hn2 : n2 ≤ 1000000) (hl1 : l1.length = n1) (hl2 : l2.length = n2)
    (h1 : PtsAt w g1 0 (n1 + roomN n1) (withRoomP l1)) (h2 : PtsAt w g2 0 (n2 + roomN n2) (withRoomP l2)) (h3 : PtsAt w k1 0 (n1 + roomN n1) (withRoomP l1)) (h4 : PtsAt w k2 0 (n2 + roomN n2) (withRoomP l2)) :
    Calls Try.prog 53 #[figV (some ⟨g1, 0, none⟩) n1 (n1 + roomN n1) (some ⟨g2, 0, none⟩) n2 (n2 + roomN n2), figV (some ⟨k1, 0, none⟩) n1 (n1 + roomN n1) (some ⟨k2, 0, none⟩) n2 (n2 + roomN n2)] w (Ret w (.bool true)) := by
  have HA := Lib.hid (fun (W : World) (hW : Below w.heap.size w W) => intactPointS_same g1 k1 n1 (withRoomP l1) W hn1 (by rw [withRoomP_length, hl1]) (h1.below hW) (h3.below hW))
  have HL := Lib.hid (fun (W : World) (hW : Below w.heap.size w W) => intactLineS_same g2 k2 n2 (withRoomP l2) W hn2 (by rw [withRoomP_length, hl2]) (h2.below hW) (h4.below hW))
  clear h1 h2 h3 h4 hl1 hl2
  generalize n1 + roomN n1 = m1 at *
  generalize n2 + roomN n2 = m2 at *
  go_enter Try.func53, Try.ntmps53
  go_wp2_with (first
    | (go_at_call 48; (with_reducible refine (HA.out _ (by repeat (first | exact Below.refl _ _ | refine bset ?_ _ _ (by omega) _ | refine bal ?_ _ | refine bdrN ?_ _ | refine bdr ?_))).mono ?_); rintro e w1_ ⟨rfl, hb1⟩; obtain ⟨hcb1, hfb1, hlb1⟩ := bcell hb1; have hsz1 := hb1.size; (try simp at hsz1); have HB1 := Lib.hid hb1; clear hb1; (try (have hl01 : w.heap.size < w1_.heap.size := by omega)); (try (have hl11 : w.heap.size + 1 < w1_.heap.size := by omega)))
    | (go_at_call 115; (with_reducible refine (HL.out _ (by repeat (first | exact Below.refl _ _ | refine bset ?_ _ _ (by omega) _ | refine bal ?_ _ | refine bdrN ?_ _ | refine bdr ?_ | refine below_tr' ?_ HB1.out))).mono ?_); rintro e w2_ ⟨rfl, hb2⟩; obtain ⟨hcb2, hfb2, hlb2⟩ := bcell hb2; have hsz2 := hb2.size; (try simp at hsz2); have HB2 := Lib.hid hb2; clear hb2; (try (have hl02 : w.heap.size < w2_.heap.size := by omega)); (try (have hl12 : w.heap.size + 1 < w2_.heap.size := by omega))))
  go_ret
  exact ⟨rfl, (by repeat (first | exact Below.refl _ _ | refine bset ?_ _ _ (by omega) _ | refine bal ?_ _ | refine bdrN ?_ _ | refine bdr ?_ | refine below_tr' ?_ HB2.out | refine below_tr' ?_ HB1.out))⟩
end Go.Proofs.Ythkbhaaodegocaa
