/- Contracts: the laws' own lists of points and lines, in one word; the laws' own figures. -/
import Derived.Test.YthkbhaaodegocaaG2
import Derived.Test.YthkbhaaodegocaaG2L
namespace Go.Proofs.Ythkbhaaodegocaa
open Go.RowKit
set_option linter.unusedVariables false
set_option linter.unusedSimpArgs false
/-- Laid with room behind. -/
structure LaidR (w : World) (n : Nat) (l : List Pt) (e : Ending) (w' : World) : Prop where
  out : ∃ g, e = .returned (.slice (some ⟨g, 0, none⟩) n (n + roomN n)) ∧ w.heap.size ≤ g ∧ g < w'.heap.size ∧ RoomP w' g (n + roomN n) 23 ∧ PtsAt w' g 0 (n + roomN n) (withRoomP l) ∧ Below w.heap.size w w'
structure LaidRL (w : World) (n : Nat) (l : List Pt) (e : Ending) (w' : World) : Prop where
  out : ∃ g, e = .returned (.slice (some ⟨g, 0, none⟩) n (n + roomN n)) ∧ w.heap.size ≤ g ∧ g < w'.heap.size ∧ RoomP w' g (n + roomN n) 24 ∧ PtsAt w' g 0 (n + roomN n) (withRoomP l) ∧ Below w.heap.size w w'
/-- Laid, or nil. -/
structure LaidB (w : World) (n : Nat) (l : List Pt) (e : Ending) (w' : World) : Prop where
  out : ∃ b c, e = .returned (.slice b n c) ∧ ListP w' b n l ∧ (∀ a o, b = some ⟨a, o, none⟩ → w.heap.size ≤ a) ∧ Below w.heap.size w w'
theorem laidR_list {w' : World} {g n : Nat} {l : List Pt} (hl : l.length = n) (h : PtsAt w' g 0 (n + roomN n) (withRoomP l)) : ListP w' (some ⟨g, 0, none⟩) n l := by
  subst hl
  exact listP_mk rfl (fun i hi => by have := h i (by omega); rwa [withRoomP_at l i hi] at this)
theorem toPointS_R (b : Option Addr) (n cap : Nat) (l : List Pt) (w : World) (hn : n ≤ 1000000) (h : ListP w b n l) :
    Calls Try.prog 46 #[.slice b n cap, .bool false] w (LaidR w n l) := by
  obtain ⟨rfl, hc⟩ := h
  exact (toPointS_any b l.length cap false l w rfl hn (.inl rfl) hc).mono fun e w' ⟨g, he, h1, h2, h3, h4⟩ => ⟨g, he, h1, h2.lt, h2, h3, h4⟩
theorem toLineS_R (b : Option Addr) (n cap : Nat) (l : List Pt) (w : World) (hn : n ≤ 1000000) (h : ListP w b n l) :
    Calls Try.prog 112 #[.slice b n cap, .bool false] w (LaidRL w n l) := by
  obtain ⟨rfl, hc⟩ := h
  exact (toLineS_any b l.length cap false l w rfl hn (.inl rfl) hc).mono fun e w' ⟨g, he, h1, h2, h3, h4⟩ => ⟨g, he, h1, h2.lt, h2, h3, h4⟩
theorem toPointS_B (b : Option Addr) (n cap : Nat) (l : List Pt) (w : World) (hn : n ≤ 1000000) (h : ListP w b n l) :
    Calls Try.prog 46 #[.slice b n cap, .bool true] w (LaidB w n l) := by
  rcases Nat.eq_zero_or_pos n with h0 | h0
  · subst h0
    obtain rfl := List.length_eq_zero_iff.1 h.1
    exact (toPointS_nil cap b w).mono fun e w' ⟨he, hw⟩ => ⟨none, 0, he, listP_nil, (fun _ _ h => by cases h), hw ▸ Below.refl _ _⟩
  · obtain ⟨rfl, hc⟩ := h
    exact (toPointS_any b l.length cap true l w rfl hn (.inr h0) hc).mono fun e w' ⟨g, he, h1, h2, h3, h4⟩ => ⟨_, _, he, laidR_list rfl h3, (fun _ _ h => by cases h; exact h1), h4⟩
theorem toLineS_B (b : Option Addr) (n cap : Nat) (l : List Pt) (w : World) (hn : n ≤ 1000000) (h : ListP w b n l) :
    Calls Try.prog 112 #[.slice b n cap, .bool true] w (LaidB w n l) := by
  rcases Nat.eq_zero_or_pos n with h0 | h0
  · subst h0
    obtain rfl := List.length_eq_zero_iff.1 h.1
    exact (toLineS_nil cap b w).mono fun e w' ⟨he, hw⟩ => ⟨none, 0, he, listP_nil, (fun _ _ h => by cases h), hw ▸ Below.refl _ _⟩
  · obtain ⟨rfl, hc⟩ := h
    exact (toLineS_any b l.length cap true l w rfl hn (.inr h0) hc).mono fun e w' ⟨g, he, h1, h2, h3, h4⟩ => ⟨_, _, he, laidR_list rfl h3, (fun _ _ h => by cases h; exact h1), h4⟩
theorem szLineS_any (b : Option Addr) (n cap : Nat) (left : Int) (w : World) (hl : left ≤ 1000000 ∧ 0 ≤ left) (hn : n ≤ 9223372036854775807) :
    Calls Try.prog 109 #[.slice b n cap, .int .i64 left] w fun e w' => e = .returned (.int .i64 (if left < n then -1 else left - n)) ∧ w = w' := by
  by_cases h : left < n
  · have HR : Hid ((if left < (n : Int) then (-1 : Int) else left - n) = -1) := Lib.hid (if_pos h)
    go_enter Try.func109, Try.ntmps109
    go_wp2
    go_ret
    exact ⟨by first | rfl | (rw [HR.out]; rfl), rfl⟩
  · have HR : Hid ((if left < (n : Int) then (-1 : Int) else left - n) = left - n) := Lib.hid (if_neg h)
    go_enter Try.func109, Try.ntmps109
    go_wp2
    go_ret
    exact ⟨by first | rfl | (rw [HR.out]; rfl), rfl⟩
end Go.Proofs.Ythkbhaaodegocaa
