/- Contracts: slices.IndexFunc over points. -/
import Derived.Test.YthkbhaaodegocaaC6
namespace Go.Proofs.Ythkbhaaodegocaa
open Go.RowKit
set_option linter.unusedVariables false
set_option linter.unusedSimpArgs false
/-- The first place at which f holds; -1 if there is none. -/
def idxZ (f : Pt → Bool) (l : List Pt) : Int := match l.findIdx? f with | some i => (i : Int) | none => -1
theorem idx_at {f : Pt → Bool} {l : List Pt} {k : Nat} (h : (l.take k).any f = false) (hk : k < l.length) (hf : f (l.getD k (0, 0, 0)) = true) : idxZ f l = k := by
  unfold idxZ
  have : l.findIdx? f = some k := by
    rw [List.findIdx?_eq_some_iff_getElem]
    refine ⟨hk, by simpa [List.getD, hk] using hf, fun j hj => ?_⟩
    have := List.any_eq_false.1 h l[j] (by rw [List.mem_take_iff_getElem]; exact ⟨j, by omega, rfl⟩)
    simpa using this
  rw [this]
theorem idx_none {f : Pt → Bool} {l : List Pt} (h : l.any f = false) : idxZ f l = -1 := by
  unfold idxZ
  have : l.findIdx? f = none := by
    rw [List.findIdx?_eq_none_iff]
    intro x hx
    have := List.any_eq_false.1 h x hx
    simpa using this
  rw [this]
theorem any_snoc {f : Pt → Bool} {l : List Pt} {k : Nat} (hk : k < l.length) (h : (l.take k).any f = false) (hf : f (l.getD k (0, 0, 0)) = false) : (l.take (k + 1)).any f = false := by
  rw [take_snoc' l (0, 0, 0) k hk, List.any_append, h, List.any_cons, hf]; rfl
set_option maxHeartbeats 1000000 in
theorem indexFunc_any (c : Value) (f : Pt → Bool) (b cap n : Nat) (l : List Pt) (w : World) (hl : l.length = n) (hn : n ≤ 1000000) (hc : PtsAt w b 0 n l)
    (hF : ∀ (W : World) (x y z : Int), Below w.heap.size w W → (x, y, z) ∈ l → Calls Try.prog 148 #[ptV x y z, c] W (Ret W (.bool (f (x, y, z))))) :
    Calls Try.prog 174 #[.slice (some ⟨b, 0, none⟩) n cap, .func (.func 148) #[] #[c]] w (Ret w (.int .i64 (idxZ f l))) := by
  have HL := Lib.hid hl; clear hl
  have HC := Lib.hid hc; clear hc
  have HF := Lib.hid hF; clear hF
  go_enter Try.func174, Try.ntmps174
  go_wp2
  go_loopw [8] (fun i wr => ∃ k : Nat, k ≤ n ∧ i = .int .i64 k ∧ Hid ((l.take k).any f = false) ∧ Hid (Below w.heap.size w wr)) (fun i wr => n - (intOf i).toNat)
  case atStart => exact ⟨0, Nat.zero_le _, rfl, Lib.hid rfl, Lib.hid (Below.refl _ _)⟩
  case round =>
    obtain ⟨k, hk, rfl, HD, HB⟩ := hrel
    by_cases hlt : k < n
    · obtain ⟨c0, c1, c2⟩ := HC.out.below HB.out k hlt
      have hkl : k < l.length := by have := HL.out; omega
      have HI := Lib.hid (fun h => idx_at (f := f) (l := l) HD.out hkl h)
      have HN := Lib.hid (fun h => any_snoc (f := f) (l := l) hkl HD.out h)
      have hmem : l.getD k (0, 0, 0) ∈ l := by simp [List.getD, hkl]
      generalize l.getD k (0,0,0) = a at *
      obtain ⟨x, y, z⟩ := a
      simp only [Nat.zero_add] at c0 c1 c2
      have HQ := Lib.hid (HF.out wr x y z HB.out hmem)
      clear hmem
      cases hv : f (x, y, z) with
      | true =>
        have HI2 := Lib.hid (HI.out hv)
        rw [hv] at HQ
        clear HI HN hv
        go_wp2_with (go_at_call 148; (with_reducible refine (HQ.out).mono ?_); rintro e w1_ ⟨rfl, hb1⟩; obtain ⟨hcb1, hfb1, hlb1⟩ := bcell hb1; have hsz1 := hb1.size; (try simp at hsz1); have HB1 := Lib.hid hb1; clear hb1)
        go_ret
        exact ⟨ret_int HI2.out.symm, low_tr' HB.out HB1.out HB.out.size⟩
      | false =>
        have HN2 := Lib.hid (HN.out hv)
        rw [hv] at HQ
        clear HI HN hv
        go_wp2_with (go_at_call 148; (with_reducible refine (HQ.out).mono ?_); rintro e w1_ ⟨rfl, hb1⟩; obtain ⟨hcb1, hfb1, hlb1⟩ := bcell hb1; have hsz1 := hb1.size; (try simp at hsz1); have HB1 := Lib.hid hb1; clear hb1)
        go_roundw
        case rel => exact ⟨k + 1, by omega, by go_num, HN2, Lib.hid (low_tr' HB.out HB1.out HB.out.size)⟩
        case measure => simp [intOf]; omega
    · have hkn : k = n := by omega
      have HI := Lib.hid (idx_none (f := f) (l := l) (by have h := HD.out; rwa [List.take_of_length_le (by have := HL.out; omega)] at h))
      go_wp2
      go_ret
      exact ⟨ret_int HI.out.symm, HB.out⟩
end Go.Proofs.Ythkbhaaodegocaa
