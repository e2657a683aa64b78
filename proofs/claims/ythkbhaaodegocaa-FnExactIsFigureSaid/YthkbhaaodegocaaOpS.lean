/- Lists as arguments: opened; and kept. -/
import Derived.Test.YthkbhaaodegocaaOpen
import Derived.Test.YthkbhaaodegocaaW2
import Derived.Deep.Slices
import Derived.ChangeSlices
import Derived.Carry
namespace Go.Proofs.Ythkbhaaodegocaa
open Go.ChangeShapes Go.WideShapes Go.ChangeAt Go.RowKit Go.Deep
set_option linter.unusedVariables false
theorem laidOut : laidOutB Try.prog = true := by kernel_rfl
section
variable {H : Type} {enc : TypeId × Value → H} {P : Program} {W : World} {b0 : Nat} {held : Bool}
theorem open_sl_i {r : Reach} {t e : TypeId} {v : Value} {d : DataW H} {p : List MemPlace} (ht : P.underlying t = some (.slice e)) (he : P.underlying e = some (.int .i64)) (hc : P.cellsOf e = 1)
    (hv : Value.okWide P W r b0 t v) (h : DataW.Trod enc P W 0 (fun _ => true) held t v d p) :
    ∃ (b : Option Addr) (k cap : Nat) (l : List Int), v = .slice b k cap ∧ l.length = k ∧ (0 < k → ∃ g off, b = some ⟨g, off, none⟩ ∧ ∀ i, i < k → W.cell? ⟨g, off + i, none⟩ = some (.int .i64 (l.getD i 0))) := by
  obtain ⟨a0, len, cap, rfl⟩ := okWide_slice ht hv
  obtain ⟨fuel, hf⟩ := h
  rcases open_ints ht he hc hf with ⟨hcs, hx⟩ | ⟨a, len', cap', zs, hcs, _, hl, hm, hz, hx, hcell, hwz⟩
  · simp [Value.cells] at hcs
    obtain ⟨rfl, rfl, rfl⟩ := hcs
    exact ⟨none, 0, 0, [], rfl, rfl, fun h => absurd h (Nat.lt_irrefl _)⟩
  · simp [Value.cells] at hcs
    obtain ⟨rfl, rfl, rfl⟩ := hcs
    simp only [if_true] at hz
    refine ⟨some a, len, cap, zs.take len, rfl, by rw [List.length_take]; omega, fun hk => ?_⟩
    obtain ⟨b, off, spot⟩ := a
    have hspot : spot = none := by simpa [Addr.add] using World.cell?_spot (hcell 0 (by omega))
    subst hspot
    refine ⟨b, off, rfl, fun i hi => ?_⟩
    have h1 := hcell i (by omega)
    rw [add_plain] at h1
    have h2 : (zs.take len).getD i 0 = zs.getD i 0 := by simp [List.getD, List.getElem?_take_of_lt hi]
    rw [h2]; exact h1
theorem open_sl_p {r : Reach} {t e e1 : TypeId} {v : Value} {d : DataW H} {p : List MemPlace} (ht : P.underlying t = some (.slice e)) (ha : P.underlying e = some (.array 3 e1)) (he : P.underlying e1 = some (.int .i64)) (hc1 : P.cellsOf e1 = 1) (hc : P.cellsOf e = 3)
    (hv : Value.okWide P W r b0 t v) (h : DataW.Trod enc P W 0 (fun _ => true) held t v d p) :
    ∃ (b : Option Addr) (k cap : Nat) (l : List Pt), v = .slice b k cap ∧ l.length = k ∧ (0 < k → ∃ g off, b = some ⟨g, off, none⟩ ∧ PtsAt W g off k l) := by
  obtain ⟨a0, len, cap, rfl⟩ := okWide_slice ht hv
  obtain ⟨fuel, hf⟩ := h
  rcases open_slice ht hf with ⟨hcs, hx⟩ | ⟨a, len', cap', m, n, D, Pl, hcs, _, hl, hm, hz, hx, hcell⟩
  · simp [Value.cells] at hcs
    obtain ⟨rfl, rfl, rfl⟩ := hcs
    exact ⟨none, 0, 0, [], rfl, rfl, fun h => absurd h (Nat.lt_irrefl _)⟩
  · simp [Value.cells] at hcs
    obtain ⟨rfl, rfl, rfl⟩ := hcs
    simp only [if_true] at hz
    have each : ∀ i, i < m → ∃ q : Pt, W.cell? (a.add (i * 3)) = some (.int .i64 q.1) ∧ W.cell? (a.add (i * 3 + 1)) = some (.int .i64 q.2.1) ∧ W.cell? (a.add (i * 3 + 2)) = some (.int .i64 q.2.2) := by
      intro i hi
      obtain ⟨cs', h1, h2⟩ := hcell i hi
      rw [hc] at h1
      obtain ⟨_, hlen, hcc⟩ := World.cells?_some h1
      match cs', hlen with
      | [c0, c1, c2], _ =>
        obtain ⟨y0, y1, y2, m', _, hy0, hy1, hy2⟩ := trod_array3 ha hc1 (show DataW.trod enc P W 0 (fun _ => true) held n e [c0, c1, c2] = some (D i, Pl i) from h2)
        obtain ⟨x0, e0, _, _⟩ := DataW.trod_int he hy0
        obtain ⟨x1, e1', _, _⟩ := DataW.trod_int he hy1
        obtain ⟨x2, e2, _, _⟩ := DataW.trod_int he hy2
        simp at e0 e1' e2
        subst e0 e1' e2
        have g0 := hcc 0 (by omega)
        have g1 := hcc 1 (by omega)
        have g2 := hcc 2 (by omega)
        rw [add_add] at g0 g1 g2
        exact ⟨(x0, x1, x2), by simpa using g0, by simpa using g1, by simpa using g2⟩
    obtain ⟨q, hq⟩ := choose_lt each
    refine ⟨some a, len, cap, (List.range len).map q, rfl, by simp, fun hk => ?_⟩
    obtain ⟨b, off, spot⟩ := a
    have hspot : spot = none := by simpa [Addr.add] using World.cell?_spot (hq 0 (by omega)).1
    subst hspot
    refine ⟨b, off, rfl, fun i hi => ?_⟩
    obtain ⟨h0, h1, h2⟩ := hq i (by omega)
    rw [add_plain] at h0 h1 h2
    have hd : ((List.range len).map q).getD i (0, 0, 0) = q i := by simp [List.getD, hi]
    rw [hd]
    exact ⟨h0, by rw [Nat.add_assoc]; exact h1, by rw [Nat.add_assoc]; exact h2⟩
end
end Go.Proofs.Ythkbhaaodegocaa
