/- A figure as an argument: opened. -/
import Derived.Test.YthkbhaaodegocaaOpS
import Derived.Test.YthkbhaaodegocaaK3
namespace Go.Proofs.Ythkbhaaodegocaa
open Go.ChangeShapes Go.WideShapes Go.ChangeAt Go.RowKit Go.Deep
set_option linter.unusedVariables false
section
variable {H : Type} {enc : TypeId × Value → H} {P : Program} {W : World} {b0 : Nat} {held : Bool} {fuel : Nat}
/-- The one cell of a list of points. -/
theorem open_cell_p {t e e1 : TypeId} {cs : List Value} {x : DataW H × List MemPlace} (ht : P.underlying t = some (.slice e)) (ha : P.underlying e = some (.array 3 e1)) (he : P.underlying e1 = some (.int .i64)) (hc1 : P.cellsOf e1 = 1) (hc : P.cellsOf e = 3)
    (hf : DataW.trod enc P W 0 (fun _ => true) held fuel t cs = some x) :
    ∃ (b : Option Addr) (k cap : Nat) (l : List Pt), cs = [.slice b k cap] ∧ k ≤ 9223372036854775807 ∧ ListP W b k l := by
  rcases open_slice ht hf with ⟨hcs, hx⟩ | ⟨a, len, cap, m, n, D, Pl, hcs, _, hl, hm, hz, hx, hcell⟩
  · exact ⟨none, 0, 0, [], hcs, Nat.zero_le _, listP_nil⟩
  · simp only [if_true] at hz
    have each : ∀ i, i < m → ∃ q : Pt, W.cell? (a.add (i * 3)) = some (.int .i64 q.1) ∧ W.cell? (a.add (i * 3 + 1)) = some (.int .i64 q.2.1) ∧ W.cell? (a.add (i * 3 + 2)) = some (.int .i64 q.2.2) := by
      intro i hi
      obtain ⟨cs', h1, h2⟩ := hcell i hi
      rw [hc] at h1
      obtain ⟨_, hlen, hcc⟩ := World.cells?_some h1
      match cs', hlen with
      | [c0, c1, c2], _ =>
        obtain ⟨y0, y1, y2, m', _, hy0, hy1, hy2⟩ := trod_array3 ha hc1 (show DataW.trod enc P W 0 (fun _ => true) held n e [c0, c1, c2] = some (D i, Pl i) from h2)
        obtain ⟨x0, e0, _, _⟩ := DataW.trod_int he hy0
        obtain ⟨x1, e1', _, _⟩ := DataW.trod_int he hy1
        obtain ⟨x2, e2, _, _⟩ := DataW.trod_int he hy2
        simp at e0 e1' e2
        subst e0 e1' e2
        have g0 := hcc 0 (by omega)
        have g1 := hcc 1 (by omega)
        have g2 := hcc 2 (by omega)
        rw [add_add] at g0 g1 g2
        exact ⟨(x0, x1, x2), by simpa using g0, by simpa using g1, by simpa using g2⟩
    obtain ⟨q, hq⟩ := choose_lt each
    refine ⟨some a, len, cap, (List.range len).map q, hcs, by unfold maxLen at hm; omega, by simp, fun hk => ?_⟩
    obtain ⟨b, off, spot⟩ := a
    have hspot : spot = none := by simpa [Addr.add] using World.cell?_spot (hq 0 (by omega)).1
    subst hspot
    refine ⟨b, off, rfl, fun i hi => ?_⟩
    obtain ⟨h0, h1, h2⟩ := hq i (by omega)
    rw [add_plain] at h0 h1 h2
    have hd : ((List.range len).map q).getD i (0, 0, 0) = q i := by simp [List.getD, hi]
    rw [hd]
    exact ⟨h0, by rw [Nat.add_assoc]; exact h1, by rw [Nat.add_assoc]; exact h2⟩
end
theorem cellsF : Try.prog.cellsOf 71 = 2 := by kernel_rfl
theorem cellsSl : Try.prog.cellsOf 65 = 1 := by kernel_rfl
theorem cells3F : Try.prog.cellsOf 22 = 3 := by kernel_rfl
theorem cells1F : Try.prog.cellsOf 2 = 1 := by kernel_rfl
set_option maxRecDepth 20000 in
theorem open_figure {H : Type} {enc : TypeId × Value → H} {W : World} {b0 : Nat} {held : Bool} {r : Reach} {v : Value} {d : DataW H} {p : List MemPlace}
    (hv : Value.okWide Try.prog W r b0 71 v) (h : DataW.Trod enc Try.prog W 0 (fun _ => true) held 71 v d p) :
    ∃ (b1 : Option Addr) (n1 c1 : Nat) (l1 : List Pt) (b2 : Option Addr) (n2 c2 : Nat) (l2 : List Pt), v = figV b1 n1 c1 b2 n2 c2 ∧ n1 ≤ 9223372036854775807 ∧ n2 ≤ 9223372036854775807 ∧ ListP W b1 n1 l1 ∧ ListP W b2 n2 l2 := by
  obtain ⟨cs, rfl, hsz, _⟩ : ∃ cs, v = .agg cs ∧ cs.size = Try.prog.cellsOf 71 ∧ Row.okWide Try.prog W r b0 71 cs := by
    simpa [Value.okWide, Try.underlying71] using hv
  rw [cellsF] at hsz
  obtain ⟨fuel, hf⟩ := h
  obtain ⟨l⟩ := cs
  simp only [Value.cells] at hf
  obtain ⟨xs, n, _, _, hlen, hxs, hfs⟩ := DataW.trod_struct Try.underlying71 hf
  have g : ∀ k (hk : k < 2), ∃ y, xs[k]? = some y := fun k hk => ⟨xs[k]'(by rw [hxs]; exact hk), List.getElem?_eq_getElem _⟩
  obtain ⟨y0, hy0⟩ := g 0 (by omega)
  obtain ⟨y1, hy1⟩ := g 1 (by omega)
  have h0 := hfs 0 _ rfl
  have h1 := hfs 1 _ rfl
  rw [hy0] at h0
  rw [hy1] at h1
  obtain ⟨b1, n1, c1, l1, e1, m1, i1⟩ := open_cell_p (t := 65) Try.underlying65 Try.underlying22 Try.underlying2 cells1F cells3F h0
  obtain ⟨b2, n2, c2, l2, e2, m2, i2⟩ := open_cell_p (t := 65) Try.underlying65 Try.underlying22 Try.underlying2 cells1F cells3F h1
  refine ⟨b1, n1, c1, l1, b2, n2, c2, l2, ?_, m1, m2, i1, i2⟩
  replace e1 : (l.drop 0).take (Try.prog.cellsOf 65) = [.slice b1 n1 c1] := e1
  replace e2 : (l.drop 1).take (Try.prog.cellsOf 65) = [.slice b2 n2 c2] := e2
  rw [cellsSl] at e1 e2
  match l, hsz with
  | [x, y], _ =>
    simp at e1 e2
    rw [e1, e2]
end Go.Proofs.Ythkbhaaodegocaa
