/- A desk as an argument: opened. (Printed by genopd.py, a program of this session.) -/
import Derived.Test.YthkbhaaodegocaaOpS
namespace Go.Proofs.Ythkbhaaodegocaa
open Go.ChangeShapes Go.WideShapes Go.ChangeAt Go.RowKit Go.Deep
set_option linter.unusedVariables false
section
variable {H : Type} {enc : TypeId × Value → H} {P : Program} {W : World} {b0 base : Nat} {spare : Nat → Bool} {held : Bool} {fuel : Nat} {t e : TypeId} {cs : List Value} {x : DataW H × List MemPlace}
theorem sub_get (cs : List Value) (off k i : Nat) (h : i < k) : ((cs.drop off).take k)[i]? = cs[off + i]? := by
  rw [List.getElem?_take_of_lt h, List.getElem?_drop]
theorem arr_ints {n : Nat} (ht : P.underlying t = some (.array n e)) (he : P.underlying e = some (.int .i64)) (hc : P.cellsOf e = 1) (h : DataW.trod enc P W base spare held fuel t cs = some x) :
    ∀ i, i < n → ∃ z : Int, cs[i]? = some (.int .i64 z) := by
  obtain ⟨xs, m, _, _, _, hlen, hf⟩ := DataW.trod_array ht h
  intro i hi
  have h1 := hf i hi
  obtain ⟨y, hy⟩ : ∃ y, xs[i]? = some y := ⟨xs[i], List.getElem?_eq_getElem (by omega)⟩
  rw [hy, hc] at h1
  obtain ⟨z, ez, _, _⟩ := DataW.trod_int he (show DataW.trod enc P W base spare held m e _ = some (y.1, y.2) from h1)
  refine ⟨z, ?_⟩
  have := sub_get cs (i * 1) 1 0 (by omega)
  rw [ez] at this
  simpa using this.symm
theorem arr_arr {n k : Nat} {e1 : TypeId} (ht : P.underlying t = some (.array n e)) (he : P.underlying e = some (.array k e1)) (he1 : P.underlying e1 = some (.int .i64)) (hc : P.cellsOf e = k) (hc1 : P.cellsOf e1 = 1)
    (h : DataW.trod enc P W base spare held fuel t cs = some x) : ∀ i, i < n → ∀ j, j < k → ∃ z : Int, cs[i * k + j]? = some (.int .i64 z) := by
  obtain ⟨xs, m, _, _, _, hlen, hf⟩ := DataW.trod_array ht h
  intro i hi j hj
  have h1 := hf i hi
  obtain ⟨y, hy⟩ : ∃ y, xs[i]? = some y := ⟨xs[i], List.getElem?_eq_getElem (by omega)⟩
  rw [hy, hc] at h1
  obtain ⟨z, hz⟩ := arr_ints he he1 hc1 h1 j hj
  rw [sub_get _ _ _ _ hj] at hz
  exact ⟨z, hz⟩
end
theorem cellsD : Try.prog.cellsOf 44 = 22 := by kernel_rfl
theorem cellsM : Try.prog.cellsOf 25 = 9 := by kernel_rfl
theorem cellsC : Try.prog.cellsOf 27 = 6 := by kernel_rfl
theorem cellsP : Try.prog.cellsOf 22 = 3 := by kernel_rfl
theorem cellsI : Try.prog.cellsOf 2 = 1 := by kernel_rfl
set_option maxRecDepth 20000 in
set_option maxHeartbeats 1000000 in
theorem open_desk {H : Type} {enc : TypeId × Value → H} {W : World} {b0 base : Nat} {spare : Nat → Bool} {held : Bool} {r : Reach} {v : Value} {d : DataW H} {p : List MemPlace}
    (hv : Value.okWide Try.prog W r b0 44 v) (h : DataW.Trod enc Try.prog W base spare held 44 v d p) :
    ∃ p a0 a1 a2 b0 b1 b2 m0 m1 m2 m3 m4 m5 m6 m7 m8 c0 c1 c2 c3 c4 c5 : Int, v = .agg #[.int .i64 p, .int .i64 a0, .int .i64 a1, .int .i64 a2, .int .i64 b0, .int .i64 b1, .int .i64 b2, .int .i64 m0, .int .i64 m1, .int .i64 m2, .int .i64 m3, .int .i64 m4, .int .i64 m5, .int .i64 m6, .int .i64 m7, .int .i64 m8, .int .i64 c0, .int .i64 c1, .int .i64 c2, .int .i64 c3, .int .i64 c4, .int .i64 c5] := by
  obtain ⟨cs, rfl, hsz, _⟩ : ∃ cs, v = .agg cs ∧ cs.size = Try.prog.cellsOf 44 ∧ Row.okWide Try.prog W r b0 44 cs := by
    simpa [Value.okWide, Try.underlying44] using hv
  rw [cellsD] at hsz
  obtain ⟨fuel, hf⟩ := h
  obtain ⟨l⟩ := cs
  simp only [Value.cells] at hf
  obtain ⟨xs, n, _, _, hlen, hxs, hfs⟩ := DataW.trod_struct Try.underlying44 hf
  have g : ∀ k (hk : k < 5), ∃ y, xs[k]? = some y := fun k hk => ⟨xs[k]'(by rw [hxs]; exact hk), List.getElem?_eq_getElem _⟩
  have e0 : ∃ z : Int, l[0]? = some (.int .i64 z) := by
    obtain ⟨y, hy⟩ := g 0 (by omega)
    have h1 := hfs 0 _ rfl
    rw [hy] at h1
    obtain ⟨z, ez, _, _⟩ := DataW.trod_int Try.underlying2 (show DataW.trod enc Try.prog W base spare held n _ _ = some (y.1, y.2) from h1)
    have := sub_get l 0 (Try.prog.cellsOf 2) 0 (by rw [cellsI]; omega)
    exact ⟨z, by rw [← Nat.zero_add 0, ← this]; exact (congrArg (·[0]?) ez).trans rfl⟩
  have e1 : ∀ i, i < 3 → ∃ z : Int, l[1 + i]? = some (.int .i64 z) := by
    intro i hi
    obtain ⟨y, hy⟩ := g 1 (by omega)
    have h1 := hfs 1 _ rfl
    rw [hy] at h1
    obtain ⟨z, hz⟩ := arr_ints (t := 22) Try.underlying22 Try.underlying2 cellsI h1 i hi
    replace hz : ((l.drop 1).take (Try.prog.cellsOf 22))[i]? = some (.int .i64 z) := hz
    rw [sub_get l 1 (Try.prog.cellsOf 22) i (by rw [cellsP]; omega)] at hz
    exact ⟨z, hz⟩
  have e2 : ∀ i, i < 3 → ∃ z : Int, l[4 + i]? = some (.int .i64 z) := by
    intro i hi
    obtain ⟨y, hy⟩ := g 2 (by omega)
    have h1 := hfs 2 _ rfl
    rw [hy] at h1
    obtain ⟨z, hz⟩ := arr_ints (t := 22) Try.underlying22 Try.underlying2 cellsI h1 i hi
    replace hz : ((l.drop 4).take (Try.prog.cellsOf 22))[i]? = some (.int .i64 z) := hz
    rw [sub_get l 4 (Try.prog.cellsOf 22) i (by rw [cellsP]; omega)] at hz
    exact ⟨z, hz⟩
  have e3 : ∀ i, i < 3 → ∀ j, j < 3 → ∃ z : Int, l[7 + (i * 3 + j)]? = some (.int .i64 z) := by
    intro i hi j hj
    obtain ⟨y, hy⟩ := g 3 (by omega)
    have h1 := hfs 3 _ rfl
    rw [hy] at h1
    obtain ⟨z, hz⟩ := arr_arr (t := 25) Try.underlying25 Try.underlying22 Try.underlying2 cellsP cellsI h1 i hi j hj
    replace hz : ((l.drop 7).take (Try.prog.cellsOf 25))[i * 3 + j]? = some (.int .i64 z) := hz
    rw [sub_get l 7 (Try.prog.cellsOf 25) (i * 3 + j) (by rw [cellsM]; omega)] at hz
    exact ⟨z, hz⟩
  have e4 : ∀ i, i < 6 → ∃ z : Int, l[16 + i]? = some (.int .i64 z) := by
    intro i hi
    obtain ⟨y, hy⟩ := g 4 (by omega)
    have h1 := hfs 4 _ rfl
    rw [hy] at h1
    obtain ⟨z, hz⟩ := arr_ints (t := 27) Try.underlying27 Try.underlying2 cellsI h1 i hi
    replace hz : ((l.drop 16).take (Try.prog.cellsOf 27))[i]? = some (.int .i64 z) := hz
    rw [sub_get l 16 (Try.prog.cellsOf 27) i (by rw [cellsC]; omega)] at hz
    exact ⟨z, hz⟩
  clear g hfs hxs hf hv
  have all : ∀ i, i < 22 → ∃ z : Int, l[i]? = some (.int .i64 z) := by
    intro i hi
    by_cases h0 : i = 0
    · subst h0; exact e0
    by_cases h1 : i < 4
    · have := e1 (i - 1) (by omega); rwa [show 1 + (i - 1) = i by omega] at this
    by_cases h2 : i < 7
    · have := e2 (i - 4) (by omega); rwa [show 4 + (i - 4) = i by omega] at this
    by_cases h3 : i < 16
    · have := e3 ((i - 7) / 3) (by omega) ((i - 7) % 3) (by omega); rwa [show 7 + ((i - 7) / 3 * 3 + (i - 7) % 3) = i by omega] at this
    · have := e4 (i - 16) (by omega); rwa [show 16 + (i - 16) = i by omega] at this
  obtain ⟨f, hfl⟩ := choose_lt all
  refine ⟨f 0, f 1, f 2, f 3, f 4, f 5, f 6, f 7, f 8, f 9, f 10, f 11, f 12, f 13, f 14, f 15, f 16, f 17, f 18, f 19, f 20, f 21, ?_⟩
  congr 2
  apply List.ext_getElem?
  intro i
  by_cases hi : i < 22
  · rw [hfl i hi]
    clear hfl all e0 e1 e2 e3 e4
    rcases i with _|_|_|_|_|_|_|_|_|_|_|_|_|_|_|_|_|_|_|_|_|_|i <;> first | rfl | (exfalso; omega)
  · rw [List.getElem?_eq_none (by have : l.length = 22 := hsz; omega), List.getElem?_eq_none (by show 22 ≤ i; omega)]
end Go.Proofs.Ythkbhaaodegocaa
