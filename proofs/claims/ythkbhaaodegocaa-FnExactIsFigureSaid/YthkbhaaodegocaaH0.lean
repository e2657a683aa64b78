/- Plain words: sets of numbers modulo n; difference sets. -/
import Derived.Test.YthkbhaaodegocaaW3
namespace Go.Proofs.Ythkbhaaodegocaa
set_option linter.unusedVariables false
set_option linter.unusedSimpArgs false
/-- The i-th number is a rest and greater than the one ahead. -/
def okI (n : Int) (l : List Int) (i : Nat) : Bool := decide (0 ≤ l.getD i 0 ∧ l.getD i 0 ≤ n - 1) && (i == 0 || decide (l.getD (i - 1) 0 < l.getD i 0))
def okB (n : Int) (l : List Int) : Bool := (List.range l.length).all (okI n l)
/-- A set of numbers modulo n. -/
def setB (n : Int) (l : List Int) : Bool := decide (2 ≤ n ∧ n ≤ 1000) && (decide (l.length ≤ 60) && okB n l)
theorem okB_all {n : Int} {l : List Int} (h : ∀ i, i < l.length → okI n l i = true) : okB n l = true := List.all_eq_true.2 fun i hi => h i (List.mem_range.1 hi)
theorem okB_bad {n : Int} {l : List Int} {i : Nat} (hi : i < l.length) (h : okI n l i = false) : okB n l = false := by
  cases e : okB n l with
  | false => rfl
  | true => have := List.all_eq_true.1 e i (List.mem_range.2 hi); rw [h] at this; cases this
theorem okB_at {n : Int} {l : List Int} (h : okB n l = true) {i : Nat} (hi : i < l.length) : 0 ≤ l.getD i 0 ∧ l.getD i 0 ≤ n - 1 := by
  have := List.all_eq_true.1 h i (List.mem_range.2 hi)
  unfold okI at this
  simp only [Bool.and_eq_true, decide_eq_true_eq] at this
  exact this.1
theorem setB_yes {n : Int} {l : List Int} (h : setB n l = true) : (2 ≤ n ∧ n ≤ 1000) ∧ l.length ≤ 60 ∧ okB n l = true := by
  unfold setB at h
  simpa using h
/-- One more at a place. -/
def bump (c : List Int) (i : Nat) : List Int := c.set i (c.getD i 0 + 1)
def dif (n : Int) (l : List Int) (i k : Nat) : Nat := ((l.getD i 0 - l.getD k 0) % n).toNat
def rowC (n : Int) (l : List Int) (i : Nat) (c : List Int) (k : Nat) : List Int := (List.range k).foldl (fun c k => bump c (dif n l i k)) c
def cntC (n : Int) (l : List Int) (i : Nat) : List Int := (List.range i).foldl (fun c i => rowC n l i c l.length) (List.replicate n.toNat 0)
theorem rowC_zero (n : Int) (l : List Int) (i : Nat) (c : List Int) : rowC n l i c 0 = c := rfl
theorem rowC_succ (n : Int) (l : List Int) (i : Nat) (c : List Int) (k : Nat) : rowC n l i c (k + 1) = bump (rowC n l i c k) (dif n l i k) := by
  unfold rowC; rw [List.range_succ, List.foldl_append]; rfl
theorem cntC_succ (n : Int) (l : List Int) (i : Nat) : cntC n l (i + 1) = rowC n l i (cntC n l i) l.length := by
  unfold cntC; rw [List.range_succ, List.foldl_append]; rfl
theorem bump_length (c : List Int) (i : Nat) : (bump c i).length = c.length := by simp [bump]
theorem rowC_length (n : Int) (l : List Int) (i : Nat) (c : List Int) (k : Nat) : (rowC n l i c k).length = c.length := by
  induction k with
  | zero => rfl
  | succ k ih => rw [rowC_succ, bump_length, ih]
theorem cntC_length (n : Int) (l : List Int) (i : Nat) : (cntC n l i).length = n.toNat := by
  induction i with
  | zero => simp [cntC]
  | succ i ih => rw [cntC_succ, rowC_length, ih]
def within0 (c : List Int) (B : Int) : Prop := ∀ j, 0 ≤ c.getD j 0 ∧ c.getD j 0 ≤ B
theorem bump_bd {c : List Int} {B : Int} (h : within0 c B) (i : Nat) : within0 (bump c i) (B + 1) := by
  intro j
  have hj := h j
  have hi := h i
  unfold bump
  by_cases e : i = j
  · subst e
    by_cases hl : i < c.length
    · simp [List.getD, hl] at hj ⊢; omega
    · simp [List.getD, Nat.le_of_not_lt hl] at hj ⊢; omega
  · simp only [List.getD, List.getElem?_set_ne e] at hj ⊢
    omega
theorem rowC_bd {n : Int} {l : List Int} {i : Nat} {c : List Int} {B : Int} (h : within0 c B) (k : Nat) : within0 (rowC n l i c k) (B + k) := by
  induction k with
  | zero => simpa [rowC_zero] using h
  | succ k ih => rw [rowC_succ]; have := bump_bd ih (dif n l i k); rw [show B + ((k + 1 : Nat) : Int) = B + k + 1 by omega]; exact this
theorem cntC_bd {n : Int} {l : List Int} (hl : l.length ≤ 60) (i : Nat) : within0 (cntC n l i) (60 * i) := by
  induction i with
  | zero =>
    intro j
    by_cases hj : j < n.toNat
    · simp [cntC, List.getD, hj]
    · have e : (List.replicate n.toNat (0 : Int))[j]? = none := List.getElem?_eq_none (by simp; omega)
      simp [cntC, List.getD, e]
  | succ i ih =>
    rw [cntC_succ]
    intro j
    have := rowC_bd (n := n) (l := l) (i := i) ih l.length j
    omega
/-- Whether each difference but 0 comes up once. -/
def onesB (c : List Int) : Bool := (List.range (c.length - 1)).all (fun d => c.getD (d + 1) 0 == 1)
theorem onesB_all {c : List Int} (h : ∀ d, d < c.length - 1 → (c.getD (d + 1) 0 == 1) = true) : onesB c = true := List.all_eq_true.2 fun d hd => h d (List.mem_range.1 hd)
theorem onesB_bad {c : List Int} {d : Nat} (hd : d < c.length - 1) (h : (c.getD (d + 1) 0 == 1) = false) : onesB c = false := by
  cases e : onesB c with
  | false => rfl
  | true => have := List.all_eq_true.1 e d (List.mem_range.2 hd); rw [h] at this; cases this
/-- What both programs answer. -/
def diffR (n : Int) (l : List Int) : Bool × Int := if setB n l = true then (onesB (cntC n l l.length), 0) else (false, 2)
end Go.Proofs.Ythkbhaaodegocaa
