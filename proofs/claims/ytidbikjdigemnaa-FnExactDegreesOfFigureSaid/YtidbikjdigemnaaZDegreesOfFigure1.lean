/- Texts of the claim, in build order: Base, Open, Plain, W1, W2, OpS, W3, W8, W9. No condition. -/
import Derived.Test.YtidbikjdigemnaaProg
import Derived.WalkKit
import Derived.ProofKit
import Derived.LoopN
import Derived.Lib.Hide
import Derived.Below
import Derived.Deep.QuietTactic
import Derived.BigQuiet
import Derived.Laws.IdiomArrays
import Derived.OpenShut
import Derived.ChangeOld
import Derived.SizedLaws
import Derived.IntWalk
import Derived.Deep.Slices
import Derived.ChangeSlices
import Derived.Carry
import Derived.Laws.IdiomCopy
import Derived.BigRegion
import Derived.RegionTactic
/- Words that all walks of this seat share: what a call leaves behind. -/
namespace Go.Proofs.Ytidbikjdigemnaa
open Go.RowKit
set_option linter.unusedVariables false
set_option linter.unusedSimpArgs false

@[go_sem] theorem lt_deep2 (a b : Nat) (h : a < b) : a < b + 1 + 1 := by omega
@[go_sem] theorem lt_deep3 (a b : Nat) (h : a < b) : a < b + 1 + 1 + 1 := by omega
@[go_sem] theorem lt_deep4 (a b : Nat) (h : a < b) : a < b + 1 + 1 + 1 + 1 := by omega
@[go_sem] theorem lt_deep5 (a b : Nat) (h : a < b) : a < b + 1 + 1 + 1 + 1 + 1 := by omega
@[go_sem] theorem lt_deep6 (a b : Nat) (h : a < b) : a < b + 1 + 1 + 1 + 1 + 1 + 1 := by omega
@[go_sem] theorem lt_deep7 (a b : Nat) (h : a < b) : a < b + 1 + 1 + 1 + 1 + 1 + 1 + 1 := by omega
@[go_sem] theorem lt_deep8 (a b : Nat) (h : a < b) : a < b + 1 + 1 + 1 + 1 + 1 + 1 + 1 + 1 := by omega
/-- The call returns v; what was in memory is as it was. -/
def Ret (w : World) (v : Value) (e : Ending) (w' : World) : Prop := e = .returned v ∧ Below w.heap.size w w'

theorem below_al {B : Nat} {w W : World} (h : Below B w W) (hB : B ≤ W.heap.size) (o : Obj) : Below B w (W.alloc o) := h.alloc hB o
theorem below_dr {B : Nat} {w W : World} (h : Below B w W) : Below B w W.drew := ⟨h.os, h.tape, h.output, h.size, h.block⟩
theorem below_drN {B : Nat} {w W : World} (h : Below B w W) (n : Nat) : Below B w (W.drewN n) := ⟨h.os, h.tape, h.output, h.size, h.block⟩
theorem below_tr {B : Nat} {w w1 w2 : World} (h : Below B w w1) (hB : B ≤ w1.heap.size) (k : Below w1.heap.size w1 w2) : Below B w w2 :=
  h.trans ⟨k.os, k.tape, k.output, k.size, fun i hi => k.block i (Nat.lt_of_lt_of_le hi hB)⟩
theorem below_al_tr {w W W1 : World} {o : Obj} (h : Below w.heap.size w W) (k : Below (W.alloc o).heap.size (W.alloc o) W1) : Below w.heap.size w W1 :=
  below_tr (below_al h h.size o) (by have := h.size; simp; omega) k
theorem below_tr' {w W W1 : World} (h : Below w.heap.size w W) (k : Below W.heap.size W W1) : Below w.heap.size w W1 := below_tr h h.size k
theorem bal {w W : World} (h : Below w.heap.size w W) (o : Obj) : Below w.heap.size w (W.alloc o) := h.alloc h.size o
theorem bdr {w W : World} (h : Below w.heap.size w W) : Below w.heap.size w W.drew := below_dr h
theorem bdrN {w W : World} (h : Below w.heap.size w W) (n : Nat) : Below w.heap.size w (W.drewN n) := below_drN h n
theorem bset {w W : World} (h : Below w.heap.size w W) (b o : Nat) (hb : w.heap.size ≤ b) (v : Value) : Below w.heap.size w (W.setCell ⟨b, o, none⟩ v) := h.setCell hb v
theorem bcell {W w1 : World} (hb : Below W.heap.size W w1) : (∀ b o, b < W.heap.size → w1.cell? ⟨b, o, none⟩ = W.cell? ⟨b, o, none⟩) ∧ (∀ b o, b < W.heap.size → w1.frozen? ⟨b, o, none⟩ = W.frozen? ⟨b, o, none⟩) ∧ (∀ b, b < W.heap.size → b < w1.heap.size) :=
  ⟨fun b o h => hb.cell (p := ⟨b, o, none⟩) h, fun b o h => hb.frozen (p := ⟨b, o, none⟩) h, fun b h => Nat.lt_of_lt_of_le h hb.size⟩
end Go.Proofs.Ytidbikjdigemnaa
/- Arrays of whole numbers as arguments: opened and shut. -/
namespace Go.Proofs.Ytidbikjdigemnaa
open Go.ChangeShapes Go.WideShapes Go.ChangeAt Go.RowKit
set_option linter.unusedVariables false
theorem listO3 {α : Type} (l : List α) (h : (⟨l⟩ : Array α).size = 3) : ∃ a b c, l = [a, b, c] := by
  match l, h with
  | [a, b, c], _ => exact ⟨a, b, c, rfl⟩
section
variable {H : Type} {enc : TypeId × Value → H} {P : Program} {W : World} {b0 base : Nat} {spare : Nat → Bool} {held : Bool}
theorem open_arr3 {r : Reach} {t e : TypeId} {v : Value} {d : DataW H} {p : List MemPlace} (ht : P.underlying t = some (.array 3 e)) (he : P.underlying e = some (.int .i64)) (hce : P.cellsOf e = 1) (hct : P.cellsOf t = 3)
    (hv : Value.okWide P W r b0 t v) (h : DataW.Trod enc P W base spare held t v d p) :
    ∃ x y z : Int, v = .agg #[.int .i64 x, .int .i64 y, .int .i64 z] ∧ d = .agg [.lit (.int .i64 x), .lit (.int .i64 y), .lit (.int .i64 z)] ∧ p = [] ∧ (Lit.int .i64 x).wf = true ∧ (Lit.int .i64 y).wf = true ∧ (Lit.int .i64 z).wf = true := by
  obtain ⟨cs, rfl, hsz, _⟩ : ∃ cs, v = .agg cs ∧ cs.size = P.cellsOf t ∧ Row.okWide P W r b0 t cs := by
    simpa [Value.okWide, ht] using hv
  rw [hct] at hsz
  obtain ⟨l⟩ := cs
  obtain ⟨c0, c1, c2, rfl⟩ := listO3 l hsz
  obtain ⟨fuel, hf⟩ := h
  obtain ⟨y0, y1, y2, m, hx, hy0, hy1, hy2⟩ := trod_array3 ht hce hf
  obtain ⟨x0, e0, rfl, w0⟩ := DataW.trod_int he hy0
  obtain ⟨x1, e1, rfl, w1⟩ := DataW.trod_int he hy1
  obtain ⟨x2, e2, rfl, w2⟩ := DataW.trod_int he hy2
  simp at e0 e1 e2
  subst e0 e1 e2
  simp only [Prod.mk.injEq] at hx
  obtain ⟨rfl, rfl⟩ := hx
  exact ⟨x0, x1, x2, rfl, rfl, rfl, w0, w1, w2⟩
theorem shut_arr3 {t e : TypeId} {x y z : Int} (ht : P.underlying t = some (.array 3 e)) (he : P.underlying e = some (.int .i64)) (hce : P.cellsOf e = 1) (hct : P.cellsOf t = 3)
    (w0 : (Lit.int .i64 x).wf = true) (w1 : (Lit.int .i64 y).wf = true) (w2 : (Lit.int .i64 z).wf = true) :
    DataW.Trod enc P W base spare held t (.agg #[.int .i64 x, .int .i64 y, .int .i64 z]) (.agg [.lit (.int .i64 x), .lit (.int .i64 y), .lit (.int .i64 z)]) [] :=
  ⟨2, by simp [DataW.trod, Value.cells, ht, he, hct, hce, w0, w1, w2, show List.range 3 = [0, 1, 2] from rfl]⟩
end
end Go.Proofs.Ytidbikjdigemnaa
/- Plain words: primes, numbers, normal lists; no program in sight. -/
namespace Go.Proofs.Ytidbikjdigemnaa
set_option linter.unusedVariables false
set_option linter.unusedSimpArgs false

def prB (p : Int) : Bool := p == 3 || p == 5 || p == 7 || p == 11 || p == 13
theorem prB_cases {p : Int} (h : prB p = true) : p = 3 ∨ p = 5 ∨ p = 7 ∨ p = 11 ∨ p = 13 := by
  simpa [prB, or_assoc] using h
theorem prB_bd {p : Int} (h : prB p = true) : 3 ≤ p ∧ p ≤ 13 := by
  have := prB_cases h; omega
/-- x is a number modulo p. -/
def numB (p x : Int) : Bool := decide (0 ≤ x) && decide (x ≤ p - 1)
theorem numB_iff {p x : Int} : numB p x = true ↔ 0 ≤ x ∧ x ≤ p - 1 := by simp [numB]
def numsB (p : Int) (l : List Int) : Bool := l.all (numB p)
def firstNZ (l : List Int) : Int := (l.find? (fun x => x != 0)).getD 0
def normB (p : Int) (l : List Int) : Bool := firstNZ l == 1 && numsB p l
def ptB (p x y z : Int) : Bool := prB p && normB p [x, y, z]

theorem numsB_snoc (p : Int) (l : List Int) (x : Int) : numsB p (l ++ [x]) = (numsB p l && numB p x) := by simp [numsB]
theorem take_snoc' {α : Type} (l : List α) (d : α) (k : Nat) (h : k < l.length) : l.take (k + 1) = l.take k ++ [l.getD k d] := by
  rw [List.take_succ_eq_append_getElem h]; simp [List.getD, h]
theorem numsB_false {p : Int} {l : List Int} {k : Nat} (hk : k < l.length) (h : numB p (l.getD k 0) = false) : numsB p l = false := by
  have : l.getD k 0 ∈ l := by simp [List.getD, hk]
  cases hh : numsB p l with
  | false => rfl
  | true =>
    have := List.all_eq_true.1 hh _ this
    rw [this] at h; cases h
theorem ret_bool {a b : Bool} (h : a = b) : Ending.returned (.bool a) = .returned (.bool b) := by rw [h]
theorem ret_int {a b : Int} (h : a = b) : Ending.returned (.int .i64 a) = .returned (.int .i64 b) := by rw [h]
theorem tmod_lo (n p : Int) (hp : 0 < p) : 0 < n.tmod p + p ∧ n.tmod p < p := by
  rcases Int.le_total 0 n with h | h
  · have h1 := Int.tmod_nonneg p h
    have h2 := Int.tmod_lt_of_pos n hp
    omega
  · have h1 : (-n).tmod p = -(n.tmod p) := Int.neg_tmod ..
    have h2 := Int.tmod_nonneg p (a := -n) (by omega)
    have h3 := Int.tmod_lt_of_pos (-n) hp
    omega
theorem mod_is (n p : Int) (hp : 0 < p) : (n.tmod p + p).tmod p = n % p := by
  have h := (tmod_lo n p hp).1
  rw [Int.tmod_eq_emod_of_nonneg (by omega), Int.add_emod_right]
  have e : n.tmod p = n - p * n.tdiv p := Int.tmod_def ..
  rw [e, Int.sub_mul_emod_self_left]
theorem mod_is' (n p : Int) (hp : 0 < p) : (n.tmod p + p) % p = n % p := by
  have e : n.tmod p = n - p * n.tdiv p := Int.tmod_def ..
  rw [Int.add_emod_right, e, Int.sub_mul_emod_self_left]
def zerosB (l : List Int) : Bool := l.all (fun x => x == 0)
theorem zerosB_snoc (l : List Int) (x : Int) : zerosB (l ++ [x]) = (zerosB l && (x == 0)) := by simp [zerosB]
theorem firstNZ_snoc (l : List Int) (x : Int) : firstNZ (l ++ [x]) = if firstNZ l = 0 then x else firstNZ l := by
  unfold firstNZ
  rw [List.find?_append]
  cases h : l.find? (fun x => x != 0) with
  | none =>
    by_cases hx : x = 0
    · simp [hx]
    · simp [hx]
  | some y =>
    have := List.find?_some h
    have hy : y ≠ 0 := by simpa using this
    simp [hy]
theorem firstNZ_zeros {l : List Int} (h : zerosB l = true) : firstNZ l = 0 := by
  unfold firstNZ
  have : l.find? (fun x => x != 0) = none := by
    rw [List.find?_eq_none]; intro x hx; have := List.all_eq_true.1 h x hx; simpa using this
  rw [this]; rfl
theorem firstNZ_append (l m : List Int) (h : firstNZ l ≠ 0) : firstNZ (l ++ m) = firstNZ l := by
  unfold firstNZ at *
  rw [List.find?_append]
  cases e : l.find? (fun x => x != 0) with
  | none => rw [e] at h; exact (h rfl).elim
  | some y => rfl
theorem firstNZ_at {l : List Int} {k : Nat} (h : zerosB (l.take k) = true) (hk : k < l.length) (hx : l.getD k 0 ≠ 0) : firstNZ l = l.getD k 0 := by
  have e : l = l.take (k + 1) ++ l.drop (k + 1) := (List.take_append_drop _ _).symm
  have e2 := take_snoc' l 0 k hk
  have e3 : firstNZ (l.take (k + 1)) = l.getD k 0 := by rw [e2, firstNZ_snoc, firstNZ_zeros h]; simp
  have e4 : firstNZ l = firstNZ (l.take (k + 1)) := by
    conv => lhs; rw [e]
    exact firstNZ_append _ _ (by rw [e3]; exact hx)
  rw [e4, e3]
/-- points: three numbers each. -/
abbrev Pt := Int × Int × Int
def ptsB (p : Int) (l : List Pt) : Bool := l.all (fun a => ptB p a.1 a.2.1 a.2.2)
def codeOf (p : Int) (ok : Bool) : Int := if prB p then (if ok then 0 else 1) else 2
theorem ptsB_snoc (p : Int) (l : List Pt) (x : Pt) : ptsB p (l ++ [x]) = (ptsB p l && ptB p x.1 x.2.1 x.2.2) := by simp [ptsB]
theorem ptsB_false {p : Int} {l : List Pt} {k : Nat} (hk : k < l.length) (h : ptB p (l.getD k (0,0,0)).1 (l.getD k (0,0,0)).2.1 (l.getD k (0,0,0)).2.2 = false) : ptsB p l = false := by
  have : l.getD k (0,0,0) ∈ l := by simp [List.getD, hk]
  cases hh : ptsB p l with
  | false => rfl
  | true =>
    have h2 := List.all_eq_true.1 hh _ this
    exact absurd (h2.symm.trans h) (by decide)
theorem mul_bd {a b A B : Int} (h0 : 0 ≤ a) (h1 : a ≤ A) (g0 : 0 ≤ b) (g1 : b ≤ B) : 0 ≤ a * b ∧ a * b ≤ A * B :=
  ⟨Int.mul_nonneg h0 g0, Int.mul_le_mul h1 g1 g0 (Int.le_trans h0 h1)⟩
/-- The inverse modulo p: the least number from 1 on; 0 if there is none. -/
def invP (p n : Int) : Int := (([1,2,3,4,5,6,7,8,9,10,11,12] : List Int).find? (fun k => decide (k < p) && (n * k % p == 1))).getD 0
theorem invP_spec {p n : Int} (hp : prB p = true) (h0 : 0 < n) (h1 : n < p) :
    1 ≤ invP p n ∧ invP p n < p ∧ n * invP p n % p = 1 ∧ ∀ k : Int, 1 ≤ k → k < invP p n → n * k % p ≠ 1 := by
  have key : ∀ k ∈ ([1,2,3,4,5,6,7,8,9,10,11,12] : List Int), True := by intros; trivial
  suffices h : 1 ≤ invP p n ∧ invP p n < p ∧ n * invP p n % p = 1 ∧ ∀ k ∈ ([1,2,3,4,5,6,7,8,9,10,11,12] : List Int), k < invP p n → n * k % p ≠ 1 by
    obtain ⟨a, b, c, d⟩ := h
    refine ⟨a, b, c, fun k hk1 hk2 => d k ?_ hk2⟩
    have := prB_bd hp
    have hk : k = 1 ∨ k = 2 ∨ k = 3 ∨ k = 4 ∨ k = 5 ∨ k = 6 ∨ k = 7 ∨ k = 8 ∨ k = 9 ∨ k = 10 ∨ k = 11 ∨ k = 12 := by omega
    simpa using hk
  have hn : n = 1 ∨ n = 2 ∨ n = 3 ∨ n = 4 ∨ n = 5 ∨ n = 6 ∨ n = 7 ∨ n = 8 ∨ n = 9 ∨ n = 10 ∨ n = 11 ∨ n = 12 := by have := prB_bd hp; omega
  rcases prB_cases hp with rfl | rfl | rfl | rfl | rfl <;> rcases hn with rfl | rfl | rfl | rfl | rfl | rfl | rfl | rfl | rfl | rfl | rfl | rfl <;>
    first | omega | decide +kernel
theorem invP_zero (p : Int) (h : 0 < p) : invP p 0 = 0 := by
  unfold invP
  have : (([1,2,3,4,5,6,7,8,9,10,11,12] : List Int).find? (fun k => decide (k < p) && (0 * k % p == 1))) = none := by
    rw [List.find?_eq_none]; intro x _; simp
  rw [this]; rfl
theorem invP_bd {p n : Int} (hp : prB p = true) (h0 : 0 ≤ n) (h1 : n < p) : 0 ≤ invP p n ∧ invP p n ≤ 12 := by
  have := prB_bd hp
  by_cases h : n = 0
  · subst h; rw [invP_zero p (by omega)]; omega
  · have := invP_spec hp (by omega) h1; omega
/-- What a list's numbers are multiplied with, to make it normal. -/
def facL (p : Int) (l : List Int) : Int := invP p (firstNZ (l.map (· % p)))
def normL (p : Int) (l : List Int) : List Int := l.map (fun x => (x % p) * facL p l % p)
def nzB (p : Int) (l : List Int) : Bool := !zerosB (l.map (· % p))
theorem firstNZ_mem (l : List Int) : firstNZ l = 0 ∨ firstNZ l ∈ l := by
  unfold firstNZ
  cases e : l.find? (fun x => x != 0) with
  | none => exact .inl rfl
  | some y => exact .inr (List.mem_of_find?_eq_some e)
theorem firstNZ_mod_bd (p : Int) (l : List Int) (hp : 0 < p) : 0 ≤ firstNZ (l.map (· % p)) ∧ firstNZ (l.map (· % p)) < p := by
  rcases firstNZ_mem (l.map (· % p)) with h | h
  · rw [h]; omega
  · obtain ⟨x, _, hx⟩ := List.mem_map.1 h
    rw [← hx]
    exact ⟨Int.emod_nonneg _ (by omega), Int.emod_lt_of_pos _ hp⟩
theorem firstNZ_eq_zero {l : List Int} : firstNZ l = 0 ↔ zerosB l = true := by
  constructor
  · intro h
    unfold firstNZ at h
    cases e : l.find? (fun x => x != 0) with
    | none => rw [List.find?_eq_none] at e; exact List.all_eq_true.2 (fun x hx => by simpa using e x hx)
    | some y => rw [e] at h; have := List.find?_some e; simp at h; rw [h] at this; exact absurd this (by decide)
  · exact firstNZ_zeros
theorem facL_bd {p : Int} (hp : prB p = true) (l : List Int) : 0 ≤ facL p l ∧ facL p l ≤ 12 := by
  have h := prB_bd hp
  have h2 := firstNZ_mod_bd p l (by omega)
  exact invP_bd hp h2.1 h2.2
theorem facL_zero {p : Int} (hp : prB p = true) (l : List Int) : (facL p l = 0) ↔ firstNZ (l.map (· % p)) = 0 := by
  have h := prB_bd hp
  have h2 := firstNZ_mod_bd p l (by omega)
  unfold facL
  constructor
  · intro e
    by_cases hz : firstNZ (l.map (· % p)) = 0
    · exact hz
    · have := invP_spec hp (by omega) h2.2; omega
  · intro e; rw [e]; exact invP_zero p (by omega)
theorem facL_snoc {p : Int} (hp : prB p = true) (l : List Int) (x : Int) : facL p (l ++ [x]) = if facL p l = 0 then invP p (x % p) else facL p l := by
  by_cases h : facL p l = 0
  · rw [if_pos h]; unfold facL; rw [List.map_append]; simp only [List.map_cons, List.map_nil]; rw [firstNZ_snoc, if_pos ((facL_zero hp l).1 h)]
  · rw [if_neg h]; unfold facL; rw [List.map_append]; simp only [List.map_cons, List.map_nil]; rw [firstNZ_snoc, if_neg (fun e => h ((facL_zero hp l).2 e))]
theorem facL_append {p : Int} (hp : prB p = true) (l m : List Int) (h : facL p l ≠ 0) : facL p (l ++ m) = facL p l := by
  unfold facL; rw [List.map_append, firstNZ_append _ _ (fun e => h ((facL_zero hp l).2 e))]
theorem normL_at {p : Int} (hp : prB p = true) (l : List Int) (k : Nat) (hk : k < l.length) :
    (normL p l).getD k 0 = (l.getD k 0 % p) * facL p (l.take (k + 1)) % p := by
  have e1 : (normL p l).getD k 0 = (l.getD k 0 % p) * facL p l % p := by simp [normL, List.getD, hk]
  rw [e1]
  by_cases h : facL p (l.take (k + 1)) = 0
  · have hz := (facL_zero hp _).1 h
    have hz2 := firstNZ_eq_zero.1 hz
    have : l.getD k 0 % p = 0 := by
      have hm : l.getD k 0 % p ∈ (l.take (k + 1)).map (· % p) := by
        rw [take_snoc' l 0 k hk]; simp
      have := List.all_eq_true.1 hz2 _ hm
      simpa using this
    rw [this]; simp
  · have e : l = l.take (k + 1) ++ l.drop (k + 1) := (List.take_append_drop _ _).symm
    have : facL p l = facL p (l.take (k + 1)) := by conv => lhs; rw [e]
                                                    exact facL_append hp _ _ h
    rw [this]
theorem normL_length (p : Int) (l : List Int) : (normL p l).length = l.length := by simp [normL]
theorem code_zero {p : Int} {b : Bool} (h : codeOf p b = 0) : prB p = true ∧ b = true := by
  unfold codeOf at h
  cases hp : prB p with
  | false => rw [hp] at h; simp at h
  | true => rw [hp] at h; cases b <;> simp_all
theorem pt_facts {p x y z : Int} (h : ptB p x y z = true) : prB p = true ∧ (0 ≤ x ∧ x ≤ p - 1) ∧ (0 ≤ y ∧ y ≤ p - 1) ∧ (0 ≤ z ∧ z ≤ p - 1) ∧ ((x = 1) ∨ (x = 0 ∧ y = 1) ∨ (x = 0 ∧ y = 0 ∧ z = 1)) := by
  unfold ptB normB numsB at h
  simp only [Bool.and_eq_true, List.all_cons, List.all_nil, numB_iff, and_true] at h
  obtain ⟨hp, h1, hx, hy, hz⟩ := h
  refine ⟨hp, hx, hy, hz, ?_⟩
  have h2 : firstNZ [x, y, z] = 1 := by simpa using h1
  unfold firstNZ at h2
  by_cases ex : x = 0
  · by_cases ey : y = 0
    · by_cases ez : z = 0
      · simp [List.find?, ex, ey, ez] at h2
      · have : (z != 0) = true := by simpa using ez
        simp [List.find?, ex, ey, this] at h2; omega
    · have : (y != 0) = true := by simpa using ey
      simp [List.find?, ex, this] at h2; omega
  · have : (x != 0) = true := by simpa using ex
    simp [List.find?, this] at h2; omega
theorem beqf {a b : Int} (h : a ≠ b) : (a == b) = false := by simpa using h
theorem beqt {a b : Int} (h : a = b) : (a == b) = true := by simpa using h
theorem bnet {a b : Int} (h : a ≠ b) : (a != b) = true := by simpa using h
theorem bnef {a b : Int} (h : a = b) : (a != b) = false := by simpa using h
end Go.Proofs.Ytidbikjdigemnaa
/- Contracts: primes, numbers, normal lists, points. -/
namespace Go.Proofs.Ytidbikjdigemnaa
open Go.RowKit
set_option linter.unusedVariables false
set_option linter.unusedSimpArgs false

theorem isPrime_yes (p : Int) (w : World) (h : prB p = true) : Calls Try.prog 65 #[.int .i64 p] w fun e w' => e = .returned (.bool true) ∧ w = w' := by
  rcases prB_cases h with rfl | rfl | rfl | rfl | rfl
  all_goals
    go_enter Try.func65, Try.ntmps65
    go_wp2
    go_ret
    exact ⟨rfl, rfl⟩
theorem isPrime_no (p : Int) (w : World) (h : prB p = false) : Calls Try.prog 65 #[.int .i64 p] w fun e w' => e = .returned (.bool false) ∧ w = w' := by
  have h3 : (p == 3) = false := by revert h; unfold prB; cases (p == 3) <;> simp
  have h5 : (p == 5) = false := by revert h; unfold prB; cases (p == 5) <;> simp
  have h7 : (p == 7) = false := by revert h; unfold prB; cases (p == 7) <;> simp
  have h11 : (p == 11) = false := by revert h; unfold prB; cases (p == 11) <;> simp
  have h13 : (p == 13) = false := by revert h; unfold prB; cases (p == 13) <;> simp
  clear h
  go_enter Try.func65, Try.ntmps65
  go_wp2
  go_ret
  exact ⟨rfl, rfl⟩
theorem l01Prime_yes (p : Int) (w : World) (h : prB p = true) : Calls Try.prog 62 #[.int .i64 p] w fun e w' => e = .returned (.bool true) ∧ w = w' := by
  rcases prB_cases h with rfl | rfl | rfl | rfl | rfl
  all_goals
    go_enter Try.func62, Try.ntmps62
    go_wp2
    go_ret
    exact ⟨rfl, rfl⟩
theorem l01Prime_no (p : Int) (w : World) (h : prB p = false) : Calls Try.prog 62 #[.int .i64 p] w fun e w' => e = .returned (.bool false) ∧ w = w' := by
  have h3 : (p == 3) = false := by revert h; unfold prB; cases (p == 3) <;> simp
  have h5 : (p == 5) = false := by revert h; unfold prB; cases (p == 5) <;> simp
  have h7 : (p == 7) = false := by revert h; unfold prB; cases (p == 7) <;> simp
  have h11 : (p == 11) = false := by revert h; unfold prB; cases (p == 11) <;> simp
  have h13 : (p == 13) = false := by revert h; unfold prB; cases (p == 13) <;> simp
  clear h
  go_enter Try.func62, Try.ntmps62
  go_wp2
  go_ret
  exact ⟨rfl, rfl⟩
/-- (n % p + p) % p. -/
theorem mod_any (n p : Int) (w : World) (hp : 0 < p) (hp' : p ≤ 1000) (hn : -4611686018427387904 ≤ n) (hn' : n ≤ 4611686018427387904) :
    Calls Try.prog 70 #[.int .i64 n, .int .i64 p] w fun e w' => e = .returned (.int .i64 (n % p)) ∧ w = w' := by
  have hb := tmod_lo n p hp
  have e : IntKind.i64.wrap (n.tmod p + p) = n.tmod p + p := IntWalk.i64_in _ (by omega)
  go_enter Try.func70, Try.ntmps70
  go_wp2
  go_ret
  exact ⟨ret_int (mod_is' n p hp), rfl⟩
theorem within_yes (n a b : Int) (w : World) (h : a ≤ n) (h' : n ≤ b) : Calls Try.prog 78 #[.int .i64 n, .int .i64 a, .int .i64 b] w fun e w' => e = .returned (.bool true) ∧ w = w' := by
  go_enter Try.func78, Try.ntmps78
  go_wp2
  go_ret
  exact ⟨rfl, rfl⟩
theorem within_no (n a b : Int) (w : World) (h : n < a ∨ b < n) : Calls Try.prog 78 #[.int .i64 n, .int .i64 a, .int .i64 b] w fun e w' => e = .returned (.bool false) ∧ w = w' := by
  by_cases h1 : n < a
  · clear h
    go_enter Try.func78, Try.ntmps78
    go_wp2
    go_ret
    exact ⟨rfl, rfl⟩
  · have h2 : b < n := by omega
    have h3 : a ≤ n := by omega
    clear h h1
    go_enter Try.func78, Try.ntmps78
    go_wp2
    go_ret
    exact ⟨ret_bool (by simp; omega), rfl⟩
theorem areNumbers_any (p : Int) (b o n cap : Nat) (l : List Int) (w : World) (hp : 3 ≤ p) (hp' : p ≤ 13) (hl : l.length = n) (hn : n ≤ 4611686018427387904)
    (hc : ∀ i, i < n → w.cell? ⟨b, o + i, none⟩ = some (.int .i64 (l.getD i 0))) :
    Calls Try.prog 76 #[.int .i64 p, .slice (some ⟨b, o, none⟩) n cap] w fun e w' => e = .returned (.bool (numsB p l)) ∧ w = w' := by
  have HL := Lib.hid hl; clear hl
  have HC := Lib.hid hc; clear hc
  go_enter Try.func76, Try.ntmps76
  go_wp2
  go_loop [9] (fun i => ∃ k : Nat, k ≤ n ∧ i = .int .i64 k ∧ numsB p (l.take k) = true) (fun i => n - (intOf i).toNat)
  case atStart => exact ⟨0, Nat.zero_le _, rfl, rfl⟩
  case round =>
    obtain ⟨k, hk, rfl, hd⟩ := hrel
    have HD := Lib.hid hd; clear hd
    by_cases hlt : k < n
    · have hcell := HC.out k hlt
      have HS := Lib.hid (take_snoc' l 0 k (by have := HL.out; omega))
      generalize hx : l.getD k 0 = x at *
      have HX := Lib.hid hx; clear hx
      by_cases hr : 0 ≤ x ∧ x ≤ p - 1
      · obtain ⟨h0, h1⟩ := hr
        go_wp2_with (go_at_call 78; refine (within_yes _ _ _ _ h0 h1).mono ?_; rintro e w' ⟨rfl, rfl⟩)
        go_round
        case rel => exact ⟨k + 1, by omega, by go_num, by rw [HS.out, numsB_snoc, HD.out]; simp [numB, h0, h1]⟩
        case measure => simp [intOf]; omega
      · have hr' : x < 0 ∨ p - 1 < x := by omega
        go_wp2_with (go_at_call 78; refine (within_no _ _ _ _ hr').mono ?_; rintro e w' ⟨rfl, rfl⟩)
        go_ret
        exact ⟨ret_bool (numsB_false (k := k) (by have := HL.out; omega) (by rw [HX.out]; unfold numB; simp; omega)).symm, rfl⟩
    · go_wp2
      go_ret
      refine ⟨ret_bool ?_, rfl⟩
      have := HD.out
      rw [List.take_of_length_le (by have := HL.out; omega)] at this
      exact this.symm

theorem isNormal_any (p : Int) (b o n cap : Nat) (l : List Int) (w : World) (hp : 3 ≤ p) (hp' : p ≤ 13) (hl : l.length = n) (hn : n ≤ 4611686018427387904)
    (hc : ∀ i, i < n → w.cell? ⟨b, o + i, none⟩ = some (.int .i64 (l.getD i 0))) :
    Calls Try.prog 73 #[.int .i64 p, .slice (some ⟨b, o, none⟩) n cap] w fun e w' => e = .returned (.bool (normB p l)) ∧ w = w' := by
  have HL := Lib.hid hl; clear hl
  have HC := Lib.hid hc; clear hc
  go_enter Try.func73, Try.ntmps73
  go_wp2
  go_loop [9] (fun i => ∃ k : Nat, k ≤ n ∧ i = .int .i64 k ∧ zerosB (l.take k) = true) (fun i => n - (intOf i).toNat)
  case atStart => exact ⟨0, Nat.zero_le _, rfl, rfl⟩
  case round =>
    obtain ⟨k, hk, rfl, hd⟩ := hrel
    have HD := Lib.hid hd; clear hd
    by_cases hlt : k < n
    · have hcell := HC.out k hlt
      have HS := Lib.hid (take_snoc' l 0 k (by have := HL.out; omega))
      have HF := Lib.hid (fun h => firstNZ_at HD.out (by have := HL.out; omega) (h : l.getD k 0 ≠ 0))
      generalize l.getD k 0 = x at *
      by_cases hr : x = 0
      · have hx : (x != 0) = false := by simp [hr]
        go_wp2
        go_round
        case rel => exact ⟨k + 1, by omega, by go_num, by rw [HS.out, zerosB_snoc, HD.out]; simp [hr]⟩
        case measure => simp [intOf]; omega
      · have hx : (x != 0) = true := by simp [hr]
        by_cases h1 : x = 1
        · have hx1 : (x == 1) = true := by simp [h1]
          have HF1 := Lib.hid (show firstNZ l = 1 by rw [HF.out hr, h1])
          clear HF h1 hr
          go_wp2_with (go_at_call 76; refine (areNumbers_any p b o n cap l _ hp hp' HL.out hn HC.out).mono ?_; rintro e w' ⟨rfl, rfl⟩)
          go_ret
          exact ⟨ret_bool (by unfold normB; rw [HF1.out]; rfl), rfl⟩
        · have hx1 : (x == 1) = false := by simp [h1]
          have HF1 := Lib.hid (show (firstNZ l == 1) = false by rw [HF.out hr]; exact hx1)
          clear HF h1 hr
          go_wp2
          go_ret
          exact ⟨ret_bool (by unfold normB; rw [HF1.out]; rfl), rfl⟩
    · go_wp2
      go_ret
      refine ⟨ret_bool ?_, rfl⟩
      have h := HD.out
      rw [List.take_of_length_le (by have := HL.out; omega)] at h
      unfold normB; rw [firstNZ_zeros h]; rfl

theorem l01In_yes (n a b : Int) (w : World) (h : a ≤ n) (h' : n ≤ b) : Calls Try.prog 75 #[.int .i64 n, .int .i64 a, .int .i64 b] w fun e w' => e = .returned (.bool true) ∧ w = w' := by
  go_enter Try.func75, Try.ntmps75
  go_wp2
  go_ret
  exact ⟨rfl, rfl⟩
theorem l01In_no (n a b : Int) (w : World) (h : n < a ∨ b < n) : Calls Try.prog 75 #[.int .i64 n, .int .i64 a, .int .i64 b] w fun e w' => e = .returned (.bool false) ∧ w = w' := by
  by_cases h1 : n < a
  · clear h
    go_enter Try.func75, Try.ntmps75
    go_wp2
    go_ret
    exact ⟨rfl, rfl⟩
  · have h2 : b < n := by omega
    have h3 : a ≤ n := by omega
    clear h h1
    go_enter Try.func75, Try.ntmps75
    go_wp2
    go_ret
    exact ⟨ret_bool (by simp; omega), rfl⟩
theorem l01Normal_any (p : Int) (b o n cap : Nat) (l : List Int) (w : World) (hp : 3 ≤ p) (hp' : p ≤ 13) (hl : l.length = n) (hn : n ≤ 4611686018427387904)
    (hc : ∀ i, i < n → w.cell? ⟨b, o + i, none⟩ = some (.int .i64 (l.getD i 0))) :
    Calls Try.prog 71 #[.int .i64 p, .slice (some ⟨b, o, none⟩) n cap] w fun e w' => e = .returned (.bool (normB p l)) ∧ w = w' := by
  have HL := Lib.hid hl; clear hl
  have HC := Lib.hid hc; clear hc
  go_enter Try.func71, Try.ntmps71
  go_wp2
  go_loop [5, 6] (fun f i => ∃ k : Nat, k ≤ n ∧ i = .int .i64 k ∧ f = .int .i64 (firstNZ (l.take k)) ∧ numsB p (l.take k) = true) (fun _ i => n - (intOf i).toNat)
  case atStart => exact ⟨0, Nat.zero_le _, rfl, rfl, rfl⟩
  case round =>
    obtain ⟨k, hk, rfl, rfl, hd⟩ := hrel
    have HD := Lib.hid hd; clear hd
    by_cases hlt : k < n
    · have hcell := HC.out k hlt
      have HS := Lib.hid (take_snoc' l 0 k (by have := HL.out; omega))
      have HF := Lib.hid (fun h => numsB_false (p := p) (k := k) (by have := HL.out; omega) (h : numB p (l.getD k 0) = false))
      have HN := Lib.hid (firstNZ_snoc (l.take k) (l.getD k 0))
      generalize l.getD k 0 = x at *
      have HFn : Hid (firstNZ (l.take (k + 1)) = if firstNZ (l.take k) = 0 then x else firstNZ (l.take k)) := Lib.hid (by rw [HS.out]; exact HN.out)
      clear HN
      have HT : Hid (numsB p (l.take (k + 1)) = (numsB p (l.take k) && numB p x)) := Lib.hid (by rw [HS.out]; exact numsB_snoc _ _ _)
      clear HS
      generalize firstNZ (l.take k) = f at *
      by_cases hr : 0 ≤ x ∧ x ≤ p - 1
      · obtain ⟨h0, h1⟩ := hr
        by_cases hf : f = 0
        · have hf' : (f == 0) = true := by simp [hf]
          go_wp2_with (go_at_call 75; refine (l01In_yes _ _ _ _ h0 h1).mono ?_; rintro e w' ⟨rfl, rfl⟩)
          go_round
          case rel => exact ⟨k + 1, by omega, by go_num, by rw [HFn.out, if_pos hf], by rw [HT.out, HD.out]; simp [numB, h0, h1]⟩
          case measure => simp [intOf]; omega
        · have hf' : (f == 0) = false := by simp [hf]
          go_wp2_with (go_at_call 75; refine (l01In_yes _ _ _ _ h0 h1).mono ?_; rintro e w' ⟨rfl, rfl⟩)
          go_round
          case rel => exact ⟨k + 1, by omega, by go_num, by rw [HFn.out, if_neg hf], by rw [HT.out, HD.out]; simp [numB, h0, h1]⟩
          case measure => simp [intOf]; omega
      · have hr' : x < 0 ∨ p - 1 < x := by omega
        go_wp2_with (go_at_call 75; refine (l01In_no _ _ _ _ hr').mono ?_; rintro e w' ⟨rfl, rfl⟩)
        go_ret
        exact ⟨ret_bool (by unfold normB; rw [HF.out (by unfold numB; simp; omega)]; simp), rfl⟩
    · have HE : Hid (l.take k = l) := Lib.hid (List.take_of_length_le (by have := HL.out; omega))
      go_wp2
      go_ret
      refine ⟨ret_bool ?_, rfl⟩
      have h := HD.out
      rw [HE.out] at h
      unfold normB; rw [h, HE.out]; simp
end Go.Proofs.Ytidbikjdigemnaa
/- Contracts: points and lists of points, the codes of their validity. -/
namespace Go.Proofs.Ytidbikjdigemnaa
open Go.RowKit
set_option linter.unusedVariables false
set_option linter.unusedSimpArgs false

abbrev ptV (x y z : Int) : Value := .agg #[.int .i64 x, .int .i64 y, .int .i64 z]

theorem new3 (w : World) (g : Nat) (x y z : Int) (T : TypeId) (hg : g = w.heap.size) : ∀ i, i < 3 → (w.alloc (.cells #[.int .i64 x, .int .i64 y, .int .i64 z] T)).cell? ⟨g, 0 + i, none⟩ = some (.int .i64 ([x, y, z].getD i 0)) := by
  intro i hi
  rw [World.cell?_alloc_at _ _ _ _ hg]
  match i, hi with
  | 0, _ => rfl
  | 1, _ => rfl
  | 2, _ => rfl

theorem IsPoint_yes (p x y z : Int) (w : World) (hp : prB p = true) :
    Calls Try.prog 66 #[.int .i64 p, ptV x y z] w (Ret w (.bool (normB p [x, y, z]))) := by
  have hb := prB_bd hp
  obtain ⟨h1, h2⟩ := hb
  have HP := Lib.hid hp; clear hp
  go_enter Try.func66, Try.ntmps66
  go_wp2_with (first
    | (go_at_call 65; refine (isPrime_yes _ _ HP.out).mono ?_; rintro e w' ⟨rfl, rfl⟩)
    | (go_at_call 73; refine (isNormal_any p _ 0 3 3 [x, y, z] _ h1 h2 rfl (by omega) (new3 _ _ _ _ _ _ (by simp))).mono ?_; rintro e w' ⟨rfl, rfl⟩))
  go_ret
  exact ⟨rfl, (Below.refl _ _).alloc (Nat.le_refl _) _⟩
theorem IsPoint_no (p x y z : Int) (w : World) (hp : prB p = false) :
    Calls Try.prog 66 #[.int .i64 p, ptV x y z] w (Ret w (.bool false)) := by
  have HP := Lib.hid hp; clear hp
  go_enter Try.func66, Try.ntmps66
  go_wp2_with (go_at_call 65; refine (isPrime_no _ _ HP.out).mono ?_; rintro e w' ⟨rfl, rfl⟩)
  go_ret
  exact ⟨rfl, (Below.refl _ _).alloc (Nat.le_refl _) _⟩
theorem IsPoint_any (p x y z : Int) (w : World) :
    Calls Try.prog 66 #[.int .i64 p, ptV x y z] w (Ret w (.bool (ptB p x y z))) := by
  cases hp : prB p with
  | true => refine (IsPoint_yes p x y z w hp).mono ?_; rintro e w' ⟨rfl, h⟩; exact ⟨ret_bool (by unfold ptB; rw [hp]; rfl), h⟩
  | false => refine (IsPoint_no p x y z w hp).mono ?_; rintro e w' ⟨rfl, h⟩; exact ⟨ret_bool (by unfold ptB; rw [hp]; rfl), h⟩
/-- The points of a slice. -/
def PtsAt (w : World) (b o n : Nat) (l : List Pt) : Prop := ∀ i, i < n →
  w.cell? ⟨b, o + i * 3, none⟩ = some (.int .i64 (l.getD i (0,0,0)).1) ∧ w.cell? ⟨b, o + i * 3 + 1, none⟩ = some (.int .i64 (l.getD i (0,0,0)).2.1) ∧ w.cell? ⟨b, o + i * 3 + 2, none⟩ = some (.int .i64 (l.getD i (0,0,0)).2.2)
theorem cell_below {w w1 : World} (h : Below w.heap.size w w1) {a : Addr} {v : Value} (hc : w.cell? a = some v) : w1.cell? a = some v := (h.cell (World.block_lt_of_cell? w a hc)).trans hc
theorem PtsAt.below {w w1 : World} {b o n : Nat} {l : List Pt} (h : PtsAt w b o n l) (hb : Below w.heap.size w w1) : PtsAt w1 b o n l :=
  fun i hi => ⟨cell_below hb (h i hi).1, cell_below hb (h i hi).2.1, cell_below hb (h i hi).2.2⟩
theorem arePoints_any (p : Int) (b o n cap : Nat) (l : List Pt) (w : World) (hl : l.length = n) (hn : n ≤ 4611686018427387904) (hc : PtsAt w b o n l) :
    Calls Try.prog 57 #[.int .i64 p, .slice (some ⟨b, o, none⟩) n cap] w (Ret w (.bool (ptsB p l))) := by
  have HL := Lib.hid hl; clear hl
  have HC := Lib.hid hc; clear hc
  go_enter Try.func57, Try.ntmps57
  go_wp2
  go_loopw [9] (fun i wr => ∃ k : Nat, k ≤ n ∧ i = .int .i64 k ∧ ptsB p (l.take k) = true ∧ Below w.heap.size w wr) (fun i wr => n - (intOf i).toNat)
  case atStart => exact ⟨0, Nat.zero_le _, rfl, rfl, Below.refl _ _⟩
  case round =>
    obtain ⟨k, hk, rfl, hd, hbl⟩ := hrel
    have HD := Lib.hid hd; clear hd
    by_cases hlt : k < n
    · obtain ⟨c0, c1, c2⟩ := HC.out.below hbl k hlt
      have HS := Lib.hid (take_snoc' l (0,0,0) k (by have := HL.out; omega))
      have HF := Lib.hid (fun h => ptsB_false (p := p) (l := l) (k := k) (by have := HL.out; omega) h)
      have HB := Lib.hid hbl; clear hbl
      generalize l.getD k (0,0,0) = a at *
      obtain ⟨x, y, z⟩ := a
      simp only at c0 c1 c2
      cases hv : ptB p x y z with
      | true =>
        have HV := Lib.hid hv; clear hv
        go_wp2_with (go_at_call 66; refine (IsPoint_any _ _ _ _ _).mono ?_; rintro e w' ⟨rfl, hb2⟩; rw [HV.out]; have HB2 := Lib.hid hb2; clear hb2)
        go_roundw
        case rel => exact ⟨k + 1, by omega, by go_num, by rw [HS.out, ptsB_snoc, HD.out]; exact HV.out, below_al_tr HB.out HB2.out⟩
        case measure => simp [intOf]; omega
      | false =>
        have HV := Lib.hid hv; clear hv
        go_wp2_with (go_at_call 66; refine (IsPoint_any _ _ _ _ _).mono ?_; rintro e w' ⟨rfl, hb2⟩; rw [HV.out]; have HB2 := Lib.hid hb2; clear hb2)
        go_ret
        exact ⟨ret_bool (HF.out HV.out).symm, below_al_tr HB.out HB2.out⟩
    · have HB := Lib.hid hbl; clear hbl
      go_wp2
      go_ret
      refine ⟨ret_bool ?_, HB.out⟩
      have h := HD.out
      rw [List.take_of_length_le (by have := HL.out; omega)] at h
      exact h.symm
/-- A line's numbers are asked as a point's. -/
theorem IsLine_any (p x y z : Int) (w : World) :
    Calls Try.prog 67 #[.int .i64 p, ptV x y z] w (Ret w (.bool (ptB p x y z))) := by
  cases hp : prB p with
  | true =>
    obtain ⟨h1, h2⟩ := prB_bd hp
    have HP := Lib.hid hp; clear hp
    go_enter Try.func67, Try.ntmps67
    go_wp2_with (first
      | (go_at_call 65; refine (isPrime_yes _ _ HP.out).mono ?_; rintro e w' ⟨rfl, rfl⟩)
      | (go_at_call 73; refine (isNormal_any p _ 0 3 3 [x, y, z] _ h1 h2 rfl (by omega) (new3 _ _ _ _ _ _ (by simp))).mono ?_; rintro e w' ⟨rfl, rfl⟩))
    go_ret
    exact ⟨ret_bool (by unfold ptB; rw [HP.out]; rfl), (Below.refl _ _).alloc (Nat.le_refl _) _⟩
  | false =>
    have HP := Lib.hid hp; clear hp
    go_enter Try.func67, Try.ntmps67
    go_wp2_with (go_at_call 65; refine (isPrime_no _ _ HP.out).mono ?_; rintro e w' ⟨rfl, rfl⟩)
    go_ret
    exact ⟨ret_bool (by unfold ptB; rw [HP.out]; rfl), (Below.refl _ _).alloc (Nat.le_refl _) _⟩
theorem areLines_any (p : Int) (b o n cap : Nat) (l : List Pt) (w : World) (hl : l.length = n) (hn : n ≤ 4611686018427387904) (hc : PtsAt w b o n l) :
    Calls Try.prog 58 #[.int .i64 p, .slice (some ⟨b, o, none⟩) n cap] w (Ret w (.bool (ptsB p l))) := by
  have HL := Lib.hid hl; clear hl
  have HC := Lib.hid hc; clear hc
  go_enter Try.func58, Try.ntmps58
  go_wp2
  go_loopw [9] (fun i wr => ∃ k : Nat, k ≤ n ∧ i = .int .i64 k ∧ ptsB p (l.take k) = true ∧ Below w.heap.size w wr) (fun i wr => n - (intOf i).toNat)
  case atStart => exact ⟨0, Nat.zero_le _, rfl, rfl, Below.refl _ _⟩
  case round =>
    obtain ⟨k, hk, rfl, hd, hbl⟩ := hrel
    have HD := Lib.hid hd; clear hd
    by_cases hlt : k < n
    · obtain ⟨c0, c1, c2⟩ := HC.out.below hbl k hlt
      have HS := Lib.hid (take_snoc' l (0,0,0) k (by have := HL.out; omega))
      have HF := Lib.hid (fun h => ptsB_false (p := p) (l := l) (k := k) (by have := HL.out; omega) h)
      have HB := Lib.hid hbl; clear hbl
      generalize l.getD k (0,0,0) = a at *
      obtain ⟨x, y, z⟩ := a
      simp only at c0 c1 c2
      cases hv : ptB p x y z with
      | true =>
        have HV := Lib.hid hv; clear hv
        go_wp2_with (go_at_call 67; refine (IsLine_any _ _ _ _ _).mono ?_; rintro e w' ⟨rfl, hb2⟩; rw [HV.out]; have HB2 := Lib.hid hb2; clear hb2)
        go_roundw
        case rel => exact ⟨k + 1, by omega, by go_num, by rw [HS.out, ptsB_snoc, HD.out]; exact HV.out, below_al_tr HB.out HB2.out⟩
        case measure => simp [intOf]; omega
      | false =>
        have HV := Lib.hid hv; clear hv
        go_wp2_with (go_at_call 67; refine (IsLine_any _ _ _ _ _).mono ?_; rintro e w' ⟨rfl, hb2⟩; rw [HV.out]; have HB2 := Lib.hid hb2; clear hb2)
        go_ret
        exact ⟨ret_bool (HF.out HV.out).symm, below_al_tr HB.out HB2.out⟩
    · have HB := Lib.hid hbl; clear hbl
      go_wp2
      go_ret
      refine ⟨ret_bool ?_, HB.out⟩
      have h := HD.out
      rw [List.take_of_length_le (by have := HL.out; omega)] at h
      exact h.symm
theorem codeOf_no {p : Int} (b : Bool) (h : prB p = false) : codeOf p b = 2 := by unfold codeOf; rw [h]; rfl
theorem codeOf_t {p : Int} (h : prB p = true) : codeOf p true = 0 := by unfold codeOf; rw [h]; rfl
theorem codeOf_f {p : Int} (h : prB p = true) : codeOf p false = 1 := by unfold codeOf; rw [h]; rfl
theorem codeOf_yes {p : Int} (b : Bool) (h : prB p = true) : codeOf p b = if b then 0 else 1 := by unfold codeOf; rw [h]; rfl
theorem planeCode_no (p : Int) (f : Value) (w : World) (hp : prB p = false) :
    Calls Try.prog 55 #[.int .i64 p, f] w fun e w' => e = .returned (.int .i64 2) ∧ w = w' := by
  have HP := Lib.hid hp; clear hp
  go_enter Try.func55, Try.ntmps55
  go_wp2_with (go_at_call 65; refine (isPrime_no _ _ HP.out).mono ?_; rintro e w' ⟨rfl, rfl⟩)
  go_ret
  exact ⟨rfl, rfl⟩
theorem PtsAt.alloc {w : World} {b o n : Nat} {l : List Pt} (h : PtsAt w b o n l) (ob : Obj) : PtsAt (w.alloc ob) b o n l := h.below ((Below.refl _ _).alloc (Nat.le_refl _) _)
/-! ### the reference -/
theorem l01List_any (x y z : Int) (w : World) :
    Calls Try.prog 72 #[ptV x y z] w fun e w' => e = .returned (.slice (some ⟨w.heap.size + 1, 0, none⟩) 3 3) ∧ (w.alloc (.cells #[.int .i64 x, .int .i64 y, .int .i64 z] 49)).alloc (.cells #[.int .i64 x, .int .i64 y, .int .i64 z] 2) = w' := by
  go_enter Try.func72, Try.ntmps72
  go_wp2
  go_ret
  exact ⟨rfl, rfl⟩
theorem l01Point_any (p x y z : Int) (w : World) :
    Calls Try.prog 63 #[.int .i64 p, ptV x y z] w (Ret w (.bool (ptB p x y z))) := by
  cases hp : prB p with
  | true =>
    obtain ⟨h1, h2⟩ := prB_bd hp
    have HP := Lib.hid hp; clear hp
    go_enter Try.func63, Try.ntmps63
    go_wp2_with (first
      | (go_at_call 62; refine (l01Prime_yes _ _ HP.out).mono ?_; rintro e w' ⟨rfl, rfl⟩)
      | (go_at_call 72; refine (l01List_any _ _ _ _).mono ?_; rintro e w' ⟨rfl, rfl⟩)
      | (go_at_call 71; refine (l01Normal_any p _ 0 3 3 [x, y, z] _ h1 h2 rfl (by omega) (new3 _ _ _ _ _ _ (by simp))).mono ?_; rintro e w' ⟨rfl, rfl⟩))
    go_ret
    exact ⟨ret_bool (by unfold ptB; rw [HP.out]; rfl), by repeat (first | exact Below.refl _ _ | refine bal ?_ _)⟩
  | false =>
    have HP := Lib.hid hp; clear hp
    go_enter Try.func63, Try.ntmps63
    go_wp2_with (go_at_call 62; refine (l01Prime_no _ _ HP.out).mono ?_; rintro e w' ⟨rfl, rfl⟩)
    go_ret
    exact ⟨ret_bool (by unfold ptB; rw [HP.out]; rfl), by repeat (first | exact Below.refl _ _ | refine bal ?_ _)⟩
theorem l01Code_any (p : Int) (b o n cap : Nat) (l : List Pt) (w : World) (hl : l.length = n) (hn : n ≤ 4611686018427387904) (hc : PtsAt w b o n l) :
    Calls Try.prog 51 #[.int .i64 p, .slice (some ⟨b, o, none⟩) n cap] w (Ret w (.int .i64 (codeOf p (ptsB p l)))) := by
  have HL := Lib.hid hl; clear hl
  have HC := Lib.hid hc; clear hc
  cases hp : prB p with
  | false =>
    have HP := Lib.hid hp; clear hp
    go_enter Try.func51, Try.ntmps51
    go_wp2_with (go_at_call 62; refine (l01Prime_no _ _ HP.out).mono ?_; rintro e w' ⟨rfl, rfl⟩)
    go_ret
    exact ⟨ret_int (codeOf_no _ HP.out).symm, Below.refl _ _⟩
  | true =>
    have HP := Lib.hid hp; clear hp
    go_enter Try.func51, Try.ntmps51
    go_wp2_with (go_at_call 62; refine (l01Prime_yes _ _ HP.out).mono ?_; rintro e w' ⟨rfl, rfl⟩)
    go_loopw [5] (fun i wr => ∃ k : Nat, k ≤ n ∧ i = .int .i64 k ∧ ptsB p (l.take k) = true ∧ Below w.heap.size w wr) (fun i wr => n - (intOf i).toNat)
    case atStart => exact ⟨0, Nat.zero_le _, rfl, rfl, Below.refl _ _⟩
    case round =>
      obtain ⟨k, hk, rfl, hd, hbl⟩ := hrel
      have HD := Lib.hid hd; clear hd
      by_cases hlt : k < n
      · obtain ⟨c0, c1, c2⟩ := HC.out.below hbl k hlt
        have HS := Lib.hid (take_snoc' l (0,0,0) k (by have := HL.out; omega))
        have HF := Lib.hid (fun h => ptsB_false (p := p) (l := l) (k := k) (by have := HL.out; omega) h)
        have HB := Lib.hid hbl; clear hbl
        generalize l.getD k (0,0,0) = a at *
        obtain ⟨x, y, z⟩ := a
        simp only at c0 c1 c2
        cases hv : ptB p x y z with
        | true =>
          have HV := Lib.hid hv; clear hv
          go_wp2_with (go_at_call 63; refine (l01Point_any _ _ _ _ _).mono ?_; rintro e w' ⟨rfl, hb2⟩; rw [HV.out]; have HB2 := Lib.hid hb2; clear hb2)
          go_roundw
          case rel => exact ⟨k + 1, by omega, by go_num, by rw [HS.out, ptsB_snoc, HD.out]; exact HV.out, below_tr' HB.out HB2.out⟩
          case measure => simp [intOf]; omega
        | false =>
          have HV := Lib.hid hv; clear hv
          go_wp2_with (go_at_call 63; refine (l01Point_any _ _ _ _ _).mono ?_; rintro e w' ⟨rfl, hb2⟩; rw [HV.out]; have HB2 := Lib.hid hb2; clear hb2)
          go_ret
          exact ⟨ret_int (by rw [HF.out HV.out, codeOf_f HP.out]), below_tr' HB.out HB2.out⟩
      · have HB := Lib.hid hbl; clear hbl
        go_wp2
        go_ret
        refine ⟨ret_int ?_, HB.out⟩
        have h := HD.out
        rw [List.take_of_length_le (by have := HL.out; omega)] at h
        rw [h, codeOf_t HP.out]
theorem l01Line_any (p x y z : Int) (w : World) :
    Calls Try.prog 52 #[.int .i64 p, ptV x y z] w (Ret w (.bool (ptB p x y z))) := by
  go_enter Try.func52, Try.ntmps52
  go_wp2_with (go_at_call 63; refine (l01Point_any _ _ _ _ _).mono ?_; rintro e w' ⟨rfl, hb2⟩; have HB2 := Lib.hid hb2; clear hb2)
  go_ret
  exact ⟨rfl, below_tr' (by repeat (first | exact Below.refl _ _ | refine bal ?_ _)) HB2.out⟩
/-! ### the laws' own -/
theorem toPoint_any (x y z : Int) (w : World) :
    Calls Try.prog 43 #[ptV x y z] w (Ret w (ptV x y z)) := by
  go_enter Try.func43, Try.ntmps43
  go_wp2
  refine wp_loop_rounds 4 ?_
  repeat any_goals (rw [rounds_succ]; go_wp2)
  exact bodyPost_ret (v := ptV x y z) (by simp [results, Try.results43, go_sem]) rfl ⟨rfl, by repeat (first | exact Below.refl _ _ | refine bal ?_ _)⟩
theorem toLine_any (x y z : Int) (w : World) :
    Calls Try.prog 44 #[ptV x y z] w (Ret w (ptV x y z)) := by
  go_enter Try.func44, Try.ntmps44
  go_wp2
  refine wp_loop_rounds 4 ?_
  repeat any_goals (rw [rounds_succ]; go_wp2)
  exact bodyPost_ret (v := ptV x y z) (by simp [results, Try.results44, go_sem]) rfl ⟨rfl, by repeat (first | exact Below.refl _ _ | refine bal ?_ _)⟩
theorem eqPoint_same (x y z : Int) (w : World) :
    Calls Try.prog 47 #[ptV x y z, ptV x y z] w (Ret w (.bool true)) := by
  go_enter Try.func47, Try.ntmps47
  go_wp2
  refine wp_loop_rounds 4 ?_
  iterate 3 (rw [rounds_succ]; go_wp2; go_quiet (fail); go_wp2)
  rw [rounds_succ]; go_wp2
  go_ret
  exact ⟨rfl, by repeat (first | exact Below.refl _ _ | refine bal ?_ _ | refine bdrN ?_ _ | refine bdr ?_)⟩
theorem eqLine_same (x y z : Int) (w : World) :
    Calls Try.prog 48 #[ptV x y z, ptV x y z] w (Ret w (.bool true)) := by
  go_enter Try.func48, Try.ntmps48
  go_wp2
  refine wp_loop_rounds 4 ?_
  iterate 3 (rw [rounds_succ]; go_wp2; go_quiet (fail); go_wp2)
  rw [rounds_succ]; go_wp2
  go_ret
  exact ⟨rfl, by repeat (first | exact Below.refl _ _ | refine bal ?_ _ | refine bdrN ?_ _ | refine bdr ?_)⟩
end Go.Proofs.Ytidbikjdigemnaa
/- Lists as arguments: opened; and kept. -/
namespace Go.Proofs.Ytidbikjdigemnaa
open Go.ChangeShapes Go.WideShapes Go.ChangeAt Go.RowKit Go.Deep
set_option linter.unusedVariables false
theorem laidOut : laidOutB Try.prog = true := by kernel_rfl
section
variable {H : Type} {enc : TypeId × Value → H} {P : Program} {W : World} {b0 : Nat} {held : Bool}
theorem open_sl_i {r : Reach} {t e : TypeId} {v : Value} {d : DataW H} {p : List MemPlace} (ht : P.underlying t = some (.slice e)) (he : P.underlying e = some (.int .i64)) (hc : P.cellsOf e = 1)
    (hv : Value.okWide P W r b0 t v) (h : DataW.Trod enc P W 0 (fun _ => true) held t v d p) :
    ∃ (b : Option Addr) (k cap : Nat) (l : List Int), v = .slice b k cap ∧ l.length = k ∧ (0 < k → ∃ g off, b = some ⟨g, off, none⟩ ∧ ∀ i, i < k → W.cell? ⟨g, off + i, none⟩ = some (.int .i64 (l.getD i 0))) := by
  obtain ⟨a0, len, cap, rfl⟩ := okWide_slice ht hv
  obtain ⟨fuel, hf⟩ := h
  rcases open_ints ht he hc hf with ⟨hcs, hx⟩ | ⟨a, len', cap', zs, hcs, _, hl, hm, hz, hx, hcell, hwz⟩
  · simp [Value.cells] at hcs
    obtain ⟨rfl, rfl, rfl⟩ := hcs
    exact ⟨none, 0, 0, [], rfl, rfl, fun h => absurd h (Nat.lt_irrefl _)⟩
  · simp [Value.cells] at hcs
    obtain ⟨rfl, rfl, rfl⟩ := hcs
    simp only [if_true] at hz
    refine ⟨some a, len, cap, zs.take len, rfl, by rw [List.length_take]; omega, fun hk => ?_⟩
    obtain ⟨b, off, spot⟩ := a
    have hspot : spot = none := by simpa [Addr.add] using World.cell?_spot (hcell 0 (by omega))
    subst hspot
    refine ⟨b, off, rfl, fun i hi => ?_⟩
    have h1 := hcell i (by omega)
    rw [add_plain] at h1
    have h2 : (zs.take len).getD i 0 = zs.getD i 0 := by simp [List.getD, List.getElem?_take_of_lt hi]
    rw [h2]; exact h1
theorem open_sl_p {r : Reach} {t e e1 : TypeId} {v : Value} {d : DataW H} {p : List MemPlace} (ht : P.underlying t = some (.slice e)) (ha : P.underlying e = some (.array 3 e1)) (he : P.underlying e1 = some (.int .i64)) (hc1 : P.cellsOf e1 = 1) (hc : P.cellsOf e = 3)
    (hv : Value.okWide P W r b0 t v) (h : DataW.Trod enc P W 0 (fun _ => true) held t v d p) :
    ∃ (b : Option Addr) (k cap : Nat) (l : List Pt), v = .slice b k cap ∧ l.length = k ∧ (0 < k → ∃ g off, b = some ⟨g, off, none⟩ ∧ PtsAt W g off k l) := by
  obtain ⟨a0, len, cap, rfl⟩ := okWide_slice ht hv
  obtain ⟨fuel, hf⟩ := h
  rcases open_slice ht hf with ⟨hcs, hx⟩ | ⟨a, len', cap', m, n, D, Pl, hcs, _, hl, hm, hz, hx, hcell⟩
  · simp [Value.cells] at hcs
    obtain ⟨rfl, rfl, rfl⟩ := hcs
    exact ⟨none, 0, 0, [], rfl, rfl, fun h => absurd h (Nat.lt_irrefl _)⟩
  · simp [Value.cells] at hcs
    obtain ⟨rfl, rfl, rfl⟩ := hcs
    simp only [if_true] at hz
    have each : ∀ i, i < m → ∃ q : Pt, W.cell? (a.add (i * 3)) = some (.int .i64 q.1) ∧ W.cell? (a.add (i * 3 + 1)) = some (.int .i64 q.2.1) ∧ W.cell? (a.add (i * 3 + 2)) = some (.int .i64 q.2.2) := by
      intro i hi
      obtain ⟨cs', h1, h2⟩ := hcell i hi
      rw [hc] at h1
      obtain ⟨_, hlen, hcc⟩ := World.cells?_some h1
      match cs', hlen with
      | [c0, c1, c2], _ =>
        obtain ⟨y0, y1, y2, m', _, hy0, hy1, hy2⟩ := trod_array3 ha hc1 (show DataW.trod enc P W 0 (fun _ => true) held n e [c0, c1, c2] = some (D i, Pl i) from h2)
        obtain ⟨x0, e0, _, _⟩ := DataW.trod_int he hy0
        obtain ⟨x1, e1', _, _⟩ := DataW.trod_int he hy1
        obtain ⟨x2, e2, _, _⟩ := DataW.trod_int he hy2
        simp at e0 e1' e2
        subst e0 e1' e2
        have g0 := hcc 0 (by omega)
        have g1 := hcc 1 (by omega)
        have g2 := hcc 2 (by omega)
        rw [add_add] at g0 g1 g2
        exact ⟨(x0, x1, x2), by simpa using g0, by simpa using g1, by simpa using g2⟩
    obtain ⟨q, hq⟩ := choose_lt each
    refine ⟨some a, len, cap, (List.range len).map q, rfl, by simp, fun hk => ?_⟩
    obtain ⟨b, off, spot⟩ := a
    have hspot : spot = none := by simpa [Addr.add] using World.cell?_spot (hq 0 (by omega)).1
    subst hspot
    refine ⟨b, off, rfl, fun i hi => ?_⟩
    obtain ⟨h0, h1, h2⟩ := hq i (by omega)
    rw [add_plain] at h0 h1 h2
    have hd : ((List.range len).map q).getD i (0, 0, 0) = q i := by simp [List.getD, hi]
    rw [hd]
    exact ⟨h0, by rw [Nat.add_assoc]; exact h1, by rw [Nat.add_assoc]; exact h2⟩
end
end Go.Proofs.Ytidbikjdigemnaa
/- Contracts: inverses, normal lists made. -/
namespace Go.Proofs.Ytidbikjdigemnaa
open Go.RowKit
set_option linter.unusedVariables false
set_option linter.unusedSimpArgs false

/-! ### numbers written one by one -/
def setInts (w : World) (b o : Nat) (l : List Int) : World := w.setCells b o (l.map (Value.int .i64))
theorem setCells_snoc (b : Nat) (v : Value) : ∀ (l : List Value) (o : Nat) (w : World), w.setCells b o (l ++ [v]) = (w.setCells b o l).setCell ⟨b, o + l.length, none⟩ v
  | [], o, w => rfl
  | u :: r, o, w => by
    show (w.setCell ⟨b, o, none⟩ u).setCells b (o + 1) (r ++ [v]) = ((w.setCell ⟨b, o, none⟩ u).setCells b (o + 1) r).setCell ⟨b, o + (r.length + 1), none⟩ v
    rw [setCells_snoc b v r (o + 1), show o + (r.length + 1) = o + 1 + r.length by omega]
theorem setInts_snoc (w : World) (b o : Nat) (l : List Int) (x : Int) : setInts w b o (l ++ [x]) = (setInts w b o l).setCell ⟨b, o + l.length, none⟩ (.int .i64 x) := by
  unfold setInts; rw [List.map_append]; simp only [List.map_cons, List.map_nil]; rw [setCells_snoc, List.length_map]
theorem setInts_cell_ge (w : World) (b o : Nat) (l : List Int) (i : Nat) (h : l.length ≤ i) : (setInts w b o l).cell? ⟨b, o + i, none⟩ = w.cell? ⟨b, o + i, none⟩ :=
  World.cell?_setCells_out b _ o w _ (fun _ _ => .inr (by simp; omega))
theorem setInts_frozen (w : World) (b o : Nat) (l : List Int) (a : Addr) : (setInts w b o l).frozen? a = w.frozen? a := World.frozen?_setCells b _ o w a
theorem setInts_other (w : World) (b o : Nat) (l : List Int) (a : Addr) (h : a.block ≠ b) : (setInts w b o l).cell? a = w.cell? a :=
  World.cell?_setCells_out b _ o w a (fun e _ => (h e).elim)
theorem setInts_cell (w : World) (b o : Nat) (l : List Int) (hc : ∀ j, j < l.length → (w.cell? ⟨b, o + j, none⟩).isSome = true) (i : Nat) (h : i < l.length) : (setInts w b o l).cell? ⟨b, o + i, none⟩ = some (.int .i64 (l.getD i 0)) := by
  unfold setInts
  rw [World.cell?_setCells_in b (l.map (Value.int .i64)) o w (by simpa using hc) i (by simpa using h)]
  simp [List.getD, h]
theorem setCells_size (b : Nat) : ∀ (l : List Value) (o : Nat) (w : World), (w.setCells b o l).heap.size = w.heap.size
  | [], _, _ => rfl
  | u :: r, o, w => by
    show ((w.setCell ⟨b, o, none⟩ u).setCells b (o + 1) r).heap.size = w.heap.size
    rw [setCells_size b r]; simp [World.setCell]
theorem setInts_size (w : World) (b o : Nat) (l : List Int) : (setInts w b o l).heap.size = w.heap.size := setCells_size b _ o w
theorem below_setCells {B : Nat} {w : World} (b : Nat) (hb : B ≤ b) : ∀ (l : List Value) (o : Nat) (W : World), Below B w W → Below B w (W.setCells b o l)
  | [], _, _, h => h
  | u :: r, o, W, h => below_setCells b hb r (o + 1) _ (h.setCell hb _)
theorem below_setInts {B : Nat} {w W : World} {b : Nat} (h : Below B w W) (hb : B ≤ b) (o : Nat) (l : List Int) : Below B w (setInts W b o l) := below_setCells b hb _ o W h

theorem setInts3 (w : World) (b : Nat) (x y z : Int) : setInts w b 0 [x, y, z] = ((w.setCell ⟨b, 0, none⟩ (.int .i64 x)).setCell ⟨b, 1, none⟩ (.int .i64 y)).setCell ⟨b, 2, none⟩ (.int .i64 z) := rfl
end Go.Proofs.Ytidbikjdigemnaa
/- Contracts: crossed numbers, joins and meets of the program. -/
namespace Go.Proofs.Ytidbikjdigemnaa
open Go.RowKit
set_option linter.unusedVariables false
set_option linter.unusedSimpArgs false
/-- Three numbers made normal. -/
def nrm3 (p x y z : Int) : Pt := (x % p * facL p [x, y, z] % p, y % p * facL p [x, y, z] % p, z % p * facL p [x, y, z] % p)
theorem normL3 (p x y z : Int) : normL p [x, y, z] = [(nrm3 p x y z).1, (nrm3 p x y z).2.1, (nrm3 p x y z).2.2] := rfl
/-- The raw cross product. -/
def crs (a b : Pt) : Pt := (a.2.1 * b.2.2 - a.2.2 * b.2.1, a.2.2 * b.1 - a.1 * b.2.2, a.1 * b.2.1 - a.2.1 * b.1)
def crsN (p : Int) (a b : Pt) : Pt := nrm3 p (crs a b).1 (crs a b).2.1 (crs a b).2.2
def In13 (a : Pt) : Prop := (0 ≤ a.1 ∧ a.1 ≤ 12) ∧ (0 ≤ a.2.1 ∧ a.2.1 ≤ 12) ∧ (0 ≤ a.2.2 ∧ a.2.2 ≤ 12)
/-- Whether a point is on a line. -/
def onB (p : Int) (a l : Pt) : Bool := (a.1 * l.1 + a.2.1 * l.2.1 + a.2.2 * l.2.2) % p == 0
theorem dot_any (p a0 a1 a2 b0 b1 b2 : Int) (w : World) (hp : prB p = true) (ha : In13 (a0, a1, a2)) (hb : In13 (b0, b1, b2)) :
    Calls Try.prog 61 #[.int .i64 p, ptV a0 a1 a2, ptV b0 b1 b2] w (Ret w (.int .i64 ((a0 * b0 + a1 * b1 + a2 * b2) % p))) := by
  obtain ⟨⟨p0, p1⟩, ⟨p2, p3⟩, ⟨p4, p5⟩⟩ := ha
  obtain ⟨⟨q0, q1⟩, ⟨q2, q3⟩, ⟨q4, q5⟩⟩ := hb
  simp only at p0 p1 p2 p3 p4 p5 q0 q1 q2 q3 q4 q5
  obtain ⟨m1, n1⟩ := mul_bd p0 p1 q0 q1
  obtain ⟨m2, n2⟩ := mul_bd p2 p3 q2 q3
  obtain ⟨m3, n3⟩ := mul_bd p4 p5 q4 q5
  obtain ⟨h1, h2⟩ := prB_bd hp
  clear hp
  go_enter Try.func61, Try.ntmps61
  go_wp2_with (go_at_call 70; refine (mod_any _ _ _ (by omega) (by omega) (by omega) (by omega)).mono ?_; rintro e w' ⟨rfl, rfl⟩)
  go_ret
  exact ⟨rfl, (by repeat (first | exact Below.refl _ _ | refine bset ?_ _ _ (by omega) _ | refine bal ?_ _ | refine bdrN ?_ _ | refine bdr ?_))⟩
theorem isOn_any (p a0 a1 a2 b0 b1 b2 : Int) (w : World) (hp : prB p = true) (ha : In13 (a0, a1, a2)) (hb : In13 (b0, b1, b2)) :
    Calls Try.prog 50 #[.int .i64 p, ptV a0 a1 a2, ptV b0 b1 b2] w (Ret w (.bool (onB p (a0, a1, a2) (b0, b1, b2)))) := by
  have HC := Lib.hid (fun (W : World) => dot_any p a0 a1 a2 b0 b1 b2 W hp ha hb)
  have HE : Hid (onB p (a0, a1, a2) (b0, b1, b2) = ((a0 * b0 + a1 * b1 + a2 * b2) % p == 0)) := Lib.hid rfl
  generalize (a0 * b0 + a1 * b1 + a2 * b2) % p = d at *
  clear hp ha hb
  go_enter Try.func50, Try.ntmps50
  go_wp2_with (go_at_call 61; refine (HC.out _).mono ?_; rintro e w_ ⟨rfl, hb⟩; obtain ⟨hcb, hfb, hlb⟩ := bcell hb; have hsz := hb.size; try simp at hsz; have HB := Lib.hid hb; clear hb; try (have hl0 : w.heap.size < w_.heap.size := by omega); try (have hl1 : w.heap.size + 1 < w_.heap.size := by omega))
  go_ret
  exact ⟨ret_bool HE.out.symm, (by repeat (first | exact Below.refl _ _ | refine bset ?_ _ _ (by omega) _ | refine bal ?_ _ | refine bdrN ?_ _ | refine bdr ?_ | refine below_tr' ?_ HB.out))⟩
end Go.Proofs.Ytidbikjdigemnaa
/- Contracts: the reference's normal lists and crossed numbers. -/
namespace Go.Proofs.Ytidbikjdigemnaa
open Go.RowKit
set_option linter.unusedVariables false
set_option linter.unusedSimpArgs false
theorem own_base' {w : World} {base : Nat} {e : TypeId} {size n : Nat} {v : Value} {xs : List Value} (h : w.ownsRow base e size v n xs) (k : Nat) (hk : v.ownBlock = some k) : base ≤ k := by
  rcases h.2 with ⟨rfl, _⟩ | ⟨g, cap, cur, rfl, hb, _⟩
  · simp [Value.ownBlock] at hk
  · have : g = k := by simpa [Value.ownBlock] using hk
    omega
theorem ret_tb {v v' : Value} {a b : Bool} (hv : v = v') (h : a = b) : Ending.returned (.tuple #[v, .bool a]) = .returned (.tuple #[v', .bool b]) := by rw [hv, h]
def ints (l : List Int) : List Value := l.map (Value.int .i64)
theorem ints_snoc (l : List Int) (x : Int) : ints (l ++ [x]) = ints l ++ [.int .i64 x] := by simp [ints]
theorem new1 (wr : World) (x : Value) (T : TypeId) : ∀ (j : Nat) (u : Value), [x][j]? = some u → (wr.alloc (.cells #[x] T)).cell? ((⟨wr.heap.size, 0, none⟩ : Addr).add j) = some u := by
  intro j u hj
  cases j with
  | zero =>
    have e : x = u := by simpa using hj
    subst e
    exact World.cell?_alloc_at _ _ _ _ rfl
  | succ j => simp at hj
theorem one1 (k : IntKind) (x : Int) : ∀ u ∈ [Value.int k x], u.oneCell' = true := by
  intro u hu
  have e : u = .int k x := by simpa using hu
  subst e; rfl
/-- A new list of numbers, and whether it is other than 0. -/
structure NormPost (w : World) (p : Int) (l : List Int) (n : Nat) (e : Ending) (w' : World) : Prop where
  out : ∃ v, e = .returned (.tuple #[v, .bool (nzB p l)]) ∧ w'.ownsRow w.heap.size 2 1 v n (ints (normL p l)) ∧ Below w.heap.size w w'
theorem info64 : (Try.prog.info? 2).map (fun i => (i.zero, i.size, i.bytes)) = some (some (.int .i64 0), 1, 8) := by kernel_rfl
/-- A new list of three, laid open. -/
theorem own3 {W : World} {base : Nat} {T : TypeId} {v : Value} {x y z : Int} (h : W.ownsRow base T 1 v 3 (ints [x, y, z])) :
    ∃ g cap, v = .slice (some ⟨g, 0, none⟩) 3 cap ∧ base ≤ g ∧ g < W.heap.size ∧ W.cell? ⟨g, 0, none⟩ = some (.int .i64 x) ∧ W.cell? ⟨g, 1, none⟩ = some (.int .i64 y) ∧ W.cell? ⟨g, 2, none⟩ = some (.int .i64 z) := by
  rcases h.2 with ⟨_, h0⟩ | ⟨g, cap, cur, rfl, hb, hg, hle, _, hsz, htk⟩
  · cases h0
  · have hat : ∀ j, j < 3 → cur[j]? = (ints [x, y, z])[j]? := by
      intro j hj
      rw [← htk, List.getElem?_take_of_lt (by omega)]; simp
    refine ⟨g, cap, rfl, hb, (Array.getElem?_eq_some_iff.1 hg).1, ?_, ?_, ?_⟩
    · rw [cell_of_row W g 0 _ _ _ hg, hat 0 (by omega)]; rfl
    · rw [cell_of_row W g 1 _ _ _ hg, hat 1 (by omega)]; rfl
    · rw [cell_of_row W g 2 _ _ _ hg, hat 2 (by omega)]; rfl
structure Norm3Post (w : World) (p x y z : Int) (e : Ending) (w' : World) : Prop where
  out : ∃ g cap, e = .returned (.tuple #[.slice (some ⟨g, 0, none⟩) 3 cap, .bool (nzB p [x, y, z])]) ∧ w.heap.size ≤ g ∧ g < w'.heap.size ∧
    w'.cell? ⟨g, 0, none⟩ = some (.int .i64 (nrm3 p x y z).1) ∧ w'.cell? ⟨g, 1, none⟩ = some (.int .i64 (nrm3 p x y z).2.1) ∧ w'.cell? ⟨g, 2, none⟩ = some (.int .i64 (nrm3 p x y z).2.2) ∧ Below w.heap.size w w'
/-- What three stored numbers read as. -/
theorem rd3 {W : World} {b : Nat} {a0 a1 a2 : Value} (x y z : Value) (d0 : W.cell? ⟨b, 0, none⟩ = some a0) (d1 : W.cell? ⟨b, 1, none⟩ = some a1) (d2 : W.cell? ⟨b, 2, none⟩ = some a2) :
    (W.setCell ⟨b, 0, none⟩ x).cell? ⟨b, 0, none⟩ = some x ∧ ((W.setCell ⟨b, 0, none⟩ x).setCell ⟨b, 1, none⟩ y).cell? ⟨b, 1, none⟩ = some y ∧ (((W.setCell ⟨b, 0, none⟩ x).setCell ⟨b, 1, none⟩ y).setCell ⟨b, 2, none⟩ z).cell? ⟨b, 2, none⟩ = some z := by
  refine ⟨World.cell?_setCell_same _ _ _ d0, World.cell?_setCell_same (u := a1) _ _ _ ?_, World.cell?_setCell_same (u := a2) _ _ _ ?_⟩
  · rw [World.cell?_setCell_other _ _ _ _ (by simp)]; exact d1
  · rw [World.cell?_setCell_other _ _ _ _ (by simp), World.cell?_setCell_other _ _ _ _ (by simp)]; exact d2
/-- The point of three numbers, and whether there is one. -/
def made (p x y z : Int) : Pt × Bool := if nzB p [x, y, z] then (nrm3 p x y z, true) else ((0, 0, 0), false)
end Go.Proofs.Ytidbikjdigemnaa
