/- Texts of the claim, in build order: Base, Open, Plain, W1, W2, OpS, Region, RegG, RegU, RegV, RegW, RegX, RegI. No condition. -/
import Derived.Test.YtaocnklolgdkfaaGreatProg
import Derived.WalkKit
import Derived.ProofKit
import Derived.LoopN
import Derived.Lib.Hide
import Derived.Below
import Derived.Deep.QuietTactic
import Derived.BigQuiet
import Derived.Laws.IdiomArrays
import Derived.OpenShut
import Derived.ChangeOld
import Derived.SizedLaws
import Derived.IntWalk
import Derived.Deep.Slices
import Derived.ChangeSlices
import Derived.Carry
import Derived.Orders
import Derived.Laws.CopyOwn
import Derived.Laws.Rows
/- Words that all walks of this seat share: what a call leaves behind. -/
namespace Go.Proofs.YtaocnklolgdkfaaGreat
open Go.RowKit
set_option linter.unusedVariables false
set_option linter.unusedSimpArgs false

@[go_sem] theorem lt_deep2 (a b : Nat) (h : a < b) : a < b + 1 + 1 := by omega
@[go_sem] theorem lt_deep3 (a b : Nat) (h : a < b) : a < b + 1 + 1 + 1 := by omega
@[go_sem] theorem lt_deep4 (a b : Nat) (h : a < b) : a < b + 1 + 1 + 1 + 1 := by omega
@[go_sem] theorem lt_deep5 (a b : Nat) (h : a < b) : a < b + 1 + 1 + 1 + 1 + 1 := by omega
@[go_sem] theorem lt_deep6 (a b : Nat) (h : a < b) : a < b + 1 + 1 + 1 + 1 + 1 + 1 := by omega
@[go_sem] theorem lt_deep7 (a b : Nat) (h : a < b) : a < b + 1 + 1 + 1 + 1 + 1 + 1 + 1 := by omega
@[go_sem] theorem lt_deep8 (a b : Nat) (h : a < b) : a < b + 1 + 1 + 1 + 1 + 1 + 1 + 1 + 1 := by omega
/-- The call returns v; what was in memory is as it was. -/
def Ret (w : World) (v : Value) (e : Ending) (w' : World) : Prop := e = .returned v ∧ Below w.heap.size w w'

theorem below_al {B : Nat} {w W : World} (h : Below B w W) (hB : B ≤ W.heap.size) (o : Obj) : Below B w (W.alloc o) := h.alloc hB o
theorem below_dr {B : Nat} {w W : World} (h : Below B w W) : Below B w W.drew := ⟨h.os, h.tape, h.output, h.size, h.block⟩
theorem below_drN {B : Nat} {w W : World} (h : Below B w W) (n : Nat) : Below B w (W.drewN n) := ⟨h.os, h.tape, h.output, h.size, h.block⟩
theorem below_tr {B : Nat} {w w1 w2 : World} (h : Below B w w1) (hB : B ≤ w1.heap.size) (k : Below w1.heap.size w1 w2) : Below B w w2 :=
  h.trans ⟨k.os, k.tape, k.output, k.size, fun i hi => k.block i (Nat.lt_of_lt_of_le hi hB)⟩
theorem below_al_tr {w W W1 : World} {o : Obj} (h : Below w.heap.size w W) (k : Below (W.alloc o).heap.size (W.alloc o) W1) : Below w.heap.size w W1 :=
  below_tr (below_al h h.size o) (by have := h.size; simp; omega) k
theorem below_tr' {w W W1 : World} (h : Below w.heap.size w W) (k : Below W.heap.size W W1) : Below w.heap.size w W1 := below_tr h h.size k
theorem bal {w W : World} (h : Below w.heap.size w W) (o : Obj) : Below w.heap.size w (W.alloc o) := h.alloc h.size o
theorem bdr {w W : World} (h : Below w.heap.size w W) : Below w.heap.size w W.drew := below_dr h
theorem bdrN {w W : World} (h : Below w.heap.size w W) (n : Nat) : Below w.heap.size w (W.drewN n) := below_drN h n
theorem bset {w W : World} (h : Below w.heap.size w W) (b o : Nat) (hb : w.heap.size ≤ b) (v : Value) : Below w.heap.size w (W.setCell ⟨b, o, none⟩ v) := h.setCell hb v
theorem bcell {W w1 : World} (hb : Below W.heap.size W w1) : (∀ b o, b < W.heap.size → w1.cell? ⟨b, o, none⟩ = W.cell? ⟨b, o, none⟩) ∧ (∀ b o, b < W.heap.size → w1.frozen? ⟨b, o, none⟩ = W.frozen? ⟨b, o, none⟩) ∧ (∀ b, b < W.heap.size → b < w1.heap.size) :=
  ⟨fun b o h => hb.cell (p := ⟨b, o, none⟩) h, fun b o h => hb.frozen (p := ⟨b, o, none⟩) h, fun b h => Nat.lt_of_lt_of_le h hb.size⟩
end Go.Proofs.YtaocnklolgdkfaaGreat
/- Arrays of whole numbers as arguments: opened and shut. -/
namespace Go.Proofs.YtaocnklolgdkfaaGreat
open Go.ChangeShapes Go.WideShapes Go.ChangeAt Go.RowKit
set_option linter.unusedVariables false
section
variable {H : Type} {enc : TypeId × Value → H} {P : Program} {W : World} {b0 base : Nat} {spare : Nat → Bool} {held : Bool}
end
end Go.Proofs.YtaocnklolgdkfaaGreat
/- Plain words: primes, numbers, normal lists; no program in sight. -/
namespace Go.Proofs.YtaocnklolgdkfaaGreat
set_option linter.unusedVariables false
set_option linter.unusedSimpArgs false

def prB (p : Int) : Bool := p == 3 || p == 5 || p == 7 || p == 11 || p == 13
theorem prB_cases {p : Int} (h : prB p = true) : p = 3 ∨ p = 5 ∨ p = 7 ∨ p = 11 ∨ p = 13 := by
  simpa [prB, or_assoc] using h
theorem prB_bd {p : Int} (h : prB p = true) : 3 ≤ p ∧ p ≤ 13 := by
  have := prB_cases h; omega
/-- x is a number modulo p. -/
def numB (p x : Int) : Bool := decide (0 ≤ x) && decide (x ≤ p - 1)
theorem numB_iff {p x : Int} : numB p x = true ↔ 0 ≤ x ∧ x ≤ p - 1 := by simp [numB]
def numsB (p : Int) (l : List Int) : Bool := l.all (numB p)
def firstNZ (l : List Int) : Int := (l.find? (fun x => x != 0)).getD 0
def normB (p : Int) (l : List Int) : Bool := firstNZ l == 1 && numsB p l
def ptB (p x y z : Int) : Bool := prB p && normB p [x, y, z]

theorem numsB_snoc (p : Int) (l : List Int) (x : Int) : numsB p (l ++ [x]) = (numsB p l && numB p x) := by simp [numsB]
theorem take_snoc' {α : Type} (l : List α) (d : α) (k : Nat) (h : k < l.length) : l.take (k + 1) = l.take k ++ [l.getD k d] := by
  rw [List.take_succ_eq_append_getElem h]; simp [List.getD, h]
theorem numsB_false {p : Int} {l : List Int} {k : Nat} (hk : k < l.length) (h : numB p (l.getD k 0) = false) : numsB p l = false := by
  have : l.getD k 0 ∈ l := by simp [List.getD, hk]
  cases hh : numsB p l with
  | false => rfl
  | true =>
    have := List.all_eq_true.1 hh _ this
    rw [this] at h; cases h
theorem ret_bool {a b : Bool} (h : a = b) : Ending.returned (.bool a) = .returned (.bool b) := by rw [h]
theorem ret_int {a b : Int} (h : a = b) : Ending.returned (.int .i64 a) = .returned (.int .i64 b) := by rw [h]
theorem tmod_lo (n p : Int) (hp : 0 < p) : 0 < n.tmod p + p ∧ n.tmod p < p := by
  rcases Int.le_total 0 n with h | h
  · have h1 := Int.tmod_nonneg p h
    have h2 := Int.tmod_lt_of_pos n hp
    omega
  · have h1 : (-n).tmod p = -(n.tmod p) := Int.neg_tmod ..
    have h2 := Int.tmod_nonneg p (a := -n) (by omega)
    have h3 := Int.tmod_lt_of_pos (-n) hp
    omega
theorem mod_is' (n p : Int) (hp : 0 < p) : (n.tmod p + p) % p = n % p := by
  have e : n.tmod p = n - p * n.tdiv p := Int.tmod_def ..
  rw [Int.add_emod_right, e, Int.sub_mul_emod_self_left]
def zerosB (l : List Int) : Bool := l.all (fun x => x == 0)
theorem zerosB_snoc (l : List Int) (x : Int) : zerosB (l ++ [x]) = (zerosB l && (x == 0)) := by simp [zerosB]
theorem firstNZ_snoc (l : List Int) (x : Int) : firstNZ (l ++ [x]) = if firstNZ l = 0 then x else firstNZ l := by
  unfold firstNZ
  rw [List.find?_append]
  cases h : l.find? (fun x => x != 0) with
  | none =>
    by_cases hx : x = 0
    · simp [hx]
    · simp [hx]
  | some y =>
    have := List.find?_some h
    have hy : y ≠ 0 := by simpa using this
    simp [hy]
theorem firstNZ_zeros {l : List Int} (h : zerosB l = true) : firstNZ l = 0 := by
  unfold firstNZ
  have : l.find? (fun x => x != 0) = none := by
    rw [List.find?_eq_none]; intro x hx; have := List.all_eq_true.1 h x hx; simpa using this
  rw [this]; rfl
theorem firstNZ_append (l m : List Int) (h : firstNZ l ≠ 0) : firstNZ (l ++ m) = firstNZ l := by
  unfold firstNZ at *
  rw [List.find?_append]
  cases e : l.find? (fun x => x != 0) with
  | none => rw [e] at h; exact (h rfl).elim
  | some y => rfl
theorem firstNZ_at {l : List Int} {k : Nat} (h : zerosB (l.take k) = true) (hk : k < l.length) (hx : l.getD k 0 ≠ 0) : firstNZ l = l.getD k 0 := by
  have e : l = l.take (k + 1) ++ l.drop (k + 1) := (List.take_append_drop _ _).symm
  have e2 := take_snoc' l 0 k hk
  have e3 : firstNZ (l.take (k + 1)) = l.getD k 0 := by rw [e2, firstNZ_snoc, firstNZ_zeros h]; simp
  have e4 : firstNZ l = firstNZ (l.take (k + 1)) := by
    conv => lhs; rw [e]
    exact firstNZ_append _ _ (by rw [e3]; exact hx)
  rw [e4, e3]
/-- points: three numbers each. -/
abbrev Pt := Int × Int × Int
def ptsB (p : Int) (l : List Pt) : Bool := l.all (fun a => ptB p a.1 a.2.1 a.2.2)
def codeOf (p : Int) (ok : Bool) : Int := if prB p then (if ok then 0 else 1) else 2
theorem ptsB_snoc (p : Int) (l : List Pt) (x : Pt) : ptsB p (l ++ [x]) = (ptsB p l && ptB p x.1 x.2.1 x.2.2) := by simp [ptsB]
theorem ptsB_false {p : Int} {l : List Pt} {k : Nat} (hk : k < l.length) (h : ptB p (l.getD k (0,0,0)).1 (l.getD k (0,0,0)).2.1 (l.getD k (0,0,0)).2.2 = false) : ptsB p l = false := by
  have : l.getD k (0,0,0) ∈ l := by simp [List.getD, hk]
  cases hh : ptsB p l with
  | false => rfl
  | true =>
    have h2 := List.all_eq_true.1 hh _ this
    exact absurd (h2.symm.trans h) (by decide)
theorem mul_bd {a b A B : Int} (h0 : 0 ≤ a) (h1 : a ≤ A) (g0 : 0 ≤ b) (g1 : b ≤ B) : 0 ≤ a * b ∧ a * b ≤ A * B :=
  ⟨Int.mul_nonneg h0 g0, Int.mul_le_mul h1 g1 g0 (Int.le_trans h0 h1)⟩
/-- The inverse modulo p: the least number from 1 on; 0 if there is none. -/
def invP (p n : Int) : Int := (([1,2,3,4,5,6,7,8,9,10,11,12] : List Int).find? (fun k => decide (k < p) && (n * k % p == 1))).getD 0
theorem invP_spec {p n : Int} (hp : prB p = true) (h0 : 0 < n) (h1 : n < p) :
    1 ≤ invP p n ∧ invP p n < p ∧ n * invP p n % p = 1 ∧ ∀ k : Int, 1 ≤ k → k < invP p n → n * k % p ≠ 1 := by
  have key : ∀ k ∈ ([1,2,3,4,5,6,7,8,9,10,11,12] : List Int), True := by intros; trivial
  suffices h : 1 ≤ invP p n ∧ invP p n < p ∧ n * invP p n % p = 1 ∧ ∀ k ∈ ([1,2,3,4,5,6,7,8,9,10,11,12] : List Int), k < invP p n → n * k % p ≠ 1 by
    obtain ⟨a, b, c, d⟩ := h
    refine ⟨a, b, c, fun k hk1 hk2 => d k ?_ hk2⟩
    have := prB_bd hp
    have hk : k = 1 ∨ k = 2 ∨ k = 3 ∨ k = 4 ∨ k = 5 ∨ k = 6 ∨ k = 7 ∨ k = 8 ∨ k = 9 ∨ k = 10 ∨ k = 11 ∨ k = 12 := by omega
    simpa using hk
  have hn : n = 1 ∨ n = 2 ∨ n = 3 ∨ n = 4 ∨ n = 5 ∨ n = 6 ∨ n = 7 ∨ n = 8 ∨ n = 9 ∨ n = 10 ∨ n = 11 ∨ n = 12 := by have := prB_bd hp; omega
  rcases prB_cases hp with rfl | rfl | rfl | rfl | rfl <;> rcases hn with rfl | rfl | rfl | rfl | rfl | rfl | rfl | rfl | rfl | rfl | rfl | rfl <;>
    first | omega | decide +kernel
theorem invP_zero (p : Int) (h : 0 < p) : invP p 0 = 0 := by
  unfold invP
  have : (([1,2,3,4,5,6,7,8,9,10,11,12] : List Int).find? (fun k => decide (k < p) && (0 * k % p == 1))) = none := by
    rw [List.find?_eq_none]; intro x _; simp
  rw [this]; rfl
theorem invP_bd {p n : Int} (hp : prB p = true) (h0 : 0 ≤ n) (h1 : n < p) : 0 ≤ invP p n ∧ invP p n ≤ 12 := by
  have := prB_bd hp
  by_cases h : n = 0
  · subst h; rw [invP_zero p (by omega)]; omega
  · have := invP_spec hp (by omega) h1; omega
/-- What a list's numbers are multiplied with, to make it normal. -/
def facL (p : Int) (l : List Int) : Int := invP p (firstNZ (l.map (· % p)))
def normL (p : Int) (l : List Int) : List Int := l.map (fun x => (x % p) * facL p l % p)
def nzB (p : Int) (l : List Int) : Bool := !zerosB (l.map (· % p))
theorem firstNZ_mem (l : List Int) : firstNZ l = 0 ∨ firstNZ l ∈ l := by
  unfold firstNZ
  cases e : l.find? (fun x => x != 0) with
  | none => exact .inl rfl
  | some y => exact .inr (List.mem_of_find?_eq_some e)
theorem firstNZ_mod_bd (p : Int) (l : List Int) (hp : 0 < p) : 0 ≤ firstNZ (l.map (· % p)) ∧ firstNZ (l.map (· % p)) < p := by
  rcases firstNZ_mem (l.map (· % p)) with h | h
  · rw [h]; omega
  · obtain ⟨x, _, hx⟩ := List.mem_map.1 h
    rw [← hx]
    exact ⟨Int.emod_nonneg _ (by omega), Int.emod_lt_of_pos _ hp⟩
theorem firstNZ_eq_zero {l : List Int} : firstNZ l = 0 ↔ zerosB l = true := by
  constructor
  · intro h
    unfold firstNZ at h
    cases e : l.find? (fun x => x != 0) with
    | none => rw [List.find?_eq_none] at e; exact List.all_eq_true.2 (fun x hx => by simpa using e x hx)
    | some y => rw [e] at h; have := List.find?_some e; simp at h; rw [h] at this; exact absurd this (by decide)
  · exact firstNZ_zeros
theorem facL_bd {p : Int} (hp : prB p = true) (l : List Int) : 0 ≤ facL p l ∧ facL p l ≤ 12 := by
  have h := prB_bd hp
  have h2 := firstNZ_mod_bd p l (by omega)
  exact invP_bd hp h2.1 h2.2
theorem facL_zero {p : Int} (hp : prB p = true) (l : List Int) : (facL p l = 0) ↔ firstNZ (l.map (· % p)) = 0 := by
  have h := prB_bd hp
  have h2 := firstNZ_mod_bd p l (by omega)
  unfold facL
  constructor
  · intro e
    by_cases hz : firstNZ (l.map (· % p)) = 0
    · exact hz
    · have := invP_spec hp (by omega) h2.2; omega
  · intro e; rw [e]; exact invP_zero p (by omega)
theorem facL_snoc {p : Int} (hp : prB p = true) (l : List Int) (x : Int) : facL p (l ++ [x]) = if facL p l = 0 then invP p (x % p) else facL p l := by
  by_cases h : facL p l = 0
  · rw [if_pos h]; unfold facL; rw [List.map_append]; simp only [List.map_cons, List.map_nil]; rw [firstNZ_snoc, if_pos ((facL_zero hp l).1 h)]
  · rw [if_neg h]; unfold facL; rw [List.map_append]; simp only [List.map_cons, List.map_nil]; rw [firstNZ_snoc, if_neg (fun e => h ((facL_zero hp l).2 e))]
theorem facL_append {p : Int} (hp : prB p = true) (l m : List Int) (h : facL p l ≠ 0) : facL p (l ++ m) = facL p l := by
  unfold facL; rw [List.map_append, firstNZ_append _ _ (fun e => h ((facL_zero hp l).2 e))]
theorem normL_at {p : Int} (hp : prB p = true) (l : List Int) (k : Nat) (hk : k < l.length) :
    (normL p l).getD k 0 = (l.getD k 0 % p) * facL p (l.take (k + 1)) % p := by
  have e1 : (normL p l).getD k 0 = (l.getD k 0 % p) * facL p l % p := by simp [normL, List.getD, hk]
  rw [e1]
  by_cases h : facL p (l.take (k + 1)) = 0
  · have hz := (facL_zero hp _).1 h
    have hz2 := firstNZ_eq_zero.1 hz
    have : l.getD k 0 % p = 0 := by
      have hm : l.getD k 0 % p ∈ (l.take (k + 1)).map (· % p) := by
        rw [take_snoc' l 0 k hk]; simp
      have := List.all_eq_true.1 hz2 _ hm
      simpa using this
    rw [this]; simp
  · have e : l = l.take (k + 1) ++ l.drop (k + 1) := (List.take_append_drop _ _).symm
    have : facL p l = facL p (l.take (k + 1)) := by conv => lhs; rw [e]
                                                    exact facL_append hp _ _ h
    rw [this]
theorem normL_length (p : Int) (l : List Int) : (normL p l).length = l.length := by simp [normL]
theorem pt_facts {p x y z : Int} (h : ptB p x y z = true) : prB p = true ∧ (0 ≤ x ∧ x ≤ p - 1) ∧ (0 ≤ y ∧ y ≤ p - 1) ∧ (0 ≤ z ∧ z ≤ p - 1) ∧ ((x = 1) ∨ (x = 0 ∧ y = 1) ∨ (x = 0 ∧ y = 0 ∧ z = 1)) := by
  unfold ptB normB numsB at h
  simp only [Bool.and_eq_true, List.all_cons, List.all_nil, numB_iff, and_true] at h
  obtain ⟨hp, h1, hx, hy, hz⟩ := h
  refine ⟨hp, hx, hy, hz, ?_⟩
  have h2 : firstNZ [x, y, z] = 1 := by simpa using h1
  unfold firstNZ at h2
  by_cases ex : x = 0
  · by_cases ey : y = 0
    · by_cases ez : z = 0
      · simp [List.find?, ex, ey, ez] at h2
      · have : (z != 0) = true := by simpa using ez
        simp [List.find?, ex, ey, this] at h2; omega
    · have : (y != 0) = true := by simpa using ey
      simp [List.find?, ex, this] at h2; omega
  · have : (x != 0) = true := by simpa using ex
    simp [List.find?, this] at h2; omega
theorem beqf {a b : Int} (h : a ≠ b) : (a == b) = false := by simpa using h
theorem beqt {a b : Int} (h : a = b) : (a == b) = true := by simpa using h
theorem bnet {a b : Int} (h : a ≠ b) : (a != b) = true := by simpa using h
theorem bnef {a b : Int} (h : a = b) : (a != b) = false := by simpa using h
end Go.Proofs.YtaocnklolgdkfaaGreat
/- Contracts: primes, numbers, normal lists, points. -/
namespace Go.Proofs.YtaocnklolgdkfaaGreat
open Go.RowKit
set_option linter.unusedVariables false
set_option linter.unusedSimpArgs false

theorem isPrime_yes (p : Int) (w : World) (h : prB p = true) : Calls Tryz.prog 25 #[.int .i64 p] w fun e w' => e = .returned (.bool true) ∧ w = w' := by
  rcases prB_cases h with rfl | rfl | rfl | rfl | rfl
  all_goals
    go_enter Tryz.func25, Tryz.ntmps25
    go_wp2
    go_ret
    exact ⟨rfl, rfl⟩
theorem isPrime_no (p : Int) (w : World) (h : prB p = false) : Calls Tryz.prog 25 #[.int .i64 p] w fun e w' => e = .returned (.bool false) ∧ w = w' := by
  have h3 : (p == 3) = false := by revert h; unfold prB; cases (p == 3) <;> simp
  have h5 : (p == 5) = false := by revert h; unfold prB; cases (p == 5) <;> simp
  have h7 : (p == 7) = false := by revert h; unfold prB; cases (p == 7) <;> simp
  have h11 : (p == 11) = false := by revert h; unfold prB; cases (p == 11) <;> simp
  have h13 : (p == 13) = false := by revert h; unfold prB; cases (p == 13) <;> simp
  clear h
  go_enter Tryz.func25, Tryz.ntmps25
  go_wp2
  go_ret
  exact ⟨rfl, rfl⟩
theorem l01Prime_yes (p : Int) (w : World) (h : prB p = true) : Calls Tryz.prog 45 #[.int .i64 p] w fun e w' => e = .returned (.bool true) ∧ w = w' := by
  rcases prB_cases h with rfl | rfl | rfl | rfl | rfl
  all_goals
    go_enter Tryz.func45, Tryz.ntmps45
    go_wp2
    go_ret
    exact ⟨rfl, rfl⟩
theorem l01Prime_no (p : Int) (w : World) (h : prB p = false) : Calls Tryz.prog 45 #[.int .i64 p] w fun e w' => e = .returned (.bool false) ∧ w = w' := by
  have h3 : (p == 3) = false := by revert h; unfold prB; cases (p == 3) <;> simp
  have h5 : (p == 5) = false := by revert h; unfold prB; cases (p == 5) <;> simp
  have h7 : (p == 7) = false := by revert h; unfold prB; cases (p == 7) <;> simp
  have h11 : (p == 11) = false := by revert h; unfold prB; cases (p == 11) <;> simp
  have h13 : (p == 13) = false := by revert h; unfold prB; cases (p == 13) <;> simp
  clear h
  go_enter Tryz.func45, Tryz.ntmps45
  go_wp2
  go_ret
  exact ⟨rfl, rfl⟩
/-- (n % p + p) % p. -/
theorem mod_any (n p : Int) (w : World) (hp : 0 < p) (hp' : p ≤ 1000) (hn : -4611686018427387904 ≤ n) (hn' : n ≤ 4611686018427387904) :
    Calls Tryz.prog 49 #[.int .i64 n, .int .i64 p] w fun e w' => e = .returned (.int .i64 (n % p)) ∧ w = w' := by
  have hb := tmod_lo n p hp
  have e : IntKind.i64.wrap (n.tmod p + p) = n.tmod p + p := IntWalk.i64_in _ (by omega)
  go_enter Tryz.func49, Tryz.ntmps49
  go_wp2
  go_ret
  exact ⟨ret_int (mod_is' n p hp), rfl⟩
theorem within_yes (n a b : Int) (w : World) (h : a ≤ n) (h' : n ≤ b) : Calls Tryz.prog 43 #[.int .i64 n, .int .i64 a, .int .i64 b] w fun e w' => e = .returned (.bool true) ∧ w = w' := by
  go_enter Tryz.func43, Tryz.ntmps43
  go_wp2
  go_ret
  exact ⟨rfl, rfl⟩
theorem within_no (n a b : Int) (w : World) (h : n < a ∨ b < n) : Calls Tryz.prog 43 #[.int .i64 n, .int .i64 a, .int .i64 b] w fun e w' => e = .returned (.bool false) ∧ w = w' := by
  by_cases h1 : n < a
  · clear h
    go_enter Tryz.func43, Tryz.ntmps43
    go_wp2
    go_ret
    exact ⟨rfl, rfl⟩
  · have h2 : b < n := by omega
    have h3 : a ≤ n := by omega
    clear h h1
    go_enter Tryz.func43, Tryz.ntmps43
    go_wp2
    go_ret
    exact ⟨ret_bool (by simp; omega), rfl⟩
theorem areNumbers_any (p : Int) (b o n cap : Nat) (l : List Int) (w : World) (hp : 3 ≤ p) (hp' : p ≤ 13) (hl : l.length = n) (hn : n ≤ 4611686018427387904)
    (hc : ∀ i, i < n → w.cell? ⟨b, o + i, none⟩ = some (.int .i64 (l.getD i 0))) :
    Calls Tryz.prog 118 #[.int .i64 p, .slice (some ⟨b, o, none⟩) n cap] w fun e w' => e = .returned (.bool (numsB p l)) ∧ w = w' := by
  have HL := Lib.hid hl; clear hl
  have HC := Lib.hid hc; clear hc
  go_enter Tryz.func118, Tryz.ntmps118
  go_wp2
  go_loop [9] (fun i => ∃ k : Nat, k ≤ n ∧ i = .int .i64 k ∧ numsB p (l.take k) = true) (fun i => n - (intOf i).toNat)
  case atStart => exact ⟨0, Nat.zero_le _, rfl, rfl⟩
  case round =>
    obtain ⟨k, hk, rfl, hd⟩ := hrel
    have HD := Lib.hid hd; clear hd
    by_cases hlt : k < n
    · have hcell := HC.out k hlt
      have HS := Lib.hid (take_snoc' l 0 k (by have := HL.out; omega))
      generalize hx : l.getD k 0 = x at *
      have HX := Lib.hid hx; clear hx
      by_cases hr : 0 ≤ x ∧ x ≤ p - 1
      · obtain ⟨h0, h1⟩ := hr
        go_wp2_with (go_at_call 43; refine (within_yes _ _ _ _ h0 h1).mono ?_; rintro e w' ⟨rfl, rfl⟩)
        go_round
        case rel => exact ⟨k + 1, by omega, by go_num, by rw [HS.out, numsB_snoc, HD.out]; simp [numB, h0, h1]⟩
        case measure => simp [intOf]; omega
      · have hr' : x < 0 ∨ p - 1 < x := by omega
        go_wp2_with (go_at_call 43; refine (within_no _ _ _ _ hr').mono ?_; rintro e w' ⟨rfl, rfl⟩)
        go_ret
        exact ⟨ret_bool (numsB_false (k := k) (by have := HL.out; omega) (by rw [HX.out]; unfold numB; simp; omega)).symm, rfl⟩
    · go_wp2
      go_ret
      refine ⟨ret_bool ?_, rfl⟩
      have := HD.out
      rw [List.take_of_length_le (by have := HL.out; omega)] at this
      exact this.symm

theorem isNormal_any (p : Int) (b o n cap : Nat) (l : List Int) (w : World) (hp : 3 ≤ p) (hp' : p ≤ 13) (hl : l.length = n) (hn : n ≤ 4611686018427387904)
    (hc : ∀ i, i < n → w.cell? ⟨b, o + i, none⟩ = some (.int .i64 (l.getD i 0))) :
    Calls Tryz.prog 99 #[.int .i64 p, .slice (some ⟨b, o, none⟩) n cap] w fun e w' => e = .returned (.bool (normB p l)) ∧ w = w' := by
  have HL := Lib.hid hl; clear hl
  have HC := Lib.hid hc; clear hc
  go_enter Tryz.func99, Tryz.ntmps99
  go_wp2
  go_loop [9] (fun i => ∃ k : Nat, k ≤ n ∧ i = .int .i64 k ∧ zerosB (l.take k) = true) (fun i => n - (intOf i).toNat)
  case atStart => exact ⟨0, Nat.zero_le _, rfl, rfl⟩
  case round =>
    obtain ⟨k, hk, rfl, hd⟩ := hrel
    have HD := Lib.hid hd; clear hd
    by_cases hlt : k < n
    · have hcell := HC.out k hlt
      have HS := Lib.hid (take_snoc' l 0 k (by have := HL.out; omega))
      have HF := Lib.hid (fun h => firstNZ_at HD.out (by have := HL.out; omega) (h : l.getD k 0 ≠ 0))
      generalize l.getD k 0 = x at *
      by_cases hr : x = 0
      · have hx : (x != 0) = false := by simp [hr]
        go_wp2
        go_round
        case rel => exact ⟨k + 1, by omega, by go_num, by rw [HS.out, zerosB_snoc, HD.out]; simp [hr]⟩
        case measure => simp [intOf]; omega
      · have hx : (x != 0) = true := by simp [hr]
        by_cases h1 : x = 1
        · have hx1 : (x == 1) = true := by simp [h1]
          have HF1 := Lib.hid (show firstNZ l = 1 by rw [HF.out hr, h1])
          clear HF h1 hr
          go_wp2_with (go_at_call 118; refine (areNumbers_any p b o n cap l _ hp hp' HL.out hn HC.out).mono ?_; rintro e w' ⟨rfl, rfl⟩)
          go_ret
          exact ⟨ret_bool (by unfold normB; rw [HF1.out]; rfl), rfl⟩
        · have hx1 : (x == 1) = false := by simp [h1]
          have HF1 := Lib.hid (show (firstNZ l == 1) = false by rw [HF.out hr]; exact hx1)
          clear HF h1 hr
          go_wp2
          go_ret
          exact ⟨ret_bool (by unfold normB; rw [HF1.out]; rfl), rfl⟩
    · go_wp2
      go_ret
      refine ⟨ret_bool ?_, rfl⟩
      have h := HD.out
      rw [List.take_of_length_le (by have := HL.out; omega)] at h
      unfold normB; rw [firstNZ_zeros h]; rfl

theorem l01In_yes (n a b : Int) (w : World) (h : a ≤ n) (h' : n ≤ b) : Calls Tryz.prog 46 #[.int .i64 n, .int .i64 a, .int .i64 b] w fun e w' => e = .returned (.bool true) ∧ w = w' := by
  go_enter Tryz.func46, Tryz.ntmps46
  go_wp2
  go_ret
  exact ⟨rfl, rfl⟩
theorem l01In_no (n a b : Int) (w : World) (h : n < a ∨ b < n) : Calls Tryz.prog 46 #[.int .i64 n, .int .i64 a, .int .i64 b] w fun e w' => e = .returned (.bool false) ∧ w = w' := by
  by_cases h1 : n < a
  · clear h
    go_enter Tryz.func46, Tryz.ntmps46
    go_wp2
    go_ret
    exact ⟨rfl, rfl⟩
  · have h2 : b < n := by omega
    have h3 : a ≤ n := by omega
    clear h h1
    go_enter Tryz.func46, Tryz.ntmps46
    go_wp2
    go_ret
    exact ⟨ret_bool (by simp; omega), rfl⟩
theorem l01Normal_any (p : Int) (b o n cap : Nat) (l : List Int) (w : World) (hp : 3 ≤ p) (hp' : p ≤ 13) (hl : l.length = n) (hn : n ≤ 4611686018427387904)
    (hc : ∀ i, i < n → w.cell? ⟨b, o + i, none⟩ = some (.int .i64 (l.getD i 0))) :
    Calls Tryz.prog 93 #[.int .i64 p, .slice (some ⟨b, o, none⟩) n cap] w fun e w' => e = .returned (.bool (normB p l)) ∧ w = w' := by
  have HL := Lib.hid hl; clear hl
  have HC := Lib.hid hc; clear hc
  go_enter Tryz.func93, Tryz.ntmps93
  go_wp2
  go_loop [5, 6] (fun f i => ∃ k : Nat, k ≤ n ∧ i = .int .i64 k ∧ f = .int .i64 (firstNZ (l.take k)) ∧ numsB p (l.take k) = true) (fun _ i => n - (intOf i).toNat)
  case atStart => exact ⟨0, Nat.zero_le _, rfl, rfl, rfl⟩
  case round =>
    obtain ⟨k, hk, rfl, rfl, hd⟩ := hrel
    have HD := Lib.hid hd; clear hd
    by_cases hlt : k < n
    · have hcell := HC.out k hlt
      have HS := Lib.hid (take_snoc' l 0 k (by have := HL.out; omega))
      have HF := Lib.hid (fun h => numsB_false (p := p) (k := k) (by have := HL.out; omega) (h : numB p (l.getD k 0) = false))
      have HN := Lib.hid (firstNZ_snoc (l.take k) (l.getD k 0))
      generalize l.getD k 0 = x at *
      have HFn : Hid (firstNZ (l.take (k + 1)) = if firstNZ (l.take k) = 0 then x else firstNZ (l.take k)) := Lib.hid (by rw [HS.out]; exact HN.out)
      clear HN
      have HT : Hid (numsB p (l.take (k + 1)) = (numsB p (l.take k) && numB p x)) := Lib.hid (by rw [HS.out]; exact numsB_snoc _ _ _)
      clear HS
      generalize firstNZ (l.take k) = f at *
      by_cases hr : 0 ≤ x ∧ x ≤ p - 1
      · obtain ⟨h0, h1⟩ := hr
        by_cases hf : f = 0
        · have hf' : (f == 0) = true := by simp [hf]
          go_wp2_with (go_at_call 46; refine (l01In_yes _ _ _ _ h0 h1).mono ?_; rintro e w' ⟨rfl, rfl⟩)
          go_round
          case rel => exact ⟨k + 1, by omega, by go_num, by rw [HFn.out, if_pos hf], by rw [HT.out, HD.out]; simp [numB, h0, h1]⟩
          case measure => simp [intOf]; omega
        · have hf' : (f == 0) = false := by simp [hf]
          go_wp2_with (go_at_call 46; refine (l01In_yes _ _ _ _ h0 h1).mono ?_; rintro e w' ⟨rfl, rfl⟩)
          go_round
          case rel => exact ⟨k + 1, by omega, by go_num, by rw [HFn.out, if_neg hf], by rw [HT.out, HD.out]; simp [numB, h0, h1]⟩
          case measure => simp [intOf]; omega
      · have hr' : x < 0 ∨ p - 1 < x := by omega
        go_wp2_with (go_at_call 46; refine (l01In_no _ _ _ _ hr').mono ?_; rintro e w' ⟨rfl, rfl⟩)
        go_ret
        exact ⟨ret_bool (by unfold normB; rw [HF.out (by unfold numB; simp; omega)]; simp), rfl⟩
    · have HE : Hid (l.take k = l) := Lib.hid (List.take_of_length_le (by have := HL.out; omega))
      go_wp2
      go_ret
      refine ⟨ret_bool ?_, rfl⟩
      have h := HD.out
      rw [HE.out] at h
      unfold normB; rw [h, HE.out]; simp
end Go.Proofs.YtaocnklolgdkfaaGreat
/- Contracts: points and lists of points, the codes of their validity. -/
namespace Go.Proofs.YtaocnklolgdkfaaGreat
open Go.RowKit
set_option linter.unusedVariables false
set_option linter.unusedSimpArgs false

abbrev ptV (x y z : Int) : Value := .agg #[.int .i64 x, .int .i64 y, .int .i64 z]

theorem new3 (w : World) (g : Nat) (x y z : Int) (T : TypeId) (hg : g = w.heap.size) : ∀ i, i < 3 → (w.alloc (.cells #[.int .i64 x, .int .i64 y, .int .i64 z] T)).cell? ⟨g, 0 + i, none⟩ = some (.int .i64 ([x, y, z].getD i 0)) := by
  intro i hi
  rw [World.cell?_alloc_at _ _ _ _ hg]
  match i, hi with
  | 0, _ => rfl
  | 1, _ => rfl
  | 2, _ => rfl

/-- The points of a slice. -/
def PtsAt (w : World) (b o n : Nat) (l : List Pt) : Prop := ∀ i, i < n →
  w.cell? ⟨b, o + i * 3, none⟩ = some (.int .i64 (l.getD i (0,0,0)).1) ∧ w.cell? ⟨b, o + i * 3 + 1, none⟩ = some (.int .i64 (l.getD i (0,0,0)).2.1) ∧ w.cell? ⟨b, o + i * 3 + 2, none⟩ = some (.int .i64 (l.getD i (0,0,0)).2.2)
theorem cell_below {w w1 : World} (h : Below w.heap.size w w1) {a : Addr} {v : Value} (hc : w.cell? a = some v) : w1.cell? a = some v := (h.cell (World.block_lt_of_cell? w a hc)).trans hc
theorem PtsAt.below {w w1 : World} {b o n : Nat} {l : List Pt} (h : PtsAt w b o n l) (hb : Below w.heap.size w w1) : PtsAt w1 b o n l :=
  fun i hi => ⟨cell_below hb (h i hi).1, cell_below hb (h i hi).2.1, cell_below hb (h i hi).2.2⟩
/-- A line's numbers are asked as a point's. -/
theorem IsLine_any (p x y z : Int) (w : World) :
    Calls Tryz.prog 90 #[.int .i64 p, ptV x y z] w (Ret w (.bool (ptB p x y z))) := by
  cases hp : prB p with
  | true =>
    obtain ⟨h1, h2⟩ := prB_bd hp
    have HP := Lib.hid hp; clear hp
    go_enter Tryz.func90, Tryz.ntmps90
    go_wp2_with (first
      | (go_at_call 25; refine (isPrime_yes _ _ HP.out).mono ?_; rintro e w' ⟨rfl, rfl⟩)
      | (go_at_call 99; refine (isNormal_any p _ 0 3 3 [x, y, z] _ h1 h2 rfl (by omega) (new3 _ _ _ _ _ _ (by simp))).mono ?_; rintro e w' ⟨rfl, rfl⟩))
    go_ret
    exact ⟨ret_bool (by unfold ptB; rw [HP.out]; rfl), (Below.refl _ _).alloc (Nat.le_refl _) _⟩
  | false =>
    have HP := Lib.hid hp; clear hp
    go_enter Tryz.func90, Tryz.ntmps90
    go_wp2_with (go_at_call 25; refine (isPrime_no _ _ HP.out).mono ?_; rintro e w' ⟨rfl, rfl⟩)
    go_ret
    exact ⟨ret_bool (by unfold ptB; rw [HP.out]; rfl), (Below.refl _ _).alloc (Nat.le_refl _) _⟩
theorem areLines_any (p : Int) (b o n cap : Nat) (l : List Pt) (w : World) (hl : l.length = n) (hn : n ≤ 4611686018427387904) (hc : PtsAt w b o n l) :
    Calls Tryz.prog 67 #[.int .i64 p, .slice (some ⟨b, o, none⟩) n cap] w (Ret w (.bool (ptsB p l))) := by
  have HL := Lib.hid hl; clear hl
  have HC := Lib.hid hc; clear hc
  go_enter Tryz.func67, Tryz.ntmps67
  go_wp2
  go_loopw [9] (fun i wr => ∃ k : Nat, k ≤ n ∧ i = .int .i64 k ∧ ptsB p (l.take k) = true ∧ Below w.heap.size w wr) (fun i wr => n - (intOf i).toNat)
  case atStart => exact ⟨0, Nat.zero_le _, rfl, rfl, Below.refl _ _⟩
  case round =>
    obtain ⟨k, hk, rfl, hd, hbl⟩ := hrel
    have HD := Lib.hid hd; clear hd
    by_cases hlt : k < n
    · obtain ⟨c0, c1, c2⟩ := HC.out.below hbl k hlt
      have HS := Lib.hid (take_snoc' l (0,0,0) k (by have := HL.out; omega))
      have HF := Lib.hid (fun h => ptsB_false (p := p) (l := l) (k := k) (by have := HL.out; omega) h)
      have HB := Lib.hid hbl; clear hbl
      generalize l.getD k (0,0,0) = a at *
      obtain ⟨x, y, z⟩ := a
      simp only at c0 c1 c2
      cases hv : ptB p x y z with
      | true =>
        have HV := Lib.hid hv; clear hv
        go_wp2_with (go_at_call 90; refine (IsLine_any _ _ _ _ _).mono ?_; rintro e w' ⟨rfl, hb2⟩; rw [HV.out]; have HB2 := Lib.hid hb2; clear hb2)
        go_roundw
        case rel => exact ⟨k + 1, by omega, by go_num, by rw [HS.out, ptsB_snoc, HD.out]; exact HV.out, below_al_tr HB.out HB2.out⟩
        case measure => simp [intOf]; omega
      | false =>
        have HV := Lib.hid hv; clear hv
        go_wp2_with (go_at_call 90; refine (IsLine_any _ _ _ _ _).mono ?_; rintro e w' ⟨rfl, hb2⟩; rw [HV.out]; have HB2 := Lib.hid hb2; clear hb2)
        go_ret
        exact ⟨ret_bool (HF.out HV.out).symm, below_al_tr HB.out HB2.out⟩
    · have HB := Lib.hid hbl; clear hbl
      go_wp2
      go_ret
      refine ⟨ret_bool ?_, HB.out⟩
      have h := HD.out
      rw [List.take_of_length_le (by have := HL.out; omega)] at h
      exact h.symm
theorem codeOf_no {p : Int} (b : Bool) (h : prB p = false) : codeOf p b = 2 := by unfold codeOf; rw [h]; rfl
theorem codeOf_t {p : Int} (h : prB p = true) : codeOf p true = 0 := by unfold codeOf; rw [h]; rfl
theorem codeOf_f {p : Int} (h : prB p = true) : codeOf p false = 1 := by unfold codeOf; rw [h]; rfl
theorem planeCode_no (p : Int) (f : Value) (w : World) (hp : prB p = false) :
    Calls Tryz.prog 65 #[.int .i64 p, f] w fun e w' => e = .returned (.int .i64 2) ∧ w = w' := by
  have HP := Lib.hid hp; clear hp
  go_enter Tryz.func65, Tryz.ntmps65
  go_wp2_with (go_at_call 25; refine (isPrime_no _ _ HP.out).mono ?_; rintro e w' ⟨rfl, rfl⟩)
  go_ret
  exact ⟨rfl, rfl⟩
theorem PtsAt.alloc {w : World} {b o n : Nat} {l : List Pt} (h : PtsAt w b o n l) (ob : Obj) : PtsAt (w.alloc ob) b o n l := h.below ((Below.refl _ _).alloc (Nat.le_refl _) _)
theorem linesCode_any (p : Int) (b o n cap : Nat) (l : List Pt) (w : World) (hl : l.length = n) (hn : n ≤ 4611686018427387904) (hc : PtsAt w b o n l) :
    Calls Tryz.prog 36 #[.int .i64 p, .slice (some ⟨b, o, none⟩) n cap] w (Ret w (.int .i64 (codeOf p (ptsB p l)))) := by
  have HL := Lib.hid hl; clear hl
  have HC := Lib.hid hc; clear hc
  cases hp : prB p with
  | false =>
    have HP := Lib.hid hp; clear hp
    go_enter Tryz.func36, Tryz.ntmps36
    go_wp2_with (go_at_call 65; refine (planeCode_no _ _ _ HP.out).mono ?_; rintro e w' ⟨rfl, rfl⟩)
    go_ret
    exact ⟨ret_int (codeOf_no _ HP.out).symm, by repeat (first | exact Below.refl _ _ | refine bal ?_ _)⟩
  | true =>
    have HP := Lib.hid hp; clear hp
    cases hv : ptsB p l with
    | true =>
      have HV := Lib.hid hv; clear hv
      go_enter Tryz.func36, Tryz.ntmps36
      go_wp2_with (first
        | (go_at_call 25; refine (isPrime_yes _ _ HP.out).mono ?_; rintro e w' ⟨rfl, rfl⟩)
        | (go_at_call 65; go_in)
        | (go_at_call 66; go_in)
        | (go_at_call 67; refine (areLines_any _ _ _ _ _ l _ HL.out hn ((HC.out.alloc _).alloc _)).mono ?_ ; rintro e w' ⟨rfl, hb2⟩; rw [HV.out]; have HB2 := Lib.hid hb2; clear hb2))
      go_ret
      exact ⟨ret_int (codeOf_t HP.out).symm, below_tr' (by repeat (first | exact Below.refl _ _ | refine bal ?_ _)) HB2.out⟩
    | false =>
      have HV := Lib.hid hv; clear hv
      go_enter Tryz.func36, Tryz.ntmps36
      go_wp2_with (first
        | (go_at_call 25; refine (isPrime_yes _ _ HP.out).mono ?_; rintro e w' ⟨rfl, rfl⟩)
        | (go_at_call 65; go_in)
        | (go_at_call 66; go_in)
        | (go_at_call 67; refine (areLines_any _ _ _ _ _ l _ HL.out hn ((HC.out.alloc _).alloc _)).mono ?_ ; rintro e w' ⟨rfl, hb2⟩; rw [HV.out]; have HB2 := Lib.hid hb2; clear hb2))
      go_ret
      exact ⟨ret_int (codeOf_f HP.out).symm, below_tr' (by repeat (first | exact Below.refl _ _ | refine bal ?_ _)) HB2.out⟩

/-! ### the reference -/
theorem l01List_any (x y z : Int) (w : World) :
    Calls Tryz.prog 94 #[ptV x y z] w fun e w' => e = .returned (.slice (some ⟨w.heap.size + 1, 0, none⟩) 3 3) ∧ (w.alloc (.cells #[.int .i64 x, .int .i64 y, .int .i64 z] 56)).alloc (.cells #[.int .i64 x, .int .i64 y, .int .i64 z] 2) = w' := by
  go_enter Tryz.func94, Tryz.ntmps94
  go_wp2
  go_ret
  exact ⟨rfl, rfl⟩
theorem l01Point_any (p x y z : Int) (w : World) :
    Calls Tryz.prog 69 #[.int .i64 p, ptV x y z] w (Ret w (.bool (ptB p x y z))) := by
  cases hp : prB p with
  | true =>
    obtain ⟨h1, h2⟩ := prB_bd hp
    have HP := Lib.hid hp; clear hp
    go_enter Tryz.func69, Tryz.ntmps69
    go_wp2_with (first
      | (go_at_call 45; refine (l01Prime_yes _ _ HP.out).mono ?_; rintro e w' ⟨rfl, rfl⟩)
      | (go_at_call 94; refine (l01List_any _ _ _ _).mono ?_; rintro e w' ⟨rfl, rfl⟩)
      | (go_at_call 93; refine (l01Normal_any p _ 0 3 3 [x, y, z] _ h1 h2 rfl (by omega) (new3 _ _ _ _ _ _ (by simp))).mono ?_; rintro e w' ⟨rfl, rfl⟩))
    go_ret
    exact ⟨ret_bool (by unfold ptB; rw [HP.out]; rfl), by repeat (first | exact Below.refl _ _ | refine bal ?_ _)⟩
  | false =>
    have HP := Lib.hid hp; clear hp
    go_enter Tryz.func69, Tryz.ntmps69
    go_wp2_with (go_at_call 45; refine (l01Prime_no _ _ HP.out).mono ?_; rintro e w' ⟨rfl, rfl⟩)
    go_ret
    exact ⟨ret_bool (by unfold ptB; rw [HP.out]; rfl), by repeat (first | exact Below.refl _ _ | refine bal ?_ _)⟩
theorem l01Code_any (p : Int) (b o n cap : Nat) (l : List Pt) (w : World) (hl : l.length = n) (hn : n ≤ 4611686018427387904) (hc : PtsAt w b o n l) :
    Calls Tryz.prog 40 #[.int .i64 p, .slice (some ⟨b, o, none⟩) n cap] w (Ret w (.int .i64 (codeOf p (ptsB p l)))) := by
  have HL := Lib.hid hl; clear hl
  have HC := Lib.hid hc; clear hc
  cases hp : prB p with
  | false =>
    have HP := Lib.hid hp; clear hp
    go_enter Tryz.func40, Tryz.ntmps40
    go_wp2_with (go_at_call 45; refine (l01Prime_no _ _ HP.out).mono ?_; rintro e w' ⟨rfl, rfl⟩)
    go_ret
    exact ⟨ret_int (codeOf_no _ HP.out).symm, Below.refl _ _⟩
  | true =>
    have HP := Lib.hid hp; clear hp
    go_enter Tryz.func40, Tryz.ntmps40
    go_wp2_with (go_at_call 45; refine (l01Prime_yes _ _ HP.out).mono ?_; rintro e w' ⟨rfl, rfl⟩)
    go_loopw [5] (fun i wr => ∃ k : Nat, k ≤ n ∧ i = .int .i64 k ∧ ptsB p (l.take k) = true ∧ Below w.heap.size w wr) (fun i wr => n - (intOf i).toNat)
    case atStart => exact ⟨0, Nat.zero_le _, rfl, rfl, Below.refl _ _⟩
    case round =>
      obtain ⟨k, hk, rfl, hd, hbl⟩ := hrel
      have HD := Lib.hid hd; clear hd
      by_cases hlt : k < n
      · obtain ⟨c0, c1, c2⟩ := HC.out.below hbl k hlt
        have HS := Lib.hid (take_snoc' l (0,0,0) k (by have := HL.out; omega))
        have HF := Lib.hid (fun h => ptsB_false (p := p) (l := l) (k := k) (by have := HL.out; omega) h)
        have HB := Lib.hid hbl; clear hbl
        generalize l.getD k (0,0,0) = a at *
        obtain ⟨x, y, z⟩ := a
        simp only at c0 c1 c2
        cases hv : ptB p x y z with
        | true =>
          have HV := Lib.hid hv; clear hv
          go_wp2_with (go_at_call 69; refine (l01Point_any _ _ _ _ _).mono ?_; rintro e w' ⟨rfl, hb2⟩; rw [HV.out]; have HB2 := Lib.hid hb2; clear hb2)
          go_roundw
          case rel => exact ⟨k + 1, by omega, by go_num, by rw [HS.out, ptsB_snoc, HD.out]; exact HV.out, below_tr' HB.out HB2.out⟩
          case measure => simp [intOf]; omega
        | false =>
          have HV := Lib.hid hv; clear hv
          go_wp2_with (go_at_call 69; refine (l01Point_any _ _ _ _ _).mono ?_; rintro e w' ⟨rfl, hb2⟩; rw [HV.out]; have HB2 := Lib.hid hb2; clear hb2)
          go_ret
          exact ⟨ret_int (by rw [HF.out HV.out, codeOf_f HP.out]), below_tr' HB.out HB2.out⟩
      · have HB := Lib.hid hbl; clear hbl
        go_wp2
        go_ret
        refine ⟨ret_int ?_, HB.out⟩
        have h := HD.out
        rw [List.take_of_length_le (by have := HL.out; omega)] at h
        rw [h, codeOf_t HP.out]
/-! ### the laws' own -/
end Go.Proofs.YtaocnklolgdkfaaGreat
/- Lists as arguments: opened; and kept. -/
namespace Go.Proofs.YtaocnklolgdkfaaGreat
open Go.ChangeShapes Go.WideShapes Go.ChangeAt Go.RowKit Go.Deep
set_option linter.unusedVariables false
theorem laidOut : laidOutB Tryz.prog = true := by kernel_rfl
section
variable {H : Type} {enc : TypeId × Value → H} {P : Program} {W : World} {b0 : Nat} {held : Bool}
end
end Go.Proofs.YtaocnklolgdkfaaGreat
/- A region that draws its order, walked once: operations that yield one value each in whatever later world, and at most one new variable that takes the result. -/
namespace Go.Proofs.YtaocnklolgdkfaaGreat
open Go.RowKit
set_option linter.unusedVariables false
set_option linter.unusedSimpArgs false

def calmRun (P : Program) (o : Oper) (ρ : Operand → Value) (w : World) (v : Value) : Prop :=
  match (execOp ρ o).run P w with
  | .ok (.value u) w' => w' = w ∧ u = v
  | .ok .skip w' => w' = w ∧ v = undef
  | .ok (.enter f args) w' => w' = w ∧ Calls P f args w (fun e w'' => e = .returned v ∧ Below w.heap.size w w'')
  | _ => False

structure calmAt (P : Program) (o : Oper) (ρ : Operand → Value) (w : World) (v : Value) : Prop where
  out : calmRun P o ρ w v

theorem wp_of_calm {P : Program} {o : Oper} {a : Act} {w : World} {v : Value} {K : Act → World → Prop} {Q : Exit → Act → World → Prop}
    (h : calmAt P o a.eval w v) (hK : ∀ w', Below w.heap.size w w' → K (a.put o.dst v) w') : o.wp P a w K Q := by
  have h := h.out
  unfold calmRun at h
  unfold Oper.wp
  generalize (execOp a.eval o).run P w = r at *
  cases r with
  | ok n w' =>
    cases n <;> simp only [Oper.upon] at h ⊢
    case value u => obtain ⟨rfl, rfl⟩ := h; exact hK _ (Below.refl _ _)
    case skip => obtain ⟨rfl, rfl⟩ := h; exact hK _ (Below.refl _ _)
    case enter f args =>
      obtain ⟨rfl, hc⟩ := h
      exact hc.mono fun e w'' ⟨he, hb⟩ => by subst he; exact hK _ hb
  | halt x w' => simp only at h

theorem count_le (p q : Nat → Bool) (hq : ∀ i, q i = true → p i = true) : ∀ l : List Nat, l.countP q ≤ l.countP p
  | [] => by simp
  | x :: l => by
    have := count_le p q hq l
    rw [List.countP_cons, List.countP_cons]
    by_cases h : q x = true
    · rw [if_pos h, if_pos (hq x h)]; omega
    · rw [if_neg h]; split <;> omega
theorem count_lt (p q : Nat → Bool) (hq : ∀ i, q i = true → p i = true) (k : Nat) (hp : p k = true) (hk : q k = false) : ∀ l : List Nat, k ∈ l → l.countP q < l.countP p
  | x :: l, h => by
    rw [List.countP_cons, List.countP_cons]
    have h1 := count_le p q hq l
    by_cases e : x = k
    · subst e; rw [hp, hk]; simp; omega
    · have h2 := count_lt p q hq k hp hk l (by cases h with | head => exact (e rfl).elim | tail _ h => exact h)
      by_cases h : q x = true
      · rw [if_pos h, if_pos (hq x h)]; omega
      · rw [if_neg h]; split <;> omega

def readsOf (o : Oper) : List Tmp := o.op.operands.toList.filterMap fun | .tmp t => some t | _ => none
def bindsTo (o : Oper) (j : Nat) : Bool := o.after.any fun e => Region.binds .any e && e.on == j
def notSelect (o : Oper) : Bool := match o.op with | .select _ _ => false | _ => true
/-- Every operation but the new variable's two reads only what has been yielded before it, or what the region does not write. -/
def boxChk (l : List Oper) (m s d N : Nat) : Bool :=
  (List.range l.length).all fun i => match l[i]? with
    | none => true
    | some o => o.guard.isNone && notSelect o && (o.after.all fun e => !Region.binds .any e || e.on < i) &&
      (if i = m then o.dst == some d
       else (if i = s then o.dst.isNone && bindsTo o m else (match o.dst with | some t => t != d && t < N | none => false) && !(readsOf o).contains d) &&
        ((readsOf o).all fun t => t == d || (List.range l.length).all fun j => match l[j]? with
          | none => true
          | some oj => !(oj.dst == some t) || bindsTo o j))

structure RInv (l : List Oper) (a0 aE : Act) (w0 : World) (m s d : Nat) (T : TypeId) (n : Nat) (U : Array Value) (listed : Array Bool) (a : Act) (w : World) : Prop where
  df : a.defers = aE.defers
  sz : a.tmps.size = aE.tmps.size
  len : listed.size = l.length
  fr1 : ∀ (j : Nat) (o : Oper) (t : Nat), l[j]? = some o → o.dst = some t → t ≠ d → listed.getD j false = true → a.tmps.getD t undef = aE.tmps.getD t undef
  fr0 : ∀ t : Nat, t ≠ d → (∀ (j : Nat) (o : Oper), l[j]? = some o → o.dst = some t → listed.getD j false = false) → a.tmps.getD t undef = a0.tmps.getD t undef
  bl : Below w0.heap.size w0 w
  box : listed.getD m false = true → ∃ g, a.tmps.getD d undef = .pointer (some ⟨g, 0, none⟩) ∧ w0.heap.size ≤ g ∧ ∃ cs, w.heap[g]? = some (.cells cs T (0, 0)) ∧ cs.size = n ∧ (listed.getD s false = true → cs = U)
  sm : listed.getD s false = true → listed.getD m false = true

structure RInv0 (l : List Oper) (a0 aE : Act) (w0 : World) (listed : Array Bool) (a : Act) (w : World) : Prop where
  df : a.defers = aE.defers
  sz : a.tmps.size = aE.tmps.size
  len : listed.size = l.length
  fr1 : ∀ (j : Nat) (o : Oper) (t : Nat), l[j]? = some o → o.dst = some t → listed.getD j false = true → a.tmps.getD t undef = aE.tmps.getD t undef
  fr0 : ∀ t : Nat, (∀ (j : Nat) (o : Oper), l[j]? = some o → o.dst = some t → listed.getD j false = false) → a.tmps.getD t undef = a0.tmps.getD t undef
  bl : Below w0.heap.size w0 w
theorem bindsTo_spec {o : Oper} {j : Nat} (h : bindsTo o j = true) : ∃ e ∈ o.after, Region.binds .any e = true ∧ e.on = j := by
  unfold bindsTo at h
  rw [Array.any_eq_true'] at h
  obtain ⟨e, he, h2⟩ := h
  simp only [Bool.and_eq_true, beq_iff_eq] at h2
  exact ⟨e, he, h2.1, h2.2⟩
theorem put_get_same (a : Act) (t : Nat) (v : Value) (h : t < a.tmps.size) : (a.put (some t) v).tmps.getD t undef = v := by
  simp [Act.put, Array.getD, h]
theorem put_get_ne (a : Act) (t u : Nat) (v : Value) (h : t ≠ u) : (a.put (some t) v).tmps.getD u undef = a.tmps.getD u undef := by
  simp [Act.put, Array.getElem?_setIfInBounds_ne h]
theorem put_size (a : Act) (t : Option Nat) (v : Value) : (a.put t v).tmps.size = a.tmps.size := by cases t <;> simp [Act.put]
theorem put_defers (a : Act) (t : Option Nat) (v : Value) : (a.put t v).defers = a.defers := by cases t <;> simp [Act.put]
theorem getD_set (listed : Array Bool) (i j : Nat) (h : i < listed.size) : (listed.setIfInBounds i true).getD j false = if i = j then true else listed.getD j false := by
  by_cases e : i = j
  · subst e; simp [h]
  · rw [if_neg e, getD_set_ne false e]
theorem rep_false (n j : Nat) : (Array.replicate n false).getD j false = false := by
  simp only [Array.getD]; split <;> simp
theorem act_ext (a b : Act) (h1 : a.defers = b.defers) (h2 : a.tmps.size = b.tmps.size) (h3 : ∀ t, t < a.tmps.size → a.tmps.getD t undef = b.tmps.getD t undef) : a = b := by
  obtain ⟨x, y⟩ := a
  obtain ⟨x', y'⟩ := b
  simp only at h1 h2 h3
  subst h1
  congr 1
  apply Array.ext h2
  intro i hi hi'
  have := h3 i hi
  simpa [hi, hi'] using this
def puts (a : Act) : List (Nat × Value) → Act
  | [] => a
  | kv :: r => puts (a.put (some kv.1) kv.2) r
theorem puts_size : ∀ (vs : List (Nat × Value)) (a : Act), (puts a vs).tmps.size = a.tmps.size
  | [], _ => rfl
  | kv :: r, a => by rw [puts, puts_size r, put_size]
theorem puts_defers : ∀ (vs : List (Nat × Value)) (a : Act), (puts a vs).defers = a.defers
  | [], _ => rfl
  | kv :: r, a => by rw [puts, puts_defers r, put_defers]
theorem puts_other (t : Nat) : ∀ (vs : List (Nat × Value)) (a : Act), (∀ kv ∈ vs, kv.1 ≠ t) → (puts a vs).tmps.getD t undef = a.tmps.getD t undef
  | [], _, _ => rfl
  | kv :: r, a, h => by
    rw [puts, puts_other t r _ (fun x hx => h x (List.mem_cons_of_mem _ hx)), put_get_ne _ _ _ _ (h kv (List.mem_cons_self ..))]

section
variable {P : Program} {Q : Exit → Act → World → Prop} {l : List Oper} {a0 : Act} {w : World} {vs : List (Nat × Value)} {m s d n : Nat} {T : TypeId} {U Z : Array Value} {om os : Oper}

theorem chk_at {N : Nat} (chk : boxChk l m s d N = true) {i : Nat} {o : Oper} (hi : l[i]? = some o) :
    (o.guard = none ∧ (∀ cs b, o.op ≠ .select cs b) ∧ (∀ e ∈ o.after, Region.binds .any e = true → e.on < i)) ∧
    (i = m → o.dst = some d) ∧ (i ≠ m → i = s → o.dst = none ∧ bindsTo o m = true) ∧ (i ≠ m → i ≠ s → (∃ t, o.dst = some t ∧ t ≠ d ∧ t < N) ∧ d ∉ readsOf o) ∧
    (i ≠ m → ∀ t ∈ readsOf o, t = d ∨ ∀ j oj, l[j]? = some oj → oj.dst = some t → bindsTo o j = true) := by
  unfold boxChk at chk
  have hlt : i < l.length := (List.getElem?_eq_some_iff.1 hi).1
  have h := List.all_eq_true.1 chk i (List.mem_range.2 hlt)
  simp only [hi, Bool.and_eq_true, Option.isNone_iff_eq_none] at h
  obtain ⟨⟨⟨hg, hns⟩, haf⟩, hr⟩ := h
  refine ⟨⟨hg, ?_, ?_⟩, ?_, ?_, ?_, ?_⟩
  · intro cs b e; rw [notSelect, e] at hns; cases hns
  · intro e he hb
    have := (Array.all_eq_true_iff_forall_mem.1 haf) e he
    simpa [hb] using this
  · intro e; rw [if_pos e] at hr; simpa using hr
  · intro e1 e2; rw [if_neg e1, if_pos e2] at hr; simp only [Bool.and_eq_true, Option.isNone_iff_eq_none] at hr; exact hr.1
  · intro e1 e2
    rw [if_neg e1, if_neg e2] at hr
    simp only [Bool.and_eq_true] at hr
    refine ⟨?_, by simpa using hr.1.2⟩
    cases hd : o.dst with
    | none => rw [hd] at hr; simp at hr
    | some t => rw [hd] at hr; simp only [Bool.and_eq_true, bne_iff_ne, decide_eq_true_eq] at hr; exact ⟨t, rfl, hr.1.1.1, hr.1.1.2⟩
  · intro e1 t ht
    rw [if_neg e1] at hr
    simp only [Bool.and_eq_true] at hr
    have h2 := List.all_eq_true.1 hr.2 t ht
    simp only [Bool.or_eq_true, beq_iff_eq] at h2
    rcases h2 with h2 | h2
    · exact .inl h2
    · refine .inr fun j oj hj hd => ?_
      have hjl : j < l.length := (List.getElem?_eq_some_iff.1 hj).1
      have := List.all_eq_true.1 h2 j (List.mem_range.2 hjl)
      simpa [hj, hd] using this

theorem ready_all {N : Nat} (chk : boxChk l m s d N = true) {listed : Array Bool} (hlen : listed.size = l.length)
    (h : Region.ready .any l.toArray listed = []) : ∀ i, i < l.length → listed.getD i false = true := by
  intro i
  induction i using Nat.strongRecOn with
  | _ i ih =>
    intro hi
    cases hb : listed.getD i false with
    | true => rfl
    | false =>
      exfalso
      have ho : l[i]? = some l[i] := List.getElem?_eq_getElem hi
      have hmem : i ∈ Region.ready .any l.toArray listed := by
        rw [mem_ready]
        refine ⟨?_, l[i], by simp, fun e he hbd => ?_⟩
        · have : i < listed.size := by omega
          simp [this] at hb ⊢; exact hb
        · exact ih e.on ((chk_at chk ho).1.2.2 e he hbd) (by have := (chk_at chk ho).1.2.2 e he hbd; omega)
      rw [h] at hmem; cases hmem

theorem wp_region_calm {id : Nat} (hm : P.follows .mixedOrders = true) 
    (chk : boxChk l l.length l.length a0.tmps.size a0.tmps.size = true) (hkeys : vs.all (fun kv => l.any (·.dst == some kv.1)) = true)
    (hop : ∀ (i : Nat) (o : Oper) (t : Nat), l[i]? = some o → o.dst = some t → ∀ W, Below w.heap.size w W → calmAt P o (puts a0 vs).eval W ((puts a0 vs).tmps.getD t undef))
    (hQ : ∀ W, Below w.heap.size w W → Q .normal (puts a0 vs) W) :
    (Code.region id l.toArray true).wp P Q a0 w := by
  have hE : ∀ t, (∀ (j : Nat) (o : Oper), l[j]? = some o → o.dst ≠ some t) → a0.tmps.getD t undef = (puts a0 vs).tmps.getD t undef := by
    intro t hno
    refine (puts_other t vs a0 (fun kv hkv e => ?_)).symm
    have := List.all_eq_true.1 hkeys kv hkv
    obtain ⟨o, ho, hod⟩ := List.any_eq_true.1 this
    obtain ⟨j, hj⟩ := List.getElem?_of_mem ho
    exact hno j o hj (by rw [← e]; simpa using hod)
  have hEs : (puts a0 vs).tmps.size = a0.tmps.size := puts_size _ _
  have hEd : (puts a0 vs).defers = a0.defers := puts_defers _ _
  generalize puts a0 vs = aE at *
  refine wp_region_any hm ?_
  have key : ∀ (fuel : Nat) (listed : Array Bool) (a : Act) (W : World), RInv0 l a0 aE w listed a W →
      (List.range l.length).countP (fun i => !listed.getD i true) ≤ fuel → wpAny P .any l.toArray Q fuel listed a W := by
    intro fuel
    have fin : ∀ (listed : Array Bool) (a : Act) (W : World), RInv0 l a0 aE w listed a W → Region.ready .any l.toArray listed = [] → Q .normal a W := by
      intro listed a W hI hr
      have hall := ready_all chk hI.len hr
      have ea : a = aE := by
        refine act_ext _ _ hI.df hI.sz (fun t ht => ?_)
        · by_cases hw : ∃ (j : Nat) (o : Oper), l[j]? = some o ∧ o.dst = some t
          · obtain ⟨j, o, hj, ho⟩ := hw
            exact hI.fr1 j o t hj ho (hall j (List.getElem?_eq_some_iff.1 hj).1)
          · rw [hI.fr0 t (fun j o hj ho => (hw ⟨j, o, hj, ho⟩).elim)]
            exact hE t (fun j o hj ho => hw ⟨j, o, hj, ho⟩)
      rw [ea]
      exact hQ W hI.bl
    -- what an operation that may come up reads is at hand
    have look : ∀ (listed : Array Bool) (a : Act) (W : World), RInv0 l a0 aE w listed a W → ∀ (i : Nat) (o : Oper), l[i]? = some o →
        (∀ e ∈ o.after, Region.binds .any e = true → listed.getD e.on false = true) → ∀ t ∈ readsOf o, t ≠ a0.tmps.size → a.tmps.getD t undef = aE.tmps.getD t undef := by
      intro listed a W hI i o hi hall t ht htd
      have him : i ≠ l.length := by have := (List.getElem?_eq_some_iff.1 hi).1; omega
      rcases (chk_at chk hi).2.2.2.2 him t ht with h | h
      · exact (htd h).elim
      · by_cases hw : ∃ (j : Nat) (oj : Oper), l[j]? = some oj ∧ oj.dst = some t
        · obtain ⟨j, oj, hj, hjd⟩ := hw
          obtain ⟨e, he, hb, hon⟩ := bindsTo_spec (h j oj hj hjd)
          exact hI.fr1 j oj t hj hjd (by rw [← hon]; exact hall e he hb)
        · rw [hI.fr0 t (fun j oj hj ho => (hw ⟨j, oj, hj, ho⟩).elim)]
          exact hE t (fun j oj hj ho => hw ⟨j, oj, hj, ho⟩)
    induction fuel with
    | zero =>
      intro listed a W hI hc
      have hr : Region.ready .any l.toArray listed = [] := by
        rw [List.eq_nil_iff_forall_not_mem]
        intro i hi
        obtain ⟨h0, o, ho, _⟩ := mem_ready.1 hi
        have hil : i < l.length := by simpa using (Array.getElem?_eq_some_iff.1 ho).1
        have : 0 < (List.range l.length).countP (fun i => !listed.getD i true) := List.countP_pos_iff.2 ⟨i, List.mem_range.2 hil, by rw [h0]; rfl⟩
        omega
      exact ⟨hr, fin listed a W hI hr⟩
    | succ fuel ih =>
      intro listed a W hI hc
      refine ⟨fin listed a W hI, fun i hi => ?_⟩
      obtain ⟨h0, o, ho, hall⟩ := mem_ready.1 hi
      have hio : l[i]? = some o := by simpa using ho
      have hil : i < l.length := (List.getElem?_eq_some_iff.1 hio).1
      have hil' : i < listed.size := by rw [hI.len]; exact hil
      have hi0 : listed.getD i false = false := by simpa [hil'] using h0
      have hC := chk_at chk hio
      have hwant : Region.wanted o (yielded l.toArray a.tmps) = true := by unfold Region.wanted; rw [hC.1.1]
      have hcnt : (List.range l.length).countP (fun j => !(listed.setIfInBounds i true).getD j true) ≤ fuel := by
        have := count_lt (fun j => !listed.getD j true) (fun j => !(listed.setIfInBounds i true).getD j true) (fun j hj => by
            by_cases e : i = j
            · subst e; simp [hil'] at hj
            · rw [getD_set_ne true e] at hj; exact hj) i (by rw [h0]; rfl) (by simp [hil']) (List.range l.length) (List.mem_range.2 hil)
        omega
      unfold wpOp
      simp only [ho, hwant, if_true]
      refine .inl ?_
      have him : i ≠ l.length := by omega
      · -- any operation
          obtain ⟨⟨t, hdst, htd, htN⟩, hnd⟩ := hC.2.2.2.1 him him
          have hcalm := hop i o t hio hdst W hI.bl
          have heq : execOp aE.eval o = execOp a.eval o := execOp_congr o hC.1.2.1 (fun x hx => by
            cases x with
            | tmp u =>
              have hu : u ∈ readsOf o := List.mem_filterMap.2 ⟨.tmp u, by simpa using hx, rfl⟩
              exact (look listed a W hI i o hio hall u hu (fun e => hnd (e ▸ hu))).symm
            | _ => rfl)
          have hcalm' : calmAt P o a.eval W (aE.tmps.getD t undef) := by
            refine ⟨?_⟩; have hh := hcalm.out; unfold calmRun at hh ⊢; rw [← heq]; exact hh
          refine wp_of_calm hcalm' (fun W' hb => ?_)
          rw [hdst]
          refine ih _ _ _ ⟨by rw [put_defers]; exact hI.df, by rw [put_size]; exact hI.sz, by simpa using hI.len, ?_, ?_, below_tr' hI.bl hb⟩ hcnt
          · intro j oj u hj hjd hl
            by_cases htu : t = u
            · subst htu; rw [put_get_same _ _ _ (by rw [hI.sz, hEs]; exact htN)]
            · rw [put_get_ne _ _ _ _ htu]
              rw [getD_set _ _ _ hil'] at hl
              by_cases e : i = j
              · subst e; rw [hio] at hj; obtain rfl := Option.some.inj hj; rw [hdst] at hjd; exact (htu (Option.some.inj hjd)).elim
              · rw [if_neg e] at hl; exact hI.fr1 j oj u hj hjd hl
          · intro u hno
            have htu : t ≠ u := fun e => by
              subst e
              have := hno i o hio hdst
              rw [getD_set _ _ _ hil', if_pos rfl] at this; cases this
            rw [put_get_ne _ _ _ _ htu]
            refine hI.fr0 u (fun j oj hj hjd => ?_)
            have := hno j oj hj hjd
            rw [getD_set _ _ _ hil'] at this
            by_cases e : i = j
            · rw [if_pos e] at this; cases this
            · rw [if_neg e] at this; exact this
  refine key _ _ _ _ ⟨by rw [hEd], hEs.symm, by simp, ?_, ?_, ⟨rfl, rfl, rfl, Nat.le_refl _, fun _ _ => rfl⟩⟩ ?_
  · intro j o t hj hjd hl; rw [rep_false] at hl; cases hl
  · intro t _; rfl
  · exact Nat.le_trans List.countP_le_length (by simp)
/-- What each operation is asked, one after the other. -/
def AllBut (R : Oper → Prop) (m s : Nat) : Nat → List Oper → Prop
  | _, [] => True
  | k, o :: r => (k = m ∨ k = s ∨ R o) ∧ AllBut R m s (k + 1) r
theorem AllBut.spec {R : Oper → Prop} {m s : Nat} : ∀ (l : List Oper) (k : Nat), AllBut R m s k l → ∀ (i : Nat) (o : Oper), l[i]? = some o → k + i ≠ m → k + i ≠ s → R o
  | [], _, _, i, o, hi, _, _ => by simp at hi
  | x :: r, k, h, 0, o, hi, hm, hs => by
    have e : x = o := by simpa using hi
    rw [← e]
    exact (h.1.resolve_left hm).resolve_left hs
  | x :: r, k, h, i + 1, o, hi, hm, hs => AllBut.spec r (k + 1) h.2 i o (by simpa using hi) (by omega) (by omega)
/-- What the region's law asks of one operation. -/
def Calm (P : Program) (aE : Act) (w : World) (o : Oper) : Prop := ∀ t, o.dst = some t → ∀ W, Below w.heap.size w W → calmAt P o aE.eval W (aE.tmps.getD t undef)
theorem Calm.mk {P : Program} {aE : Act} {w : World} {o : Oper} (t : Nat) (v : Value) (hd : o.dst = some t) (hv : aE.tmps.getD t undef = v) (h : ∀ W, Below w.heap.size w W → calmAt P o aE.eval W v) : Calm P aE w o := by
  intro t' hd' W hW
  rw [hd] at hd'
  obtain rfl := Option.some.inj hd'
  rw [hv]; exact h W hW
theorem region_calm {P : Program} {Q : Exit → Act → World → Prop} {l : List Oper} {a0 : Act} {w : World} {id : Nat} (vs : List (Nat × Value)) (hm : P.follows .mixedOrders = true)
    (chk : boxChk l l.length l.length a0.tmps.size a0.tmps.size = true) (hkeys : vs.all (fun kv => l.any (·.dst == some kv.1)) = true)
    (H : ∀ aE, puts a0 vs = aE → AllBut (Calm P aE w) l.length l.length 0 l ∧ ∀ W, Below w.heap.size w W → Q .normal aE W) :
    (Code.region id l.toArray true).wp P Q a0 w := by
  obtain ⟨h2, h3⟩ := H _ rfl
  refine wp_region_calm hm chk hkeys (fun i o t hi hd => ?_) h3
  have hlt : i < l.length := (List.getElem?_eq_some_iff.1 hi).1
  exact AllBut.spec l 0 h2 i o hi (by omega) (by omega) t hd
theorem calm_move {P : Program} {o : Oper} {ρ : Operand → Value} {W : World} {v : Value} (x : Operand) (ho : o.op = .move x) (hv : ρ x = v) : calmAt P o ρ W v := by
  refine ⟨?_⟩
  unfold calmRun execOp; simp only [ho, Sem.run_pure, hv, and_self]
theorem calm_assign {P : Program} {o : Oper} {ρ : Operand → Value} {W : World} {v : Value} (x : Operand) (ho : o.op = .assign x) (hv : ρ x = v) : calmAt P o ρ W v := by
  refine ⟨?_⟩
  unfold calmRun execOp; simp only [ho, Sem.run_pure, hv, and_self]
theorem calm_call {P : Program} {o : Oper} {ρ : Operand → Value} {W : World} {v : Value} (f : Nat) (c : Call) (args : Array Value) (ho : o.op = .call c) (hc : c.callee = .value (.func f)) (hρ : ρ (.func f) = .func (.func f) #[] #[]) (ha : c.args.map ρ = args)
    (hf : (callFunc f args).run P W = .ok (.enter f args) W) (h : Calls P f args W (Ret W v)) : calmAt P o ρ W v := by
  refine ⟨?_⟩
  unfold calmRun execOp
  simp only [ho, resolve, hc, hρ, ha, Deferred.ofValue, Sem.run_bind, Sem.run_pure, Result.andThen_ok, invoke, Array.append_empty, Array.empty_append, hf, true_and]
  exact h
theorem calm_load {P : Program} {o : Oper} {ρ : Operand → Value} {W : World} {g : Nat} {T : TypeId} {cs : Array Value} {fr : Nat × Nat} (ty : TypeId) (x : Operand) (ho : o.op = .load ty x) (hx : ρ x = .pointer (some ⟨g, 0, none⟩))
    (hg : W.heap[g]? = some (.cells cs T fr)) (n : Nat) (hn : cs.size = n) (hs : ∀ W, (sizeOf ty).run P W = .ok n W) (ha : ∀ W, (isAgg ty).run P W = .ok true W) : calmAt P o ρ W (.agg cs) := by
  subst hn
  have hl : (loadCells ⟨g, 0, none⟩ cs.toList.length).run P W = .ok cs.toList.toArray W :=
    run_loadCells_list (P := P) W ⟨g, 0, none⟩ cs.toList (fun j v hv => by
      have hadd : (⟨g, 0, none⟩ : Addr).add j = ⟨g, j, none⟩ := by unfold Addr.add; split <;> simp_all
      rw [hadd, cell_of_row W g j cs T fr hg]
      simpa using hv)
  simp only [Array.length_toList, Array.toArray_toList] at hl
  have hv : (loadVar ty ⟨g, 0, none⟩).run P W = .ok (.agg cs) W := by
    unfold loadVar
    rw [Sem.run_bind, ha]
    simp only [Result.andThen_ok, if_true]
    rw [Sem.run_bind, hs]
    simp only [Result.andThen_ok]
    rw [Sem.run_bind, hl]
    rfl
  refine ⟨?_⟩
  unfold calmRun execOp
  simp only [ho, hx, Instr.loadAt, Instr.sureAddr, Sem.run_bind, Sem.run_pure, Result.andThen_ok, hv, and_self]
theorem run_store_row {P : Program} {o : Oper} {ρ : Operand → Value} {W : World} {g : Nat} {T : TypeId} {cs U : Array Value} (ty : TypeId) (x y : Operand) (ho : o.op = .store ty x y) (hx : ρ x = .pointer (some ⟨g, 0, none⟩)) (hy : ρ y = .agg U)
    (hg : W.heap[g]? = some (.cells cs T (0, 0))) (hn : cs.size = U.size) (hs : ∀ W, (sizeOf ty).run P W = .ok U.size W) (h1 : ∀ v ∈ U.toList, v.oneCell' = true) : (execOp ρ o).run P W = .ok .skip (W.setRow g U) := by
  have hst := run_storeCells_at (P := P) g 0 T U.toList 0 cs W hg (by simp [hn]) h1
  have e : (cs.toList.take (0 + 0) ++ U.toList ++ cs.toList.drop (0 + 0 + U.toList.length)).toArray = U := by
    rw [List.drop_of_length_le (by simp [hn])]; simp
  rw [e] at hst
  have hv : (storeVar ty ⟨g, 0, none⟩ (.agg U)).run P W = .ok () (W.setRow g U) := by
    unfold storeVar
    rw [Sem.run_bind, hs]
    simp only [Result.andThen_ok, Value.cells, ne_eq, not_true_eq_false, if_false]
    exact hst
  unfold execOp
  simp only [ho, hx, hy, Instr.storeAt, Instr.sureAddr, Sem.run_bind, Sem.run_pure, Result.andThen_ok, hv]
end
end Go.Proofs.YtaocnklolgdkfaaGreat
/- A region that draws its order and holds guarded operations, walked once. -/
namespace Go.Proofs.YtaocnklolgdkfaaGreat
open Go.RowKit
set_option linter.unusedVariables false
set_option linter.unusedSimpArgs false
theorem yielded_congr {ops : Array Oper} {x y : Array Value} {j : Nat} (hs : x.size = y.size) (h : ∀ o t, ops[j]? = some o → o.dst = some t → x.getD t undef = y.getD t undef) : yielded ops x j = yielded ops y j := by
  unfold yielded
  cases ho : ops[j]? with
  | none => rfl
  | some o =>
    simp only [Option.bind_some]
    cases hd : o.dst with
    | none => rfl
    | some t =>
      simp only [Option.bind_some]
      have := h o t ho hd
      by_cases ht : t < x.size
      · have hy : t < y.size := hs ▸ ht
        simp only [Array.getD, ht, hy, dif_pos] at this
        rw [Array.getElem?_eq_getElem ht, Array.getElem?_eq_getElem hy]
        have e : x[t] = y[t] := this
        rw [e]
      · have hy : ¬ t < y.size := hs ▸ ht
        rw [Array.getElem?_eq_none (Nat.not_lt.1 ht), Array.getElem?_eq_none (Nat.not_lt.1 hy)]
section
variable {P : Program} {Q : Exit → Act → World → Prop} {l : List Oper} {a0 : Act} {w : World} {vs : List (Nat × Value)}
/-- What the region's law asks of one operation; of one whose guard lets it out, too. -/
def CalmG (P : Program) (aE : Act) (w : World) (l : List Oper) (o : Oper) : Prop := ∀ t, o.dst = some t →
  (Region.wanted o (yielded l.toArray aE.tmps) = true ∧ ∀ W, Below w.heap.size w W → calmAt P o aE.eval W (aE.tmps.getD t undef)) ∨ (Region.wanted o (yielded l.toArray aE.tmps) = false ∧ aE.tmps.getD t undef = undef)
theorem CalmG.mk {P : Program} {aE : Act} {w : World} {l : List Oper} {o : Oper} (t : Nat) (v : Value) (hd : o.dst = some t) (hv : aE.tmps.getD t undef = v) (hw : Region.wanted o (yielded l.toArray aE.tmps) = true) (h : ∀ W, Below w.heap.size w W → calmAt P o aE.eval W v) : CalmG P aE w l o := by
  intro t' hd'
  rw [hd] at hd'
  obtain rfl := Option.some.inj hd'
  exact .inl ⟨hw, fun W hW => by rw [hv]; exact h W hW⟩
theorem CalmG.out {P : Program} {aE : Act} {w : World} {l : List Oper} {o : Oper} (t : Nat) (hd : o.dst = some t) (hv : aE.tmps.getD t undef = undef) (hw : Region.wanted o (yielded l.toArray aE.tmps) = false) : CalmG P aE w l o := by
  intro t' hd'
  rw [hd] at hd'
  obtain rfl := Option.some.inj hd'
  exact .inr ⟨hw, hv⟩
theorem calm_run {o : Oper} {ρ : Operand → Value} {W : World} {v : Value} (h : (execOp ρ o).run P W = .ok (.value v) W) : calmAt P o ρ W v := by
  refine ⟨?_⟩
  unfold calmRun
  rw [h]; exact ⟨rfl, rfl⟩
end
end Go.Proofs.YtaocnklolgdkfaaGreat
/- A region whose first m operations draw their order and yield values; the others come behind them, in the text's order. -/
namespace Go.Proofs.YtaocnklolgdkfaaGreat
open Go.RowKit
set_option linter.unusedVariables false
set_option linter.unusedSimpArgs false
def thenChk (l : List Oper) (m N : Nat) : Bool :=
  (List.range l.length).all fun i => match l[i]? with
    | none => true
    | some o => notSelect o && (o.after.all fun e => !Region.binds .any e || e.on < i) &&
      (if i < m then (match o.guard with | none => true | some (k, _) => bindsTo o k) &&
        (match o.dst with | some t => decide (t < N) | none => false) &&
        ((readsOf o).all fun t => (List.range m).all fun j => match l[j]? with
            | none => true
            | some oj => !(oj.dst == some t) || bindsTo o j)
       else (List.range i).all fun j => bindsTo o j)
theorem thenChk_at {l : List Oper} {m N : Nat} (chk : thenChk l m N = true) {i : Nat} {o : Oper} (hi : l[i]? = some o) :
    (∀ cs b, o.op ≠ .select cs b) ∧ (∀ e ∈ o.after, Region.binds .any e = true → e.on < i) ∧
    (i < m → (∀ k b, o.guard = some (k, b) → bindsTo o k = true) ∧ (∃ t, o.dst = some t ∧ t < N) ∧ (∀ t ∈ readsOf o, ∀ j oj, j < m → l[j]? = some oj → oj.dst = some t → bindsTo o j = true)) ∧
    (¬ i < m → ∀ j, j < i → bindsTo o j = true) := by
  unfold thenChk at chk
  have hlt : i < l.length := (List.getElem?_eq_some_iff.1 hi).1
  have h := List.all_eq_true.1 chk i (List.mem_range.2 hlt)
  simp only [hi, Bool.and_eq_true] at h
  obtain ⟨⟨hns, haf⟩, hd⟩ := h
  refine ⟨?_, ?_, ?_, ?_⟩
  · intro cs b e; rw [notSelect, e] at hns; cases hns
  · intro e he hb
    have := (Array.all_eq_true_iff_forall_mem.1 haf) e he
    simpa [hb] using this
  · intro him
    rw [if_pos him] at hd
    simp only [Bool.and_eq_true] at hd
    obtain ⟨⟨hg, hd⟩, hr⟩ := hd
    refine ⟨?_, ?_, ?_⟩
    · intro k b e; rw [e] at hg; simpa using hg
    · cases hdd : o.dst with
      | none => rw [hdd] at hd; cases hd
      | some t => rw [hdd] at hd; exact ⟨t, rfl, by simpa using hd⟩
    · intro t ht j oj hjm hj hjd
      have h2 := List.all_eq_true.1 hr t ht
      have := List.all_eq_true.1 h2 j (List.mem_range.2 hjm)
      simpa [hj, hjd] using this
  · intro him j hj
    rw [if_neg him] at hd
    exact List.all_eq_true.1 hd j (List.mem_range.2 hj)
structure RInvU (l : List Oper) (m : Nat) (a0 aE : Act) (w0 : World) (listed : Array Bool) (a : Act) (w : World) : Prop where
  df : a.defers = aE.defers
  sz : a.tmps.size = aE.tmps.size
  len : listed.size = l.length
  fr1 : ∀ (j : Nat) (o : Oper) (t : Nat), j < m → l[j]? = some o → o.dst = some t → listed.getD j false = true → a.tmps.getD t undef = aE.tmps.getD t undef
  fr0 : ∀ t : Nat, (∀ (j : Nat) (o : Oper), j < m → l[j]? = some o → o.dst = some t → listed.getD j false = false) → a.tmps.getD t undef = a0.tmps.getD t undef
  bl : Below w0.heap.size w0 w
  rest : ∀ j, m ≤ j → listed.getD j false = false
theorem ready_mem {l : List Oper} {listed : Array Bool} {i : Nat} (h : i ∈ Region.ready .any l.toArray listed) (hlen : listed.size = l.length) :
    ∃ o, l[i]? = some o ∧ i < l.length ∧ listed.getD i false = false ∧ ∀ e ∈ o.after, Region.binds .any e = true → listed.getD e.on false = true := by
  obtain ⟨h0, o, ho, hall⟩ := mem_ready.1 h
  have hio : l[i]? = some o := by simpa using ho
  have hil : i < l.length := (List.getElem?_eq_some_iff.1 hio).1
  have hil' : i < listed.size := by omega
  exact ⟨o, hio, hil, by simpa [hil'] using h0, hall⟩
/-- From the m-th on there is one order. -/
theorem any_tail {P : Program} {Q : Exit → Act → World → Prop} {l : List Oper} {m N : Nat} (chk : thenChk l m N = true) : ∀ (fuel i : Nat) (listed : Array Bool) (a : Act) (W : World), m ≤ i → i ≤ l.length → listed.size = l.length →
    (∀ j, j < l.length → (listed.getD j false = true ↔ j < i)) → l.length - i ≤ fuel → wpList P l.toArray Q (l.drop i) a W → wpAny P .any l.toArray Q fuel listed a W := by
  intro fuel
  induction fuel with
  | zero =>
    intro i listed a W hmi hil hlen hls hf hw
    have hi : i = l.length := by omega
    subst hi
    refine ⟨?_, by rw [List.drop_length] at hw; exact hw⟩
    rw [List.eq_nil_iff_forall_not_mem]
    intro k hk
    obtain ⟨o, _, hkl, hk0, _⟩ := ready_mem hk hlen
    rw [(hls k hkl).2 hkl] at hk0; cases hk0
  | succ fuel ih =>
    intro i listed a W hmi hil hlen hls hf hw
    rcases Nat.lt_or_ge i l.length with hlt | hge
    · have hio : l[i]? = some l[i] := List.getElem?_eq_getElem hlt
      have hC := thenChk_at chk hio
      have hd : l.drop i = l[i] :: l.drop (i + 1) := List.drop_eq_getElem_cons hlt
      rw [hd] at hw
      refine ⟨fun hr => ?_, fun k hk => ?_⟩
      · exfalso
        have hmem : i ∈ Region.ready .any l.toArray listed := by
          rw [mem_ready]
          refine ⟨?_, l[i], by simp, fun e he hbd => (hls _ (by have := hC.2.1 e he hbd; omega)).2 (hC.2.1 e he hbd)⟩
          have h1 : i < listed.size := by omega
          have h2 : listed.getD i false = false := by
            cases hb : listed.getD i false with
            | false => rfl
            | true => exact absurd ((hls i hlt).1 hb) (Nat.lt_irrefl _)
          simpa [h1] using h2
        rw [hr] at hmem; cases hmem
      · obtain ⟨o, hko, hkl, hk0, hall⟩ := ready_mem hk hlen
        have hki : k = i := by
          rcases Nat.lt_trichotomy k i with h | h | h
          · rw [(hls k hkl).2 h] at hk0; cases hk0
          · exact h
          · obtain ⟨e, he, hb, hon⟩ := bindsTo_spec ((thenChk_at chk hko).2.2.2 (by omega) i h)
            have := (hls i hlt).1 (by rw [← hon]; exact hall e he hb)
            omega
        subst hki
        have heo : o = l[k] := by rw [hio] at hko; exact (Option.some.inj hko).symm
        subst heo
        have hk' : k < listed.size := by omega
        have step : ∀ a' W', wpList P l.toArray Q (l.drop (k + 1)) a' W' → wpAny P .any l.toArray Q fuel (listed.setIfInBounds k true) a' W' := by
          intro a' W' h
          refine ih (k + 1) _ a' W' (by omega) (by omega) (by simpa using hlen) (fun j hj => ?_) (by omega) h
          rw [getD_set _ _ _ hk']
          by_cases e : k = j
          · subst e; simp
          · rw [if_neg e, hls j hj]; omega
        unfold wpOp
        have hto : l.toArray[k]? = some l[k] := by simp
        simp only [hto]
        unfold wpList at hw
        split at hw
        · rename_i hwt
          rw [if_pos hwt]
          rcases hw with h | h
          · exact .inl (Oper.wp_mono step h)
          · exact .inr h
        · rename_i hwt
          rw [if_neg hwt]
          exact step _ _ hw
    · have hi : i = l.length := by omega
      subst hi
      rw [List.drop_length] at hw
      refine ⟨fun _ => hw, fun k hk => ?_⟩
      obtain ⟨o, _, hkl, hk0, _⟩ := ready_mem hk hlen
      rw [(hls k hkl).2 hkl] at hk0; cases hk0
section
variable {P : Program} {Q : Exit → Act → World → Prop} {l : List Oper} {a0 : Act} {w : World} {vs : List (Nat × Value)} {m : Nat}
theorem wp_region_then {id : Nat} (hm : P.follows .mixedOrders = true) (hml : m ≤ l.length)
    (chk : thenChk l m a0.tmps.size = true) (hkeys : vs.all (fun kv => (l.take m).any (·.dst == some kv.1)) = true)
    (hop : ∀ (i : Nat) (o : Oper) (t : Nat), i < m → l[i]? = some o → o.dst = some t → (Region.wanted o (yielded l.toArray (puts a0 vs).tmps) = true ∧ ∀ W, Below w.heap.size w W → calmAt P o (puts a0 vs).eval W ((puts a0 vs).tmps.getD t undef)) ∨ (Region.wanted o (yielded l.toArray (puts a0 vs).tmps) = false ∧ (puts a0 vs).tmps.getD t undef = undef))
    (hgd : ∀ (i : Nat) (o : Oper) (k : Nat) (b : Bool), i < m → l[i]? = some o → o.guard = some (k, b) → k < m)
    (hQ : ∀ W, Below w.heap.size w W → wpList P l.toArray Q (l.drop m) (puts a0 vs) W) :
    (Code.region id l.toArray true).wp P Q a0 w := by
  have hE : ∀ t, (∀ (j : Nat) (o : Oper), j < m → l[j]? = some o → o.dst ≠ some t) → a0.tmps.getD t undef = (puts a0 vs).tmps.getD t undef := by
    intro t hno
    refine (puts_other t vs a0 (fun kv hkv e => ?_)).symm
    have := List.all_eq_true.1 hkeys kv hkv
    obtain ⟨o, ho, hod⟩ := List.any_eq_true.1 this
    obtain ⟨j, hj, hjo⟩ := List.mem_take_iff_getElem.1 ho
    exact hno j o (by omega) (by rw [← hjo]; exact List.getElem?_eq_getElem (by omega)) (by rw [← e]; simpa using hod)
  have hEs : (puts a0 vs).tmps.size = a0.tmps.size := puts_size _ _
  have hEd : (puts a0 vs).defers = a0.defers := puts_defers _ _
  generalize puts a0 vs = aE at *
  refine wp_region_any hm ?_
  have key : ∀ (fuel : Nat) (listed : Array Bool) (a : Act) (W : World), RInvU l m a0 aE w listed a W →
      (List.range m).countP (fun i => !listed.getD i true) + (l.length - m) ≤ fuel → wpAny P .any l.toArray Q fuel listed a W := by
    intro fuel
    have fin : ∀ (fuel : Nat) (listed : Array Bool) (a : Act) (W : World), RInvU l m a0 aE w listed a W → (∀ j, j < m → listed.getD j false = true) → l.length - m ≤ fuel → wpAny P .any l.toArray Q fuel listed a W := by
      intro fuel listed a W hI hall hf
      have ea : a = aE := by
        refine act_ext _ _ hI.df hI.sz (fun t ht => ?_)
        · by_cases hw : ∃ (j : Nat) (o : Oper), j < m ∧ l[j]? = some o ∧ o.dst = some t
          · obtain ⟨j, o, hjm, hj, ho⟩ := hw
            exact hI.fr1 j o t hjm hj ho (hall j hjm)
          · rw [hI.fr0 t (fun j o hjm hj ho => (hw ⟨j, o, hjm, hj, ho⟩).elim)]
            exact hE t (fun j o hjm hj ho => hw ⟨j, o, hjm, hj, ho⟩)
      subst ea
      refine any_tail chk fuel m listed a W (Nat.le_refl _) hml hI.len (fun j hj => ⟨fun h => ?_, fun h => hall j h⟩) hf (hQ W hI.bl)
      rcases Nat.lt_or_ge j m with h2 | h2
      · exact h2
      · rw [hI.rest j h2] at h; cases h
    -- what an operation that may come up reads is at hand
    have look : ∀ (listed : Array Bool) (a : Act) (W : World), RInvU l m a0 aE w listed a W → ∀ (i : Nat) (o : Oper), i < m → l[i]? = some o →
        (∀ e ∈ o.after, Region.binds .any e = true → listed.getD e.on false = true) → ∀ t ∈ readsOf o, a.tmps.getD t undef = aE.tmps.getD t undef := by
      intro listed a W hI i o him hi hall t ht
      have h := ((thenChk_at chk hi).2.2.1 him).2.2 t ht
      · by_cases hw : ∃ (j : Nat) (oj : Oper), j < m ∧ l[j]? = some oj ∧ oj.dst = some t
        · obtain ⟨j, oj, hjm, hj, hjd⟩ := hw
          obtain ⟨e, he, hb, hon⟩ := bindsTo_spec (h j oj hjm hj hjd)
          exact hI.fr1 j oj t hjm hj hjd (by rw [← hon]; exact hall e he hb)
        · rw [hI.fr0 t (fun j oj hjm hj ho => (hw ⟨j, oj, hjm, hj, ho⟩).elim)]
          exact hE t (fun j oj hjm hj ho => hw ⟨j, oj, hjm, hj, ho⟩)
    induction fuel with
    | zero =>
      intro listed a W hI hc
      refine fin 0 listed a W hI (fun j hj => ?_) (by omega)
      have h0 : (List.range m).countP (fun i => !listed.getD i true) = 0 := by omega
      rw [List.countP_eq_zero] at h0
      have := h0 j (List.mem_range.2 hj)
      have hj' : j < listed.size := by rw [hI.len]; omega
      simpa [hj'] using this
    | succ fuel ih =>
      intro listed a W hI hc
      by_cases hall : ∀ j, j < m → listed.getD j false = true
      · exact fin _ listed a W hI hall (by omega)
      · have hno : ∀ i, i ∈ Region.ready .any l.toArray listed → i < m := by
          intro i hi
          rcases Nat.lt_or_ge i m with h | h
          · exact h
          · exfalso
            obtain ⟨o, hio, hil, hi0, ha⟩ := ready_mem hi hI.len
            refine hall (fun j hj => ?_)
            obtain ⟨e, he, hb, hon⟩ := bindsTo_spec ((thenChk_at chk hio).2.2.2 (by omega) j (by omega))
            rw [← hon]; exact ha e he hb
        refine ⟨fun hr => ?_, fun i hi => ?_⟩
        · exfalso
          have all : ∀ i, i < l.length → listed.getD i false = true := by
            intro i
            induction i using Nat.strongRecOn with
            | _ i ih2 =>
              intro hi
              cases hb : listed.getD i false with
              | true => rfl
              | false =>
                exfalso
                have ho : l[i]? = some l[i] := List.getElem?_eq_getElem hi
                have hmem : i ∈ Region.ready .any l.toArray listed := by
                  rw [mem_ready]
                  refine ⟨?_, l[i], by simp, fun e he hbd => ?_⟩
                  · have : i < listed.size := by have := hI.len; omega
                    simp [this] at hb ⊢; exact hb
                  · exact ih2 e.on ((thenChk_at chk ho).2.1 e he hbd) (by have := (thenChk_at chk ho).2.1 e he hbd; omega)
                rw [hr] at hmem; cases hmem
          exact hall (fun j hj => all j (by omega))
        · have him := hno i hi
          obtain ⟨o, hio, hil, hi0, hal⟩ := ready_mem hi hI.len
          have hil' : i < listed.size := by rw [hI.len]; exact hil
          have ho : l.toArray[i]? = some o := by simpa using hio
          have hC := thenChk_at chk hio
          have hCm := hC.2.2.1 him
          obtain ⟨t, hdst, htN⟩ := hCm.2.1
          have hwe : Region.wanted o (yielded l.toArray a.tmps) = Region.wanted o (yielded l.toArray aE.tmps) := by
            unfold Region.wanted
            cases hg : o.guard with
            | none => rfl
            | some kb =>
              obtain ⟨k, b⟩ := kb
              obtain ⟨e, he, hb, hon⟩ := bindsTo_spec (hCm.1 k b hg)
              have : yielded l.toArray a.tmps k = yielded l.toArray aE.tmps k := yielded_congr hI.sz (fun ok tk hk hd => hI.fr1 k ok tk (hgd i o k b him hio hg) (by simpa using hk) hd (by rw [← hon]; exact hal e he hb))
              simp only [this]
          have hcnt : (List.range m).countP (fun j => !(listed.setIfInBounds i true).getD j true) + (l.length - m) ≤ fuel := by
            have := count_lt (fun j => !listed.getD j true) (fun j => !(listed.setIfInBounds i true).getD j true) (fun j hj => by
                by_cases e : i = j
                · subst e; simp [hil'] at hj
                · rw [getD_set_ne true e] at hj; exact hj) i (by simpa [hil'] using hi0) (by simp [hil']) (List.range m) (List.mem_range.2 him)
            omega
          have step : ∀ W', Below w.heap.size w W' → wpAny P .any l.toArray Q fuel (listed.setIfInBounds i true) (a.put (some t) (aE.tmps.getD t undef)) W' := by
            intro W' hW'
            refine ih _ _ _ ⟨by rw [put_defers]; exact hI.df, by rw [put_size]; exact hI.sz, by simpa using hI.len, ?_, ?_, hW', ?_⟩ hcnt
            · intro j oj u hjm hj hjd hl
              by_cases htu : t = u
              · subst htu; rw [put_get_same _ _ _ (by rw [hI.sz, hEs]; exact htN)]
              · rw [put_get_ne _ _ _ _ htu]
                rw [getD_set _ _ _ hil'] at hl
                by_cases e : i = j
                · subst e; rw [hio] at hj; obtain rfl := Option.some.inj hj; rw [hdst] at hjd; exact (htu (Option.some.inj hjd)).elim
                · rw [if_neg e] at hl; exact hI.fr1 j oj u hjm hj hjd hl
            · intro u hnu
              have htu : t ≠ u := fun e => by
                subst e
                have := hnu i o him hio hdst
                rw [getD_set _ _ _ hil', if_pos rfl] at this; cases this
              rw [put_get_ne _ _ _ _ htu]
              refine hI.fr0 u (fun j oj hjm hj hjd => ?_)
              have := hnu j oj hjm hj hjd
              rw [getD_set _ _ _ hil'] at this
              by_cases e : i = j
              · rw [if_pos e] at this; cases this
              · rw [if_neg e] at this; exact this
            · intro j hj
              rw [getD_set _ _ _ hil', if_neg (by omega)]; exact hI.rest j hj
          unfold wpOp
          simp only [ho]
          rcases hop i o t him hio hdst with ⟨hw, hcalm⟩ | ⟨hw, hun⟩
          · rw [hwe, hw]
            simp only [if_true]
            refine .inl ?_
            have heq : execOp aE.eval o = execOp a.eval o := execOp_congr o hC.1 (fun x hx => by
                cases x with
                | tmp u =>
                  have hu : u ∈ readsOf o := List.mem_filterMap.2 ⟨.tmp u, by simpa using hx, rfl⟩
                  exact (look listed a W hI i o him hio hal u hu).symm
                | _ => rfl)
            have hcalm' : calmAt P o a.eval W (aE.tmps.getD t undef) := by
                refine ⟨?_⟩; have hh := (hcalm W hI.bl).out; unfold calmRun at hh ⊢; rw [← heq]; exact hh
            refine wp_of_calm hcalm' (fun W' hb => ?_)
            rw [hdst]
            exact step W' (below_tr' hI.bl hb)
          · rw [hwe, hw]
            simp only [Bool.false_eq_true, if_false, hdst]
            rw [hun] at step
            exact step W hI.bl
  refine key _ _ _ _ ⟨by rw [hEd], hEs.symm, by simp, ?_, ?_, ⟨rfl, rfl, rfl, Nat.le_refl _, fun _ _ => rfl⟩, ?_⟩ ?_
  · intro j o t _ hj hjd hl; rw [rep_false] at hl; cases hl
  · intro t _; rfl
  · intro j _; exact rep_false _ _
  · have : (List.range m).countP (fun i => !(Array.replicate l.toArray.size false).getD i true) ≤ m := Nat.le_trans List.countP_le_length (by simp)
    simp at this ⊢; omega
def guardsIn (l : List Oper) (m : Nat) : Bool := (l.take m).all fun o => match o.guard with | none => true | some (k, _) => decide (k < m)
theorem guardsIn_at (h : guardsIn l m = true) {i : Nat} {o : Oper} {k : Nat} {b : Bool} (him : i < m) (hi : l[i]? = some o) (hg : o.guard = some (k, b)) : k < m := by
  have hlt : i < l.length := (List.getElem?_eq_some_iff.1 hi).1
  have hmem : o ∈ l.take m := List.mem_take_iff_getElem.2 ⟨i, by omega, (List.getElem?_eq_some_iff.1 hi).2⟩
  have := List.all_eq_true.1 h o hmem
  rw [hg] at this
  simpa using this
theorem region_then {id : Nat} (m : Nat) (vs : List (Nat × Value)) (hm : P.follows .mixedOrders = true) (hml : m ≤ l.length)
    (chk : thenChk l m a0.tmps.size = true) (hgd : guardsIn l m = true) (hkeys : vs.all (fun kv => (l.take m).any (·.dst == some kv.1)) = true)
    (H : ∀ aE, puts a0 vs = aE → AllBut (CalmG P aE w l) l.length l.length 0 (l.take m) ∧ ∀ W, Below w.heap.size w W → wpList P l.toArray Q (l.drop m) aE W) :
    (Code.region id l.toArray true).wp P Q a0 w := by
  obtain ⟨h2, h3⟩ := H _ rfl
  refine wp_region_then hm hml chk hkeys (fun i o t him hi hd => ?_) (fun i o k b him hi hg => guardsIn_at hgd him hi hg) h3
  have hlt : i < l.length := (List.getElem?_eq_some_iff.1 hi).1
  exact AllBut.spec (l.take m) 0 h2 i o (by rw [List.getElem?_take_of_lt him]; exact hi) (by omega) (by omega) t hd
end
end Go.Proofs.YtaocnklolgdkfaaGreat
/- A region whose first m operations draw their order and yield values; the others come behind them, in the text's order: the m-th by way of others. -/
namespace Go.Proofs.YtaocnklolgdkfaaGreat
open Go.RowKit
set_option linter.unusedVariables false
set_option linter.unusedSimpArgs false
/-- Whether operation i comes behind operation j, by way of others. -/
def reachB (l : List Oper) : Nat → Nat → Nat → Bool
  | 0, _, _ => false
  | f + 1, i, j => match l[i]? with
    | none => false
    | some o => o.after.any (fun e => Region.binds .any e && e.on == j) || o.after.any (fun e => Region.binds .any e && reachB l f e.on j)
theorem reach_listed {l : List Oper} {listed : Array Bool} (dc : ∀ (i : Nat) (o : Oper), l[i]? = some o → listed.getD i false = true → ∀ e ∈ o.after, Region.binds .any e = true → listed.getD e.on false = true) :
    ∀ (f i j : Nat) (o : Oper), l[i]? = some o → (∀ e ∈ o.after, Region.binds .any e = true → listed.getD e.on false = true) → reachB l f i j = true → listed.getD j false = true
  | 0, _, _, _, _, _, h => by cases h
  | f + 1, i, j, o, hi, ha, h => by
    unfold reachB at h
    rw [hi] at h
    simp only [Bool.or_eq_true] at h
    rcases h with h | h
    · rw [Array.any_eq_true'] at h
      obtain ⟨e, he, h2⟩ := h
      simp only [Bool.and_eq_true, beq_iff_eq] at h2
      rw [← h2.2]; exact ha e he h2.1
    · rw [Array.any_eq_true'] at h
      obtain ⟨e, he, h2⟩ := h
      simp only [Bool.and_eq_true] at h2
      have hl := ha e he h2.1
      cases ho : l[e.on]? with
      | none => 
        cases f with
        | zero => cases h2.2
        | succ f => unfold reachB at h2; rw [ho] at h2; cases h2.2
      | some o' => exact reach_listed dc f e.on j o' ho (dc e.on o' ho hl) h2.2
def viaChk (l : List Oper) (m N : Nat) : Bool :=
  (List.range l.length).all fun i => match l[i]? with
    | none => true
    | some o => notSelect o && (o.after.all fun e => !Region.binds .any e || e.on < i) &&
      (if i < m then (match o.guard with | none => true | some (k, _) => bindsTo o k) &&
        (match o.dst with | some t => decide (t < N) | none => false) &&
        ((readsOf o).all fun t => (List.range m).all fun j => match l[j]? with
            | none => true
            | some oj => !(oj.dst == some t) || bindsTo o j)
       else if i = m then (List.range m).all fun j => reachB l l.length i j
       else bindsTo o (i - 1))
theorem viaChk_at {l : List Oper} {m N : Nat} (chk : viaChk l m N = true) {i : Nat} {o : Oper} (hi : l[i]? = some o) :
    (∀ cs b, o.op ≠ .select cs b) ∧ (∀ e ∈ o.after, Region.binds .any e = true → e.on < i) ∧
    (i < m → (∀ k b, o.guard = some (k, b) → bindsTo o k = true) ∧ (∃ t, o.dst = some t ∧ t < N) ∧ (∀ t ∈ readsOf o, ∀ j oj, j < m → l[j]? = some oj → oj.dst = some t → bindsTo o j = true)) ∧
    (i = m → ∀ j, j < m → reachB l l.length i j = true) ∧ (m < i → bindsTo o (i - 1) = true) := by
  unfold viaChk at chk
  have hlt : i < l.length := (List.getElem?_eq_some_iff.1 hi).1
  have h := List.all_eq_true.1 chk i (List.mem_range.2 hlt)
  simp only [hi, Bool.and_eq_true] at h
  obtain ⟨⟨hns, haf⟩, hd⟩ := h
  refine ⟨?_, ?_, ?_, ?_, ?_⟩
  · intro cs b e; rw [notSelect, e] at hns; cases hns
  · intro e he hb
    have := (Array.all_eq_true_iff_forall_mem.1 haf) e he
    simpa [hb] using this
  · intro him
    rw [if_pos him] at hd
    simp only [Bool.and_eq_true] at hd
    obtain ⟨⟨hg, hd⟩, hr⟩ := hd
    refine ⟨?_, ?_, ?_⟩
    · intro k b e; rw [e] at hg; simpa using hg
    · cases hdd : o.dst with
      | none => rw [hdd] at hd; cases hd
      | some t => rw [hdd] at hd; exact ⟨t, rfl, by simpa using hd⟩
    · intro t ht j oj hjm hj hjd
      have h2 := List.all_eq_true.1 hr t ht
      have := List.all_eq_true.1 h2 j (List.mem_range.2 hjm)
      simpa [hj, hjd] using this
  · intro him j hj
    rw [if_neg (by omega), if_pos him] at hd
    exact List.all_eq_true.1 hd j (List.mem_range.2 hj)
  · intro him
    rw [if_neg (by omega), if_neg (by omega)] at hd
    exact hd
structure RInvV (l : List Oper) (m : Nat) (a0 aE : Act) (w0 : World) (listed : Array Bool) (a : Act) (w : World) : Prop where
  df : a.defers = aE.defers
  sz : a.tmps.size = aE.tmps.size
  len : listed.size = l.length
  fr1 : ∀ (j : Nat) (o : Oper) (t : Nat), j < m → l[j]? = some o → o.dst = some t → listed.getD j false = true → a.tmps.getD t undef = aE.tmps.getD t undef
  fr0 : ∀ t : Nat, (∀ (j : Nat) (o : Oper), j < m → l[j]? = some o → o.dst = some t → listed.getD j false = false) → a.tmps.getD t undef = a0.tmps.getD t undef
  bl : Below w0.heap.size w0 w
  rest : ∀ j, m ≤ j → listed.getD j false = false
  dc : ∀ (i : Nat) (o : Oper), l[i]? = some o → listed.getD i false = true → ∀ e ∈ o.after, Region.binds .any e = true → listed.getD e.on false = true
/-- From the m-th on there is one order. -/
theorem any_tailV {P : Program} {Q : Exit → Act → World → Prop} {l : List Oper} {m N : Nat} (chk : viaChk l m N = true) : ∀ (fuel i : Nat) (listed : Array Bool) (a : Act) (W : World), m ≤ i → i ≤ l.length → listed.size = l.length →
    (∀ j, j < l.length → (listed.getD j false = true ↔ j < i)) → l.length - i ≤ fuel → wpList P l.toArray Q (l.drop i) a W → wpAny P .any l.toArray Q fuel listed a W := by
  intro fuel
  induction fuel with
  | zero =>
    intro i listed a W hmi hil hlen hls hf hw
    have hi : i = l.length := by omega
    subst hi
    refine ⟨?_, by rw [List.drop_length] at hw; exact hw⟩
    rw [List.eq_nil_iff_forall_not_mem]
    intro k hk
    obtain ⟨o, _, hkl, hk0, _⟩ := ready_mem hk hlen
    rw [(hls k hkl).2 hkl] at hk0; cases hk0
  | succ fuel ih =>
    intro i listed a W hmi hil hlen hls hf hw
    rcases Nat.lt_or_ge i l.length with hlt | hge
    · have hio : l[i]? = some l[i] := List.getElem?_eq_getElem hlt
      have hC := viaChk_at chk hio
      have hd : l.drop i = l[i] :: l.drop (i + 1) := List.drop_eq_getElem_cons hlt
      rw [hd] at hw
      refine ⟨fun hr => ?_, fun k hk => ?_⟩
      · exfalso
        have hmem : i ∈ Region.ready .any l.toArray listed := by
          rw [mem_ready]
          refine ⟨?_, l[i], by simp, fun e he hbd => (hls _ (by have := hC.2.1 e he hbd; omega)).2 (hC.2.1 e he hbd)⟩
          have h1 : i < listed.size := by omega
          have h2 : listed.getD i false = false := by
            cases hb : listed.getD i false with
            | false => rfl
            | true => exact absurd ((hls i hlt).1 hb) (Nat.lt_irrefl _)
          simpa [h1] using h2
        rw [hr] at hmem; cases hmem
      · obtain ⟨o, hko, hkl, hk0, hall⟩ := ready_mem hk hlen
        have hki : k = i := by
          rcases Nat.lt_trichotomy k i with h | h | h
          · rw [(hls k hkl).2 h] at hk0; cases hk0
          · exact h
          · obtain ⟨e, he, hb, hon⟩ := bindsTo_spec ((viaChk_at chk hko).2.2.2.2 (by omega))
            have := (hls (k - 1) (by omega)).1 (by rw [← hon]; exact hall e he hb)
            omega
        subst hki
        have heo : o = l[k] := by rw [hio] at hko; exact (Option.some.inj hko).symm
        subst heo
        have hk' : k < listed.size := by omega
        have step : ∀ a' W', wpList P l.toArray Q (l.drop (k + 1)) a' W' → wpAny P .any l.toArray Q fuel (listed.setIfInBounds k true) a' W' := by
          intro a' W' h
          refine ih (k + 1) _ a' W' (by omega) (by omega) (by simpa using hlen) (fun j hj => ?_) (by omega) h
          rw [getD_set _ _ _ hk']
          by_cases e : k = j
          · subst e; simp
          · rw [if_neg e, hls j hj]; omega
        unfold wpOp
        have hto : l.toArray[k]? = some l[k] := by simp
        simp only [hto]
        unfold wpList at hw
        split at hw
        · rename_i hwt
          rw [if_pos hwt]
          rcases hw with h | h
          · exact .inl (Oper.wp_mono step h)
          · exact .inr h
        · rename_i hwt
          rw [if_neg hwt]
          exact step _ _ hw
    · have hi : i = l.length := by omega
      subst hi
      rw [List.drop_length] at hw
      refine ⟨fun _ => hw, fun k hk => ?_⟩
      obtain ⟨o, _, hkl, hk0, _⟩ := ready_mem hk hlen
      rw [(hls k hkl).2 hkl] at hk0; cases hk0
section
variable {P : Program} {Q : Exit → Act → World → Prop} {l : List Oper} {a0 : Act} {w : World} {vs : List (Nat × Value)} {m : Nat}
theorem wp_region_via {id : Nat} (hm : P.follows .mixedOrders = true) (hml : m ≤ l.length)
    (chk : viaChk l m a0.tmps.size = true) (hkeys : vs.all (fun kv => (l.take m).any (·.dst == some kv.1)) = true)
    (hop : ∀ (i : Nat) (o : Oper) (t : Nat), i < m → l[i]? = some o → o.dst = some t → (Region.wanted o (yielded l.toArray (puts a0 vs).tmps) = true ∧ ∀ W, Below w.heap.size w W → calmAt P o (puts a0 vs).eval W ((puts a0 vs).tmps.getD t undef)) ∨ (Region.wanted o (yielded l.toArray (puts a0 vs).tmps) = false ∧ (puts a0 vs).tmps.getD t undef = undef))
    (hgd : ∀ (i : Nat) (o : Oper) (k : Nat) (b : Bool), i < m → l[i]? = some o → o.guard = some (k, b) → k < m)
    (hQ : ∀ W, Below w.heap.size w W → wpList P l.toArray Q (l.drop m) (puts a0 vs) W) :
    (Code.region id l.toArray true).wp P Q a0 w := by
  have hE : ∀ t, (∀ (j : Nat) (o : Oper), j < m → l[j]? = some o → o.dst ≠ some t) → a0.tmps.getD t undef = (puts a0 vs).tmps.getD t undef := by
    intro t hno
    refine (puts_other t vs a0 (fun kv hkv e => ?_)).symm
    have := List.all_eq_true.1 hkeys kv hkv
    obtain ⟨o, ho, hod⟩ := List.any_eq_true.1 this
    obtain ⟨j, hj, hjo⟩ := List.mem_take_iff_getElem.1 ho
    exact hno j o (by omega) (by rw [← hjo]; exact List.getElem?_eq_getElem (by omega)) (by rw [← e]; simpa using hod)
  have hEs : (puts a0 vs).tmps.size = a0.tmps.size := puts_size _ _
  have hEd : (puts a0 vs).defers = a0.defers := puts_defers _ _
  generalize puts a0 vs = aE at *
  refine wp_region_any hm ?_
  have key : ∀ (fuel : Nat) (listed : Array Bool) (a : Act) (W : World), RInvV l m a0 aE w listed a W →
      (List.range m).countP (fun i => !listed.getD i true) + (l.length - m) ≤ fuel → wpAny P .any l.toArray Q fuel listed a W := by
    intro fuel
    have fin : ∀ (fuel : Nat) (listed : Array Bool) (a : Act) (W : World), RInvV l m a0 aE w listed a W → (∀ j, j < m → listed.getD j false = true) → l.length - m ≤ fuel → wpAny P .any l.toArray Q fuel listed a W := by
      intro fuel listed a W hI hall hf
      have ea : a = aE := by
        refine act_ext _ _ hI.df hI.sz (fun t ht => ?_)
        · by_cases hw : ∃ (j : Nat) (o : Oper), j < m ∧ l[j]? = some o ∧ o.dst = some t
          · obtain ⟨j, o, hjm, hj, ho⟩ := hw
            exact hI.fr1 j o t hjm hj ho (hall j hjm)
          · rw [hI.fr0 t (fun j o hjm hj ho => (hw ⟨j, o, hjm, hj, ho⟩).elim)]
            exact hE t (fun j o hjm hj ho => hw ⟨j, o, hjm, hj, ho⟩)
      subst ea
      refine any_tailV chk fuel m listed a W (Nat.le_refl _) hml hI.len (fun j hj => ⟨fun h => ?_, fun h => hall j h⟩) hf (hQ W hI.bl)
      rcases Nat.lt_or_ge j m with h2 | h2
      · exact h2
      · rw [hI.rest j h2] at h; cases h
    -- what an operation that may come up reads is at hand
    have look : ∀ (listed : Array Bool) (a : Act) (W : World), RInvV l m a0 aE w listed a W → ∀ (i : Nat) (o : Oper), i < m → l[i]? = some o →
        (∀ e ∈ o.after, Region.binds .any e = true → listed.getD e.on false = true) → ∀ t ∈ readsOf o, a.tmps.getD t undef = aE.tmps.getD t undef := by
      intro listed a W hI i o him hi hall t ht
      have h := ((viaChk_at chk hi).2.2.1 him).2.2 t ht
      · by_cases hw : ∃ (j : Nat) (oj : Oper), j < m ∧ l[j]? = some oj ∧ oj.dst = some t
        · obtain ⟨j, oj, hjm, hj, hjd⟩ := hw
          obtain ⟨e, he, hb, hon⟩ := bindsTo_spec (h j oj hjm hj hjd)
          exact hI.fr1 j oj t hjm hj hjd (by rw [← hon]; exact hall e he hb)
        · rw [hI.fr0 t (fun j oj hjm hj ho => (hw ⟨j, oj, hjm, hj, ho⟩).elim)]
          exact hE t (fun j oj hjm hj ho => hw ⟨j, oj, hjm, hj, ho⟩)
    induction fuel with
    | zero =>
      intro listed a W hI hc
      refine fin 0 listed a W hI (fun j hj => ?_) (by omega)
      have h0 : (List.range m).countP (fun i => !listed.getD i true) = 0 := by omega
      rw [List.countP_eq_zero] at h0
      have := h0 j (List.mem_range.2 hj)
      have hj' : j < listed.size := by rw [hI.len]; omega
      simpa [hj'] using this
    | succ fuel ih =>
      intro listed a W hI hc
      by_cases hall : ∀ j, j < m → listed.getD j false = true
      · exact fin _ listed a W hI hall (by omega)
      · have hno : ∀ i, i ∈ Region.ready .any l.toArray listed → i < m := by
          intro i hi
          rcases Nat.lt_or_ge i m with h | h
          · exact h
          · exfalso
            obtain ⟨o, hio, hil, hi0, ha⟩ := ready_mem hi hI.len
            rcases Nat.eq_or_lt_of_le h with h2 | h2
            · refine hall (fun j hj => ?_)
              exact reach_listed hI.dc _ i j o hio ha ((viaChk_at chk hio).2.2.2.1 h2.symm j hj)
            · obtain ⟨e, he, hb, hon⟩ := bindsTo_spec ((viaChk_at chk hio).2.2.2.2 h2)
              have h3 := ha e he hb
              rw [hon, hI.rest (i - 1) (by omega)] at h3; cases h3
        refine ⟨fun hr => ?_, fun i hi => ?_⟩
        · exfalso
          have all : ∀ i, i < l.length → listed.getD i false = true := by
            intro i
            induction i using Nat.strongRecOn with
            | _ i ih2 =>
              intro hi
              cases hb : listed.getD i false with
              | true => rfl
              | false =>
                exfalso
                have ho : l[i]? = some l[i] := List.getElem?_eq_getElem hi
                have hmem : i ∈ Region.ready .any l.toArray listed := by
                  rw [mem_ready]
                  refine ⟨?_, l[i], by simp, fun e he hbd => ?_⟩
                  · have : i < listed.size := by have := hI.len; omega
                    simp [this] at hb ⊢; exact hb
                  · exact ih2 e.on ((viaChk_at chk ho).2.1 e he hbd) (by have := (viaChk_at chk ho).2.1 e he hbd; omega)
                rw [hr] at hmem; cases hmem
          exact hall (fun j hj => all j (by omega))
        · have him := hno i hi
          obtain ⟨o, hio, hil, hi0, hal⟩ := ready_mem hi hI.len
          have hil' : i < listed.size := by rw [hI.len]; exact hil
          have ho : l.toArray[i]? = some o := by simpa using hio
          have hC := viaChk_at chk hio
          have hCm := hC.2.2.1 him
          obtain ⟨t, hdst, htN⟩ := hCm.2.1
          have hwe : Region.wanted o (yielded l.toArray a.tmps) = Region.wanted o (yielded l.toArray aE.tmps) := by
            unfold Region.wanted
            cases hg : o.guard with
            | none => rfl
            | some kb =>
              obtain ⟨k, b⟩ := kb
              obtain ⟨e, he, hb, hon⟩ := bindsTo_spec (hCm.1 k b hg)
              have : yielded l.toArray a.tmps k = yielded l.toArray aE.tmps k := yielded_congr hI.sz (fun ok tk hk hd => hI.fr1 k ok tk (hgd i o k b him hio hg) (by simpa using hk) hd (by rw [← hon]; exact hal e he hb))
              simp only [this]
          have hcnt : (List.range m).countP (fun j => !(listed.setIfInBounds i true).getD j true) + (l.length - m) ≤ fuel := by
            have := count_lt (fun j => !listed.getD j true) (fun j => !(listed.setIfInBounds i true).getD j true) (fun j hj => by
                by_cases e : i = j
                · subst e; simp [hil'] at hj
                · rw [getD_set_ne true e] at hj; exact hj) i (by simpa [hil'] using hi0) (by simp [hil']) (List.range m) (List.mem_range.2 him)
            omega
          have step : ∀ W', Below w.heap.size w W' → wpAny P .any l.toArray Q fuel (listed.setIfInBounds i true) (a.put (some t) (aE.tmps.getD t undef)) W' := by
            intro W' hW'
            refine ih _ _ _ ⟨by rw [put_defers]; exact hI.df, by rw [put_size]; exact hI.sz, by simpa using hI.len, ?_, ?_, hW', ?_, ?_⟩ hcnt
            · intro j oj u hjm hj hjd hl
              by_cases htu : t = u
              · subst htu; rw [put_get_same _ _ _ (by rw [hI.sz, hEs]; exact htN)]
              · rw [put_get_ne _ _ _ _ htu]
                rw [getD_set _ _ _ hil'] at hl
                by_cases e : i = j
                · subst e; rw [hio] at hj; obtain rfl := Option.some.inj hj; rw [hdst] at hjd; exact (htu (Option.some.inj hjd)).elim
                · rw [if_neg e] at hl; exact hI.fr1 j oj u hjm hj hjd hl
            · intro u hnu
              have htu : t ≠ u := fun e => by
                subst e
                have := hnu i o him hio hdst
                rw [getD_set _ _ _ hil', if_pos rfl] at this; cases this
              rw [put_get_ne _ _ _ _ htu]
              refine hI.fr0 u (fun j oj hjm hj hjd => ?_)
              have := hnu j oj hjm hj hjd
              rw [getD_set _ _ _ hil'] at this
              by_cases e : i = j
              · rw [if_pos e] at this; cases this
              · rw [if_neg e] at this; exact this
            · intro j hj
              rw [getD_set _ _ _ hil', if_neg (by omega)]; exact hI.rest j hj
            · intro j oj hj hl e he hb
              rw [getD_set _ _ _ hil']
              by_cases ei : i = e.on
              · rw [if_pos ei]
              · rw [if_neg ei]
                rw [getD_set _ _ _ hil'] at hl
                by_cases ej : i = j
                · subst ej; rw [hio] at hj; obtain rfl := Option.some.inj hj; exact hal e he hb
                · rw [if_neg ej] at hl; exact hI.dc j oj hj hl e he hb
          unfold wpOp
          simp only [ho]
          rcases hop i o t him hio hdst with ⟨hw, hcalm⟩ | ⟨hw, hun⟩
          · rw [hwe, hw]
            simp only [if_true]
            refine .inl ?_
            have heq : execOp aE.eval o = execOp a.eval o := execOp_congr o hC.1 (fun x hx => by
                cases x with
                | tmp u =>
                  have hu : u ∈ readsOf o := List.mem_filterMap.2 ⟨.tmp u, by simpa using hx, rfl⟩
                  exact (look listed a W hI i o him hio hal u hu).symm
                | _ => rfl)
            have hcalm' : calmAt P o a.eval W (aE.tmps.getD t undef) := by
                refine ⟨?_⟩; have hh := (hcalm W hI.bl).out; unfold calmRun at hh ⊢; rw [← heq]; exact hh
            refine wp_of_calm hcalm' (fun W' hb => ?_)
            rw [hdst]
            exact step W' (below_tr' hI.bl hb)
          · rw [hwe, hw]
            simp only [Bool.false_eq_true, if_false, hdst]
            rw [hun] at step
            exact step W hI.bl
  refine key _ _ _ _ ⟨by rw [hEd], hEs.symm, by simp, ?_, ?_, ⟨rfl, rfl, rfl, Nat.le_refl _, fun _ _ => rfl⟩, ?_, ?_⟩ ?_
  · intro j o t _ hj hjd hl; rw [rep_false] at hl; cases hl
  · intro t _; rfl
  · intro j _; exact rep_false _ _
  · intro j o _ hl; rw [rep_false] at hl; cases hl
  · have : (List.range m).countP (fun i => !(Array.replicate l.toArray.size false).getD i true) ≤ m := Nat.le_trans List.countP_le_length (by simp)
    simp at this ⊢; omega
theorem region_via {id : Nat} (m : Nat) (vs : List (Nat × Value)) (hm : P.follows .mixedOrders = true) (hml : m ≤ l.length)
    (chk : viaChk l m a0.tmps.size = true) (hgd : guardsIn l m = true) (hkeys : vs.all (fun kv => (l.take m).any (·.dst == some kv.1)) = true)
    (H : ∀ aE, puts a0 vs = aE → AllBut (CalmG P aE w l) l.length l.length 0 (l.take m) ∧ ∀ W, Below w.heap.size w W → wpList P l.toArray Q (l.drop m) aE W) :
    (Code.region id l.toArray true).wp P Q a0 w := by
  obtain ⟨h2, h3⟩ := H _ rfl
  refine wp_region_via hm hml chk hkeys (fun i o t him hi hd => ?_) (fun i o k b him hi hg => guardsIn_at hgd him hi hg) h3
  have hlt : i < l.length := (List.getElem?_eq_some_iff.1 hi).1
  exact AllBut.spec (l.take m) 0 h2 i o (by rw [List.getElem?_take_of_lt him]; exact hi) (by omega) (by omega) t hd
end
end Go.Proofs.YtaocnklolgdkfaaGreat
/- A region whose first m operations draw their order and yield values, one of them by making a new block; the others come behind them, in the text's order. -/
namespace Go.Proofs.YtaocnklolgdkfaaGreat
open Go.RowKit
set_option linter.unusedVariables false
set_option linter.unusedSimpArgs false
structure RInvW (l : List Oper) (m q d : Nat) (V : Nat → Value) (U : Array Value) (T : TypeId) (a0 aE : Act) (w0 : World) (listed : Array Bool) (a : Act) (w : World) : Prop where
  df : a.defers = aE.defers
  sz : a.tmps.size = aE.tmps.size
  len : listed.size = l.length
  fr1 : ∀ (j : Nat) (o : Oper) (t : Nat), j < m → l[j]? = some o → o.dst = some t → t ≠ d → listed.getD j false = true → a.tmps.getD t undef = aE.tmps.getD t undef
  fr0 : ∀ t : Nat, t ≠ d → (∀ (j : Nat) (o : Oper), j < m → l[j]? = some o → o.dst = some t → listed.getD j false = false) → a.tmps.getD t undef = a0.tmps.getD t undef
  bl : Below w0.heap.size w0 w
  box : listed.getD q false = true → ∃ g, a.tmps.getD d undef = V g ∧ w0.heap.size ≤ g ∧ w.heap[g]? = some (.cells U T (0, 0))
  rest : ∀ j, m ≤ j → listed.getD j false = false
  dc : ∀ (i : Nat) (o : Oper), l[i]? = some o → listed.getD i false = true → ∀ e ∈ o.after, Region.binds .any e = true → listed.getD e.on false = true
/-- Only operation q writes slot d, and no other of the first m reads it. -/
def onlyChk (l : List Oper) (m q d : Nat) : Bool := (List.range m).all fun i => match l[i]? with
  | none => true
  | some o => if i = q then (o.dst == some d && o.guard.isNone) && !(readsOf o).contains d else !(o.dst == some d) && !(readsOf o).contains d
theorem onlyChk_at {l : List Oper} {m q d : Nat} (h : onlyChk l m q d = true) {i : Nat} {o : Oper} (him : i < m) (hi : l[i]? = some o) : (i = q → (o.dst = some d ∧ o.guard = none) ∧ d ∉ readsOf o) ∧ (i ≠ q → o.dst ≠ some d ∧ d ∉ readsOf o) := by
  have := List.all_eq_true.1 h i (List.mem_range.2 him)
  rw [hi] at this
  simp only at this
  constructor
  · intro e; rw [if_pos e] at this; simp only [Bool.and_eq_true, beq_iff_eq, Option.isNone_iff_eq_none, Bool.not_eq_true'] at this; exact ⟨this.1, by have := this.2; simpa using this⟩
  · intro e; rw [if_neg e] at this; simp only [Bool.and_eq_true, Bool.not_eq_true', beq_eq_false_iff_ne] at this; exact ⟨this.1, by have := this.2; simpa using this⟩
section
variable {P : Program} {Q : Exit → Act → World → Prop} {l : List Oper} {a0 : Act} {w : World} {vs : List (Nat × Value)} {m q d : Nat} {V : Nat → Value} {U : Array Value} {T : TypeId} {oq : Oper}
theorem wp_region_boxvia {id : Nat} (hm : P.follows .mixedOrders = true) (hml : m ≤ l.length)
    (chk : viaChk l m a0.tmps.size = true) (hkeys : vs.all (fun kv => (l.take m).any (·.dst == some kv.1)) = true)
    (hqm : q < m) (hoq : l[q]? = some oq) (hd : d < a0.tmps.size) (only : onlyChk l m q d = true)
    (hmk : ∀ (ρ : Operand → Value) (W : World), (∀ t ∈ readsOf oq, ρ (.tmp t) = (puts a0 vs).tmps.getD t undef) → (execOp ρ oq).run P W = .ok (.value (V W.heap.size)) (W.alloc (.cells U T)))
    (hop : ∀ (i : Nat) (o : Oper) (t : Nat), i < m → i ≠ q → l[i]? = some o → o.dst = some t → (Region.wanted o (yielded l.toArray (puts a0 vs).tmps) = true ∧ ∀ W, Below w.heap.size w W → calmAt P o (puts a0 vs).eval W ((puts a0 vs).tmps.getD t undef)) ∨ (Region.wanted o (yielded l.toArray (puts a0 vs).tmps) = false ∧ (puts a0 vs).tmps.getD t undef = undef))
    (hgd : ∀ (i : Nat) (o : Oper) (k : Nat) (b : Bool), i < m → l[i]? = some o → o.guard = some (k, b) → k < m ∧ k ≠ q)
    (hQ : ∀ g W, Below w.heap.size w W → w.heap.size ≤ g → W.heap[g]? = some (.cells U T (0, 0)) → wpList P l.toArray Q (l.drop m) ((puts a0 vs).put (some d) (V g)) W) :
    (Code.region id l.toArray true).wp P Q a0 w := by
  have hE : ∀ t, (∀ (j : Nat) (o : Oper), j < m → l[j]? = some o → o.dst ≠ some t) → a0.tmps.getD t undef = (puts a0 vs).tmps.getD t undef := by
    intro t hno
    refine (puts_other t vs a0 (fun kv hkv e => ?_)).symm
    have := List.all_eq_true.1 hkeys kv hkv
    obtain ⟨o, ho, hod⟩ := List.any_eq_true.1 this
    obtain ⟨j, hj, hjo⟩ := List.mem_take_iff_getElem.1 ho
    exact hno j o (by omega) (by rw [← hjo]; exact List.getElem?_eq_getElem (by omega)) (by rw [← e]; simpa using hod)
  have hEs : (puts a0 vs).tmps.size = a0.tmps.size := puts_size _ _
  have hEd : (puts a0 vs).defers = a0.defers := puts_defers _ _
  generalize puts a0 vs = aE at *
  refine wp_region_any hm ?_
  have key : ∀ (fuel : Nat) (listed : Array Bool) (a : Act) (W : World), RInvW l m q d V U T a0 aE w listed a W →
      (List.range m).countP (fun i => !listed.getD i true) + (l.length - m) ≤ fuel → wpAny P .any l.toArray Q fuel listed a W := by
    intro fuel
    have fin : ∀ (fuel : Nat) (listed : Array Bool) (a : Act) (W : World), RInvW l m q d V U T a0 aE w listed a W → (∀ j, j < m → listed.getD j false = true) → l.length - m ≤ fuel → wpAny P .any l.toArray Q fuel listed a W := by
      intro fuel listed a W hI hall hf
      obtain ⟨g, hg, hg0, hgc⟩ := hI.box (hall q hqm)
      have ea : a = aE.put (some d) (V g) := by
        refine act_ext _ _ (by rw [put_defers]; exact hI.df) (by rw [put_size]; exact hI.sz) (fun t ht => ?_)
        by_cases htd : t = d
        · subst htd; rw [hg, put_get_same _ _ _ (by rw [hEs]; exact hd)]
        · rw [put_get_ne _ _ _ _ (Ne.symm htd)]
          by_cases hw : ∃ (j : Nat) (o : Oper), j < m ∧ l[j]? = some o ∧ o.dst = some t
          · obtain ⟨j, o, hjm, hj, ho⟩ := hw
            exact hI.fr1 j o t hjm hj ho htd (hall j hjm)
          · rw [hI.fr0 t htd (fun j o hjm hj ho => (hw ⟨j, o, hjm, hj, ho⟩).elim)]
            exact hE t (fun j o hjm hj ho => hw ⟨j, o, hjm, hj, ho⟩)
      subst ea
      refine any_tailV chk fuel m listed _ W (Nat.le_refl _) hml hI.len (fun j hj => ⟨fun h => ?_, fun h => hall j h⟩) hf (hQ g W hI.bl hg0 hgc)
      rcases Nat.lt_or_ge j m with h2 | h2
      · exact h2
      · rw [hI.rest j h2] at h; cases h
    -- what an operation that may come up reads is at hand
    have look : ∀ (listed : Array Bool) (a : Act) (W : World), RInvW l m q d V U T a0 aE w listed a W → ∀ (i : Nat) (o : Oper), i < m → l[i]? = some o →
        (∀ e ∈ o.after, Region.binds .any e = true → listed.getD e.on false = true) → ∀ t ∈ readsOf o, t ≠ d → a.tmps.getD t undef = aE.tmps.getD t undef := by
      intro listed a W hI i o him hi hall t ht htd
      have h := ((viaChk_at chk hi).2.2.1 him).2.2 t ht
      · by_cases hw : ∃ (j : Nat) (oj : Oper), j < m ∧ l[j]? = some oj ∧ oj.dst = some t
        · obtain ⟨j, oj, hjm, hj, hjd⟩ := hw
          obtain ⟨e, he, hb, hon⟩ := bindsTo_spec (h j oj hjm hj hjd)
          exact hI.fr1 j oj t hjm hj hjd htd (by rw [← hon]; exact hall e he hb)
        · rw [hI.fr0 t htd (fun j oj hjm hj ho => (hw ⟨j, oj, hjm, hj, ho⟩).elim)]
          exact hE t (fun j oj hjm hj ho => hw ⟨j, oj, hjm, hj, ho⟩)
    induction fuel with
    | zero =>
      intro listed a W hI hc
      refine fin 0 listed a W hI (fun j hj => ?_) (by omega)
      have h0 : (List.range m).countP (fun i => !listed.getD i true) = 0 := by omega
      rw [List.countP_eq_zero] at h0
      have := h0 j (List.mem_range.2 hj)
      have hj' : j < listed.size := by rw [hI.len]; omega
      simpa [hj'] using this
    | succ fuel ih =>
      intro listed a W hI hc
      by_cases hall : ∀ j, j < m → listed.getD j false = true
      · exact fin _ listed a W hI hall (by omega)
      · have hno : ∀ i, i ∈ Region.ready .any l.toArray listed → i < m := by
          intro i hi
          rcases Nat.lt_or_ge i m with h | h
          · exact h
          · exfalso
            obtain ⟨o, hio, hil, hi0, ha⟩ := ready_mem hi hI.len
            rcases Nat.eq_or_lt_of_le h with h2 | h2
            · refine hall (fun j hj => ?_)
              exact reach_listed hI.dc _ i j o hio ha ((viaChk_at chk hio).2.2.2.1 h2.symm j hj)
            · obtain ⟨e, he, hb, hon⟩ := bindsTo_spec ((viaChk_at chk hio).2.2.2.2 h2)
              have h3 := ha e he hb
              rw [hon, hI.rest (i - 1) (by omega)] at h3; cases h3
        refine ⟨fun hr => ?_, fun i hi => ?_⟩
        · exfalso
          have all : ∀ i, i < l.length → listed.getD i false = true := by
            intro i
            induction i using Nat.strongRecOn with
            | _ i ih2 =>
              intro hi
              cases hb : listed.getD i false with
              | true => rfl
              | false =>
                exfalso
                have ho : l[i]? = some l[i] := List.getElem?_eq_getElem hi
                have hmem : i ∈ Region.ready .any l.toArray listed := by
                  rw [mem_ready]
                  refine ⟨?_, l[i], by simp, fun e he hbd => ?_⟩
                  · have : i < listed.size := by have := hI.len; omega
                    simp [this] at hb ⊢; exact hb
                  · exact ih2 e.on ((viaChk_at chk ho).2.1 e he hbd) (by have := (viaChk_at chk ho).2.1 e he hbd; omega)
                rw [hr] at hmem; cases hmem
          exact hall (fun j hj => all j (by omega))
        · have him := hno i hi
          obtain ⟨o, hio, hil, hi0, hal⟩ := ready_mem hi hI.len
          have hil' : i < listed.size := by rw [hI.len]; exact hil
          have ho : l.toArray[i]? = some o := by simpa using hio
          have hC := viaChk_at chk hio
          have hCm := hC.2.2.1 him
          obtain ⟨t, hdst, htN⟩ := hCm.2.1
          have hwe : Region.wanted o (yielded l.toArray a.tmps) = Region.wanted o (yielded l.toArray aE.tmps) := by
            unfold Region.wanted
            cases hg : o.guard with
            | none => rfl
            | some kb =>
              obtain ⟨k, b⟩ := kb
              obtain ⟨e, he, hb, hon⟩ := bindsTo_spec (hCm.1 k b hg)
              have : yielded l.toArray a.tmps k = yielded l.toArray aE.tmps k := yielded_congr hI.sz (fun ok tk hk hdk => hI.fr1 k ok tk (hgd i o k b him hio hg).1 (by simpa using hk) hdk (fun e2 => ((onlyChk_at only (hgd i o k b him hio hg).1 (by simpa using hk)).2 (hgd i o k b him hio hg).2).1 (by rw [hdk, e2])) (by rw [← hon]; exact hal e he hb))
              simp only [this]
          have hcnt : (List.range m).countP (fun j => !(listed.setIfInBounds i true).getD j true) + (l.length - m) ≤ fuel := by
            have := count_lt (fun j => !listed.getD j true) (fun j => !(listed.setIfInBounds i true).getD j true) (fun j hj => by
                by_cases e : i = j
                · subst e; simp [hil'] at hj
                · rw [getD_set_ne true e] at hj; exact hj) i (by simpa [hil'] using hi0) (by simp [hil']) (List.range m) (List.mem_range.2 him)
            omega
          have dcS : ∀ (i2 : Nat) (o2 : Oper), l[i2]? = some o2 → (listed.setIfInBounds i true).getD i2 false = true → ∀ e ∈ o2.after, Region.binds .any e = true → (listed.setIfInBounds i true).getD e.on false = true := by
            intro j oj hj hl e he hb
            rw [getD_set _ _ _ hil']
            by_cases ei : i = e.on
            · rw [if_pos ei]
            · rw [if_neg ei]
              rw [getD_set _ _ _ hil'] at hl
              by_cases ej : i = j
              · subst ej; rw [hio] at hj; obtain rfl := Option.some.inj hj; exact hal e he hb
              · rw [if_neg ej] at hl; exact hI.dc j oj hj hl e he hb
          by_cases hiq : i = q
          · -- the new block
            subst hiq
            have eo : o = oq := by rw [hoq] at hio; exact (Option.some.inj hio).symm
            subst eo
            obtain ⟨⟨hod, hogd⟩, hord⟩ := (onlyChk_at only him hio).1 rfl
            have hrun := hmk a.eval W (fun t ht => look listed a W hI i o him hio hal t ht (fun e => hord (e ▸ ht)))
            have hw : Region.wanted o (yielded l.toArray a.tmps) = true := by unfold Region.wanted; rw [hogd]
            unfold wpOp
            simp only [ho, hw, if_true]
            refine .inl ?_
            unfold Oper.wp
            rw [hrun]
            simp only [Oper.upon, hod]
            refine ih _ _ _ ⟨by rw [put_defers]; exact hI.df, by rw [put_size]; exact hI.sz, by simpa using hI.len, ?_, ?_, bal hI.bl _, fun _ => ⟨W.heap.size, put_get_same _ _ _ (by rw [hI.sz, hEs]; exact hd), hI.bl.size, heap_alloc_new _ _⟩, ?_, dcS⟩ hcnt
            · intro j oj u hjm hj hjd hud hl
              rw [put_get_ne _ _ _ _ (Ne.symm hud)]
              rw [getD_set _ _ _ hil'] at hl
              by_cases e : i = j
              · subst e; rw [hio] at hj; obtain rfl := Option.some.inj hj; rw [hod] at hjd; exact (hud (Option.some.inj hjd).symm).elim
              · rw [if_neg e] at hl; exact hI.fr1 j oj u hjm hj hjd hud hl
            · intro u hud hnu
              rw [put_get_ne _ _ _ _ (Ne.symm hud)]
              refine hI.fr0 u hud (fun j oj hjm hj hjd => ?_)
              have := hnu j oj hjm hj hjd
              rw [getD_set _ _ _ hil'] at this
              by_cases e : i = j
              · rw [if_pos e] at this; cases this
              · rw [if_neg e] at this; exact this
            · intro j hj
              rw [getD_set _ _ _ hil', if_neg (by omega)]; exact hI.rest j hj
          · obtain ⟨hon1, hon2⟩ := (onlyChk_at only him hio).2 hiq
            have htd : t ≠ d := fun e => hon1 (by rw [hdst, e])
            have step : ∀ W', Below w.heap.size w W' → (∀ g, w.heap.size ≤ g → W.heap[g]? = some (.cells U T (0, 0)) → W'.heap[g]? = some (.cells U T (0, 0))) → wpAny P .any l.toArray Q fuel (listed.setIfInBounds i true) (a.put (some t) (aE.tmps.getD t undef)) W' := by
              intro W' hW' hkeep
              refine ih _ _ _ ⟨by rw [put_defers]; exact hI.df, by rw [put_size]; exact hI.sz, by simpa using hI.len, ?_, ?_, hW', ?_, ?_, dcS⟩ hcnt
              · intro j oj u hjm hj hjd hud hl
                by_cases htu : t = u
                · subst htu; rw [put_get_same _ _ _ (by rw [hI.sz, hEs]; exact htN)]
                · rw [put_get_ne _ _ _ _ htu]
                  rw [getD_set _ _ _ hil'] at hl
                  by_cases e : i = j
                  · subst e; rw [hio] at hj; obtain rfl := Option.some.inj hj; rw [hdst] at hjd; exact (htu (Option.some.inj hjd)).elim
                  · rw [if_neg e] at hl; exact hI.fr1 j oj u hjm hj hjd hud hl
              · intro u hud hnu
                have htu : t ≠ u := fun e => by
                  subst e
                  have := hnu i o him hio hdst
                  rw [getD_set _ _ _ hil', if_pos rfl] at this; cases this
                rw [put_get_ne _ _ _ _ htu]
                refine hI.fr0 u hud (fun j oj hjm hj hjd => ?_)
                have := hnu j oj hjm hj hjd
                rw [getD_set _ _ _ hil'] at this
                by_cases e : i = j
                · rw [if_pos e] at this; cases this
                · rw [if_neg e] at this; exact this
              · intro hl
                rw [getD_set _ _ _ hil', if_neg hiq] at hl
                obtain ⟨g, h1, h2, h3⟩ := hI.box hl
                exact ⟨g, by rw [put_get_ne _ _ _ _ htd]; exact h1, h2, hkeep g h2 h3⟩
              · intro j hj
                rw [getD_set _ _ _ hil', if_neg (by omega)]; exact hI.rest j hj
            unfold wpOp
            simp only [ho]
            rcases hop i o t him hiq hio hdst with ⟨hw, hcalm⟩ | ⟨hw, hun⟩
            · rw [hwe, hw]
              simp only [if_true]
              refine .inl ?_
              have heq : execOp aE.eval o = execOp a.eval o := execOp_congr o hC.1 (fun x hx => by
                  cases x with
                  | tmp u =>
                    have hu : u ∈ readsOf o := List.mem_filterMap.2 ⟨.tmp u, by simpa using hx, rfl⟩
                    exact (look listed a W hI i o him hio hal u hu (fun e => hon2 (e ▸ hu))).symm
                  | _ => rfl)
              have hcalm' : calmAt P o a.eval W (aE.tmps.getD t undef) := by
                  refine ⟨?_⟩; have hh := (hcalm W hI.bl).out; unfold calmRun at hh ⊢; rw [← heq]; exact hh
              refine wp_of_calm hcalm' (fun W' hb => ?_)
              rw [hdst]
              exact step W' (below_tr' hI.bl hb) (fun g _ hg => by rw [hb.block _ (Array.getElem?_eq_some_iff.1 hg).1]; exact hg)
            · rw [hwe, hw]
              simp only [Bool.false_eq_true, if_false, hdst]
              rw [hun] at step
              exact step W hI.bl (fun _ _ h => h)
  refine key _ _ _ _ ⟨by rw [hEd], hEs.symm, by simp, ?_, ?_, ⟨rfl, rfl, rfl, Nat.le_refl _, fun _ _ => rfl⟩, (fun h => by rw [rep_false] at h; cases h), ?_, ?_⟩ ?_
  · intro j o t _ hj hjd _ hl; rw [rep_false] at hl; cases hl
  · intro t _ _; rfl
  · intro j _; exact rep_false _ _
  · intro j o _ hl; rw [rep_false] at hl; cases hl
  · have : (List.range m).countP (fun i => !(Array.replicate l.toArray.size false).getD i true) ≤ m := Nat.le_trans List.countP_le_length (by simp)
    simp at this ⊢; omega
def guardsOff (l : List Oper) (m q : Nat) : Bool := (l.take m).all fun o => match o.guard with | none => true | some (k, _) => decide (k < m) && k != q
theorem guardsOff_at (h : guardsOff l m q = true) {i : Nat} {o : Oper} {k : Nat} {b : Bool} (him : i < m) (hi : l[i]? = some o) (hg : o.guard = some (k, b)) : k < m ∧ k ≠ q := by
  have hlt : i < l.length := (List.getElem?_eq_some_iff.1 hi).1
  have hmem : o ∈ l.take m := List.mem_take_iff_getElem.2 ⟨i, by omega, (List.getElem?_eq_some_iff.1 hi).2⟩
  have := List.all_eq_true.1 h o hmem
  rw [hg] at this
  simp only [Bool.and_eq_true, decide_eq_true_eq, bne_iff_ne] at this
  exact this
/-- m: the drawn ones; q: the one among them that makes the block (cells U, slot d, its value V of the block's number). -/
theorem region_boxvia {id : Nat} (m q d : Nat) (V : Nat → Value) (U : Array Value) (T : TypeId) (vs : List (Nat × Value)) (hm : P.follows .mixedOrders = true) (hml : m ≤ l.length) (hoq : l[q]? = some oq)
    (chk : viaChk l m a0.tmps.size = true) (hgd : guardsOff l m q = true) (hkeys : vs.all (fun kv => (l.take m).any (·.dst == some kv.1)) = true) (hqm : q < m) (hd : d < a0.tmps.size) (only : onlyChk l m q d = true)
    (H : ∀ aE, puts a0 vs = aE → (∀ (ρ : Operand → Value) (W : World), (∀ t ∈ readsOf oq, ρ (.tmp t) = aE.tmps.getD t undef) → (execOp ρ oq).run P W = .ok (.value (V W.heap.size)) (W.alloc (.cells U T))) ∧
      AllBut (CalmG P aE w l) q q 0 (l.take m) ∧ ∀ g W, Below w.heap.size w W → w.heap.size ≤ g → W.heap[g]? = some (.cells U T (0, 0)) → wpList P l.toArray Q (l.drop m) (aE.put (some d) (V g)) W) :
    (Code.region id l.toArray true).wp P Q a0 w := by
  obtain ⟨h1, h2, h3⟩ := H _ rfl
  refine wp_region_boxvia hm hml chk hkeys hqm hoq hd only h1 (fun i o t him hiq hi hd => ?_) (fun i o k b him hi hg => guardsOff_at hgd him hi hg) h3
  have hlt : i < l.length := (List.getElem?_eq_some_iff.1 hi).1
  exact AllBut.spec (l.take m) 0 h2 i o (by rw [List.getElem?_take_of_lt him]; exact hi) (by omega) (by omega) t hd
end
end Go.Proofs.YtaocnklolgdkfaaGreat
/- A region whose first m operations draw their order and yield values of which a relation is known (slot, value, world); the others come behind them, in the text's order. (Printed by genregx.py, a program of this session.) -/
namespace Go.Proofs.YtaocnklolgdkfaaGreat
open Go.RowKit
set_option linter.unusedVariables false
set_option linter.unusedSimpArgs false
structure relAt (P : Program) (o : Oper) (a : Act) (W : World) (S : Value → World → Prop) (Q : Exit → Act → World → Prop) : Prop where
  out : o.wp P a W (fun a' W' => ∃ v, a' = a.put o.dst v ∧ Below W.heap.size W W' ∧ S v W') Q
theorem rel_calm {P : Program} {o : Oper} {a : Act} {W : World} {S : Value → World → Prop} {Q : Exit → Act → World → Prop} {v : Value} (h : calmAt P o a.eval W v) (hS : ∀ W', Below W.heap.size W W' → S v W') : relAt P o a W S Q :=
  ⟨wp_of_calm h fun W' hb => ⟨v, rfl, hb, hS W' hb⟩⟩
structure RInvX (l : List Oper) (m : Nat) (Rel : Nat → Value → World → Prop) (a0 : Act) (w0 : World) (listed : Array Bool) (a : Act) (w : World) : Prop where
  df : a.defers = a0.defers
  sz : a.tmps.size = a0.tmps.size
  len : listed.size = l.length
  fr1 : ∀ (j : Nat) (o : Oper) (t : Nat), j < m → l[j]? = some o → o.dst = some t → listed.getD j false = true → Rel t (a.tmps.getD t undef) w
  fr0 : ∀ t : Nat, (∀ (j : Nat) (o : Oper), j < m → l[j]? = some o → o.dst = some t → listed.getD j false = false) → a.tmps.getD t undef = a0.tmps.getD t undef
  bl : Below w0.heap.size w0 w
  rest : ∀ j, m ≤ j → listed.getD j false = false
  dc : ∀ (i : Nat) (o : Oper), l[i]? = some o → listed.getD i false = true → ∀ e ∈ o.after, Region.binds .any e = true → listed.getD e.on false = true
/-- What an operation may take of the slots that it reads. -/
def Taken (ts : List Nat) (Rel : Nat → Value → World → Prop) (a0 a : Act) (W : World) (u : Nat) : Prop := (ts.contains u = true → Rel u (a.tmps.getD u undef) W) ∧ (ts.contains u = false → a.tmps.getD u undef = a0.tmps.getD u undef)
structure RelOk (P : Program) (ts : List Nat) (Rel : Nat → Value → World → Prop) (Q : Exit → Act → World → Prop) (a0 : Act) (w : World) (o : Oper) : Prop where
  out : o.guard = none ∧ ∀ t, o.dst = some t → ∀ (a : Act) (W : World), Below w.heap.size w W → (∀ u, (readsOf o).contains u = true → Taken ts Rel a0 a W u) → relAt P o a W (Rel t) Q
def AllR (p : Oper → Prop) : List Oper → Prop
  | [] => True
  | o :: r => p o ∧ AllR p r
theorem AllR.spec {p : Oper → Prop} {l : List Oper} (h : AllR p l) : ∀ o, o ∈ l → p o := by
  induction l with
  | nil => intro o ho; cases ho
  | cons x r ih =>
    intro o ho
    rcases List.mem_cons.1 ho with e | e
    · rw [e]; exact h.1
    · exact ih h.2 o e
theorem puts_vals (v : Nat → Value) (t : Nat) : ∀ (ts : List Nat) (a : Act), t ∈ ts → t < a.tmps.size → (puts a (ts.map fun t => (t, v t))).tmps.getD t undef = v t
  | [], _, h, _ => by cases h
  | u :: r, a, h, hs => by
    show (puts (a.put (some u) (v u)) (r.map fun t => (t, v t))).tmps.getD t undef = v t
    by_cases hr : t ∈ r
    · exact puts_vals v t r _ hr (by rw [put_size]; exact hs)
    · rcases List.mem_cons.1 h with e | e
      · subst e
        rw [puts_other t _ _ (fun kv hkv e => hr (by obtain ⟨x, hx, rfl⟩ := List.mem_map.1 hkv; rw [← e]; exact hx)), put_get_same _ _ _ hs]
      · exact (hr e).elim
section
variable {P : Program} {Q : Exit → Act → World → Prop} {l : List Oper} {a0 : Act} {w : World} {m : Nat} {ts : List Nat} {Rel : Nat → Value → World → Prop}
end
/-- Relations by slots. -/
def relOf : List (Nat × (Value → World → Prop)) → Nat → Value → World → Prop
  | [], _, _, _ => True
  | kv :: r, t, v, W => if kv.1 = t then kv.2 v W else relOf r t v W
structure Mono (R : Value → World → Prop) : Prop where
  out : ∀ v W W', R v W → Below W.heap.size W W' → R v W'
def AllM : List (Nat × (Value → World → Prop)) → Prop
  | [] => True
  | kv :: r => Mono kv.2 ∧ AllM r
theorem AllM.spec : ∀ (rs : List (Nat × (Value → World → Prop))), AllM rs → ∀ t v W W', relOf rs t v W → Below W.heap.size W W' → relOf rs t v W'
  | [], _, _, _, _, _, _, _ => trivial
  | kv :: r, h, t, v, W, W', hr, hb => by
    unfold relOf at hr ⊢
    split
    · rename_i e; rw [if_pos e] at hr; exact h.1.out v W W' hr hb
    · rename_i e; rw [if_neg e] at hr; exact AllM.spec r h.2 t v W W' hr hb
end Go.Proofs.YtaocnklolgdkfaaGreat
/- A region whose first m operations draw their order and yield values of which a relation is known (slot, value, the interval of blocks that it made, world): the intervals lie apart. (Printed by genregi.py, a program of this session.) -/
namespace Go.Proofs.YtaocnklolgdkfaaGreat
open Go.RowKit
set_option linter.unusedVariables false
set_option linter.unusedSimpArgs false
structure RInvI (cp : List (Nat × Nat)) (l : List Oper) (m : Nat) (Rel : Nat → Value → Nat → Nat → World → Prop) (a0 : Act) (w0 : World) (lo hi : Nat → Nat) (listed : Array Bool) (a : Act) (w : World) : Prop where
  df : a.defers = a0.defers
  sz : a.tmps.size = a0.tmps.size
  len : listed.size = l.length
  fr1 : ∀ (j : Nat) (o : Oper) (t : Nat), j < m → l[j]? = some o → o.dst = some t → listed.getD j false = true → Rel t (a.tmps.getD t undef) (lo t) (hi t) w
  iv1 : ∀ (j : Nat) (o : Oper) (t : Nat), j < m → l[j]? = some o → o.dst = some t → listed.getD j false = true → w0.heap.size ≤ lo t ∧ hi t ≤ w.heap.size
  iv2 : ∀ (j : Nat) (o : Oper) (t : Nat), j < m → l[j]? = some o → o.dst = some t → listed.getD j false = true → ∀ (j' : Nat) (o' : Oper) (t' : Nat), j' < m → l[j']? = some o' → o'.dst = some t' → listed.getD j' false = true → t ≠ t' → hi t ≤ lo t' ∨ hi t' ≤ lo t
  cy : ∀ (t u : Nat), (t, u) ∈ cp → ∀ (j : Nat) (o : Oper), j < m → l[j]? = some o → o.dst = some t → listed.getD j false = true → a.tmps.getD t undef = a.tmps.getD u undef
  fr0 : ∀ t : Nat, (∀ (j : Nat) (o : Oper), j < m → l[j]? = some o → o.dst = some t → listed.getD j false = false) → a.tmps.getD t undef = a0.tmps.getD t undef
  bl : Below w0.heap.size w0 w
  rest : ∀ j, m ≤ j → listed.getD j false = false
  dc : ∀ (i : Nat) (o : Oper), l[i]? = some o → listed.getD i false = true → ∀ e ∈ o.after, Region.binds .any e = true → listed.getD e.on false = true
/-- What an operation may take of the slots that it reads. -/
def TakenI (ts : List Nat) (Rel : Nat → Value → Nat → Nat → World → Prop) (a0 a : Act) (W : World) (u : Nat) : Prop := (ts.contains u = true → ∃ lo hi, Rel u (a.tmps.getD u undef) lo hi W) ∧ (ts.contains u = false → a.tmps.getD u undef = a0.tmps.getD u undef)
structure RelOkI (cp : List (Nat × Nat)) (P : Program) (ts : List Nat) (Rel : Nat → Value → Nat → Nat → World → Prop) (Q : Exit → Act → World → Prop) (a0 : Act) (w : World) (o : Oper) : Prop where
  out : o.guard = none ∧ ∀ t, o.dst = some t → ∀ (a : Act) (W : World), Below w.heap.size w W → (∀ u, (readsOf o).contains u = true → TakenI ts Rel a0 a W u) → relAt P o a W (fun v W' => Rel t v W.heap.size W'.heap.size W' ∧ ∀ u, (t, u) ∈ cp → v = a.tmps.getD u undef) Q
theorem RelOkI.copy {cp : List (Nat × Nat)} {P : Program} {ts : List Nat} {Rel : Nat → Value → Nat → Nat → World → Prop} {Q : Exit → Act → World → Prop} {a0 : Act} {w : World} {o : Oper} (t u : Nat) (hd : o.dst = some t) (hg : o.guard = none) (hop : o.op = .assign (.tmp u)) (hc : cp.all (fun tu => !(tu.1 == t) || (tu.2 == u)) = true)
    (h : ∀ v lo hi W, Rel t v lo hi W) : RelOkI cp P ts Rel Q a0 w o :=
  ⟨hg, fun t' hd' => by
    rw [hd] at hd'; obtain rfl := Option.some.inj hd'
    exact fun a W hW hr => rel_calm (calm_run (v := a.tmps.getD u undef) (by simp [execOp, hop, Act.eval, go_sem])) (fun _ _ => ⟨h _ _ _ _, fun u' hu => by rw [List.all_eq_true] at hc; have := hc _ hu; simp at this; rw [this]⟩)⟩
section
variable {P : Program} {Q : Exit → Act → World → Prop} {l : List Oper} {a0 : Act} {w : World} {m : Nat} {ts : List Nat} {Rel : Nat → Value → Nat → Nat → World → Prop} {cp : List (Nat × Nat)}
end
/-- Relations by slots. -/
def relOfI : List (Nat × (Value → Nat → Nat → World → Prop)) → Nat → Value → Nat → Nat → World → Prop
  | [], _, _, _, _, _ => True
  | kv :: r, t, v, lo, hi, W => if kv.1 = t then kv.2 v lo hi W else relOfI r t v lo hi W
structure MonoI (R : Value → Nat → Nat → World → Prop) : Prop where
  out : ∀ v lo hi W W', R v lo hi W → Below W.heap.size W W' → R v lo hi W'
def AllMI : List (Nat × (Value → Nat → Nat → World → Prop)) → Prop
  | [] => True
  | kv :: r => MonoI kv.2 ∧ AllMI r
theorem AllMI.spec : ∀ (rs : List (Nat × (Value → Nat → Nat → World → Prop))), AllMI rs → ∀ t v lo hi W W', relOfI rs t v lo hi W → Below W.heap.size W W' → relOfI rs t v lo hi W'
  | [], _, _, _, _, _, _, _, _, _ => trivial
  | kv :: r, h, t, v, lo, hi, W, W', hr, hb => by
    unfold relOfI at hr ⊢
    split
    · rename_i e; rw [if_pos e] at hr; exact h.1.out v lo hi W W' hr hb
    · rename_i e; rw [if_neg e] at hr; exact AllMI.spec r h.2 t v lo hi W W' hr hb
end Go.Proofs.YtaocnklolgdkfaaGreat

