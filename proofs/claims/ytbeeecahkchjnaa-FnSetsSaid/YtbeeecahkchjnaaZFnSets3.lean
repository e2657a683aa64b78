/- Texts of the claim, in build order: G2L, K1, K2, K3, M1, G3, P2, F3, P1, RegY, P3, P4, Auto, RegJ, RegC, M2, M3. No condition. -/
import Derived.Lib.AppendZeros
import Derived.Laws.AppendOwnNone
import Derived.Test.YtbeeecahkchjnaaZFnSets2
/- Contracts: the laws' own lists of lines: compared, intact. (Printed by geng1.py, a program of this session.) -/
namespace Go.Proofs.Ytbeeecahkchjnaa
open Go.RowKit
set_option linter.unusedVariables false
set_option linter.unusedSimpArgs false
end Go.Proofs.Ytbeeecahkchjnaa
/- Contracts: comparisons of points and lines; lists that may be empty. -/
namespace Go.Proofs.Ytbeeecahkchjnaa
open Go.RowKit
set_option linter.unusedVariables false
set_option linter.unusedSimpArgs false
end Go.Proofs.Ytbeeecahkchjnaa
/- Contracts: triples compared; lists that ascend. (Printed by genk2.py, a program of this session.) -/
namespace Go.Proofs.Ytbeeecahkchjnaa
open Go.RowKit
set_option linter.unusedVariables false
set_option linter.unusedSimpArgs false
end Go.Proofs.Ytbeeecahkchjnaa
/- Contracts: figures: points and lines, as the program and as the reference take them. -/
namespace Go.Proofs.Ytbeeecahkchjnaa
open Go.RowKit
set_option linter.unusedVariables false
set_option linter.unusedSimpArgs false
/-- A figure's value. -/
@[reducible] def figV (b1 : Option Addr) (n1 c1 : Nat) (b2 : Option Addr) (n2 c2 : Nat) : Value := .agg #[.slice b1 n1 c1, .slice b2 n2 c2]
end Go.Proofs.Ytbeeecahkchjnaa
/- Contracts: slices.Grow of no list; slices.Concat of the three rows of a map. -/
namespace Go.Proofs.Ytbeeecahkchjnaa
open Go.RowKit
set_option linter.unusedVariables false
set_option linter.unusedSimpArgs false
structure OwnI (base : Nat) (w : World) (l : List Int) (e : Ending) (w' : World) : Prop where
  out : ∃ v, e = .returned v ∧ w'.ownsRow base 2 1 v l.length (ints l) ∧ Below base w w'
theorem ints_app (a b : List Int) : ints (a ++ b) = ints a ++ ints b := by simp [ints]
theorem src3 {W : World} {g o : Nat} {x y z : Int} (d0 : W.cell? ⟨g, o, none⟩ = some (.int .i64 x)) (d1 : W.cell? ⟨g, o + 1, none⟩ = some (.int .i64 y)) (d2 : W.cell? ⟨g, o + 2, none⟩ = some (.int .i64 z)) :
    ∀ (j : Nat) (u : Value), [Value.int .i64 x, .int .i64 y, .int .i64 z][j]? = some u → W.cell? ((⟨g, o, none⟩ : Addr).add j) = some u := by
  intro j u hj
  have hadd : ∀ j, (⟨g, o, none⟩ : Addr).add j = ⟨g, o + j, none⟩ := by intro j; unfold Addr.add; split <;> simp_all
  rw [hadd]
  match j, hj with
  | 0, hj => simpa using d0.trans (by simpa using hj)
  | 1, hj => exact d1.trans (by simpa using hj)
  | 2, hj => exact d2.trans (by simpa using hj)
  | j + 3, hj => simp at hj
end Go.Proofs.Ytbeeecahkchjnaa
/- Contracts: the laws' own lists of points and lines, in one word; the laws' own figures. -/
namespace Go.Proofs.Ytbeeecahkchjnaa
open Go.RowKit
set_option linter.unusedVariables false
set_option linter.unusedSimpArgs false
/-- Laid with room behind. -/
structure LaidR (w : World) (n : Nat) (l : List Pt) (e : Ending) (w' : World) : Prop where
  out : ∃ g, e = .returned (.slice (some ⟨g, 0, none⟩) n (n + roomN n)) ∧ w.heap.size ≤ g ∧ g < w'.heap.size ∧ RoomP w' g (n + roomN n) 61 ∧ PtsAt w' g 0 (n + roomN n) (withRoomP l) ∧ Below w.heap.size w w'
structure LaidRL (w : World) (n : Nat) (l : List Pt) (e : Ending) (w' : World) : Prop where
  out : ∃ g, e = .returned (.slice (some ⟨g, 0, none⟩) n (n + roomN n)) ∧ w.heap.size ≤ g ∧ g < w'.heap.size ∧ RoomP w' g (n + roomN n) 63 ∧ PtsAt w' g 0 (n + roomN n) (withRoomP l) ∧ Below w.heap.size w w'
/-- Laid, or nil. -/
structure LaidB (w : World) (n : Nat) (l : List Pt) (e : Ending) (w' : World) : Prop where
  out : ∃ b c, e = .returned (.slice b n c) ∧ ListP w' b n l ∧ (∀ a o, b = some ⟨a, o, none⟩ → w.heap.size ≤ a) ∧ Below w.heap.size w w'
end Go.Proofs.Ytbeeecahkchjnaa
/- Contracts: slices.Concat of two lists of points; the codes of two triples. -/
namespace Go.Proofs.Ytbeeecahkchjnaa
open Go.RowKit
set_option linter.unusedVariables false
set_option linter.unusedSimpArgs false
structure OwnP (base : Nat) (w : World) (n : Nat) (l : List Pt) (e : Ending) (w' : World) : Prop where
  out : ∃ v, e = .returned v ∧ w'.ownsRow base 61 3 v n (ptCs l) ∧ Below base w w'
/-- A list: no list, or laid open at an address. -/
def ListC (w : World) (b : Option Addr) (n c : Nat) (l : List Pt) : Prop := l.length = n ∧ ((b = none ∧ n = 0 ∧ c = 0) ∨ ∃ g, b = some ⟨g, 0, none⟩ ∧ PtsAt w g 0 n l)
theorem ListC.below {w w1 : World} {b : Option Addr} {n c : Nat} {l : List Pt} (h : ListC w b n c l) (hb : Below w.heap.size w w1) : ListC w1 b n c l := by
  refine ⟨h.1, ?_⟩
  rcases h.2 with h0 | ⟨g, e, hp⟩
  · exact .inl h0
  · exact .inr ⟨g, e, hp.below hb⟩
theorem ListC.list {w : World} {b : Option Addr} {n c : Nat} {l : List Pt} (h : ListC w b n c l) : ListP w b n l := by
  rcases h.2 with ⟨rfl, rfl, rfl⟩ | ⟨g, rfl, hp⟩
  · exact ⟨h.1, fun h0 => absurd h0 (Nat.lt_irrefl _)⟩
  · exact ⟨h.1, fun _ => ⟨g, 0, rfl, hp⟩⟩
end Go.Proofs.Ytbeeecahkchjnaa
/- Plain words: a fourth harmonic point: the points it is made with are there. -/
namespace Go.Proofs.Ytbeeecahkchjnaa
set_option linter.unusedVariables false
set_option linter.unusedSimpArgs false
theorem allP_pt {n : Nat} (hp : prB (n : Int) = true) {a : Pt} (h : a ∈ allP n) : ptB (n : Int) a.1 a.2.1 a.2.2 = true := by
  have hb := prB_bd hp
  have mk : ∀ a b c : Int, (0 ≤ a ∧ a ≤ (n : Int) - 1) → (0 ≤ b ∧ b ≤ (n : Int) - 1) → (0 ≤ c ∧ c ≤ (n : Int) - 1) → (a = 1 ∨ (a = 0 ∧ b = 1) ∨ (a = 0 ∧ b = 0 ∧ c = 1)) → ptB (n : Int) a b c = true := by
    intro a b c ha hb hc hd
    unfold ptB normB numsB
    simp only [hp, Bool.true_and, Bool.and_eq_true, List.all_cons, List.all_nil, Bool.and_true, numB_iff]
    refine ⟨?_, ha, hb, hc⟩
    rcases hd with rfl | ⟨rfl, rfl⟩ | ⟨rfl, rfl, rfl⟩ <;> rfl
  simp only [allP, pB, pA, pR, List.mem_append, List.mem_cons, List.mem_map, List.mem_range, List.mem_flatMap] at h
  rcases h with (rfl | ⟨z, hz, rfl⟩) | ⟨y, hy, z, hz, rfl⟩
  · exact mk 0 0 1 (by omega) (by omega) (by omega) (.inr (.inr ⟨rfl, rfl, rfl⟩))
  · exact mk 0 1 z (by omega) (by omega) (by omega) (.inr (.inl ⟨rfl, rfl⟩))
  · exact mk 1 y z (by omega) (by omega) (by omega) (.inl rfl)
theorem mod_fac (p f x : Int) : ∃ q, x % p * f % p = x * f - p * q := by
  refine ⟨x / p * f + (x % p * f) / p, ?_⟩
  have h1 := Int.emod_add_mul_ediv x p
  have h2 := Int.emod_add_mul_ediv (x % p * f) p
  generalize x / p = q1 at *
  generalize (x % p * f) / p = q2 at *
  generalize x % p * f % p = r2 at *
  grind
end Go.Proofs.Ytbeeecahkchjnaa
/- Plain words: numbers modulo a prime, cross products, and why Pappus' meets are different. -/
namespace Go.Proofs.Ytbeeecahkchjnaa
set_option linter.unusedVariables false
set_option linter.unusedSimpArgs false
theorem mul_dvd {p x y : Int} (hp : prB p = true) (h : p ∣ x * y) (hx : ¬ p ∣ x) : p ∣ y := by
  obtain ⟨h3, h13⟩ := prB_bd hp
  have h0 : 0 < x % p := by
    have h1 := Int.emod_nonneg x (show p ≠ 0 by omega)
    rcases Int.lt_or_eq_of_le h1 with h2 | h2
    · exact h2
    · exact (hx (Int.dvd_of_emod_eq_zero h2.symm)).elim
  have hs := (invP_spec hp h0 (Int.emod_lt_of_pos x (by omega))).2.2.1
  obtain ⟨q, hq⟩ := h
  have e1 := Int.emod_add_mul_ediv x p
  have e2 := Int.emod_add_mul_ediv (x % p * invP p (x % p)) p
  rw [hs] at e2
  generalize x % p * invP p (x % p) / p = k2 at *
  generalize invP p (x % p) = i at *
  generalize x / p = k1 at *
  generalize x % p = r at *
  exact ⟨i * q - k1 * i * y - k2 * y, by grind⟩
theorem mul_nd {p x y : Int} (hp : prB p = true) (hx : ¬ p ∣ x) (hy : ¬ p ∣ y) : ¬ p ∣ x * y := fun h => hy (mul_dvd hp h hx)
def dotI (a b : Pt) : Int := a.1 * b.1 + a.2.1 * b.2.1 + a.2.2 * b.2.2
/-- Not 0 modulo p. -/
def nzV (p : Int) (v : Pt) : Prop := ¬ (p ∣ v.1 ∧ p ∣ v.2.1 ∧ p ∣ v.2.2)
/-- v is k times w, modulo p. -/
def cg (p k : Int) (v w : Pt) : Prop := p ∣ v.1 - k * w.1 ∧ p ∣ v.2.1 - k * w.2.1 ∧ p ∣ v.2.2 - k * w.2.2
theorem dvd_pair {p k x y k' x' y' : Int} (h : p ∣ x - k * x') (h' : p ∣ y - k' * y') : p ∣ x * y - k * k' * (x' * y') := by
  obtain ⟨a, ha⟩ := h
  obtain ⟨b, hb⟩ := h'
  exact ⟨a * y + k * x' * b, by grind⟩
theorem dvd_sub2 {p a b K a' b' : Int} (h : p ∣ a - K * a') (h' : p ∣ b - K * b') : p ∣ (a - b) - K * (a' - b') := by
  obtain ⟨u, hu⟩ := h
  obtain ⟨v, hv⟩ := h'
  exact ⟨u - v, by grind⟩
theorem cg_crs {p k k' : Int} {x y x' y' : Pt} (h : cg p k x x') (h' : cg p k' y y') : cg p (k * k') (crs x y) (crs x' y') := by
  obtain ⟨h1, h2, h3⟩ := h
  obtain ⟨g1, g2, g3⟩ := h'
  refine ⟨dvd_sub2 (dvd_pair h2 g3) ?_, dvd_sub2 (dvd_pair h3 g1) ?_, dvd_sub2 (dvd_pair h1 g2) ?_⟩
  · exact dvd_pair h3 g2
  · exact dvd_pair h1 g3
  · exact dvd_pair h2 g1
/-- Made normal, a vector is a multiple of itself, and no multiple by 0 if it is not 0. -/
theorem cg_nrm {p : Int} (hp : prB p = true) (v : Pt) : cg p (facL p [v.1, v.2.1, v.2.2]) (nrm3 p v.1 v.2.1 v.2.2) v := by
  obtain ⟨q0, e0⟩ := mod_fac p (facL p [v.1, v.2.1, v.2.2]) v.1
  obtain ⟨q1, e1⟩ := mod_fac p (facL p [v.1, v.2.1, v.2.2]) v.2.1
  obtain ⟨q2, e2⟩ := mod_fac p (facL p [v.1, v.2.1, v.2.2]) v.2.2
  refine ⟨⟨-q0, ?_⟩, ⟨-q1, ?_⟩, ⟨-q2, ?_⟩⟩
  · show v.1 % p * _ % p - _ = _; rw [e0]; grind
  · show v.2.1 % p * _ % p - _ = _; rw [e1]; grind
  · show v.2.2 % p * _ % p - _ = _; rw [e2]; grind
theorem fac_nd {p : Int} (hp : prB p = true) {v : Pt} (h : nzV p v) : ¬ p ∣ facL p [v.1, v.2.1, v.2.2] := by
  have hb := prB_bd hp
  have h0 : facL p [v.1, v.2.1, v.2.2] ≠ 0 := by
    intro e
    rw [facL_zero hp] at e
    have hz := firstNZ_eq_zero.1 e
    simp [zerosB] at hz
    exact h ⟨Int.dvd_of_emod_eq_zero hz.1, Int.dvd_of_emod_eq_zero hz.2.1, Int.dvd_of_emod_eq_zero hz.2.2⟩
  have h1 := firstNZ_mod_bd p [v.1, v.2.1, v.2.2] (by omega)
  have h2 : facL p [v.1, v.2.1, v.2.2] < p ∧ 0 ≤ facL p [v.1, v.2.1, v.2.2] := by
    unfold facL at h0 ⊢
    by_cases hz : firstNZ ([v.1, v.2.1, v.2.2].map (· % p)) = 0
    · rw [hz, invP_zero p (by omega)] at h0; exact (h0 rfl).elim
    · have := invP_spec hp (by omega) h1.2; omega
  intro hd
  have := Int.le_of_dvd (by omega) hd
  omega
end Go.Proofs.Ytbeeecahkchjnaa
/- A region that draws its order, all of it: operations that yield one value each in whatever later world, new blocks, and one store into each of the new blocks. -/
namespace Go.Proofs.Ytbeeecahkchjnaa
open Go.RowKit
set_option linter.unusedVariables false
set_option linter.unusedSimpArgs false
/-- A new block: the operation that makes it, the one that stores into it, the slot that holds it, its type, its cells before and behind the store. -/
structure Bx where
  ai : Nat
  si : Nat
  d : Nat
  T : TypeId
  Z : Array Value
  U : Array Value
@[reducible] def ptr0 (g : Nat) : Value := .pointer (some ⟨g, 0, none⟩)
structure RInvY (l : List Oper) (bs : List Bx) (a0 aE : Act) (w0 : World) (listed : Array Bool) (a : Act) (w : World) : Prop where
  df : a.defers = aE.defers
  sz : a.tmps.size = aE.tmps.size
  len : listed.size = l.length
  fr1 : ∀ (j : Nat) (o : Oper) (t : Nat), l[j]? = some o → o.dst = some t → (∀ b ∈ bs, b.d ≠ t) → listed.getD j false = true → a.tmps.getD t undef = aE.tmps.getD t undef
  fr0 : ∀ t : Nat, (∀ b ∈ bs, b.d ≠ t) → (∀ (j : Nat) (o : Oper), l[j]? = some o → o.dst = some t → listed.getD j false = false) → a.tmps.getD t undef = a0.tmps.getD t undef
  bl : Below w0.heap.size w0 w
  box : ∃ g : Nat → Nat, (∀ b ∈ bs, listed.getD b.ai false = true → a.tmps.getD b.d undef = ptr0 (g b.d) ∧ w0.heap.size ≤ g b.d ∧ w.heap[g b.d]? = some (.cells (if listed.getD b.si false = true then b.U else b.Z) b.T (0, 0))) ∧
    (∀ b ∈ bs, ∀ c ∈ bs, listed.getD b.ai false = true → listed.getD c.ai false = true → b.d ≠ c.d → g b.d ≠ g c.d)
  ord : ∀ b ∈ bs, listed.getD b.si false = true → listed.getD b.ai false = true
section
variable {P : Program} {Q : Exit → Act → World → Prop} {l : List Oper} {a0 : Act} {w : World} {vs : List (Nat × Value)} {bs : List Bx}
/-- What the law asks of the operations that are in no list of blocks: by their place. -/
def AllEx (p : Oper → Prop) (ex : Nat → Bool) : Nat → List Oper → Prop
  | _, [] => True
  | i, o :: r => (ex i = true ∨ p o) ∧ AllEx p ex (i + 1) r
theorem AllEx.spec {p : Oper → Prop} {ex : Nat → Bool} : ∀ (l : List Oper) (n i : Nat) (o : Oper), AllEx p ex n l → l[i]? = some o → ex (n + i) = false → p o
  | [], _, _, _, _, h, _ => by cases h
  | x :: r, n, 0, o, h, hi, he => by
    simp only [List.getElem?_cons_zero, Option.some.injEq] at hi
    subst hi
    rcases h.1 with h1 | h1
    · rw [Nat.add_zero] at he; rw [h1] at he; cases he
    · exact h1
  | x :: r, n, i + 1, o, h, hi, he => by
    rw [List.getElem?_cons_succ] at hi
    exact AllEx.spec r (n + 1) i o h.2 hi (by rw [show n + 1 + i = n + (i + 1) by omega]; exact he)
def AllB (p : Bx → Prop) : List Bx → Prop
  | [] => True
  | b :: r => p b ∧ AllB p r
theorem AllB.spec {p : Bx → Prop} : ∀ (bs : List Bx), AllB p bs → ∀ b ∈ bs, p b
  | [], _, _, h => by cases h
  | x :: r, h, b, hb => by
    rcases List.mem_cons.1 hb with e | e
    · rw [e]; exact h.1
    · exact AllB.spec r h.2 b e
/-- One new block: what its two operations do. -/
structure BoxOk (P : Program) (l : List Oper) (aE : Act) (b : Bx) : Prop where
  al : ∀ o, l[b.ai]? = some o → ∀ (ρ : Operand → Value) (W : World), (execOp ρ o).run P W = .ok (.value (ptr0 W.heap.size)) (W.alloc (.cells b.Z b.T))
  st : ∀ o, l[b.si]? = some o → ∀ (ρ : Operand → Value) (W : World) (g : Nat), (∀ t ∈ readsOf o, t ≠ b.d → ρ (.tmp t) = aE.tmps.getD t undef) → ρ (.tmp b.d) = ptr0 g → W.heap[g]? = some (.cells b.Z b.T (0, 0)) → (execOp ρ o).run P W = .ok .skip (W.setRow g b.U)
end
end Go.Proofs.Ytbeeecahkchjnaa
/- Contracts: how many points of a list are on a line; the line through three points. -/
namespace Go.Proofs.Ytbeeecahkchjnaa
open Go.RowKit
set_option linter.unusedVariables false
set_option linter.unusedSimpArgs false
end Go.Proofs.Ytbeeecahkchjnaa
/- Plain words: what PappusLine returns, and what both makings lean on. -/
namespace Go.Proofs.Ytbeeecahkchjnaa
set_option linter.unusedVariables false
set_option linter.unusedSimpArgs false
end Go.Proofs.Ytbeeecahkchjnaa
/- Walks by search: facts about memory, found again in later worlds. -/
namespace Go.Proofs.Ytbeeecahkchjnaa
open Go.RowKit
set_option linter.unusedVariables false
set_option linter.unusedSimpArgs false
def pC (t : Pt) : Array Value := #[.int .i64 t.1, .int .i64 t.2.1, .int .i64 t.2.2]
abbrev pV (t : Pt) : Value := .agg (pC t)
/-- A call leaves this world behind that one. -/
structure Link (w W : World) : Prop where
  out : Below w.heap.size w W
structure LowK (w W : World) : Prop where
  out : Below w.heap.size w W
structure RowK (W : World) (g : Nat) (cs : Array Value) (T : TypeId) : Prop where
  out : W.heap[g]? = some (.cells cs T (0, 0))
structure PtsK (W : World) (b o n : Nat) (L : List Pt) : Prop where
  out : PtsAt W b o n L
structure IntsK (W : World) (b o n : Nat) (L : List Int) : Prop where
  out : ∀ i, i < n → W.cell? ⟨b, o + i, none⟩ = some (.int .i64 (L.getD i 0))
theorem Link.low {w W : World} (h : Link w W) : LowK w W := ⟨h.out⟩
theorem LowK.lnk {w W : World} (h : LowK w W) : Link w W := ⟨h.out⟩
theorem LowK.refl (w : World) : LowK w w := ⟨Below.refl _ _⟩
theorem LowK.link {w w1 W : World} (l : Link w1 W) (h : LowK w w1) : LowK w W := ⟨below_tr' h.out l.out⟩
theorem LowK.alloc {w W : World} (h : LowK w W) (o : Obj) : LowK w (W.alloc o) := ⟨bal h.out o⟩
theorem LowK.drew {w W : World} (h : LowK w W) : LowK w W.drew := ⟨bdr h.out⟩
theorem LowK.drewN {w W : World} (h : LowK w W) (n : Nat) : LowK w (W.drewN n) := ⟨bdrN h.out n⟩
theorem LowK.set {w W : World} {g : Nat} {U : Array Value} (hg : w.heap.size ≤ g) (h : LowK w W) : LowK w (W.setRow g U) := ⟨below_setRowN h.out hg U⟩
theorem LowK.size {w W : World} (h : LowK w W) : w.heap.size ≤ W.heap.size := h.out.size
theorem RowK.lt {W : World} {g : Nat} {cs : Array Value} {T : TypeId} (h : RowK W g cs T) : g < W.heap.size := (Array.getElem?_eq_some_iff.1 h.out).1
theorem RowK.link {w W : World} {g : Nat} {cs : Array Value} {T : TypeId} (l : Link w W) (h : RowK w g cs T) : RowK W g cs T := ⟨(l.out.block _ h.lt).trans h.out⟩
theorem RowK.new {w : World} {g : Nat} {cs : Array Value} {T : TypeId} (h : g = w.heap.size) : RowK (w.alloc (.cells cs T)) g cs T := ⟨hn_atN _ _ _ h⟩
theorem RowK.alloc {w : World} {g : Nat} {cs : Array Value} {T : TypeId} (h : RowK w g cs T) (o : Obj) : RowK (w.alloc o) g cs T := ⟨by rw [hn_pastN _ _ _ h.lt]; exact h.out⟩
theorem RowK.drew {w : World} {g : Nat} {cs : Array Value} {T : TypeId} (h : RowK w g cs T) : RowK w.drew g cs T := ⟨h.out⟩
theorem RowK.drewN {w : World} {g : Nat} {cs : Array Value} {T : TypeId} (h : RowK w g cs T) (n : Nat) : RowK (w.drewN n) g cs T := ⟨h.out⟩
theorem RowK.here {w : World} {g : Nat} {cs U : Array Value} {T : TypeId} (h : RowK w g cs T) : RowK (w.setRow g U) g U T := ⟨setRow_heap _ _ _ _ _ _ h.out⟩
theorem RowK.set {w : World} {g g' : Nat} {cs U : Array Value} {T : TypeId} (hg : g ≠ g') (h : RowK w g cs T) : RowK (w.setRow g' U) g cs T := ⟨(setRow_other _ _ _ _ hg).trans h.out⟩
theorem PtsK.link {w W : World} {b o n : Nat} {L : List Pt} (l : Link w W) (h : PtsK w b o n L) : PtsK W b o n L := ⟨h.out.below l.out⟩
theorem PtsK.alloc {w : World} {b o n : Nat} {L : List Pt} (h : PtsK w b o n L) (x : Obj) : PtsK (w.alloc x) b o n L := ⟨h.out.below (bal (Below.refl _ _) x)⟩
theorem PtsK.drew {w : World} {b o n : Nat} {L : List Pt} (h : PtsK w b o n L) : PtsK w.drew b o n L := ⟨h.out⟩
theorem PtsK.drewN {w : World} {b o n : Nat} {L : List Pt} (h : PtsK w b o n L) (k : Nat) : PtsK (w.drewN k) b o n L := ⟨h.out⟩
theorem cell_other (W : World) (g b o : Nat) (U : Array Value) (h : b ≠ g) : (W.setRow g U).cell? ⟨b, o, none⟩ = W.cell? ⟨b, o, none⟩ := World.cell?_of_block (w := W) (a := ⟨b, o, none⟩) (setRow_other W g b U h)
theorem PtsK.set {w : World} {b o n g : Nat} {L : List Pt} {U : Array Value} (hg : b ≠ g) (h : PtsK w b o n L) : PtsK (w.setRow g U) b o n L :=
  ⟨fun i hi => ⟨(cell_other _ _ _ _ _ hg).trans (h.out i hi).1, (cell_other _ _ _ _ _ hg).trans (h.out i hi).2.1, (cell_other _ _ _ _ _ hg).trans (h.out i hi).2.2⟩⟩
theorem IntsK.below {w W : World} {b o n : Nat} {L : List Int} (h : IntsK w b o n L) (l : Below w.heap.size w W) : IntsK W b o n L := ⟨fun i hi => cell_belowQ l (h.out i hi)⟩
theorem IntsK.link {w W : World} {b o n : Nat} {L : List Int} (l : Link w W) (h : IntsK w b o n L) : IntsK W b o n L := h.below l.out
theorem IntsK.alloc {w : World} {b o n : Nat} {L : List Int} (h : IntsK w b o n L) (x : Obj) : IntsK (w.alloc x) b o n L := h.below (bal (Below.refl _ _) x)
theorem IntsK.drew {w : World} {b o n : Nat} {L : List Int} (h : IntsK w b o n L) : IntsK w.drew b o n L := ⟨h.out⟩
theorem IntsK.drewN {w : World} {b o n : Nat} {L : List Int} (h : IntsK w b o n L) (k : Nat) : IntsK (w.drewN k) b o n L := ⟨h.out⟩
theorem IntsK.set {w : World} {b o n g : Nat} {L : List Int} {U : Array Value} (hg : b ≠ g) (h : IntsK w b o n L) : IntsK (w.setRow g U) b o n L := ⟨fun i hi => (cell_other _ _ _ _ _ hg).trans (h.out i hi)⟩
@[simp, go_sem] theorem size_setRow (W : World) (g : Nat) (U : Array Value) : (W.setRow g U).heap.size = W.heap.size := by simp [World.setRow]
theorem pC_one (t : Pt) : ∀ v ∈ (pC t).toList, v.oneCell' = true := by intro v hv; simp [pC] at hv; rcases hv with rfl | rfl | rfl <;> rfl
theorem growL {w : World} {G : Grow0 w} (g : Grow w G) : Link w g.W := ⟨g.low⟩
theorem grow_ret {P : Program} {f : FuncId} {args : Array Value} {w : World} {G : Grow0 w} {g : Grow w G} {v : Value} (h : Calls P f args g.W (Ret g.W v)) : Calls P f args g.W (fun e w'' => e = .returned v ∧ ∃ g' : Grow w G, w'' = g'.W) :=
  h.mono fun _ W ⟨he, hb⟩ => ⟨he, ⟨W, below_tr' g.b hb⟩, rfl⟩
/-- Some of a list's operations, by a mask. -/
inductive Pick : List Oper → List Bool → List Oper → Prop
  | n : Pick [] [] []
  | k {o : Oper} {l r : List Oper} {ms : List Bool} : Pick l ms r → Pick (o :: l) (true :: ms) (o :: r)
  | d {o : Oper} {l r : List Oper} {ms : List Bool} : Pick l ms r → Pick (o :: l) (false :: ms) r
section
variable {P : Program} {Q : Exit → Act → World → Prop} {l : List Oper} {a0 : Act} {w : World}
theorem region_Q {id : Nat} (m : Nat) (hm : P.follows .mixedOrders = true) (hml : m ≤ l.length)
    (chk : viaChk l m a0.tmps.size = true) (hgd : guardsIn l m = true) (hon : onceB l m = true)
    (H : ∃ aE, (∀ G : Grow0 w, wpQuiet P l.toArray (fun w' => ∃ g : Grow w G, w' = g.W) (fun a' => a' = aE) (l.take m) a0) ∧ ∀ W, Link w W → wpList P l.toArray Q (l.drop m) aE W) :
    (Code.region id l.toArray true).wp P Q a0 w := by
  obtain ⟨aE, h1, h2⟩ := H
  exact region_q m hm hml chk hgd hon h1 (fun W hW => h2 W ⟨hW⟩)
end
section
variable {P : Program} {ops : Array Oper} {rest : List Oper} {o : Oper} {a : Act} {Q : Exit → Act → World → Prop}
theorem wpList_store_rowK (w : World) (hgd : o.guard = none) (ty : TypeId) (x y : Operand) (hop : o.op = .store ty x y) (hd : o.dst = none) {g : Nat} {T : TypeId} {cs U : Array Value} (hx : a.eval x = .pointer (some ⟨g, 0, none⟩)) (hy : a.eval y = .agg U)
    (hg : RowK w g cs T) (n : Nat) (hn : cs.size = n) (hU : U.size = n) (hs : ∀ W, (sizeOf ty).run P W = .ok n W) (h1 : ∀ v ∈ U.toList, v.oneCell' = true) (hK : wpList P ops Q rest a (w.setRow g U)) : wpList P ops Q (o :: rest) a w :=
  wpList_store_row w hgd ty x y hop hd hx hy hg.out (by rw [hn, hU]) (by rw [hU]; exact hs) h1 hK
/-- A point out of a list is loaded. -/
theorem run_load_pt {W : World} {ρ : Operand → Value} {ty : TypeId} {x : Operand} {b e n : Nat} {L : List Pt} (k : Nat) (hop : o.op = .load ty x) (hx : ρ x = .pointer (some ⟨b, e, none⟩)) (hL : PtsK W b 0 n L) (hk : k < n) (he : e = k * 3)
    (hs : ∀ W, (sizeOf ty).run P W = .ok 3 W) (ha : ∀ W, (isAgg ty).run P W = .ok true W) : (execOp ρ o).run P W = .ok (.value (pV (L.getD k (0, 0, 0)))) W := by
  obtain ⟨h0, h1, h2⟩ := hL.out k hk
  subst he
  simp only [Nat.zero_add] at h0 h1 h2
  generalize L.getD k (0, 0, 0) = t at *
  have hl : (loadCells ⟨b, k * 3, none⟩ 3).run P W = .ok (pC t) W :=
    run_loadCells_list (P := P) W ⟨b, k * 3, none⟩ [.int .i64 t.1, .int .i64 t.2.1, .int .i64 t.2.2] (fun j v hv => by
      have hadd : ∀ j, (⟨b, k * 3, none⟩ : Addr).add j = ⟨b, k * 3 + j, none⟩ := by intro j; unfold Addr.add; split <;> simp_all
      rw [hadd]
      match j, hv with
      | 0, hv => simpa using h0.trans (by simpa using hv)
      | 1, hv => exact h1.trans (by simpa using hv)
      | 2, hv => exact h2.trans (by simpa using hv)
      | j + 3, hv => simp at hv)
  have hv : (loadVar ty ⟨b, k * 3, none⟩).run P W = .ok (pV t) W := by
    unfold loadVar
    rw [Sem.run_bind, ha]
    simp only [Result.andThen_ok, if_true]
    rw [Sem.run_bind, hs]
    simp only [Result.andThen_ok]
    rw [Sem.run_bind, hl]
    rfl
  unfold execOp
  simp only [hop, hx, Instr.loadAt, Instr.sureAddr, Sem.run_bind, Sem.run_pure, Result.andThen_ok, hv]
theorem run_load_rowK {W : World} {ρ : Operand → Value} {ty : TypeId} {x : Operand} {g : Nat} {T : TypeId} {cs : Array Value} (hop : o.op = .load ty x) (hx : ρ x = .pointer (some ⟨g, 0, none⟩)) (hg : RowK W g cs T) (n : Nat) (hn : cs.size = n)
    (hs : ∀ W, (sizeOf ty).run P W = .ok n W) (ha : ∀ W, (isAgg ty).run P W = .ok true W) : (execOp ρ o).run P W = .ok (.value (.agg cs)) W := by
  have hv := run_loadRow (P := P) ty hg.out n hn hs ha
  unfold execOp
  simp only [hop, hx, Instr.loadAt, Instr.sureAddr, Sem.run_bind, Sem.run_pure, Result.andThen_ok, hv]
theorem wpList_load_any (w : World) (hgd : o.guard = none) (ty : TypeId) (x : Operand) (hop : o.op = .load ty x) {v : Value} (hr : (execOp a.eval o).run P w = .ok (.value v) w) (hK : wpList P ops Q rest (a.put o.dst v) w) : wpList P ops Q (o :: rest) a w := by
  refine wpList_plain hgd fun K hK' => ?_
  unfold Oper.wp
  rw [hr]
  exact hK' _ _ hK
theorem run_load_ptT {W : World} {ρ : Operand → Value} {ty : TypeId} {x : Operand} {b e n : Nat} {L : List Pt} (k : Nat) (hop : o.op = .load ty x) (hx : ρ x = .pointer (some ⟨b, e, none⟩)) (hL : PtsK W b 0 n L) (he : e = k * 3) (hk : k < n)
    (hs : ∀ W, (sizeOf ty).run P W = .ok 3 W) (ha : ∀ W, (isAgg ty).run P W = .ok true W) (t : Pt) (ht : L.getD k (0, 0, 0) = t) : (execOp ρ o).run P W = .ok (.value (pV t)) W := by
  rw [← ht]; exact run_load_pt k hop hx hL hk he hs ha
theorem region_gd {id : Nat} {l : List Oper} {w : World} (h : (Code.region id l.toArray true).wp P Q a w) : (Code.region id l.toArray true).wp P Q a w := h
/-- In a quiet walk. -/
theorem q_load_any {w : World} {G : Grow0 w} {K : Act → Prop} (ty : TypeId) (x : Operand) (hop : o.op = .load ty x) {v : Value} (h : ∀ W, Link w W → (execOp a.eval o).run P W = .ok (.value v) W) (hK : K (a.put o.dst v)) : o.quiet P a (fun w' => ∃ g : Grow w G, w' = g.W) K :=
  ⟨v, fun W ⟨g, hg⟩ => by unfold Oper.quietAt; rw [h W (by rw [hg]; exact growL g)]; exact ⟨rfl, rfl⟩, hK⟩
end
@[go_sem high] theorem eqLnP (w : World) (a b : Pt) : (binOp .eql 63 (.agg (pC a)) (.agg (pC b))).run Try.prog w = .ok (.bool (eqP a b)) w := eqLn w a.1 a.2.1 a.2.2 b.1 b.2.1 b.2.2
@[go_sem high] theorem eqPoP (w : World) (a b : Pt) : (binOp .eql 61 (.agg (pC a)) (.agg (pC b))).run Try.prog w = .ok (.bool (eqP a b)) w := eqPo w a.1 a.2.1 a.2.2 b.1 b.2.1 b.2.2
@[go_sem high] theorem nePoP (w : World) (a b : Pt) : (binOp .neq 61 (.agg (pC a)) (.agg (pC b))).run Try.prog w = .ok (.bool (!eqP a b)) w := nePo w a.1 a.2.1 a.2.2 b.1 b.2.1 b.2.2
theorem l01On_P {p : Int} {a b : Pt} (w : World) (hp : prB p = true) (ha : In13 a) (hb : In13 b) : Calls Try.prog 42 #[.int .i64 p, pV a, pV b] w (Ret w (.bool (onB p a b))) := l01On_any p a.1 a.2.1 a.2.2 b.1 b.2.1 b.2.2 w hp ha hb
theorem isOn_P {p : Int} {a b : Pt} (w : World) (hp : prB p = true) (ha : In13 a) (hb : In13 b) : Calls Try.prog 38 #[.int .i64 p, pV a, pV b] w (Ret w (.bool (onB p a b))) := isOn_any p a.1 a.2.1 a.2.2 b.1 b.2.1 b.2.2 w hp ha hb
theorem results_rowT' {P : Program} {fn : Func} {tmps : Array Value} {t s : Tmp} {W : World} {g : Nat} {T : TypeId} {cs : Array Value} {fr : Nat × Nat} {ty : TypeId} {x : Value} (h : fn.results = #[.cell t ty, .tmp s]) (ht : tmps.getD t undef = .pointer (some ⟨g, 0, none⟩)) (hx : tmps.getD s undef = x)
    (hg : W.heap[g]? = some (.cells cs T fr)) (n : Nat) (hn : cs.size = n) (hs : ∀ W, (sizeOf ty).run P W = .ok n W) (ha : ∀ W, (isAgg ty).run P W = .ok true W) : (results fn tmps).run P W = .ok (.tuple #[.agg cs, x]) W := by
  have hv := run_loadRow (P := P) ty hg n hn hs ha
  have ht' : tmps[t]?.getD undef = .pointer (some ⟨g, 0, none⟩) := by rw [← Array.getD_eq_getD_getElem?]; exact ht
  have hx' : tmps[s]?.getD undef = x := by rw [← Array.getD_eq_getD_getElem?]; exact hx
  have hp : ∀ a : Addr, asAddr (.pointer (some a)) = pure a := fun _ => rfl
  simp [results, h, ht', hx', hp, Sem.run_bind, Sem.run_pure, hv]
section
variable {P : Program} {fn : Func} {R : Ending → World → Prop} {a : Act} {w : World}
theorem ret_rowT {t s : Tmp} {g : Nat} {T ty : TypeId} {cs : Array Value} {x : Value} (h : fn.results = #[.cell t ty, .tmp s]) (ht : a.tmps.getD t undef = .pointer (some ⟨g, 0, none⟩)) (hx : a.tmps.getD s undef = x)
    (hg : RowK w g cs T) (n : Nat) (hn : cs.size = n) (hs : ∀ W, (sizeOf ty).run P W = .ok n W) (ha : ∀ W, (isAgg ty).run P W = .ok true W) (hd : a.defers = []) (hR : R (.returned (.tuple #[.agg cs, x])) w) : bodyPost P fn R .ret a w :=
  bodyPost_ret (results_rowT' h ht hx hg.out n hn hs ha) hd hR
theorem ret_row {t : Tmp} {g : Nat} {T ty : TypeId} {cs : Array Value} (h : fn.results = #[.cell t ty]) (ht : a.tmps.getD t undef = .pointer (some ⟨g, 0, none⟩))
    (hg : RowK w g cs T) (n : Nat) (hn : cs.size = n) (hs : ∀ W, (sizeOf ty).run P W = .ok n W) (ha : ∀ W, (isAgg ty).run P W = .ok true W) (hd : a.defers = []) (hR : R (.returned (.agg cs)) w) : bodyPost P fn R .ret a w :=
  bodyPost_ret (results_row h ht hg.out n hn hs ha) hd hR
theorem ret_one {s : Tmp} {x : Value} (h : fn.results = #[.tmp s]) (hx : a.tmps.getD s undef = x) (hd : a.defers = []) (hR : R (.returned x) w) : bodyPost P fn R .ret a w :=
  bodyPost_ret (by simp [results, h, ← Array.getD_eq_getD_getElem?, hx]) hd hR
theorem ret_two {s t : Tmp} {x y : Value} (h : fn.results = #[.tmp s, .tmp t]) (hx : a.tmps.getD s undef = x) (hy : a.tmps.getD t undef = y) (hd : a.defers = []) (hR : R (.returned (.tuple #[x, y])) w) : bodyPost P fn R .ret a w :=
  bodyPost_ret (by simp [results, h, ← Array.getD_eq_getD_getElem?, hx, hy, Sem.run_bind, Sem.run_pure]) hd hR
theorem ret_three {s t u : Tmp} {x y z : Value} (h : fn.results = #[.tmp s, .tmp t, .tmp u]) (hx : a.tmps.getD s undef = x) (hy : a.tmps.getD t undef = y) (hz : a.tmps.getD u undef = z) (hd : a.defers = []) (hR : R (.returned (.tuple #[x, y, z])) w) : bodyPost P fn R .ret a w :=
  bodyPost_ret (by simp [results, h, ← Array.getD_eq_getD_getElem?, hx, hy, hz, Sem.run_bind, Sem.run_pure]) hd hR
end
theorem ret_ret {w w' : World} {v u : Value} (h : v = u) (hl : LowK w w') : Ret w u (.returned v) w' := ⟨by rw [h], hl.out⟩
end Go.Proofs.Ytbeeecahkchjnaa
/- A region whose first m operations draw their order, with a chain among them that changes memory: relations of values, and a state of the memory for each stage of the chain. (Printed by genregj.py, a program of this session.) -/
namespace Go.Proofs.Ytbeeecahkchjnaa
open Go.RowKit
set_option linter.unusedVariables false
set_option linter.unusedSimpArgs false
/-- The chain's operations are among the first m, and each is bound behind all before it. -/
def chChk (l : List Oper) (m : Nat) (ch : List Nat) : Bool :=
  (List.range ch.length).all fun k => match ch[k]? with
    | none => true
    | some i => decide (i < m) && (List.range k).all fun k' => match ch[k']? with
        | none => true
        | some j => reachB l l.length i j && !(j == i)
theorem chChk_at {l : List Oper} {m : Nat} {ch : List Nat} (h : chChk l m ch = true) {k i : Nat} (hk : ch[k]? = some i) : i < m ∧ ∀ k' j, k' < k → ch[k']? = some j → reachB l l.length i j = true ∧ j ≠ i := by
  unfold chChk at h
  rw [List.all_eq_true] at h
  have h1 := h k (List.mem_range.2 (List.getElem?_eq_some_iff.1 hk).1)
  simp only [hk, Bool.and_eq_true, decide_eq_true_eq, List.all_eq_true] at h1
  refine ⟨h1.1, fun k' j hk' hj => ?_⟩
  have h2 := h1.2 k' (List.mem_range.2 hk')
  simp only [hj, Bool.and_eq_true] at h2
  exact ⟨h2.1, fun e => by have := h2.2; simp [e] at this⟩
/-- The next stage. -/
def nxJ (ch : List Nat) (s i : Nat) : Nat := if ch[s]? = some i then s + 1 else s
structure RInvJ (l : List Oper) (m : Nat) (ch : List Nat) (Rel : Nat → Value → World → Prop) (J : Nat → World → Prop) (a0 : Act) (s : Nat) (listed : Array Bool) (a : Act) (w : World) : Prop where
  df : a.defers = a0.defers
  sz : a.tmps.size = a0.tmps.size
  len : listed.size = l.length
  fr1 : ∀ (j : Nat) (o : Oper) (t : Nat), j < m → l[j]? = some o → o.dst = some t → listed.getD j false = true → Rel t (a.tmps.getD t undef) w
  fr0 : ∀ t : Nat, (∀ (j : Nat) (o : Oper), j < m → l[j]? = some o → o.dst = some t → listed.getD j false = false) → a.tmps.getD t undef = a0.tmps.getD t undef
  jj : J s w
  sle : s ≤ ch.length
  cs : ∀ (k i : Nat), ch[k]? = some i → (listed.getD i false = true ↔ k < s)
  rest : ∀ j, m ≤ j → listed.getD j false = false
  dc : ∀ (i : Nat) (o : Oper), l[i]? = some o → listed.getD i false = true → ∀ e ∈ o.after, Region.binds .any e = true → listed.getD e.on false = true
/-- What an operation of the region does at stage s. -/
structure OkJ (ch : List Nat) (P : Program) (ts : List Nat) (Rel : Nat → Value → World → Prop) (J : Nat → World → Prop) (Q : Exit → Act → World → Prop) (a0 : Act) (i : Nat) (o : Oper) : Prop where
  out : o.guard = none ∧ ∀ t, o.dst = some t → ∀ (s : Nat) (a : Act) (W : World), J s W → (ch.contains i = true → ch[s]? = some i) → (∀ u, (readsOf o).contains u = true → Taken ts Rel a0 a W u) →
    o.wp P a W (fun a' W' => ∃ v, a' = a.put o.dst v ∧ J (nxJ ch s i) W' ∧ Rel t v W' ∧ ∀ u x, ts.contains u = true → Rel u x W → Rel u x W') Q
def AllI (p : Nat → Oper → Prop) : Nat → List Oper → Prop
  | _, [] => True
  | i, o :: r => p i o ∧ AllI p (i + 1) r
theorem AllI.spec {p : Nat → Oper → Prop} : ∀ (l : List Oper) (k : Nat), AllI p k l → ∀ i o, l[i]? = some o → p (k + i) o
  | [], _, _, i, o, h => by simp at h
  | x :: r, k, h, 0, o, ho => by
    simp at ho; subst ho; exact h.1
  | x :: r, k, h, i + 1, o, ho => by
    have := AllI.spec r (k + 1) h.2 i o (by simpa using ho)
    have e : k + 1 + i = k + (i + 1) := by omega
    rw [← e]; exact this
section
variable {P : Program} {Q : Exit → Act → World → Prop} {l : List Oper} {a0 : Act} {w : World} {m : Nat} {ts : List Nat} {Rel : Nat → Value → World → Prop} {J : Nat → World → Prop} {ch : List Nat}
end
theorem nxJ_out {ch : List Nat} {s i : Nat} (h : ch.contains i = false) : nxJ ch s i = s := by
  unfold nxJ
  rw [if_neg]
  intro e
  rw [← Bool.not_eq_true] at h
  exact h (List.contains_iff_mem.2 (List.mem_of_getElem? e))
/-- An operation off the chain: memory below is as it was. -/
theorem OkJ.off {ch : List Nat} {P : Program} {rs : List (Nat × (Value → World → Prop))} {J : Nat → World → Prop} {Q : Exit → Act → World → Prop} {a0 : Act} {o : Oper} (i t : Nat) (hd : o.dst = some t) (hg : o.guard = none) (hc : ch.contains i = false)
    (mono : AllM rs) (monoJ : ∀ s W W', J s W → Below W.heap.size W W' → J s W')
    (h : ∀ (s : Nat) (a : Act) (W : World), J s W → (∀ u, (readsOf o).contains u = true → Taken (rs.map (·.1)) (relOf rs) a0 a W u) → relAt P o a W (relOf rs t) Q) : OkJ ch P (rs.map (·.1)) (relOf rs) J Q a0 i o :=
  ⟨hg, fun t' hd' s a W hJ _ hr => by
    rw [hd] at hd'; obtain rfl := Option.some.inj hd'
    refine Oper.wp_mono (fun a' W' h2 => ?_) (h s a W hJ hr).out
    obtain ⟨v, e, hb, hS⟩ := h2
    exact ⟨v, e, by rw [nxJ_out hc]; exact monoJ s W W' hJ hb, hS, fun u x _ hx => AllM.spec rs mono u x W W' hx hb⟩⟩
/-- The chain's k-th operation. -/
theorem OkJ.on {ch : List Nat} {P : Program} {rs : List (Nat × (Value → World → Prop))} {J : Nat → World → Prop} {Q : Exit → Act → World → Prop} {a0 : Act} {o : Oper} (i k t : Nat) (hd : o.dst = some t) (hg : o.guard = none) (hk : ch[k]? = some i) (nd : ch.Nodup)
    (h : ∀ (a : Act) (W : World), J k W → (∀ u, (readsOf o).contains u = true → Taken (rs.map (·.1)) (relOf rs) a0 a W u) →
      o.wp P a W (fun a' W' => ∃ v, a' = a.put o.dst v ∧ J (k + 1) W' ∧ relOf rs t v W' ∧ ∀ u x, (rs.map (·.1)).contains u = true → relOf rs u x W → relOf rs u x W') Q) : OkJ ch P (rs.map (·.1)) (relOf rs) J Q a0 i o :=
  ⟨hg, fun t' hd' s a W hJ hs hr => by
    rw [hd] at hd'; obtain rfl := Option.some.inj hd'
    have h1 := hs (List.contains_iff_mem.2 (List.mem_of_getElem? hk))
    have h2 : s = k := by
      have e1 := List.getElem?_eq_some_iff.1 h1
      have e2 := List.getElem?_eq_some_iff.1 hk
      exact (List.getElem_inj nd).1 (e1.2.trans e2.2.symm)
    subst h2
    have h3 : nxJ ch s i = s + 1 := by unfold nxJ; rw [if_pos h1]
    rw [h3]
    exact h a W hJ hr⟩
end Go.Proofs.Ytbeeecahkchjnaa
/- A region whose first m operations draw their order, with a chain among them that changes memory: the others yield one value each in whatever world the chain leaves; the chain's operations are walked one after the other, memory growing ahead of each. -/
namespace Go.Proofs.Ytbeeecahkchjnaa
open Go.RowKit
set_option linter.unusedVariables false
set_option linter.unusedSimpArgs false
/-- What stands behind one operation of a chain. -/
structure ChEnd (o : Oper) (a : Act) (KP : World → Prop) (X : Act → World → Prop) (e : Exit) (a' : Act) (W' : World) : Prop where
  e1 : e = .normal
  pv : ∃ v, a' = a.put o.dst v
  kp : KP W'
  nx : X a' W'
def wpCh (P : Program) (ops : Array Oper) (KP : World → Prop) (Q' : Act → World → Prop) : List Oper → Act → World → Prop
  | [], a, W => ∀ W1, Link W W1 → Q' a W1
  | o :: r, a, W => ∀ W1, Link W W1 → wpList P ops (fun e a' W' => ChEnd o a KP (wpCh P ops KP Q' r) e a' W') [o] a W1
/-- No chain operation has a guard; the others neither read what the chain yields nor hang on it. -/
def chanB (l : List Oper) (m : Nat) (ch : List Nat) : Bool := (List.range m).all fun i => match l[i]? with
  | none => true
  | some o => (if ch.contains i then o.guard.isNone else (match o.guard with | none => true | some (k, _) => !ch.contains k)
      && (readsOf o).all fun u => ch.all fun c => !((l[c]?.bind (·.dst)) == some u)) &&
    (!ch.contains i || (readsOf o).all fun u => (List.range m).all fun j => decide (j < i) || !((l[j]?.bind (·.dst)) == some u))
theorem chanB_at {l : List Oper} {m : Nat} {ch : List Nat} (h : chanB l m ch = true) {i : Nat} {o : Oper} (him : i < m) (hi : l[i]? = some o) :
    (ch.contains i = true → o.guard = none) ∧ (ch.contains i = false → (∀ k b, o.guard = some (k, b) → ch.contains k = false) ∧ ∀ u ∈ readsOf o, ∀ c oc, ch.contains c = true → l[c]? = some oc → oc.dst ≠ some u) := by
  unfold chanB at h
  rw [List.all_eq_true] at h
  have h1 := h i (List.mem_range.2 him)
  rw [hi] at h1
  simp only [Bool.and_eq_true] at h1
  have h2 := h1.1
  refine ⟨fun hc => ?_, fun hc => ⟨fun k b hg => ?_, fun u hu c oc hcc hco hd => ?_⟩⟩
  · rw [if_pos hc] at h2; simpa using h2
  · rw [if_neg (by rw [hc]; exact Bool.false_ne_true), hg] at h2
    simp only [Bool.and_eq_true] at h2
    simpa using h2.1
  · rw [if_neg (by rw [hc]; exact Bool.false_ne_true)] at h2
    simp only [Bool.and_eq_true, List.all_eq_true] at h2
    have h3 := h2.2 u hu c (List.contains_iff_mem.1 hcc)
    rw [hco] at h3
    simp [hd] at h3
def viaChkC (l : List Oper) (m N : Nat) (ch : List Nat) : Bool :=
  (List.range l.length).all fun i => match l[i]? with
    | none => true
    | some o => notSelect o && (o.after.all fun e => !Region.binds .any e || e.on < i) &&
      (if i < m then (match o.guard with | none => true | some (k, _) => bindsTo o k) &&
        (match o.dst with | some t => decide (t < N) | none => ch.contains i) &&
        ((readsOf o).all fun t => (List.range m).all fun j => match l[j]? with
            | none => true
            | some oj => !(oj.dst == some t) || bindsTo o j)
       else if i = m then (List.range m).all fun j => reachB l l.length i j
       else bindsTo o (i - 1))
theorem viaChkC_at {l : List Oper} {m N : Nat} {ch : List Nat} (chk : viaChkC l m N ch = true) {i : Nat} {o : Oper} (hi : l[i]? = some o) :
    (∀ cs b, o.op ≠ .select cs b) ∧ (∀ e ∈ o.after, Region.binds .any e = true → e.on < i) ∧
    (i < m → (∀ k b, o.guard = some (k, b) → bindsTo o k = true) ∧ (∀ t, o.dst = some t → t < N) ∧ (o.dst = none → ch.contains i = true) ∧ (∀ t ∈ readsOf o, ∀ j oj, j < m → l[j]? = some oj → oj.dst = some t → bindsTo o j = true)) ∧
    (i = m → ∀ j, j < m → reachB l l.length i j = true) ∧ (m < i → bindsTo o (i - 1) = true) := by
  unfold viaChkC at chk
  have hlt : i < l.length := (List.getElem?_eq_some_iff.1 hi).1
  have h := List.all_eq_true.1 chk i (List.mem_range.2 hlt)
  simp only [hi, Bool.and_eq_true] at h
  obtain ⟨⟨hns, haf⟩, hd⟩ := h
  refine ⟨?_, ?_, ?_, ?_, ?_⟩
  · intro cs b e; rw [notSelect, e] at hns; cases hns
  · intro e he hb
    have := (Array.all_eq_true_iff_forall_mem.1 haf) e he
    simpa [hb] using this
  · intro him
    rw [if_pos him] at hd
    simp only [Bool.and_eq_true] at hd
    obtain ⟨⟨hg, hd⟩, hr⟩ := hd
    refine ⟨?_, ?_, ?_, ?_⟩
    · intro k b e; rw [e] at hg; simpa using hg
    · intro t e; rw [e] at hd; simpa using hd
    · intro e; rw [e] at hd; exact hd
    · intro t ht j oj hjm hj hjd
      have h2 := List.all_eq_true.1 hr t ht
      have := List.all_eq_true.1 h2 j (List.mem_range.2 hjm)
      simpa [hj, hjd] using this
  · intro him j hj
    rw [if_neg (by omega), if_pos him] at hd
    exact List.all_eq_true.1 hd j (List.mem_range.2 hj)
  · intro him
    rw [if_neg (by omega), if_neg (by omega)] at hd
    exact hd
theorem any_tailC {P : Program} {Q : Exit → Act → World → Prop} {l : List Oper} {m N : Nat} {ch : List Nat} (chk : viaChkC l m N ch = true) : ∀ (fuel i : Nat) (listed : Array Bool) (a : Act) (W : World), m ≤ i → i ≤ l.length → listed.size = l.length →
    (∀ j, j < l.length → (listed.getD j false = true ↔ j < i)) → l.length - i ≤ fuel → wpList P l.toArray Q (l.drop i) a W → wpAny P .any l.toArray Q fuel listed a W := by
  intro fuel
  induction fuel with
  | zero =>
    intro i listed a W hmi hil hlen hls hf hw
    have hi : i = l.length := by omega
    subst hi
    refine ⟨?_, by rw [List.drop_length] at hw; exact hw⟩
    rw [List.eq_nil_iff_forall_not_mem]
    intro k hk
    obtain ⟨o, _, hkl, hk0, _⟩ := ready_mem hk hlen
    rw [(hls k hkl).2 hkl] at hk0; cases hk0
  | succ fuel ih =>
    intro i listed a W hmi hil hlen hls hf hw
    rcases Nat.lt_or_ge i l.length with hlt | hge
    · have hio : l[i]? = some l[i] := List.getElem?_eq_getElem hlt
      have hC := viaChkC_at chk hio
      have hd : l.drop i = l[i] :: l.drop (i + 1) := List.drop_eq_getElem_cons hlt
      rw [hd] at hw
      refine ⟨fun hr => ?_, fun k hk => ?_⟩
      · exfalso
        have hmem : i ∈ Region.ready .any l.toArray listed := by
          rw [mem_ready]
          refine ⟨?_, l[i], by simp, fun e he hbd => (hls _ (by have := hC.2.1 e he hbd; omega)).2 (hC.2.1 e he hbd)⟩
          have h1 : i < listed.size := by omega
          have h2 : listed.getD i false = false := by
            cases hb : listed.getD i false with
            | false => rfl
            | true => exact absurd ((hls i hlt).1 hb) (Nat.lt_irrefl _)
          simpa [h1] using h2
        rw [hr] at hmem; cases hmem
      · obtain ⟨o, hko, hkl, hk0, hall⟩ := ready_mem hk hlen
        have hki : k = i := by
          rcases Nat.lt_trichotomy k i with h | h | h
          · rw [(hls k hkl).2 h] at hk0; cases hk0
          · exact h
          · obtain ⟨e, he, hb, hon⟩ := bindsTo_spec ((viaChkC_at chk hko).2.2.2.2 (by omega))
            have := (hls (k - 1) (by omega)).1 (by rw [← hon]; exact hall e he hb)
            omega
        subst hki
        have heo : o = l[k] := by rw [hio] at hko; exact (Option.some.inj hko).symm
        subst heo
        have hk' : k < listed.size := by omega
        have step : ∀ a' W', wpList P l.toArray Q (l.drop (k + 1)) a' W' → wpAny P .any l.toArray Q fuel (listed.setIfInBounds k true) a' W' := by
          intro a' W' h
          refine ih (k + 1) _ a' W' (by omega) (by omega) (by simpa using hlen) (fun j hj => ?_) (by omega) h
          rw [getD_set _ _ _ hk']
          by_cases e : k = j
          · subst e; simp
          · rw [if_neg e, hls j hj]; omega
        unfold wpOp
        have hto : l.toArray[k]? = some l[k] := by simp
        simp only [hto]
        unfold wpList at hw
        split at hw
        · rename_i hwt
          rw [if_pos hwt]
          rcases hw with h | h
          · exact .inl (Oper.wp_mono step h)
          · exact .inr h
        · rename_i hwt
          rw [if_neg hwt]
          exact step _ _ hw
    · have hi : i = l.length := by omega
      subst hi
      rw [List.drop_length] at hw
      refine ⟨fun _ => hw, fun k hk => ?_⟩
      obtain ⟨o, _, hkl, hk0, _⟩ := ready_mem hk hlen
      rw [(hls k hkl).2 hkl] at hk0; cases hk0
/-- No two of the first m fill one slot. -/
def onceC (l : List Oper) (m : Nat) : Bool := (List.range m).all fun i => (List.range m).all fun j => (i == j) || (match l[i]?.bind (·.dst) with | none => true | some t => !((l[j]?.bind (·.dst)) == some t))
theorem onceC_at {l : List Oper} {m : Nat} (h : onceC l m = true) {i j t : Nat} {o o' : Oper} (hi : i < m) (hj : j < m) (hne : i ≠ j) (ho : l[i]? = some o) (ho' : l[j]? = some o') (hd : o.dst = some t) : o'.dst ≠ some t := by
  intro hd'
  unfold onceC at h
  have h1 := List.all_eq_true.1 (List.all_eq_true.1 h i (List.mem_range.2 hi)) j (List.mem_range.2 hj)
  rw [ho, ho'] at h1
  simp [hne, hd, hd'] at h1
theorem wp_other {P : Program} {o : Oper} {a b : Act} {W : World} {K : Act → World → Prop} {Qb Q : Exit → Act → World → Prop} (hE : execOp a.eval o = execOp b.eval o) (hQ : ∀ e a w, Qb e a w → e = .normal)
    (hK : ∀ a' w', K a' w' → ∃ v, a' = b.put o.dst v) (h : o.wp P b W K Qb) : o.wp P a W (fun a' w' => ∃ v, a' = a.put o.dst v ∧ K (b.put o.dst v) w') Q := by
  unfold Oper.wp at h ⊢
  rw [hE]
  generalize (execOp b.eval o).run P W = r at *
  cases r with
  | ok n w' =>
    cases n <;> simp only [Oper.upon] at h ⊢
    case value u => exact ⟨u, rfl, h⟩
    case skip => exact ⟨undef, rfl, h⟩
    case defer d =>
      exfalso
      obtain ⟨v, hv⟩ := hK _ _ h
      have := congrArg (fun x : Act => x.defers.length) hv
      simp only [put_defers, List.length_cons] at this
      omega
    case enter f args =>
      refine h.mono fun e w'' he => ?_
      cases e with
      | returned v => exact ⟨v, rfl, he⟩
      | panicked chain => exact absurd (hQ _ _ _ he) (by intro h; cases h)
      | outgrown => obtain ⟨a1, w1, h1⟩ := he; exact absurd (hQ _ _ _ h1) (by intro h; cases h)
    case row row args => exact h.mono fun v w'' he => ⟨v, rfl, he⟩
  | halt x w' =>
    cases x <;> simp only [Oper.upon] at h ⊢
    case panic v => exact absurd (hQ _ _ _ h) (by intro h; cases h)
structure RInvC (P : Program) (l : List Oper) (m : Nat) (ch : List Nat) (KP : World → Prop) (Q' : Act → World → Prop) (a0 aE : Act) (s : Nat) (aS : Act) (Ws : World) (listed : Array Bool) (a : Act) (w : World) : Prop where
  df : a.defers = a0.defers
  sz : a.tmps.size = a0.tmps.size
  len : listed.size = l.length
  fr1 : ∀ (j : Nat) (o : Oper) (t : Nat), j < m → l[j]? = some o → o.dst = some t → listed.getD j false = true → a.tmps.getD t undef = aS.tmps.getD t undef
  fr0 : ∀ t : Nat, (∀ (j : Nat) (o : Oper), j < m → l[j]? = some o → o.dst = some t → listed.getD j false = false) → a.tmps.getD t undef = a0.tmps.getD t undef
  sd : aS.defers = a0.defers
  ss : aS.tmps.size = a0.tmps.size
  sc : ∀ (j : Nat) (o : Oper) (t : Nat), j < m → l[j]? = some o → o.dst = some t → ch.contains j = false → aS.tmps.getD t undef = aE.tmps.getD t undef
  s0 : ∀ t : Nat, (∀ (j : Nat) (o : Oper), j < m → l[j]? = some o → o.dst ≠ some t) → aS.tmps.getD t undef = a0.tmps.getD t undef
  sq : wpCh P l.toArray KP Q' ((ch.drop s).filterMap fun i => l[i]?) aS Ws
  bl : Below Ws.heap.size Ws w
  kp : KP w
  sle : s ≤ ch.length
  cs : ∀ (k i : Nat), ch[k]? = some i → (listed.getD i false = true ↔ k < s)
  rest : ∀ j, m ≤ j → listed.getD j false = false
  dc : ∀ (i : Nat) (o : Oper), l[i]? = some o → listed.getD i false = true → ∀ e ∈ o.after, Region.binds .any e = true → listed.getD e.on false = true
section
variable {P : Program} {Q : Exit → Act → World → Prop} {l : List Oper} {a0 : Act} {w : World} {ch : List Nat} {KP : World → Prop}
end
section
variable {P : Program} {Q : Exit → Act → World → Prop} {l : List Oper} {a0 : Act} {w : World}
theorem ch_step {ops : Array Oper} {KP : World → Prop} {Q' : Act → World → Prop} {o : Oper} {r : List Oper} {a : Act} {W : World} (h : ∀ W1, Link W W1 → wpList P ops (fun e a' W' => ChEnd o a KP (wpCh P ops KP Q' r) e a' W') [o] a W1) : wpCh P ops KP Q' (o :: r) a W := h
theorem ch_nil {ops : Array Oper} {KP : World → Prop} {Q' : Act → World → Prop} {a : Act} {W : World} (h : ∀ W1, Link W W1 → Q' a W1) : wpCh P ops KP Q' [] a W := h
end
end Go.Proofs.Ytbeeecahkchjnaa
/- Contracts: a map's numbers in one list; its determinant; whether numbers are a map, a conic: the program. -/
namespace Go.Proofs.Ytbeeecahkchjnaa
open Go.RowKit
set_option linter.unusedVariables false
set_option linter.unusedSimpArgs false
/-- An owned list of numbers, laid open. -/
theorem ownInts {W : World} {base : Nat} {T : TypeId} {v : Value} {l : List Int} {n : Nat} (h : W.ownsRow base T 1 v n (ints l)) (hl : l.length = n) (hn : 0 < n) :
    ∃ g cap, v = .slice (some ⟨g, 0, none⟩) n cap ∧ ∀ i, i < n → W.cell? ⟨g, 0 + i, none⟩ = some (.int .i64 (l.getD i 0)) := by
  rcases h.2 with ⟨_, h0⟩ | ⟨g, cap, cur, rfl, hb, hg, hle, _, hsz, htk⟩
  · omega
  · refine ⟨g, cap, rfl, fun i hi => ?_⟩
    rw [cell_of_row W g _ _ _ _ hg, Nat.zero_add]
    have h1 : cur.toList[i]? = (ints l)[i]? := by rw [← htk, List.getElem?_take_of_lt (by omega)]
    have h2 : cur[i]? = cur.toList[i]? := by simp
    rw [h2, h1]
    have : i < l.length := by omega
    simp [ints, List.getD, this]
def mapB (p : Int) (l : List Int) (d : Int) : Bool := prB p && (normB p l && (d % p != 0))
end Go.Proofs.Ytbeeecahkchjnaa
/- Contracts: whether a desk is one: the program. -/
namespace Go.Proofs.Ytbeeecahkchjnaa
open Go.RowKit
set_option linter.unusedVariables false
set_option linter.unusedSimpArgs false
end Go.Proofs.Ytbeeecahkchjnaa

