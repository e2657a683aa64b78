/- Texts of the claim, in build order: S3, S4, S5, S6, S9, T1, T2, T3. No condition. -/
import Derived.Test.YtnpmdchphaenaaaZFnGroups4
/- Contracts: products of maps, made normal: the program's and the reference's. (Printed by gens3.py, a program of this session.) -/
namespace Go.Proofs.Ytnpmdchphaenaaa
open Go.RowKit
set_option linter.unusedVariables false
set_option linter.unusedSimpArgs false
/-- A map: three rows. -/
abbrev M9 := Pt × Pt × Pt
@[reducible] def mapV (m : M9) : Value := .agg #[.int .i64 m.1.1, .int .i64 m.1.2.1, .int .i64 m.1.2.2, .int .i64 m.2.1.1, .int .i64 m.2.1.2.1, .int .i64 m.2.1.2.2, .int .i64 m.2.2.1, .int .i64 m.2.2.2.1, .int .i64 m.2.2.2.2]
def listM (m : M9) : List Int := [m.1.1, m.1.2.1, m.1.2.2, m.2.1.1, m.2.1.2.1, m.2.1.2.2, m.2.2.1, m.2.2.2.1, m.2.2.2.2]
def In12 (x : Int) : Prop := 0 ≤ x ∧ x ≤ 12
def InM (m : M9) : Prop := ∀ x ∈ listM m, In12 x
def dotQ (p : Int) (a b : Pt) : Int := (a.1 * b.1 + a.2.1 * b.2.1 + a.2.2 * b.2.2) % p
def colM (m : M9) : M9 := ((m.1.1, m.2.1.1, m.2.2.1), (m.1.2.1, m.2.1.2.1, m.2.2.2.1), (m.1.2.2, m.2.1.2.2, m.2.2.2.2))
def mulM (p : Int) (x y : M9) : M9 :=
  ((dotQ p x.1 (colM y).1, dotQ p x.1 (colM y).2.1, dotQ p x.1 (colM y).2.2), (dotQ p x.2.1 (colM y).1, dotQ p x.2.1 (colM y).2.1, dotQ p x.2.1 (colM y).2.2), (dotQ p x.2.2 (colM y).1, dotQ p x.2.2 (colM y).2.1, dotQ p x.2.2 (colM y).2.2))
def scaP (p f : Int) (a : Pt) : Pt := (a.1 % p * f % p, a.2.1 % p * f % p, a.2.2 % p * f % p)
def normM (p : Int) (m : M9) : M9 := (scaP p (facL p (listM m)) m.1, scaP p (facL p (listM m)) m.2.1, scaP p (facL p (listM m)) m.2.2)
def timesM (p : Int) (x y : M9) : M9 := normM p (mulM p x y)
theorem in12_mod {p z : Int} (hp : prB p = true) : In12 (z % p) := by
  have hb := prB_bd hp
  have h1 := Int.emod_nonneg z (by omega : p ≠ 0)
  have h2 := Int.emod_lt_of_pos z (by omega : 0 < p)
  exact ⟨h1, by omega⟩
theorem inM_times {p : Int} {x y : M9} (hp : prB p = true) : InM (timesM p x y) := by
  intro z hz
  simp only [timesM, normM, scaP, listM, List.mem_cons, List.not_mem_nil, or_false] at hz
  rcases hz with rfl | rfl | rfl | rfl | rfl | rfl | rfl | rfl | rfl <;> exact in12_mod hp
theorem inM_mul {p : Int} {x y : M9} (hp : prB p = true) : InM (mulM p x y) := by
  intro z hz
  simp only [mulM, dotQ, listM, List.mem_cons, List.not_mem_nil, or_false] at hz
  rcases hz with rfl | rfl | rfl | rfl | rfl | rfl | rfl | rfl | rfl <;> exact in12_mod hp
theorem big12 {x : Int} (h : In12 x) : -4611686018427387904 ≤ x ∧ x ≤ 4611686018427387904 := by
  obtain ⟨h1, h2⟩ := h
  omega
theorem inM_at {m : M9} (h : InM m) : In13 m.1 ∧ In13 m.2.1 ∧ In13 m.2.2 ∧ In13 (colM m).1 ∧ In13 (colM m).2.1 ∧ In13 (colM m).2.2 := by
  have k := fun x hx => h x hx
  simp only [listM, List.mem_cons, List.not_mem_nil, or_false] at k
  have a0 := k m.1.1 (by simp); have a1 := k m.1.2.1 (by simp); have a2 := k m.1.2.2 (by simp)
  have a3 := k m.2.1.1 (by simp); have a4 := k m.2.1.2.1 (by simp); have a5 := k m.2.1.2.2 (by simp)
  have a6 := k m.2.2.1 (by simp); have a7 := k m.2.2.2.1 (by simp); have a8 := k m.2.2.2.2 (by simp)
  exact ⟨⟨a0, a1, a2⟩, ⟨a3, a4, a5⟩, ⟨a6, a7, a8⟩, ⟨a0, a3, a6⟩, ⟨a1, a4, a7⟩, ⟨a2, a5, a8⟩⟩
theorem mul12 {a b : Int} (ha : In12 a) (hb : In12 b) : 0 ≤ a * b ∧ a * b ≤ 144 := by
  refine ⟨Int.mul_nonneg ha.1 hb.1, ?_⟩
  have h1 : a * b ≤ 12 * b := Int.mul_le_mul_of_nonneg_right ha.2 hb.1
  have h2 := hb.2
  omega
theorem wrap_small {z : Int} (h : 0 ≤ z ∧ z ≤ 1000000) : IntKind.wrap .i64 z = z := by
  simp [IntKind.wrap, IntKind.signed, IntKind.bits]; omega
theorem modb {p z : Int} (hp : 3 ≤ p ∧ p ≤ 13) : 0 ≤ z % p ∧ z % p ≤ 1000000 := by
  have h1 := Int.emod_nonneg z (by omega : p ≠ 0)
  have h2 := Int.emod_lt_of_pos z (by omega : 0 < p)
  exact ⟨h1, by omega⟩
theorem dot12 {a b c d e f : Int} (ha : In12 a) (hb : In12 b) (hc : In12 c) (hd : In12 d) (he : In12 e) (hf : In12 f) : 0 ≤ a * b + c * d + e * f := by
  have := mul12 ha hb; have := mul12 hc hd; have := mul12 he hf; omega
theorem wmul {a b : Int} (ha : In12 a) (hb : In12 b) : IntKind.wrap .i64 (a * b) = a * b := wrap_small (by have := mul12 ha hb; omega)
theorem wadd2 {a b c d : Int} (ha : In12 a) (hb : In12 b) (hc : In12 c) (hd : In12 d) : IntKind.wrap .i64 (a * b + c * d) = a * b + c * d := wrap_small (by have := mul12 ha hb; have := mul12 hc hd; omega)
theorem wadd3 {a b c d e f : Int} (ha : In12 a) (hb : In12 b) (hc : In12 c) (hd : In12 d) (he : In12 e) (hf : In12 f) : IntKind.wrap .i64 (a * b + c * d + e * f) = a * b + c * d + e * f := wrap_small (by have := mul12 ha hb; have := mul12 hc hd; have := mul12 he hf; omega)
set_option maxRecDepth 20000 in
set_option maxHeartbeats 4000000 in
theorem times_any (p : Int) (x y : M9) (w : World) (hp : prB p = true) (hx : InM x) (hy : InM y) :
    Calls Try.prog 23 #[.int .i64 p, mapV x, mapV y] w (Ret w (mapV (timesM p x y))) := by
  obtain ⟨i0, i1, i2, _, _, _⟩ := inM_at hx
  obtain ⟨_, _, _, j0, j1, j2⟩ := inM_at hy
  have HP := Lib.hid (fun (W : World) => product_any p x.1.1 x.1.2.1 x.1.2.2 x.2.1.1 x.2.1.2.1 x.2.1.2.2 x.2.2.1 x.2.2.2.1 x.2.2.2.2 y.1.1 y.1.2.1 y.1.2.2 y.2.1.1 y.2.1.2.1 y.2.1.2.2 y.2.2.1 y.2.2.2.1 y.2.2.2.2 W hp i0 i1 i2 j0 j1 j2)
  have HN : Hid (∀ W, Calls Try.prog 41 #[.int .i64 p, mapV (mulM p x y)] W (Ret W (mapV (timesM p x y)))) := Lib.hid (fun W => normalMap_any p (mulM p x y).1.1 (mulM p x y).1.2.1 (mulM p x y).1.2.2 (mulM p x y).2.1.1 (mulM p x y).2.1.2.1 (mulM p x y).2.1.2.2 (mulM p x y).2.2.1 (mulM p x y).2.2.2.1 (mulM p x y).2.2.2.2 W hp (fun z hz => big12 (inM_mul hp z hz)) _ rfl)
  replace HP : Hid (∀ W, Calls Try.prog 42 #[.int .i64 p, mapV x, mapV y] W (Ret W (mapV (mulM p x y)))) := HP
  clear hx hy i0 i1 i2 j0 j1 j2
  generalize timesM p x y = t at *
  generalize mulM p x y = m at *
  obtain ⟨⟨x0, x1, x2⟩, ⟨x3, x4, x5⟩, ⟨x6, x7, x8⟩⟩ := x
  obtain ⟨⟨y0, y1, y2⟩, ⟨y3, y4, y5⟩, ⟨y6, y7, y8⟩⟩ := y
  obtain ⟨⟨m0, m1, m2⟩, ⟨m3, m4, m5⟩, ⟨m6, m7, m8⟩⟩ := m
  obtain ⟨⟨t0, t1, t2⟩, ⟨t3, t4, t5⟩, ⟨t6, t7, t8⟩⟩ := t
  dsimp only [mapV] at *
  go_enter Try.func23, Try.ntmps23
  go_wp2_with (first
    | (go_at_call 42; (with_reducible refine (HP.out _).mono ?_); rintro e w1_ ⟨rfl, hb1⟩; obtain ⟨hcb1, hfb1, hlb1⟩ := bcell hb1; have hsz1 := hb1.size; (try simp at hsz1); have HB1 := Lib.hid hb1; clear hb1; (try (have hl01 : w.heap.size < w1_.heap.size := by omega)); (try (have hl11 : w.heap.size + 1 < w1_.heap.size := by omega)); (try (have hl21 : w.heap.size + 1 + 1 < w1_.heap.size := by omega)))
    | (go_at_call 41; (with_reducible refine (HN.out _).mono ?_); rintro e w2_ ⟨rfl, hb2⟩; obtain ⟨hcb2, hfb2, hlb2⟩ := bcell hb2; have hsz2 := hb2.size; (try simp at hsz2); have HB2 := Lib.hid hb2; clear hb2; (try (have hl02 : w.heap.size < w2_.heap.size := by omega)); (try (have hl12 : w.heap.size + 1 < w2_.heap.size := by omega)); (try (have hl22 : w.heap.size + 1 + 1 < w2_.heap.size := by omega)))
    | (refine wpList_store_row _ rfl 47 _ _ rfl rfl (g := w.heap.size + 1 + 1) (T := 47) (cs := #[.int .i64 0, .int .i64 0, .int .i64 0, .int .i64 0, .int .i64 0, .int .i64 0, .int .i64 0, .int .i64 0, .int .i64 0]) (U := #[.int .i64 t0, .int .i64 t1, .int .i64 t2, .int .i64 t3, .int .i64 t4, .int .i64 t5, .int .i64 t6, .int .i64 t7, .int .i64 t8]) rfl rfl (by rw [HB2.out.block _ (by first | omega | (simp; done) | (simp; omega)), HB1.out.block _ (by first | omega | (simp; done) | (simp; omega)), hn_atN _ _ _ (by simp)]) rfl Try.sizeOf47 (by simp [Value.oneCell']) ?_))
  exact bodyPost_ret (v := .agg #[.int .i64 t0, .int .i64 t1, .int .i64 t2, .int .i64 t3, .int .i64 t4, .int .i64 t5, .int .i64 t6, .int .i64 t7, .int .i64 t8]) (results_row Try.results23 rfl (setRow_heap _ _ #[.int .i64 0, .int .i64 0, .int .i64 0, .int .i64 0, .int .i64 0, .int .i64 0, .int .i64 0, .int .i64 0, .int .i64 0] _ _ _ (by rw [HB2.out.block _ (by first | omega | (simp; done) | (simp; omega)), HB1.out.block _ (by first | omega | (simp; done) | (simp; omega)), hn_atN _ _ _ (by simp)])) 9 rfl Try.sizeOf47 Try.isAgg47) rfl ⟨rfl, below_setRowN ((by repeat (first | exact Below.refl _ _ | refine bset ?_ _ _ (by omega) _ | refine bal ?_ _ | refine bdrN ?_ _ | refine bdr ?_ | refine below_tr' ?_ HB2.out | refine below_tr' ?_ HB1.out))) (by omega) _⟩
set_option maxRecDepth 20000 in
set_option maxHeartbeats 8000000 in
theorem l02Times_any (p : Int) (x y : M9) (w : World) (hp : prB p = true) (hx : InM x) (hy : InM y) :
    Calls Try.prog 25 #[.int .i64 p, mapV x, mapV y] w (Ret w (mapV (timesM p x y))) := by
  have hpb := prB_bd hp
  have HN : Hid (∀ W, Calls Try.prog 43 #[.int .i64 p, mapV (mulM p x y)] W (Ret W (mapV (timesM p x y)))) := Lib.hid (fun W => l02Normal_any p (mulM p x y).1.1 (mulM p x y).1.2.1 (mulM p x y).1.2.2 (mulM p x y).2.1.1 (mulM p x y).2.1.2.1 (mulM p x y).2.1.2.2 (mulM p x y).2.2.1 (mulM p x y).2.2.2.1 (mulM p x y).2.2.2.2 W hp (fun z hz => big12 (inM_mul hp z hz)) _ rfl)
  generalize timesM p x y = t at *
  obtain ⟨⟨x0, x1, x2⟩, ⟨x3, x4, x5⟩, ⟨x6, x7, x8⟩⟩ := x
  obtain ⟨⟨y0, y1, y2⟩, ⟨y3, y4, y5⟩, ⟨y6, y7, y8⟩⟩ := y
  obtain ⟨⟨t0, t1, t2⟩, ⟨t3, t4, t5⟩, ⟨t6, t7, t8⟩⟩ := t
  dsimp only [mapV, mulM, dotQ, colM] at *
  have bx0 : In12 x0 := hx _ (by simp [listM])
  have bx1 : In12 x1 := hx _ (by simp [listM])
  have bx2 : In12 x2 := hx _ (by simp [listM])
  have bx3 : In12 x3 := hx _ (by simp [listM])
  have bx4 : In12 x4 := hx _ (by simp [listM])
  have bx5 : In12 x5 := hx _ (by simp [listM])
  have bx6 : In12 x6 := hx _ (by simp [listM])
  have bx7 : In12 x7 := hx _ (by simp [listM])
  have bx8 : In12 x8 := hx _ (by simp [listM])
  have by0 : In12 y0 := hy _ (by simp [listM])
  have by1 : In12 y1 := hy _ (by simp [listM])
  have by2 : In12 y2 := hy _ (by simp [listM])
  have by3 : In12 y3 := hy _ (by simp [listM])
  have by4 : In12 y4 := hy _ (by simp [listM])
  have by5 : In12 y5 := hy _ (by simp [listM])
  have by6 : In12 y6 := hy _ (by simp [listM])
  have by7 : In12 y7 := hy _ (by simp [listM])
  have by8 : In12 y8 := hy _ (by simp [listM])
  clear hx hy hp
  go_enter Try.func25, Try.ntmps25
  go_wp2
  have kx_0 : ((((w.alloc (.cells #[.int .i64 x0, .int .i64 x1, .int .i64 x2, .int .i64 x3, .int .i64 x4, .int .i64 x5, .int .i64 x6, .int .i64 x7, .int .i64 x8] 47)).alloc (.cells #[.int .i64 y0, .int .i64 y1, .int .i64 y2, .int .i64 y3, .int .i64 y4, .int .i64 y5, .int .i64 y6, .int .i64 y7, .int .i64 y8] 47)).alloc (.cells #[.int .i64 0, .int .i64 0, .int .i64 0, .int .i64 0, .int .i64 0, .int .i64 0, .int .i64 0, .int .i64 0, .int .i64 0] 47)).alloc (.cells #[.int .i64 0, .int .i64 0, .int .i64 0, .int .i64 0, .int .i64 0, .int .i64 0, .int .i64 0, .int .i64 0, .int .i64 0] 47)).heap[w.heap.size]? = some (.cells #[.int .i64 x0, .int .i64 x1, .int .i64 x2, .int .i64 x3, .int .i64 x4, .int .i64 x5, .int .i64 x6, .int .i64 x7, .int .i64 x8] 47 (0, 0)) := by rw [hn_pastN _ _ _ (by first | omega | (simp; done) | (simp; omega)), hn_pastN _ _ _ (by first | omega | (simp; done) | (simp; omega)), hn_pastN _ _ _ (by first | omega | (simp; done) | (simp; omega)), hn_atN _ _ _ (by simp)]
  have ky_0 : ((((w.alloc (.cells #[.int .i64 x0, .int .i64 x1, .int .i64 x2, .int .i64 x3, .int .i64 x4, .int .i64 x5, .int .i64 x6, .int .i64 x7, .int .i64 x8] 47)).alloc (.cells #[.int .i64 y0, .int .i64 y1, .int .i64 y2, .int .i64 y3, .int .i64 y4, .int .i64 y5, .int .i64 y6, .int .i64 y7, .int .i64 y8] 47)).alloc (.cells #[.int .i64 0, .int .i64 0, .int .i64 0, .int .i64 0, .int .i64 0, .int .i64 0, .int .i64 0, .int .i64 0, .int .i64 0] 47)).alloc (.cells #[.int .i64 0, .int .i64 0, .int .i64 0, .int .i64 0, .int .i64 0, .int .i64 0, .int .i64 0, .int .i64 0, .int .i64 0] 47)).heap[w.heap.size + 1]? = some (.cells #[.int .i64 y0, .int .i64 y1, .int .i64 y2, .int .i64 y3, .int .i64 y4, .int .i64 y5, .int .i64 y6, .int .i64 y7, .int .i64 y8] 47 (0, 0)) := by rw [hn_pastN _ _ _ (by first | omega | (simp; done) | (simp; omega)), hn_pastN _ _ _ (by first | omega | (simp; done) | (simp; omega)), hn_atN _ _ _ (by simp)]
  have kr_0 : ((((w.alloc (.cells #[.int .i64 x0, .int .i64 x1, .int .i64 x2, .int .i64 x3, .int .i64 x4, .int .i64 x5, .int .i64 x6, .int .i64 x7, .int .i64 x8] 47)).alloc (.cells #[.int .i64 y0, .int .i64 y1, .int .i64 y2, .int .i64 y3, .int .i64 y4, .int .i64 y5, .int .i64 y6, .int .i64 y7, .int .i64 y8] 47)).alloc (.cells #[.int .i64 0, .int .i64 0, .int .i64 0, .int .i64 0, .int .i64 0, .int .i64 0, .int .i64 0, .int .i64 0, .int .i64 0] 47)).alloc (.cells #[.int .i64 0, .int .i64 0, .int .i64 0, .int .i64 0, .int .i64 0, .int .i64 0, .int .i64 0, .int .i64 0, .int .i64 0] 47)).heap[w.heap.size + 1 + 1]? = some (.cells #[.int .i64 0, .int .i64 0, .int .i64 0, .int .i64 0, .int .i64 0, .int .i64 0, .int .i64 0, .int .i64 0, .int .i64 0] 47 (0, 0)) := by rw [hn_pastN _ _ _ (by first | omega | (simp; done) | (simp; omega)), hn_atN _ _ _ (by simp)]
  have ko_0 : ((((w.alloc (.cells #[.int .i64 x0, .int .i64 x1, .int .i64 x2, .int .i64 x3, .int .i64 x4, .int .i64 x5, .int .i64 x6, .int .i64 x7, .int .i64 x8] 47)).alloc (.cells #[.int .i64 y0, .int .i64 y1, .int .i64 y2, .int .i64 y3, .int .i64 y4, .int .i64 y5, .int .i64 y6, .int .i64 y7, .int .i64 y8] 47)).alloc (.cells #[.int .i64 0, .int .i64 0, .int .i64 0, .int .i64 0, .int .i64 0, .int .i64 0, .int .i64 0, .int .i64 0, .int .i64 0] 47)).alloc (.cells #[.int .i64 0, .int .i64 0, .int .i64 0, .int .i64 0, .int .i64 0, .int .i64 0, .int .i64 0, .int .i64 0, .int .i64 0] 47)).heap[w.heap.size + 1 + 1 + 1]? = some (.cells #[.int .i64 0, .int .i64 0, .int .i64 0, .int .i64 0, .int .i64 0, .int .i64 0, .int .i64 0, .int .i64 0, .int .i64 0] 47 (0, 0)) := by rw [hn_atN _ _ _ (by simp)]
  have HB_0 : Below w.heap.size w ((((w.alloc (.cells #[.int .i64 x0, .int .i64 x1, .int .i64 x2, .int .i64 x3, .int .i64 x4, .int .i64 x5, .int .i64 x6, .int .i64 x7, .int .i64 x8] 47)).alloc (.cells #[.int .i64 y0, .int .i64 y1, .int .i64 y2, .int .i64 y3, .int .i64 y4, .int .i64 y5, .int .i64 y6, .int .i64 y7, .int .i64 y8] 47)).alloc (.cells #[.int .i64 0, .int .i64 0, .int .i64 0, .int .i64 0, .int .i64 0, .int .i64 0, .int .i64 0, .int .i64 0, .int .i64 0] 47)).alloc (.cells #[.int .i64 0, .int .i64 0, .int .i64 0, .int .i64 0, .int .i64 0, .int .i64 0, .int .i64 0, .int .i64 0, .int .i64 0] 47)) := (by repeat (first | exact Below.refl _ _ | refine bset ?_ _ _ (by omega) _ | refine bal ?_ _ | refine bdrN ?_ _ | refine bdr ?_))
  generalize ((((w.alloc (.cells #[.int .i64 x0, .int .i64 x1, .int .i64 x2, .int .i64 x3, .int .i64 x4, .int .i64 x5, .int .i64 x6, .int .i64 x7, .int .i64 x8] 47)).alloc (.cells #[.int .i64 y0, .int .i64 y1, .int .i64 y2, .int .i64 y3, .int .i64 y4, .int .i64 y5, .int .i64 y6, .int .i64 y7, .int .i64 y8] 47)).alloc (.cells #[.int .i64 0, .int .i64 0, .int .i64 0, .int .i64 0, .int .i64 0, .int .i64 0, .int .i64 0, .int .i64 0, .int .i64 0] 47)).alloc (.cells #[.int .i64 0, .int .i64 0, .int .i64 0, .int .i64 0, .int .i64 0, .int .i64 0, .int .i64 0, .int .i64 0, .int .i64 0] 47)) = V_0 at *
  refine wp_loop_rounds 4 ?_
  rw [rounds_succ]; go_wp2
  refine wp_loop_rounds 4 ?_
  rw [rounds_succ]; go_wp2
  refine wp_loop_rounds 4 ?_
  rw [rounds_succ]; go_wp2
  have lx := (Array.getElem?_eq_some_iff.1 kx_0).1
  have ly := (Array.getElem?_eq_some_iff.1 ky_0).1
  have lr := (Array.getElem?_eq_some_iff.1 kr_0).1
  have lo := (Array.getElem?_eq_some_iff.1 ko_0).1
  refine region_via 13 [(25, .int .i64 0), (26, .int .i64 0), (27, .int .i64 0), (28, .pointer (some ⟨w.heap.size, 0, none⟩)), (29, .pointer (some ⟨w.heap.size, 0, none⟩)), (30, .int .i64 x0), (31, .int .i64 0), (32, .int .i64 0), (33, .pointer (some ⟨w.heap.size + 1, 0, none⟩)), (34, .pointer (some ⟨w.heap.size + 1, 0, none⟩)), (35, .int .i64 y0), (36, .int .i64 (x0 * y0)), (37, .int .i64 (x0 * y0))] (by kernel_rfl) (by decide) (by kernel_rfl) (by kernel_rfl) (by kernel_rfl) (fun aE hpe => ?_)
  simp only [puts, Act.put, List.setIfInBounds_toArray, List.set_cons_zero, List.set_cons_succ] at hpe
  subst hpe
  refine ⟨⟨.inr (.inr ?_), .inr (.inr ?_), .inr (.inr ?_), .inr (.inr ?_), .inr (.inr ?_), .inr (.inr ?_), .inr (.inr ?_), .inr (.inr ?_), .inr (.inr ?_), .inr (.inr ?_), .inr (.inr ?_), .inr (.inr ?_), .inr (.inr ?_), trivial⟩, ?_⟩
  · exact CalmG.mk 25 (.int .i64 0) rfl rfl rfl (fun W hW => calm_move (.tmp 10) rfl rfl)
  · exact CalmG.mk 26 (.int .i64 0) rfl rfl rfl (fun W hW => calm_move (.tmp 8) rfl rfl)
  · exact CalmG.mk 27 (.int .i64 0) rfl rfl rfl (fun W hW => calm_move (.tmp 11) rfl rfl)
  · exact CalmG.mk 28 (.pointer (some ⟨w.heap.size, 0, none⟩)) rfl rfl rfl (fun W hW => calm_run (by simp [execOp, Act.eval, go_sem]))
  · exact CalmG.mk 29 (.pointer (some ⟨w.heap.size, 0, none⟩)) rfl rfl rfl (fun W hW => calm_run (by simp [execOp, Act.eval, go_sem]))
  · exact CalmG.mk 30 (.int .i64 x0) rfl rfl rfl (fun W hW => by have hc := row_int (off := 0) (z := x0) ((hW.block _ lx).trans kx_0) rfl; exact calm_run (by simp [execOp, Act.eval, go_sem, hc]))
  · exact CalmG.mk 31 (.int .i64 0) rfl rfl rfl (fun W hW => calm_move (.tmp 11) rfl rfl)
  · exact CalmG.mk 32 (.int .i64 0) rfl rfl rfl (fun W hW => calm_move (.tmp 9) rfl rfl)
  · exact CalmG.mk 33 (.pointer (some ⟨w.heap.size + 1, 0, none⟩)) rfl rfl rfl (fun W hW => calm_run (by simp [execOp, Act.eval, go_sem]))
  · exact CalmG.mk 34 (.pointer (some ⟨w.heap.size + 1, 0, none⟩)) rfl rfl rfl (fun W hW => calm_run (by simp [execOp, Act.eval, go_sem]))
  · exact CalmG.mk 35 (.int .i64 y0) rfl rfl rfl (fun W hW => by have hc := row_int (off := 0) (z := y0) ((hW.block _ ly).trans ky_0) rfl; exact calm_run (by simp [execOp, Act.eval, go_sem, hc]))
  · exact CalmG.mk 36 (.int .i64 (x0 * y0)) rfl rfl rfl (fun W hW => calm_run (by simp [execOp, Act.eval, go_sem, wmul bx0 by0]))
  · exact CalmG.mk 37 (.int .i64 (x0 * y0)) rfl rfl rfl (fun W hW => calm_run (by simp [execOp, Act.eval, go_sem, wmul bx0 by0]))
  intro V_1 hW
  simp only [List.drop_succ_cons, List.drop_zero]
  have kx_1 := (hW.block _ lx).trans kx_0
  have ky_1 := (hW.block _ ly).trans ky_0
  have kr_1 := (hW.block _ lr).trans kr_0
  have ko_1 := (hW.block _ lo).trans ko_0
  have HB_1 := low_tr' HB_0 hW (by omega)
  clear kx_0 ky_0 kr_0 ko_0 HB_0 lx ly lr lo hW V_0
  go_wp2
  rw [rounds_succ]; go_wp2
  have lx := (Array.getElem?_eq_some_iff.1 kx_1).1
  have ly := (Array.getElem?_eq_some_iff.1 ky_1).1
  have lr := (Array.getElem?_eq_some_iff.1 kr_1).1
  have lo := (Array.getElem?_eq_some_iff.1 ko_1).1
  refine region_via 13 [(25, .int .i64 (x0 * y0)), (26, .int .i64 0), (27, .int .i64 1), (28, .pointer (some ⟨w.heap.size, 0, none⟩)), (29, .pointer (some ⟨w.heap.size, 1, none⟩)), (30, .int .i64 x1), (31, .int .i64 1), (32, .int .i64 0), (33, .pointer (some ⟨w.heap.size + 1, 3, none⟩)), (34, .pointer (some ⟨w.heap.size + 1, 3, none⟩)), (35, .int .i64 y3), (36, .int .i64 (x1 * y3)), (37, .int .i64 (x0 * y0 + x1 * y3))] (by kernel_rfl) (by decide) (by kernel_rfl) (by kernel_rfl) (by kernel_rfl) (fun aE hpe => ?_)
  simp only [puts, Act.put, List.setIfInBounds_toArray, List.set_cons_zero, List.set_cons_succ] at hpe
  subst hpe
  refine ⟨⟨.inr (.inr ?_), .inr (.inr ?_), .inr (.inr ?_), .inr (.inr ?_), .inr (.inr ?_), .inr (.inr ?_), .inr (.inr ?_), .inr (.inr ?_), .inr (.inr ?_), .inr (.inr ?_), .inr (.inr ?_), .inr (.inr ?_), .inr (.inr ?_), trivial⟩, ?_⟩
  · exact CalmG.mk 25 (.int .i64 (x0 * y0)) rfl rfl rfl (fun W hW => calm_move (.tmp 10) rfl rfl)
  · exact CalmG.mk 26 (.int .i64 0) rfl rfl rfl (fun W hW => calm_move (.tmp 8) rfl rfl)
  · exact CalmG.mk 27 (.int .i64 1) rfl rfl rfl (fun W hW => calm_move (.tmp 11) rfl rfl)
  · exact CalmG.mk 28 (.pointer (some ⟨w.heap.size, 0, none⟩)) rfl rfl rfl (fun W hW => calm_run (by simp [execOp, Act.eval, go_sem]))
  · exact CalmG.mk 29 (.pointer (some ⟨w.heap.size, 1, none⟩)) rfl rfl rfl (fun W hW => calm_run (by simp [execOp, Act.eval, go_sem]))
  · exact CalmG.mk 30 (.int .i64 x1) rfl rfl rfl (fun W hW => by have hc := row_int (off := 1) (z := x1) ((hW.block _ lx).trans kx_1) rfl; exact calm_run (by simp [execOp, Act.eval, go_sem, hc]))
  · exact CalmG.mk 31 (.int .i64 1) rfl rfl rfl (fun W hW => calm_move (.tmp 11) rfl rfl)
  · exact CalmG.mk 32 (.int .i64 0) rfl rfl rfl (fun W hW => calm_move (.tmp 9) rfl rfl)
  · exact CalmG.mk 33 (.pointer (some ⟨w.heap.size + 1, 3, none⟩)) rfl rfl rfl (fun W hW => calm_run (by simp [execOp, Act.eval, go_sem]))
  · exact CalmG.mk 34 (.pointer (some ⟨w.heap.size + 1, 3, none⟩)) rfl rfl rfl (fun W hW => calm_run (by simp [execOp, Act.eval, go_sem]))
  · exact CalmG.mk 35 (.int .i64 y3) rfl rfl rfl (fun W hW => by have hc := row_int (off := 3) (z := y3) ((hW.block _ ly).trans ky_1) rfl; exact calm_run (by simp [execOp, Act.eval, go_sem, hc]))
  · exact CalmG.mk 36 (.int .i64 (x1 * y3)) rfl rfl rfl (fun W hW => calm_run (by simp [execOp, Act.eval, go_sem, wmul bx1 by3]))
  · exact CalmG.mk 37 (.int .i64 (x0 * y0 + x1 * y3)) rfl rfl rfl (fun W hW => calm_run (by simp [execOp, Act.eval, go_sem, wadd2 bx0 by0 bx1 by3]))
  intro V_2 hW
  simp only [List.drop_succ_cons, List.drop_zero]
  have kx_2 := (hW.block _ lx).trans kx_1
  have ky_2 := (hW.block _ ly).trans ky_1
  have kr_2 := (hW.block _ lr).trans kr_1
  have ko_2 := (hW.block _ lo).trans ko_1
  have HB_2 := low_tr' HB_1 hW (by omega)
  clear kx_1 ky_1 kr_1 ko_1 HB_1 lx ly lr lo hW V_1
  go_wp2
  rw [rounds_succ]; go_wp2
  have lx := (Array.getElem?_eq_some_iff.1 kx_2).1
  have ly := (Array.getElem?_eq_some_iff.1 ky_2).1
  have lr := (Array.getElem?_eq_some_iff.1 kr_2).1
  have lo := (Array.getElem?_eq_some_iff.1 ko_2).1
  refine region_via 13 [(25, .int .i64 (x0 * y0 + x1 * y3)), (26, .int .i64 0), (27, .int .i64 2), (28, .pointer (some ⟨w.heap.size, 0, none⟩)), (29, .pointer (some ⟨w.heap.size, 2, none⟩)), (30, .int .i64 x2), (31, .int .i64 2), (32, .int .i64 0), (33, .pointer (some ⟨w.heap.size + 1, 6, none⟩)), (34, .pointer (some ⟨w.heap.size + 1, 6, none⟩)), (35, .int .i64 y6), (36, .int .i64 (x2 * y6)), (37, .int .i64 (x0 * y0 + x1 * y3 + x2 * y6))] (by kernel_rfl) (by decide) (by kernel_rfl) (by kernel_rfl) (by kernel_rfl) (fun aE hpe => ?_)
  simp only [puts, Act.put, List.setIfInBounds_toArray, List.set_cons_zero, List.set_cons_succ] at hpe
  subst hpe
  refine ⟨⟨.inr (.inr ?_), .inr (.inr ?_), .inr (.inr ?_), .inr (.inr ?_), .inr (.inr ?_), .inr (.inr ?_), .inr (.inr ?_), .inr (.inr ?_), .inr (.inr ?_), .inr (.inr ?_), .inr (.inr ?_), .inr (.inr ?_), .inr (.inr ?_), trivial⟩, ?_⟩
  · exact CalmG.mk 25 (.int .i64 (x0 * y0 + x1 * y3)) rfl rfl rfl (fun W hW => calm_move (.tmp 10) rfl rfl)
  · exact CalmG.mk 26 (.int .i64 0) rfl rfl rfl (fun W hW => calm_move (.tmp 8) rfl rfl)
  · exact CalmG.mk 27 (.int .i64 2) rfl rfl rfl (fun W hW => calm_move (.tmp 11) rfl rfl)
  · exact CalmG.mk 28 (.pointer (some ⟨w.heap.size, 0, none⟩)) rfl rfl rfl (fun W hW => calm_run (by simp [execOp, Act.eval, go_sem]))
  · exact CalmG.mk 29 (.pointer (some ⟨w.heap.size, 2, none⟩)) rfl rfl rfl (fun W hW => calm_run (by simp [execOp, Act.eval, go_sem]))
  · exact CalmG.mk 30 (.int .i64 x2) rfl rfl rfl (fun W hW => by have hc := row_int (off := 2) (z := x2) ((hW.block _ lx).trans kx_2) rfl; exact calm_run (by simp [execOp, Act.eval, go_sem, hc]))
  · exact CalmG.mk 31 (.int .i64 2) rfl rfl rfl (fun W hW => calm_move (.tmp 11) rfl rfl)
  · exact CalmG.mk 32 (.int .i64 0) rfl rfl rfl (fun W hW => calm_move (.tmp 9) rfl rfl)
  · exact CalmG.mk 33 (.pointer (some ⟨w.heap.size + 1, 6, none⟩)) rfl rfl rfl (fun W hW => calm_run (by simp [execOp, Act.eval, go_sem]))
  · exact CalmG.mk 34 (.pointer (some ⟨w.heap.size + 1, 6, none⟩)) rfl rfl rfl (fun W hW => calm_run (by simp [execOp, Act.eval, go_sem]))
  · exact CalmG.mk 35 (.int .i64 y6) rfl rfl rfl (fun W hW => by have hc := row_int (off := 6) (z := y6) ((hW.block _ ly).trans ky_2) rfl; exact calm_run (by simp [execOp, Act.eval, go_sem, hc]))
  · exact CalmG.mk 36 (.int .i64 (x2 * y6)) rfl rfl rfl (fun W hW => calm_run (by simp [execOp, Act.eval, go_sem, wmul bx2 by6]))
  · exact CalmG.mk 37 (.int .i64 (x0 * y0 + x1 * y3 + x2 * y6)) rfl rfl rfl (fun W hW => calm_run (by simp [execOp, Act.eval, go_sem, wadd3 bx0 by0 bx1 by3 bx2 by6]))
  intro V_3 hW
  simp only [List.drop_succ_cons, List.drop_zero]
  have kx_3 := (hW.block _ lx).trans kx_2
  have ky_3 := (hW.block _ ly).trans ky_2
  have kr_3 := (hW.block _ lr).trans kr_2
  have ko_3 := (hW.block _ lo).trans ko_2
  have HB_3 := low_tr' HB_2 hW (by omega)
  clear kx_2 ky_2 kr_2 ko_2 HB_2 lx ly lr lo hW V_2
  go_wp2
  rw [rounds_succ]; go_wp2
  have lx := (Array.getElem?_eq_some_iff.1 kx_3).1
  have ly := (Array.getElem?_eq_some_iff.1 ky_3).1
  have lr := (Array.getElem?_eq_some_iff.1 kr_3).1
  have lo := (Array.getElem?_eq_some_iff.1 ko_3).1
  refine region_via 7 [(38, .int .i64 0), (39, .int .i64 0), (40, .int .i64 (x0 * y0 + x1 * y3 + x2 * y6)), (41, .int .i64 p), (42, .int .i64 ((x0 * y0 + x1 * y3 + x2 * y6) % p)), (43, .pointer (some ⟨w.heap.size + 1 + 1 + 1, 0, none⟩)), (44, .pointer (some ⟨w.heap.size + 1 + 1 + 1, 0, none⟩))] (by kernel_rfl) (by decide) (by kernel_rfl) (by kernel_rfl) (by kernel_rfl) (fun aE hpe => ?_)
  simp only [puts, Act.put, List.setIfInBounds_toArray, List.set_cons_zero, List.set_cons_succ] at hpe
  subst hpe
  refine ⟨⟨.inr (.inr ?_), .inr (.inr ?_), .inr (.inr ?_), .inr (.inr ?_), .inr (.inr ?_), .inr (.inr ?_), .inr (.inr ?_), trivial⟩, ?_⟩
  · exact CalmG.mk 38 (.int .i64 0) rfl rfl rfl (fun W hW => calm_move (.tmp 8) rfl rfl)
  · exact CalmG.mk 39 (.int .i64 0) rfl rfl rfl (fun W hW => calm_move (.tmp 9) rfl rfl)
  · exact CalmG.mk 40 (.int .i64 (x0 * y0 + x1 * y3 + x2 * y6)) rfl rfl rfl (fun W hW => calm_move (.tmp 10) rfl rfl)
  · exact CalmG.mk 41 (.int .i64 p) rfl rfl rfl (fun W hW => calm_move (.tmp 0) rfl rfl)
  · exact CalmG.mk 42 (.int .i64 ((x0 * y0 + x1 * y3 + x2 * y6) % p)) rfl rfl rfl (fun W hW => by have e0 := dot12 bx0 by0 bx1 by3 bx2 by6; have e1 := Int.tmod_eq_emod_of_nonneg (b := p) e0; have e2 := wrap_small (modb (z := (x0 * y0 + x1 * y3 + x2 * y6)) hpb); have e3 : (p == 0) = false := (by simp; omega); exact calm_run (by simp [execOp, Act.eval, go_sem, e0, e1, e2, e3, (show ¬ p = 0 by omega)]))
  · exact CalmG.mk 43 (.pointer (some ⟨w.heap.size + 1 + 1 + 1, 0, none⟩)) rfl rfl rfl (fun W hW => calm_run (by simp [execOp, Act.eval, go_sem]))
  · exact CalmG.mk 44 (.pointer (some ⟨w.heap.size + 1 + 1 + 1, 0, none⟩)) rfl rfl rfl (fun W hW => calm_run (by simp [execOp, Act.eval, go_sem]))
  intro W hW
  simp only [List.drop_succ_cons, List.drop_zero]
  refine wpList_store1 _ rfl 2 (.tmp 44) (.tmp 42) rfl rfl (g := w.heap.size + 1 + 1 + 1) (off := 0) (T := 47) (cs := #[.int .i64 0, .int .i64 0, .int .i64 0, .int .i64 0, .int .i64 0, .int .i64 0, .int .i64 0, .int .i64 0, .int .i64 0]) (cs' := #[.int .i64 (((x0 * y0 + x1 * y3 + x2 * y6) % p)), .int .i64 0, .int .i64 0, .int .i64 0, .int .i64 0, .int .i64 0, .int .i64 0, .int .i64 0, .int .i64 0]) (z := ((x0 * y0 + x1 * y3 + x2 * y6) % p)) rfl rfl ((hW.block _ lo).trans ko_3) (Nat.le_of_ble_eq_true rfl) rfl Try.sizeOf2 ?_
  refine wpList_nil ?_
  have kx_4 := (setRow_other W (w.heap.size + 1 + 1 + 1) (w.heap.size) #[.int .i64 (((x0 * y0 + x1 * y3 + x2 * y6) % p)), .int .i64 0, .int .i64 0, .int .i64 0, .int .i64 0, .int .i64 0, .int .i64 0, .int .i64 0, .int .i64 0] (by omega)).trans ((hW.block _ lx).trans kx_3)
  have ky_4 := (setRow_other W (w.heap.size + 1 + 1 + 1) (w.heap.size + 1) #[.int .i64 (((x0 * y0 + x1 * y3 + x2 * y6) % p)), .int .i64 0, .int .i64 0, .int .i64 0, .int .i64 0, .int .i64 0, .int .i64 0, .int .i64 0, .int .i64 0] (by omega)).trans ((hW.block _ ly).trans ky_3)
  have kr_4 := (setRow_other W (w.heap.size + 1 + 1 + 1) (w.heap.size + 1 + 1) #[.int .i64 (((x0 * y0 + x1 * y3 + x2 * y6) % p)), .int .i64 0, .int .i64 0, .int .i64 0, .int .i64 0, .int .i64 0, .int .i64 0, .int .i64 0, .int .i64 0] (by omega)).trans ((hW.block _ lr).trans kr_3)
  have ko_4 := setRow_heap W (w.heap.size + 1 + 1 + 1) _ #[.int .i64 (((x0 * y0 + x1 * y3 + x2 * y6) % p)), .int .i64 0, .int .i64 0, .int .i64 0, .int .i64 0, .int .i64 0, .int .i64 0, .int .i64 0, .int .i64 0] _ _ ((hW.block _ lo).trans ko_3)
  have HB_4 : Below w.heap.size w (W.setRow (w.heap.size + 1 + 1 + 1) #[.int .i64 (((x0 * y0 + x1 * y3 + x2 * y6) % p)), .int .i64 0, .int .i64 0, .int .i64 0, .int .i64 0, .int .i64 0, .int .i64 0, .int .i64 0, .int .i64 0]) := below_setRowN (low_tr' HB_3 hW (by omega)) (by omega) _
  clear kx_3 ky_3 kr_3 ko_3 HB_3 lx ly lr lo hW
  generalize W.setRow (w.heap.size + 1 + 1 + 1) #[.int .i64 (((x0 * y0 + x1 * y3 + x2 * y6) % p)), .int .i64 0, .int .i64 0, .int .i64 0, .int .i64 0, .int .i64 0, .int .i64 0, .int .i64 0, .int .i64 0] = V_4 at *
  clear V_3
  go_wp2
  rw [rounds_succ]; go_wp2
  refine wp_loop_rounds 4 ?_
  rw [rounds_succ]; go_wp2
  have lx := (Array.getElem?_eq_some_iff.1 kx_4).1
  have ly := (Array.getElem?_eq_some_iff.1 ky_4).1
  have lr := (Array.getElem?_eq_some_iff.1 kr_4).1
  have lo := (Array.getElem?_eq_some_iff.1 ko_4).1
  refine region_via 13 [(25, .int .i64 0), (26, .int .i64 0), (27, .int .i64 0), (28, .pointer (some ⟨w.heap.size, 0, none⟩)), (29, .pointer (some ⟨w.heap.size, 0, none⟩)), (30, .int .i64 x0), (31, .int .i64 0), (32, .int .i64 1), (33, .pointer (some ⟨w.heap.size + 1, 0, none⟩)), (34, .pointer (some ⟨w.heap.size + 1, 1, none⟩)), (35, .int .i64 y1), (36, .int .i64 (x0 * y1)), (37, .int .i64 (x0 * y1))] (by kernel_rfl) (by decide) (by kernel_rfl) (by kernel_rfl) (by kernel_rfl) (fun aE hpe => ?_)
  simp only [puts, Act.put, List.setIfInBounds_toArray, List.set_cons_zero, List.set_cons_succ] at hpe
  subst hpe
  refine ⟨⟨.inr (.inr ?_), .inr (.inr ?_), .inr (.inr ?_), .inr (.inr ?_), .inr (.inr ?_), .inr (.inr ?_), .inr (.inr ?_), .inr (.inr ?_), .inr (.inr ?_), .inr (.inr ?_), .inr (.inr ?_), .inr (.inr ?_), .inr (.inr ?_), trivial⟩, ?_⟩
  · exact CalmG.mk 25 (.int .i64 0) rfl rfl rfl (fun W hW => calm_move (.tmp 10) rfl rfl)
  · exact CalmG.mk 26 (.int .i64 0) rfl rfl rfl (fun W hW => calm_move (.tmp 8) rfl rfl)
  · exact CalmG.mk 27 (.int .i64 0) rfl rfl rfl (fun W hW => calm_move (.tmp 11) rfl rfl)
  · exact CalmG.mk 28 (.pointer (some ⟨w.heap.size, 0, none⟩)) rfl rfl rfl (fun W hW => calm_run (by simp [execOp, Act.eval, go_sem]))
  · exact CalmG.mk 29 (.pointer (some ⟨w.heap.size, 0, none⟩)) rfl rfl rfl (fun W hW => calm_run (by simp [execOp, Act.eval, go_sem]))
  · exact CalmG.mk 30 (.int .i64 x0) rfl rfl rfl (fun W hW => by have hc := row_int (off := 0) (z := x0) ((hW.block _ lx).trans kx_4) rfl; exact calm_run (by simp [execOp, Act.eval, go_sem, hc]))
  · exact CalmG.mk 31 (.int .i64 0) rfl rfl rfl (fun W hW => calm_move (.tmp 11) rfl rfl)
  · exact CalmG.mk 32 (.int .i64 1) rfl rfl rfl (fun W hW => calm_move (.tmp 9) rfl rfl)
  · exact CalmG.mk 33 (.pointer (some ⟨w.heap.size + 1, 0, none⟩)) rfl rfl rfl (fun W hW => calm_run (by simp [execOp, Act.eval, go_sem]))
  · exact CalmG.mk 34 (.pointer (some ⟨w.heap.size + 1, 1, none⟩)) rfl rfl rfl (fun W hW => calm_run (by simp [execOp, Act.eval, go_sem]))
  · exact CalmG.mk 35 (.int .i64 y1) rfl rfl rfl (fun W hW => by have hc := row_int (off := 1) (z := y1) ((hW.block _ ly).trans ky_4) rfl; exact calm_run (by simp [execOp, Act.eval, go_sem, hc]))
  · exact CalmG.mk 36 (.int .i64 (x0 * y1)) rfl rfl rfl (fun W hW => calm_run (by simp [execOp, Act.eval, go_sem, wmul bx0 by1]))
  · exact CalmG.mk 37 (.int .i64 (x0 * y1)) rfl rfl rfl (fun W hW => calm_run (by simp [execOp, Act.eval, go_sem, wmul bx0 by1]))
  intro V_5 hW
  simp only [List.drop_succ_cons, List.drop_zero]
  have kx_5 := (hW.block _ lx).trans kx_4
  have ky_5 := (hW.block _ ly).trans ky_4
  have kr_5 := (hW.block _ lr).trans kr_4
  have ko_5 := (hW.block _ lo).trans ko_4
  have HB_5 := low_tr' HB_4 hW (by omega)
  clear kx_4 ky_4 kr_4 ko_4 HB_4 lx ly lr lo hW V_4
  go_wp2
  rw [rounds_succ]; go_wp2
  have lx := (Array.getElem?_eq_some_iff.1 kx_5).1
  have ly := (Array.getElem?_eq_some_iff.1 ky_5).1
  have lr := (Array.getElem?_eq_some_iff.1 kr_5).1
  have lo := (Array.getElem?_eq_some_iff.1 ko_5).1
  refine region_via 13 [(25, .int .i64 (x0 * y1)), (26, .int .i64 0), (27, .int .i64 1), (28, .pointer (some ⟨w.heap.size, 0, none⟩)), (29, .pointer (some ⟨w.heap.size, 1, none⟩)), (30, .int .i64 x1), (31, .int .i64 1), (32, .int .i64 1), (33, .pointer (some ⟨w.heap.size + 1, 3, none⟩)), (34, .pointer (some ⟨w.heap.size + 1, 4, none⟩)), (35, .int .i64 y4), (36, .int .i64 (x1 * y4)), (37, .int .i64 (x0 * y1 + x1 * y4))] (by kernel_rfl) (by decide) (by kernel_rfl) (by kernel_rfl) (by kernel_rfl) (fun aE hpe => ?_)
  simp only [puts, Act.put, List.setIfInBounds_toArray, List.set_cons_zero, List.set_cons_succ] at hpe
  subst hpe
  refine ⟨⟨.inr (.inr ?_), .inr (.inr ?_), .inr (.inr ?_), .inr (.inr ?_), .inr (.inr ?_), .inr (.inr ?_), .inr (.inr ?_), .inr (.inr ?_), .inr (.inr ?_), .inr (.inr ?_), .inr (.inr ?_), .inr (.inr ?_), .inr (.inr ?_), trivial⟩, ?_⟩
  · exact CalmG.mk 25 (.int .i64 (x0 * y1)) rfl rfl rfl (fun W hW => calm_move (.tmp 10) rfl rfl)
  · exact CalmG.mk 26 (.int .i64 0) rfl rfl rfl (fun W hW => calm_move (.tmp 8) rfl rfl)
  · exact CalmG.mk 27 (.int .i64 1) rfl rfl rfl (fun W hW => calm_move (.tmp 11) rfl rfl)
  · exact CalmG.mk 28 (.pointer (some ⟨w.heap.size, 0, none⟩)) rfl rfl rfl (fun W hW => calm_run (by simp [execOp, Act.eval, go_sem]))
  · exact CalmG.mk 29 (.pointer (some ⟨w.heap.size, 1, none⟩)) rfl rfl rfl (fun W hW => calm_run (by simp [execOp, Act.eval, go_sem]))
  · exact CalmG.mk 30 (.int .i64 x1) rfl rfl rfl (fun W hW => by have hc := row_int (off := 1) (z := x1) ((hW.block _ lx).trans kx_5) rfl; exact calm_run (by simp [execOp, Act.eval, go_sem, hc]))
  · exact CalmG.mk 31 (.int .i64 1) rfl rfl rfl (fun W hW => calm_move (.tmp 11) rfl rfl)
  · exact CalmG.mk 32 (.int .i64 1) rfl rfl rfl (fun W hW => calm_move (.tmp 9) rfl rfl)
  · exact CalmG.mk 33 (.pointer (some ⟨w.heap.size + 1, 3, none⟩)) rfl rfl rfl (fun W hW => calm_run (by simp [execOp, Act.eval, go_sem]))
  · exact CalmG.mk 34 (.pointer (some ⟨w.heap.size + 1, 4, none⟩)) rfl rfl rfl (fun W hW => calm_run (by simp [execOp, Act.eval, go_sem]))
  · exact CalmG.mk 35 (.int .i64 y4) rfl rfl rfl (fun W hW => by have hc := row_int (off := 4) (z := y4) ((hW.block _ ly).trans ky_5) rfl; exact calm_run (by simp [execOp, Act.eval, go_sem, hc]))
  · exact CalmG.mk 36 (.int .i64 (x1 * y4)) rfl rfl rfl (fun W hW => calm_run (by simp [execOp, Act.eval, go_sem, wmul bx1 by4]))
  · exact CalmG.mk 37 (.int .i64 (x0 * y1 + x1 * y4)) rfl rfl rfl (fun W hW => calm_run (by simp [execOp, Act.eval, go_sem, wadd2 bx0 by1 bx1 by4]))
  intro V_6 hW
  simp only [List.drop_succ_cons, List.drop_zero]
  have kx_6 := (hW.block _ lx).trans kx_5
  have ky_6 := (hW.block _ ly).trans ky_5
  have kr_6 := (hW.block _ lr).trans kr_5
  have ko_6 := (hW.block _ lo).trans ko_5
  have HB_6 := low_tr' HB_5 hW (by omega)
  clear kx_5 ky_5 kr_5 ko_5 HB_5 lx ly lr lo hW V_5
  go_wp2
  rw [rounds_succ]; go_wp2
  have lx := (Array.getElem?_eq_some_iff.1 kx_6).1
  have ly := (Array.getElem?_eq_some_iff.1 ky_6).1
  have lr := (Array.getElem?_eq_some_iff.1 kr_6).1
  have lo := (Array.getElem?_eq_some_iff.1 ko_6).1
  refine region_via 13 [(25, .int .i64 (x0 * y1 + x1 * y4)), (26, .int .i64 0), (27, .int .i64 2), (28, .pointer (some ⟨w.heap.size, 0, none⟩)), (29, .pointer (some ⟨w.heap.size, 2, none⟩)), (30, .int .i64 x2), (31, .int .i64 2), (32, .int .i64 1), (33, .pointer (some ⟨w.heap.size + 1, 6, none⟩)), (34, .pointer (some ⟨w.heap.size + 1, 7, none⟩)), (35, .int .i64 y7), (36, .int .i64 (x2 * y7)), (37, .int .i64 (x0 * y1 + x1 * y4 + x2 * y7))] (by kernel_rfl) (by decide) (by kernel_rfl) (by kernel_rfl) (by kernel_rfl) (fun aE hpe => ?_)
  simp only [puts, Act.put, List.setIfInBounds_toArray, List.set_cons_zero, List.set_cons_succ] at hpe
  subst hpe
  refine ⟨⟨.inr (.inr ?_), .inr (.inr ?_), .inr (.inr ?_), .inr (.inr ?_), .inr (.inr ?_), .inr (.inr ?_), .inr (.inr ?_), .inr (.inr ?_), .inr (.inr ?_), .inr (.inr ?_), .inr (.inr ?_), .inr (.inr ?_), .inr (.inr ?_), trivial⟩, ?_⟩
  · exact CalmG.mk 25 (.int .i64 (x0 * y1 + x1 * y4)) rfl rfl rfl (fun W hW => calm_move (.tmp 10) rfl rfl)
  · exact CalmG.mk 26 (.int .i64 0) rfl rfl rfl (fun W hW => calm_move (.tmp 8) rfl rfl)
  · exact CalmG.mk 27 (.int .i64 2) rfl rfl rfl (fun W hW => calm_move (.tmp 11) rfl rfl)
  · exact CalmG.mk 28 (.pointer (some ⟨w.heap.size, 0, none⟩)) rfl rfl rfl (fun W hW => calm_run (by simp [execOp, Act.eval, go_sem]))
  · exact CalmG.mk 29 (.pointer (some ⟨w.heap.size, 2, none⟩)) rfl rfl rfl (fun W hW => calm_run (by simp [execOp, Act.eval, go_sem]))
  · exact CalmG.mk 30 (.int .i64 x2) rfl rfl rfl (fun W hW => by have hc := row_int (off := 2) (z := x2) ((hW.block _ lx).trans kx_6) rfl; exact calm_run (by simp [execOp, Act.eval, go_sem, hc]))
  · exact CalmG.mk 31 (.int .i64 2) rfl rfl rfl (fun W hW => calm_move (.tmp 11) rfl rfl)
  · exact CalmG.mk 32 (.int .i64 1) rfl rfl rfl (fun W hW => calm_move (.tmp 9) rfl rfl)
  · exact CalmG.mk 33 (.pointer (some ⟨w.heap.size + 1, 6, none⟩)) rfl rfl rfl (fun W hW => calm_run (by simp [execOp, Act.eval, go_sem]))
  · exact CalmG.mk 34 (.pointer (some ⟨w.heap.size + 1, 7, none⟩)) rfl rfl rfl (fun W hW => calm_run (by simp [execOp, Act.eval, go_sem]))
  · exact CalmG.mk 35 (.int .i64 y7) rfl rfl rfl (fun W hW => by have hc := row_int (off := 7) (z := y7) ((hW.block _ ly).trans ky_6) rfl; exact calm_run (by simp [execOp, Act.eval, go_sem, hc]))
  · exact CalmG.mk 36 (.int .i64 (x2 * y7)) rfl rfl rfl (fun W hW => calm_run (by simp [execOp, Act.eval, go_sem, wmul bx2 by7]))
  · exact CalmG.mk 37 (.int .i64 (x0 * y1 + x1 * y4 + x2 * y7)) rfl rfl rfl (fun W hW => calm_run (by simp [execOp, Act.eval, go_sem, wadd3 bx0 by1 bx1 by4 bx2 by7]))
  intro V_7 hW
  simp only [List.drop_succ_cons, List.drop_zero]
  have kx_7 := (hW.block _ lx).trans kx_6
  have ky_7 := (hW.block _ ly).trans ky_6
  have kr_7 := (hW.block _ lr).trans kr_6
  have ko_7 := (hW.block _ lo).trans ko_6
  have HB_7 := low_tr' HB_6 hW (by omega)
  clear kx_6 ky_6 kr_6 ko_6 HB_6 lx ly lr lo hW V_6
  go_wp2
  rw [rounds_succ]; go_wp2
  have lx := (Array.getElem?_eq_some_iff.1 kx_7).1
  have ly := (Array.getElem?_eq_some_iff.1 ky_7).1
  have lr := (Array.getElem?_eq_some_iff.1 kr_7).1
  have lo := (Array.getElem?_eq_some_iff.1 ko_7).1
  refine region_via 7 [(38, .int .i64 0), (39, .int .i64 1), (40, .int .i64 (x0 * y1 + x1 * y4 + x2 * y7)), (41, .int .i64 p), (42, .int .i64 ((x0 * y1 + x1 * y4 + x2 * y7) % p)), (43, .pointer (some ⟨w.heap.size + 1 + 1 + 1, 0, none⟩)), (44, .pointer (some ⟨w.heap.size + 1 + 1 + 1, 1, none⟩))] (by kernel_rfl) (by decide) (by kernel_rfl) (by kernel_rfl) (by kernel_rfl) (fun aE hpe => ?_)
  simp only [puts, Act.put, List.setIfInBounds_toArray, List.set_cons_zero, List.set_cons_succ] at hpe
  subst hpe
  refine ⟨⟨.inr (.inr ?_), .inr (.inr ?_), .inr (.inr ?_), .inr (.inr ?_), .inr (.inr ?_), .inr (.inr ?_), .inr (.inr ?_), trivial⟩, ?_⟩
  · exact CalmG.mk 38 (.int .i64 0) rfl rfl rfl (fun W hW => calm_move (.tmp 8) rfl rfl)
  · exact CalmG.mk 39 (.int .i64 1) rfl rfl rfl (fun W hW => calm_move (.tmp 9) rfl rfl)
  · exact CalmG.mk 40 (.int .i64 (x0 * y1 + x1 * y4 + x2 * y7)) rfl rfl rfl (fun W hW => calm_move (.tmp 10) rfl rfl)
  · exact CalmG.mk 41 (.int .i64 p) rfl rfl rfl (fun W hW => calm_move (.tmp 0) rfl rfl)
  · exact CalmG.mk 42 (.int .i64 ((x0 * y1 + x1 * y4 + x2 * y7) % p)) rfl rfl rfl (fun W hW => by have e0 := dot12 bx0 by1 bx1 by4 bx2 by7; have e1 := Int.tmod_eq_emod_of_nonneg (b := p) e0; have e2 := wrap_small (modb (z := (x0 * y1 + x1 * y4 + x2 * y7)) hpb); have e3 : (p == 0) = false := (by simp; omega); exact calm_run (by simp [execOp, Act.eval, go_sem, e0, e1, e2, e3, (show ¬ p = 0 by omega)]))
  · exact CalmG.mk 43 (.pointer (some ⟨w.heap.size + 1 + 1 + 1, 0, none⟩)) rfl rfl rfl (fun W hW => calm_run (by simp [execOp, Act.eval, go_sem]))
  · exact CalmG.mk 44 (.pointer (some ⟨w.heap.size + 1 + 1 + 1, 1, none⟩)) rfl rfl rfl (fun W hW => calm_run (by simp [execOp, Act.eval, go_sem]))
  intro W hW
  simp only [List.drop_succ_cons, List.drop_zero]
  refine wpList_store1 _ rfl 2 (.tmp 44) (.tmp 42) rfl rfl (g := w.heap.size + 1 + 1 + 1) (off := 1) (T := 47) (cs := #[.int .i64 (((x0 * y0 + x1 * y3 + x2 * y6) % p)), .int .i64 0, .int .i64 0, .int .i64 0, .int .i64 0, .int .i64 0, .int .i64 0, .int .i64 0, .int .i64 0]) (cs' := #[.int .i64 (((x0 * y0 + x1 * y3 + x2 * y6) % p)), .int .i64 (((x0 * y1 + x1 * y4 + x2 * y7) % p)), .int .i64 0, .int .i64 0, .int .i64 0, .int .i64 0, .int .i64 0, .int .i64 0, .int .i64 0]) (z := ((x0 * y1 + x1 * y4 + x2 * y7) % p)) rfl rfl ((hW.block _ lo).trans ko_7) (Nat.le_of_ble_eq_true rfl) rfl Try.sizeOf2 ?_
  refine wpList_nil ?_
  have kx_8 := (setRow_other W (w.heap.size + 1 + 1 + 1) (w.heap.size) #[.int .i64 (((x0 * y0 + x1 * y3 + x2 * y6) % p)), .int .i64 (((x0 * y1 + x1 * y4 + x2 * y7) % p)), .int .i64 0, .int .i64 0, .int .i64 0, .int .i64 0, .int .i64 0, .int .i64 0, .int .i64 0] (by omega)).trans ((hW.block _ lx).trans kx_7)
  have ky_8 := (setRow_other W (w.heap.size + 1 + 1 + 1) (w.heap.size + 1) #[.int .i64 (((x0 * y0 + x1 * y3 + x2 * y6) % p)), .int .i64 (((x0 * y1 + x1 * y4 + x2 * y7) % p)), .int .i64 0, .int .i64 0, .int .i64 0, .int .i64 0, .int .i64 0, .int .i64 0, .int .i64 0] (by omega)).trans ((hW.block _ ly).trans ky_7)
  have kr_8 := (setRow_other W (w.heap.size + 1 + 1 + 1) (w.heap.size + 1 + 1) #[.int .i64 (((x0 * y0 + x1 * y3 + x2 * y6) % p)), .int .i64 (((x0 * y1 + x1 * y4 + x2 * y7) % p)), .int .i64 0, .int .i64 0, .int .i64 0, .int .i64 0, .int .i64 0, .int .i64 0, .int .i64 0] (by omega)).trans ((hW.block _ lr).trans kr_7)
  have ko_8 := setRow_heap W (w.heap.size + 1 + 1 + 1) _ #[.int .i64 (((x0 * y0 + x1 * y3 + x2 * y6) % p)), .int .i64 (((x0 * y1 + x1 * y4 + x2 * y7) % p)), .int .i64 0, .int .i64 0, .int .i64 0, .int .i64 0, .int .i64 0, .int .i64 0, .int .i64 0] _ _ ((hW.block _ lo).trans ko_7)
  have HB_8 : Below w.heap.size w (W.setRow (w.heap.size + 1 + 1 + 1) #[.int .i64 (((x0 * y0 + x1 * y3 + x2 * y6) % p)), .int .i64 (((x0 * y1 + x1 * y4 + x2 * y7) % p)), .int .i64 0, .int .i64 0, .int .i64 0, .int .i64 0, .int .i64 0, .int .i64 0, .int .i64 0]) := below_setRowN (low_tr' HB_7 hW (by omega)) (by omega) _
  clear kx_7 ky_7 kr_7 ko_7 HB_7 lx ly lr lo hW
  generalize W.setRow (w.heap.size + 1 + 1 + 1) #[.int .i64 (((x0 * y0 + x1 * y3 + x2 * y6) % p)), .int .i64 (((x0 * y1 + x1 * y4 + x2 * y7) % p)), .int .i64 0, .int .i64 0, .int .i64 0, .int .i64 0, .int .i64 0, .int .i64 0, .int .i64 0] = V_8 at *
  clear V_7
  go_wp2
  rw [rounds_succ]; go_wp2
  refine wp_loop_rounds 4 ?_
  rw [rounds_succ]; go_wp2
  have lx := (Array.getElem?_eq_some_iff.1 kx_8).1
  have ly := (Array.getElem?_eq_some_iff.1 ky_8).1
  have lr := (Array.getElem?_eq_some_iff.1 kr_8).1
  have lo := (Array.getElem?_eq_some_iff.1 ko_8).1
  refine region_via 13 [(25, .int .i64 0), (26, .int .i64 0), (27, .int .i64 0), (28, .pointer (some ⟨w.heap.size, 0, none⟩)), (29, .pointer (some ⟨w.heap.size, 0, none⟩)), (30, .int .i64 x0), (31, .int .i64 0), (32, .int .i64 2), (33, .pointer (some ⟨w.heap.size + 1, 0, none⟩)), (34, .pointer (some ⟨w.heap.size + 1, 2, none⟩)), (35, .int .i64 y2), (36, .int .i64 (x0 * y2)), (37, .int .i64 (x0 * y2))] (by kernel_rfl) (by decide) (by kernel_rfl) (by kernel_rfl) (by kernel_rfl) (fun aE hpe => ?_)
  simp only [puts, Act.put, List.setIfInBounds_toArray, List.set_cons_zero, List.set_cons_succ] at hpe
  subst hpe
  refine ⟨⟨.inr (.inr ?_), .inr (.inr ?_), .inr (.inr ?_), .inr (.inr ?_), .inr (.inr ?_), .inr (.inr ?_), .inr (.inr ?_), .inr (.inr ?_), .inr (.inr ?_), .inr (.inr ?_), .inr (.inr ?_), .inr (.inr ?_), .inr (.inr ?_), trivial⟩, ?_⟩
  · exact CalmG.mk 25 (.int .i64 0) rfl rfl rfl (fun W hW => calm_move (.tmp 10) rfl rfl)
  · exact CalmG.mk 26 (.int .i64 0) rfl rfl rfl (fun W hW => calm_move (.tmp 8) rfl rfl)
  · exact CalmG.mk 27 (.int .i64 0) rfl rfl rfl (fun W hW => calm_move (.tmp 11) rfl rfl)
  · exact CalmG.mk 28 (.pointer (some ⟨w.heap.size, 0, none⟩)) rfl rfl rfl (fun W hW => calm_run (by simp [execOp, Act.eval, go_sem]))
  · exact CalmG.mk 29 (.pointer (some ⟨w.heap.size, 0, none⟩)) rfl rfl rfl (fun W hW => calm_run (by simp [execOp, Act.eval, go_sem]))
  · exact CalmG.mk 30 (.int .i64 x0) rfl rfl rfl (fun W hW => by have hc := row_int (off := 0) (z := x0) ((hW.block _ lx).trans kx_8) rfl; exact calm_run (by simp [execOp, Act.eval, go_sem, hc]))
  · exact CalmG.mk 31 (.int .i64 0) rfl rfl rfl (fun W hW => calm_move (.tmp 11) rfl rfl)
  · exact CalmG.mk 32 (.int .i64 2) rfl rfl rfl (fun W hW => calm_move (.tmp 9) rfl rfl)
  · exact CalmG.mk 33 (.pointer (some ⟨w.heap.size + 1, 0, none⟩)) rfl rfl rfl (fun W hW => calm_run (by simp [execOp, Act.eval, go_sem]))
  · exact CalmG.mk 34 (.pointer (some ⟨w.heap.size + 1, 2, none⟩)) rfl rfl rfl (fun W hW => calm_run (by simp [execOp, Act.eval, go_sem]))
  · exact CalmG.mk 35 (.int .i64 y2) rfl rfl rfl (fun W hW => by have hc := row_int (off := 2) (z := y2) ((hW.block _ ly).trans ky_8) rfl; exact calm_run (by simp [execOp, Act.eval, go_sem, hc]))
  · exact CalmG.mk 36 (.int .i64 (x0 * y2)) rfl rfl rfl (fun W hW => calm_run (by simp [execOp, Act.eval, go_sem, wmul bx0 by2]))
  · exact CalmG.mk 37 (.int .i64 (x0 * y2)) rfl rfl rfl (fun W hW => calm_run (by simp [execOp, Act.eval, go_sem, wmul bx0 by2]))
  intro V_9 hW
  simp only [List.drop_succ_cons, List.drop_zero]
  have kx_9 := (hW.block _ lx).trans kx_8
  have ky_9 := (hW.block _ ly).trans ky_8
  have kr_9 := (hW.block _ lr).trans kr_8
  have ko_9 := (hW.block _ lo).trans ko_8
  have HB_9 := low_tr' HB_8 hW (by omega)
  clear kx_8 ky_8 kr_8 ko_8 HB_8 lx ly lr lo hW V_8
  go_wp2
  rw [rounds_succ]; go_wp2
  have lx := (Array.getElem?_eq_some_iff.1 kx_9).1
  have ly := (Array.getElem?_eq_some_iff.1 ky_9).1
  have lr := (Array.getElem?_eq_some_iff.1 kr_9).1
  have lo := (Array.getElem?_eq_some_iff.1 ko_9).1
  refine region_via 13 [(25, .int .i64 (x0 * y2)), (26, .int .i64 0), (27, .int .i64 1), (28, .pointer (some ⟨w.heap.size, 0, none⟩)), (29, .pointer (some ⟨w.heap.size, 1, none⟩)), (30, .int .i64 x1), (31, .int .i64 1), (32, .int .i64 2), (33, .pointer (some ⟨w.heap.size + 1, 3, none⟩)), (34, .pointer (some ⟨w.heap.size + 1, 5, none⟩)), (35, .int .i64 y5), (36, .int .i64 (x1 * y5)), (37, .int .i64 (x0 * y2 + x1 * y5))] (by kernel_rfl) (by decide) (by kernel_rfl) (by kernel_rfl) (by kernel_rfl) (fun aE hpe => ?_)
  simp only [puts, Act.put, List.setIfInBounds_toArray, List.set_cons_zero, List.set_cons_succ] at hpe
  subst hpe
  refine ⟨⟨.inr (.inr ?_), .inr (.inr ?_), .inr (.inr ?_), .inr (.inr ?_), .inr (.inr ?_), .inr (.inr ?_), .inr (.inr ?_), .inr (.inr ?_), .inr (.inr ?_), .inr (.inr ?_), .inr (.inr ?_), .inr (.inr ?_), .inr (.inr ?_), trivial⟩, ?_⟩
  · exact CalmG.mk 25 (.int .i64 (x0 * y2)) rfl rfl rfl (fun W hW => calm_move (.tmp 10) rfl rfl)
  · exact CalmG.mk 26 (.int .i64 0) rfl rfl rfl (fun W hW => calm_move (.tmp 8) rfl rfl)
  · exact CalmG.mk 27 (.int .i64 1) rfl rfl rfl (fun W hW => calm_move (.tmp 11) rfl rfl)
  · exact CalmG.mk 28 (.pointer (some ⟨w.heap.size, 0, none⟩)) rfl rfl rfl (fun W hW => calm_run (by simp [execOp, Act.eval, go_sem]))
  · exact CalmG.mk 29 (.pointer (some ⟨w.heap.size, 1, none⟩)) rfl rfl rfl (fun W hW => calm_run (by simp [execOp, Act.eval, go_sem]))
  · exact CalmG.mk 30 (.int .i64 x1) rfl rfl rfl (fun W hW => by have hc := row_int (off := 1) (z := x1) ((hW.block _ lx).trans kx_9) rfl; exact calm_run (by simp [execOp, Act.eval, go_sem, hc]))
  · exact CalmG.mk 31 (.int .i64 1) rfl rfl rfl (fun W hW => calm_move (.tmp 11) rfl rfl)
  · exact CalmG.mk 32 (.int .i64 2) rfl rfl rfl (fun W hW => calm_move (.tmp 9) rfl rfl)
  · exact CalmG.mk 33 (.pointer (some ⟨w.heap.size + 1, 3, none⟩)) rfl rfl rfl (fun W hW => calm_run (by simp [execOp, Act.eval, go_sem]))
  · exact CalmG.mk 34 (.pointer (some ⟨w.heap.size + 1, 5, none⟩)) rfl rfl rfl (fun W hW => calm_run (by simp [execOp, Act.eval, go_sem]))
  · exact CalmG.mk 35 (.int .i64 y5) rfl rfl rfl (fun W hW => by have hc := row_int (off := 5) (z := y5) ((hW.block _ ly).trans ky_9) rfl; exact calm_run (by simp [execOp, Act.eval, go_sem, hc]))
  · exact CalmG.mk 36 (.int .i64 (x1 * y5)) rfl rfl rfl (fun W hW => calm_run (by simp [execOp, Act.eval, go_sem, wmul bx1 by5]))
  · exact CalmG.mk 37 (.int .i64 (x0 * y2 + x1 * y5)) rfl rfl rfl (fun W hW => calm_run (by simp [execOp, Act.eval, go_sem, wadd2 bx0 by2 bx1 by5]))
  intro V_10 hW
  simp only [List.drop_succ_cons, List.drop_zero]
  have kx_10 := (hW.block _ lx).trans kx_9
  have ky_10 := (hW.block _ ly).trans ky_9
  have kr_10 := (hW.block _ lr).trans kr_9
  have ko_10 := (hW.block _ lo).trans ko_9
  have HB_10 := low_tr' HB_9 hW (by omega)
  clear kx_9 ky_9 kr_9 ko_9 HB_9 lx ly lr lo hW V_9
  go_wp2
  rw [rounds_succ]; go_wp2
  have lx := (Array.getElem?_eq_some_iff.1 kx_10).1
  have ly := (Array.getElem?_eq_some_iff.1 ky_10).1
  have lr := (Array.getElem?_eq_some_iff.1 kr_10).1
  have lo := (Array.getElem?_eq_some_iff.1 ko_10).1
  refine region_via 13 [(25, .int .i64 (x0 * y2 + x1 * y5)), (26, .int .i64 0), (27, .int .i64 2), (28, .pointer (some ⟨w.heap.size, 0, none⟩)), (29, .pointer (some ⟨w.heap.size, 2, none⟩)), (30, .int .i64 x2), (31, .int .i64 2), (32, .int .i64 2), (33, .pointer (some ⟨w.heap.size + 1, 6, none⟩)), (34, .pointer (some ⟨w.heap.size + 1, 8, none⟩)), (35, .int .i64 y8), (36, .int .i64 (x2 * y8)), (37, .int .i64 (x0 * y2 + x1 * y5 + x2 * y8))] (by kernel_rfl) (by decide) (by kernel_rfl) (by kernel_rfl) (by kernel_rfl) (fun aE hpe => ?_)
  simp only [puts, Act.put, List.setIfInBounds_toArray, List.set_cons_zero, List.set_cons_succ] at hpe
  subst hpe
  refine ⟨⟨.inr (.inr ?_), .inr (.inr ?_), .inr (.inr ?_), .inr (.inr ?_), .inr (.inr ?_), .inr (.inr ?_), .inr (.inr ?_), .inr (.inr ?_), .inr (.inr ?_), .inr (.inr ?_), .inr (.inr ?_), .inr (.inr ?_), .inr (.inr ?_), trivial⟩, ?_⟩
  · exact CalmG.mk 25 (.int .i64 (x0 * y2 + x1 * y5)) rfl rfl rfl (fun W hW => calm_move (.tmp 10) rfl rfl)
  · exact CalmG.mk 26 (.int .i64 0) rfl rfl rfl (fun W hW => calm_move (.tmp 8) rfl rfl)
  · exact CalmG.mk 27 (.int .i64 2) rfl rfl rfl (fun W hW => calm_move (.tmp 11) rfl rfl)
  · exact CalmG.mk 28 (.pointer (some ⟨w.heap.size, 0, none⟩)) rfl rfl rfl (fun W hW => calm_run (by simp [execOp, Act.eval, go_sem]))
  · exact CalmG.mk 29 (.pointer (some ⟨w.heap.size, 2, none⟩)) rfl rfl rfl (fun W hW => calm_run (by simp [execOp, Act.eval, go_sem]))
  · exact CalmG.mk 30 (.int .i64 x2) rfl rfl rfl (fun W hW => by have hc := row_int (off := 2) (z := x2) ((hW.block _ lx).trans kx_10) rfl; exact calm_run (by simp [execOp, Act.eval, go_sem, hc]))
  · exact CalmG.mk 31 (.int .i64 2) rfl rfl rfl (fun W hW => calm_move (.tmp 11) rfl rfl)
  · exact CalmG.mk 32 (.int .i64 2) rfl rfl rfl (fun W hW => calm_move (.tmp 9) rfl rfl)
  · exact CalmG.mk 33 (.pointer (some ⟨w.heap.size + 1, 6, none⟩)) rfl rfl rfl (fun W hW => calm_run (by simp [execOp, Act.eval, go_sem]))
  · exact CalmG.mk 34 (.pointer (some ⟨w.heap.size + 1, 8, none⟩)) rfl rfl rfl (fun W hW => calm_run (by simp [execOp, Act.eval, go_sem]))
  · exact CalmG.mk 35 (.int .i64 y8) rfl rfl rfl (fun W hW => by have hc := row_int (off := 8) (z := y8) ((hW.block _ ly).trans ky_10) rfl; exact calm_run (by simp [execOp, Act.eval, go_sem, hc]))
  · exact CalmG.mk 36 (.int .i64 (x2 * y8)) rfl rfl rfl (fun W hW => calm_run (by simp [execOp, Act.eval, go_sem, wmul bx2 by8]))
  · exact CalmG.mk 37 (.int .i64 (x0 * y2 + x1 * y5 + x2 * y8)) rfl rfl rfl (fun W hW => calm_run (by simp [execOp, Act.eval, go_sem, wadd3 bx0 by2 bx1 by5 bx2 by8]))
  intro V_11 hW
  simp only [List.drop_succ_cons, List.drop_zero]
  have kx_11 := (hW.block _ lx).trans kx_10
  have ky_11 := (hW.block _ ly).trans ky_10
  have kr_11 := (hW.block _ lr).trans kr_10
  have ko_11 := (hW.block _ lo).trans ko_10
  have HB_11 := low_tr' HB_10 hW (by omega)
  clear kx_10 ky_10 kr_10 ko_10 HB_10 lx ly lr lo hW V_10
  go_wp2
  rw [rounds_succ]; go_wp2
  have lx := (Array.getElem?_eq_some_iff.1 kx_11).1
  have ly := (Array.getElem?_eq_some_iff.1 ky_11).1
  have lr := (Array.getElem?_eq_some_iff.1 kr_11).1
  have lo := (Array.getElem?_eq_some_iff.1 ko_11).1
  refine region_via 7 [(38, .int .i64 0), (39, .int .i64 2), (40, .int .i64 (x0 * y2 + x1 * y5 + x2 * y8)), (41, .int .i64 p), (42, .int .i64 ((x0 * y2 + x1 * y5 + x2 * y8) % p)), (43, .pointer (some ⟨w.heap.size + 1 + 1 + 1, 0, none⟩)), (44, .pointer (some ⟨w.heap.size + 1 + 1 + 1, 2, none⟩))] (by kernel_rfl) (by decide) (by kernel_rfl) (by kernel_rfl) (by kernel_rfl) (fun aE hpe => ?_)
  simp only [puts, Act.put, List.setIfInBounds_toArray, List.set_cons_zero, List.set_cons_succ] at hpe
  subst hpe
  refine ⟨⟨.inr (.inr ?_), .inr (.inr ?_), .inr (.inr ?_), .inr (.inr ?_), .inr (.inr ?_), .inr (.inr ?_), .inr (.inr ?_), trivial⟩, ?_⟩
  · exact CalmG.mk 38 (.int .i64 0) rfl rfl rfl (fun W hW => calm_move (.tmp 8) rfl rfl)
  · exact CalmG.mk 39 (.int .i64 2) rfl rfl rfl (fun W hW => calm_move (.tmp 9) rfl rfl)
  · exact CalmG.mk 40 (.int .i64 (x0 * y2 + x1 * y5 + x2 * y8)) rfl rfl rfl (fun W hW => calm_move (.tmp 10) rfl rfl)
  · exact CalmG.mk 41 (.int .i64 p) rfl rfl rfl (fun W hW => calm_move (.tmp 0) rfl rfl)
  · exact CalmG.mk 42 (.int .i64 ((x0 * y2 + x1 * y5 + x2 * y8) % p)) rfl rfl rfl (fun W hW => by have e0 := dot12 bx0 by2 bx1 by5 bx2 by8; have e1 := Int.tmod_eq_emod_of_nonneg (b := p) e0; have e2 := wrap_small (modb (z := (x0 * y2 + x1 * y5 + x2 * y8)) hpb); have e3 : (p == 0) = false := (by simp; omega); exact calm_run (by simp [execOp, Act.eval, go_sem, e0, e1, e2, e3, (show ¬ p = 0 by omega)]))
  · exact CalmG.mk 43 (.pointer (some ⟨w.heap.size + 1 + 1 + 1, 0, none⟩)) rfl rfl rfl (fun W hW => calm_run (by simp [execOp, Act.eval, go_sem]))
  · exact CalmG.mk 44 (.pointer (some ⟨w.heap.size + 1 + 1 + 1, 2, none⟩)) rfl rfl rfl (fun W hW => calm_run (by simp [execOp, Act.eval, go_sem]))
  intro W hW
  simp only [List.drop_succ_cons, List.drop_zero]
  refine wpList_store1 _ rfl 2 (.tmp 44) (.tmp 42) rfl rfl (g := w.heap.size + 1 + 1 + 1) (off := 2) (T := 47) (cs := #[.int .i64 (((x0 * y0 + x1 * y3 + x2 * y6) % p)), .int .i64 (((x0 * y1 + x1 * y4 + x2 * y7) % p)), .int .i64 0, .int .i64 0, .int .i64 0, .int .i64 0, .int .i64 0, .int .i64 0, .int .i64 0]) (cs' := #[.int .i64 (((x0 * y0 + x1 * y3 + x2 * y6) % p)), .int .i64 (((x0 * y1 + x1 * y4 + x2 * y7) % p)), .int .i64 (((x0 * y2 + x1 * y5 + x2 * y8) % p)), .int .i64 0, .int .i64 0, .int .i64 0, .int .i64 0, .int .i64 0, .int .i64 0]) (z := ((x0 * y2 + x1 * y5 + x2 * y8) % p)) rfl rfl ((hW.block _ lo).trans ko_11) (Nat.le_of_ble_eq_true rfl) rfl Try.sizeOf2 ?_
  refine wpList_nil ?_
  have kx_12 := (setRow_other W (w.heap.size + 1 + 1 + 1) (w.heap.size) #[.int .i64 (((x0 * y0 + x1 * y3 + x2 * y6) % p)), .int .i64 (((x0 * y1 + x1 * y4 + x2 * y7) % p)), .int .i64 (((x0 * y2 + x1 * y5 + x2 * y8) % p)), .int .i64 0, .int .i64 0, .int .i64 0, .int .i64 0, .int .i64 0, .int .i64 0] (by omega)).trans ((hW.block _ lx).trans kx_11)
  have ky_12 := (setRow_other W (w.heap.size + 1 + 1 + 1) (w.heap.size + 1) #[.int .i64 (((x0 * y0 + x1 * y3 + x2 * y6) % p)), .int .i64 (((x0 * y1 + x1 * y4 + x2 * y7) % p)), .int .i64 (((x0 * y2 + x1 * y5 + x2 * y8) % p)), .int .i64 0, .int .i64 0, .int .i64 0, .int .i64 0, .int .i64 0, .int .i64 0] (by omega)).trans ((hW.block _ ly).trans ky_11)
  have kr_12 := (setRow_other W (w.heap.size + 1 + 1 + 1) (w.heap.size + 1 + 1) #[.int .i64 (((x0 * y0 + x1 * y3 + x2 * y6) % p)), .int .i64 (((x0 * y1 + x1 * y4 + x2 * y7) % p)), .int .i64 (((x0 * y2 + x1 * y5 + x2 * y8) % p)), .int .i64 0, .int .i64 0, .int .i64 0, .int .i64 0, .int .i64 0, .int .i64 0] (by omega)).trans ((hW.block _ lr).trans kr_11)
  have ko_12 := setRow_heap W (w.heap.size + 1 + 1 + 1) _ #[.int .i64 (((x0 * y0 + x1 * y3 + x2 * y6) % p)), .int .i64 (((x0 * y1 + x1 * y4 + x2 * y7) % p)), .int .i64 (((x0 * y2 + x1 * y5 + x2 * y8) % p)), .int .i64 0, .int .i64 0, .int .i64 0, .int .i64 0, .int .i64 0, .int .i64 0] _ _ ((hW.block _ lo).trans ko_11)
  have HB_12 : Below w.heap.size w (W.setRow (w.heap.size + 1 + 1 + 1) #[.int .i64 (((x0 * y0 + x1 * y3 + x2 * y6) % p)), .int .i64 (((x0 * y1 + x1 * y4 + x2 * y7) % p)), .int .i64 (((x0 * y2 + x1 * y5 + x2 * y8) % p)), .int .i64 0, .int .i64 0, .int .i64 0, .int .i64 0, .int .i64 0, .int .i64 0]) := below_setRowN (low_tr' HB_11 hW (by omega)) (by omega) _
  clear kx_11 ky_11 kr_11 ko_11 HB_11 lx ly lr lo hW
  generalize W.setRow (w.heap.size + 1 + 1 + 1) #[.int .i64 (((x0 * y0 + x1 * y3 + x2 * y6) % p)), .int .i64 (((x0 * y1 + x1 * y4 + x2 * y7) % p)), .int .i64 (((x0 * y2 + x1 * y5 + x2 * y8) % p)), .int .i64 0, .int .i64 0, .int .i64 0, .int .i64 0, .int .i64 0, .int .i64 0] = V_12 at *
  clear V_11
  go_wp2
  rw [rounds_succ]; go_wp2
  rw [rounds_succ]; go_wp2
  refine wp_loop_rounds 4 ?_
  rw [rounds_succ]; go_wp2
  refine wp_loop_rounds 4 ?_
  rw [rounds_succ]; go_wp2
  have lx := (Array.getElem?_eq_some_iff.1 kx_12).1
  have ly := (Array.getElem?_eq_some_iff.1 ky_12).1
  have lr := (Array.getElem?_eq_some_iff.1 kr_12).1
  have lo := (Array.getElem?_eq_some_iff.1 ko_12).1
  refine region_via 13 [(25, .int .i64 0), (26, .int .i64 1), (27, .int .i64 0), (28, .pointer (some ⟨w.heap.size, 3, none⟩)), (29, .pointer (some ⟨w.heap.size, 3, none⟩)), (30, .int .i64 x3), (31, .int .i64 0), (32, .int .i64 0), (33, .pointer (some ⟨w.heap.size + 1, 0, none⟩)), (34, .pointer (some ⟨w.heap.size + 1, 0, none⟩)), (35, .int .i64 y0), (36, .int .i64 (x3 * y0)), (37, .int .i64 (x3 * y0))] (by kernel_rfl) (by decide) (by kernel_rfl) (by kernel_rfl) (by kernel_rfl) (fun aE hpe => ?_)
  simp only [puts, Act.put, List.setIfInBounds_toArray, List.set_cons_zero, List.set_cons_succ] at hpe
  subst hpe
  refine ⟨⟨.inr (.inr ?_), .inr (.inr ?_), .inr (.inr ?_), .inr (.inr ?_), .inr (.inr ?_), .inr (.inr ?_), .inr (.inr ?_), .inr (.inr ?_), .inr (.inr ?_), .inr (.inr ?_), .inr (.inr ?_), .inr (.inr ?_), .inr (.inr ?_), trivial⟩, ?_⟩
  · exact CalmG.mk 25 (.int .i64 0) rfl rfl rfl (fun W hW => calm_move (.tmp 10) rfl rfl)
  · exact CalmG.mk 26 (.int .i64 1) rfl rfl rfl (fun W hW => calm_move (.tmp 8) rfl rfl)
  · exact CalmG.mk 27 (.int .i64 0) rfl rfl rfl (fun W hW => calm_move (.tmp 11) rfl rfl)
  · exact CalmG.mk 28 (.pointer (some ⟨w.heap.size, 3, none⟩)) rfl rfl rfl (fun W hW => calm_run (by simp [execOp, Act.eval, go_sem]))
  · exact CalmG.mk 29 (.pointer (some ⟨w.heap.size, 3, none⟩)) rfl rfl rfl (fun W hW => calm_run (by simp [execOp, Act.eval, go_sem]))
  · exact CalmG.mk 30 (.int .i64 x3) rfl rfl rfl (fun W hW => by have hc := row_int (off := 3) (z := x3) ((hW.block _ lx).trans kx_12) rfl; exact calm_run (by simp [execOp, Act.eval, go_sem, hc]))
  · exact CalmG.mk 31 (.int .i64 0) rfl rfl rfl (fun W hW => calm_move (.tmp 11) rfl rfl)
  · exact CalmG.mk 32 (.int .i64 0) rfl rfl rfl (fun W hW => calm_move (.tmp 9) rfl rfl)
  · exact CalmG.mk 33 (.pointer (some ⟨w.heap.size + 1, 0, none⟩)) rfl rfl rfl (fun W hW => calm_run (by simp [execOp, Act.eval, go_sem]))
  · exact CalmG.mk 34 (.pointer (some ⟨w.heap.size + 1, 0, none⟩)) rfl rfl rfl (fun W hW => calm_run (by simp [execOp, Act.eval, go_sem]))
  · exact CalmG.mk 35 (.int .i64 y0) rfl rfl rfl (fun W hW => by have hc := row_int (off := 0) (z := y0) ((hW.block _ ly).trans ky_12) rfl; exact calm_run (by simp [execOp, Act.eval, go_sem, hc]))
  · exact CalmG.mk 36 (.int .i64 (x3 * y0)) rfl rfl rfl (fun W hW => calm_run (by simp [execOp, Act.eval, go_sem, wmul bx3 by0]))
  · exact CalmG.mk 37 (.int .i64 (x3 * y0)) rfl rfl rfl (fun W hW => calm_run (by simp [execOp, Act.eval, go_sem, wmul bx3 by0]))
  intro V_13 hW
  simp only [List.drop_succ_cons, List.drop_zero]
  have kx_13 := (hW.block _ lx).trans kx_12
  have ky_13 := (hW.block _ ly).trans ky_12
  have kr_13 := (hW.block _ lr).trans kr_12
  have ko_13 := (hW.block _ lo).trans ko_12
  have HB_13 := low_tr' HB_12 hW (by omega)
  clear kx_12 ky_12 kr_12 ko_12 HB_12 lx ly lr lo hW V_12
  go_wp2
  rw [rounds_succ]; go_wp2
  have lx := (Array.getElem?_eq_some_iff.1 kx_13).1
  have ly := (Array.getElem?_eq_some_iff.1 ky_13).1
  have lr := (Array.getElem?_eq_some_iff.1 kr_13).1
  have lo := (Array.getElem?_eq_some_iff.1 ko_13).1
  refine region_via 13 [(25, .int .i64 (x3 * y0)), (26, .int .i64 1), (27, .int .i64 1), (28, .pointer (some ⟨w.heap.size, 3, none⟩)), (29, .pointer (some ⟨w.heap.size, 4, none⟩)), (30, .int .i64 x4), (31, .int .i64 1), (32, .int .i64 0), (33, .pointer (some ⟨w.heap.size + 1, 3, none⟩)), (34, .pointer (some ⟨w.heap.size + 1, 3, none⟩)), (35, .int .i64 y3), (36, .int .i64 (x4 * y3)), (37, .int .i64 (x3 * y0 + x4 * y3))] (by kernel_rfl) (by decide) (by kernel_rfl) (by kernel_rfl) (by kernel_rfl) (fun aE hpe => ?_)
  simp only [puts, Act.put, List.setIfInBounds_toArray, List.set_cons_zero, List.set_cons_succ] at hpe
  subst hpe
  refine ⟨⟨.inr (.inr ?_), .inr (.inr ?_), .inr (.inr ?_), .inr (.inr ?_), .inr (.inr ?_), .inr (.inr ?_), .inr (.inr ?_), .inr (.inr ?_), .inr (.inr ?_), .inr (.inr ?_), .inr (.inr ?_), .inr (.inr ?_), .inr (.inr ?_), trivial⟩, ?_⟩
  · exact CalmG.mk 25 (.int .i64 (x3 * y0)) rfl rfl rfl (fun W hW => calm_move (.tmp 10) rfl rfl)
  · exact CalmG.mk 26 (.int .i64 1) rfl rfl rfl (fun W hW => calm_move (.tmp 8) rfl rfl)
  · exact CalmG.mk 27 (.int .i64 1) rfl rfl rfl (fun W hW => calm_move (.tmp 11) rfl rfl)
  · exact CalmG.mk 28 (.pointer (some ⟨w.heap.size, 3, none⟩)) rfl rfl rfl (fun W hW => calm_run (by simp [execOp, Act.eval, go_sem]))
  · exact CalmG.mk 29 (.pointer (some ⟨w.heap.size, 4, none⟩)) rfl rfl rfl (fun W hW => calm_run (by simp [execOp, Act.eval, go_sem]))
  · exact CalmG.mk 30 (.int .i64 x4) rfl rfl rfl (fun W hW => by have hc := row_int (off := 4) (z := x4) ((hW.block _ lx).trans kx_13) rfl; exact calm_run (by simp [execOp, Act.eval, go_sem, hc]))
  · exact CalmG.mk 31 (.int .i64 1) rfl rfl rfl (fun W hW => calm_move (.tmp 11) rfl rfl)
  · exact CalmG.mk 32 (.int .i64 0) rfl rfl rfl (fun W hW => calm_move (.tmp 9) rfl rfl)
  · exact CalmG.mk 33 (.pointer (some ⟨w.heap.size + 1, 3, none⟩)) rfl rfl rfl (fun W hW => calm_run (by simp [execOp, Act.eval, go_sem]))
  · exact CalmG.mk 34 (.pointer (some ⟨w.heap.size + 1, 3, none⟩)) rfl rfl rfl (fun W hW => calm_run (by simp [execOp, Act.eval, go_sem]))
  · exact CalmG.mk 35 (.int .i64 y3) rfl rfl rfl (fun W hW => by have hc := row_int (off := 3) (z := y3) ((hW.block _ ly).trans ky_13) rfl; exact calm_run (by simp [execOp, Act.eval, go_sem, hc]))
  · exact CalmG.mk 36 (.int .i64 (x4 * y3)) rfl rfl rfl (fun W hW => calm_run (by simp [execOp, Act.eval, go_sem, wmul bx4 by3]))
  · exact CalmG.mk 37 (.int .i64 (x3 * y0 + x4 * y3)) rfl rfl rfl (fun W hW => calm_run (by simp [execOp, Act.eval, go_sem, wadd2 bx3 by0 bx4 by3]))
  intro V_14 hW
  simp only [List.drop_succ_cons, List.drop_zero]
  have kx_14 := (hW.block _ lx).trans kx_13
  have ky_14 := (hW.block _ ly).trans ky_13
  have kr_14 := (hW.block _ lr).trans kr_13
  have ko_14 := (hW.block _ lo).trans ko_13
  have HB_14 := low_tr' HB_13 hW (by omega)
  clear kx_13 ky_13 kr_13 ko_13 HB_13 lx ly lr lo hW V_13
  go_wp2
  rw [rounds_succ]; go_wp2
  have lx := (Array.getElem?_eq_some_iff.1 kx_14).1
  have ly := (Array.getElem?_eq_some_iff.1 ky_14).1
  have lr := (Array.getElem?_eq_some_iff.1 kr_14).1
  have lo := (Array.getElem?_eq_some_iff.1 ko_14).1
  refine region_via 13 [(25, .int .i64 (x3 * y0 + x4 * y3)), (26, .int .i64 1), (27, .int .i64 2), (28, .pointer (some ⟨w.heap.size, 3, none⟩)), (29, .pointer (some ⟨w.heap.size, 5, none⟩)), (30, .int .i64 x5), (31, .int .i64 2), (32, .int .i64 0), (33, .pointer (some ⟨w.heap.size + 1, 6, none⟩)), (34, .pointer (some ⟨w.heap.size + 1, 6, none⟩)), (35, .int .i64 y6), (36, .int .i64 (x5 * y6)), (37, .int .i64 (x3 * y0 + x4 * y3 + x5 * y6))] (by kernel_rfl) (by decide) (by kernel_rfl) (by kernel_rfl) (by kernel_rfl) (fun aE hpe => ?_)
  simp only [puts, Act.put, List.setIfInBounds_toArray, List.set_cons_zero, List.set_cons_succ] at hpe
  subst hpe
  refine ⟨⟨.inr (.inr ?_), .inr (.inr ?_), .inr (.inr ?_), .inr (.inr ?_), .inr (.inr ?_), .inr (.inr ?_), .inr (.inr ?_), .inr (.inr ?_), .inr (.inr ?_), .inr (.inr ?_), .inr (.inr ?_), .inr (.inr ?_), .inr (.inr ?_), trivial⟩, ?_⟩
  · exact CalmG.mk 25 (.int .i64 (x3 * y0 + x4 * y3)) rfl rfl rfl (fun W hW => calm_move (.tmp 10) rfl rfl)
  · exact CalmG.mk 26 (.int .i64 1) rfl rfl rfl (fun W hW => calm_move (.tmp 8) rfl rfl)
  · exact CalmG.mk 27 (.int .i64 2) rfl rfl rfl (fun W hW => calm_move (.tmp 11) rfl rfl)
  · exact CalmG.mk 28 (.pointer (some ⟨w.heap.size, 3, none⟩)) rfl rfl rfl (fun W hW => calm_run (by simp [execOp, Act.eval, go_sem]))
  · exact CalmG.mk 29 (.pointer (some ⟨w.heap.size, 5, none⟩)) rfl rfl rfl (fun W hW => calm_run (by simp [execOp, Act.eval, go_sem]))
  · exact CalmG.mk 30 (.int .i64 x5) rfl rfl rfl (fun W hW => by have hc := row_int (off := 5) (z := x5) ((hW.block _ lx).trans kx_14) rfl; exact calm_run (by simp [execOp, Act.eval, go_sem, hc]))
  · exact CalmG.mk 31 (.int .i64 2) rfl rfl rfl (fun W hW => calm_move (.tmp 11) rfl rfl)
  · exact CalmG.mk 32 (.int .i64 0) rfl rfl rfl (fun W hW => calm_move (.tmp 9) rfl rfl)
  · exact CalmG.mk 33 (.pointer (some ⟨w.heap.size + 1, 6, none⟩)) rfl rfl rfl (fun W hW => calm_run (by simp [execOp, Act.eval, go_sem]))
  · exact CalmG.mk 34 (.pointer (some ⟨w.heap.size + 1, 6, none⟩)) rfl rfl rfl (fun W hW => calm_run (by simp [execOp, Act.eval, go_sem]))
  · exact CalmG.mk 35 (.int .i64 y6) rfl rfl rfl (fun W hW => by have hc := row_int (off := 6) (z := y6) ((hW.block _ ly).trans ky_14) rfl; exact calm_run (by simp [execOp, Act.eval, go_sem, hc]))
  · exact CalmG.mk 36 (.int .i64 (x5 * y6)) rfl rfl rfl (fun W hW => calm_run (by simp [execOp, Act.eval, go_sem, wmul bx5 by6]))
  · exact CalmG.mk 37 (.int .i64 (x3 * y0 + x4 * y3 + x5 * y6)) rfl rfl rfl (fun W hW => calm_run (by simp [execOp, Act.eval, go_sem, wadd3 bx3 by0 bx4 by3 bx5 by6]))
  intro V_15 hW
  simp only [List.drop_succ_cons, List.drop_zero]
  have kx_15 := (hW.block _ lx).trans kx_14
  have ky_15 := (hW.block _ ly).trans ky_14
  have kr_15 := (hW.block _ lr).trans kr_14
  have ko_15 := (hW.block _ lo).trans ko_14
  have HB_15 := low_tr' HB_14 hW (by omega)
  clear kx_14 ky_14 kr_14 ko_14 HB_14 lx ly lr lo hW V_14
  go_wp2
  rw [rounds_succ]; go_wp2
  have lx := (Array.getElem?_eq_some_iff.1 kx_15).1
  have ly := (Array.getElem?_eq_some_iff.1 ky_15).1
  have lr := (Array.getElem?_eq_some_iff.1 kr_15).1
  have lo := (Array.getElem?_eq_some_iff.1 ko_15).1
  refine region_via 7 [(38, .int .i64 1), (39, .int .i64 0), (40, .int .i64 (x3 * y0 + x4 * y3 + x5 * y6)), (41, .int .i64 p), (42, .int .i64 ((x3 * y0 + x4 * y3 + x5 * y6) % p)), (43, .pointer (some ⟨w.heap.size + 1 + 1 + 1, 3, none⟩)), (44, .pointer (some ⟨w.heap.size + 1 + 1 + 1, 3, none⟩))] (by kernel_rfl) (by decide) (by kernel_rfl) (by kernel_rfl) (by kernel_rfl) (fun aE hpe => ?_)
  simp only [puts, Act.put, List.setIfInBounds_toArray, List.set_cons_zero, List.set_cons_succ] at hpe
  subst hpe
  refine ⟨⟨.inr (.inr ?_), .inr (.inr ?_), .inr (.inr ?_), .inr (.inr ?_), .inr (.inr ?_), .inr (.inr ?_), .inr (.inr ?_), trivial⟩, ?_⟩
  · exact CalmG.mk 38 (.int .i64 1) rfl rfl rfl (fun W hW => calm_move (.tmp 8) rfl rfl)
  · exact CalmG.mk 39 (.int .i64 0) rfl rfl rfl (fun W hW => calm_move (.tmp 9) rfl rfl)
  · exact CalmG.mk 40 (.int .i64 (x3 * y0 + x4 * y3 + x5 * y6)) rfl rfl rfl (fun W hW => calm_move (.tmp 10) rfl rfl)
  · exact CalmG.mk 41 (.int .i64 p) rfl rfl rfl (fun W hW => calm_move (.tmp 0) rfl rfl)
  · exact CalmG.mk 42 (.int .i64 ((x3 * y0 + x4 * y3 + x5 * y6) % p)) rfl rfl rfl (fun W hW => by have e0 := dot12 bx3 by0 bx4 by3 bx5 by6; have e1 := Int.tmod_eq_emod_of_nonneg (b := p) e0; have e2 := wrap_small (modb (z := (x3 * y0 + x4 * y3 + x5 * y6)) hpb); have e3 : (p == 0) = false := (by simp; omega); exact calm_run (by simp [execOp, Act.eval, go_sem, e0, e1, e2, e3, (show ¬ p = 0 by omega)]))
  · exact CalmG.mk 43 (.pointer (some ⟨w.heap.size + 1 + 1 + 1, 3, none⟩)) rfl rfl rfl (fun W hW => calm_run (by simp [execOp, Act.eval, go_sem]))
  · exact CalmG.mk 44 (.pointer (some ⟨w.heap.size + 1 + 1 + 1, 3, none⟩)) rfl rfl rfl (fun W hW => calm_run (by simp [execOp, Act.eval, go_sem]))
  intro W hW
  simp only [List.drop_succ_cons, List.drop_zero]
  refine wpList_store1 _ rfl 2 (.tmp 44) (.tmp 42) rfl rfl (g := w.heap.size + 1 + 1 + 1) (off := 3) (T := 47) (cs := #[.int .i64 (((x0 * y0 + x1 * y3 + x2 * y6) % p)), .int .i64 (((x0 * y1 + x1 * y4 + x2 * y7) % p)), .int .i64 (((x0 * y2 + x1 * y5 + x2 * y8) % p)), .int .i64 0, .int .i64 0, .int .i64 0, .int .i64 0, .int .i64 0, .int .i64 0]) (cs' := #[.int .i64 (((x0 * y0 + x1 * y3 + x2 * y6) % p)), .int .i64 (((x0 * y1 + x1 * y4 + x2 * y7) % p)), .int .i64 (((x0 * y2 + x1 * y5 + x2 * y8) % p)), .int .i64 (((x3 * y0 + x4 * y3 + x5 * y6) % p)), .int .i64 0, .int .i64 0, .int .i64 0, .int .i64 0, .int .i64 0]) (z := ((x3 * y0 + x4 * y3 + x5 * y6) % p)) rfl rfl ((hW.block _ lo).trans ko_15) (Nat.le_of_ble_eq_true rfl) rfl Try.sizeOf2 ?_
  refine wpList_nil ?_
  have kx_16 := (setRow_other W (w.heap.size + 1 + 1 + 1) (w.heap.size) #[.int .i64 (((x0 * y0 + x1 * y3 + x2 * y6) % p)), .int .i64 (((x0 * y1 + x1 * y4 + x2 * y7) % p)), .int .i64 (((x0 * y2 + x1 * y5 + x2 * y8) % p)), .int .i64 (((x3 * y0 + x4 * y3 + x5 * y6) % p)), .int .i64 0, .int .i64 0, .int .i64 0, .int .i64 0, .int .i64 0] (by omega)).trans ((hW.block _ lx).trans kx_15)
  have ky_16 := (setRow_other W (w.heap.size + 1 + 1 + 1) (w.heap.size + 1) #[.int .i64 (((x0 * y0 + x1 * y3 + x2 * y6) % p)), .int .i64 (((x0 * y1 + x1 * y4 + x2 * y7) % p)), .int .i64 (((x0 * y2 + x1 * y5 + x2 * y8) % p)), .int .i64 (((x3 * y0 + x4 * y3 + x5 * y6) % p)), .int .i64 0, .int .i64 0, .int .i64 0, .int .i64 0, .int .i64 0] (by omega)).trans ((hW.block _ ly).trans ky_15)
  have kr_16 := (setRow_other W (w.heap.size + 1 + 1 + 1) (w.heap.size + 1 + 1) #[.int .i64 (((x0 * y0 + x1 * y3 + x2 * y6) % p)), .int .i64 (((x0 * y1 + x1 * y4 + x2 * y7) % p)), .int .i64 (((x0 * y2 + x1 * y5 + x2 * y8) % p)), .int .i64 (((x3 * y0 + x4 * y3 + x5 * y6) % p)), .int .i64 0, .int .i64 0, .int .i64 0, .int .i64 0, .int .i64 0] (by omega)).trans ((hW.block _ lr).trans kr_15)
  have ko_16 := setRow_heap W (w.heap.size + 1 + 1 + 1) _ #[.int .i64 (((x0 * y0 + x1 * y3 + x2 * y6) % p)), .int .i64 (((x0 * y1 + x1 * y4 + x2 * y7) % p)), .int .i64 (((x0 * y2 + x1 * y5 + x2 * y8) % p)), .int .i64 (((x3 * y0 + x4 * y3 + x5 * y6) % p)), .int .i64 0, .int .i64 0, .int .i64 0, .int .i64 0, .int .i64 0] _ _ ((hW.block _ lo).trans ko_15)
  have HB_16 : Below w.heap.size w (W.setRow (w.heap.size + 1 + 1 + 1) #[.int .i64 (((x0 * y0 + x1 * y3 + x2 * y6) % p)), .int .i64 (((x0 * y1 + x1 * y4 + x2 * y7) % p)), .int .i64 (((x0 * y2 + x1 * y5 + x2 * y8) % p)), .int .i64 (((x3 * y0 + x4 * y3 + x5 * y6) % p)), .int .i64 0, .int .i64 0, .int .i64 0, .int .i64 0, .int .i64 0]) := below_setRowN (low_tr' HB_15 hW (by omega)) (by omega) _
  clear kx_15 ky_15 kr_15 ko_15 HB_15 lx ly lr lo hW
  generalize W.setRow (w.heap.size + 1 + 1 + 1) #[.int .i64 (((x0 * y0 + x1 * y3 + x2 * y6) % p)), .int .i64 (((x0 * y1 + x1 * y4 + x2 * y7) % p)), .int .i64 (((x0 * y2 + x1 * y5 + x2 * y8) % p)), .int .i64 (((x3 * y0 + x4 * y3 + x5 * y6) % p)), .int .i64 0, .int .i64 0, .int .i64 0, .int .i64 0, .int .i64 0] = V_16 at *
  clear V_15
  go_wp2
  rw [rounds_succ]; go_wp2
  refine wp_loop_rounds 4 ?_
  rw [rounds_succ]; go_wp2
  have lx := (Array.getElem?_eq_some_iff.1 kx_16).1
  have ly := (Array.getElem?_eq_some_iff.1 ky_16).1
  have lr := (Array.getElem?_eq_some_iff.1 kr_16).1
  have lo := (Array.getElem?_eq_some_iff.1 ko_16).1
  refine region_via 13 [(25, .int .i64 0), (26, .int .i64 1), (27, .int .i64 0), (28, .pointer (some ⟨w.heap.size, 3, none⟩)), (29, .pointer (some ⟨w.heap.size, 3, none⟩)), (30, .int .i64 x3), (31, .int .i64 0), (32, .int .i64 1), (33, .pointer (some ⟨w.heap.size + 1, 0, none⟩)), (34, .pointer (some ⟨w.heap.size + 1, 1, none⟩)), (35, .int .i64 y1), (36, .int .i64 (x3 * y1)), (37, .int .i64 (x3 * y1))] (by kernel_rfl) (by decide) (by kernel_rfl) (by kernel_rfl) (by kernel_rfl) (fun aE hpe => ?_)
  simp only [puts, Act.put, List.setIfInBounds_toArray, List.set_cons_zero, List.set_cons_succ] at hpe
  subst hpe
  refine ⟨⟨.inr (.inr ?_), .inr (.inr ?_), .inr (.inr ?_), .inr (.inr ?_), .inr (.inr ?_), .inr (.inr ?_), .inr (.inr ?_), .inr (.inr ?_), .inr (.inr ?_), .inr (.inr ?_), .inr (.inr ?_), .inr (.inr ?_), .inr (.inr ?_), trivial⟩, ?_⟩
  · exact CalmG.mk 25 (.int .i64 0) rfl rfl rfl (fun W hW => calm_move (.tmp 10) rfl rfl)
  · exact CalmG.mk 26 (.int .i64 1) rfl rfl rfl (fun W hW => calm_move (.tmp 8) rfl rfl)
  · exact CalmG.mk 27 (.int .i64 0) rfl rfl rfl (fun W hW => calm_move (.tmp 11) rfl rfl)
  · exact CalmG.mk 28 (.pointer (some ⟨w.heap.size, 3, none⟩)) rfl rfl rfl (fun W hW => calm_run (by simp [execOp, Act.eval, go_sem]))
  · exact CalmG.mk 29 (.pointer (some ⟨w.heap.size, 3, none⟩)) rfl rfl rfl (fun W hW => calm_run (by simp [execOp, Act.eval, go_sem]))
  · exact CalmG.mk 30 (.int .i64 x3) rfl rfl rfl (fun W hW => by have hc := row_int (off := 3) (z := x3) ((hW.block _ lx).trans kx_16) rfl; exact calm_run (by simp [execOp, Act.eval, go_sem, hc]))
  · exact CalmG.mk 31 (.int .i64 0) rfl rfl rfl (fun W hW => calm_move (.tmp 11) rfl rfl)
  · exact CalmG.mk 32 (.int .i64 1) rfl rfl rfl (fun W hW => calm_move (.tmp 9) rfl rfl)
  · exact CalmG.mk 33 (.pointer (some ⟨w.heap.size + 1, 0, none⟩)) rfl rfl rfl (fun W hW => calm_run (by simp [execOp, Act.eval, go_sem]))
  · exact CalmG.mk 34 (.pointer (some ⟨w.heap.size + 1, 1, none⟩)) rfl rfl rfl (fun W hW => calm_run (by simp [execOp, Act.eval, go_sem]))
  · exact CalmG.mk 35 (.int .i64 y1) rfl rfl rfl (fun W hW => by have hc := row_int (off := 1) (z := y1) ((hW.block _ ly).trans ky_16) rfl; exact calm_run (by simp [execOp, Act.eval, go_sem, hc]))
  · exact CalmG.mk 36 (.int .i64 (x3 * y1)) rfl rfl rfl (fun W hW => calm_run (by simp [execOp, Act.eval, go_sem, wmul bx3 by1]))
  · exact CalmG.mk 37 (.int .i64 (x3 * y1)) rfl rfl rfl (fun W hW => calm_run (by simp [execOp, Act.eval, go_sem, wmul bx3 by1]))
  intro V_17 hW
  simp only [List.drop_succ_cons, List.drop_zero]
  have kx_17 := (hW.block _ lx).trans kx_16
  have ky_17 := (hW.block _ ly).trans ky_16
  have kr_17 := (hW.block _ lr).trans kr_16
  have ko_17 := (hW.block _ lo).trans ko_16
  have HB_17 := low_tr' HB_16 hW (by omega)
  clear kx_16 ky_16 kr_16 ko_16 HB_16 lx ly lr lo hW V_16
  go_wp2
  rw [rounds_succ]; go_wp2
  have lx := (Array.getElem?_eq_some_iff.1 kx_17).1
  have ly := (Array.getElem?_eq_some_iff.1 ky_17).1
  have lr := (Array.getElem?_eq_some_iff.1 kr_17).1
  have lo := (Array.getElem?_eq_some_iff.1 ko_17).1
  refine region_via 13 [(25, .int .i64 (x3 * y1)), (26, .int .i64 1), (27, .int .i64 1), (28, .pointer (some ⟨w.heap.size, 3, none⟩)), (29, .pointer (some ⟨w.heap.size, 4, none⟩)), (30, .int .i64 x4), (31, .int .i64 1), (32, .int .i64 1), (33, .pointer (some ⟨w.heap.size + 1, 3, none⟩)), (34, .pointer (some ⟨w.heap.size + 1, 4, none⟩)), (35, .int .i64 y4), (36, .int .i64 (x4 * y4)), (37, .int .i64 (x3 * y1 + x4 * y4))] (by kernel_rfl) (by decide) (by kernel_rfl) (by kernel_rfl) (by kernel_rfl) (fun aE hpe => ?_)
  simp only [puts, Act.put, List.setIfInBounds_toArray, List.set_cons_zero, List.set_cons_succ] at hpe
  subst hpe
  refine ⟨⟨.inr (.inr ?_), .inr (.inr ?_), .inr (.inr ?_), .inr (.inr ?_), .inr (.inr ?_), .inr (.inr ?_), .inr (.inr ?_), .inr (.inr ?_), .inr (.inr ?_), .inr (.inr ?_), .inr (.inr ?_), .inr (.inr ?_), .inr (.inr ?_), trivial⟩, ?_⟩
  · exact CalmG.mk 25 (.int .i64 (x3 * y1)) rfl rfl rfl (fun W hW => calm_move (.tmp 10) rfl rfl)
  · exact CalmG.mk 26 (.int .i64 1) rfl rfl rfl (fun W hW => calm_move (.tmp 8) rfl rfl)
  · exact CalmG.mk 27 (.int .i64 1) rfl rfl rfl (fun W hW => calm_move (.tmp 11) rfl rfl)
  · exact CalmG.mk 28 (.pointer (some ⟨w.heap.size, 3, none⟩)) rfl rfl rfl (fun W hW => calm_run (by simp [execOp, Act.eval, go_sem]))
  · exact CalmG.mk 29 (.pointer (some ⟨w.heap.size, 4, none⟩)) rfl rfl rfl (fun W hW => calm_run (by simp [execOp, Act.eval, go_sem]))
  · exact CalmG.mk 30 (.int .i64 x4) rfl rfl rfl (fun W hW => by have hc := row_int (off := 4) (z := x4) ((hW.block _ lx).trans kx_17) rfl; exact calm_run (by simp [execOp, Act.eval, go_sem, hc]))
  · exact CalmG.mk 31 (.int .i64 1) rfl rfl rfl (fun W hW => calm_move (.tmp 11) rfl rfl)
  · exact CalmG.mk 32 (.int .i64 1) rfl rfl rfl (fun W hW => calm_move (.tmp 9) rfl rfl)
  · exact CalmG.mk 33 (.pointer (some ⟨w.heap.size + 1, 3, none⟩)) rfl rfl rfl (fun W hW => calm_run (by simp [execOp, Act.eval, go_sem]))
  · exact CalmG.mk 34 (.pointer (some ⟨w.heap.size + 1, 4, none⟩)) rfl rfl rfl (fun W hW => calm_run (by simp [execOp, Act.eval, go_sem]))
  · exact CalmG.mk 35 (.int .i64 y4) rfl rfl rfl (fun W hW => by have hc := row_int (off := 4) (z := y4) ((hW.block _ ly).trans ky_17) rfl; exact calm_run (by simp [execOp, Act.eval, go_sem, hc]))
  · exact CalmG.mk 36 (.int .i64 (x4 * y4)) rfl rfl rfl (fun W hW => calm_run (by simp [execOp, Act.eval, go_sem, wmul bx4 by4]))
  · exact CalmG.mk 37 (.int .i64 (x3 * y1 + x4 * y4)) rfl rfl rfl (fun W hW => calm_run (by simp [execOp, Act.eval, go_sem, wadd2 bx3 by1 bx4 by4]))
  intro V_18 hW
  simp only [List.drop_succ_cons, List.drop_zero]
  have kx_18 := (hW.block _ lx).trans kx_17
  have ky_18 := (hW.block _ ly).trans ky_17
  have kr_18 := (hW.block _ lr).trans kr_17
  have ko_18 := (hW.block _ lo).trans ko_17
  have HB_18 := low_tr' HB_17 hW (by omega)
  clear kx_17 ky_17 kr_17 ko_17 HB_17 lx ly lr lo hW V_17
  go_wp2
  rw [rounds_succ]; go_wp2
  have lx := (Array.getElem?_eq_some_iff.1 kx_18).1
  have ly := (Array.getElem?_eq_some_iff.1 ky_18).1
  have lr := (Array.getElem?_eq_some_iff.1 kr_18).1
  have lo := (Array.getElem?_eq_some_iff.1 ko_18).1
  refine region_via 13 [(25, .int .i64 (x3 * y1 + x4 * y4)), (26, .int .i64 1), (27, .int .i64 2), (28, .pointer (some ⟨w.heap.size, 3, none⟩)), (29, .pointer (some ⟨w.heap.size, 5, none⟩)), (30, .int .i64 x5), (31, .int .i64 2), (32, .int .i64 1), (33, .pointer (some ⟨w.heap.size + 1, 6, none⟩)), (34, .pointer (some ⟨w.heap.size + 1, 7, none⟩)), (35, .int .i64 y7), (36, .int .i64 (x5 * y7)), (37, .int .i64 (x3 * y1 + x4 * y4 + x5 * y7))] (by kernel_rfl) (by decide) (by kernel_rfl) (by kernel_rfl) (by kernel_rfl) (fun aE hpe => ?_)
  simp only [puts, Act.put, List.setIfInBounds_toArray, List.set_cons_zero, List.set_cons_succ] at hpe
  subst hpe
  refine ⟨⟨.inr (.inr ?_), .inr (.inr ?_), .inr (.inr ?_), .inr (.inr ?_), .inr (.inr ?_), .inr (.inr ?_), .inr (.inr ?_), .inr (.inr ?_), .inr (.inr ?_), .inr (.inr ?_), .inr (.inr ?_), .inr (.inr ?_), .inr (.inr ?_), trivial⟩, ?_⟩
  · exact CalmG.mk 25 (.int .i64 (x3 * y1 + x4 * y4)) rfl rfl rfl (fun W hW => calm_move (.tmp 10) rfl rfl)
  · exact CalmG.mk 26 (.int .i64 1) rfl rfl rfl (fun W hW => calm_move (.tmp 8) rfl rfl)
  · exact CalmG.mk 27 (.int .i64 2) rfl rfl rfl (fun W hW => calm_move (.tmp 11) rfl rfl)
  · exact CalmG.mk 28 (.pointer (some ⟨w.heap.size, 3, none⟩)) rfl rfl rfl (fun W hW => calm_run (by simp [execOp, Act.eval, go_sem]))
  · exact CalmG.mk 29 (.pointer (some ⟨w.heap.size, 5, none⟩)) rfl rfl rfl (fun W hW => calm_run (by simp [execOp, Act.eval, go_sem]))
  · exact CalmG.mk 30 (.int .i64 x5) rfl rfl rfl (fun W hW => by have hc := row_int (off := 5) (z := x5) ((hW.block _ lx).trans kx_18) rfl; exact calm_run (by simp [execOp, Act.eval, go_sem, hc]))
  · exact CalmG.mk 31 (.int .i64 2) rfl rfl rfl (fun W hW => calm_move (.tmp 11) rfl rfl)
  · exact CalmG.mk 32 (.int .i64 1) rfl rfl rfl (fun W hW => calm_move (.tmp 9) rfl rfl)
  · exact CalmG.mk 33 (.pointer (some ⟨w.heap.size + 1, 6, none⟩)) rfl rfl rfl (fun W hW => calm_run (by simp [execOp, Act.eval, go_sem]))
  · exact CalmG.mk 34 (.pointer (some ⟨w.heap.size + 1, 7, none⟩)) rfl rfl rfl (fun W hW => calm_run (by simp [execOp, Act.eval, go_sem]))
  · exact CalmG.mk 35 (.int .i64 y7) rfl rfl rfl (fun W hW => by have hc := row_int (off := 7) (z := y7) ((hW.block _ ly).trans ky_18) rfl; exact calm_run (by simp [execOp, Act.eval, go_sem, hc]))
  · exact CalmG.mk 36 (.int .i64 (x5 * y7)) rfl rfl rfl (fun W hW => calm_run (by simp [execOp, Act.eval, go_sem, wmul bx5 by7]))
  · exact CalmG.mk 37 (.int .i64 (x3 * y1 + x4 * y4 + x5 * y7)) rfl rfl rfl (fun W hW => calm_run (by simp [execOp, Act.eval, go_sem, wadd3 bx3 by1 bx4 by4 bx5 by7]))
  intro V_19 hW
  simp only [List.drop_succ_cons, List.drop_zero]
  have kx_19 := (hW.block _ lx).trans kx_18
  have ky_19 := (hW.block _ ly).trans ky_18
  have kr_19 := (hW.block _ lr).trans kr_18
  have ko_19 := (hW.block _ lo).trans ko_18
  have HB_19 := low_tr' HB_18 hW (by omega)
  clear kx_18 ky_18 kr_18 ko_18 HB_18 lx ly lr lo hW V_18
  go_wp2
  rw [rounds_succ]; go_wp2
  have lx := (Array.getElem?_eq_some_iff.1 kx_19).1
  have ly := (Array.getElem?_eq_some_iff.1 ky_19).1
  have lr := (Array.getElem?_eq_some_iff.1 kr_19).1
  have lo := (Array.getElem?_eq_some_iff.1 ko_19).1
  refine region_via 7 [(38, .int .i64 1), (39, .int .i64 1), (40, .int .i64 (x3 * y1 + x4 * y4 + x5 * y7)), (41, .int .i64 p), (42, .int .i64 ((x3 * y1 + x4 * y4 + x5 * y7) % p)), (43, .pointer (some ⟨w.heap.size + 1 + 1 + 1, 3, none⟩)), (44, .pointer (some ⟨w.heap.size + 1 + 1 + 1, 4, none⟩))] (by kernel_rfl) (by decide) (by kernel_rfl) (by kernel_rfl) (by kernel_rfl) (fun aE hpe => ?_)
  simp only [puts, Act.put, List.setIfInBounds_toArray, List.set_cons_zero, List.set_cons_succ] at hpe
  subst hpe
  refine ⟨⟨.inr (.inr ?_), .inr (.inr ?_), .inr (.inr ?_), .inr (.inr ?_), .inr (.inr ?_), .inr (.inr ?_), .inr (.inr ?_), trivial⟩, ?_⟩
  · exact CalmG.mk 38 (.int .i64 1) rfl rfl rfl (fun W hW => calm_move (.tmp 8) rfl rfl)
  · exact CalmG.mk 39 (.int .i64 1) rfl rfl rfl (fun W hW => calm_move (.tmp 9) rfl rfl)
  · exact CalmG.mk 40 (.int .i64 (x3 * y1 + x4 * y4 + x5 * y7)) rfl rfl rfl (fun W hW => calm_move (.tmp 10) rfl rfl)
  · exact CalmG.mk 41 (.int .i64 p) rfl rfl rfl (fun W hW => calm_move (.tmp 0) rfl rfl)
  · exact CalmG.mk 42 (.int .i64 ((x3 * y1 + x4 * y4 + x5 * y7) % p)) rfl rfl rfl (fun W hW => by have e0 := dot12 bx3 by1 bx4 by4 bx5 by7; have e1 := Int.tmod_eq_emod_of_nonneg (b := p) e0; have e2 := wrap_small (modb (z := (x3 * y1 + x4 * y4 + x5 * y7)) hpb); have e3 : (p == 0) = false := (by simp; omega); exact calm_run (by simp [execOp, Act.eval, go_sem, e0, e1, e2, e3, (show ¬ p = 0 by omega)]))
  · exact CalmG.mk 43 (.pointer (some ⟨w.heap.size + 1 + 1 + 1, 3, none⟩)) rfl rfl rfl (fun W hW => calm_run (by simp [execOp, Act.eval, go_sem]))
  · exact CalmG.mk 44 (.pointer (some ⟨w.heap.size + 1 + 1 + 1, 4, none⟩)) rfl rfl rfl (fun W hW => calm_run (by simp [execOp, Act.eval, go_sem]))
  intro W hW
  simp only [List.drop_succ_cons, List.drop_zero]
  refine wpList_store1 _ rfl 2 (.tmp 44) (.tmp 42) rfl rfl (g := w.heap.size + 1 + 1 + 1) (off := 4) (T := 47) (cs := #[.int .i64 (((x0 * y0 + x1 * y3 + x2 * y6) % p)), .int .i64 (((x0 * y1 + x1 * y4 + x2 * y7) % p)), .int .i64 (((x0 * y2 + x1 * y5 + x2 * y8) % p)), .int .i64 (((x3 * y0 + x4 * y3 + x5 * y6) % p)), .int .i64 0, .int .i64 0, .int .i64 0, .int .i64 0, .int .i64 0]) (cs' := #[.int .i64 (((x0 * y0 + x1 * y3 + x2 * y6) % p)), .int .i64 (((x0 * y1 + x1 * y4 + x2 * y7) % p)), .int .i64 (((x0 * y2 + x1 * y5 + x2 * y8) % p)), .int .i64 (((x3 * y0 + x4 * y3 + x5 * y6) % p)), .int .i64 (((x3 * y1 + x4 * y4 + x5 * y7) % p)), .int .i64 0, .int .i64 0, .int .i64 0, .int .i64 0]) (z := ((x3 * y1 + x4 * y4 + x5 * y7) % p)) rfl rfl ((hW.block _ lo).trans ko_19) (Nat.le_of_ble_eq_true rfl) rfl Try.sizeOf2 ?_
  refine wpList_nil ?_
  have kx_20 := (setRow_other W (w.heap.size + 1 + 1 + 1) (w.heap.size) #[.int .i64 (((x0 * y0 + x1 * y3 + x2 * y6) % p)), .int .i64 (((x0 * y1 + x1 * y4 + x2 * y7) % p)), .int .i64 (((x0 * y2 + x1 * y5 + x2 * y8) % p)), .int .i64 (((x3 * y0 + x4 * y3 + x5 * y6) % p)), .int .i64 (((x3 * y1 + x4 * y4 + x5 * y7) % p)), .int .i64 0, .int .i64 0, .int .i64 0, .int .i64 0] (by omega)).trans ((hW.block _ lx).trans kx_19)
  have ky_20 := (setRow_other W (w.heap.size + 1 + 1 + 1) (w.heap.size + 1) #[.int .i64 (((x0 * y0 + x1 * y3 + x2 * y6) % p)), .int .i64 (((x0 * y1 + x1 * y4 + x2 * y7) % p)), .int .i64 (((x0 * y2 + x1 * y5 + x2 * y8) % p)), .int .i64 (((x3 * y0 + x4 * y3 + x5 * y6) % p)), .int .i64 (((x3 * y1 + x4 * y4 + x5 * y7) % p)), .int .i64 0, .int .i64 0, .int .i64 0, .int .i64 0] (by omega)).trans ((hW.block _ ly).trans ky_19)
  have kr_20 := (setRow_other W (w.heap.size + 1 + 1 + 1) (w.heap.size + 1 + 1) #[.int .i64 (((x0 * y0 + x1 * y3 + x2 * y6) % p)), .int .i64 (((x0 * y1 + x1 * y4 + x2 * y7) % p)), .int .i64 (((x0 * y2 + x1 * y5 + x2 * y8) % p)), .int .i64 (((x3 * y0 + x4 * y3 + x5 * y6) % p)), .int .i64 (((x3 * y1 + x4 * y4 + x5 * y7) % p)), .int .i64 0, .int .i64 0, .int .i64 0, .int .i64 0] (by omega)).trans ((hW.block _ lr).trans kr_19)
  have ko_20 := setRow_heap W (w.heap.size + 1 + 1 + 1) _ #[.int .i64 (((x0 * y0 + x1 * y3 + x2 * y6) % p)), .int .i64 (((x0 * y1 + x1 * y4 + x2 * y7) % p)), .int .i64 (((x0 * y2 + x1 * y5 + x2 * y8) % p)), .int .i64 (((x3 * y0 + x4 * y3 + x5 * y6) % p)), .int .i64 (((x3 * y1 + x4 * y4 + x5 * y7) % p)), .int .i64 0, .int .i64 0, .int .i64 0, .int .i64 0] _ _ ((hW.block _ lo).trans ko_19)
  have HB_20 : Below w.heap.size w (W.setRow (w.heap.size + 1 + 1 + 1) #[.int .i64 (((x0 * y0 + x1 * y3 + x2 * y6) % p)), .int .i64 (((x0 * y1 + x1 * y4 + x2 * y7) % p)), .int .i64 (((x0 * y2 + x1 * y5 + x2 * y8) % p)), .int .i64 (((x3 * y0 + x4 * y3 + x5 * y6) % p)), .int .i64 (((x3 * y1 + x4 * y4 + x5 * y7) % p)), .int .i64 0, .int .i64 0, .int .i64 0, .int .i64 0]) := below_setRowN (low_tr' HB_19 hW (by omega)) (by omega) _
  clear kx_19 ky_19 kr_19 ko_19 HB_19 lx ly lr lo hW
  generalize W.setRow (w.heap.size + 1 + 1 + 1) #[.int .i64 (((x0 * y0 + x1 * y3 + x2 * y6) % p)), .int .i64 (((x0 * y1 + x1 * y4 + x2 * y7) % p)), .int .i64 (((x0 * y2 + x1 * y5 + x2 * y8) % p)), .int .i64 (((x3 * y0 + x4 * y3 + x5 * y6) % p)), .int .i64 (((x3 * y1 + x4 * y4 + x5 * y7) % p)), .int .i64 0, .int .i64 0, .int .i64 0, .int .i64 0] = V_20 at *
  clear V_19
  go_wp2
  rw [rounds_succ]; go_wp2
  refine wp_loop_rounds 4 ?_
  rw [rounds_succ]; go_wp2
  have lx := (Array.getElem?_eq_some_iff.1 kx_20).1
  have ly := (Array.getElem?_eq_some_iff.1 ky_20).1
  have lr := (Array.getElem?_eq_some_iff.1 kr_20).1
  have lo := (Array.getElem?_eq_some_iff.1 ko_20).1
  refine region_via 13 [(25, .int .i64 0), (26, .int .i64 1), (27, .int .i64 0), (28, .pointer (some ⟨w.heap.size, 3, none⟩)), (29, .pointer (some ⟨w.heap.size, 3, none⟩)), (30, .int .i64 x3), (31, .int .i64 0), (32, .int .i64 2), (33, .pointer (some ⟨w.heap.size + 1, 0, none⟩)), (34, .pointer (some ⟨w.heap.size + 1, 2, none⟩)), (35, .int .i64 y2), (36, .int .i64 (x3 * y2)), (37, .int .i64 (x3 * y2))] (by kernel_rfl) (by decide) (by kernel_rfl) (by kernel_rfl) (by kernel_rfl) (fun aE hpe => ?_)
  simp only [puts, Act.put, List.setIfInBounds_toArray, List.set_cons_zero, List.set_cons_succ] at hpe
  subst hpe
  refine ⟨⟨.inr (.inr ?_), .inr (.inr ?_), .inr (.inr ?_), .inr (.inr ?_), .inr (.inr ?_), .inr (.inr ?_), .inr (.inr ?_), .inr (.inr ?_), .inr (.inr ?_), .inr (.inr ?_), .inr (.inr ?_), .inr (.inr ?_), .inr (.inr ?_), trivial⟩, ?_⟩
  · exact CalmG.mk 25 (.int .i64 0) rfl rfl rfl (fun W hW => calm_move (.tmp 10) rfl rfl)
  · exact CalmG.mk 26 (.int .i64 1) rfl rfl rfl (fun W hW => calm_move (.tmp 8) rfl rfl)
  · exact CalmG.mk 27 (.int .i64 0) rfl rfl rfl (fun W hW => calm_move (.tmp 11) rfl rfl)
  · exact CalmG.mk 28 (.pointer (some ⟨w.heap.size, 3, none⟩)) rfl rfl rfl (fun W hW => calm_run (by simp [execOp, Act.eval, go_sem]))
  · exact CalmG.mk 29 (.pointer (some ⟨w.heap.size, 3, none⟩)) rfl rfl rfl (fun W hW => calm_run (by simp [execOp, Act.eval, go_sem]))
  · exact CalmG.mk 30 (.int .i64 x3) rfl rfl rfl (fun W hW => by have hc := row_int (off := 3) (z := x3) ((hW.block _ lx).trans kx_20) rfl; exact calm_run (by simp [execOp, Act.eval, go_sem, hc]))
  · exact CalmG.mk 31 (.int .i64 0) rfl rfl rfl (fun W hW => calm_move (.tmp 11) rfl rfl)
  · exact CalmG.mk 32 (.int .i64 2) rfl rfl rfl (fun W hW => calm_move (.tmp 9) rfl rfl)
  · exact CalmG.mk 33 (.pointer (some ⟨w.heap.size + 1, 0, none⟩)) rfl rfl rfl (fun W hW => calm_run (by simp [execOp, Act.eval, go_sem]))
  · exact CalmG.mk 34 (.pointer (some ⟨w.heap.size + 1, 2, none⟩)) rfl rfl rfl (fun W hW => calm_run (by simp [execOp, Act.eval, go_sem]))
  · exact CalmG.mk 35 (.int .i64 y2) rfl rfl rfl (fun W hW => by have hc := row_int (off := 2) (z := y2) ((hW.block _ ly).trans ky_20) rfl; exact calm_run (by simp [execOp, Act.eval, go_sem, hc]))
  · exact CalmG.mk 36 (.int .i64 (x3 * y2)) rfl rfl rfl (fun W hW => calm_run (by simp [execOp, Act.eval, go_sem, wmul bx3 by2]))
  · exact CalmG.mk 37 (.int .i64 (x3 * y2)) rfl rfl rfl (fun W hW => calm_run (by simp [execOp, Act.eval, go_sem, wmul bx3 by2]))
  intro V_21 hW
  simp only [List.drop_succ_cons, List.drop_zero]
  have kx_21 := (hW.block _ lx).trans kx_20
  have ky_21 := (hW.block _ ly).trans ky_20
  have kr_21 := (hW.block _ lr).trans kr_20
  have ko_21 := (hW.block _ lo).trans ko_20
  have HB_21 := low_tr' HB_20 hW (by omega)
  clear kx_20 ky_20 kr_20 ko_20 HB_20 lx ly lr lo hW V_20
  go_wp2
  rw [rounds_succ]; go_wp2
  have lx := (Array.getElem?_eq_some_iff.1 kx_21).1
  have ly := (Array.getElem?_eq_some_iff.1 ky_21).1
  have lr := (Array.getElem?_eq_some_iff.1 kr_21).1
  have lo := (Array.getElem?_eq_some_iff.1 ko_21).1
  refine region_via 13 [(25, .int .i64 (x3 * y2)), (26, .int .i64 1), (27, .int .i64 1), (28, .pointer (some ⟨w.heap.size, 3, none⟩)), (29, .pointer (some ⟨w.heap.size, 4, none⟩)), (30, .int .i64 x4), (31, .int .i64 1), (32, .int .i64 2), (33, .pointer (some ⟨w.heap.size + 1, 3, none⟩)), (34, .pointer (some ⟨w.heap.size + 1, 5, none⟩)), (35, .int .i64 y5), (36, .int .i64 (x4 * y5)), (37, .int .i64 (x3 * y2 + x4 * y5))] (by kernel_rfl) (by decide) (by kernel_rfl) (by kernel_rfl) (by kernel_rfl) (fun aE hpe => ?_)
  simp only [puts, Act.put, List.setIfInBounds_toArray, List.set_cons_zero, List.set_cons_succ] at hpe
  subst hpe
  refine ⟨⟨.inr (.inr ?_), .inr (.inr ?_), .inr (.inr ?_), .inr (.inr ?_), .inr (.inr ?_), .inr (.inr ?_), .inr (.inr ?_), .inr (.inr ?_), .inr (.inr ?_), .inr (.inr ?_), .inr (.inr ?_), .inr (.inr ?_), .inr (.inr ?_), trivial⟩, ?_⟩
  · exact CalmG.mk 25 (.int .i64 (x3 * y2)) rfl rfl rfl (fun W hW => calm_move (.tmp 10) rfl rfl)
  · exact CalmG.mk 26 (.int .i64 1) rfl rfl rfl (fun W hW => calm_move (.tmp 8) rfl rfl)
  · exact CalmG.mk 27 (.int .i64 1) rfl rfl rfl (fun W hW => calm_move (.tmp 11) rfl rfl)
  · exact CalmG.mk 28 (.pointer (some ⟨w.heap.size, 3, none⟩)) rfl rfl rfl (fun W hW => calm_run (by simp [execOp, Act.eval, go_sem]))
  · exact CalmG.mk 29 (.pointer (some ⟨w.heap.size, 4, none⟩)) rfl rfl rfl (fun W hW => calm_run (by simp [execOp, Act.eval, go_sem]))
  · exact CalmG.mk 30 (.int .i64 x4) rfl rfl rfl (fun W hW => by have hc := row_int (off := 4) (z := x4) ((hW.block _ lx).trans kx_21) rfl; exact calm_run (by simp [execOp, Act.eval, go_sem, hc]))
  · exact CalmG.mk 31 (.int .i64 1) rfl rfl rfl (fun W hW => calm_move (.tmp 11) rfl rfl)
  · exact CalmG.mk 32 (.int .i64 2) rfl rfl rfl (fun W hW => calm_move (.tmp 9) rfl rfl)
  · exact CalmG.mk 33 (.pointer (some ⟨w.heap.size + 1, 3, none⟩)) rfl rfl rfl (fun W hW => calm_run (by simp [execOp, Act.eval, go_sem]))
  · exact CalmG.mk 34 (.pointer (some ⟨w.heap.size + 1, 5, none⟩)) rfl rfl rfl (fun W hW => calm_run (by simp [execOp, Act.eval, go_sem]))
  · exact CalmG.mk 35 (.int .i64 y5) rfl rfl rfl (fun W hW => by have hc := row_int (off := 5) (z := y5) ((hW.block _ ly).trans ky_21) rfl; exact calm_run (by simp [execOp, Act.eval, go_sem, hc]))
  · exact CalmG.mk 36 (.int .i64 (x4 * y5)) rfl rfl rfl (fun W hW => calm_run (by simp [execOp, Act.eval, go_sem, wmul bx4 by5]))
  · exact CalmG.mk 37 (.int .i64 (x3 * y2 + x4 * y5)) rfl rfl rfl (fun W hW => calm_run (by simp [execOp, Act.eval, go_sem, wadd2 bx3 by2 bx4 by5]))
  intro V_22 hW
  simp only [List.drop_succ_cons, List.drop_zero]
  have kx_22 := (hW.block _ lx).trans kx_21
  have ky_22 := (hW.block _ ly).trans ky_21
  have kr_22 := (hW.block _ lr).trans kr_21
  have ko_22 := (hW.block _ lo).trans ko_21
  have HB_22 := low_tr' HB_21 hW (by omega)
  clear kx_21 ky_21 kr_21 ko_21 HB_21 lx ly lr lo hW V_21
  go_wp2
  rw [rounds_succ]; go_wp2
  have lx := (Array.getElem?_eq_some_iff.1 kx_22).1
  have ly := (Array.getElem?_eq_some_iff.1 ky_22).1
  have lr := (Array.getElem?_eq_some_iff.1 kr_22).1
  have lo := (Array.getElem?_eq_some_iff.1 ko_22).1
  refine region_via 13 [(25, .int .i64 (x3 * y2 + x4 * y5)), (26, .int .i64 1), (27, .int .i64 2), (28, .pointer (some ⟨w.heap.size, 3, none⟩)), (29, .pointer (some ⟨w.heap.size, 5, none⟩)), (30, .int .i64 x5), (31, .int .i64 2), (32, .int .i64 2), (33, .pointer (some ⟨w.heap.size + 1, 6, none⟩)), (34, .pointer (some ⟨w.heap.size + 1, 8, none⟩)), (35, .int .i64 y8), (36, .int .i64 (x5 * y8)), (37, .int .i64 (x3 * y2 + x4 * y5 + x5 * y8))] (by kernel_rfl) (by decide) (by kernel_rfl) (by kernel_rfl) (by kernel_rfl) (fun aE hpe => ?_)
  simp only [puts, Act.put, List.setIfInBounds_toArray, List.set_cons_zero, List.set_cons_succ] at hpe
  subst hpe
  refine ⟨⟨.inr (.inr ?_), .inr (.inr ?_), .inr (.inr ?_), .inr (.inr ?_), .inr (.inr ?_), .inr (.inr ?_), .inr (.inr ?_), .inr (.inr ?_), .inr (.inr ?_), .inr (.inr ?_), .inr (.inr ?_), .inr (.inr ?_), .inr (.inr ?_), trivial⟩, ?_⟩
  · exact CalmG.mk 25 (.int .i64 (x3 * y2 + x4 * y5)) rfl rfl rfl (fun W hW => calm_move (.tmp 10) rfl rfl)
  · exact CalmG.mk 26 (.int .i64 1) rfl rfl rfl (fun W hW => calm_move (.tmp 8) rfl rfl)
  · exact CalmG.mk 27 (.int .i64 2) rfl rfl rfl (fun W hW => calm_move (.tmp 11) rfl rfl)
  · exact CalmG.mk 28 (.pointer (some ⟨w.heap.size, 3, none⟩)) rfl rfl rfl (fun W hW => calm_run (by simp [execOp, Act.eval, go_sem]))
  · exact CalmG.mk 29 (.pointer (some ⟨w.heap.size, 5, none⟩)) rfl rfl rfl (fun W hW => calm_run (by simp [execOp, Act.eval, go_sem]))
  · exact CalmG.mk 30 (.int .i64 x5) rfl rfl rfl (fun W hW => by have hc := row_int (off := 5) (z := x5) ((hW.block _ lx).trans kx_22) rfl; exact calm_run (by simp [execOp, Act.eval, go_sem, hc]))
  · exact CalmG.mk 31 (.int .i64 2) rfl rfl rfl (fun W hW => calm_move (.tmp 11) rfl rfl)
  · exact CalmG.mk 32 (.int .i64 2) rfl rfl rfl (fun W hW => calm_move (.tmp 9) rfl rfl)
  · exact CalmG.mk 33 (.pointer (some ⟨w.heap.size + 1, 6, none⟩)) rfl rfl rfl (fun W hW => calm_run (by simp [execOp, Act.eval, go_sem]))
  · exact CalmG.mk 34 (.pointer (some ⟨w.heap.size + 1, 8, none⟩)) rfl rfl rfl (fun W hW => calm_run (by simp [execOp, Act.eval, go_sem]))
  · exact CalmG.mk 35 (.int .i64 y8) rfl rfl rfl (fun W hW => by have hc := row_int (off := 8) (z := y8) ((hW.block _ ly).trans ky_22) rfl; exact calm_run (by simp [execOp, Act.eval, go_sem, hc]))
  · exact CalmG.mk 36 (.int .i64 (x5 * y8)) rfl rfl rfl (fun W hW => calm_run (by simp [execOp, Act.eval, go_sem, wmul bx5 by8]))
  · exact CalmG.mk 37 (.int .i64 (x3 * y2 + x4 * y5 + x5 * y8)) rfl rfl rfl (fun W hW => calm_run (by simp [execOp, Act.eval, go_sem, wadd3 bx3 by2 bx4 by5 bx5 by8]))
  intro V_23 hW
  simp only [List.drop_succ_cons, List.drop_zero]
  have kx_23 := (hW.block _ lx).trans kx_22
  have ky_23 := (hW.block _ ly).trans ky_22
  have kr_23 := (hW.block _ lr).trans kr_22
  have ko_23 := (hW.block _ lo).trans ko_22
  have HB_23 := low_tr' HB_22 hW (by omega)
  clear kx_22 ky_22 kr_22 ko_22 HB_22 lx ly lr lo hW V_22
  go_wp2
  rw [rounds_succ]; go_wp2
  have lx := (Array.getElem?_eq_some_iff.1 kx_23).1
  have ly := (Array.getElem?_eq_some_iff.1 ky_23).1
  have lr := (Array.getElem?_eq_some_iff.1 kr_23).1
  have lo := (Array.getElem?_eq_some_iff.1 ko_23).1
  refine region_via 7 [(38, .int .i64 1), (39, .int .i64 2), (40, .int .i64 (x3 * y2 + x4 * y5 + x5 * y8)), (41, .int .i64 p), (42, .int .i64 ((x3 * y2 + x4 * y5 + x5 * y8) % p)), (43, .pointer (some ⟨w.heap.size + 1 + 1 + 1, 3, none⟩)), (44, .pointer (some ⟨w.heap.size + 1 + 1 + 1, 5, none⟩))] (by kernel_rfl) (by decide) (by kernel_rfl) (by kernel_rfl) (by kernel_rfl) (fun aE hpe => ?_)
  simp only [puts, Act.put, List.setIfInBounds_toArray, List.set_cons_zero, List.set_cons_succ] at hpe
  subst hpe
  refine ⟨⟨.inr (.inr ?_), .inr (.inr ?_), .inr (.inr ?_), .inr (.inr ?_), .inr (.inr ?_), .inr (.inr ?_), .inr (.inr ?_), trivial⟩, ?_⟩
  · exact CalmG.mk 38 (.int .i64 1) rfl rfl rfl (fun W hW => calm_move (.tmp 8) rfl rfl)
  · exact CalmG.mk 39 (.int .i64 2) rfl rfl rfl (fun W hW => calm_move (.tmp 9) rfl rfl)
  · exact CalmG.mk 40 (.int .i64 (x3 * y2 + x4 * y5 + x5 * y8)) rfl rfl rfl (fun W hW => calm_move (.tmp 10) rfl rfl)
  · exact CalmG.mk 41 (.int .i64 p) rfl rfl rfl (fun W hW => calm_move (.tmp 0) rfl rfl)
  · exact CalmG.mk 42 (.int .i64 ((x3 * y2 + x4 * y5 + x5 * y8) % p)) rfl rfl rfl (fun W hW => by have e0 := dot12 bx3 by2 bx4 by5 bx5 by8; have e1 := Int.tmod_eq_emod_of_nonneg (b := p) e0; have e2 := wrap_small (modb (z := (x3 * y2 + x4 * y5 + x5 * y8)) hpb); have e3 : (p == 0) = false := (by simp; omega); exact calm_run (by simp [execOp, Act.eval, go_sem, e0, e1, e2, e3, (show ¬ p = 0 by omega)]))
  · exact CalmG.mk 43 (.pointer (some ⟨w.heap.size + 1 + 1 + 1, 3, none⟩)) rfl rfl rfl (fun W hW => calm_run (by simp [execOp, Act.eval, go_sem]))
  · exact CalmG.mk 44 (.pointer (some ⟨w.heap.size + 1 + 1 + 1, 5, none⟩)) rfl rfl rfl (fun W hW => calm_run (by simp [execOp, Act.eval, go_sem]))
  intro W hW
  simp only [List.drop_succ_cons, List.drop_zero]
  refine wpList_store1 _ rfl 2 (.tmp 44) (.tmp 42) rfl rfl (g := w.heap.size + 1 + 1 + 1) (off := 5) (T := 47) (cs := #[.int .i64 (((x0 * y0 + x1 * y3 + x2 * y6) % p)), .int .i64 (((x0 * y1 + x1 * y4 + x2 * y7) % p)), .int .i64 (((x0 * y2 + x1 * y5 + x2 * y8) % p)), .int .i64 (((x3 * y0 + x4 * y3 + x5 * y6) % p)), .int .i64 (((x3 * y1 + x4 * y4 + x5 * y7) % p)), .int .i64 0, .int .i64 0, .int .i64 0, .int .i64 0]) (cs' := #[.int .i64 (((x0 * y0 + x1 * y3 + x2 * y6) % p)), .int .i64 (((x0 * y1 + x1 * y4 + x2 * y7) % p)), .int .i64 (((x0 * y2 + x1 * y5 + x2 * y8) % p)), .int .i64 (((x3 * y0 + x4 * y3 + x5 * y6) % p)), .int .i64 (((x3 * y1 + x4 * y4 + x5 * y7) % p)), .int .i64 (((x3 * y2 + x4 * y5 + x5 * y8) % p)), .int .i64 0, .int .i64 0, .int .i64 0]) (z := ((x3 * y2 + x4 * y5 + x5 * y8) % p)) rfl rfl ((hW.block _ lo).trans ko_23) (Nat.le_of_ble_eq_true rfl) rfl Try.sizeOf2 ?_
  refine wpList_nil ?_
  have kx_24 := (setRow_other W (w.heap.size + 1 + 1 + 1) (w.heap.size) #[.int .i64 (((x0 * y0 + x1 * y3 + x2 * y6) % p)), .int .i64 (((x0 * y1 + x1 * y4 + x2 * y7) % p)), .int .i64 (((x0 * y2 + x1 * y5 + x2 * y8) % p)), .int .i64 (((x3 * y0 + x4 * y3 + x5 * y6) % p)), .int .i64 (((x3 * y1 + x4 * y4 + x5 * y7) % p)), .int .i64 (((x3 * y2 + x4 * y5 + x5 * y8) % p)), .int .i64 0, .int .i64 0, .int .i64 0] (by omega)).trans ((hW.block _ lx).trans kx_23)
  have ky_24 := (setRow_other W (w.heap.size + 1 + 1 + 1) (w.heap.size + 1) #[.int .i64 (((x0 * y0 + x1 * y3 + x2 * y6) % p)), .int .i64 (((x0 * y1 + x1 * y4 + x2 * y7) % p)), .int .i64 (((x0 * y2 + x1 * y5 + x2 * y8) % p)), .int .i64 (((x3 * y0 + x4 * y3 + x5 * y6) % p)), .int .i64 (((x3 * y1 + x4 * y4 + x5 * y7) % p)), .int .i64 (((x3 * y2 + x4 * y5 + x5 * y8) % p)), .int .i64 0, .int .i64 0, .int .i64 0] (by omega)).trans ((hW.block _ ly).trans ky_23)
  have kr_24 := (setRow_other W (w.heap.size + 1 + 1 + 1) (w.heap.size + 1 + 1) #[.int .i64 (((x0 * y0 + x1 * y3 + x2 * y6) % p)), .int .i64 (((x0 * y1 + x1 * y4 + x2 * y7) % p)), .int .i64 (((x0 * y2 + x1 * y5 + x2 * y8) % p)), .int .i64 (((x3 * y0 + x4 * y3 + x5 * y6) % p)), .int .i64 (((x3 * y1 + x4 * y4 + x5 * y7) % p)), .int .i64 (((x3 * y2 + x4 * y5 + x5 * y8) % p)), .int .i64 0, .int .i64 0, .int .i64 0] (by omega)).trans ((hW.block _ lr).trans kr_23)
  have ko_24 := setRow_heap W (w.heap.size + 1 + 1 + 1) _ #[.int .i64 (((x0 * y0 + x1 * y3 + x2 * y6) % p)), .int .i64 (((x0 * y1 + x1 * y4 + x2 * y7) % p)), .int .i64 (((x0 * y2 + x1 * y5 + x2 * y8) % p)), .int .i64 (((x3 * y0 + x4 * y3 + x5 * y6) % p)), .int .i64 (((x3 * y1 + x4 * y4 + x5 * y7) % p)), .int .i64 (((x3 * y2 + x4 * y5 + x5 * y8) % p)), .int .i64 0, .int .i64 0, .int .i64 0] _ _ ((hW.block _ lo).trans ko_23)
  have HB_24 : Below w.heap.size w (W.setRow (w.heap.size + 1 + 1 + 1) #[.int .i64 (((x0 * y0 + x1 * y3 + x2 * y6) % p)), .int .i64 (((x0 * y1 + x1 * y4 + x2 * y7) % p)), .int .i64 (((x0 * y2 + x1 * y5 + x2 * y8) % p)), .int .i64 (((x3 * y0 + x4 * y3 + x5 * y6) % p)), .int .i64 (((x3 * y1 + x4 * y4 + x5 * y7) % p)), .int .i64 (((x3 * y2 + x4 * y5 + x5 * y8) % p)), .int .i64 0, .int .i64 0, .int .i64 0]) := below_setRowN (low_tr' HB_23 hW (by omega)) (by omega) _
  clear kx_23 ky_23 kr_23 ko_23 HB_23 lx ly lr lo hW
  generalize W.setRow (w.heap.size + 1 + 1 + 1) #[.int .i64 (((x0 * y0 + x1 * y3 + x2 * y6) % p)), .int .i64 (((x0 * y1 + x1 * y4 + x2 * y7) % p)), .int .i64 (((x0 * y2 + x1 * y5 + x2 * y8) % p)), .int .i64 (((x3 * y0 + x4 * y3 + x5 * y6) % p)), .int .i64 (((x3 * y1 + x4 * y4 + x5 * y7) % p)), .int .i64 (((x3 * y2 + x4 * y5 + x5 * y8) % p)), .int .i64 0, .int .i64 0, .int .i64 0] = V_24 at *
  clear V_23
  go_wp2
  rw [rounds_succ]; go_wp2
  rw [rounds_succ]; go_wp2
  refine wp_loop_rounds 4 ?_
  rw [rounds_succ]; go_wp2
  refine wp_loop_rounds 4 ?_
  rw [rounds_succ]; go_wp2
  have lx := (Array.getElem?_eq_some_iff.1 kx_24).1
  have ly := (Array.getElem?_eq_some_iff.1 ky_24).1
  have lr := (Array.getElem?_eq_some_iff.1 kr_24).1
  have lo := (Array.getElem?_eq_some_iff.1 ko_24).1
  refine region_via 13 [(25, .int .i64 0), (26, .int .i64 2), (27, .int .i64 0), (28, .pointer (some ⟨w.heap.size, 6, none⟩)), (29, .pointer (some ⟨w.heap.size, 6, none⟩)), (30, .int .i64 x6), (31, .int .i64 0), (32, .int .i64 0), (33, .pointer (some ⟨w.heap.size + 1, 0, none⟩)), (34, .pointer (some ⟨w.heap.size + 1, 0, none⟩)), (35, .int .i64 y0), (36, .int .i64 (x6 * y0)), (37, .int .i64 (x6 * y0))] (by kernel_rfl) (by decide) (by kernel_rfl) (by kernel_rfl) (by kernel_rfl) (fun aE hpe => ?_)
  simp only [puts, Act.put, List.setIfInBounds_toArray, List.set_cons_zero, List.set_cons_succ] at hpe
  subst hpe
  refine ⟨⟨.inr (.inr ?_), .inr (.inr ?_), .inr (.inr ?_), .inr (.inr ?_), .inr (.inr ?_), .inr (.inr ?_), .inr (.inr ?_), .inr (.inr ?_), .inr (.inr ?_), .inr (.inr ?_), .inr (.inr ?_), .inr (.inr ?_), .inr (.inr ?_), trivial⟩, ?_⟩
  · exact CalmG.mk 25 (.int .i64 0) rfl rfl rfl (fun W hW => calm_move (.tmp 10) rfl rfl)
  · exact CalmG.mk 26 (.int .i64 2) rfl rfl rfl (fun W hW => calm_move (.tmp 8) rfl rfl)
  · exact CalmG.mk 27 (.int .i64 0) rfl rfl rfl (fun W hW => calm_move (.tmp 11) rfl rfl)
  · exact CalmG.mk 28 (.pointer (some ⟨w.heap.size, 6, none⟩)) rfl rfl rfl (fun W hW => calm_run (by simp [execOp, Act.eval, go_sem]))
  · exact CalmG.mk 29 (.pointer (some ⟨w.heap.size, 6, none⟩)) rfl rfl rfl (fun W hW => calm_run (by simp [execOp, Act.eval, go_sem]))
  · exact CalmG.mk 30 (.int .i64 x6) rfl rfl rfl (fun W hW => by have hc := row_int (off := 6) (z := x6) ((hW.block _ lx).trans kx_24) rfl; exact calm_run (by simp [execOp, Act.eval, go_sem, hc]))
  · exact CalmG.mk 31 (.int .i64 0) rfl rfl rfl (fun W hW => calm_move (.tmp 11) rfl rfl)
  · exact CalmG.mk 32 (.int .i64 0) rfl rfl rfl (fun W hW => calm_move (.tmp 9) rfl rfl)
  · exact CalmG.mk 33 (.pointer (some ⟨w.heap.size + 1, 0, none⟩)) rfl rfl rfl (fun W hW => calm_run (by simp [execOp, Act.eval, go_sem]))
  · exact CalmG.mk 34 (.pointer (some ⟨w.heap.size + 1, 0, none⟩)) rfl rfl rfl (fun W hW => calm_run (by simp [execOp, Act.eval, go_sem]))
  · exact CalmG.mk 35 (.int .i64 y0) rfl rfl rfl (fun W hW => by have hc := row_int (off := 0) (z := y0) ((hW.block _ ly).trans ky_24) rfl; exact calm_run (by simp [execOp, Act.eval, go_sem, hc]))
  · exact CalmG.mk 36 (.int .i64 (x6 * y0)) rfl rfl rfl (fun W hW => calm_run (by simp [execOp, Act.eval, go_sem, wmul bx6 by0]))
  · exact CalmG.mk 37 (.int .i64 (x6 * y0)) rfl rfl rfl (fun W hW => calm_run (by simp [execOp, Act.eval, go_sem, wmul bx6 by0]))
  intro V_25 hW
  simp only [List.drop_succ_cons, List.drop_zero]
  have kx_25 := (hW.block _ lx).trans kx_24
  have ky_25 := (hW.block _ ly).trans ky_24
  have kr_25 := (hW.block _ lr).trans kr_24
  have ko_25 := (hW.block _ lo).trans ko_24
  have HB_25 := low_tr' HB_24 hW (by omega)
  clear kx_24 ky_24 kr_24 ko_24 HB_24 lx ly lr lo hW V_24
  go_wp2
  rw [rounds_succ]; go_wp2
  have lx := (Array.getElem?_eq_some_iff.1 kx_25).1
  have ly := (Array.getElem?_eq_some_iff.1 ky_25).1
  have lr := (Array.getElem?_eq_some_iff.1 kr_25).1
  have lo := (Array.getElem?_eq_some_iff.1 ko_25).1
  refine region_via 13 [(25, .int .i64 (x6 * y0)), (26, .int .i64 2), (27, .int .i64 1), (28, .pointer (some ⟨w.heap.size, 6, none⟩)), (29, .pointer (some ⟨w.heap.size, 7, none⟩)), (30, .int .i64 x7), (31, .int .i64 1), (32, .int .i64 0), (33, .pointer (some ⟨w.heap.size + 1, 3, none⟩)), (34, .pointer (some ⟨w.heap.size + 1, 3, none⟩)), (35, .int .i64 y3), (36, .int .i64 (x7 * y3)), (37, .int .i64 (x6 * y0 + x7 * y3))] (by kernel_rfl) (by decide) (by kernel_rfl) (by kernel_rfl) (by kernel_rfl) (fun aE hpe => ?_)
  simp only [puts, Act.put, List.setIfInBounds_toArray, List.set_cons_zero, List.set_cons_succ] at hpe
  subst hpe
  refine ⟨⟨.inr (.inr ?_), .inr (.inr ?_), .inr (.inr ?_), .inr (.inr ?_), .inr (.inr ?_), .inr (.inr ?_), .inr (.inr ?_), .inr (.inr ?_), .inr (.inr ?_), .inr (.inr ?_), .inr (.inr ?_), .inr (.inr ?_), .inr (.inr ?_), trivial⟩, ?_⟩
  · exact CalmG.mk 25 (.int .i64 (x6 * y0)) rfl rfl rfl (fun W hW => calm_move (.tmp 10) rfl rfl)
  · exact CalmG.mk 26 (.int .i64 2) rfl rfl rfl (fun W hW => calm_move (.tmp 8) rfl rfl)
  · exact CalmG.mk 27 (.int .i64 1) rfl rfl rfl (fun W hW => calm_move (.tmp 11) rfl rfl)
  · exact CalmG.mk 28 (.pointer (some ⟨w.heap.size, 6, none⟩)) rfl rfl rfl (fun W hW => calm_run (by simp [execOp, Act.eval, go_sem]))
  · exact CalmG.mk 29 (.pointer (some ⟨w.heap.size, 7, none⟩)) rfl rfl rfl (fun W hW => calm_run (by simp [execOp, Act.eval, go_sem]))
  · exact CalmG.mk 30 (.int .i64 x7) rfl rfl rfl (fun W hW => by have hc := row_int (off := 7) (z := x7) ((hW.block _ lx).trans kx_25) rfl; exact calm_run (by simp [execOp, Act.eval, go_sem, hc]))
  · exact CalmG.mk 31 (.int .i64 1) rfl rfl rfl (fun W hW => calm_move (.tmp 11) rfl rfl)
  · exact CalmG.mk 32 (.int .i64 0) rfl rfl rfl (fun W hW => calm_move (.tmp 9) rfl rfl)
  · exact CalmG.mk 33 (.pointer (some ⟨w.heap.size + 1, 3, none⟩)) rfl rfl rfl (fun W hW => calm_run (by simp [execOp, Act.eval, go_sem]))
  · exact CalmG.mk 34 (.pointer (some ⟨w.heap.size + 1, 3, none⟩)) rfl rfl rfl (fun W hW => calm_run (by simp [execOp, Act.eval, go_sem]))
  · exact CalmG.mk 35 (.int .i64 y3) rfl rfl rfl (fun W hW => by have hc := row_int (off := 3) (z := y3) ((hW.block _ ly).trans ky_25) rfl; exact calm_run (by simp [execOp, Act.eval, go_sem, hc]))
  · exact CalmG.mk 36 (.int .i64 (x7 * y3)) rfl rfl rfl (fun W hW => calm_run (by simp [execOp, Act.eval, go_sem, wmul bx7 by3]))
  · exact CalmG.mk 37 (.int .i64 (x6 * y0 + x7 * y3)) rfl rfl rfl (fun W hW => calm_run (by simp [execOp, Act.eval, go_sem, wadd2 bx6 by0 bx7 by3]))
  intro V_26 hW
  simp only [List.drop_succ_cons, List.drop_zero]
  have kx_26 := (hW.block _ lx).trans kx_25
  have ky_26 := (hW.block _ ly).trans ky_25
  have kr_26 := (hW.block _ lr).trans kr_25
  have ko_26 := (hW.block _ lo).trans ko_25
  have HB_26 := low_tr' HB_25 hW (by omega)
  clear kx_25 ky_25 kr_25 ko_25 HB_25 lx ly lr lo hW V_25
  go_wp2
  rw [rounds_succ]; go_wp2
  have lx := (Array.getElem?_eq_some_iff.1 kx_26).1
  have ly := (Array.getElem?_eq_some_iff.1 ky_26).1
  have lr := (Array.getElem?_eq_some_iff.1 kr_26).1
  have lo := (Array.getElem?_eq_some_iff.1 ko_26).1
  refine region_via 13 [(25, .int .i64 (x6 * y0 + x7 * y3)), (26, .int .i64 2), (27, .int .i64 2), (28, .pointer (some ⟨w.heap.size, 6, none⟩)), (29, .pointer (some ⟨w.heap.size, 8, none⟩)), (30, .int .i64 x8), (31, .int .i64 2), (32, .int .i64 0), (33, .pointer (some ⟨w.heap.size + 1, 6, none⟩)), (34, .pointer (some ⟨w.heap.size + 1, 6, none⟩)), (35, .int .i64 y6), (36, .int .i64 (x8 * y6)), (37, .int .i64 (x6 * y0 + x7 * y3 + x8 * y6))] (by kernel_rfl) (by decide) (by kernel_rfl) (by kernel_rfl) (by kernel_rfl) (fun aE hpe => ?_)
  simp only [puts, Act.put, List.setIfInBounds_toArray, List.set_cons_zero, List.set_cons_succ] at hpe
  subst hpe
  refine ⟨⟨.inr (.inr ?_), .inr (.inr ?_), .inr (.inr ?_), .inr (.inr ?_), .inr (.inr ?_), .inr (.inr ?_), .inr (.inr ?_), .inr (.inr ?_), .inr (.inr ?_), .inr (.inr ?_), .inr (.inr ?_), .inr (.inr ?_), .inr (.inr ?_), trivial⟩, ?_⟩
  · exact CalmG.mk 25 (.int .i64 (x6 * y0 + x7 * y3)) rfl rfl rfl (fun W hW => calm_move (.tmp 10) rfl rfl)
  · exact CalmG.mk 26 (.int .i64 2) rfl rfl rfl (fun W hW => calm_move (.tmp 8) rfl rfl)
  · exact CalmG.mk 27 (.int .i64 2) rfl rfl rfl (fun W hW => calm_move (.tmp 11) rfl rfl)
  · exact CalmG.mk 28 (.pointer (some ⟨w.heap.size, 6, none⟩)) rfl rfl rfl (fun W hW => calm_run (by simp [execOp, Act.eval, go_sem]))
  · exact CalmG.mk 29 (.pointer (some ⟨w.heap.size, 8, none⟩)) rfl rfl rfl (fun W hW => calm_run (by simp [execOp, Act.eval, go_sem]))
  · exact CalmG.mk 30 (.int .i64 x8) rfl rfl rfl (fun W hW => by have hc := row_int (off := 8) (z := x8) ((hW.block _ lx).trans kx_26) rfl; exact calm_run (by simp [execOp, Act.eval, go_sem, hc]))
  · exact CalmG.mk 31 (.int .i64 2) rfl rfl rfl (fun W hW => calm_move (.tmp 11) rfl rfl)
  · exact CalmG.mk 32 (.int .i64 0) rfl rfl rfl (fun W hW => calm_move (.tmp 9) rfl rfl)
  · exact CalmG.mk 33 (.pointer (some ⟨w.heap.size + 1, 6, none⟩)) rfl rfl rfl (fun W hW => calm_run (by simp [execOp, Act.eval, go_sem]))
  · exact CalmG.mk 34 (.pointer (some ⟨w.heap.size + 1, 6, none⟩)) rfl rfl rfl (fun W hW => calm_run (by simp [execOp, Act.eval, go_sem]))
  · exact CalmG.mk 35 (.int .i64 y6) rfl rfl rfl (fun W hW => by have hc := row_int (off := 6) (z := y6) ((hW.block _ ly).trans ky_26) rfl; exact calm_run (by simp [execOp, Act.eval, go_sem, hc]))
  · exact CalmG.mk 36 (.int .i64 (x8 * y6)) rfl rfl rfl (fun W hW => calm_run (by simp [execOp, Act.eval, go_sem, wmul bx8 by6]))
  · exact CalmG.mk 37 (.int .i64 (x6 * y0 + x7 * y3 + x8 * y6)) rfl rfl rfl (fun W hW => calm_run (by simp [execOp, Act.eval, go_sem, wadd3 bx6 by0 bx7 by3 bx8 by6]))
  intro V_27 hW
  simp only [List.drop_succ_cons, List.drop_zero]
  have kx_27 := (hW.block _ lx).trans kx_26
  have ky_27 := (hW.block _ ly).trans ky_26
  have kr_27 := (hW.block _ lr).trans kr_26
  have ko_27 := (hW.block _ lo).trans ko_26
  have HB_27 := low_tr' HB_26 hW (by omega)
  clear kx_26 ky_26 kr_26 ko_26 HB_26 lx ly lr lo hW V_26
  go_wp2
  rw [rounds_succ]; go_wp2
  have lx := (Array.getElem?_eq_some_iff.1 kx_27).1
  have ly := (Array.getElem?_eq_some_iff.1 ky_27).1
  have lr := (Array.getElem?_eq_some_iff.1 kr_27).1
  have lo := (Array.getElem?_eq_some_iff.1 ko_27).1
  refine region_via 7 [(38, .int .i64 2), (39, .int .i64 0), (40, .int .i64 (x6 * y0 + x7 * y3 + x8 * y6)), (41, .int .i64 p), (42, .int .i64 ((x6 * y0 + x7 * y3 + x8 * y6) % p)), (43, .pointer (some ⟨w.heap.size + 1 + 1 + 1, 6, none⟩)), (44, .pointer (some ⟨w.heap.size + 1 + 1 + 1, 6, none⟩))] (by kernel_rfl) (by decide) (by kernel_rfl) (by kernel_rfl) (by kernel_rfl) (fun aE hpe => ?_)
  simp only [puts, Act.put, List.setIfInBounds_toArray, List.set_cons_zero, List.set_cons_succ] at hpe
  subst hpe
  refine ⟨⟨.inr (.inr ?_), .inr (.inr ?_), .inr (.inr ?_), .inr (.inr ?_), .inr (.inr ?_), .inr (.inr ?_), .inr (.inr ?_), trivial⟩, ?_⟩
  · exact CalmG.mk 38 (.int .i64 2) rfl rfl rfl (fun W hW => calm_move (.tmp 8) rfl rfl)
  · exact CalmG.mk 39 (.int .i64 0) rfl rfl rfl (fun W hW => calm_move (.tmp 9) rfl rfl)
  · exact CalmG.mk 40 (.int .i64 (x6 * y0 + x7 * y3 + x8 * y6)) rfl rfl rfl (fun W hW => calm_move (.tmp 10) rfl rfl)
  · exact CalmG.mk 41 (.int .i64 p) rfl rfl rfl (fun W hW => calm_move (.tmp 0) rfl rfl)
  · exact CalmG.mk 42 (.int .i64 ((x6 * y0 + x7 * y3 + x8 * y6) % p)) rfl rfl rfl (fun W hW => by have e0 := dot12 bx6 by0 bx7 by3 bx8 by6; have e1 := Int.tmod_eq_emod_of_nonneg (b := p) e0; have e2 := wrap_small (modb (z := (x6 * y0 + x7 * y3 + x8 * y6)) hpb); have e3 : (p == 0) = false := (by simp; omega); exact calm_run (by simp [execOp, Act.eval, go_sem, e0, e1, e2, e3, (show ¬ p = 0 by omega)]))
  · exact CalmG.mk 43 (.pointer (some ⟨w.heap.size + 1 + 1 + 1, 6, none⟩)) rfl rfl rfl (fun W hW => calm_run (by simp [execOp, Act.eval, go_sem]))
  · exact CalmG.mk 44 (.pointer (some ⟨w.heap.size + 1 + 1 + 1, 6, none⟩)) rfl rfl rfl (fun W hW => calm_run (by simp [execOp, Act.eval, go_sem]))
  intro W hW
  simp only [List.drop_succ_cons, List.drop_zero]
  refine wpList_store1 _ rfl 2 (.tmp 44) (.tmp 42) rfl rfl (g := w.heap.size + 1 + 1 + 1) (off := 6) (T := 47) (cs := #[.int .i64 (((x0 * y0 + x1 * y3 + x2 * y6) % p)), .int .i64 (((x0 * y1 + x1 * y4 + x2 * y7) % p)), .int .i64 (((x0 * y2 + x1 * y5 + x2 * y8) % p)), .int .i64 (((x3 * y0 + x4 * y3 + x5 * y6) % p)), .int .i64 (((x3 * y1 + x4 * y4 + x5 * y7) % p)), .int .i64 (((x3 * y2 + x4 * y5 + x5 * y8) % p)), .int .i64 0, .int .i64 0, .int .i64 0]) (cs' := #[.int .i64 (((x0 * y0 + x1 * y3 + x2 * y6) % p)), .int .i64 (((x0 * y1 + x1 * y4 + x2 * y7) % p)), .int .i64 (((x0 * y2 + x1 * y5 + x2 * y8) % p)), .int .i64 (((x3 * y0 + x4 * y3 + x5 * y6) % p)), .int .i64 (((x3 * y1 + x4 * y4 + x5 * y7) % p)), .int .i64 (((x3 * y2 + x4 * y5 + x5 * y8) % p)), .int .i64 (((x6 * y0 + x7 * y3 + x8 * y6) % p)), .int .i64 0, .int .i64 0]) (z := ((x6 * y0 + x7 * y3 + x8 * y6) % p)) rfl rfl ((hW.block _ lo).trans ko_27) (Nat.le_of_ble_eq_true rfl) rfl Try.sizeOf2 ?_
  refine wpList_nil ?_
  have kx_28 := (setRow_other W (w.heap.size + 1 + 1 + 1) (w.heap.size) #[.int .i64 (((x0 * y0 + x1 * y3 + x2 * y6) % p)), .int .i64 (((x0 * y1 + x1 * y4 + x2 * y7) % p)), .int .i64 (((x0 * y2 + x1 * y5 + x2 * y8) % p)), .int .i64 (((x3 * y0 + x4 * y3 + x5 * y6) % p)), .int .i64 (((x3 * y1 + x4 * y4 + x5 * y7) % p)), .int .i64 (((x3 * y2 + x4 * y5 + x5 * y8) % p)), .int .i64 (((x6 * y0 + x7 * y3 + x8 * y6) % p)), .int .i64 0, .int .i64 0] (by omega)).trans ((hW.block _ lx).trans kx_27)
  have ky_28 := (setRow_other W (w.heap.size + 1 + 1 + 1) (w.heap.size + 1) #[.int .i64 (((x0 * y0 + x1 * y3 + x2 * y6) % p)), .int .i64 (((x0 * y1 + x1 * y4 + x2 * y7) % p)), .int .i64 (((x0 * y2 + x1 * y5 + x2 * y8) % p)), .int .i64 (((x3 * y0 + x4 * y3 + x5 * y6) % p)), .int .i64 (((x3 * y1 + x4 * y4 + x5 * y7) % p)), .int .i64 (((x3 * y2 + x4 * y5 + x5 * y8) % p)), .int .i64 (((x6 * y0 + x7 * y3 + x8 * y6) % p)), .int .i64 0, .int .i64 0] (by omega)).trans ((hW.block _ ly).trans ky_27)
  have kr_28 := (setRow_other W (w.heap.size + 1 + 1 + 1) (w.heap.size + 1 + 1) #[.int .i64 (((x0 * y0 + x1 * y3 + x2 * y6) % p)), .int .i64 (((x0 * y1 + x1 * y4 + x2 * y7) % p)), .int .i64 (((x0 * y2 + x1 * y5 + x2 * y8) % p)), .int .i64 (((x3 * y0 + x4 * y3 + x5 * y6) % p)), .int .i64 (((x3 * y1 + x4 * y4 + x5 * y7) % p)), .int .i64 (((x3 * y2 + x4 * y5 + x5 * y8) % p)), .int .i64 (((x6 * y0 + x7 * y3 + x8 * y6) % p)), .int .i64 0, .int .i64 0] (by omega)).trans ((hW.block _ lr).trans kr_27)
  have ko_28 := setRow_heap W (w.heap.size + 1 + 1 + 1) _ #[.int .i64 (((x0 * y0 + x1 * y3 + x2 * y6) % p)), .int .i64 (((x0 * y1 + x1 * y4 + x2 * y7) % p)), .int .i64 (((x0 * y2 + x1 * y5 + x2 * y8) % p)), .int .i64 (((x3 * y0 + x4 * y3 + x5 * y6) % p)), .int .i64 (((x3 * y1 + x4 * y4 + x5 * y7) % p)), .int .i64 (((x3 * y2 + x4 * y5 + x5 * y8) % p)), .int .i64 (((x6 * y0 + x7 * y3 + x8 * y6) % p)), .int .i64 0, .int .i64 0] _ _ ((hW.block _ lo).trans ko_27)
  have HB_28 : Below w.heap.size w (W.setRow (w.heap.size + 1 + 1 + 1) #[.int .i64 (((x0 * y0 + x1 * y3 + x2 * y6) % p)), .int .i64 (((x0 * y1 + x1 * y4 + x2 * y7) % p)), .int .i64 (((x0 * y2 + x1 * y5 + x2 * y8) % p)), .int .i64 (((x3 * y0 + x4 * y3 + x5 * y6) % p)), .int .i64 (((x3 * y1 + x4 * y4 + x5 * y7) % p)), .int .i64 (((x3 * y2 + x4 * y5 + x5 * y8) % p)), .int .i64 (((x6 * y0 + x7 * y3 + x8 * y6) % p)), .int .i64 0, .int .i64 0]) := below_setRowN (low_tr' HB_27 hW (by omega)) (by omega) _
  clear kx_27 ky_27 kr_27 ko_27 HB_27 lx ly lr lo hW
  generalize W.setRow (w.heap.size + 1 + 1 + 1) #[.int .i64 (((x0 * y0 + x1 * y3 + x2 * y6) % p)), .int .i64 (((x0 * y1 + x1 * y4 + x2 * y7) % p)), .int .i64 (((x0 * y2 + x1 * y5 + x2 * y8) % p)), .int .i64 (((x3 * y0 + x4 * y3 + x5 * y6) % p)), .int .i64 (((x3 * y1 + x4 * y4 + x5 * y7) % p)), .int .i64 (((x3 * y2 + x4 * y5 + x5 * y8) % p)), .int .i64 (((x6 * y0 + x7 * y3 + x8 * y6) % p)), .int .i64 0, .int .i64 0] = V_28 at *
  clear V_27
  go_wp2
  rw [rounds_succ]; go_wp2
  refine wp_loop_rounds 4 ?_
  rw [rounds_succ]; go_wp2
  have lx := (Array.getElem?_eq_some_iff.1 kx_28).1
  have ly := (Array.getElem?_eq_some_iff.1 ky_28).1
  have lr := (Array.getElem?_eq_some_iff.1 kr_28).1
  have lo := (Array.getElem?_eq_some_iff.1 ko_28).1
  refine region_via 13 [(25, .int .i64 0), (26, .int .i64 2), (27, .int .i64 0), (28, .pointer (some ⟨w.heap.size, 6, none⟩)), (29, .pointer (some ⟨w.heap.size, 6, none⟩)), (30, .int .i64 x6), (31, .int .i64 0), (32, .int .i64 1), (33, .pointer (some ⟨w.heap.size + 1, 0, none⟩)), (34, .pointer (some ⟨w.heap.size + 1, 1, none⟩)), (35, .int .i64 y1), (36, .int .i64 (x6 * y1)), (37, .int .i64 (x6 * y1))] (by kernel_rfl) (by decide) (by kernel_rfl) (by kernel_rfl) (by kernel_rfl) (fun aE hpe => ?_)
  simp only [puts, Act.put, List.setIfInBounds_toArray, List.set_cons_zero, List.set_cons_succ] at hpe
  subst hpe
  refine ⟨⟨.inr (.inr ?_), .inr (.inr ?_), .inr (.inr ?_), .inr (.inr ?_), .inr (.inr ?_), .inr (.inr ?_), .inr (.inr ?_), .inr (.inr ?_), .inr (.inr ?_), .inr (.inr ?_), .inr (.inr ?_), .inr (.inr ?_), .inr (.inr ?_), trivial⟩, ?_⟩
  · exact CalmG.mk 25 (.int .i64 0) rfl rfl rfl (fun W hW => calm_move (.tmp 10) rfl rfl)
  · exact CalmG.mk 26 (.int .i64 2) rfl rfl rfl (fun W hW => calm_move (.tmp 8) rfl rfl)
  · exact CalmG.mk 27 (.int .i64 0) rfl rfl rfl (fun W hW => calm_move (.tmp 11) rfl rfl)
  · exact CalmG.mk 28 (.pointer (some ⟨w.heap.size, 6, none⟩)) rfl rfl rfl (fun W hW => calm_run (by simp [execOp, Act.eval, go_sem]))
  · exact CalmG.mk 29 (.pointer (some ⟨w.heap.size, 6, none⟩)) rfl rfl rfl (fun W hW => calm_run (by simp [execOp, Act.eval, go_sem]))
  · exact CalmG.mk 30 (.int .i64 x6) rfl rfl rfl (fun W hW => by have hc := row_int (off := 6) (z := x6) ((hW.block _ lx).trans kx_28) rfl; exact calm_run (by simp [execOp, Act.eval, go_sem, hc]))
  · exact CalmG.mk 31 (.int .i64 0) rfl rfl rfl (fun W hW => calm_move (.tmp 11) rfl rfl)
  · exact CalmG.mk 32 (.int .i64 1) rfl rfl rfl (fun W hW => calm_move (.tmp 9) rfl rfl)
  · exact CalmG.mk 33 (.pointer (some ⟨w.heap.size + 1, 0, none⟩)) rfl rfl rfl (fun W hW => calm_run (by simp [execOp, Act.eval, go_sem]))
  · exact CalmG.mk 34 (.pointer (some ⟨w.heap.size + 1, 1, none⟩)) rfl rfl rfl (fun W hW => calm_run (by simp [execOp, Act.eval, go_sem]))
  · exact CalmG.mk 35 (.int .i64 y1) rfl rfl rfl (fun W hW => by have hc := row_int (off := 1) (z := y1) ((hW.block _ ly).trans ky_28) rfl; exact calm_run (by simp [execOp, Act.eval, go_sem, hc]))
  · exact CalmG.mk 36 (.int .i64 (x6 * y1)) rfl rfl rfl (fun W hW => calm_run (by simp [execOp, Act.eval, go_sem, wmul bx6 by1]))
  · exact CalmG.mk 37 (.int .i64 (x6 * y1)) rfl rfl rfl (fun W hW => calm_run (by simp [execOp, Act.eval, go_sem, wmul bx6 by1]))
  intro V_29 hW
  simp only [List.drop_succ_cons, List.drop_zero]
  have kx_29 := (hW.block _ lx).trans kx_28
  have ky_29 := (hW.block _ ly).trans ky_28
  have kr_29 := (hW.block _ lr).trans kr_28
  have ko_29 := (hW.block _ lo).trans ko_28
  have HB_29 := low_tr' HB_28 hW (by omega)
  clear kx_28 ky_28 kr_28 ko_28 HB_28 lx ly lr lo hW V_28
  go_wp2
  rw [rounds_succ]; go_wp2
  have lx := (Array.getElem?_eq_some_iff.1 kx_29).1
  have ly := (Array.getElem?_eq_some_iff.1 ky_29).1
  have lr := (Array.getElem?_eq_some_iff.1 kr_29).1
  have lo := (Array.getElem?_eq_some_iff.1 ko_29).1
  refine region_via 13 [(25, .int .i64 (x6 * y1)), (26, .int .i64 2), (27, .int .i64 1), (28, .pointer (some ⟨w.heap.size, 6, none⟩)), (29, .pointer (some ⟨w.heap.size, 7, none⟩)), (30, .int .i64 x7), (31, .int .i64 1), (32, .int .i64 1), (33, .pointer (some ⟨w.heap.size + 1, 3, none⟩)), (34, .pointer (some ⟨w.heap.size + 1, 4, none⟩)), (35, .int .i64 y4), (36, .int .i64 (x7 * y4)), (37, .int .i64 (x6 * y1 + x7 * y4))] (by kernel_rfl) (by decide) (by kernel_rfl) (by kernel_rfl) (by kernel_rfl) (fun aE hpe => ?_)
  simp only [puts, Act.put, List.setIfInBounds_toArray, List.set_cons_zero, List.set_cons_succ] at hpe
  subst hpe
  refine ⟨⟨.inr (.inr ?_), .inr (.inr ?_), .inr (.inr ?_), .inr (.inr ?_), .inr (.inr ?_), .inr (.inr ?_), .inr (.inr ?_), .inr (.inr ?_), .inr (.inr ?_), .inr (.inr ?_), .inr (.inr ?_), .inr (.inr ?_), .inr (.inr ?_), trivial⟩, ?_⟩
  · exact CalmG.mk 25 (.int .i64 (x6 * y1)) rfl rfl rfl (fun W hW => calm_move (.tmp 10) rfl rfl)
  · exact CalmG.mk 26 (.int .i64 2) rfl rfl rfl (fun W hW => calm_move (.tmp 8) rfl rfl)
  · exact CalmG.mk 27 (.int .i64 1) rfl rfl rfl (fun W hW => calm_move (.tmp 11) rfl rfl)
  · exact CalmG.mk 28 (.pointer (some ⟨w.heap.size, 6, none⟩)) rfl rfl rfl (fun W hW => calm_run (by simp [execOp, Act.eval, go_sem]))
  · exact CalmG.mk 29 (.pointer (some ⟨w.heap.size, 7, none⟩)) rfl rfl rfl (fun W hW => calm_run (by simp [execOp, Act.eval, go_sem]))
  · exact CalmG.mk 30 (.int .i64 x7) rfl rfl rfl (fun W hW => by have hc := row_int (off := 7) (z := x7) ((hW.block _ lx).trans kx_29) rfl; exact calm_run (by simp [execOp, Act.eval, go_sem, hc]))
  · exact CalmG.mk 31 (.int .i64 1) rfl rfl rfl (fun W hW => calm_move (.tmp 11) rfl rfl)
  · exact CalmG.mk 32 (.int .i64 1) rfl rfl rfl (fun W hW => calm_move (.tmp 9) rfl rfl)
  · exact CalmG.mk 33 (.pointer (some ⟨w.heap.size + 1, 3, none⟩)) rfl rfl rfl (fun W hW => calm_run (by simp [execOp, Act.eval, go_sem]))
  · exact CalmG.mk 34 (.pointer (some ⟨w.heap.size + 1, 4, none⟩)) rfl rfl rfl (fun W hW => calm_run (by simp [execOp, Act.eval, go_sem]))
  · exact CalmG.mk 35 (.int .i64 y4) rfl rfl rfl (fun W hW => by have hc := row_int (off := 4) (z := y4) ((hW.block _ ly).trans ky_29) rfl; exact calm_run (by simp [execOp, Act.eval, go_sem, hc]))
  · exact CalmG.mk 36 (.int .i64 (x7 * y4)) rfl rfl rfl (fun W hW => calm_run (by simp [execOp, Act.eval, go_sem, wmul bx7 by4]))
  · exact CalmG.mk 37 (.int .i64 (x6 * y1 + x7 * y4)) rfl rfl rfl (fun W hW => calm_run (by simp [execOp, Act.eval, go_sem, wadd2 bx6 by1 bx7 by4]))
  intro V_30 hW
  simp only [List.drop_succ_cons, List.drop_zero]
  have kx_30 := (hW.block _ lx).trans kx_29
  have ky_30 := (hW.block _ ly).trans ky_29
  have kr_30 := (hW.block _ lr).trans kr_29
  have ko_30 := (hW.block _ lo).trans ko_29
  have HB_30 := low_tr' HB_29 hW (by omega)
  clear kx_29 ky_29 kr_29 ko_29 HB_29 lx ly lr lo hW V_29
  go_wp2
  rw [rounds_succ]; go_wp2
  have lx := (Array.getElem?_eq_some_iff.1 kx_30).1
  have ly := (Array.getElem?_eq_some_iff.1 ky_30).1
  have lr := (Array.getElem?_eq_some_iff.1 kr_30).1
  have lo := (Array.getElem?_eq_some_iff.1 ko_30).1
  refine region_via 13 [(25, .int .i64 (x6 * y1 + x7 * y4)), (26, .int .i64 2), (27, .int .i64 2), (28, .pointer (some ⟨w.heap.size, 6, none⟩)), (29, .pointer (some ⟨w.heap.size, 8, none⟩)), (30, .int .i64 x8), (31, .int .i64 2), (32, .int .i64 1), (33, .pointer (some ⟨w.heap.size + 1, 6, none⟩)), (34, .pointer (some ⟨w.heap.size + 1, 7, none⟩)), (35, .int .i64 y7), (36, .int .i64 (x8 * y7)), (37, .int .i64 (x6 * y1 + x7 * y4 + x8 * y7))] (by kernel_rfl) (by decide) (by kernel_rfl) (by kernel_rfl) (by kernel_rfl) (fun aE hpe => ?_)
  simp only [puts, Act.put, List.setIfInBounds_toArray, List.set_cons_zero, List.set_cons_succ] at hpe
  subst hpe
  refine ⟨⟨.inr (.inr ?_), .inr (.inr ?_), .inr (.inr ?_), .inr (.inr ?_), .inr (.inr ?_), .inr (.inr ?_), .inr (.inr ?_), .inr (.inr ?_), .inr (.inr ?_), .inr (.inr ?_), .inr (.inr ?_), .inr (.inr ?_), .inr (.inr ?_), trivial⟩, ?_⟩
  · exact CalmG.mk 25 (.int .i64 (x6 * y1 + x7 * y4)) rfl rfl rfl (fun W hW => calm_move (.tmp 10) rfl rfl)
  · exact CalmG.mk 26 (.int .i64 2) rfl rfl rfl (fun W hW => calm_move (.tmp 8) rfl rfl)
  · exact CalmG.mk 27 (.int .i64 2) rfl rfl rfl (fun W hW => calm_move (.tmp 11) rfl rfl)
  · exact CalmG.mk 28 (.pointer (some ⟨w.heap.size, 6, none⟩)) rfl rfl rfl (fun W hW => calm_run (by simp [execOp, Act.eval, go_sem]))
  · exact CalmG.mk 29 (.pointer (some ⟨w.heap.size, 8, none⟩)) rfl rfl rfl (fun W hW => calm_run (by simp [execOp, Act.eval, go_sem]))
  · exact CalmG.mk 30 (.int .i64 x8) rfl rfl rfl (fun W hW => by have hc := row_int (off := 8) (z := x8) ((hW.block _ lx).trans kx_30) rfl; exact calm_run (by simp [execOp, Act.eval, go_sem, hc]))
  · exact CalmG.mk 31 (.int .i64 2) rfl rfl rfl (fun W hW => calm_move (.tmp 11) rfl rfl)
  · exact CalmG.mk 32 (.int .i64 1) rfl rfl rfl (fun W hW => calm_move (.tmp 9) rfl rfl)
  · exact CalmG.mk 33 (.pointer (some ⟨w.heap.size + 1, 6, none⟩)) rfl rfl rfl (fun W hW => calm_run (by simp [execOp, Act.eval, go_sem]))
  · exact CalmG.mk 34 (.pointer (some ⟨w.heap.size + 1, 7, none⟩)) rfl rfl rfl (fun W hW => calm_run (by simp [execOp, Act.eval, go_sem]))
  · exact CalmG.mk 35 (.int .i64 y7) rfl rfl rfl (fun W hW => by have hc := row_int (off := 7) (z := y7) ((hW.block _ ly).trans ky_30) rfl; exact calm_run (by simp [execOp, Act.eval, go_sem, hc]))
  · exact CalmG.mk 36 (.int .i64 (x8 * y7)) rfl rfl rfl (fun W hW => calm_run (by simp [execOp, Act.eval, go_sem, wmul bx8 by7]))
  · exact CalmG.mk 37 (.int .i64 (x6 * y1 + x7 * y4 + x8 * y7)) rfl rfl rfl (fun W hW => calm_run (by simp [execOp, Act.eval, go_sem, wadd3 bx6 by1 bx7 by4 bx8 by7]))
  intro V_31 hW
  simp only [List.drop_succ_cons, List.drop_zero]
  have kx_31 := (hW.block _ lx).trans kx_30
  have ky_31 := (hW.block _ ly).trans ky_30
  have kr_31 := (hW.block _ lr).trans kr_30
  have ko_31 := (hW.block _ lo).trans ko_30
  have HB_31 := low_tr' HB_30 hW (by omega)
  clear kx_30 ky_30 kr_30 ko_30 HB_30 lx ly lr lo hW V_30
  go_wp2
  rw [rounds_succ]; go_wp2
  have lx := (Array.getElem?_eq_some_iff.1 kx_31).1
  have ly := (Array.getElem?_eq_some_iff.1 ky_31).1
  have lr := (Array.getElem?_eq_some_iff.1 kr_31).1
  have lo := (Array.getElem?_eq_some_iff.1 ko_31).1
  refine region_via 7 [(38, .int .i64 2), (39, .int .i64 1), (40, .int .i64 (x6 * y1 + x7 * y4 + x8 * y7)), (41, .int .i64 p), (42, .int .i64 ((x6 * y1 + x7 * y4 + x8 * y7) % p)), (43, .pointer (some ⟨w.heap.size + 1 + 1 + 1, 6, none⟩)), (44, .pointer (some ⟨w.heap.size + 1 + 1 + 1, 7, none⟩))] (by kernel_rfl) (by decide) (by kernel_rfl) (by kernel_rfl) (by kernel_rfl) (fun aE hpe => ?_)
  simp only [puts, Act.put, List.setIfInBounds_toArray, List.set_cons_zero, List.set_cons_succ] at hpe
  subst hpe
  refine ⟨⟨.inr (.inr ?_), .inr (.inr ?_), .inr (.inr ?_), .inr (.inr ?_), .inr (.inr ?_), .inr (.inr ?_), .inr (.inr ?_), trivial⟩, ?_⟩
  · exact CalmG.mk 38 (.int .i64 2) rfl rfl rfl (fun W hW => calm_move (.tmp 8) rfl rfl)
  · exact CalmG.mk 39 (.int .i64 1) rfl rfl rfl (fun W hW => calm_move (.tmp 9) rfl rfl)
  · exact CalmG.mk 40 (.int .i64 (x6 * y1 + x7 * y4 + x8 * y7)) rfl rfl rfl (fun W hW => calm_move (.tmp 10) rfl rfl)
  · exact CalmG.mk 41 (.int .i64 p) rfl rfl rfl (fun W hW => calm_move (.tmp 0) rfl rfl)
  · exact CalmG.mk 42 (.int .i64 ((x6 * y1 + x7 * y4 + x8 * y7) % p)) rfl rfl rfl (fun W hW => by have e0 := dot12 bx6 by1 bx7 by4 bx8 by7; have e1 := Int.tmod_eq_emod_of_nonneg (b := p) e0; have e2 := wrap_small (modb (z := (x6 * y1 + x7 * y4 + x8 * y7)) hpb); have e3 : (p == 0) = false := (by simp; omega); exact calm_run (by simp [execOp, Act.eval, go_sem, e0, e1, e2, e3, (show ¬ p = 0 by omega)]))
  · exact CalmG.mk 43 (.pointer (some ⟨w.heap.size + 1 + 1 + 1, 6, none⟩)) rfl rfl rfl (fun W hW => calm_run (by simp [execOp, Act.eval, go_sem]))
  · exact CalmG.mk 44 (.pointer (some ⟨w.heap.size + 1 + 1 + 1, 7, none⟩)) rfl rfl rfl (fun W hW => calm_run (by simp [execOp, Act.eval, go_sem]))
  intro W hW
  simp only [List.drop_succ_cons, List.drop_zero]
  refine wpList_store1 _ rfl 2 (.tmp 44) (.tmp 42) rfl rfl (g := w.heap.size + 1 + 1 + 1) (off := 7) (T := 47) (cs := #[.int .i64 (((x0 * y0 + x1 * y3 + x2 * y6) % p)), .int .i64 (((x0 * y1 + x1 * y4 + x2 * y7) % p)), .int .i64 (((x0 * y2 + x1 * y5 + x2 * y8) % p)), .int .i64 (((x3 * y0 + x4 * y3 + x5 * y6) % p)), .int .i64 (((x3 * y1 + x4 * y4 + x5 * y7) % p)), .int .i64 (((x3 * y2 + x4 * y5 + x5 * y8) % p)), .int .i64 (((x6 * y0 + x7 * y3 + x8 * y6) % p)), .int .i64 0, .int .i64 0]) (cs' := #[.int .i64 (((x0 * y0 + x1 * y3 + x2 * y6) % p)), .int .i64 (((x0 * y1 + x1 * y4 + x2 * y7) % p)), .int .i64 (((x0 * y2 + x1 * y5 + x2 * y8) % p)), .int .i64 (((x3 * y0 + x4 * y3 + x5 * y6) % p)), .int .i64 (((x3 * y1 + x4 * y4 + x5 * y7) % p)), .int .i64 (((x3 * y2 + x4 * y5 + x5 * y8) % p)), .int .i64 (((x6 * y0 + x7 * y3 + x8 * y6) % p)), .int .i64 (((x6 * y1 + x7 * y4 + x8 * y7) % p)), .int .i64 0]) (z := ((x6 * y1 + x7 * y4 + x8 * y7) % p)) rfl rfl ((hW.block _ lo).trans ko_31) (Nat.le_of_ble_eq_true rfl) rfl Try.sizeOf2 ?_
  refine wpList_nil ?_
  have kx_32 := (setRow_other W (w.heap.size + 1 + 1 + 1) (w.heap.size) #[.int .i64 (((x0 * y0 + x1 * y3 + x2 * y6) % p)), .int .i64 (((x0 * y1 + x1 * y4 + x2 * y7) % p)), .int .i64 (((x0 * y2 + x1 * y5 + x2 * y8) % p)), .int .i64 (((x3 * y0 + x4 * y3 + x5 * y6) % p)), .int .i64 (((x3 * y1 + x4 * y4 + x5 * y7) % p)), .int .i64 (((x3 * y2 + x4 * y5 + x5 * y8) % p)), .int .i64 (((x6 * y0 + x7 * y3 + x8 * y6) % p)), .int .i64 (((x6 * y1 + x7 * y4 + x8 * y7) % p)), .int .i64 0] (by omega)).trans ((hW.block _ lx).trans kx_31)
  have ky_32 := (setRow_other W (w.heap.size + 1 + 1 + 1) (w.heap.size + 1) #[.int .i64 (((x0 * y0 + x1 * y3 + x2 * y6) % p)), .int .i64 (((x0 * y1 + x1 * y4 + x2 * y7) % p)), .int .i64 (((x0 * y2 + x1 * y5 + x2 * y8) % p)), .int .i64 (((x3 * y0 + x4 * y3 + x5 * y6) % p)), .int .i64 (((x3 * y1 + x4 * y4 + x5 * y7) % p)), .int .i64 (((x3 * y2 + x4 * y5 + x5 * y8) % p)), .int .i64 (((x6 * y0 + x7 * y3 + x8 * y6) % p)), .int .i64 (((x6 * y1 + x7 * y4 + x8 * y7) % p)), .int .i64 0] (by omega)).trans ((hW.block _ ly).trans ky_31)
  have kr_32 := (setRow_other W (w.heap.size + 1 + 1 + 1) (w.heap.size + 1 + 1) #[.int .i64 (((x0 * y0 + x1 * y3 + x2 * y6) % p)), .int .i64 (((x0 * y1 + x1 * y4 + x2 * y7) % p)), .int .i64 (((x0 * y2 + x1 * y5 + x2 * y8) % p)), .int .i64 (((x3 * y0 + x4 * y3 + x5 * y6) % p)), .int .i64 (((x3 * y1 + x4 * y4 + x5 * y7) % p)), .int .i64 (((x3 * y2 + x4 * y5 + x5 * y8) % p)), .int .i64 (((x6 * y0 + x7 * y3 + x8 * y6) % p)), .int .i64 (((x6 * y1 + x7 * y4 + x8 * y7) % p)), .int .i64 0] (by omega)).trans ((hW.block _ lr).trans kr_31)
  have ko_32 := setRow_heap W (w.heap.size + 1 + 1 + 1) _ #[.int .i64 (((x0 * y0 + x1 * y3 + x2 * y6) % p)), .int .i64 (((x0 * y1 + x1 * y4 + x2 * y7) % p)), .int .i64 (((x0 * y2 + x1 * y5 + x2 * y8) % p)), .int .i64 (((x3 * y0 + x4 * y3 + x5 * y6) % p)), .int .i64 (((x3 * y1 + x4 * y4 + x5 * y7) % p)), .int .i64 (((x3 * y2 + x4 * y5 + x5 * y8) % p)), .int .i64 (((x6 * y0 + x7 * y3 + x8 * y6) % p)), .int .i64 (((x6 * y1 + x7 * y4 + x8 * y7) % p)), .int .i64 0] _ _ ((hW.block _ lo).trans ko_31)
  have HB_32 : Below w.heap.size w (W.setRow (w.heap.size + 1 + 1 + 1) #[.int .i64 (((x0 * y0 + x1 * y3 + x2 * y6) % p)), .int .i64 (((x0 * y1 + x1 * y4 + x2 * y7) % p)), .int .i64 (((x0 * y2 + x1 * y5 + x2 * y8) % p)), .int .i64 (((x3 * y0 + x4 * y3 + x5 * y6) % p)), .int .i64 (((x3 * y1 + x4 * y4 + x5 * y7) % p)), .int .i64 (((x3 * y2 + x4 * y5 + x5 * y8) % p)), .int .i64 (((x6 * y0 + x7 * y3 + x8 * y6) % p)), .int .i64 (((x6 * y1 + x7 * y4 + x8 * y7) % p)), .int .i64 0]) := below_setRowN (low_tr' HB_31 hW (by omega)) (by omega) _
  clear kx_31 ky_31 kr_31 ko_31 HB_31 lx ly lr lo hW
  generalize W.setRow (w.heap.size + 1 + 1 + 1) #[.int .i64 (((x0 * y0 + x1 * y3 + x2 * y6) % p)), .int .i64 (((x0 * y1 + x1 * y4 + x2 * y7) % p)), .int .i64 (((x0 * y2 + x1 * y5 + x2 * y8) % p)), .int .i64 (((x3 * y0 + x4 * y3 + x5 * y6) % p)), .int .i64 (((x3 * y1 + x4 * y4 + x5 * y7) % p)), .int .i64 (((x3 * y2 + x4 * y5 + x5 * y8) % p)), .int .i64 (((x6 * y0 + x7 * y3 + x8 * y6) % p)), .int .i64 (((x6 * y1 + x7 * y4 + x8 * y7) % p)), .int .i64 0] = V_32 at *
  clear V_31
  go_wp2
  rw [rounds_succ]; go_wp2
  refine wp_loop_rounds 4 ?_
  rw [rounds_succ]; go_wp2
  have lx := (Array.getElem?_eq_some_iff.1 kx_32).1
  have ly := (Array.getElem?_eq_some_iff.1 ky_32).1
  have lr := (Array.getElem?_eq_some_iff.1 kr_32).1
  have lo := (Array.getElem?_eq_some_iff.1 ko_32).1
  refine region_via 13 [(25, .int .i64 0), (26, .int .i64 2), (27, .int .i64 0), (28, .pointer (some ⟨w.heap.size, 6, none⟩)), (29, .pointer (some ⟨w.heap.size, 6, none⟩)), (30, .int .i64 x6), (31, .int .i64 0), (32, .int .i64 2), (33, .pointer (some ⟨w.heap.size + 1, 0, none⟩)), (34, .pointer (some ⟨w.heap.size + 1, 2, none⟩)), (35, .int .i64 y2), (36, .int .i64 (x6 * y2)), (37, .int .i64 (x6 * y2))] (by kernel_rfl) (by decide) (by kernel_rfl) (by kernel_rfl) (by kernel_rfl) (fun aE hpe => ?_)
  simp only [puts, Act.put, List.setIfInBounds_toArray, List.set_cons_zero, List.set_cons_succ] at hpe
  subst hpe
  refine ⟨⟨.inr (.inr ?_), .inr (.inr ?_), .inr (.inr ?_), .inr (.inr ?_), .inr (.inr ?_), .inr (.inr ?_), .inr (.inr ?_), .inr (.inr ?_), .inr (.inr ?_), .inr (.inr ?_), .inr (.inr ?_), .inr (.inr ?_), .inr (.inr ?_), trivial⟩, ?_⟩
  · exact CalmG.mk 25 (.int .i64 0) rfl rfl rfl (fun W hW => calm_move (.tmp 10) rfl rfl)
  · exact CalmG.mk 26 (.int .i64 2) rfl rfl rfl (fun W hW => calm_move (.tmp 8) rfl rfl)
  · exact CalmG.mk 27 (.int .i64 0) rfl rfl rfl (fun W hW => calm_move (.tmp 11) rfl rfl)
  · exact CalmG.mk 28 (.pointer (some ⟨w.heap.size, 6, none⟩)) rfl rfl rfl (fun W hW => calm_run (by simp [execOp, Act.eval, go_sem]))
  · exact CalmG.mk 29 (.pointer (some ⟨w.heap.size, 6, none⟩)) rfl rfl rfl (fun W hW => calm_run (by simp [execOp, Act.eval, go_sem]))
  · exact CalmG.mk 30 (.int .i64 x6) rfl rfl rfl (fun W hW => by have hc := row_int (off := 6) (z := x6) ((hW.block _ lx).trans kx_32) rfl; exact calm_run (by simp [execOp, Act.eval, go_sem, hc]))
  · exact CalmG.mk 31 (.int .i64 0) rfl rfl rfl (fun W hW => calm_move (.tmp 11) rfl rfl)
  · exact CalmG.mk 32 (.int .i64 2) rfl rfl rfl (fun W hW => calm_move (.tmp 9) rfl rfl)
  · exact CalmG.mk 33 (.pointer (some ⟨w.heap.size + 1, 0, none⟩)) rfl rfl rfl (fun W hW => calm_run (by simp [execOp, Act.eval, go_sem]))
  · exact CalmG.mk 34 (.pointer (some ⟨w.heap.size + 1, 2, none⟩)) rfl rfl rfl (fun W hW => calm_run (by simp [execOp, Act.eval, go_sem]))
  · exact CalmG.mk 35 (.int .i64 y2) rfl rfl rfl (fun W hW => by have hc := row_int (off := 2) (z := y2) ((hW.block _ ly).trans ky_32) rfl; exact calm_run (by simp [execOp, Act.eval, go_sem, hc]))
  · exact CalmG.mk 36 (.int .i64 (x6 * y2)) rfl rfl rfl (fun W hW => calm_run (by simp [execOp, Act.eval, go_sem, wmul bx6 by2]))
  · exact CalmG.mk 37 (.int .i64 (x6 * y2)) rfl rfl rfl (fun W hW => calm_run (by simp [execOp, Act.eval, go_sem, wmul bx6 by2]))
  intro V_33 hW
  simp only [List.drop_succ_cons, List.drop_zero]
  have kx_33 := (hW.block _ lx).trans kx_32
  have ky_33 := (hW.block _ ly).trans ky_32
  have kr_33 := (hW.block _ lr).trans kr_32
  have ko_33 := (hW.block _ lo).trans ko_32
  have HB_33 := low_tr' HB_32 hW (by omega)
  clear kx_32 ky_32 kr_32 ko_32 HB_32 lx ly lr lo hW V_32
  go_wp2
  rw [rounds_succ]; go_wp2
  have lx := (Array.getElem?_eq_some_iff.1 kx_33).1
  have ly := (Array.getElem?_eq_some_iff.1 ky_33).1
  have lr := (Array.getElem?_eq_some_iff.1 kr_33).1
  have lo := (Array.getElem?_eq_some_iff.1 ko_33).1
  refine region_via 13 [(25, .int .i64 (x6 * y2)), (26, .int .i64 2), (27, .int .i64 1), (28, .pointer (some ⟨w.heap.size, 6, none⟩)), (29, .pointer (some ⟨w.heap.size, 7, none⟩)), (30, .int .i64 x7), (31, .int .i64 1), (32, .int .i64 2), (33, .pointer (some ⟨w.heap.size + 1, 3, none⟩)), (34, .pointer (some ⟨w.heap.size + 1, 5, none⟩)), (35, .int .i64 y5), (36, .int .i64 (x7 * y5)), (37, .int .i64 (x6 * y2 + x7 * y5))] (by kernel_rfl) (by decide) (by kernel_rfl) (by kernel_rfl) (by kernel_rfl) (fun aE hpe => ?_)
  simp only [puts, Act.put, List.setIfInBounds_toArray, List.set_cons_zero, List.set_cons_succ] at hpe
  subst hpe
  refine ⟨⟨.inr (.inr ?_), .inr (.inr ?_), .inr (.inr ?_), .inr (.inr ?_), .inr (.inr ?_), .inr (.inr ?_), .inr (.inr ?_), .inr (.inr ?_), .inr (.inr ?_), .inr (.inr ?_), .inr (.inr ?_), .inr (.inr ?_), .inr (.inr ?_), trivial⟩, ?_⟩
  · exact CalmG.mk 25 (.int .i64 (x6 * y2)) rfl rfl rfl (fun W hW => calm_move (.tmp 10) rfl rfl)
  · exact CalmG.mk 26 (.int .i64 2) rfl rfl rfl (fun W hW => calm_move (.tmp 8) rfl rfl)
  · exact CalmG.mk 27 (.int .i64 1) rfl rfl rfl (fun W hW => calm_move (.tmp 11) rfl rfl)
  · exact CalmG.mk 28 (.pointer (some ⟨w.heap.size, 6, none⟩)) rfl rfl rfl (fun W hW => calm_run (by simp [execOp, Act.eval, go_sem]))
  · exact CalmG.mk 29 (.pointer (some ⟨w.heap.size, 7, none⟩)) rfl rfl rfl (fun W hW => calm_run (by simp [execOp, Act.eval, go_sem]))
  · exact CalmG.mk 30 (.int .i64 x7) rfl rfl rfl (fun W hW => by have hc := row_int (off := 7) (z := x7) ((hW.block _ lx).trans kx_33) rfl; exact calm_run (by simp [execOp, Act.eval, go_sem, hc]))
  · exact CalmG.mk 31 (.int .i64 1) rfl rfl rfl (fun W hW => calm_move (.tmp 11) rfl rfl)
  · exact CalmG.mk 32 (.int .i64 2) rfl rfl rfl (fun W hW => calm_move (.tmp 9) rfl rfl)
  · exact CalmG.mk 33 (.pointer (some ⟨w.heap.size + 1, 3, none⟩)) rfl rfl rfl (fun W hW => calm_run (by simp [execOp, Act.eval, go_sem]))
  · exact CalmG.mk 34 (.pointer (some ⟨w.heap.size + 1, 5, none⟩)) rfl rfl rfl (fun W hW => calm_run (by simp [execOp, Act.eval, go_sem]))
  · exact CalmG.mk 35 (.int .i64 y5) rfl rfl rfl (fun W hW => by have hc := row_int (off := 5) (z := y5) ((hW.block _ ly).trans ky_33) rfl; exact calm_run (by simp [execOp, Act.eval, go_sem, hc]))
  · exact CalmG.mk 36 (.int .i64 (x7 * y5)) rfl rfl rfl (fun W hW => calm_run (by simp [execOp, Act.eval, go_sem, wmul bx7 by5]))
  · exact CalmG.mk 37 (.int .i64 (x6 * y2 + x7 * y5)) rfl rfl rfl (fun W hW => calm_run (by simp [execOp, Act.eval, go_sem, wadd2 bx6 by2 bx7 by5]))
  intro V_34 hW
  simp only [List.drop_succ_cons, List.drop_zero]
  have kx_34 := (hW.block _ lx).trans kx_33
  have ky_34 := (hW.block _ ly).trans ky_33
  have kr_34 := (hW.block _ lr).trans kr_33
  have ko_34 := (hW.block _ lo).trans ko_33
  have HB_34 := low_tr' HB_33 hW (by omega)
  clear kx_33 ky_33 kr_33 ko_33 HB_33 lx ly lr lo hW V_33
  go_wp2
  rw [rounds_succ]; go_wp2
  have lx := (Array.getElem?_eq_some_iff.1 kx_34).1
  have ly := (Array.getElem?_eq_some_iff.1 ky_34).1
  have lr := (Array.getElem?_eq_some_iff.1 kr_34).1
  have lo := (Array.getElem?_eq_some_iff.1 ko_34).1
  refine region_via 13 [(25, .int .i64 (x6 * y2 + x7 * y5)), (26, .int .i64 2), (27, .int .i64 2), (28, .pointer (some ⟨w.heap.size, 6, none⟩)), (29, .pointer (some ⟨w.heap.size, 8, none⟩)), (30, .int .i64 x8), (31, .int .i64 2), (32, .int .i64 2), (33, .pointer (some ⟨w.heap.size + 1, 6, none⟩)), (34, .pointer (some ⟨w.heap.size + 1, 8, none⟩)), (35, .int .i64 y8), (36, .int .i64 (x8 * y8)), (37, .int .i64 (x6 * y2 + x7 * y5 + x8 * y8))] (by kernel_rfl) (by decide) (by kernel_rfl) (by kernel_rfl) (by kernel_rfl) (fun aE hpe => ?_)
  simp only [puts, Act.put, List.setIfInBounds_toArray, List.set_cons_zero, List.set_cons_succ] at hpe
  subst hpe
  refine ⟨⟨.inr (.inr ?_), .inr (.inr ?_), .inr (.inr ?_), .inr (.inr ?_), .inr (.inr ?_), .inr (.inr ?_), .inr (.inr ?_), .inr (.inr ?_), .inr (.inr ?_), .inr (.inr ?_), .inr (.inr ?_), .inr (.inr ?_), .inr (.inr ?_), trivial⟩, ?_⟩
  · exact CalmG.mk 25 (.int .i64 (x6 * y2 + x7 * y5)) rfl rfl rfl (fun W hW => calm_move (.tmp 10) rfl rfl)
  · exact CalmG.mk 26 (.int .i64 2) rfl rfl rfl (fun W hW => calm_move (.tmp 8) rfl rfl)
  · exact CalmG.mk 27 (.int .i64 2) rfl rfl rfl (fun W hW => calm_move (.tmp 11) rfl rfl)
  · exact CalmG.mk 28 (.pointer (some ⟨w.heap.size, 6, none⟩)) rfl rfl rfl (fun W hW => calm_run (by simp [execOp, Act.eval, go_sem]))
  · exact CalmG.mk 29 (.pointer (some ⟨w.heap.size, 8, none⟩)) rfl rfl rfl (fun W hW => calm_run (by simp [execOp, Act.eval, go_sem]))
  · exact CalmG.mk 30 (.int .i64 x8) rfl rfl rfl (fun W hW => by have hc := row_int (off := 8) (z := x8) ((hW.block _ lx).trans kx_34) rfl; exact calm_run (by simp [execOp, Act.eval, go_sem, hc]))
  · exact CalmG.mk 31 (.int .i64 2) rfl rfl rfl (fun W hW => calm_move (.tmp 11) rfl rfl)
  · exact CalmG.mk 32 (.int .i64 2) rfl rfl rfl (fun W hW => calm_move (.tmp 9) rfl rfl)
  · exact CalmG.mk 33 (.pointer (some ⟨w.heap.size + 1, 6, none⟩)) rfl rfl rfl (fun W hW => calm_run (by simp [execOp, Act.eval, go_sem]))
  · exact CalmG.mk 34 (.pointer (some ⟨w.heap.size + 1, 8, none⟩)) rfl rfl rfl (fun W hW => calm_run (by simp [execOp, Act.eval, go_sem]))
  · exact CalmG.mk 35 (.int .i64 y8) rfl rfl rfl (fun W hW => by have hc := row_int (off := 8) (z := y8) ((hW.block _ ly).trans ky_34) rfl; exact calm_run (by simp [execOp, Act.eval, go_sem, hc]))
  · exact CalmG.mk 36 (.int .i64 (x8 * y8)) rfl rfl rfl (fun W hW => calm_run (by simp [execOp, Act.eval, go_sem, wmul bx8 by8]))
  · exact CalmG.mk 37 (.int .i64 (x6 * y2 + x7 * y5 + x8 * y8)) rfl rfl rfl (fun W hW => calm_run (by simp [execOp, Act.eval, go_sem, wadd3 bx6 by2 bx7 by5 bx8 by8]))
  intro V_35 hW
  simp only [List.drop_succ_cons, List.drop_zero]
  have kx_35 := (hW.block _ lx).trans kx_34
  have ky_35 := (hW.block _ ly).trans ky_34
  have kr_35 := (hW.block _ lr).trans kr_34
  have ko_35 := (hW.block _ lo).trans ko_34
  have HB_35 := low_tr' HB_34 hW (by omega)
  clear kx_34 ky_34 kr_34 ko_34 HB_34 lx ly lr lo hW V_34
  go_wp2
  rw [rounds_succ]; go_wp2
  have lx := (Array.getElem?_eq_some_iff.1 kx_35).1
  have ly := (Array.getElem?_eq_some_iff.1 ky_35).1
  have lr := (Array.getElem?_eq_some_iff.1 kr_35).1
  have lo := (Array.getElem?_eq_some_iff.1 ko_35).1
  refine region_via 7 [(38, .int .i64 2), (39, .int .i64 2), (40, .int .i64 (x6 * y2 + x7 * y5 + x8 * y8)), (41, .int .i64 p), (42, .int .i64 ((x6 * y2 + x7 * y5 + x8 * y8) % p)), (43, .pointer (some ⟨w.heap.size + 1 + 1 + 1, 6, none⟩)), (44, .pointer (some ⟨w.heap.size + 1 + 1 + 1, 8, none⟩))] (by kernel_rfl) (by decide) (by kernel_rfl) (by kernel_rfl) (by kernel_rfl) (fun aE hpe => ?_)
  simp only [puts, Act.put, List.setIfInBounds_toArray, List.set_cons_zero, List.set_cons_succ] at hpe
  subst hpe
  refine ⟨⟨.inr (.inr ?_), .inr (.inr ?_), .inr (.inr ?_), .inr (.inr ?_), .inr (.inr ?_), .inr (.inr ?_), .inr (.inr ?_), trivial⟩, ?_⟩
  · exact CalmG.mk 38 (.int .i64 2) rfl rfl rfl (fun W hW => calm_move (.tmp 8) rfl rfl)
  · exact CalmG.mk 39 (.int .i64 2) rfl rfl rfl (fun W hW => calm_move (.tmp 9) rfl rfl)
  · exact CalmG.mk 40 (.int .i64 (x6 * y2 + x7 * y5 + x8 * y8)) rfl rfl rfl (fun W hW => calm_move (.tmp 10) rfl rfl)
  · exact CalmG.mk 41 (.int .i64 p) rfl rfl rfl (fun W hW => calm_move (.tmp 0) rfl rfl)
  · exact CalmG.mk 42 (.int .i64 ((x6 * y2 + x7 * y5 + x8 * y8) % p)) rfl rfl rfl (fun W hW => by have e0 := dot12 bx6 by2 bx7 by5 bx8 by8; have e1 := Int.tmod_eq_emod_of_nonneg (b := p) e0; have e2 := wrap_small (modb (z := (x6 * y2 + x7 * y5 + x8 * y8)) hpb); have e3 : (p == 0) = false := (by simp; omega); exact calm_run (by simp [execOp, Act.eval, go_sem, e0, e1, e2, e3, (show ¬ p = 0 by omega)]))
  · exact CalmG.mk 43 (.pointer (some ⟨w.heap.size + 1 + 1 + 1, 6, none⟩)) rfl rfl rfl (fun W hW => calm_run (by simp [execOp, Act.eval, go_sem]))
  · exact CalmG.mk 44 (.pointer (some ⟨w.heap.size + 1 + 1 + 1, 8, none⟩)) rfl rfl rfl (fun W hW => calm_run (by simp [execOp, Act.eval, go_sem]))
  intro W hW
  simp only [List.drop_succ_cons, List.drop_zero]
  refine wpList_store1 _ rfl 2 (.tmp 44) (.tmp 42) rfl rfl (g := w.heap.size + 1 + 1 + 1) (off := 8) (T := 47) (cs := #[.int .i64 (((x0 * y0 + x1 * y3 + x2 * y6) % p)), .int .i64 (((x0 * y1 + x1 * y4 + x2 * y7) % p)), .int .i64 (((x0 * y2 + x1 * y5 + x2 * y8) % p)), .int .i64 (((x3 * y0 + x4 * y3 + x5 * y6) % p)), .int .i64 (((x3 * y1 + x4 * y4 + x5 * y7) % p)), .int .i64 (((x3 * y2 + x4 * y5 + x5 * y8) % p)), .int .i64 (((x6 * y0 + x7 * y3 + x8 * y6) % p)), .int .i64 (((x6 * y1 + x7 * y4 + x8 * y7) % p)), .int .i64 0]) (cs' := #[.int .i64 (((x0 * y0 + x1 * y3 + x2 * y6) % p)), .int .i64 (((x0 * y1 + x1 * y4 + x2 * y7) % p)), .int .i64 (((x0 * y2 + x1 * y5 + x2 * y8) % p)), .int .i64 (((x3 * y0 + x4 * y3 + x5 * y6) % p)), .int .i64 (((x3 * y1 + x4 * y4 + x5 * y7) % p)), .int .i64 (((x3 * y2 + x4 * y5 + x5 * y8) % p)), .int .i64 (((x6 * y0 + x7 * y3 + x8 * y6) % p)), .int .i64 (((x6 * y1 + x7 * y4 + x8 * y7) % p)), .int .i64 (((x6 * y2 + x7 * y5 + x8 * y8) % p))]) (z := ((x6 * y2 + x7 * y5 + x8 * y8) % p)) rfl rfl ((hW.block _ lo).trans ko_35) (Nat.le_of_ble_eq_true rfl) rfl Try.sizeOf2 ?_
  refine wpList_nil ?_
  have kx_36 := (setRow_other W (w.heap.size + 1 + 1 + 1) (w.heap.size) #[.int .i64 (((x0 * y0 + x1 * y3 + x2 * y6) % p)), .int .i64 (((x0 * y1 + x1 * y4 + x2 * y7) % p)), .int .i64 (((x0 * y2 + x1 * y5 + x2 * y8) % p)), .int .i64 (((x3 * y0 + x4 * y3 + x5 * y6) % p)), .int .i64 (((x3 * y1 + x4 * y4 + x5 * y7) % p)), .int .i64 (((x3 * y2 + x4 * y5 + x5 * y8) % p)), .int .i64 (((x6 * y0 + x7 * y3 + x8 * y6) % p)), .int .i64 (((x6 * y1 + x7 * y4 + x8 * y7) % p)), .int .i64 (((x6 * y2 + x7 * y5 + x8 * y8) % p))] (by omega)).trans ((hW.block _ lx).trans kx_35)
  have ky_36 := (setRow_other W (w.heap.size + 1 + 1 + 1) (w.heap.size + 1) #[.int .i64 (((x0 * y0 + x1 * y3 + x2 * y6) % p)), .int .i64 (((x0 * y1 + x1 * y4 + x2 * y7) % p)), .int .i64 (((x0 * y2 + x1 * y5 + x2 * y8) % p)), .int .i64 (((x3 * y0 + x4 * y3 + x5 * y6) % p)), .int .i64 (((x3 * y1 + x4 * y4 + x5 * y7) % p)), .int .i64 (((x3 * y2 + x4 * y5 + x5 * y8) % p)), .int .i64 (((x6 * y0 + x7 * y3 + x8 * y6) % p)), .int .i64 (((x6 * y1 + x7 * y4 + x8 * y7) % p)), .int .i64 (((x6 * y2 + x7 * y5 + x8 * y8) % p))] (by omega)).trans ((hW.block _ ly).trans ky_35)
  have kr_36 := (setRow_other W (w.heap.size + 1 + 1 + 1) (w.heap.size + 1 + 1) #[.int .i64 (((x0 * y0 + x1 * y3 + x2 * y6) % p)), .int .i64 (((x0 * y1 + x1 * y4 + x2 * y7) % p)), .int .i64 (((x0 * y2 + x1 * y5 + x2 * y8) % p)), .int .i64 (((x3 * y0 + x4 * y3 + x5 * y6) % p)), .int .i64 (((x3 * y1 + x4 * y4 + x5 * y7) % p)), .int .i64 (((x3 * y2 + x4 * y5 + x5 * y8) % p)), .int .i64 (((x6 * y0 + x7 * y3 + x8 * y6) % p)), .int .i64 (((x6 * y1 + x7 * y4 + x8 * y7) % p)), .int .i64 (((x6 * y2 + x7 * y5 + x8 * y8) % p))] (by omega)).trans ((hW.block _ lr).trans kr_35)
  have ko_36 := setRow_heap W (w.heap.size + 1 + 1 + 1) _ #[.int .i64 (((x0 * y0 + x1 * y3 + x2 * y6) % p)), .int .i64 (((x0 * y1 + x1 * y4 + x2 * y7) % p)), .int .i64 (((x0 * y2 + x1 * y5 + x2 * y8) % p)), .int .i64 (((x3 * y0 + x4 * y3 + x5 * y6) % p)), .int .i64 (((x3 * y1 + x4 * y4 + x5 * y7) % p)), .int .i64 (((x3 * y2 + x4 * y5 + x5 * y8) % p)), .int .i64 (((x6 * y0 + x7 * y3 + x8 * y6) % p)), .int .i64 (((x6 * y1 + x7 * y4 + x8 * y7) % p)), .int .i64 (((x6 * y2 + x7 * y5 + x8 * y8) % p))] _ _ ((hW.block _ lo).trans ko_35)
  have HB_36 : Below w.heap.size w (W.setRow (w.heap.size + 1 + 1 + 1) #[.int .i64 (((x0 * y0 + x1 * y3 + x2 * y6) % p)), .int .i64 (((x0 * y1 + x1 * y4 + x2 * y7) % p)), .int .i64 (((x0 * y2 + x1 * y5 + x2 * y8) % p)), .int .i64 (((x3 * y0 + x4 * y3 + x5 * y6) % p)), .int .i64 (((x3 * y1 + x4 * y4 + x5 * y7) % p)), .int .i64 (((x3 * y2 + x4 * y5 + x5 * y8) % p)), .int .i64 (((x6 * y0 + x7 * y3 + x8 * y6) % p)), .int .i64 (((x6 * y1 + x7 * y4 + x8 * y7) % p)), .int .i64 (((x6 * y2 + x7 * y5 + x8 * y8) % p))]) := below_setRowN (low_tr' HB_35 hW (by omega)) (by omega) _
  clear kx_35 ky_35 kr_35 ko_35 HB_35 lx ly lr lo hW
  generalize W.setRow (w.heap.size + 1 + 1 + 1) #[.int .i64 (((x0 * y0 + x1 * y3 + x2 * y6) % p)), .int .i64 (((x0 * y1 + x1 * y4 + x2 * y7) % p)), .int .i64 (((x0 * y2 + x1 * y5 + x2 * y8) % p)), .int .i64 (((x3 * y0 + x4 * y3 + x5 * y6) % p)), .int .i64 (((x3 * y1 + x4 * y4 + x5 * y7) % p)), .int .i64 (((x3 * y2 + x4 * y5 + x5 * y8) % p)), .int .i64 (((x6 * y0 + x7 * y3 + x8 * y6) % p)), .int .i64 (((x6 * y1 + x7 * y4 + x8 * y7) % p)), .int .i64 (((x6 * y2 + x7 * y5 + x8 * y8) % p))] = V_36 at *
  clear V_35
  go_wp2
  rw [rounds_succ]; go_wp2
  have lr := (Array.getElem?_eq_some_iff.1 kr_36).1
  have lo := (Array.getElem?_eq_some_iff.1 ko_36).1
  rw [rounds_succ]
  go_wp2_with (first
    | (refine wpList_load_row _ rfl 47 _ rfl (g := w.heap.size + 1 + 1 + 1) (T := 47) (cs := #[.int .i64 (((x0 * y0 + x1 * y3 + x2 * y6) % p)), .int .i64 (((x0 * y1 + x1 * y4 + x2 * y7) % p)), .int .i64 (((x0 * y2 + x1 * y5 + x2 * y8) % p)), .int .i64 (((x3 * y0 + x4 * y3 + x5 * y6) % p)), .int .i64 (((x3 * y1 + x4 * y4 + x5 * y7) % p)), .int .i64 (((x3 * y2 + x4 * y5 + x5 * y8) % p)), .int .i64 (((x6 * y0 + x7 * y3 + x8 * y6) % p)), .int .i64 (((x6 * y1 + x7 * y4 + x8 * y7) % p)), .int .i64 (((x6 * y2 + x7 * y5 + x8 * y8) % p))]) (fr := (0, 0)) rfl ko_36 9 rfl Try.sizeOf47 Try.isAgg47 ?_)
    | (go_at_call 43; (with_reducible refine (HN.out _).mono ?_); rintro e w1_ ⟨rfl, hb1⟩; obtain ⟨hcb1, hfb1, hlb1⟩ := bcell hb1; have hsz1 := hb1.size; (try simp at hsz1); have HB1 := Lib.hid hb1; clear hb1)
    | (refine wpList_store_row _ rfl 47 _ _ rfl rfl (g := w.heap.size + 1 + 1) (T := 47) (cs := #[.int .i64 0, .int .i64 0, .int .i64 0, .int .i64 0, .int .i64 0, .int .i64 0, .int .i64 0, .int .i64 0, .int .i64 0]) (U := #[.int .i64 t0, .int .i64 t1, .int .i64 t2, .int .i64 t3, .int .i64 t4, .int .i64 t5, .int .i64 t6, .int .i64 t7, .int .i64 t8]) rfl rfl ((HB1.out.block _ lr).trans kr_36) rfl Try.sizeOf47 (by simp [Value.oneCell']) ?_))
  exact bodyPost_ret (v := .agg #[.int .i64 t0, .int .i64 t1, .int .i64 t2, .int .i64 t3, .int .i64 t4, .int .i64 t5, .int .i64 t6, .int .i64 t7, .int .i64 t8]) (results_row Try.results25 rfl (setRow_heap _ _ _ _ _ _ ((HB1.out.block _ lr).trans kr_36)) 9 rfl Try.sizeOf47 Try.isAgg47) rfl ⟨rfl, below_setRowN (low_tr' HB_36 HB1.out (by omega)) (by omega) _⟩
end Go.Proofs.Ytnpmdchphaenaaa
/- The Singer maps, in plain words: which code is the first. -/
namespace Go.Proofs.Ytnpmdchphaenaaa
open Go.RowKit
set_option linter.unusedVariables false
set_option linter.unusedSimpArgs false
def unitM : M9 := ((1, 0, 0), (0, 1, 0), (0, 0, 1))
def compM (p c : Int) : M9 := ((0, 1, 0), (0, 0, 1), (c % p, c / p % p, c / (p * p)))
/-- From now on: how many steps until the unit. -/
def ordF (p : Int) (m : M9) : Nat → M9 → Nat → Nat
  | 0, _, _ => 0
  | f + 1, now, k => if now = unitM then k else ordF p m f (timesM p now m) (k + 1)
def ordM (p : Int) (m : M9) : Nat := ordF p m 200 m 1
/-- The first code of a Singer map. -/
def firstC (p : Nat) : Nat := if p = 3 then 4 else if p = 5 then 7 else if p = 7 then 9 else if p = 11 then 14 else 17
end Go.Proofs.Ytnpmdchphaenaaa
/- Contracts: the orders of maps. (Printed by gens5.py, a program of this session.) -/
namespace Go.Proofs.Ytnpmdchphaenaaa
open Go.RowKit
set_option linter.unusedVariables false
set_option linter.unusedSimpArgs false
@[reducible] def cellsM9 (m : M9) : Array Value := #[.int .i64 m.1.1, .int .i64 m.1.2.1, .int .i64 m.1.2.2, .int .i64 m.2.1.1, .int .i64 m.2.1.2.1, .int .i64 m.2.1.2.2, .int .i64 m.2.2.1, .int .i64 m.2.2.2.1, .int .i64 m.2.2.2.2]
@[go_sem high] theorem neMp (w : World) (x0 x1 x2 x3 x4 x5 x6 x7 x8 y0 y1 y2 y3 y4 y5 y6 y7 y8 : Int) : (binOp .neq 47 (.agg #[.int .i64 x0, .int .i64 x1, .int .i64 x2, .int .i64 x3, .int .i64 x4, .int .i64 x5, .int .i64 x6, .int .i64 x7, .int .i64 x8]) (.agg #[.int .i64 y0, .int .i64 y1, .int .i64 y2, .int .i64 y3, .int .i64 y4, .int .i64 y5, .int .i64 y6, .int .i64 y7, .int .i64 y8])).run Try.prog w = .ok (.bool (!eqM (x0, x1, x2) (x3, x4, x5) (x6, x7, x8) (y0, y1, y2) (y3, y4, y5) (y6, y7, y8))) w := by
  rw [run_neq_struct, eqAMap]; rfl
end Go.Proofs.Ytnpmdchphaenaaa
/- Contracts: the Singer map, as the program and as the reference find it. (Printed by gens6.py, a program of this session.) -/
namespace Go.Proofs.Ytnpmdchphaenaaa
open Go.RowKit
set_option linter.unusedVariables false
set_option linter.unusedSimpArgs false
structure Codes (n : Nat) : Prop where
  pr : prB (n : Int) = true
  lt : firstC n < n * n * n
  no : ∀ c, c < firstC n → c % n = 0 ∨ (c % n ≠ 0 ∧ ordM n (compM n c) ≠ 0 ∧ ordM n (compM n c) ≠ n * n + n + 1)
  yes : firstC n % n ≠ 0 ∧ ordM n (compM n (firstC n)) = n * n + n + 1
end Go.Proofs.Ytnpmdchphaenaaa
/- Orbits of a point under a map, in plain words; that the Singer orbits close. -/
namespace Go.Proofs.Ytnpmdchphaenaaa
open Go.RowKit
set_option linter.unusedVariables false
set_option linter.unusedSimpArgs false
def dotP (a b : Pt) : Int := a.1 * b.1 + a.2.1 * b.2.1 + a.2.2 * b.2.2
def imgP (p : Int) (m : M9) (a : Pt) : Pt := nrm3 p (dotP m.1 a % p) (dotP m.2.1 a % p) (dotP m.2.2 a % p)
def orbA (p : Int) (m : M9) (a : Pt) : Nat → Pt
  | 0 => a
  | k + 1 => imgP p m (orbA p m a k)
/-- The orbit is back at its first point after k steps, and not before. -/
structure Orb (p : Int) (m : M9) (a : Pt) (k : Nat) : Prop where
  pr : prB p = true
  inm : InM m
  inp : In13 a
  pos : 0 < k ∧ k ≤ 1000
  back : orbA p m a k = a
  no : ∀ i, 0 < i → i < k → orbA p m a i ≠ a
end Go.Proofs.Ytnpmdchphaenaaa
/- Contracts: the image of a point under a map, the program's and the reference's. (Printed by gent1.py, a program of this session.) -/
namespace Go.Proofs.Ytnpmdchphaenaaa
open Go.RowKit
set_option linter.unusedVariables false
set_option linter.unusedSimpArgs false
set_option maxRecDepth 20000 in
set_option maxHeartbeats 4000000 in
theorem image_any (p : Int) (m : M9) (a : Pt) (w : World) (hp : prB p = true) (hm : InM m) (ha : In13 a) :
    Calls Try.prog 37 #[.int .i64 p, .agg (cellsM9 m), ptV a.1 a.2.1 a.2.2] w (Ret w (ptV (imgP p m a).1 (imgP p m a).2.1 (imgP p m a).2.2)) := by
  obtain ⟨i0, i1, i2, _, _, _⟩ := inM_at hm
  have hb : ∀ r : Pt, -4611686018427387904 ≤ dotP r a % p ∧ dotP r a % p ≤ 4611686018427387904 := fun r => by
    have := prB_bd hp
    have h1 := Int.emod_nonneg (dotP r a) (show p ≠ 0 by omega)
    have h2 := Int.emod_lt_of_pos (dotP r a) (show 0 < p by omega)
    omega
  have H0 : Hid (∀ W, Calls Try.prog 59 #[.int .i64 p, ptV m.1.1 m.1.2.1 m.1.2.2, ptV a.1 a.2.1 a.2.2] W (Ret W (.int .i64 (dotP m.1 a % p)))) := Lib.hid (fun W => dot_any p _ _ _ _ _ _ W hp i0 ha)
  have H1 : Hid (∀ W, Calls Try.prog 59 #[.int .i64 p, ptV m.2.1.1 m.2.1.2.1 m.2.1.2.2, ptV a.1 a.2.1 a.2.2] W (Ret W (.int .i64 (dotP m.2.1 a % p)))) := Lib.hid (fun W => dot_any p _ _ _ _ _ _ W hp i1 ha)
  have H2 : Hid (∀ W, Calls Try.prog 59 #[.int .i64 p, ptV m.2.2.1 m.2.2.2.1 m.2.2.2.2, ptV a.1 a.2.1 a.2.2] W (Ret W (.int .i64 (dotP m.2.2 a % p)))) := Lib.hid (fun W => dot_any p _ _ _ _ _ _ W hp i2 ha)
  have HO : Hid (∀ W, Calls Try.prog 58 #[.int .i64 p, .int .i64 (dotP m.1 a % p), .int .i64 (dotP m.2.1 a % p), .int .i64 (dotP m.2.2 a % p)] W (Ret W (ptV (imgP p m a).1 (imgP p m a).2.1 (imgP p m a).2.2))) := Lib.hid (fun W => pointOf_any p _ _ _ W hp (hb _) (hb _) (hb _))
  clear hb i0 i1 i2 hm ha
  generalize imgP p m a = r at *
  generalize dotP m.1 a % p = d0 at *
  generalize dotP m.2.1 a % p = d1 at *
  generalize dotP m.2.2 a % p = d2 at *
  obtain ⟨⟨x0, x1, x2⟩, ⟨x3, x4, x5⟩, ⟨x6, x7, x8⟩⟩ := m
  obtain ⟨a0, a1, a2⟩ := a
  obtain ⟨r0, r1, r2⟩ := r
  dsimp only [cellsM9] at *
  go_enter Try.func37, Try.ntmps37
  go_wp2
  have kx : (((w.alloc (.cells #[.int .i64 x0, .int .i64 x1, .int .i64 x2, .int .i64 x3, .int .i64 x4, .int .i64 x5, .int .i64 x6, .int .i64 x7, .int .i64 x8] 47)).alloc (.cells #[.int .i64 a0, .int .i64 a1, .int .i64 a2] 34)).alloc (.cells #[.int .i64 0, .int .i64 0, .int .i64 0] 34)).heap[w.heap.size]? = some (.cells #[.int .i64 x0, .int .i64 x1, .int .i64 x2, .int .i64 x3, .int .i64 x4, .int .i64 x5, .int .i64 x6, .int .i64 x7, .int .i64 x8] 47 (0, 0)) := by rw [hn_pastN _ _ _ (by first | omega | (simp; done) | (simp; omega)), hn_pastN _ _ _ (by first | omega | (simp; done) | (simp; omega)), hn_atN _ _ _ (by simp)]
  have ka : (((w.alloc (.cells #[.int .i64 x0, .int .i64 x1, .int .i64 x2, .int .i64 x3, .int .i64 x4, .int .i64 x5, .int .i64 x6, .int .i64 x7, .int .i64 x8] 47)).alloc (.cells #[.int .i64 a0, .int .i64 a1, .int .i64 a2] 34)).alloc (.cells #[.int .i64 0, .int .i64 0, .int .i64 0] 34)).heap[w.heap.size + 1]? = some (.cells #[.int .i64 a0, .int .i64 a1, .int .i64 a2] 34 (0, 0)) := by rw [hn_pastN _ _ _ (by first | omega | (simp; done) | (simp; omega)), hn_atN _ _ _ (by simp)]
  have kr : (((w.alloc (.cells #[.int .i64 x0, .int .i64 x1, .int .i64 x2, .int .i64 x3, .int .i64 x4, .int .i64 x5, .int .i64 x6, .int .i64 x7, .int .i64 x8] 47)).alloc (.cells #[.int .i64 a0, .int .i64 a1, .int .i64 a2] 34)).alloc (.cells #[.int .i64 0, .int .i64 0, .int .i64 0] 34)).heap[w.heap.size + 1 + 1]? = some (.cells #[.int .i64 0, .int .i64 0, .int .i64 0] 34 (0, 0)) := by rw [hn_atN _ _ _ (by simp)]
  have lx := (Array.getElem?_eq_some_iff.1 kx).1
  have la := (Array.getElem?_eq_some_iff.1 ka).1
  have lr := (Array.getElem?_eq_some_iff.1 kr).1
  have HB : Below w.heap.size w (((w.alloc (.cells #[.int .i64 x0, .int .i64 x1, .int .i64 x2, .int .i64 x3, .int .i64 x4, .int .i64 x5, .int .i64 x6, .int .i64 x7, .int .i64 x8] 47)).alloc (.cells #[.int .i64 a0, .int .i64 a1, .int .i64 a2] 34)).alloc (.cells #[.int .i64 0, .int .i64 0, .int .i64 0] 34)) := (by repeat (first | exact Below.refl _ _ | refine bset ?_ _ _ (by omega) _ | refine bal ?_ _ | refine bdrN ?_ _ | refine bdr ?_))
  generalize (((w.alloc (.cells #[.int .i64 x0, .int .i64 x1, .int .i64 x2, .int .i64 x3, .int .i64 x4, .int .i64 x5, .int .i64 x6, .int .i64 x7, .int .i64 x8] 47)).alloc (.cells #[.int .i64 a0, .int .i64 a1, .int .i64 a2] 34)).alloc (.cells #[.int .i64 0, .int .i64 0, .int .i64 0] 34)) = V at *
  refine region_via 17 [(7, .int .i64 p), (8, .int .i64 p), (9, .pointer (some ⟨w.heap.size, 0, none⟩)), (10, ptV x0 x1 x2), (11, ptV a0 a1 a2), (12, .int .i64 d0), (13, .int .i64 p), (14, .pointer (some ⟨w.heap.size, 3, none⟩)), (15, ptV x3 x4 x5), (16, ptV a0 a1 a2), (17, .int .i64 d1), (18, .int .i64 p), (19, .pointer (some ⟨w.heap.size, 6, none⟩)), (20, ptV x6 x7 x8), (21, ptV a0 a1 a2), (22, .int .i64 d2), (23, ptV r0 r1 r2)] (by kernel_rfl) (by decide) (by kernel_rfl) (by kernel_rfl) (by kernel_rfl) (fun aE hpe => ?_)
  simp only [puts, Act.put, List.setIfInBounds_toArray, List.set_cons_zero, List.set_cons_succ] at hpe
  subst hpe
  refine ⟨⟨.inr (.inr ?_), .inr (.inr ?_), .inr (.inr ?_), .inr (.inr ?_), .inr (.inr ?_), .inr (.inr ?_), .inr (.inr ?_), .inr (.inr ?_), .inr (.inr ?_), .inr (.inr ?_), .inr (.inr ?_), .inr (.inr ?_), .inr (.inr ?_), .inr (.inr ?_), .inr (.inr ?_), .inr (.inr ?_), .inr (.inr ?_), trivial⟩, ?_⟩
  · exact CalmG.mk 7 (.int .i64 p) rfl rfl rfl (fun W hW => calm_move (.tmp 0) rfl rfl)
  · exact CalmG.mk 8 (.int .i64 p) rfl rfl rfl (fun W hW => calm_move (.tmp 0) rfl rfl)
  · exact CalmG.mk 9 (.pointer (some ⟨w.heap.size, 0, none⟩)) rfl rfl rfl (fun W hW => calm_run (by simp [execOp, Act.eval, go_sem]))
  · exact CalmG.mk 10 (ptV x0 x1 x2) rfl rfl rfl (fun W hW => calm_loadPt' 33 (.tmp 9) rfl rfl (row_int ((hW.block _ lx).trans kx) rfl) (row_int ((hW.block _ lx).trans kx) rfl) (row_int ((hW.block _ lx).trans kx) rfl) Try.sizeOf33 Try.isAgg33)
  · exact CalmG.mk 11 (ptV a0 a1 a2) rfl rfl rfl (fun W hW => calm_loadPt' 34 (.tmp 5) rfl rfl (row_int ((hW.block _ la).trans ka) rfl) (row_int ((hW.block _ la).trans ka) rfl) (row_int ((hW.block _ la).trans ka) rfl) Try.sizeOf34 Try.isAgg34)
  · exact CalmG.mk 12 (.int .i64 d0) rfl rfl rfl (fun W hW => calm_call 59 _ #[.int .i64 p, ptV x0 x1 x2, ptV a0 a1 a2] rfl rfl rfl (by simp [Act.eval]) (Try.call59 _ _) (H0.out W))
  · exact CalmG.mk 13 (.int .i64 p) rfl rfl rfl (fun W hW => calm_move (.tmp 0) rfl rfl)
  · exact CalmG.mk 14 (.pointer (some ⟨w.heap.size, 3, none⟩)) rfl rfl rfl (fun W hW => calm_run (by simp [execOp, Act.eval, go_sem]))
  · exact CalmG.mk 15 (ptV x3 x4 x5) rfl rfl rfl (fun W hW => calm_loadPt' 33 (.tmp 14) rfl rfl (row_int ((hW.block _ lx).trans kx) rfl) (row_int ((hW.block _ lx).trans kx) rfl) (row_int ((hW.block _ lx).trans kx) rfl) Try.sizeOf33 Try.isAgg33)
  · exact CalmG.mk 16 (ptV a0 a1 a2) rfl rfl rfl (fun W hW => calm_loadPt' 34 (.tmp 5) rfl rfl (row_int ((hW.block _ la).trans ka) rfl) (row_int ((hW.block _ la).trans ka) rfl) (row_int ((hW.block _ la).trans ka) rfl) Try.sizeOf34 Try.isAgg34)
  · exact CalmG.mk 17 (.int .i64 d1) rfl rfl rfl (fun W hW => calm_call 59 _ #[.int .i64 p, ptV x3 x4 x5, ptV a0 a1 a2] rfl rfl rfl (by simp [Act.eval]) (Try.call59 _ _) (H1.out W))
  · exact CalmG.mk 18 (.int .i64 p) rfl rfl rfl (fun W hW => calm_move (.tmp 0) rfl rfl)
  · exact CalmG.mk 19 (.pointer (some ⟨w.heap.size, 6, none⟩)) rfl rfl rfl (fun W hW => calm_run (by simp [execOp, Act.eval, go_sem]))
  · exact CalmG.mk 20 (ptV x6 x7 x8) rfl rfl rfl (fun W hW => calm_loadPt' 33 (.tmp 19) rfl rfl (row_int ((hW.block _ lx).trans kx) rfl) (row_int ((hW.block _ lx).trans kx) rfl) (row_int ((hW.block _ lx).trans kx) rfl) Try.sizeOf33 Try.isAgg33)
  · exact CalmG.mk 21 (ptV a0 a1 a2) rfl rfl rfl (fun W hW => calm_loadPt' 34 (.tmp 5) rfl rfl (row_int ((hW.block _ la).trans ka) rfl) (row_int ((hW.block _ la).trans ka) rfl) (row_int ((hW.block _ la).trans ka) rfl) Try.sizeOf34 Try.isAgg34)
  · exact CalmG.mk 22 (.int .i64 d2) rfl rfl rfl (fun W hW => calm_call 59 _ #[.int .i64 p, ptV x6 x7 x8, ptV a0 a1 a2] rfl rfl rfl (by simp [Act.eval]) (Try.call59 _ _) (H2.out W))
  · exact CalmG.mk 23 (ptV r0 r1 r2) rfl rfl rfl (fun W hW => calm_call 58 _ #[.int .i64 p, .int .i64 d0, .int .i64 d1, .int .i64 d2] rfl rfl rfl (by simp [Act.eval]) (Try.call58 _ _) (HO.out W))
  intro W hW
  simp only [List.drop_succ_cons, List.drop_zero]
  refine wpList_store_row _ rfl 34 _ _ rfl rfl (g := w.heap.size + 1 + 1) (T := 34) (cs := #[.int .i64 0, .int .i64 0, .int .i64 0]) (U := #[.int .i64 r0, .int .i64 r1, .int .i64 r2]) rfl rfl ((hW.block _ lr).trans kr) rfl Try.sizeOf34 (by simp [Value.oneCell']) ?_
  refine wpList_nil ?_
  go_wp2
  exact bodyPost_ret (v := ptV r0 r1 r2) (results_row Try.results37 rfl (setRow_heap _ _ #[.int .i64 0, .int .i64 0, .int .i64 0] _ _ _ ((hW.block _ lr).trans kr)) 3 rfl Try.sizeOf34 Try.isAgg34) rfl ⟨rfl, below_setRowN (low_tr' HB hW (by omega)) (by omega) _⟩
end Go.Proofs.Ytnpmdchphaenaaa
/- Contracts: the image of a point under a map, as the reference makes it. (Printed by gent2.py, a program of this session.) -/
namespace Go.Proofs.Ytnpmdchphaenaaa
open Go.RowKit
set_option linter.unusedVariables false
set_option linter.unusedSimpArgs false
theorem src1 {W : World} {g o : Nat} {x : Int} (d0 : W.cell? ⟨g, o, none⟩ = some (.int .i64 x)) :
    ∀ (j : Nat) (u : Value), [Value.int .i64 x][j]? = some u → W.cell? ((⟨g, o, none⟩ : Addr).add j) = some u := by
  intro j u hj
  have hadd : (⟨g, o, none⟩ : Addr).add j = ⟨g, o + j, none⟩ := by unfold Addr.add; split <;> simp_all
  rw [hadd]
  match j, hj with
  | 0, hj => simpa using d0.trans (by simpa using hj)
  | j + 1, hj => simp at hj
theorem oneA (x : Int) : ∀ u ∈ [Value.int .i64 x], u.oneCell' = true := by
  intro u hu
  rw [List.mem_singleton.1 hu]; rfl
set_option maxRecDepth 20000 in
set_option maxHeartbeats 8000000 in
theorem l02Image_any (p : Int) (m : M9) (a : Pt) (w : World) (hp : prB p = true) (hm : InM m) (ha : In13 a) :
    Calls Try.prog 40 #[.int .i64 p, .agg (cellsM9 m), ptV a.1 a.2.1 a.2.2] w (Ret w (ptV (imgP p m a).1 (imgP p m a).2.1 (imgP p m a).2.2)) := by
  obtain ⟨i0, hi, hz0, hz1, hz2⟩ := info_parts info64
  have HI0 := Lib.hid hi; have HZ0 := Lib.hid hz0; have HZ1 := Lib.hid hz1; have HZ2 := Lib.hid hz2
  have hpb := prB_bd hp
  have hb : ∀ r : Pt, -4611686018427387904 ≤ dotP r a % p ∧ dotP r a % p ≤ 4611686018427387904 := fun r => by
    have h1 := Int.emod_nonneg (dotP r a) (show p ≠ 0 by omega)
    have h2 := Int.emod_lt_of_pos (dotP r a) (show 0 < p by omega)
    omega
  have HNo : Hid (∀ (W : World) (g cap : Nat), (∀ i, i < 3 → W.cell? ⟨g, 0 + i, none⟩ = some (.int .i64 ([dotP m.1 a % p, dotP m.2.1 a % p, dotP m.2.2 a % p].getD i 0))) → Calls Try.prog 62 #[.int .i64 p, .slice (some ⟨g, 0, none⟩) 3 cap] W (NormPost W p [dotP m.1 a % p, dotP m.2.1 a % p, dotP m.2.2 a % p] 3)) :=
    Lib.hid (fun W g cap hc => l01Norm_any p g 0 3 cap [dotP m.1 a % p, dotP m.2.1 a % p, dotP m.2.2 a % p] W hp rfl (by omega) hc (fun i hi => by
      rcases (show i = 0 ∨ i = 1 ∨ i = 2 by omega) with rfl | rfl | rfl
      · exact hb _
      · exact hb _
      · exact hb _))
  have HNl : Hid (normL p [dotP m.1 a % p, dotP m.2.1 a % p, dotP m.2.2 a % p] = [(imgP p m a).1, (imgP p m a).2.1, (imgP p m a).2.2]) := Lib.hid rfl
  generalize imgP p m a = r at *
  obtain ⟨⟨x0, x1, x2⟩, ⟨x3, x4, x5⟩, ⟨x6, x7, x8⟩⟩ := m
  obtain ⟨a0, a1, a2⟩ := a
  obtain ⟨r0, r1, r2⟩ := r
  dsimp only [cellsM9, dotP] at *
  have bx0 : In12 x0 := hm _ (by simp [listM])
  have bx1 : In12 x1 := hm _ (by simp [listM])
  have bx2 : In12 x2 := hm _ (by simp [listM])
  have bx3 : In12 x3 := hm _ (by simp [listM])
  have bx4 : In12 x4 := hm _ (by simp [listM])
  have bx5 : In12 x5 := hm _ (by simp [listM])
  have bx6 : In12 x6 := hm _ (by simp [listM])
  have bx7 : In12 x7 := hm _ (by simp [listM])
  have bx8 : In12 x8 := hm _ (by simp [listM])
  obtain ⟨ba0, ba1, ba2⟩ := ha
  replace ba0 : In12 a0 := ba0
  replace ba1 : In12 a1 := ba1
  replace ba2 : In12 a2 := ba2
  have w0_0 := wmul bx0 ba0
  have w0_1 := wmul bx1 ba1
  have w0_2 := wmul bx2 ba2
  have w0_3 := wadd2 bx0 ba0 bx1 ba1
  have w0_4 := wadd3 bx0 ba0 bx1 ba1 bx2 ba2
  have e0 : Int.tmod (x0 * a0 + x1 * a1 + x2 * a2) p = (x0 * a0 + x1 * a1 + x2 * a2) % p := Int.tmod_eq_emod_of_nonneg (dot12 bx0 ba0 bx1 ba1 bx2 ba2)
  have v0 : IntKind.wrap .i64 ((x0 * a0 + x1 * a1 + x2 * a2) % p) = (x0 * a0 + x1 * a1 + x2 * a2) % p := wrap_small (modb hpb)
  have w_0 := Lib.hid (And.intro w0_0 (And.intro w0_1 (And.intro w0_2 (And.intro w0_3 (And.intro w0_4 (And.intro e0 v0))))))
  clear w0_0 w0_1 w0_2 w0_3 w0_4 e0 v0
  have w1_0 := wmul bx3 ba0
  have w1_1 := wmul bx4 ba1
  have w1_2 := wmul bx5 ba2
  have w1_3 := wadd2 bx3 ba0 bx4 ba1
  have w1_4 := wadd3 bx3 ba0 bx4 ba1 bx5 ba2
  have e1 : Int.tmod (x3 * a0 + x4 * a1 + x5 * a2) p = (x3 * a0 + x4 * a1 + x5 * a2) % p := Int.tmod_eq_emod_of_nonneg (dot12 bx3 ba0 bx4 ba1 bx5 ba2)
  have v1 : IntKind.wrap .i64 ((x3 * a0 + x4 * a1 + x5 * a2) % p) = (x3 * a0 + x4 * a1 + x5 * a2) % p := wrap_small (modb hpb)
  have w_1 := Lib.hid (And.intro w1_0 (And.intro w1_1 (And.intro w1_2 (And.intro w1_3 (And.intro w1_4 (And.intro e1 v1))))))
  clear w1_0 w1_1 w1_2 w1_3 w1_4 e1 v1
  have w2_0 := wmul bx6 ba0
  have w2_1 := wmul bx7 ba1
  have w2_2 := wmul bx8 ba2
  have w2_3 := wadd2 bx6 ba0 bx7 ba1
  have w2_4 := wadd3 bx6 ba0 bx7 ba1 bx8 ba2
  have e2 : Int.tmod (x6 * a0 + x7 * a1 + x8 * a2) p = (x6 * a0 + x7 * a1 + x8 * a2) % p := Int.tmod_eq_emod_of_nonneg (dot12 bx6 ba0 bx7 ba1 bx8 ba2)
  have v2 : IntKind.wrap .i64 ((x6 * a0 + x7 * a1 + x8 * a2) % p) = (x6 * a0 + x7 * a1 + x8 * a2) % p := wrap_small (modb hpb)
  have w_2 := Lib.hid (And.intro w2_0 (And.intro w2_1 (And.intro w2_2 (And.intro w2_3 (And.intro w2_4 (And.intro e2 v2))))))
  clear w2_0 w2_1 w2_2 w2_3 w2_4 e2 v2
  have hpn : ¬ p = 0 := by omega
  clear hi hz0 hz1 hz2 hp hm hb hpb bx0 bx1 bx2 bx3 bx4 bx5 bx6 bx7 bx8 ba0 ba1 ba2
  go_enter Try.func40, Try.ntmps40
  go_wp2
  go_loopw [7, 8] (fun v i wr => ∃ k : Nat, k ≤ 3 ∧ i = .int .i64 k ∧ Hid (wr.ownsRow (w.heap.size + 1 + 1 + 1) 2 1 v k (ints ([(x0 * a0 + x1 * a1 + x2 * a2) % p, (x3 * a0 + x4 * a1 + x5 * a2) % p, (x6 * a0 + x7 * a1 + x8 * a2) % p].take k))) ∧ wr.heap[w.heap.size]? = some (.cells #[.int .i64 x0, .int .i64 x1, .int .i64 x2, .int .i64 x3, .int .i64 x4, .int .i64 x5, .int .i64 x6, .int .i64 x7, .int .i64 x8] 47 (0, 0)) ∧ wr.heap[w.heap.size + 1]? = some (.cells #[.int .i64 a0, .int .i64 a1, .int .i64 a2] 34 (0, 0)) ∧ wr.heap[w.heap.size + 1 + 1]? = some (.cells #[.int .i64 0, .int .i64 0, .int .i64 0] 34 (0, 0)) ∧ Hid (Below w.heap.size w wr)) (fun _ i wr => 3 - (intOf i).toNat)
  case atStart =>
    refine ⟨0, by omega, rfl, Lib.hid ?_, ?_, ?_, ?_, Lib.hid (by repeat (first | exact Below.refl _ _ | refine bset ?_ _ _ (by omega) _ | refine bal ?_ _ | refine bdrN ?_ _ | refine bdr ?_))⟩
    · exact ⟨rfl, .inr ⟨(w.heap.size + 1 + 1 + 1), 0, #[], rfl, Nat.le_refl _, by rw [hn_atN _ _ _ (by simp)], Nat.le_refl _, by unfold maxLen; omega, rfl, rfl⟩⟩
    · rw [hn_pastN _ _ _ (by first | omega | (simp; done) | (simp; omega)), hn_pastN _ _ _ (by first | omega | (simp; done) | (simp; omega)), hn_pastN _ _ _ (by first | omega | (simp; done) | (simp; omega)), hn_atN _ _ _ (by simp)]
    · rw [hn_pastN _ _ _ (by first | omega | (simp; done) | (simp; omega)), hn_pastN _ _ _ (by first | omega | (simp; done) | (simp; omega)), hn_atN _ _ _ (by simp)]
    · rw [hn_pastN _ _ _ (by first | omega | (simp; done) | (simp; omega)), hn_atN _ _ _ (by simp)]
  case round =>
    obtain ⟨k, hk, rfl, HO, kx, ka, kr, HB⟩ := hrel
    rcases (show k = 0 ∨ k = 1 ∨ k = 2 ∨ k = 3 by omega) with rfl | rfl | rfl | rfl
    · clear hk
      have lx := (Array.getElem?_eq_some_iff.1 kx).1
      have la := (Array.getElem?_eq_some_iff.1 ka).1
      have lr := (Array.getElem?_eq_some_iff.1 kr).1
      obtain ⟨m0, m1, m2, m3, m4, m5, m6⟩ := w_0.out
      go_wp2
      refine region_boxvia 27 26 42 (fun g => .slice (some ⟨g, 0, none⟩) 1 1) #[.int .i64 ((x0 * a0 + x1 * a1 + x2 * a2) % p)] 2 [(16, u7), (17, .int .i64 0), (18, .pointer (some ⟨w.heap.size, 0, none⟩)), (19, .pointer (some ⟨w.heap.size, 0, none⟩)), (20, .int .i64 x0), (21, .pointer (some ⟨w.heap.size + 1, 0, none⟩)), (22, .int .i64 a0), (23, .int .i64 (x0 * a0)), (24, .int .i64 0), (25, .pointer (some ⟨w.heap.size, 0, none⟩)), (26, .pointer (some ⟨w.heap.size, 1, none⟩)), (27, .int .i64 x1), (28, .pointer (some ⟨w.heap.size + 1, 1, none⟩)), (29, .int .i64 a1), (30, .int .i64 (x1 * a1)), (31, .int .i64 (x0 * a0 + x1 * a1)), (32, .int .i64 0), (33, .pointer (some ⟨w.heap.size, 0, none⟩)), (34, .pointer (some ⟨w.heap.size, 2, none⟩)), (35, .int .i64 x2), (36, .pointer (some ⟨w.heap.size + 1, 2, none⟩)), (37, .int .i64 a2), (38, .int .i64 (x2 * a2)), (39, .int .i64 (x0 * a0 + x1 * a1 + x2 * a2)), (40, .int .i64 p), (41, .int .i64 ((x0 * a0 + x1 * a1 + x2 * a2) % p))] (by kernel_rfl) (by decide) rfl (by kernel_rfl) (by kernel_rfl) (by kernel_rfl) (by decide) (by simp) (by kernel_rfl) (fun aE hpe => ?_)
      simp only [puts, Act.put, List.setIfInBounds_toArray, List.set_cons_zero, List.set_cons_succ] at hpe
      subst hpe
      refine ⟨?_, ⟨.inr (.inr ?_), .inr (.inr ?_), .inr (.inr ?_), .inr (.inr ?_), .inr (.inr ?_), .inr (.inr ?_), .inr (.inr ?_), .inr (.inr ?_), .inr (.inr ?_), .inr (.inr ?_), .inr (.inr ?_), .inr (.inr ?_), .inr (.inr ?_), .inr (.inr ?_), .inr (.inr ?_), .inr (.inr ?_), .inr (.inr ?_), .inr (.inr ?_), .inr (.inr ?_), .inr (.inr ?_), .inr (.inr ?_), .inr (.inr ?_), .inr (.inr ?_), .inr (.inr ?_), .inr (.inr ?_), .inr (.inr ?_), .inl rfl, trivial⟩, ?_⟩
      · intro ρ W hr
        have r0 : ρ (.tmp 41) = .int .i64 ((x0 * a0 + x1 * a1 + x2 * a2) % p) := hr 41 (by simp [readsOf, Op.operands])
        simp [execOp, go_sem, r0]
      · exact CalmG.mk 16 (u7) rfl rfl rfl (fun W hW => calm_move (.tmp 7) rfl rfl)
      · exact CalmG.mk 17 (.int .i64 0) rfl rfl rfl (fun W hW => calm_move (.tmp 8) rfl rfl)
      · exact CalmG.mk 18 (.pointer (some ⟨w.heap.size, 0, none⟩)) rfl rfl rfl (fun W hW => calm_run (by simp [execOp, Act.eval, go_sem]))
      · exact CalmG.mk 19 (.pointer (some ⟨w.heap.size, 0, none⟩)) rfl rfl rfl (fun W hW => calm_run (by simp [execOp, Act.eval, go_sem]))
      · exact CalmG.mk 20 (.int .i64 x0) rfl rfl rfl (fun W hW => calm_run (by have hc := row_int (off := 0) (z := x0) ((hW.block _ lx).trans kx) rfl; simp [execOp, Act.eval, go_sem, hc]))
      · exact CalmG.mk 21 (.pointer (some ⟨w.heap.size + 1, 0, none⟩)) rfl rfl rfl (fun W hW => calm_run (by simp [execOp, Act.eval, go_sem]))
      · exact CalmG.mk 22 (.int .i64 a0) rfl rfl rfl (fun W hW => calm_run (by have hc := row_int (off := 0) (z := a0) ((hW.block _ la).trans ka) rfl; simp [execOp, Act.eval, go_sem, hc]))
      · exact CalmG.mk 23 (.int .i64 (x0 * a0)) rfl rfl rfl (fun W hW => calm_run (by simp [execOp, Act.eval, go_sem, m0]))
      · exact CalmG.mk 24 (.int .i64 0) rfl rfl rfl (fun W hW => calm_move (.tmp 8) rfl rfl)
      · exact CalmG.mk 25 (.pointer (some ⟨w.heap.size, 0, none⟩)) rfl rfl rfl (fun W hW => calm_run (by simp [execOp, Act.eval, go_sem]))
      · exact CalmG.mk 26 (.pointer (some ⟨w.heap.size, 1, none⟩)) rfl rfl rfl (fun W hW => calm_run (by simp [execOp, Act.eval, go_sem]))
      · exact CalmG.mk 27 (.int .i64 x1) rfl rfl rfl (fun W hW => calm_run (by have hc := row_int (off := 1) (z := x1) ((hW.block _ lx).trans kx) rfl; simp [execOp, Act.eval, go_sem, hc]))
      · exact CalmG.mk 28 (.pointer (some ⟨w.heap.size + 1, 1, none⟩)) rfl rfl rfl (fun W hW => calm_run (by simp [execOp, Act.eval, go_sem]))
      · exact CalmG.mk 29 (.int .i64 a1) rfl rfl rfl (fun W hW => calm_run (by have hc := row_int (off := 1) (z := a1) ((hW.block _ la).trans ka) rfl; simp [execOp, Act.eval, go_sem, hc]))
      · exact CalmG.mk 30 (.int .i64 (x1 * a1)) rfl rfl rfl (fun W hW => calm_run (by simp [execOp, Act.eval, go_sem, m1]))
      · exact CalmG.mk 31 (.int .i64 (x0 * a0 + x1 * a1)) rfl rfl rfl (fun W hW => calm_run (by simp [execOp, Act.eval, go_sem, m3]))
      · exact CalmG.mk 32 (.int .i64 0) rfl rfl rfl (fun W hW => calm_move (.tmp 8) rfl rfl)
      · exact CalmG.mk 33 (.pointer (some ⟨w.heap.size, 0, none⟩)) rfl rfl rfl (fun W hW => calm_run (by simp [execOp, Act.eval, go_sem]))
      · exact CalmG.mk 34 (.pointer (some ⟨w.heap.size, 2, none⟩)) rfl rfl rfl (fun W hW => calm_run (by simp [execOp, Act.eval, go_sem]))
      · exact CalmG.mk 35 (.int .i64 x2) rfl rfl rfl (fun W hW => calm_run (by have hc := row_int (off := 2) (z := x2) ((hW.block _ lx).trans kx) rfl; simp [execOp, Act.eval, go_sem, hc]))
      · exact CalmG.mk 36 (.pointer (some ⟨w.heap.size + 1, 2, none⟩)) rfl rfl rfl (fun W hW => calm_run (by simp [execOp, Act.eval, go_sem]))
      · exact CalmG.mk 37 (.int .i64 a2) rfl rfl rfl (fun W hW => calm_run (by have hc := row_int (off := 2) (z := a2) ((hW.block _ la).trans ka) rfl; simp [execOp, Act.eval, go_sem, hc]))
      · exact CalmG.mk 38 (.int .i64 (x2 * a2)) rfl rfl rfl (fun W hW => calm_run (by simp [execOp, Act.eval, go_sem, m2]))
      · exact CalmG.mk 39 (.int .i64 (x0 * a0 + x1 * a1 + x2 * a2)) rfl rfl rfl (fun W hW => calm_run (by simp [execOp, Act.eval, go_sem, m4]))
      · exact CalmG.mk 40 (.int .i64 p) rfl rfl rfl (fun W hW => calm_move (.tmp 0) rfl rfl)
      · exact CalmG.mk 41 (.int .i64 ((x0 * a0 + x1 * a1 + x2 * a2) % p)) rfl rfl rfl (fun W hW => calm_run (by simp [execOp, Act.eval, go_sem, hpn, m5, m6]))
      intro g W hW hg hgc
      simp only [List.drop_succ_cons, List.drop_zero, Act.put, List.setIfInBounds_toArray, List.set_cons_zero, List.set_cons_succ]
      have Jx := Lib.hid ((hW.block _ lx).trans kx)
      have Ja := Lib.hid ((hW.block _ la).trans ka)
      have Jr := Lib.hid ((hW.block _ lr).trans kr)
      have HO2 := Lib.hid (own_below HO.out hW)
      have HB2 := Lib.hid (low_tr' HB.out hW HB.out.size)
      have HS := Lib.hid (show [(x0 * a0 + x1 * a1 + x2 * a2) % p, (x3 * a0 + x4 * a1 + x5 * a2) % p, (x6 * a0 + x7 * a1 + x8 * a2) % p].take 0 ++ [(x0 * a0 + x1 * a1 + x2 * a2) % p] = [(x0 * a0 + x1 * a1 + x2 * a2) % p, (x3 * a0 + x4 * a1 + x5 * a2) % p, (x6 * a0 + x7 * a1 + x8 * a2) % p].take (0 + 1) from rfl)
      have d0 : W.cell? ⟨g, 0, none⟩ = some (.int .i64 ((x0 * a0 + x1 * a1 + x2 * a2) % p)) := by rw [cell_of_row W _ 0 _ _ _ hgc]; rfl
      have HD := Lib.hid (src1 d0)
      have hsz : w.heap.size + 1 + 1 + 1 ≤ W.heap.size := by have := (Array.getElem?_eq_some_iff.1 Jr.out).1; omega
      clear kx ka kr HO HB hW hgc d0 lx la lr m0 m1 m2 m3 m4 m5 m6
      go_wp2_with (at_builtin; refine wpList_append_own _ rfl _ _ 81 rfl (w.heap.size + 1 + 1 + 1) 2 i0 (.int .i64 0) 1 8 Try.underlying81 HI0.out HZ0.out HZ1.out HZ2.out rfl (by decide) _ _ _ rfl HO2.out ⟨g, 0, none⟩ 1 1 [.int .i64 ((x0 * a0 + x1 * a1 + x2 * a2) % p)] rfl rfl HD.out (oneA _) (by unfold maxLen; omega) (by omega) hsz ?_; intro v2 w2 hown hgrow _; have HO3 := Lib.hid hown; have HG := Lib.hid hgrow; clear hown hgrow)
      have hb := own_base' HO2.out
      have ne : ∀ a, a < w.heap.size + 1 + 1 + 1 → some a ≠ u7.ownBlock := fun a ha e => by have := hb a e.symm; omega
      go_roundw
      case rel => exact ⟨1, by omega, rfl, Lib.hid (by rw [← HS.out, ints_app]; exact HO3.out), by rw [HG.out.block _ (Array.getElem?_eq_some_iff.1 Jx.out).1 (ne _ (by omega))]; exact Jx.out, by rw [HG.out.block _ (Array.getElem?_eq_some_iff.1 Ja.out).1 (ne _ (by omega))]; exact Ja.out, by rw [HG.out.block _ (Array.getElem?_eq_some_iff.1 Jr.out).1 (ne _ (by omega))]; exact Jr.out, Lib.hid (HB2.out.grown HG.out HB2.out.size (fun k' hk' => by have := hb k' hk'; omega))⟩
      case measure => simp [intOf]
    · clear hk
      have lx := (Array.getElem?_eq_some_iff.1 kx).1
      have la := (Array.getElem?_eq_some_iff.1 ka).1
      have lr := (Array.getElem?_eq_some_iff.1 kr).1
      obtain ⟨m0, m1, m2, m3, m4, m5, m6⟩ := w_1.out
      go_wp2
      refine region_boxvia 27 26 42 (fun g => .slice (some ⟨g, 0, none⟩) 1 1) #[.int .i64 ((x3 * a0 + x4 * a1 + x5 * a2) % p)] 2 [(16, u7), (17, .int .i64 1), (18, .pointer (some ⟨w.heap.size, 3, none⟩)), (19, .pointer (some ⟨w.heap.size, 3, none⟩)), (20, .int .i64 x3), (21, .pointer (some ⟨w.heap.size + 1, 0, none⟩)), (22, .int .i64 a0), (23, .int .i64 (x3 * a0)), (24, .int .i64 1), (25, .pointer (some ⟨w.heap.size, 3, none⟩)), (26, .pointer (some ⟨w.heap.size, 4, none⟩)), (27, .int .i64 x4), (28, .pointer (some ⟨w.heap.size + 1, 1, none⟩)), (29, .int .i64 a1), (30, .int .i64 (x4 * a1)), (31, .int .i64 (x3 * a0 + x4 * a1)), (32, .int .i64 1), (33, .pointer (some ⟨w.heap.size, 3, none⟩)), (34, .pointer (some ⟨w.heap.size, 5, none⟩)), (35, .int .i64 x5), (36, .pointer (some ⟨w.heap.size + 1, 2, none⟩)), (37, .int .i64 a2), (38, .int .i64 (x5 * a2)), (39, .int .i64 (x3 * a0 + x4 * a1 + x5 * a2)), (40, .int .i64 p), (41, .int .i64 ((x3 * a0 + x4 * a1 + x5 * a2) % p))] (by kernel_rfl) (by decide) rfl (by kernel_rfl) (by kernel_rfl) (by kernel_rfl) (by decide) (by simp) (by kernel_rfl) (fun aE hpe => ?_)
      simp only [puts, Act.put, List.setIfInBounds_toArray, List.set_cons_zero, List.set_cons_succ] at hpe
      subst hpe
      refine ⟨?_, ⟨.inr (.inr ?_), .inr (.inr ?_), .inr (.inr ?_), .inr (.inr ?_), .inr (.inr ?_), .inr (.inr ?_), .inr (.inr ?_), .inr (.inr ?_), .inr (.inr ?_), .inr (.inr ?_), .inr (.inr ?_), .inr (.inr ?_), .inr (.inr ?_), .inr (.inr ?_), .inr (.inr ?_), .inr (.inr ?_), .inr (.inr ?_), .inr (.inr ?_), .inr (.inr ?_), .inr (.inr ?_), .inr (.inr ?_), .inr (.inr ?_), .inr (.inr ?_), .inr (.inr ?_), .inr (.inr ?_), .inr (.inr ?_), .inl rfl, trivial⟩, ?_⟩
      · intro ρ W hr
        have r0 : ρ (.tmp 41) = .int .i64 ((x3 * a0 + x4 * a1 + x5 * a2) % p) := hr 41 (by simp [readsOf, Op.operands])
        simp [execOp, go_sem, r0]
      · exact CalmG.mk 16 (u7) rfl rfl rfl (fun W hW => calm_move (.tmp 7) rfl rfl)
      · exact CalmG.mk 17 (.int .i64 1) rfl rfl rfl (fun W hW => calm_move (.tmp 8) rfl rfl)
      · exact CalmG.mk 18 (.pointer (some ⟨w.heap.size, 3, none⟩)) rfl rfl rfl (fun W hW => calm_run (by simp [execOp, Act.eval, go_sem]))
      · exact CalmG.mk 19 (.pointer (some ⟨w.heap.size, 3, none⟩)) rfl rfl rfl (fun W hW => calm_run (by simp [execOp, Act.eval, go_sem]))
      · exact CalmG.mk 20 (.int .i64 x3) rfl rfl rfl (fun W hW => calm_run (by have hc := row_int (off := 3) (z := x3) ((hW.block _ lx).trans kx) rfl; simp [execOp, Act.eval, go_sem, hc]))
      · exact CalmG.mk 21 (.pointer (some ⟨w.heap.size + 1, 0, none⟩)) rfl rfl rfl (fun W hW => calm_run (by simp [execOp, Act.eval, go_sem]))
      · exact CalmG.mk 22 (.int .i64 a0) rfl rfl rfl (fun W hW => calm_run (by have hc := row_int (off := 0) (z := a0) ((hW.block _ la).trans ka) rfl; simp [execOp, Act.eval, go_sem, hc]))
      · exact CalmG.mk 23 (.int .i64 (x3 * a0)) rfl rfl rfl (fun W hW => calm_run (by simp [execOp, Act.eval, go_sem, m0]))
      · exact CalmG.mk 24 (.int .i64 1) rfl rfl rfl (fun W hW => calm_move (.tmp 8) rfl rfl)
      · exact CalmG.mk 25 (.pointer (some ⟨w.heap.size, 3, none⟩)) rfl rfl rfl (fun W hW => calm_run (by simp [execOp, Act.eval, go_sem]))
      · exact CalmG.mk 26 (.pointer (some ⟨w.heap.size, 4, none⟩)) rfl rfl rfl (fun W hW => calm_run (by simp [execOp, Act.eval, go_sem]))
      · exact CalmG.mk 27 (.int .i64 x4) rfl rfl rfl (fun W hW => calm_run (by have hc := row_int (off := 4) (z := x4) ((hW.block _ lx).trans kx) rfl; simp [execOp, Act.eval, go_sem, hc]))
      · exact CalmG.mk 28 (.pointer (some ⟨w.heap.size + 1, 1, none⟩)) rfl rfl rfl (fun W hW => calm_run (by simp [execOp, Act.eval, go_sem]))
      · exact CalmG.mk 29 (.int .i64 a1) rfl rfl rfl (fun W hW => calm_run (by have hc := row_int (off := 1) (z := a1) ((hW.block _ la).trans ka) rfl; simp [execOp, Act.eval, go_sem, hc]))
      · exact CalmG.mk 30 (.int .i64 (x4 * a1)) rfl rfl rfl (fun W hW => calm_run (by simp [execOp, Act.eval, go_sem, m1]))
      · exact CalmG.mk 31 (.int .i64 (x3 * a0 + x4 * a1)) rfl rfl rfl (fun W hW => calm_run (by simp [execOp, Act.eval, go_sem, m3]))
      · exact CalmG.mk 32 (.int .i64 1) rfl rfl rfl (fun W hW => calm_move (.tmp 8) rfl rfl)
      · exact CalmG.mk 33 (.pointer (some ⟨w.heap.size, 3, none⟩)) rfl rfl rfl (fun W hW => calm_run (by simp [execOp, Act.eval, go_sem]))
      · exact CalmG.mk 34 (.pointer (some ⟨w.heap.size, 5, none⟩)) rfl rfl rfl (fun W hW => calm_run (by simp [execOp, Act.eval, go_sem]))
      · exact CalmG.mk 35 (.int .i64 x5) rfl rfl rfl (fun W hW => calm_run (by have hc := row_int (off := 5) (z := x5) ((hW.block _ lx).trans kx) rfl; simp [execOp, Act.eval, go_sem, hc]))
      · exact CalmG.mk 36 (.pointer (some ⟨w.heap.size + 1, 2, none⟩)) rfl rfl rfl (fun W hW => calm_run (by simp [execOp, Act.eval, go_sem]))
      · exact CalmG.mk 37 (.int .i64 a2) rfl rfl rfl (fun W hW => calm_run (by have hc := row_int (off := 2) (z := a2) ((hW.block _ la).trans ka) rfl; simp [execOp, Act.eval, go_sem, hc]))
      · exact CalmG.mk 38 (.int .i64 (x5 * a2)) rfl rfl rfl (fun W hW => calm_run (by simp [execOp, Act.eval, go_sem, m2]))
      · exact CalmG.mk 39 (.int .i64 (x3 * a0 + x4 * a1 + x5 * a2)) rfl rfl rfl (fun W hW => calm_run (by simp [execOp, Act.eval, go_sem, m4]))
      · exact CalmG.mk 40 (.int .i64 p) rfl rfl rfl (fun W hW => calm_move (.tmp 0) rfl rfl)
      · exact CalmG.mk 41 (.int .i64 ((x3 * a0 + x4 * a1 + x5 * a2) % p)) rfl rfl rfl (fun W hW => calm_run (by simp [execOp, Act.eval, go_sem, hpn, m5, m6]))
      intro g W hW hg hgc
      simp only [List.drop_succ_cons, List.drop_zero, Act.put, List.setIfInBounds_toArray, List.set_cons_zero, List.set_cons_succ]
      have Jx := Lib.hid ((hW.block _ lx).trans kx)
      have Ja := Lib.hid ((hW.block _ la).trans ka)
      have Jr := Lib.hid ((hW.block _ lr).trans kr)
      have HO2 := Lib.hid (own_below HO.out hW)
      have HB2 := Lib.hid (low_tr' HB.out hW HB.out.size)
      have HS := Lib.hid (show [(x0 * a0 + x1 * a1 + x2 * a2) % p, (x3 * a0 + x4 * a1 + x5 * a2) % p, (x6 * a0 + x7 * a1 + x8 * a2) % p].take 1 ++ [(x3 * a0 + x4 * a1 + x5 * a2) % p] = [(x0 * a0 + x1 * a1 + x2 * a2) % p, (x3 * a0 + x4 * a1 + x5 * a2) % p, (x6 * a0 + x7 * a1 + x8 * a2) % p].take (1 + 1) from rfl)
      have d0 : W.cell? ⟨g, 0, none⟩ = some (.int .i64 ((x3 * a0 + x4 * a1 + x5 * a2) % p)) := by rw [cell_of_row W _ 0 _ _ _ hgc]; rfl
      have HD := Lib.hid (src1 d0)
      have hsz : w.heap.size + 1 + 1 + 1 ≤ W.heap.size := by have := (Array.getElem?_eq_some_iff.1 Jr.out).1; omega
      clear kx ka kr HO HB hW hgc d0 lx la lr m0 m1 m2 m3 m4 m5 m6
      go_wp2_with (at_builtin; refine wpList_append_own _ rfl _ _ 81 rfl (w.heap.size + 1 + 1 + 1) 2 i0 (.int .i64 0) 1 8 Try.underlying81 HI0.out HZ0.out HZ1.out HZ2.out rfl (by decide) _ _ _ rfl HO2.out ⟨g, 0, none⟩ 1 1 [.int .i64 ((x3 * a0 + x4 * a1 + x5 * a2) % p)] rfl rfl HD.out (oneA _) (by unfold maxLen; omega) (by omega) hsz ?_; intro v2 w2 hown hgrow _; have HO3 := Lib.hid hown; have HG := Lib.hid hgrow; clear hown hgrow)
      have hb := own_base' HO2.out
      have ne : ∀ a, a < w.heap.size + 1 + 1 + 1 → some a ≠ u7.ownBlock := fun a ha e => by have := hb a e.symm; omega
      go_roundw
      case rel => exact ⟨2, by omega, rfl, Lib.hid (by rw [← HS.out, ints_app]; exact HO3.out), by rw [HG.out.block _ (Array.getElem?_eq_some_iff.1 Jx.out).1 (ne _ (by omega))]; exact Jx.out, by rw [HG.out.block _ (Array.getElem?_eq_some_iff.1 Ja.out).1 (ne _ (by omega))]; exact Ja.out, by rw [HG.out.block _ (Array.getElem?_eq_some_iff.1 Jr.out).1 (ne _ (by omega))]; exact Jr.out, Lib.hid (HB2.out.grown HG.out HB2.out.size (fun k' hk' => by have := hb k' hk'; omega))⟩
      case measure => simp [intOf]
    · clear hk
      have lx := (Array.getElem?_eq_some_iff.1 kx).1
      have la := (Array.getElem?_eq_some_iff.1 ka).1
      have lr := (Array.getElem?_eq_some_iff.1 kr).1
      obtain ⟨m0, m1, m2, m3, m4, m5, m6⟩ := w_2.out
      go_wp2
      refine region_boxvia 27 26 42 (fun g => .slice (some ⟨g, 0, none⟩) 1 1) #[.int .i64 ((x6 * a0 + x7 * a1 + x8 * a2) % p)] 2 [(16, u7), (17, .int .i64 2), (18, .pointer (some ⟨w.heap.size, 6, none⟩)), (19, .pointer (some ⟨w.heap.size, 6, none⟩)), (20, .int .i64 x6), (21, .pointer (some ⟨w.heap.size + 1, 0, none⟩)), (22, .int .i64 a0), (23, .int .i64 (x6 * a0)), (24, .int .i64 2), (25, .pointer (some ⟨w.heap.size, 6, none⟩)), (26, .pointer (some ⟨w.heap.size, 7, none⟩)), (27, .int .i64 x7), (28, .pointer (some ⟨w.heap.size + 1, 1, none⟩)), (29, .int .i64 a1), (30, .int .i64 (x7 * a1)), (31, .int .i64 (x6 * a0 + x7 * a1)), (32, .int .i64 2), (33, .pointer (some ⟨w.heap.size, 6, none⟩)), (34, .pointer (some ⟨w.heap.size, 8, none⟩)), (35, .int .i64 x8), (36, .pointer (some ⟨w.heap.size + 1, 2, none⟩)), (37, .int .i64 a2), (38, .int .i64 (x8 * a2)), (39, .int .i64 (x6 * a0 + x7 * a1 + x8 * a2)), (40, .int .i64 p), (41, .int .i64 ((x6 * a0 + x7 * a1 + x8 * a2) % p))] (by kernel_rfl) (by decide) rfl (by kernel_rfl) (by kernel_rfl) (by kernel_rfl) (by decide) (by simp) (by kernel_rfl) (fun aE hpe => ?_)
      simp only [puts, Act.put, List.setIfInBounds_toArray, List.set_cons_zero, List.set_cons_succ] at hpe
      subst hpe
      refine ⟨?_, ⟨.inr (.inr ?_), .inr (.inr ?_), .inr (.inr ?_), .inr (.inr ?_), .inr (.inr ?_), .inr (.inr ?_), .inr (.inr ?_), .inr (.inr ?_), .inr (.inr ?_), .inr (.inr ?_), .inr (.inr ?_), .inr (.inr ?_), .inr (.inr ?_), .inr (.inr ?_), .inr (.inr ?_), .inr (.inr ?_), .inr (.inr ?_), .inr (.inr ?_), .inr (.inr ?_), .inr (.inr ?_), .inr (.inr ?_), .inr (.inr ?_), .inr (.inr ?_), .inr (.inr ?_), .inr (.inr ?_), .inr (.inr ?_), .inl rfl, trivial⟩, ?_⟩
      · intro ρ W hr
        have r0 : ρ (.tmp 41) = .int .i64 ((x6 * a0 + x7 * a1 + x8 * a2) % p) := hr 41 (by simp [readsOf, Op.operands])
        simp [execOp, go_sem, r0]
      · exact CalmG.mk 16 (u7) rfl rfl rfl (fun W hW => calm_move (.tmp 7) rfl rfl)
      · exact CalmG.mk 17 (.int .i64 2) rfl rfl rfl (fun W hW => calm_move (.tmp 8) rfl rfl)
      · exact CalmG.mk 18 (.pointer (some ⟨w.heap.size, 6, none⟩)) rfl rfl rfl (fun W hW => calm_run (by simp [execOp, Act.eval, go_sem]))
      · exact CalmG.mk 19 (.pointer (some ⟨w.heap.size, 6, none⟩)) rfl rfl rfl (fun W hW => calm_run (by simp [execOp, Act.eval, go_sem]))
      · exact CalmG.mk 20 (.int .i64 x6) rfl rfl rfl (fun W hW => calm_run (by have hc := row_int (off := 6) (z := x6) ((hW.block _ lx).trans kx) rfl; simp [execOp, Act.eval, go_sem, hc]))
      · exact CalmG.mk 21 (.pointer (some ⟨w.heap.size + 1, 0, none⟩)) rfl rfl rfl (fun W hW => calm_run (by simp [execOp, Act.eval, go_sem]))
      · exact CalmG.mk 22 (.int .i64 a0) rfl rfl rfl (fun W hW => calm_run (by have hc := row_int (off := 0) (z := a0) ((hW.block _ la).trans ka) rfl; simp [execOp, Act.eval, go_sem, hc]))
      · exact CalmG.mk 23 (.int .i64 (x6 * a0)) rfl rfl rfl (fun W hW => calm_run (by simp [execOp, Act.eval, go_sem, m0]))
      · exact CalmG.mk 24 (.int .i64 2) rfl rfl rfl (fun W hW => calm_move (.tmp 8) rfl rfl)
      · exact CalmG.mk 25 (.pointer (some ⟨w.heap.size, 6, none⟩)) rfl rfl rfl (fun W hW => calm_run (by simp [execOp, Act.eval, go_sem]))
      · exact CalmG.mk 26 (.pointer (some ⟨w.heap.size, 7, none⟩)) rfl rfl rfl (fun W hW => calm_run (by simp [execOp, Act.eval, go_sem]))
      · exact CalmG.mk 27 (.int .i64 x7) rfl rfl rfl (fun W hW => calm_run (by have hc := row_int (off := 7) (z := x7) ((hW.block _ lx).trans kx) rfl; simp [execOp, Act.eval, go_sem, hc]))
      · exact CalmG.mk 28 (.pointer (some ⟨w.heap.size + 1, 1, none⟩)) rfl rfl rfl (fun W hW => calm_run (by simp [execOp, Act.eval, go_sem]))
      · exact CalmG.mk 29 (.int .i64 a1) rfl rfl rfl (fun W hW => calm_run (by have hc := row_int (off := 1) (z := a1) ((hW.block _ la).trans ka) rfl; simp [execOp, Act.eval, go_sem, hc]))
      · exact CalmG.mk 30 (.int .i64 (x7 * a1)) rfl rfl rfl (fun W hW => calm_run (by simp [execOp, Act.eval, go_sem, m1]))
      · exact CalmG.mk 31 (.int .i64 (x6 * a0 + x7 * a1)) rfl rfl rfl (fun W hW => calm_run (by simp [execOp, Act.eval, go_sem, m3]))
      · exact CalmG.mk 32 (.int .i64 2) rfl rfl rfl (fun W hW => calm_move (.tmp 8) rfl rfl)
      · exact CalmG.mk 33 (.pointer (some ⟨w.heap.size, 6, none⟩)) rfl rfl rfl (fun W hW => calm_run (by simp [execOp, Act.eval, go_sem]))
      · exact CalmG.mk 34 (.pointer (some ⟨w.heap.size, 8, none⟩)) rfl rfl rfl (fun W hW => calm_run (by simp [execOp, Act.eval, go_sem]))
      · exact CalmG.mk 35 (.int .i64 x8) rfl rfl rfl (fun W hW => calm_run (by have hc := row_int (off := 8) (z := x8) ((hW.block _ lx).trans kx) rfl; simp [execOp, Act.eval, go_sem, hc]))
      · exact CalmG.mk 36 (.pointer (some ⟨w.heap.size + 1, 2, none⟩)) rfl rfl rfl (fun W hW => calm_run (by simp [execOp, Act.eval, go_sem]))
      · exact CalmG.mk 37 (.int .i64 a2) rfl rfl rfl (fun W hW => calm_run (by have hc := row_int (off := 2) (z := a2) ((hW.block _ la).trans ka) rfl; simp [execOp, Act.eval, go_sem, hc]))
      · exact CalmG.mk 38 (.int .i64 (x8 * a2)) rfl rfl rfl (fun W hW => calm_run (by simp [execOp, Act.eval, go_sem, m2]))
      · exact CalmG.mk 39 (.int .i64 (x6 * a0 + x7 * a1 + x8 * a2)) rfl rfl rfl (fun W hW => calm_run (by simp [execOp, Act.eval, go_sem, m4]))
      · exact CalmG.mk 40 (.int .i64 p) rfl rfl rfl (fun W hW => calm_move (.tmp 0) rfl rfl)
      · exact CalmG.mk 41 (.int .i64 ((x6 * a0 + x7 * a1 + x8 * a2) % p)) rfl rfl rfl (fun W hW => calm_run (by simp [execOp, Act.eval, go_sem, hpn, m5, m6]))
      intro g W hW hg hgc
      simp only [List.drop_succ_cons, List.drop_zero, Act.put, List.setIfInBounds_toArray, List.set_cons_zero, List.set_cons_succ]
      have Jx := Lib.hid ((hW.block _ lx).trans kx)
      have Ja := Lib.hid ((hW.block _ la).trans ka)
      have Jr := Lib.hid ((hW.block _ lr).trans kr)
      have HO2 := Lib.hid (own_below HO.out hW)
      have HB2 := Lib.hid (low_tr' HB.out hW HB.out.size)
      have HS := Lib.hid (show [(x0 * a0 + x1 * a1 + x2 * a2) % p, (x3 * a0 + x4 * a1 + x5 * a2) % p, (x6 * a0 + x7 * a1 + x8 * a2) % p].take 2 ++ [(x6 * a0 + x7 * a1 + x8 * a2) % p] = [(x0 * a0 + x1 * a1 + x2 * a2) % p, (x3 * a0 + x4 * a1 + x5 * a2) % p, (x6 * a0 + x7 * a1 + x8 * a2) % p].take (2 + 1) from rfl)
      have d0 : W.cell? ⟨g, 0, none⟩ = some (.int .i64 ((x6 * a0 + x7 * a1 + x8 * a2) % p)) := by rw [cell_of_row W _ 0 _ _ _ hgc]; rfl
      have HD := Lib.hid (src1 d0)
      have hsz : w.heap.size + 1 + 1 + 1 ≤ W.heap.size := by have := (Array.getElem?_eq_some_iff.1 Jr.out).1; omega
      clear kx ka kr HO HB hW hgc d0 lx la lr m0 m1 m2 m3 m4 m5 m6
      go_wp2_with (at_builtin; refine wpList_append_own _ rfl _ _ 81 rfl (w.heap.size + 1 + 1 + 1) 2 i0 (.int .i64 0) 1 8 Try.underlying81 HI0.out HZ0.out HZ1.out HZ2.out rfl (by decide) _ _ _ rfl HO2.out ⟨g, 0, none⟩ 1 1 [.int .i64 ((x6 * a0 + x7 * a1 + x8 * a2) % p)] rfl rfl HD.out (oneA _) (by unfold maxLen; omega) (by omega) hsz ?_; intro v2 w2 hown hgrow _; have HO3 := Lib.hid hown; have HG := Lib.hid hgrow; clear hown hgrow)
      have hb := own_base' HO2.out
      have ne : ∀ a, a < w.heap.size + 1 + 1 + 1 → some a ≠ u7.ownBlock := fun a ha e => by have := hb a e.symm; omega
      go_roundw
      case rel => exact ⟨3, by omega, rfl, Lib.hid (by rw [← HS.out, ints_app]; exact HO3.out), by rw [HG.out.block _ (Array.getElem?_eq_some_iff.1 Jx.out).1 (ne _ (by omega))]; exact Jx.out, by rw [HG.out.block _ (Array.getElem?_eq_some_iff.1 Ja.out).1 (ne _ (by omega))]; exact Ja.out, by rw [HG.out.block _ (Array.getElem?_eq_some_iff.1 Jr.out).1 (ne _ (by omega))]; exact Jr.out, Lib.hid (HB2.out.grown HG.out HB2.out.size (fun k' hk' => by have := hb k' hk'; omega))⟩
      case measure => simp [intOf]
    · have ho3 : wr.ownsRow (w.heap.size + 1 + 1 + 1) 2 1 u7 3 (ints [(x0 * a0 + x1 * a1 + x2 * a2) % p, (x3 * a0 + x4 * a1 + x5 * a2) % p, (x6 * a0 + x7 * a1 + x8 * a2) % p]) := HO.out
      obtain ⟨g5, cap5, rfl, hb5, hpt5⟩ := ownInts' ho3 rfl (by omega)
      have HP5 := Lib.hid hpt5
      have lr := (Array.getElem?_eq_some_iff.1 kr).1
      have HR := Lib.hid kr
      clear HO ho3 hpt5 hk kx ka kr w_0 w_1 w_2
      go_wp2_with (go_at_call 62; refine (HNo.out _ _ _ HP5.out).mono ?_; rintro e w1 ⟨v1, rfl, ho, hb⟩; rw [HNl.out] at ho; obtain ⟨gN, capN, rfl, hbN, hptN⟩ := ownInts' (n := 3) ho rfl (by omega); have HPN := Lib.hid hptN; have HB1 := Lib.hid hb; clear ho hptN hb)
      have jr := Lib.hid ((HB1.out.block _ lr).trans HR.out)
      have HBq := Lib.hid (low_tr' HB.out HB1.out HB.out.size)
      have ljr := (Array.getElem?_eq_some_iff.1 jr.out).1
      clear HB HB1 HR lr HP5 HNo HNl
      refine region_via 10 [(50, .slice (some ⟨gN, 0, none⟩) 3 capN), (51, .pointer (some ⟨gN, 0, none⟩)), (52, .int .i64 r0), (53, .slice (some ⟨gN, 0, none⟩) 3 capN), (54, .pointer (some ⟨gN, 1, none⟩)), (55, .int .i64 r1), (56, .slice (some ⟨gN, 0, none⟩) 3 capN), (57, .pointer (some ⟨gN, 2, none⟩)), (58, .int .i64 r2), (59, .agg #[.int .i64 r0, .int .i64 r1, .int .i64 r2])] (by kernel_rfl) (by decide) (by kernel_rfl) (by kernel_rfl) (by kernel_rfl) (fun aE hpe => ?_)
      simp only [puts, Act.put, List.setIfInBounds_toArray, List.set_cons_zero, List.set_cons_succ] at hpe
      subst hpe
      refine ⟨⟨.inr (.inr ?_), .inr (.inr ?_), .inr (.inr ?_), .inr (.inr ?_), .inr (.inr ?_), .inr (.inr ?_), .inr (.inr ?_), .inr (.inr ?_), .inr (.inr ?_), .inr (.inr ?_), trivial⟩, ?_⟩
      · exact CalmG.mk 50 (.slice (some ⟨gN, 0, none⟩) 3 capN) rfl rfl rfl (fun W hW => calm_move (.tmp 9) rfl rfl)
      · exact CalmG.mk 51 (.pointer (some ⟨gN, 0, none⟩)) rfl rfl rfl (fun W hW => calm_run (by simp [execOp, Act.eval, go_sem]))
      · exact CalmG.mk 52 (.int .i64 r0) rfl rfl rfl (fun W hW => calm_run (by have hc : W.cell? ⟨gN, 0, none⟩ = some (.int .i64 r0) := cell_below hW (HPN.out 0 (by omega)); simp [execOp, Act.eval, go_sem, hc]))
      · exact CalmG.mk 53 (.slice (some ⟨gN, 0, none⟩) 3 capN) rfl rfl rfl (fun W hW => calm_move (.tmp 9) rfl rfl)
      · exact CalmG.mk 54 (.pointer (some ⟨gN, 1, none⟩)) rfl rfl rfl (fun W hW => calm_run (by simp [execOp, Act.eval, go_sem]))
      · exact CalmG.mk 55 (.int .i64 r1) rfl rfl rfl (fun W hW => calm_run (by have hc : W.cell? ⟨gN, 1, none⟩ = some (.int .i64 r1) := cell_below hW (HPN.out 1 (by omega)); simp [execOp, Act.eval, go_sem, hc]))
      · exact CalmG.mk 56 (.slice (some ⟨gN, 0, none⟩) 3 capN) rfl rfl rfl (fun W hW => calm_move (.tmp 9) rfl rfl)
      · exact CalmG.mk 57 (.pointer (some ⟨gN, 2, none⟩)) rfl rfl rfl (fun W hW => calm_run (by simp [execOp, Act.eval, go_sem]))
      · exact CalmG.mk 58 (.int .i64 r2) rfl rfl rfl (fun W hW => calm_run (by have hc : W.cell? ⟨gN, 2, none⟩ = some (.int .i64 r2) := cell_below hW (HPN.out 2 (by omega)); simp [execOp, Act.eval, go_sem, hc]))
      · exact CalmG.mk 59 (.agg #[.int .i64 r0, .int .i64 r1, .int .i64 r2]) rfl rfl rfl (fun W hW => calm_build 34 _ #[.int .i64 r0, .int .i64 r1, .int .i64 r2] rfl (by kernel_rfl))
      intro W hW
      simp only [List.drop_succ_cons, List.drop_zero]
      refine wpList_store_row _ rfl 34 _ _ rfl rfl (g := w.heap.size + 1 + 1) (T := 34) (cs := #[.int .i64 0, .int .i64 0, .int .i64 0]) (U := #[.int .i64 r0, .int .i64 r1, .int .i64 r2]) rfl rfl ((hW.block _ ljr).trans jr.out) rfl Try.sizeOf34 (by simp [Value.oneCell']) ?_
      refine wpList_nil ?_
      go_wp2
      exact bodyPost_ret (v := .agg #[.int .i64 r0, .int .i64 r1, .int .i64 r2]) (results_row Try.results40 rfl (setRow_heap _ _ #[.int .i64 0, .int .i64 0, .int .i64 0] _ _ _ ((hW.block _ ljr).trans jr.out)) 3 rfl Try.sizeOf34 Try.isAgg34) rfl ⟨rfl, below_setRowN (low_tr' HBq.out hW HBq.out.size) (by omega) _⟩
end Go.Proofs.Ytnpmdchphaenaaa
/- Contracts: orbits of a point, the program's and the reference's. (Printed by gent3.py, a program of this session.) -/
namespace Go.Proofs.Ytnpmdchphaenaaa
open Go.RowKit
set_option linter.unusedVariables false
set_option linter.unusedSimpArgs false
theorem own_lt {w : World} {base : Nat} {e : TypeId} {size n : Nat} {v : Value} {xs : List Value} (h : w.ownsRow base e size v n xs) (k : Nat) (hk : v.ownBlock = some k) : k < w.heap.size := by
  rcases h.2 with ⟨rfl, _⟩ | ⟨g, cap, cur, rfl, hb, hg, _⟩
  · simp [Value.ownBlock] at hk
  · have : g = k := by simpa [Value.ownBlock] using hk
    rw [← this]
    exact (Array.getElem?_eq_some_iff.1 hg).1
theorem own_same {W W' : World} {base : Nat} {e : TypeId} {size n : Nat} {v : Value} {xs : List Value} (h : W.ownsRow base e size v n xs) (hb : ∀ b, v.ownBlock = some b → W'.heap[b]? = W.heap[b]?) : W'.ownsRow base e size v n xs := by
  refine ⟨h.1, ?_⟩
  rcases h.2 with h0 | ⟨g, cap, cur, rfl, hb0, hg, hr⟩
  · exact .inl h0
  · exact .inr ⟨g, cap, cur, rfl, hb0, (hb g (by simp [Value.ownBlock])).trans hg, hr⟩
end Go.Proofs.Ytnpmdchphaenaaa

