/- Texts of the claim, in build order: S3, S4, S5, S6, S9, T1. No condition. -/
import Derived.Test.YtaocnklolgdkfaaGreatZFnSinger4
/- Contracts: products of maps, made normal: the program's and the reference's. (Printed by gens3.py, a program of this session.) -/
namespace Go.Proofs.YtaocnklolgdkfaaGreat
open Go.RowKit
set_option linter.unusedVariables false
set_option linter.unusedSimpArgs false
/-- A map: three rows. -/
abbrev M9 := Pt × Pt × Pt
@[reducible] def mapV (m : M9) : Value := .agg #[.int .i64 m.1.1, .int .i64 m.1.2.1, .int .i64 m.1.2.2, .int .i64 m.2.1.1, .int .i64 m.2.1.2.1, .int .i64 m.2.1.2.2, .int .i64 m.2.2.1, .int .i64 m.2.2.2.1, .int .i64 m.2.2.2.2]
def listM (m : M9) : List Int := [m.1.1, m.1.2.1, m.1.2.2, m.2.1.1, m.2.1.2.1, m.2.1.2.2, m.2.2.1, m.2.2.2.1, m.2.2.2.2]
def In12 (x : Int) : Prop := 0 ≤ x ∧ x ≤ 12
def InM (m : M9) : Prop := ∀ x ∈ listM m, In12 x
def dotQ (p : Int) (a b : Pt) : Int := (a.1 * b.1 + a.2.1 * b.2.1 + a.2.2 * b.2.2) % p
def colM (m : M9) : M9 := ((m.1.1, m.2.1.1, m.2.2.1), (m.1.2.1, m.2.1.2.1, m.2.2.2.1), (m.1.2.2, m.2.1.2.2, m.2.2.2.2))
def mulM (p : Int) (x y : M9) : M9 :=
  ((dotQ p x.1 (colM y).1, dotQ p x.1 (colM y).2.1, dotQ p x.1 (colM y).2.2), (dotQ p x.2.1 (colM y).1, dotQ p x.2.1 (colM y).2.1, dotQ p x.2.1 (colM y).2.2), (dotQ p x.2.2 (colM y).1, dotQ p x.2.2 (colM y).2.1, dotQ p x.2.2 (colM y).2.2))
def scaP (p f : Int) (a : Pt) : Pt := (a.1 % p * f % p, a.2.1 % p * f % p, a.2.2 % p * f % p)
def normM (p : Int) (m : M9) : M9 := (scaP p (facL p (listM m)) m.1, scaP p (facL p (listM m)) m.2.1, scaP p (facL p (listM m)) m.2.2)
def timesM (p : Int) (x y : M9) : M9 := normM p (mulM p x y)
theorem in12_mod {p z : Int} (hp : prB p = true) : In12 (z % p) := by
  have hb := prB_bd hp
  have h1 := Int.emod_nonneg z (by omega : p ≠ 0)
  have h2 := Int.emod_lt_of_pos z (by omega : 0 < p)
  exact ⟨h1, by omega⟩
theorem inM_times {p : Int} {x y : M9} (hp : prB p = true) : InM (timesM p x y) := by
  intro z hz
  simp only [timesM, normM, scaP, listM, List.mem_cons, List.not_mem_nil, or_false] at hz
  rcases hz with rfl | rfl | rfl | rfl | rfl | rfl | rfl | rfl | rfl <;> exact in12_mod hp
theorem inM_mul {p : Int} {x y : M9} (hp : prB p = true) : InM (mulM p x y) := by
  intro z hz
  simp only [mulM, dotQ, listM, List.mem_cons, List.not_mem_nil, or_false] at hz
  rcases hz with rfl | rfl | rfl | rfl | rfl | rfl | rfl | rfl | rfl <;> exact in12_mod hp
theorem big12 {x : Int} (h : In12 x) : -4611686018427387904 ≤ x ∧ x ≤ 4611686018427387904 := by
  obtain ⟨h1, h2⟩ := h
  omega
theorem inM_at {m : M9} (h : InM m) : In13 m.1 ∧ In13 m.2.1 ∧ In13 m.2.2 ∧ In13 (colM m).1 ∧ In13 (colM m).2.1 ∧ In13 (colM m).2.2 := by
  have k := fun x hx => h x hx
  simp only [listM, List.mem_cons, List.not_mem_nil, or_false] at k
  have a0 := k m.1.1 (by simp); have a1 := k m.1.2.1 (by simp); have a2 := k m.1.2.2 (by simp)
  have a3 := k m.2.1.1 (by simp); have a4 := k m.2.1.2.1 (by simp); have a5 := k m.2.1.2.2 (by simp)
  have a6 := k m.2.2.1 (by simp); have a7 := k m.2.2.2.1 (by simp); have a8 := k m.2.2.2.2 (by simp)
  exact ⟨⟨a0, a1, a2⟩, ⟨a3, a4, a5⟩, ⟨a6, a7, a8⟩, ⟨a0, a3, a6⟩, ⟨a1, a4, a7⟩, ⟨a2, a5, a8⟩⟩
theorem mul12 {a b : Int} (ha : In12 a) (hb : In12 b) : 0 ≤ a * b ∧ a * b ≤ 144 := by
  refine ⟨Int.mul_nonneg ha.1 hb.1, ?_⟩
  have h1 : a * b ≤ 12 * b := Int.mul_le_mul_of_nonneg_right ha.2 hb.1
  have h2 := hb.2
  omega
theorem wrap_small {z : Int} (h : 0 ≤ z ∧ z ≤ 1000000) : IntKind.wrap .i64 z = z := by
  simp [IntKind.wrap, IntKind.signed, IntKind.bits]; omega
theorem modb {p z : Int} (hp : 3 ≤ p ∧ p ≤ 13) : 0 ≤ z % p ∧ z % p ≤ 1000000 := by
  have h1 := Int.emod_nonneg z (by omega : p ≠ 0)
  have h2 := Int.emod_lt_of_pos z (by omega : 0 < p)
  exact ⟨h1, by omega⟩
theorem dot12 {a b c d e f : Int} (ha : In12 a) (hb : In12 b) (hc : In12 c) (hd : In12 d) (he : In12 e) (hf : In12 f) : 0 ≤ a * b + c * d + e * f := by
  have := mul12 ha hb; have := mul12 hc hd; have := mul12 he hf; omega
theorem wmul {a b : Int} (ha : In12 a) (hb : In12 b) : IntKind.wrap .i64 (a * b) = a * b := wrap_small (by have := mul12 ha hb; omega)
theorem wadd2 {a b c d : Int} (ha : In12 a) (hb : In12 b) (hc : In12 c) (hd : In12 d) : IntKind.wrap .i64 (a * b + c * d) = a * b + c * d := wrap_small (by have := mul12 ha hb; have := mul12 hc hd; omega)
theorem wadd3 {a b c d e f : Int} (ha : In12 a) (hb : In12 b) (hc : In12 c) (hd : In12 d) (he : In12 e) (hf : In12 f) : IntKind.wrap .i64 (a * b + c * d + e * f) = a * b + c * d + e * f := wrap_small (by have := mul12 ha hb; have := mul12 hc hd; have := mul12 he hf; omega)
set_option maxRecDepth 20000 in
set_option maxHeartbeats 4000000 in
theorem times_any (p : Int) (x y : M9) (w : World) (hp : prB p = true) (hx : InM x) (hy : InM y) :
    Calls Tryz.prog 80 #[.int .i64 p, mapV x, mapV y] w (Ret w (mapV (timesM p x y))) := by
  obtain ⟨i0, i1, i2, _, _, _⟩ := inM_at hx
  obtain ⟨_, _, _, j0, j1, j2⟩ := inM_at hy
  have HP := Lib.hid (fun (W : World) => product_any p x.1.1 x.1.2.1 x.1.2.2 x.2.1.1 x.2.1.2.1 x.2.1.2.2 x.2.2.1 x.2.2.2.1 x.2.2.2.2 y.1.1 y.1.2.1 y.1.2.2 y.2.1.1 y.2.1.2.1 y.2.1.2.2 y.2.2.1 y.2.2.2.1 y.2.2.2.2 W hp i0 i1 i2 j0 j1 j2)
  have HN : Hid (∀ W, Calls Tryz.prog 101 #[.int .i64 p, mapV (mulM p x y)] W (Ret W (mapV (timesM p x y)))) := Lib.hid (fun W => normalMap_any p (mulM p x y).1.1 (mulM p x y).1.2.1 (mulM p x y).1.2.2 (mulM p x y).2.1.1 (mulM p x y).2.1.2.1 (mulM p x y).2.1.2.2 (mulM p x y).2.2.1 (mulM p x y).2.2.2.1 (mulM p x y).2.2.2.2 W hp (fun z hz => big12 (inM_mul hp z hz)) _ rfl)
  replace HP : Hid (∀ W, Calls Tryz.prog 102 #[.int .i64 p, mapV x, mapV y] W (Ret W (mapV (mulM p x y)))) := HP
  clear hx hy i0 i1 i2 j0 j1 j2
  generalize timesM p x y = t at *
  generalize mulM p x y = m at *
  obtain ⟨⟨x0, x1, x2⟩, ⟨x3, x4, x5⟩, ⟨x6, x7, x8⟩⟩ := x
  obtain ⟨⟨y0, y1, y2⟩, ⟨y3, y4, y5⟩, ⟨y6, y7, y8⟩⟩ := y
  obtain ⟨⟨m0, m1, m2⟩, ⟨m3, m4, m5⟩, ⟨m6, m7, m8⟩⟩ := m
  obtain ⟨⟨t0, t1, t2⟩, ⟨t3, t4, t5⟩, ⟨t6, t7, t8⟩⟩ := t
  dsimp only [mapV] at *
  go_enter Tryz.func80, Tryz.ntmps80
  go_wp2_with (first
    | (go_at_call 102; (with_reducible refine (HP.out _).mono ?_); rintro e w1_ ⟨rfl, hb1⟩; obtain ⟨hcb1, hfb1, hlb1⟩ := bcell hb1; have hsz1 := hb1.size; (try simp at hsz1); have HB1 := Lib.hid hb1; clear hb1; (try (have hl01 : w.heap.size < w1_.heap.size := by omega)); (try (have hl11 : w.heap.size + 1 < w1_.heap.size := by omega)); (try (have hl21 : w.heap.size + 1 + 1 < w1_.heap.size := by omega)))
    | (go_at_call 101; (with_reducible refine (HN.out _).mono ?_); rintro e w2_ ⟨rfl, hb2⟩; obtain ⟨hcb2, hfb2, hlb2⟩ := bcell hb2; have hsz2 := hb2.size; (try simp at hsz2); have HB2 := Lib.hid hb2; clear hb2; (try (have hl02 : w.heap.size < w2_.heap.size := by omega)); (try (have hl12 : w.heap.size + 1 < w2_.heap.size := by omega)); (try (have hl22 : w.heap.size + 1 + 1 < w2_.heap.size := by omega)))
    | (refine wpList_store_row _ rfl 31 _ _ rfl rfl (g := w.heap.size + 1 + 1) (T := 31) (cs := #[.int .i64 0, .int .i64 0, .int .i64 0, .int .i64 0, .int .i64 0, .int .i64 0, .int .i64 0, .int .i64 0, .int .i64 0]) (U := #[.int .i64 t0, .int .i64 t1, .int .i64 t2, .int .i64 t3, .int .i64 t4, .int .i64 t5, .int .i64 t6, .int .i64 t7, .int .i64 t8]) rfl rfl (by rw [HB2.out.block _ (by first | omega | (simp; done) | (simp; omega)), HB1.out.block _ (by first | omega | (simp; done) | (simp; omega)), hn_atN _ _ _ (by simp)]) rfl Tryz.sizeOf31 (by simp [Value.oneCell']) ?_))
  exact bodyPost_ret (v := .agg #[.int .i64 t0, .int .i64 t1, .int .i64 t2, .int .i64 t3, .int .i64 t4, .int .i64 t5, .int .i64 t6, .int .i64 t7, .int .i64 t8]) (results_row Tryz.results80 rfl (setRow_heap _ _ #[.int .i64 0, .int .i64 0, .int .i64 0, .int .i64 0, .int .i64 0, .int .i64 0, .int .i64 0, .int .i64 0, .int .i64 0] _ _ _ (by rw [HB2.out.block _ (by first | omega | (simp; done) | (simp; omega)), HB1.out.block _ (by first | omega | (simp; done) | (simp; omega)), hn_atN _ _ _ (by simp)])) 9 rfl Tryz.sizeOf31 Tryz.isAgg31) rfl ⟨rfl, below_setRowN ((by repeat (first | exact Below.refl _ _ | refine bset ?_ _ _ (by omega) _ | refine bal ?_ _ | refine bdrN ?_ _ | refine bdr ?_ | refine below_tr' ?_ HB2.out | refine below_tr' ?_ HB1.out))) (by omega) _⟩
set_option maxRecDepth 20000 in
set_option maxHeartbeats 8000000 in
theorem l02Times_any (p : Int) (x y : M9) (w : World) (hp : prB p = true) (hx : InM x) (hy : InM y) :
    Calls Tryz.prog 86 #[.int .i64 p, mapV x, mapV y] w (Ret w (mapV (timesM p x y))) := by
  have hpb := prB_bd hp
  have HN : Hid (∀ W, Calls Tryz.prog 104 #[.int .i64 p, mapV (mulM p x y)] W (Ret W (mapV (timesM p x y)))) := Lib.hid (fun W => l02Normal_any p (mulM p x y).1.1 (mulM p x y).1.2.1 (mulM p x y).1.2.2 (mulM p x y).2.1.1 (mulM p x y).2.1.2.1 (mulM p x y).2.1.2.2 (mulM p x y).2.2.1 (mulM p x y).2.2.2.1 (mulM p x y).2.2.2.2 W hp (fun z hz => big12 (inM_mul hp z hz)) _ rfl)
  generalize timesM p x y = t at *
  obtain ⟨⟨x0, x1, x2⟩, ⟨x3, x4, x5⟩, ⟨x6, x7, x8⟩⟩ := x
  obtain ⟨⟨y0, y1, y2⟩, ⟨y3, y4, y5⟩, ⟨y6, y7, y8⟩⟩ := y
  obtain ⟨⟨t0, t1, t2⟩, ⟨t3, t4, t5⟩, ⟨t6, t7, t8⟩⟩ := t
  dsimp only [mapV, mulM, dotQ, colM] at *
  have bx0 : In12 x0 := hx _ (by simp [listM])
  have bx1 : In12 x1 := hx _ (by simp [listM])
  have bx2 : In12 x2 := hx _ (by simp [listM])
  have bx3 : In12 x3 := hx _ (by simp [listM])
  have bx4 : In12 x4 := hx _ (by simp [listM])
  have bx5 : In12 x5 := hx _ (by simp [listM])
  have bx6 : In12 x6 := hx _ (by simp [listM])
  have bx7 : In12 x7 := hx _ (by simp [listM])
  have bx8 : In12 x8 := hx _ (by simp [listM])
  have by0 : In12 y0 := hy _ (by simp [listM])
  have by1 : In12 y1 := hy _ (by simp [listM])
  have by2 : In12 y2 := hy _ (by simp [listM])
  have by3 : In12 y3 := hy _ (by simp [listM])
  have by4 : In12 y4 := hy _ (by simp [listM])
  have by5 : In12 y5 := hy _ (by simp [listM])
  have by6 : In12 y6 := hy _ (by simp [listM])
  have by7 : In12 y7 := hy _ (by simp [listM])
  have by8 : In12 y8 := hy _ (by simp [listM])
  clear hx hy hp
  go_enter Tryz.func86, Tryz.ntmps86
  go_wp2
  have kx_0 : ((((w.alloc (.cells #[.int .i64 x0, .int .i64 x1, .int .i64 x2, .int .i64 x3, .int .i64 x4, .int .i64 x5, .int .i64 x6, .int .i64 x7, .int .i64 x8] 31)).alloc (.cells #[.int .i64 y0, .int .i64 y1, .int .i64 y2, .int .i64 y3, .int .i64 y4, .int .i64 y5, .int .i64 y6, .int .i64 y7, .int .i64 y8] 31)).alloc (.cells #[.int .i64 0, .int .i64 0, .int .i64 0, .int .i64 0, .int .i64 0, .int .i64 0, .int .i64 0, .int .i64 0, .int .i64 0] 31)).alloc (.cells #[.int .i64 0, .int .i64 0, .int .i64 0, .int .i64 0, .int .i64 0, .int .i64 0, .int .i64 0, .int .i64 0, .int .i64 0] 31)).heap[w.heap.size]? = some (.cells #[.int .i64 x0, .int .i64 x1, .int .i64 x2, .int .i64 x3, .int .i64 x4, .int .i64 x5, .int .i64 x6, .int .i64 x7, .int .i64 x8] 31 (0, 0)) := by rw [hn_pastN _ _ _ (by first | omega | (simp; done) | (simp; omega)), hn_pastN _ _ _ (by first | omega | (simp; done) | (simp; omega)), hn_pastN _ _ _ (by first | omega | (simp; done) | (simp; omega)), hn_atN _ _ _ (by simp)]
  have ky_0 : ((((w.alloc (.cells #[.int .i64 x0, .int .i64 x1, .int .i64 x2, .int .i64 x3, .int .i64 x4, .int .i64 x5, .int .i64 x6, .int .i64 x7, .int .i64 x8] 31)).alloc (.cells #[.int .i64 y0, .int .i64 y1, .int .i64 y2, .int .i64 y3, .int .i64 y4, .int .i64 y5, .int .i64 y6, .int .i64 y7, .int .i64 y8] 31)).alloc (.cells #[.int .i64 0, .int .i64 0, .int .i64 0, .int .i64 0, .int .i64 0, .int .i64 0, .int .i64 0, .int .i64 0, .int .i64 0] 31)).alloc (.cells #[.int .i64 0, .int .i64 0, .int .i64 0, .int .i64 0, .int .i64 0, .int .i64 0, .int .i64 0, .int .i64 0, .int .i64 0] 31)).heap[w.heap.size + 1]? = some (.cells #[.int .i64 y0, .int .i64 y1, .int .i64 y2, .int .i64 y3, .int .i64 y4, .int .i64 y5, .int .i64 y6, .int .i64 y7, .int .i64 y8] 31 (0, 0)) := by rw [hn_pastN _ _ _ (by first | omega | (simp; done) | (simp; omega)), hn_pastN _ _ _ (by first | omega | (simp; done) | (simp; omega)), hn_atN _ _ _ (by simp)]
  have kr_0 : ((((w.alloc (.cells #[.int .i64 x0, .int .i64 x1, .int .i64 x2, .int .i64 x3, .int .i64 x4, .int .i64 x5, .int .i64 x6, .int .i64 x7, .int .i64 x8] 31)).alloc (.cells #[.int .i64 y0, .int .i64 y1, .int .i64 y2, .int .i64 y3, .int .i64 y4, .int .i64 y5, .int .i64 y6, .int .i64 y7, .int .i64 y8] 31)).alloc (.cells #[.int .i64 0, .int .i64 0, .int .i64 0, .int .i64 0, .int .i64 0, .int .i64 0, .int .i64 0, .int .i64 0, .int .i64 0] 31)).alloc (.cells #[.int .i64 0, .int .i64 0, .int .i64 0, .int .i64 0, .int .i64 0, .int .i64 0, .int .i64 0, .int .i64 0, .int .i64 0] 31)).heap[w.heap.size + 1 + 1]? = some (.cells #[.int .i64 0, .int .i64 0, .int .i64 0, .int .i64 0, .int .i64 0, .int .i64 0, .int .i64 0, .int .i64 0, .int .i64 0] 31 (0, 0)) := by rw [hn_pastN _ _ _ (by first | omega | (simp; done) | (simp; omega)), hn_atN _ _ _ (by simp)]
  have ko_0 : ((((w.alloc (.cells #[.int .i64 x0, .int .i64 x1, .int .i64 x2, .int .i64 x3, .int .i64 x4, .int .i64 x5, .int .i64 x6, .int .i64 x7, .int .i64 x8] 31)).alloc (.cells #[.int .i64 y0, .int .i64 y1, .int .i64 y2, .int .i64 y3, .int .i64 y4, .int .i64 y5, .int .i64 y6, .int .i64 y7, .int .i64 y8] 31)).alloc (.cells #[.int .i64 0, .int .i64 0, .int .i64 0, .int .i64 0, .int .i64 0, .int .i64 0, .int .i64 0, .int .i64 0, .int .i64 0] 31)).alloc (.cells #[.int .i64 0, .int .i64 0, .int .i64 0, .int .i64 0, .int .i64 0, .int .i64 0, .int .i64 0, .int .i64 0, .int .i64 0] 31)).heap[w.heap.size + 1 + 1 + 1]? = some (.cells #[.int .i64 0, .int .i64 0, .int .i64 0, .int .i64 0, .int .i64 0, .int .i64 0, .int .i64 0, .int .i64 0, .int .i64 0] 31 (0, 0)) := by rw [hn_atN _ _ _ (by simp)]
  have HB_0 : Below w.heap.size w ((((w.alloc (.cells #[.int .i64 x0, .int .i64 x1, .int .i64 x2, .int .i64 x3, .int .i64 x4, .int .i64 x5, .int .i64 x6, .int .i64 x7, .int .i64 x8] 31)).alloc (.cells #[.int .i64 y0, .int .i64 y1, .int .i64 y2, .int .i64 y3, .int .i64 y4, .int .i64 y5, .int .i64 y6, .int .i64 y7, .int .i64 y8] 31)).alloc (.cells #[.int .i64 0, .int .i64 0, .int .i64 0, .int .i64 0, .int .i64 0, .int .i64 0, .int .i64 0, .int .i64 0, .int .i64 0] 31)).alloc (.cells #[.int .i64 0, .int .i64 0, .int .i64 0, .int .i64 0, .int .i64 0, .int .i64 0, .int .i64 0, .int .i64 0, .int .i64 0] 31)) := (by repeat (first | exact Below.refl _ _ | refine bset ?_ _ _ (by omega) _ | refine bal ?_ _ | refine bdrN ?_ _ | refine bdr ?_))
  generalize ((((w.alloc (.cells #[.int .i64 x0, .int .i64 x1, .int .i64 x2, .int .i64 x3, .int .i64 x4, .int .i64 x5, .int .i64 x6, .int .i64 x7, .int .i64 x8] 31)).alloc (.cells #[.int .i64 y0, .int .i64 y1, .int .i64 y2, .int .i64 y3, .int .i64 y4, .int .i64 y5, .int .i64 y6, .int .i64 y7, .int .i64 y8] 31)).alloc (.cells #[.int .i64 0, .int .i64 0, .int .i64 0, .int .i64 0, .int .i64 0, .int .i64 0, .int .i64 0, .int .i64 0, .int .i64 0] 31)).alloc (.cells #[.int .i64 0, .int .i64 0, .int .i64 0, .int .i64 0, .int .i64 0, .int .i64 0, .int .i64 0, .int .i64 0, .int .i64 0] 31)) = V_0 at *
  refine wp_loop_rounds 4 ?_
  rw [rounds_succ]; go_wp2
  refine wp_loop_rounds 4 ?_
  rw [rounds_succ]; go_wp2
  refine wp_loop_rounds 4 ?_
  rw [rounds_succ]; go_wp2
  have lx := (Array.getElem?_eq_some_iff.1 kx_0).1
  have ly := (Array.getElem?_eq_some_iff.1 ky_0).1
  have lr := (Array.getElem?_eq_some_iff.1 kr_0).1
  have lo := (Array.getElem?_eq_some_iff.1 ko_0).1
  refine region_via 13 [(25, .int .i64 0), (26, .int .i64 0), (27, .int .i64 0), (28, .pointer (some ⟨w.heap.size, 0, none⟩)), (29, .pointer (some ⟨w.heap.size, 0, none⟩)), (30, .int .i64 x0), (31, .int .i64 0), (32, .int .i64 0), (33, .pointer (some ⟨w.heap.size + 1, 0, none⟩)), (34, .pointer (some ⟨w.heap.size + 1, 0, none⟩)), (35, .int .i64 y0), (36, .int .i64 (x0 * y0)), (37, .int .i64 (x0 * y0))] (by kernel_rfl) (by decide) (by kernel_rfl) (by kernel_rfl) (by kernel_rfl) (fun aE hpe => ?_)
  simp only [puts, Act.put, List.setIfInBounds_toArray, List.set_cons_zero, List.set_cons_succ] at hpe
  subst hpe
  refine ⟨⟨.inr (.inr ?_), .inr (.inr ?_), .inr (.inr ?_), .inr (.inr ?_), .inr (.inr ?_), .inr (.inr ?_), .inr (.inr ?_), .inr (.inr ?_), .inr (.inr ?_), .inr (.inr ?_), .inr (.inr ?_), .inr (.inr ?_), .inr (.inr ?_), trivial⟩, ?_⟩
  · exact CalmG.mk 25 (.int .i64 0) rfl rfl rfl (fun W hW => calm_move (.tmp 10) rfl rfl)
  · exact CalmG.mk 26 (.int .i64 0) rfl rfl rfl (fun W hW => calm_move (.tmp 8) rfl rfl)
  · exact CalmG.mk 27 (.int .i64 0) rfl rfl rfl (fun W hW => calm_move (.tmp 11) rfl rfl)
  · exact CalmG.mk 28 (.pointer (some ⟨w.heap.size, 0, none⟩)) rfl rfl rfl (fun W hW => calm_run (by simp [execOp, Act.eval, go_sem]))
  · exact CalmG.mk 29 (.pointer (some ⟨w.heap.size, 0, none⟩)) rfl rfl rfl (fun W hW => calm_run (by simp [execOp, Act.eval, go_sem]))
  · exact CalmG.mk 30 (.int .i64 x0) rfl rfl rfl (fun W hW => by have hc := row_int (off := 0) (z := x0) ((hW.block _ lx).trans kx_0) rfl; exact calm_run (by simp [execOp, Act.eval, go_sem, hc]))
  · exact CalmG.mk 31 (.int .i64 0) rfl rfl rfl (fun W hW => calm_move (.tmp 11) rfl rfl)
  · exact CalmG.mk 32 (.int .i64 0) rfl rfl rfl (fun W hW => calm_move (.tmp 9) rfl rfl)
  · exact CalmG.mk 33 (.pointer (some ⟨w.heap.size + 1, 0, none⟩)) rfl rfl rfl (fun W hW => calm_run (by simp [execOp, Act.eval, go_sem]))
  · exact CalmG.mk 34 (.pointer (some ⟨w.heap.size + 1, 0, none⟩)) rfl rfl rfl (fun W hW => calm_run (by simp [execOp, Act.eval, go_sem]))
  · exact CalmG.mk 35 (.int .i64 y0) rfl rfl rfl (fun W hW => by have hc := row_int (off := 0) (z := y0) ((hW.block _ ly).trans ky_0) rfl; exact calm_run (by simp [execOp, Act.eval, go_sem, hc]))
  · exact CalmG.mk 36 (.int .i64 (x0 * y0)) rfl rfl rfl (fun W hW => calm_run (by simp [execOp, Act.eval, go_sem, wmul bx0 by0]))
  · exact CalmG.mk 37 (.int .i64 (x0 * y0)) rfl rfl rfl (fun W hW => calm_run (by simp [execOp, Act.eval, go_sem, wmul bx0 by0]))
  intro V_1 hW
  simp only [List.drop_succ_cons, List.drop_zero]
  have kx_1 := (hW.block _ lx).trans kx_0
  have ky_1 := (hW.block _ ly).trans ky_0
  have kr_1 := (hW.block _ lr).trans kr_0
  have ko_1 := (hW.block _ lo).trans ko_0
  have HB_1 := low_tr' HB_0 hW (by omega)
  clear kx_0 ky_0 kr_0 ko_0 HB_0 lx ly lr lo hW V_0
  go_wp2
  rw [rounds_succ]; go_wp2
  have lx := (Array.getElem?_eq_some_iff.1 kx_1).1
  have ly := (Array.getElem?_eq_some_iff.1 ky_1).1
  have lr := (Array.getElem?_eq_some_iff.1 kr_1).1
  have lo := (Array.getElem?_eq_some_iff.1 ko_1).1
  refine region_via 13 [(25, .int .i64 (x0 * y0)), (26, .int .i64 0), (27, .int .i64 1), (28, .pointer (some ⟨w.heap.size, 0, none⟩)), (29, .pointer (some ⟨w.heap.size, 1, none⟩)), (30, .int .i64 x1), (31, .int .i64 1), (32, .int .i64 0), (33, .pointer (some ⟨w.heap.size + 1, 3, none⟩)), (34, .pointer (some ⟨w.heap.size + 1, 3, none⟩)), (35, .int .i64 y3), (36, .int .i64 (x1 * y3)), (37, .int .i64 (x0 * y0 + x1 * y3))] (by kernel_rfl) (by decide) (by kernel_rfl) (by kernel_rfl) (by kernel_rfl) (fun aE hpe => ?_)
  simp only [puts, Act.put, List.setIfInBounds_toArray, List.set_cons_zero, List.set_cons_succ] at hpe
  subst hpe
  refine ⟨⟨.inr (.inr ?_), .inr (.inr ?_), .inr (.inr ?_), .inr (.inr ?_), .inr (.inr ?_), .inr (.inr ?_), .inr (.inr ?_), .inr (.inr ?_), .inr (.inr ?_), .inr (.inr ?_), .inr (.inr ?_), .inr (.inr ?_), .inr (.inr ?_), trivial⟩, ?_⟩
  · exact CalmG.mk 25 (.int .i64 (x0 * y0)) rfl rfl rfl (fun W hW => calm_move (.tmp 10) rfl rfl)
  · exact CalmG.mk 26 (.int .i64 0) rfl rfl rfl (fun W hW => calm_move (.tmp 8) rfl rfl)
  · exact CalmG.mk 27 (.int .i64 1) rfl rfl rfl (fun W hW => calm_move (.tmp 11) rfl rfl)
  · exact CalmG.mk 28 (.pointer (some ⟨w.heap.size, 0, none⟩)) rfl rfl rfl (fun W hW => calm_run (by simp [execOp, Act.eval, go_sem]))
  · exact CalmG.mk 29 (.pointer (some ⟨w.heap.size, 1, none⟩)) rfl rfl rfl (fun W hW => calm_run (by simp [execOp, Act.eval, go_sem]))
  · exact CalmG.mk 30 (.int .i64 x1) rfl rfl rfl (fun W hW => by have hc := row_int (off := 1) (z := x1) ((hW.block _ lx).trans kx_1) rfl; exact calm_run (by simp [execOp, Act.eval, go_sem, hc]))
  · exact CalmG.mk 31 (.int .i64 1) rfl rfl rfl (fun W hW => calm_move (.tmp 11) rfl rfl)
  · exact CalmG.mk 32 (.int .i64 0) rfl rfl rfl (fun W hW => calm_move (.tmp 9) rfl rfl)
  · exact CalmG.mk 33 (.pointer (some ⟨w.heap.size + 1, 3, none⟩)) rfl rfl rfl (fun W hW => calm_run (by simp [execOp, Act.eval, go_sem]))
  · exact CalmG.mk 34 (.pointer (some ⟨w.heap.size + 1, 3, none⟩)) rfl rfl rfl (fun W hW => calm_run (by simp [execOp, Act.eval, go_sem]))
  · exact CalmG.mk 35 (.int .i64 y3) rfl rfl rfl (fun W hW => by have hc := row_int (off := 3) (z := y3) ((hW.block _ ly).trans ky_1) rfl; exact calm_run (by simp [execOp, Act.eval, go_sem, hc]))
  · exact CalmG.mk 36 (.int .i64 (x1 * y3)) rfl rfl rfl (fun W hW => calm_run (by simp [execOp, Act.eval, go_sem, wmul bx1 by3]))
  · exact CalmG.mk 37 (.int .i64 (x0 * y0 + x1 * y3)) rfl rfl rfl (fun W hW => calm_run (by simp [execOp, Act.eval, go_sem, wadd2 bx0 by0 bx1 by3]))
  intro V_2 hW
  simp only [List.drop_succ_cons, List.drop_zero]
  have kx_2 := (hW.block _ lx).trans kx_1
  have ky_2 := (hW.block _ ly).trans ky_1
  have kr_2 := (hW.block _ lr).trans kr_1
  have ko_2 := (hW.block _ lo).trans ko_1
  have HB_2 := low_tr' HB_1 hW (by omega)
  clear kx_1 ky_1 kr_1 ko_1 HB_1 lx ly lr lo hW V_1
  go_wp2
  rw [rounds_succ]; go_wp2
  have lx := (Array.getElem?_eq_some_iff.1 kx_2).1
  have ly := (Array.getElem?_eq_some_iff.1 ky_2).1
  have lr := (Array.getElem?_eq_some_iff.1 kr_2).1
  have lo := (Array.getElem?_eq_some_iff.1 ko_2).1
  refine region_via 13 [(25, .int .i64 (x0 * y0 + x1 * y3)), (26, .int .i64 0), (27, .int .i64 2), (28, .pointer (some ⟨w.heap.size, 0, none⟩)), (29, .pointer (some ⟨w.heap.size, 2, none⟩)), (30, .int .i64 x2), (31, .int .i64 2), (32, .int .i64 0), (33, .pointer (some ⟨w.heap.size + 1, 6, none⟩)), (34, .pointer (some ⟨w.heap.size + 1, 6, none⟩)), (35, .int .i64 y6), (36, .int .i64 (x2 * y6)), (37, .int .i64 (x0 * y0 + x1 * y3 + x2 * y6))] (by kernel_rfl) (by decide) (by kernel_rfl) (by kernel_rfl) (by kernel_rfl) (fun aE hpe => ?_)
  simp only [puts, Act.put, List.setIfInBounds_toArray, List.set_cons_zero, List.set_cons_succ] at hpe
  subst hpe
  refine ⟨⟨.inr (.inr ?_), .inr (.inr ?_), .inr (.inr ?_), .inr (.inr ?_), .inr (.inr ?_), .inr (.inr ?_), .inr (.inr ?_), .inr (.inr ?_), .inr (.inr ?_), .inr (.inr ?_), .inr (.inr ?_), .inr (.inr ?_), .inr (.inr ?_), trivial⟩, ?_⟩
  · exact CalmG.mk 25 (.int .i64 (x0 * y0 + x1 * y3)) rfl rfl rfl (fun W hW => calm_move (.tmp 10) rfl rfl)
  · exact CalmG.mk 26 (.int .i64 0) rfl rfl rfl (fun W hW => calm_move (.tmp 8) rfl rfl)
  · exact CalmG.mk 27 (.int .i64 2) rfl rfl rfl (fun W hW => calm_move (.tmp 11) rfl rfl)
  · exact CalmG.mk 28 (.pointer (some ⟨w.heap.size, 0, none⟩)) rfl rfl rfl (fun W hW => calm_run (by simp [execOp, Act.eval, go_sem]))
  · exact CalmG.mk 29 (.pointer (some ⟨w.heap.size, 2, none⟩)) rfl rfl rfl (fun W hW => calm_run (by simp [execOp, Act.eval, go_sem]))
  · exact CalmG.mk 30 (.int .i64 x2) rfl rfl rfl (fun W hW => by have hc := row_int (off := 2) (z := x2) ((hW.block _ lx).trans kx_2) rfl; exact calm_run (by simp [execOp, Act.eval, go_sem, hc]))
  · exact CalmG.mk 31 (.int .i64 2) rfl rfl rfl (fun W hW => calm_move (.tmp 11) rfl rfl)
  · exact CalmG.mk 32 (.int .i64 0) rfl rfl rfl (fun W hW => calm_move (.tmp 9) rfl rfl)
  · exact CalmG.mk 33 (.pointer (some ⟨w.heap.size + 1, 6, none⟩)) rfl rfl rfl (fun W hW => calm_run (by simp [execOp, Act.eval, go_sem]))
  · exact CalmG.mk 34 (.pointer (some ⟨w.heap.size + 1, 6, none⟩)) rfl rfl rfl (fun W hW => calm_run (by simp [execOp, Act.eval, go_sem]))
  · exact CalmG.mk 35 (.int .i64 y6) rfl rfl rfl (fun W hW => by have hc := row_int (off := 6) (z := y6) ((hW.block _ ly).trans ky_2) rfl; exact calm_run (by simp [execOp, Act.eval, go_sem, hc]))
  · exact CalmG.mk 36 (.int .i64 (x2 * y6)) rfl rfl rfl (fun W hW => calm_run (by simp [execOp, Act.eval, go_sem, wmul bx2 by6]))
  · exact CalmG.mk 37 (.int .i64 (x0 * y0 + x1 * y3 + x2 * y6)) rfl rfl rfl (fun W hW => calm_run (by simp [execOp, Act.eval, go_sem, wadd3 bx0 by0 bx1 by3 bx2 by6]))
  intro V_3 hW
  simp only [List.drop_succ_cons, List.drop_zero]
  have kx_3 := (hW.block _ lx).trans kx_2
  have ky_3 := (hW.block _ ly).trans ky_2
  have kr_3 := (hW.block _ lr).trans kr_2
  have ko_3 := (hW.block _ lo).trans ko_2
  have HB_3 := low_tr' HB_2 hW (by omega)
  clear kx_2 ky_2 kr_2 ko_2 HB_2 lx ly lr lo hW V_2
  go_wp2
  rw [rounds_succ]; go_wp2
  have lx := (Array.getElem?_eq_some_iff.1 kx_3).1
  have ly := (Array.getElem?_eq_some_iff.1 ky_3).1
  have lr := (Array.getElem?_eq_some_iff.1 kr_3).1
  have lo := (Array.getElem?_eq_some_iff.1 ko_3).1
  refine region_via 7 [(38, .int .i64 0), (39, .int .i64 0), (40, .int .i64 (x0 * y0 + x1 * y3 + x2 * y6)), (41, .int .i64 p), (42, .int .i64 ((x0 * y0 + x1 * y3 + x2 * y6) % p)), (43, .pointer (some ⟨w.heap.size + 1 + 1 + 1, 0, none⟩)), (44, .pointer (some ⟨w.heap.size + 1 + 1 + 1, 0, none⟩))] (by kernel_rfl) (by decide) (by kernel_rfl) (by kernel_rfl) (by kernel_rfl) (fun aE hpe => ?_)
  simp only [puts, Act.put, List.setIfInBounds_toArray, List.set_cons_zero, List.set_cons_succ] at hpe
  subst hpe
  refine ⟨⟨.inr (.inr ?_), .inr (.inr ?_), .inr (.inr ?_), .inr (.inr ?_), .inr (.inr ?_), .inr (.inr ?_), .inr (.inr ?_), trivial⟩, ?_⟩
  · exact CalmG.mk 38 (.int .i64 0) rfl rfl rfl (fun W hW => calm_move (.tmp 8) rfl rfl)
  · exact CalmG.mk 39 (.int .i64 0) rfl rfl rfl (fun W hW => calm_move (.tmp 9) rfl rfl)
  · exact CalmG.mk 40 (.int .i64 (x0 * y0 + x1 * y3 + x2 * y6)) rfl rfl rfl (fun W hW => calm_move (.tmp 10) rfl rfl)
  · exact CalmG.mk 41 (.int .i64 p) rfl rfl rfl (fun W hW => calm_move (.tmp 0) rfl rfl)
  · exact CalmG.mk 42 (.int .i64 ((x0 * y0 + x1 * y3 + x2 * y6) % p)) rfl rfl rfl (fun W hW => by have e0 := dot12 bx0 by0 bx1 by3 bx2 by6; have e1 := Int.tmod_eq_emod_of_nonneg (b := p) e0; have e2 := wrap_small (modb (z := (x0 * y0 + x1 * y3 + x2 * y6)) hpb); have e3 : (p == 0) = false := (by simp; omega); exact calm_run (by simp [execOp, Act.eval, go_sem, e0, e1, e2, e3, (show ¬ p = 0 by omega)]))
  · exact CalmG.mk 43 (.pointer (some ⟨w.heap.size + 1 + 1 + 1, 0, none⟩)) rfl rfl rfl (fun W hW => calm_run (by simp [execOp, Act.eval, go_sem]))
  · exact CalmG.mk 44 (.pointer (some ⟨w.heap.size + 1 + 1 + 1, 0, none⟩)) rfl rfl rfl (fun W hW => calm_run (by simp [execOp, Act.eval, go_sem]))
  intro W hW
  simp only [List.drop_succ_cons, List.drop_zero]
  refine wpList_store1 _ rfl 2 (.tmp 44) (.tmp 42) rfl rfl (g := w.heap.size + 1 + 1 + 1) (off := 0) (T := 31) (cs := #[.int .i64 0, .int .i64 0, .int .i64 0, .int .i64 0, .int .i64 0, .int .i64 0, .int .i64 0, .int .i64 0, .int .i64 0]) (cs' := #[.int .i64 (((x0 * y0 + x1 * y3 + x2 * y6) % p)), .int .i64 0, .int .i64 0, .int .i64 0, .int .i64 0, .int .i64 0, .int .i64 0, .int .i64 0, .int .i64 0]) (z := ((x0 * y0 + x1 * y3 + x2 * y6) % p)) rfl rfl ((hW.block _ lo).trans ko_3) (Nat.le_of_ble_eq_true rfl) rfl Tryz.sizeOf2 ?_
  refine wpList_nil ?_
  have kx_4 := (setRow_other W (w.heap.size + 1 + 1 + 1) (w.heap.size) #[.int .i64 (((x0 * y0 + x1 * y3 + x2 * y6) % p)), .int .i64 0, .int .i64 0, .int .i64 0, .int .i64 0, .int .i64 0, .int .i64 0, .int .i64 0, .int .i64 0] (by omega)).trans ((hW.block _ lx).trans kx_3)
  have ky_4 := (setRow_other W (w.heap.size + 1 + 1 + 1) (w.heap.size + 1) #[.int .i64 (((x0 * y0 + x1 * y3 + x2 * y6) % p)), .int .i64 0, .int .i64 0, .int .i64 0, .int .i64 0, .int .i64 0, .int .i64 0, .int .i64 0, .int .i64 0] (by omega)).trans ((hW.block _ ly).trans ky_3)
  have kr_4 := (setRow_other W (w.heap.size + 1 + 1 + 1) (w.heap.size + 1 + 1) #[.int .i64 (((x0 * y0 + x1 * y3 + x2 * y6) % p)), .int .i64 0, .int .i64 0, .int .i64 0, .int .i64 0, .int .i64 0, .int .i64 0, .int .i64 0, .int .i64 0] (by omega)).trans ((hW.block _ lr).trans kr_3)
  have ko_4 := setRow_heap W (w.heap.size + 1 + 1 + 1) _ #[.int .i64 (((x0 * y0 + x1 * y3 + x2 * y6) % p)), .int .i64 0, .int .i64 0, .int .i64 0, .int .i64 0, .int .i64 0, .int .i64 0, .int .i64 0, .int .i64 0] _ _ ((hW.block _ lo).trans ko_3)
  have HB_4 : Below w.heap.size w (W.setRow (w.heap.size + 1 + 1 + 1) #[.int .i64 (((x0 * y0 + x1 * y3 + x2 * y6) % p)), .int .i64 0, .int .i64 0, .int .i64 0, .int .i64 0, .int .i64 0, .int .i64 0, .int .i64 0, .int .i64 0]) := below_setRowN (low_tr' HB_3 hW (by omega)) (by omega) _
  clear kx_3 ky_3 kr_3 ko_3 HB_3 lx ly lr lo hW
  generalize W.setRow (w.heap.size + 1 + 1 + 1) #[.int .i64 (((x0 * y0 + x1 * y3 + x2 * y6) % p)), .int .i64 0, .int .i64 0, .int .i64 0, .int .i64 0, .int .i64 0, .int .i64 0, .int .i64 0, .int .i64 0] = V_4 at *
  clear V_3
  go_wp2
  rw [rounds_succ]; go_wp2
  refine wp_loop_rounds 4 ?_
  rw [rounds_succ]; go_wp2
  have lx := (Array.getElem?_eq_some_iff.1 kx_4).1
  have ly := (Array.getElem?_eq_some_iff.1 ky_4).1
  have lr := (Array.getElem?_eq_some_iff.1 kr_4).1
  have lo := (Array.getElem?_eq_some_iff.1 ko_4).1
  refine region_via 13 [(25, .int .i64 0), (26, .int .i64 0), (27, .int .i64 0), (28, .pointer (some ⟨w.heap.size, 0, none⟩)), (29, .pointer (some ⟨w.heap.size, 0, none⟩)), (30, .int .i64 x0), (31, .int .i64 0), (32, .int .i64 1), (33, .pointer (some ⟨w.heap.size + 1, 0, none⟩)), (34, .pointer (some ⟨w.heap.size + 1, 1, none⟩)), (35, .int .i64 y1), (36, .int .i64 (x0 * y1)), (37, .int .i64 (x0 * y1))] (by kernel_rfl) (by decide) (by kernel_rfl) (by kernel_rfl) (by kernel_rfl) (fun aE hpe => ?_)
  simp only [puts, Act.put, List.setIfInBounds_toArray, List.set_cons_zero, List.set_cons_succ] at hpe
  subst hpe
  refine ⟨⟨.inr (.inr ?_), .inr (.inr ?_), .inr (.inr ?_), .inr (.inr ?_), .inr (.inr ?_), .inr (.inr ?_), .inr (.inr ?_), .inr (.inr ?_), .inr (.inr ?_), .inr (.inr ?_), .inr (.inr ?_), .inr (.inr ?_), .inr (.inr ?_), trivial⟩, ?_⟩
  · exact CalmG.mk 25 (.int .i64 0) rfl rfl rfl (fun W hW => calm_move (.tmp 10) rfl rfl)
  · exact CalmG.mk 26 (.int .i64 0) rfl rfl rfl (fun W hW => calm_move (.tmp 8) rfl rfl)
  · exact CalmG.mk 27 (.int .i64 0) rfl rfl rfl (fun W hW => calm_move (.tmp 11) rfl rfl)
  · exact CalmG.mk 28 (.pointer (some ⟨w.heap.size, 0, none⟩)) rfl rfl rfl (fun W hW => calm_run (by simp [execOp, Act.eval, go_sem]))
  · exact CalmG.mk 29 (.pointer (some ⟨w.heap.size, 0, none⟩)) rfl rfl rfl (fun W hW => calm_run (by simp [execOp, Act.eval, go_sem]))
  · exact CalmG.mk 30 (.int .i64 x0) rfl rfl rfl (fun W hW => by have hc := row_int (off := 0) (z := x0) ((hW.block _ lx).trans kx_4) rfl; exact calm_run (by simp [execOp, Act.eval, go_sem, hc]))
  · exact CalmG.mk 31 (.int .i64 0) rfl rfl rfl (fun W hW => calm_move (.tmp 11) rfl rfl)
  · exact CalmG.mk 32 (.int .i64 1) rfl rfl rfl (fun W hW => calm_move (.tmp 9) rfl rfl)
  · exact CalmG.mk 33 (.pointer (some ⟨w.heap.size + 1, 0, none⟩)) rfl rfl rfl (fun W hW => calm_run (by simp [execOp, Act.eval, go_sem]))
  · exact CalmG.mk 34 (.pointer (some ⟨w.heap.size + 1, 1, none⟩)) rfl rfl rfl (fun W hW => calm_run (by simp [execOp, Act.eval, go_sem]))
  · exact CalmG.mk 35 (.int .i64 y1) rfl rfl rfl (fun W hW => by have hc := row_int (off := 1) (z := y1) ((hW.block _ ly).trans ky_4) rfl; exact calm_run (by simp [execOp, Act.eval, go_sem, hc]))
  · exact CalmG.mk 36 (.int .i64 (x0 * y1)) rfl rfl rfl (fun W hW => calm_run (by simp [execOp, Act.eval, go_sem, wmul bx0 by1]))
  · exact CalmG.mk 37 (.int .i64 (x0 * y1)) rfl rfl rfl (fun W hW => calm_run (by simp [execOp, Act.eval, go_sem, wmul bx0 by1]))
  intro V_5 hW
  simp only [List.drop_succ_cons, List.drop_zero]
  have kx_5 := (hW.block _ lx).trans kx_4
  have ky_5 := (hW.block _ ly).trans ky_4
  have kr_5 := (hW.block _ lr).trans kr_4
  have ko_5 := (hW.block _ lo).trans ko_4
  have HB_5 := low_tr' HB_4 hW (by omega)
  clear kx_4 ky_4 kr_4 ko_4 HB_4 lx ly lr lo hW V_4
  go_wp2
  rw [rounds_succ]; go_wp2
  have lx := (Array.getElem?_eq_some_iff.1 kx_5).1
  have ly := (Array.getElem?_eq_some_iff.1 ky_5).1
  have lr := (Array.getElem?_eq_some_iff.1 kr_5).1
  have lo := (Array.getElem?_eq_some_iff.1 ko_5).1
  refine region_via 13 [(25, .int .i64 (x0 * y1)), (26, .int .i64 0), (27, .int .i64 1), (28, .pointer (some ⟨w.heap.size, 0, none⟩)), (29, .pointer (some ⟨w.heap.size, 1, none⟩)), (30, .int .i64 x1), (31, .int .i64 1), (32, .int .i64 1), (33, .pointer (some ⟨w.heap.size + 1, 3, none⟩)), (34, .pointer (some ⟨w.heap.size + 1, 4, none⟩)), (35, .int .i64 y4), (36, .int .i64 (x1 * y4)), (37, .int .i64 (x0 * y1 + x1 * y4))] (by kernel_rfl) (by decide) (by kernel_rfl) (by kernel_rfl) (by kernel_rfl) (fun aE hpe => ?_)
  simp only [puts, Act.put, List.setIfInBounds_toArray, List.set_cons_zero, List.set_cons_succ] at hpe
  subst hpe
  refine ⟨⟨.inr (.inr ?_), .inr (.inr ?_), .inr (.inr ?_), .inr (.inr ?_), .inr (.inr ?_), .inr (.inr ?_), .inr (.inr ?_), .inr (.inr ?_), .inr (.inr ?_), .inr (.inr ?_), .inr (.inr ?_), .inr (.inr ?_), .inr (.inr ?_), trivial⟩, ?_⟩
  · exact CalmG.mk 25 (.int .i64 (x0 * y1)) rfl rfl rfl (fun W hW => calm_move (.tmp 10) rfl rfl)
  · exact CalmG.mk 26 (.int .i64 0) rfl rfl rfl (fun W hW => calm_move (.tmp 8) rfl rfl)
  · exact CalmG.mk 27 (.int .i64 1) rfl rfl rfl (fun W hW => calm_move (.tmp 11) rfl rfl)
  · exact CalmG.mk 28 (.pointer (some ⟨w.heap.size, 0, none⟩)) rfl rfl rfl (fun W hW => calm_run (by simp [execOp, Act.eval, go_sem]))
  · exact CalmG.mk 29 (.pointer (some ⟨w.heap.size, 1, none⟩)) rfl rfl rfl (fun W hW => calm_run (by simp [execOp, Act.eval, go_sem]))
  · exact CalmG.mk 30 (.int .i64 x1) rfl rfl rfl (fun W hW => by have hc := row_int (off := 1) (z := x1) ((hW.block _ lx).trans kx_5) rfl; exact calm_run (by simp [execOp, Act.eval, go_sem, hc]))
  · exact CalmG.mk 31 (.int .i64 1) rfl rfl rfl (fun W hW => calm_move (.tmp 11) rfl rfl)
  · exact CalmG.mk 32 (.int .i64 1) rfl rfl rfl (fun W hW => calm_move (.tmp 9) rfl rfl)
  · exact CalmG.mk 33 (.pointer (some ⟨w.heap.size + 1, 3, none⟩)) rfl rfl rfl (fun W hW => calm_run (by simp [execOp, Act.eval, go_sem]))
  · exact CalmG.mk 34 (.pointer (some ⟨w.heap.size + 1, 4, none⟩)) rfl rfl rfl (fun W hW => calm_run (by simp [execOp, Act.eval, go_sem]))
  · exact CalmG.mk 35 (.int .i64 y4) rfl rfl rfl (fun W hW => by have hc := row_int (off := 4) (z := y4) ((hW.block _ ly).trans ky_5) rfl; exact calm_run (by simp [execOp, Act.eval, go_sem, hc]))
  · exact CalmG.mk 36 (.int .i64 (x1 * y4)) rfl rfl rfl (fun W hW => calm_run (by simp [execOp, Act.eval, go_sem, wmul bx1 by4]))
  · exact CalmG.mk 37 (.int .i64 (x0 * y1 + x1 * y4)) rfl rfl rfl (fun W hW => calm_run (by simp [execOp, Act.eval, go_sem, wadd2 bx0 by1 bx1 by4]))
  intro V_6 hW
  simp only [List.drop_succ_cons, List.drop_zero]
  have kx_6 := (hW.block _ lx).trans kx_5
  have ky_6 := (hW.block _ ly).trans ky_5
  have kr_6 := (hW.block _ lr).trans kr_5
  have ko_6 := (hW.block _ lo).trans ko_5
  have HB_6 := low_tr' HB_5 hW (by omega)
  clear kx_5 ky_5 kr_5 ko_5 HB_5 lx ly lr lo hW V_5
  go_wp2
  rw [rounds_succ]; go_wp2
  have lx := (Array.getElem?_eq_some_iff.1 kx_6).1
  have ly := (Array.getElem?_eq_some_iff.1 ky_6).1
  have lr := (Array.getElem?_eq_some_iff.1 kr_6).1
  have lo := (Array.getElem?_eq_some_iff.1 ko_6).1
  refine region_via 13 [(25, .int .i64 (x0 * y1 + x1 * y4)), (26, .int .i64 0), (27, .int .i64 2), (28, .pointer (some ⟨w.heap.size, 0, none⟩)), (29, .pointer (some ⟨w.heap.size, 2, none⟩)), (30, .int .i64 x2), (31, .int .i64 2), (32, .int .i64 1), (33, .pointer (some ⟨w.heap.size + 1, 6, none⟩)), (34, .pointer (some ⟨w.heap.size + 1, 7, none⟩)), (35, .int .i64 y7), (36, .int .i64 (x2 * y7)), (37, .int .i64 (x0 * y1 + x1 * y4 + x2 * y7))] (by kernel_rfl) (by decide) (by kernel_rfl) (by kernel_rfl) (by kernel_rfl) (fun aE hpe => ?_)
  simp only [puts, Act.put, List.setIfInBounds_toArray, List.set_cons_zero, List.set_cons_succ] at hpe
  subst hpe
  refine ⟨⟨.inr (.inr ?_), .inr (.inr ?_), .inr (.inr ?_), .inr (.inr ?_), .inr (.inr ?_), .inr (.inr ?_), .inr (.inr ?_), .inr (.inr ?_), .inr (.inr ?_), .inr (.inr ?_), .inr (.inr ?_), .inr (.inr ?_), .inr (.inr ?_), trivial⟩, ?_⟩
  · exact CalmG.mk 25 (.int .i64 (x0 * y1 + x1 * y4)) rfl rfl rfl (fun W hW => calm_move (.tmp 10) rfl rfl)
  · exact CalmG.mk 26 (.int .i64 0) rfl rfl rfl (fun W hW => calm_move (.tmp 8) rfl rfl)
  · exact CalmG.mk 27 (.int .i64 2) rfl rfl rfl (fun W hW => calm_move (.tmp 11) rfl rfl)
  · exact CalmG.mk 28 (.pointer (some ⟨w.heap.size, 0, none⟩)) rfl rfl rfl (fun W hW => calm_run (by simp [execOp, Act.eval, go_sem]))
  · exact CalmG.mk 29 (.pointer (some ⟨w.heap.size, 2, none⟩)) rfl rfl rfl (fun W hW => calm_run (by simp [execOp, Act.eval, go_sem]))
  · exact CalmG.mk 30 (.int .i64 x2) rfl rfl rfl (fun W hW => by have hc := row_int (off := 2) (z := x2) ((hW.block _ lx).trans kx_6) rfl; exact calm_run (by simp [execOp, Act.eval, go_sem, hc]))
  · exact CalmG.mk 31 (.int .i64 2) rfl rfl rfl (fun W hW => calm_move (.tmp 11) rfl rfl)
  · exact CalmG.mk 32 (.int .i64 1) rfl rfl rfl (fun W hW => calm_move (.tmp 9) rfl rfl)
  · exact CalmG.mk 33 (.pointer (some ⟨w.heap.size + 1, 6, none⟩)) rfl rfl rfl (fun W hW => calm_run (by simp [execOp, Act.eval, go_sem]))
  · exact CalmG.mk 34 (.pointer (some ⟨w.heap.size + 1, 7, none⟩)) rfl rfl rfl (fun W hW => calm_run (by simp [execOp, Act.eval, go_sem]))
  · exact CalmG.mk 35 (.int .i64 y7) rfl rfl rfl (fun W hW => by have hc := row_int (off := 7) (z := y7) ((hW.block _ ly).trans ky_6) rfl; exact calm_run (by simp [execOp, Act.eval, go_sem, hc]))
  · exact CalmG.mk 36 (.int .i64 (x2 * y7)) rfl rfl rfl (fun W hW => calm_run (by simp [execOp, Act.eval, go_sem, wmul bx2 by7]))
  · exact CalmG.mk 37 (.int .i64 (x0 * y1 + x1 * y4 + x2 * y7)) rfl rfl rfl (fun W hW => calm_run (by simp [execOp, Act.eval, go_sem, wadd3 bx0 by1 bx1 by4 bx2 by7]))
  intro V_7 hW
  simp only [List.drop_succ_cons, List.drop_zero]
  have kx_7 := (hW.block _ lx).trans kx_6
  have ky_7 := (hW.block _ ly).trans ky_6
  have kr_7 := (hW.block _ lr).trans kr_6
  have ko_7 := (hW.block _ lo).trans ko_6
  have HB_7 := low_tr' HB_6 hW (by omega)
  clear kx_6 ky_6 kr_6 ko_6 HB_6 lx ly lr lo hW V_6
  go_wp2
  rw [rounds_succ]; go_wp2
  have lx := (Array.getElem?_eq_some_iff.1 kx_7).1
  have ly := (Array.getElem?_eq_some_iff.1 ky_7).1
  have lr := (Array.getElem?_eq_some_iff.1 kr_7).1
  have lo := (Array.getElem?_eq_some_iff.1 ko_7).1
  refine region_via 7 [(38, .int .i64 0), (39, .int .i64 1), (40, .int .i64 (x0 * y1 + x1 * y4 + x2 * y7)), (41, .int .i64 p), (42, .int .i64 ((x0 * y1 + x1 * y4 + x2 * y7) % p)), (43, .pointer (some ⟨w.heap.size + 1 + 1 + 1, 0, none⟩)), (44, .pointer (some ⟨w.heap.size + 1 + 1 + 1, 1, none⟩))] (by kernel_rfl) (by decide) (by kernel_rfl) (by kernel_rfl) (by kernel_rfl) (fun aE hpe => ?_)
  simp only [puts, Act.put, List.setIfInBounds_toArray, List.set_cons_zero, List.set_cons_succ] at hpe
  subst hpe
  refine ⟨⟨.inr (.inr ?_), .inr (.inr ?_), .inr (.inr ?_), .inr (.inr ?_), .inr (.inr ?_), .inr (.inr ?_), .inr (.inr ?_), trivial⟩, ?_⟩
  · exact CalmG.mk 38 (.int .i64 0) rfl rfl rfl (fun W hW => calm_move (.tmp 8) rfl rfl)
  · exact CalmG.mk 39 (.int .i64 1) rfl rfl rfl (fun W hW => calm_move (.tmp 9) rfl rfl)
  · exact CalmG.mk 40 (.int .i64 (x0 * y1 + x1 * y4 + x2 * y7)) rfl rfl rfl (fun W hW => calm_move (.tmp 10) rfl rfl)
  · exact CalmG.mk 41 (.int .i64 p) rfl rfl rfl (fun W hW => calm_move (.tmp 0) rfl rfl)
  · exact CalmG.mk 42 (.int .i64 ((x0 * y1 + x1 * y4 + x2 * y7) % p)) rfl rfl rfl (fun W hW => by have e0 := dot12 bx0 by1 bx1 by4 bx2 by7; have e1 := Int.tmod_eq_emod_of_nonneg (b := p) e0; have e2 := wrap_small (modb (z := (x0 * y1 + x1 * y4 + x2 * y7)) hpb); have e3 : (p == 0) = false := (by simp; omega); exact calm_run (by simp [execOp, Act.eval, go_sem, e0, e1, e2, e3, (show ¬ p = 0 by omega)]))
  · exact CalmG.mk 43 (.pointer (some ⟨w.heap.size + 1 + 1 + 1, 0, none⟩)) rfl rfl rfl (fun W hW => calm_run (by simp [execOp, Act.eval, go_sem]))
  · exact CalmG.mk 44 (.pointer (some ⟨w.heap.size + 1 + 1 + 1, 1, none⟩)) rfl rfl rfl (fun W hW => calm_run (by simp [execOp, Act.eval, go_sem]))
  intro W hW
  simp only [List.drop_succ_cons, List.drop_zero]
  refine wpList_store1 _ rfl 2 (.tmp 44) (.tmp 42) rfl rfl (g := w.heap.size + 1 + 1 + 1) (off := 1) (T := 31) (cs := #[.int .i64 (((x0 * y0 + x1 * y3 + x2 * y6) % p)), .int .i64 0, .int .i64 0, .int .i64 0, .int .i64 0, .int .i64 0, .int .i64 0, .int .i64 0, .int .i64 0]) (cs' := #[.int .i64 (((x0 * y0 + x1 * y3 + x2 * y6) % p)), .int .i64 (((x0 * y1 + x1 * y4 + x2 * y7) % p)), .int .i64 0, .int .i64 0, .int .i64 0, .int .i64 0, .int .i64 0, .int .i64 0, .int .i64 0]) (z := ((x0 * y1 + x1 * y4 + x2 * y7) % p)) rfl rfl ((hW.block _ lo).trans ko_7) (Nat.le_of_ble_eq_true rfl) rfl Tryz.sizeOf2 ?_
  refine wpList_nil ?_
  have kx_8 := (setRow_other W (w.heap.size + 1 + 1 + 1) (w.heap.size) #[.int .i64 (((x0 * y0 + x1 * y3 + x2 * y6) % p)), .int .i64 (((x0 * y1 + x1 * y4 + x2 * y7) % p)), .int .i64 0, .int .i64 0, .int .i64 0, .int .i64 0, .int .i64 0, .int .i64 0, .int .i64 0] (by omega)).trans ((hW.block _ lx).trans kx_7)
  have ky_8 := (setRow_other W (w.heap.size + 1 + 1 + 1) (w.heap.size + 1) #[.int .i64 (((x0 * y0 + x1 * y3 + x2 * y6) % p)), .int .i64 (((x0 * y1 + x1 * y4 + x2 * y7) % p)), .int .i64 0, .int .i64 0, .int .i64 0, .int .i64 0, .int .i64 0, .int .i64 0, .int .i64 0] (by omega)).trans ((hW.block _ ly).trans ky_7)
  have kr_8 := (setRow_other W (w.heap.size + 1 + 1 + 1) (w.heap.size + 1 + 1) #[.int .i64 (((x0 * y0 + x1 * y3 + x2 * y6) % p)), .int .i64 (((x0 * y1 + x1 * y4 + x2 * y7) % p)), .int .i64 0, .int .i64 0, .int .i64 0, .int .i64 0, .int .i64 0, .int .i64 0, .int .i64 0] (by omega)).trans ((hW.block _ lr).trans kr_7)
  have ko_8 := setRow_heap W (w.heap.size + 1 + 1 + 1) _ #[.int .i64 (((x0 * y0 + x1 * y3 + x2 * y6) % p)), .int .i64 (((x0 * y1 + x1 * y4 + x2 * y7) % p)), .int .i64 0, .int .i64 0, .int .i64 0, .int .i64 0, .int .i64 0, .int .i64 0, .int .i64 0] _ _ ((hW.block _ lo).trans ko_7)
  have HB_8 : Below w.heap.size w (W.setRow (w.heap.size + 1 + 1 + 1) #[.int .i64 (((x0 * y0 + x1 * y3 + x2 * y6) % p)), .int .i64 (((x0 * y1 + x1 * y4 + x2 * y7) % p)), .int .i64 0, .int .i64 0, .int .i64 0, .int .i64 0, .int .i64 0, .int .i64 0, .int .i64 0]) := below_setRowN (low_tr' HB_7 hW (by omega)) (by omega) _
  clear kx_7 ky_7 kr_7 ko_7 HB_7 lx ly lr lo hW
  generalize W.setRow (w.heap.size + 1 + 1 + 1) #[.int .i64 (((x0 * y0 + x1 * y3 + x2 * y6) % p)), .int .i64 (((x0 * y1 + x1 * y4 + x2 * y7) % p)), .int .i64 0, .int .i64 0, .int .i64 0, .int .i64 0, .int .i64 0, .int .i64 0, .int .i64 0] = V_8 at *
  clear V_7
  go_wp2
  rw [rounds_succ]; go_wp2
  refine wp_loop_rounds 4 ?_
  rw [rounds_succ]; go_wp2
  have lx := (Array.getElem?_eq_some_iff.1 kx_8).1
  have ly := (Array.getElem?_eq_some_iff.1 ky_8).1
  have lr := (Array.getElem?_eq_some_iff.1 kr_8).1
  have lo := (Array.getElem?_eq_some_iff.1 ko_8).1
  refine region_via 13 [(25, .int .i64 0), (26, .int .i64 0), (27, .int .i64 0), (28, .pointer (some ⟨w.heap.size, 0, none⟩)), (29, .pointer (some ⟨w.heap.size, 0, none⟩)), (30, .int .i64 x0), (31, .int .i64 0), (32, .int .i64 2), (33, .pointer (some ⟨w.heap.size + 1, 0, none⟩)), (34, .pointer (some ⟨w.heap.size + 1, 2, none⟩)), (35, .int .i64 y2), (36, .int .i64 (x0 * y2)), (37, .int .i64 (x0 * y2))] (by kernel_rfl) (by decide) (by kernel_rfl) (by kernel_rfl) (by kernel_rfl) (fun aE hpe => ?_)
  simp only [puts, Act.put, List.setIfInBounds_toArray, List.set_cons_zero, List.set_cons_succ] at hpe
  subst hpe
  refine ⟨⟨.inr (.inr ?_), .inr (.inr ?_), .inr (.inr ?_), .inr (.inr ?_), .inr (.inr ?_), .inr (.inr ?_), .inr (.inr ?_), .inr (.inr ?_), .inr (.inr ?_), .inr (.inr ?_), .inr (.inr ?_), .inr (.inr ?_), .inr (.inr ?_), trivial⟩, ?_⟩
  · exact CalmG.mk 25 (.int .i64 0) rfl rfl rfl (fun W hW => calm_move (.tmp 10) rfl rfl)
  · exact CalmG.mk 26 (.int .i64 0) rfl rfl rfl (fun W hW => calm_move (.tmp 8) rfl rfl)
  · exact CalmG.mk 27 (.int .i64 0) rfl rfl rfl (fun W hW => calm_move (.tmp 11) rfl rfl)
  · exact CalmG.mk 28 (.pointer (some ⟨w.heap.size, 0, none⟩)) rfl rfl rfl (fun W hW => calm_run (by simp [execOp, Act.eval, go_sem]))
  · exact CalmG.mk 29 (.pointer (some ⟨w.heap.size, 0, none⟩)) rfl rfl rfl (fun W hW => calm_run (by simp [execOp, Act.eval, go_sem]))
  · exact CalmG.mk 30 (.int .i64 x0) rfl rfl rfl (fun W hW => by have hc := row_int (off := 0) (z := x0) ((hW.block _ lx).trans kx_8) rfl; exact calm_run (by simp [execOp, Act.eval, go_sem, hc]))
  · exact CalmG.mk 31 (.int .i64 0) rfl rfl rfl (fun W hW => calm_move (.tmp 11) rfl rfl)
  · exact CalmG.mk 32 (.int .i64 2) rfl rfl rfl (fun W hW => calm_move (.tmp 9) rfl rfl)
  · exact CalmG.mk 33 (.pointer (some ⟨w.heap.size + 1, 0, none⟩)) rfl rfl rfl (fun W hW => calm_run (by simp [execOp, Act.eval, go_sem]))
  · exact CalmG.mk 34 (.pointer (some ⟨w.heap.size + 1, 2, none⟩)) rfl rfl rfl (fun W hW => calm_run (by simp [execOp, Act.eval, go_sem]))
  · exact CalmG.mk 35 (.int .i64 y2) rfl rfl rfl (fun W hW => by have hc := row_int (off := 2) (z := y2) ((hW.block _ ly).trans ky_8) rfl; exact calm_run (by simp [execOp, Act.eval, go_sem, hc]))
  · exact CalmG.mk 36 (.int .i64 (x0 * y2)) rfl rfl rfl (fun W hW => calm_run (by simp [execOp, Act.eval, go_sem, wmul bx0 by2]))
  · exact CalmG.mk 37 (.int .i64 (x0 * y2)) rfl rfl rfl (fun W hW => calm_run (by simp [execOp, Act.eval, go_sem, wmul bx0 by2]))
  intro V_9 hW
  simp only [List.drop_succ_cons, List.drop_zero]
  have kx_9 := (hW.block _ lx).trans kx_8
  have ky_9 := (hW.block _ ly).trans ky_8
  have kr_9 := (hW.block _ lr).trans kr_8
  have ko_9 := (hW.block _ lo).trans ko_8
  have HB_9 := low_tr' HB_8 hW (by omega)
  clear kx_8 ky_8 kr_8 ko_8 HB_8 lx ly lr lo hW V_8
  go_wp2
  rw [rounds_succ]; go_wp2
  have lx := (Array.getElem?_eq_some_iff.1 kx_9).1
  have ly := (Array.getElem?_eq_some_iff.1 ky_9).1
  have lr := (Array.getElem?_eq_some_iff.1 kr_9).1
  have lo := (Array.getElem?_eq_some_iff.1 ko_9).1
  refine region_via 13 [(25, .int .i64 (x0 * y2)), (26, .int .i64 0), (27, .int .i64 1), (28, .pointer (some ⟨w.heap.size, 0, none⟩)), (29, .pointer (some ⟨w.heap.size, 1, none⟩)), (30, .int .i64 x1), (31, .int .i64 1), (32, .int .i64 2), (33, .pointer (some ⟨w.heap.size + 1, 3, none⟩)), (34, .pointer (some ⟨w.heap.size + 1, 5, none⟩)), (35, .int .i64 y5), (36, .int .i64 (x1 * y5)), (37, .int .i64 (x0 * y2 + x1 * y5))] (by kernel_rfl) (by decide) (by kernel_rfl) (by kernel_rfl) (by kernel_rfl) (fun aE hpe => ?_)
  simp only [puts, Act.put, List.setIfInBounds_toArray, List.set_cons_zero, List.set_cons_succ] at hpe
  subst hpe
  refine ⟨⟨.inr (.inr ?_), .inr (.inr ?_), .inr (.inr ?_), .inr (.inr ?_), .inr (.inr ?_), .inr (.inr ?_), .inr (.inr ?_), .inr (.inr ?_), .inr (.inr ?_), .inr (.inr ?_), .inr (.inr ?_), .inr (.inr ?_), .inr (.inr ?_), trivial⟩, ?_⟩
  · exact CalmG.mk 25 (.int .i64 (x0 * y2)) rfl rfl rfl (fun W hW => calm_move (.tmp 10) rfl rfl)
  · exact CalmG.mk 26 (.int .i64 0) rfl rfl rfl (fun W hW => calm_move (.tmp 8) rfl rfl)
  · exact CalmG.mk 27 (.int .i64 1) rfl rfl rfl (fun W hW => calm_move (.tmp 11) rfl rfl)
  · exact CalmG.mk 28 (.pointer (some ⟨w.heap.size, 0, none⟩)) rfl rfl rfl (fun W hW => calm_run (by simp [execOp, Act.eval, go_sem]))
  · exact CalmG.mk 29 (.pointer (some ⟨w.heap.size, 1, none⟩)) rfl rfl rfl (fun W hW => calm_run (by simp [execOp, Act.eval, go_sem]))
  · exact CalmG.mk 30 (.int .i64 x1) rfl rfl rfl (fun W hW => by have hc := row_int (off := 1) (z := x1) ((hW.block _ lx).trans kx_9) rfl; exact calm_run (by simp [execOp, Act.eval, go_sem, hc]))
  · exact CalmG.mk 31 (.int .i64 1) rfl rfl rfl (fun W hW => calm_move (.tmp 11) rfl rfl)
  · exact CalmG.mk 32 (.int .i64 2) rfl rfl rfl (fun W hW => calm_move (.tmp 9) rfl rfl)
  · exact CalmG.mk 33 (.pointer (some ⟨w.heap.size + 1, 3, none⟩)) rfl rfl rfl (fun W hW => calm_run (by simp [execOp, Act.eval, go_sem]))
  · exact CalmG.mk 34 (.pointer (some ⟨w.heap.size + 1, 5, none⟩)) rfl rfl rfl (fun W hW => calm_run (by simp [execOp, Act.eval, go_sem]))
  · exact CalmG.mk 35 (.int .i64 y5) rfl rfl rfl (fun W hW => by have hc := row_int (off := 5) (z := y5) ((hW.block _ ly).trans ky_9) rfl; exact calm_run (by simp [execOp, Act.eval, go_sem, hc]))
  · exact CalmG.mk 36 (.int .i64 (x1 * y5)) rfl rfl rfl (fun W hW => calm_run (by simp [execOp, Act.eval, go_sem, wmul bx1 by5]))
  · exact CalmG.mk 37 (.int .i64 (x0 * y2 + x1 * y5)) rfl rfl rfl (fun W hW => calm_run (by simp [execOp, Act.eval, go_sem, wadd2 bx0 by2 bx1 by5]))
  intro V_10 hW
  simp only [List.drop_succ_cons, List.drop_zero]
  have kx_10 := (hW.block _ lx).trans kx_9
  have ky_10 := (hW.block _ ly).trans ky_9
  have kr_10 := (hW.block _ lr).trans kr_9
  have ko_10 := (hW.block _ lo).trans ko_9
  have HB_10 := low_tr' HB_9 hW (by omega)
  clear kx_9 ky_9 kr_9 ko_9 HB_9 lx ly lr lo hW V_9
  go_wp2
  rw [rounds_succ]; go_wp2
  have lx := (Array.getElem?_eq_some_iff.1 kx_10).1
  have ly := (Array.getElem?_eq_some_iff.1 ky_10).1
  have lr := (Array.getElem?_eq_some_iff.1 kr_10).1
  have lo := (Array.getElem?_eq_some_iff.1 ko_10).1
  refine region_via 13 [(25, .int .i64 (x0 * y2 + x1 * y5)), (26, .int .i64 0), (27, .int .i64 2), (28, .pointer (some ⟨w.heap.size, 0, none⟩)), (29, .pointer (some ⟨w.heap.size, 2, none⟩)), (30, .int .i64 x2), (31, .int .i64 2), (32, .int .i64 2), (33, .pointer (some ⟨w.heap.size + 1, 6, none⟩)), (34, .pointer (some ⟨w.heap.size + 1, 8, none⟩)), (35, .int .i64 y8), (36, .int .i64 (x2 * y8)), (37, .int .i64 (x0 * y2 + x1 * y5 + x2 * y8))] (by kernel_rfl) (by decide) (by kernel_rfl) (by kernel_rfl) (by kernel_rfl) (fun aE hpe => ?_)
  simp only [puts, Act.put, List.setIfInBounds_toArray, List.set_cons_zero, List.set_cons_succ] at hpe
  subst hpe
  refine ⟨⟨.inr (.inr ?_), .inr (.inr ?_), .inr (.inr ?_), .inr (.inr ?_), .inr (.inr ?_), .inr (.inr ?_), .inr (.inr ?_), .inr (.inr ?_), .inr (.inr ?_), .inr (.inr ?_), .inr (.inr ?_), .inr (.inr ?_), .inr (.inr ?_), trivial⟩, ?_⟩
  · exact CalmG.mk 25 (.int .i64 (x0 * y2 + x1 * y5)) rfl rfl rfl (fun W hW => calm_move (.tmp 10) rfl rfl)
  · exact CalmG.mk 26 (.int .i64 0) rfl rfl rfl (fun W hW => calm_move (.tmp 8) rfl rfl)
  · exact CalmG.mk 27 (.int .i64 2) rfl rfl rfl (fun W hW => calm_move (.tmp 11) rfl rfl)
  · exact CalmG.mk 28 (.pointer (some ⟨w.heap.size, 0, none⟩)) rfl rfl rfl (fun W hW => calm_run (by simp [execOp, Act.eval, go_sem]))
  · exact CalmG.mk 29 (.pointer (some ⟨w.heap.size, 2, none⟩)) rfl rfl rfl (fun W hW => calm_run (by simp [execOp, Act.eval, go_sem]))
  · exact CalmG.mk 30 (.int .i64 x2) rfl rfl rfl (fun W hW => by have hc := row_int (off := 2) (z := x2) ((hW.block _ lx).trans kx_10) rfl; exact calm_run (by simp [execOp, Act.eval, go_sem, hc]))
  · exact CalmG.mk 31 (.int .i64 2) rfl rfl rfl (fun W hW => calm_move (.tmp 11) rfl rfl)
  · exact CalmG.mk 32 (.int .i64 2) rfl rfl rfl (fun W hW => calm_move (.tmp 9) rfl rfl)
  · exact CalmG.mk 33 (.pointer (some ⟨w.heap.size + 1, 6, none⟩)) rfl rfl rfl (fun W hW => calm_run (by simp [execOp, Act.eval, go_sem]))
  · exact CalmG.mk 34 (.pointer (some ⟨w.heap.size + 1, 8, none⟩)) rfl rfl rfl (fun W hW => calm_run (by simp [execOp, Act.eval, go_sem]))
  · exact CalmG.mk 35 (.int .i64 y8) rfl rfl rfl (fun W hW => by have hc := row_int (off := 8) (z := y8) ((hW.block _ ly).trans ky_10) rfl; exact calm_run (by simp [execOp, Act.eval, go_sem, hc]))
  · exact CalmG.mk 36 (.int .i64 (x2 * y8)) rfl rfl rfl (fun W hW => calm_run (by simp [execOp, Act.eval, go_sem, wmul bx2 by8]))
  · exact CalmG.mk 37 (.int .i64 (x0 * y2 + x1 * y5 + x2 * y8)) rfl rfl rfl (fun W hW => calm_run (by simp [execOp, Act.eval, go_sem, wadd3 bx0 by2 bx1 by5 bx2 by8]))
  intro V_11 hW
  simp only [List.drop_succ_cons, List.drop_zero]
  have kx_11 := (hW.block _ lx).trans kx_10
  have ky_11 := (hW.block _ ly).trans ky_10
  have kr_11 := (hW.block _ lr).trans kr_10
  have ko_11 := (hW.block _ lo).trans ko_10
  have HB_11 := low_tr' HB_10 hW (by omega)
  clear kx_10 ky_10 kr_10 ko_10 HB_10 lx ly lr lo hW V_10
  go_wp2
  rw [rounds_succ]; go_wp2
  have lx := (Array.getElem?_eq_some_iff.1 kx_11).1
  have ly := (Array.getElem?_eq_some_iff.1 ky_11).1
  have lr := (Array.getElem?_eq_some_iff.1 kr_11).1
  have lo := (Array.getElem?_eq_some_iff.1 ko_11).1
  refine region_via 7 [(38, .int .i64 0), (39, .int .i64 2), (40, .int .i64 (x0 * y2 + x1 * y5 + x2 * y8)), (41, .int .i64 p), (42, .int .i64 ((x0 * y2 + x1 * y5 + x2 * y8) % p)), (43, .pointer (some ⟨w.heap.size + 1 + 1 + 1, 0, none⟩)), (44, .pointer (some ⟨w.heap.size + 1 + 1 + 1, 2, none⟩))] (by kernel_rfl) (by decide) (by kernel_rfl) (by kernel_rfl) (by kernel_rfl) (fun aE hpe => ?_)
  simp only [puts, Act.put, List.setIfInBounds_toArray, List.set_cons_zero, List.set_cons_succ] at hpe
  subst hpe
  refine ⟨⟨.inr (.inr ?_), .inr (.inr ?_), .inr (.inr ?_), .inr (.inr ?_), .inr (.inr ?_), .inr (.inr ?_), .inr (.inr ?_), trivial⟩, ?_⟩
  · exact CalmG.mk 38 (.int .i64 0) rfl rfl rfl (fun W hW => calm_move (.tmp 8) rfl rfl)
  · exact CalmG.mk 39 (.int .i64 2) rfl rfl rfl (fun W hW => calm_move (.tmp 9) rfl rfl)
  · exact CalmG.mk 40 (.int .i64 (x0 * y2 + x1 * y5 + x2 * y8)) rfl rfl rfl (fun W hW => calm_move (.tmp 10) rfl rfl)
  · exact CalmG.mk 41 (.int .i64 p) rfl rfl rfl (fun W hW => calm_move (.tmp 0) rfl rfl)
  · exact CalmG.mk 42 (.int .i64 ((x0 * y2 + x1 * y5 + x2 * y8) % p)) rfl rfl rfl (fun W hW => by have e0 := dot12 bx0 by2 bx1 by5 bx2 by8; have e1 := Int.tmod_eq_emod_of_nonneg (b := p) e0; have e2 := wrap_small (modb (z := (x0 * y2 + x1 * y5 + x2 * y8)) hpb); have e3 : (p == 0) = false := (by simp; omega); exact calm_run (by simp [execOp, Act.eval, go_sem, e0, e1, e2, e3, (show ¬ p = 0 by omega)]))
  · exact CalmG.mk 43 (.pointer (some ⟨w.heap.size + 1 + 1 + 1, 0, none⟩)) rfl rfl rfl (fun W hW => calm_run (by simp [execOp, Act.eval, go_sem]))
  · exact CalmG.mk 44 (.pointer (some ⟨w.heap.size + 1 + 1 + 1, 2, none⟩)) rfl rfl rfl (fun W hW => calm_run (by simp [execOp, Act.eval, go_sem]))
  intro W hW
  simp only [List.drop_succ_cons, List.drop_zero]
  refine wpList_store1 _ rfl 2 (.tmp 44) (.tmp 42) rfl rfl (g := w.heap.size + 1 + 1 + 1) (off := 2) (T := 31) (cs := #[.int .i64 (((x0 * y0 + x1 * y3 + x2 * y6) % p)), .int .i64 (((x0 * y1 + x1 * y4 + x2 * y7) % p)), .int .i64 0, .int .i64 0, .int .i64 0, .int .i64 0, .int .i64 0, .int .i64 0, .int .i64 0]) (cs' := #[.int .i64 (((x0 * y0 + x1 * y3 + x2 * y6) % p)), .int .i64 (((x0 * y1 + x1 * y4 + x2 * y7) % p)), .int .i64 (((x0 * y2 + x1 * y5 + x2 * y8) % p)), .int .i64 0, .int .i64 0, .int .i64 0, .int .i64 0, .int .i64 0, .int .i64 0]) (z := ((x0 * y2 + x1 * y5 + x2 * y8) % p)) rfl rfl ((hW.block _ lo).trans ko_11) (Nat.le_of_ble_eq_true rfl) rfl Tryz.sizeOf2 ?_
  refine wpList_nil ?_
  have kx_12 := (setRow_other W (w.heap.size + 1 + 1 + 1) (w.heap.size) #[.int .i64 (((x0 * y0 + x1 * y3 + x2 * y6) % p)), .int .i64 (((x0 * y1 + x1 * y4 + x2 * y7) % p)), .int .i64 (((x0 * y2 + x1 * y5 + x2 * y8) % p)), .int .i64 0, .int .i64 0, .int .i64 0, .int .i64 0, .int .i64 0, .int .i64 0] (by omega)).trans ((hW.block _ lx).trans kx_11)
  have ky_12 := (setRow_other W (w.heap.size + 1 + 1 + 1) (w.heap.size + 1) #[.int .i64 (((x0 * y0 + x1 * y3 + x2 * y6) % p)), .int .i64 (((x0 * y1 + x1 * y4 + x2 * y7) % p)), .int .i64 (((x0 * y2 + x1 * y5 + x2 * y8) % p)), .int .i64 0, .int .i64 0, .int .i64 0, .int .i64 0, .int .i64 0, .int .i64 0] (by omega)).trans ((hW.block _ ly).trans ky_11)
  have kr_12 := (setRow_other W (w.heap.size + 1 + 1 + 1) (w.heap.size + 1 + 1) #[.int .i64 (((x0 * y0 + x1 * y3 + x2 * y6) % p)), .int .i64 (((x0 * y1 + x1 * y4 + x2 * y7) % p)), .int .i64 (((x0 * y2 + x1 * y5 + x2 * y8) % p)), .int .i64 0, .int .i64 0, .int .i64 0, .int .i64 0, .int .i64 0, .int .i64 0] (by omega)).trans ((hW.block _ lr).trans kr_11)
  have ko_12 := setRow_heap W (w.heap.size + 1 + 1 + 1) _ #[.int .i64 (((x0 * y0 + x1 * y3 + x2 * y6) % p)), .int .i64 (((x0 * y1 + x1 * y4 + x2 * y7) % p)), .int .i64 (((x0 * y2 + x1 * y5 + x2 * y8) % p)), .int .i64 0, .int .i64 0, .int .i64 0, .int .i64 0, .int .i64 0, .int .i64 0] _ _ ((hW.block _ lo).trans ko_11)
  have HB_12 : Below w.heap.size w (W.setRow (w.heap.size + 1 + 1 + 1) #[.int .i64 (((x0 * y0 + x1 * y3 + x2 * y6) % p)), .int .i64 (((x0 * y1 + x1 * y4 + x2 * y7) % p)), .int .i64 (((x0 * y2 + x1 * y5 + x2 * y8) % p)), .int .i64 0, .int .i64 0, .int .i64 0, .int .i64 0, .int .i64 0, .int .i64 0]) := below_setRowN (low_tr' HB_11 hW (by omega)) (by omega) _
  clear kx_11 ky_11 kr_11 ko_11 HB_11 lx ly lr lo hW
  generalize W.setRow (w.heap.size + 1 + 1 + 1) #[.int .i64 (((x0 * y0 + x1 * y3 + x2 * y6) % p)), .int .i64 (((x0 * y1 + x1 * y4 + x2 * y7) % p)), .int .i64 (((x0 * y2 + x1 * y5 + x2 * y8) % p)), .int .i64 0, .int .i64 0, .int .i64 0, .int .i64 0, .int .i64 0, .int .i64 0] = V_12 at *
  clear V_11
  go_wp2
  rw [rounds_succ]; go_wp2
  rw [rounds_succ]; go_wp2
  refine wp_loop_rounds 4 ?_
  rw [rounds_succ]; go_wp2
  refine wp_loop_rounds 4 ?_
  rw [rounds_succ]; go_wp2
  have lx := (Array.getElem?_eq_some_iff.1 kx_12).1
  have ly := (Array.getElem?_eq_some_iff.1 ky_12).1
  have lr := (Array.getElem?_eq_some_iff.1 kr_12).1
  have lo := (Array.getElem?_eq_some_iff.1 ko_12).1
  refine region_via 13 [(25, .int .i64 0), (26, .int .i64 1), (27, .int .i64 0), (28, .pointer (some ⟨w.heap.size, 3, none⟩)), (29, .pointer (some ⟨w.heap.size, 3, none⟩)), (30, .int .i64 x3), (31, .int .i64 0), (32, .int .i64 0), (33, .pointer (some ⟨w.heap.size + 1, 0, none⟩)), (34, .pointer (some ⟨w.heap.size + 1, 0, none⟩)), (35, .int .i64 y0), (36, .int .i64 (x3 * y0)), (37, .int .i64 (x3 * y0))] (by kernel_rfl) (by decide) (by kernel_rfl) (by kernel_rfl) (by kernel_rfl) (fun aE hpe => ?_)
  simp only [puts, Act.put, List.setIfInBounds_toArray, List.set_cons_zero, List.set_cons_succ] at hpe
  subst hpe
  refine ⟨⟨.inr (.inr ?_), .inr (.inr ?_), .inr (.inr ?_), .inr (.inr ?_), .inr (.inr ?_), .inr (.inr ?_), .inr (.inr ?_), .inr (.inr ?_), .inr (.inr ?_), .inr (.inr ?_), .inr (.inr ?_), .inr (.inr ?_), .inr (.inr ?_), trivial⟩, ?_⟩
  · exact CalmG.mk 25 (.int .i64 0) rfl rfl rfl (fun W hW => calm_move (.tmp 10) rfl rfl)
  · exact CalmG.mk 26 (.int .i64 1) rfl rfl rfl (fun W hW => calm_move (.tmp 8) rfl rfl)
  · exact CalmG.mk 27 (.int .i64 0) rfl rfl rfl (fun W hW => calm_move (.tmp 11) rfl rfl)
  · exact CalmG.mk 28 (.pointer (some ⟨w.heap.size, 3, none⟩)) rfl rfl rfl (fun W hW => calm_run (by simp [execOp, Act.eval, go_sem]))
  · exact CalmG.mk 29 (.pointer (some ⟨w.heap.size, 3, none⟩)) rfl rfl rfl (fun W hW => calm_run (by simp [execOp, Act.eval, go_sem]))
  · exact CalmG.mk 30 (.int .i64 x3) rfl rfl rfl (fun W hW => by have hc := row_int (off := 3) (z := x3) ((hW.block _ lx).trans kx_12) rfl; exact calm_run (by simp [execOp, Act.eval, go_sem, hc]))
  · exact CalmG.mk 31 (.int .i64 0) rfl rfl rfl (fun W hW => calm_move (.tmp 11) rfl rfl)
  · exact CalmG.mk 32 (.int .i64 0) rfl rfl rfl (fun W hW => calm_move (.tmp 9) rfl rfl)
  · exact CalmG.mk 33 (.pointer (some ⟨w.heap.size + 1, 0, none⟩)) rfl rfl rfl (fun W hW => calm_run (by simp [execOp, Act.eval, go_sem]))
  · exact CalmG.mk 34 (.pointer (some ⟨w.heap.size + 1, 0, none⟩)) rfl rfl rfl (fun W hW => calm_run (by simp [execOp, Act.eval, go_sem]))
  · exact CalmG.mk 35 (.int .i64 y0) rfl rfl rfl (fun W hW => by have hc := row_int (off := 0) (z := y0) ((hW.block _ ly).trans ky_12) rfl; exact calm_run (by simp [execOp, Act.eval, go_sem, hc]))
  · exact CalmG.mk 36 (.int .i64 (x3 * y0)) rfl rfl rfl (fun W hW => calm_run (by simp [execOp, Act.eval, go_sem, wmul bx3 by0]))
  · exact CalmG.mk 37 (.int .i64 (x3 * y0)) rfl rfl rfl (fun W hW => calm_run (by simp [execOp, Act.eval, go_sem, wmul bx3 by0]))
  intro V_13 hW
  simp only [List.drop_succ_cons, List.drop_zero]
  have kx_13 := (hW.block _ lx).trans kx_12
  have ky_13 := (hW.block _ ly).trans ky_12
  have kr_13 := (hW.block _ lr).trans kr_12
  have ko_13 := (hW.block _ lo).trans ko_12
  have HB_13 := low_tr' HB_12 hW (by omega)
  clear kx_12 ky_12 kr_12 ko_12 HB_12 lx ly lr lo hW V_12
  go_wp2
  rw [rounds_succ]; go_wp2
  have lx := (Array.getElem?_eq_some_iff.1 kx_13).1
  have ly := (Array.getElem?_eq_some_iff.1 ky_13).1
  have lr := (Array.getElem?_eq_some_iff.1 kr_13).1
  have lo := (Array.getElem?_eq_some_iff.1 ko_13).1
  refine region_via 13 [(25, .int .i64 (x3 * y0)), (26, .int .i64 1), (27, .int .i64 1), (28, .pointer (some ⟨w.heap.size, 3, none⟩)), (29, .pointer (some ⟨w.heap.size, 4, none⟩)), (30, .int .i64 x4), (31, .int .i64 1), (32, .int .i64 0), (33, .pointer (some ⟨w.heap.size + 1, 3, none⟩)), (34, .pointer (some ⟨w.heap.size + 1, 3, none⟩)), (35, .int .i64 y3), (36, .int .i64 (x4 * y3)), (37, .int .i64 (x3 * y0 + x4 * y3))] (by kernel_rfl) (by decide) (by kernel_rfl) (by kernel_rfl) (by kernel_rfl) (fun aE hpe => ?_)
  simp only [puts, Act.put, List.setIfInBounds_toArray, List.set_cons_zero, List.set_cons_succ] at hpe
  subst hpe
  refine ⟨⟨.inr (.inr ?_), .inr (.inr ?_), .inr (.inr ?_), .inr (.inr ?_), .inr (.inr ?_), .inr (.inr ?_), .inr (.inr ?_), .inr (.inr ?_), .inr (.inr ?_), .inr (.inr ?_), .inr (.inr ?_), .inr (.inr ?_), .inr (.inr ?_), trivial⟩, ?_⟩
  · exact CalmG.mk 25 (.int .i64 (x3 * y0)) rfl rfl rfl (fun W hW => calm_move (.tmp 10) rfl rfl)
  · exact CalmG.mk 26 (.int .i64 1) rfl rfl rfl (fun W hW => calm_move (.tmp 8) rfl rfl)
  · exact CalmG.mk 27 (.int .i64 1) rfl rfl rfl (fun W hW => calm_move (.tmp 11) rfl rfl)
  · exact CalmG.mk 28 (.pointer (some ⟨w.heap.size, 3, none⟩)) rfl rfl rfl (fun W hW => calm_run (by simp [execOp, Act.eval, go_sem]))
  · exact CalmG.mk 29 (.pointer (some ⟨w.heap.size, 4, none⟩)) rfl rfl rfl (fun W hW => calm_run (by simp [execOp, Act.eval, go_sem]))
  · exact CalmG.mk 30 (.int .i64 x4) rfl rfl rfl (fun W hW => by have hc := row_int (off := 4) (z := x4) ((hW.block _ lx).trans kx_13) rfl; exact calm_run (by simp [execOp, Act.eval, go_sem, hc]))
  · exact CalmG.mk 31 (.int .i64 1) rfl rfl rfl (fun W hW => calm_move (.tmp 11) rfl rfl)
  · exact CalmG.mk 32 (.int .i64 0) rfl rfl rfl (fun W hW => calm_move (.tmp 9) rfl rfl)
  · exact CalmG.mk 33 (.pointer (some ⟨w.heap.size + 1, 3, none⟩)) rfl rfl rfl (fun W hW => calm_run (by simp [execOp, Act.eval, go_sem]))
  · exact CalmG.mk 34 (.pointer (some ⟨w.heap.size + 1, 3, none⟩)) rfl rfl rfl (fun W hW => calm_run (by simp [execOp, Act.eval, go_sem]))
  · exact CalmG.mk 35 (.int .i64 y3) rfl rfl rfl (fun W hW => by have hc := row_int (off := 3) (z := y3) ((hW.block _ ly).trans ky_13) rfl; exact calm_run (by simp [execOp, Act.eval, go_sem, hc]))
  · exact CalmG.mk 36 (.int .i64 (x4 * y3)) rfl rfl rfl (fun W hW => calm_run (by simp [execOp, Act.eval, go_sem, wmul bx4 by3]))
  · exact CalmG.mk 37 (.int .i64 (x3 * y0 + x4 * y3)) rfl rfl rfl (fun W hW => calm_run (by simp [execOp, Act.eval, go_sem, wadd2 bx3 by0 bx4 by3]))
  intro V_14 hW
  simp only [List.drop_succ_cons, List.drop_zero]
  have kx_14 := (hW.block _ lx).trans kx_13
  have ky_14 := (hW.block _ ly).trans ky_13
  have kr_14 := (hW.block _ lr).trans kr_13
  have ko_14 := (hW.block _ lo).trans ko_13
  have HB_14 := low_tr' HB_13 hW (by omega)
  clear kx_13 ky_13 kr_13 ko_13 HB_13 lx ly lr lo hW V_13
  go_wp2
  rw [rounds_succ]; go_wp2
  have lx := (Array.getElem?_eq_some_iff.1 kx_14).1
  have ly := (Array.getElem?_eq_some_iff.1 ky_14).1
  have lr := (Array.getElem?_eq_some_iff.1 kr_14).1
  have lo := (Array.getElem?_eq_some_iff.1 ko_14).1
  refine region_via 13 [(25, .int .i64 (x3 * y0 + x4 * y3)), (26, .int .i64 1), (27, .int .i64 2), (28, .pointer (some ⟨w.heap.size, 3, none⟩)), (29, .pointer (some ⟨w.heap.size, 5, none⟩)), (30, .int .i64 x5), (31, .int .i64 2), (32, .int .i64 0), (33, .pointer (some ⟨w.heap.size + 1, 6, none⟩)), (34, .pointer (some ⟨w.heap.size + 1, 6, none⟩)), (35, .int .i64 y6), (36, .int .i64 (x5 * y6)), (37, .int .i64 (x3 * y0 + x4 * y3 + x5 * y6))] (by kernel_rfl) (by decide) (by kernel_rfl) (by kernel_rfl) (by kernel_rfl) (fun aE hpe => ?_)
  simp only [puts, Act.put, List.setIfInBounds_toArray, List.set_cons_zero, List.set_cons_succ] at hpe
  subst hpe
  refine ⟨⟨.inr (.inr ?_), .inr (.inr ?_), .inr (.inr ?_), .inr (.inr ?_), .inr (.inr ?_), .inr (.inr ?_), .inr (.inr ?_), .inr (.inr ?_), .inr (.inr ?_), .inr (.inr ?_), .inr (.inr ?_), .inr (.inr ?_), .inr (.inr ?_), trivial⟩, ?_⟩
  · exact CalmG.mk 25 (.int .i64 (x3 * y0 + x4 * y3)) rfl rfl rfl (fun W hW => calm_move (.tmp 10) rfl rfl)
  · exact CalmG.mk 26 (.int .i64 1) rfl rfl rfl (fun W hW => calm_move (.tmp 8) rfl rfl)
  · exact CalmG.mk 27 (.int .i64 2) rfl rfl rfl (fun W hW => calm_move (.tmp 11) rfl rfl)
  · exact CalmG.mk 28 (.pointer (some ⟨w.heap.size, 3, none⟩)) rfl rfl rfl (fun W hW => calm_run (by simp [execOp, Act.eval, go_sem]))
  · exact CalmG.mk 29 (.pointer (some ⟨w.heap.size, 5, none⟩)) rfl rfl rfl (fun W hW => calm_run (by simp [execOp, Act.eval, go_sem]))
  · exact CalmG.mk 30 (.int .i64 x5) rfl rfl rfl (fun W hW => by have hc := row_int (off := 5) (z := x5) ((hW.block _ lx).trans kx_14) rfl; exact calm_run (by simp [execOp, Act.eval, go_sem, hc]))
  · exact CalmG.mk 31 (.int .i64 2) rfl rfl rfl (fun W hW => calm_move (.tmp 11) rfl rfl)
  · exact CalmG.mk 32 (.int .i64 0) rfl rfl rfl (fun W hW => calm_move (.tmp 9) rfl rfl)
  · exact CalmG.mk 33 (.pointer (some ⟨w.heap.size + 1, 6, none⟩)) rfl rfl rfl (fun W hW => calm_run (by simp [execOp, Act.eval, go_sem]))
  · exact CalmG.mk 34 (.pointer (some ⟨w.heap.size + 1, 6, none⟩)) rfl rfl rfl (fun W hW => calm_run (by simp [execOp, Act.eval, go_sem]))
  · exact CalmG.mk 35 (.int .i64 y6) rfl rfl rfl (fun W hW => by have hc := row_int (off := 6) (z := y6) ((hW.block _ ly).trans ky_14) rfl; exact calm_run (by simp [execOp, Act.eval, go_sem, hc]))
  · exact CalmG.mk 36 (.int .i64 (x5 * y6)) rfl rfl rfl (fun W hW => calm_run (by simp [execOp, Act.eval, go_sem, wmul bx5 by6]))
  · exact CalmG.mk 37 (.int .i64 (x3 * y0 + x4 * y3 + x5 * y6)) rfl rfl rfl (fun W hW => calm_run (by simp [execOp, Act.eval, go_sem, wadd3 bx3 by0 bx4 by3 bx5 by6]))
  intro V_15 hW
  simp only [List.drop_succ_cons, List.drop_zero]
  have kx_15 := (hW.block _ lx).trans kx_14
  have ky_15 := (hW.block _ ly).trans ky_14
  have kr_15 := (hW.block _ lr).trans kr_14
  have ko_15 := (hW.block _ lo).trans ko_14
  have HB_15 := low_tr' HB_14 hW (by omega)
  clear kx_14 ky_14 kr_14 ko_14 HB_14 lx ly lr lo hW V_14
  go_wp2
  rw [rounds_succ]; go_wp2
  have lx := (Array.getElem?_eq_some_iff.1 kx_15).1
  have ly := (Array.getElem?_eq_some_iff.1 ky_15).1
  have lr := (Array.getElem?_eq_some_iff.1 kr_15).1
  have lo := (Array.getElem?_eq_some_iff.1 ko_15).1
  refine region_via 7 [(38, .int .i64 1), (39, .int .i64 0), (40, .int .i64 (x3 * y0 + x4 * y3 + x5 * y6)), (41, .int .i64 p), (42, .int .i64 ((x3 * y0 + x4 * y3 + x5 * y6) % p)), (43, .pointer (some ⟨w.heap.size + 1 + 1 + 1, 3, none⟩)), (44, .pointer (some ⟨w.heap.size + 1 + 1 + 1, 3, none⟩))] (by kernel_rfl) (by decide) (by kernel_rfl) (by kernel_rfl) (by kernel_rfl) (fun aE hpe => ?_)
  simp only [puts, Act.put, List.setIfInBounds_toArray, List.set_cons_zero, List.set_cons_succ] at hpe
  subst hpe
  refine ⟨⟨.inr (.inr ?_), .inr (.inr ?_), .inr (.inr ?_), .inr (.inr ?_), .inr (.inr ?_), .inr (.inr ?_), .inr (.inr ?_), trivial⟩, ?_⟩
  · exact CalmG.mk 38 (.int .i64 1) rfl rfl rfl (fun W hW => calm_move (.tmp 8) rfl rfl)
  · exact CalmG.mk 39 (.int .i64 0) rfl rfl rfl (fun W hW => calm_move (.tmp 9) rfl rfl)
  · exact CalmG.mk 40 (.int .i64 (x3 * y0 + x4 * y3 + x5 * y6)) rfl rfl rfl (fun W hW => calm_move (.tmp 10) rfl rfl)
  · exact CalmG.mk 41 (.int .i64 p) rfl rfl rfl (fun W hW => calm_move (.tmp 0) rfl rfl)
  · exact CalmG.mk 42 (.int .i64 ((x3 * y0 + x4 * y3 + x5 * y6) % p)) rfl rfl rfl (fun W hW => by have e0 := dot12 bx3 by0 bx4 by3 bx5 by6; have e1 := Int.tmod_eq_emod_of_nonneg (b := p) e0; have e2 := wrap_small (modb (z := (x3 * y0 + x4 * y3 + x5 * y6)) hpb); have e3 : (p == 0) = false := (by simp; omega); exact calm_run (by simp [execOp, Act.eval, go_sem, e0, e1, e2, e3, (show ¬ p = 0 by omega)]))
  · exact CalmG.mk 43 (.pointer (some ⟨w.heap.size + 1 + 1 + 1, 3, none⟩)) rfl rfl rfl (fun W hW => calm_run (by simp [execOp, Act.eval, go_sem]))
  · exact CalmG.mk 44 (.pointer (some ⟨w.heap.size + 1 + 1 + 1, 3, none⟩)) rfl rfl rfl (fun W hW => calm_run (by simp [execOp, Act.eval, go_sem]))
  intro W hW
  simp only [List.drop_succ_cons, List.drop_zero]
  refine wpList_store1 _ rfl 2 (.tmp 44) (.tmp 42) rfl rfl (g := w.heap.size + 1 + 1 + 1) (off := 3) (T := 31) (cs := #[.int .i64 (((x0 * y0 + x1 * y3 + x2 * y6) % p)), .int .i64 (((x0 * y1 + x1 * y4 + x2 * y7) % p)), .int .i64 (((x0 * y2 + x1 * y5 + x2 * y8) % p)), .int .i64 0, .int .i64 0, .int .i64 0, .int .i64 0, .int .i64 0, .int .i64 0]) (cs' := #[.int .i64 (((x0 * y0 + x1 * y3 + x2 * y6) % p)), .int .i64 (((x0 * y1 + x1 * y4 + x2 * y7) % p)), .int .i64 (((x0 * y2 + x1 * y5 + x2 * y8) % p)), .int .i64 (((x3 * y0 + x4 * y3 + x5 * y6) % p)), .int .i64 0, .int .i64 0, .int .i64 0, .int .i64 0, .int .i64 0]) (z := ((x3 * y0 + x4 * y3 + x5 * y6) % p)) rfl rfl ((hW.block _ lo).trans ko_15) (Nat.le_of_ble_eq_true rfl) rfl Tryz.sizeOf2 ?_
  refine wpList_nil ?_
  have kx_16 := (setRow_other W (w.heap.size + 1 + 1 + 1) (w.heap.size) #[.int .i64 (((x0 * y0 + x1 * y3 + x2 * y6) % p)), .int .i64 (((x0 * y1 + x1 * y4 + x2 * y7) % p)), .int .i64 (((x0 * y2 + x1 * y5 + x2 * y8) % p)), .int .i64 (((x3 * y0 + x4 * y3 + x5 * y6) % p)), .int .i64 0, .int .i64 0, .int .i64 0, .int .i64 0, .int .i64 0] (by omega)).trans ((hW.block _ lx).trans kx_15)
  have ky_16 := (setRow_other W (w.heap.size + 1 + 1 + 1) (w.heap.size + 1) #[.int .i64 (((x0 * y0 + x1 * y3 + x2 * y6) % p)), .int .i64 (((x0 * y1 + x1 * y4 + x2 * y7) % p)), .int .i64 (((x0 * y2 + x1 * y5 + x2 * y8) % p)), .int .i64 (((x3 * y0 + x4 * y3 + x5 * y6) % p)), .int .i64 0, .int .i64 0, .int .i64 0, .int .i64 0, .int .i64 0] (by omega)).trans ((hW.block _ ly).trans ky_15)
  have kr_16 := (setRow_other W (w.heap.size + 1 + 1 + 1) (w.heap.size + 1 + 1) #[.int .i64 (((x0 * y0 + x1 * y3 + x2 * y6) % p)), .int .i64 (((x0 * y1 + x1 * y4 + x2 * y7) % p)), .int .i64 (((x0 * y2 + x1 * y5 + x2 * y8) % p)), .int .i64 (((x3 * y0 + x4 * y3 + x5 * y6) % p)), .int .i64 0, .int .i64 0, .int .i64 0, .int .i64 0, .int .i64 0] (by omega)).trans ((hW.block _ lr).trans kr_15)
  have ko_16 := setRow_heap W (w.heap.size + 1 + 1 + 1) _ #[.int .i64 (((x0 * y0 + x1 * y3 + x2 * y6) % p)), .int .i64 (((x0 * y1 + x1 * y4 + x2 * y7) % p)), .int .i64 (((x0 * y2 + x1 * y5 + x2 * y8) % p)), .int .i64 (((x3 * y0 + x4 * y3 + x5 * y6) % p)), .int .i64 0, .int .i64 0, .int .i64 0, .int .i64 0, .int .i64 0] _ _ ((hW.block _ lo).trans ko_15)
  have HB_16 : Below w.heap.size w (W.setRow (w.heap.size + 1 + 1 + 1) #[.int .i64 (((x0 * y0 + x1 * y3 + x2 * y6) % p)), .int .i64 (((x0 * y1 + x1 * y4 + x2 * y7) % p)), .int .i64 (((x0 * y2 + x1 * y5 + x2 * y8) % p)), .int .i64 (((x3 * y0 + x4 * y3 + x5 * y6) % p)), .int .i64 0, .int .i64 0, .int .i64 0, .int .i64 0, .int .i64 0]) := below_setRowN (low_tr' HB_15 hW (by omega)) (by omega) _
  clear kx_15 ky_15 kr_15 ko_15 HB_15 lx ly lr lo hW
  generalize W.setRow (w.heap.size + 1 + 1 + 1) #[.int .i64 (((x0 * y0 + x1 * y3 + x2 * y6) % p)), .int .i64 (((x0 * y1 + x1 * y4 + x2 * y7) % p)), .int .i64 (((x0 * y2 + x1 * y5 + x2 * y8) % p)), .int .i64 (((x3 * y0 + x4 * y3 + x5 * y6) % p)), .int .i64 0, .int .i64 0, .int .i64 0, .int .i64 0, .int .i64 0] = V_16 at *
  clear V_15
  go_wp2
  rw [rounds_succ]; go_wp2
  refine wp_loop_rounds 4 ?_
  rw [rounds_succ]; go_wp2
  have lx := (Array.getElem?_eq_some_iff.1 kx_16).1
  have ly := (Array.getElem?_eq_some_iff.1 ky_16).1
  have lr := (Array.getElem?_eq_some_iff.1 kr_16).1
  have lo := (Array.getElem?_eq_some_iff.1 ko_16).1
  refine region_via 13 [(25, .int .i64 0), (26, .int .i64 1), (27, .int .i64 0), (28, .pointer (some ⟨w.heap.size, 3, none⟩)), (29, .pointer (some ⟨w.heap.size, 3, none⟩)), (30, .int .i64 x3), (31, .int .i64 0), (32, .int .i64 1), (33, .pointer (some ⟨w.heap.size + 1, 0, none⟩)), (34, .pointer (some ⟨w.heap.size + 1, 1, none⟩)), (35, .int .i64 y1), (36, .int .i64 (x3 * y1)), (37, .int .i64 (x3 * y1))] (by kernel_rfl) (by decide) (by kernel_rfl) (by kernel_rfl) (by kernel_rfl) (fun aE hpe => ?_)
  simp only [puts, Act.put, List.setIfInBounds_toArray, List.set_cons_zero, List.set_cons_succ] at hpe
  subst hpe
  refine ⟨⟨.inr (.inr ?_), .inr (.inr ?_), .inr (.inr ?_), .inr (.inr ?_), .inr (.inr ?_), .inr (.inr ?_), .inr (.inr ?_), .inr (.inr ?_), .inr (.inr ?_), .inr (.inr ?_), .inr (.inr ?_), .inr (.inr ?_), .inr (.inr ?_), trivial⟩, ?_⟩
  · exact CalmG.mk 25 (.int .i64 0) rfl rfl rfl (fun W hW => calm_move (.tmp 10) rfl rfl)
  · exact CalmG.mk 26 (.int .i64 1) rfl rfl rfl (fun W hW => calm_move (.tmp 8) rfl rfl)
  · exact CalmG.mk 27 (.int .i64 0) rfl rfl rfl (fun W hW => calm_move (.tmp 11) rfl rfl)
  · exact CalmG.mk 28 (.pointer (some ⟨w.heap.size, 3, none⟩)) rfl rfl rfl (fun W hW => calm_run (by simp [execOp, Act.eval, go_sem]))
  · exact CalmG.mk 29 (.pointer (some ⟨w.heap.size, 3, none⟩)) rfl rfl rfl (fun W hW => calm_run (by simp [execOp, Act.eval, go_sem]))
  · exact CalmG.mk 30 (.int .i64 x3) rfl rfl rfl (fun W hW => by have hc := row_int (off := 3) (z := x3) ((hW.block _ lx).trans kx_16) rfl; exact calm_run (by simp [execOp, Act.eval, go_sem, hc]))
  · exact CalmG.mk 31 (.int .i64 0) rfl rfl rfl (fun W hW => calm_move (.tmp 11) rfl rfl)
  · exact CalmG.mk 32 (.int .i64 1) rfl rfl rfl (fun W hW => calm_move (.tmp 9) rfl rfl)
  · exact CalmG.mk 33 (.pointer (some ⟨w.heap.size + 1, 0, none⟩)) rfl rfl rfl (fun W hW => calm_run (by simp [execOp, Act.eval, go_sem]))
  · exact CalmG.mk 34 (.pointer (some ⟨w.heap.size + 1, 1, none⟩)) rfl rfl rfl (fun W hW => calm_run (by simp [execOp, Act.eval, go_sem]))
  · exact CalmG.mk 35 (.int .i64 y1) rfl rfl rfl (fun W hW => by have hc := row_int (off := 1) (z := y1) ((hW.block _ ly).trans ky_16) rfl; exact calm_run (by simp [execOp, Act.eval, go_sem, hc]))
  · exact CalmG.mk 36 (.int .i64 (x3 * y1)) rfl rfl rfl (fun W hW => calm_run (by simp [execOp, Act.eval, go_sem, wmul bx3 by1]))
  · exact CalmG.mk 37 (.int .i64 (x3 * y1)) rfl rfl rfl (fun W hW => calm_run (by simp [execOp, Act.eval, go_sem, wmul bx3 by1]))
  intro V_17 hW
  simp only [List.drop_succ_cons, List.drop_zero]
  have kx_17 := (hW.block _ lx).trans kx_16
  have ky_17 := (hW.block _ ly).trans ky_16
  have kr_17 := (hW.block _ lr).trans kr_16
  have ko_17 := (hW.block _ lo).trans ko_16
  have HB_17 := low_tr' HB_16 hW (by omega)
  clear kx_16 ky_16 kr_16 ko_16 HB_16 lx ly lr lo hW V_16
  go_wp2
  rw [rounds_succ]; go_wp2
  have lx := (Array.getElem?_eq_some_iff.1 kx_17).1
  have ly := (Array.getElem?_eq_some_iff.1 ky_17).1
  have lr := (Array.getElem?_eq_some_iff.1 kr_17).1
  have lo := (Array.getElem?_eq_some_iff.1 ko_17).1
  refine region_via 13 [(25, .int .i64 (x3 * y1)), (26, .int .i64 1), (27, .int .i64 1), (28, .pointer (some ⟨w.heap.size, 3, none⟩)), (29, .pointer (some ⟨w.heap.size, 4, none⟩)), (30, .int .i64 x4), (31, .int .i64 1), (32, .int .i64 1), (33, .pointer (some ⟨w.heap.size + 1, 3, none⟩)), (34, .pointer (some ⟨w.heap.size + 1, 4, none⟩)), (35, .int .i64 y4), (36, .int .i64 (x4 * y4)), (37, .int .i64 (x3 * y1 + x4 * y4))] (by kernel_rfl) (by decide) (by kernel_rfl) (by kernel_rfl) (by kernel_rfl) (fun aE hpe => ?_)
  simp only [puts, Act.put, List.setIfInBounds_toArray, List.set_cons_zero, List.set_cons_succ] at hpe
  subst hpe
  refine ⟨⟨.inr (.inr ?_), .inr (.inr ?_), .inr (.inr ?_), .inr (.inr ?_), .inr (.inr ?_), .inr (.inr ?_), .inr (.inr ?_), .inr (.inr ?_), .inr (.inr ?_), .inr (.inr ?_), .inr (.inr ?_), .inr (.inr ?_), .inr (.inr ?_), trivial⟩, ?_⟩
  · exact CalmG.mk 25 (.int .i64 (x3 * y1)) rfl rfl rfl (fun W hW => calm_move (.tmp 10) rfl rfl)
  · exact CalmG.mk 26 (.int .i64 1) rfl rfl rfl (fun W hW => calm_move (.tmp 8) rfl rfl)
  · exact CalmG.mk 27 (.int .i64 1) rfl rfl rfl (fun W hW => calm_move (.tmp 11) rfl rfl)
  · exact CalmG.mk 28 (.pointer (some ⟨w.heap.size, 3, none⟩)) rfl rfl rfl (fun W hW => calm_run (by simp [execOp, Act.eval, go_sem]))
  · exact CalmG.mk 29 (.pointer (some ⟨w.heap.size, 4, none⟩)) rfl rfl rfl (fun W hW => calm_run (by simp [execOp, Act.eval, go_sem]))
  · exact CalmG.mk 30 (.int .i64 x4) rfl rfl rfl (fun W hW => by have hc := row_int (off := 4) (z := x4) ((hW.block _ lx).trans kx_17) rfl; exact calm_run (by simp [execOp, Act.eval, go_sem, hc]))
  · exact CalmG.mk 31 (.int .i64 1) rfl rfl rfl (fun W hW => calm_move (.tmp 11) rfl rfl)
  · exact CalmG.mk 32 (.int .i64 1) rfl rfl rfl (fun W hW => calm_move (.tmp 9) rfl rfl)
  · exact CalmG.mk 33 (.pointer (some ⟨w.heap.size + 1, 3, none⟩)) rfl rfl rfl (fun W hW => calm_run (by simp [execOp, Act.eval, go_sem]))
  · exact CalmG.mk 34 (.pointer (some ⟨w.heap.size + 1, 4, none⟩)) rfl rfl rfl (fun W hW => calm_run (by simp [execOp, Act.eval, go_sem]))
  · exact CalmG.mk 35 (.int .i64 y4) rfl rfl rfl (fun W hW => by have hc := row_int (off := 4) (z := y4) ((hW.block _ ly).trans ky_17) rfl; exact calm_run (by simp [execOp, Act.eval, go_sem, hc]))
  · exact CalmG.mk 36 (.int .i64 (x4 * y4)) rfl rfl rfl (fun W hW => calm_run (by simp [execOp, Act.eval, go_sem, wmul bx4 by4]))
  · exact CalmG.mk 37 (.int .i64 (x3 * y1 + x4 * y4)) rfl rfl rfl (fun W hW => calm_run (by simp [execOp, Act.eval, go_sem, wadd2 bx3 by1 bx4 by4]))
  intro V_18 hW
  simp only [List.drop_succ_cons, List.drop_zero]
  have kx_18 := (hW.block _ lx).trans kx_17
  have ky_18 := (hW.block _ ly).trans ky_17
  have kr_18 := (hW.block _ lr).trans kr_17
  have ko_18 := (hW.block _ lo).trans ko_17
  have HB_18 := low_tr' HB_17 hW (by omega)
  clear kx_17 ky_17 kr_17 ko_17 HB_17 lx ly lr lo hW V_17
  go_wp2
  rw [rounds_succ]; go_wp2
  have lx := (Array.getElem?_eq_some_iff.1 kx_18).1
  have ly := (Array.getElem?_eq_some_iff.1 ky_18).1
  have lr := (Array.getElem?_eq_some_iff.1 kr_18).1
  have lo := (Array.getElem?_eq_some_iff.1 ko_18).1
  refine region_via 13 [(25, .int .i64 (x3 * y1 + x4 * y4)), (26, .int .i64 1), (27, .int .i64 2), (28, .pointer (some ⟨w.heap.size, 3, none⟩)), (29, .pointer (some ⟨w.heap.size, 5, none⟩)), (30, .int .i64 x5), (31, .int .i64 2), (32, .int .i64 1), (33, .pointer (some ⟨w.heap.size + 1, 6, none⟩)), (34, .pointer (some ⟨w.heap.size + 1, 7, none⟩)), (35, .int .i64 y7), (36, .int .i64 (x5 * y7)), (37, .int .i64 (x3 * y1 + x4 * y4 + x5 * y7))] (by kernel_rfl) (by decide) (by kernel_rfl) (by kernel_rfl) (by kernel_rfl) (fun aE hpe => ?_)
  simp only [puts, Act.put, List.setIfInBounds_toArray, List.set_cons_zero, List.set_cons_succ] at hpe
  subst hpe
  refine ⟨⟨.inr (.inr ?_), .inr (.inr ?_), .inr (.inr ?_), .inr (.inr ?_), .inr (.inr ?_), .inr (.inr ?_), .inr (.inr ?_), .inr (.inr ?_), .inr (.inr ?_), .inr (.inr ?_), .inr (.inr ?_), .inr (.inr ?_), .inr (.inr ?_), trivial⟩, ?_⟩
  · exact CalmG.mk 25 (.int .i64 (x3 * y1 + x4 * y4)) rfl rfl rfl (fun W hW => calm_move (.tmp 10) rfl rfl)
  · exact CalmG.mk 26 (.int .i64 1) rfl rfl rfl (fun W hW => calm_move (.tmp 8) rfl rfl)
  · exact CalmG.mk 27 (.int .i64 2) rfl rfl rfl (fun W hW => calm_move (.tmp 11) rfl rfl)
  · exact CalmG.mk 28 (.pointer (some ⟨w.heap.size, 3, none⟩)) rfl rfl rfl (fun W hW => calm_run (by simp [execOp, Act.eval, go_sem]))
  · exact CalmG.mk 29 (.pointer (some ⟨w.heap.size, 5, none⟩)) rfl rfl rfl (fun W hW => calm_run (by simp [execOp, Act.eval, go_sem]))
  · exact CalmG.mk 30 (.int .i64 x5) rfl rfl rfl (fun W hW => by have hc := row_int (off := 5) (z := x5) ((hW.block _ lx).trans kx_18) rfl; exact calm_run (by simp [execOp, Act.eval, go_sem, hc]))
  · exact CalmG.mk 31 (.int .i64 2) rfl rfl rfl (fun W hW => calm_move (.tmp 11) rfl rfl)
  · exact CalmG.mk 32 (.int .i64 1) rfl rfl rfl (fun W hW => calm_move (.tmp 9) rfl rfl)
  · exact CalmG.mk 33 (.pointer (some ⟨w.heap.size + 1, 6, none⟩)) rfl rfl rfl (fun W hW => calm_run (by simp [execOp, Act.eval, go_sem]))
  · exact CalmG.mk 34 (.pointer (some ⟨w.heap.size + 1, 7, none⟩)) rfl rfl rfl (fun W hW => calm_run (by simp [execOp, Act.eval, go_sem]))
  · exact CalmG.mk 35 (.int .i64 y7) rfl rfl rfl (fun W hW => by have hc := row_int (off := 7) (z := y7) ((hW.block _ ly).trans ky_18) rfl; exact calm_run (by simp [execOp, Act.eval, go_sem, hc]))
  · exact CalmG.mk 36 (.int .i64 (x5 * y7)) rfl rfl rfl (fun W hW => calm_run (by simp [execOp, Act.eval, go_sem, wmul bx5 by7]))
  · exact CalmG.mk 37 (.int .i64 (x3 * y1 + x4 * y4 + x5 * y7)) rfl rfl rfl (fun W hW => calm_run (by simp [execOp, Act.eval, go_sem, wadd3 bx3 by1 bx4 by4 bx5 by7]))
  intro V_19 hW
  simp only [List.drop_succ_cons, List.drop_zero]
  have kx_19 := (hW.block _ lx).trans kx_18
  have ky_19 := (hW.block _ ly).trans ky_18
  have kr_19 := (hW.block _ lr).trans kr_18
  have ko_19 := (hW.block _ lo).trans ko_18
  have HB_19 := low_tr' HB_18 hW (by omega)
  clear kx_18 ky_18 kr_18 ko_18 HB_18 lx ly lr lo hW V_18
  go_wp2
  rw [rounds_succ]; go_wp2
  have lx := (Array.getElem?_eq_some_iff.1 kx_19).1
  have ly := (Array.getElem?_eq_some_iff.1 ky_19).1
  have lr := (Array.getElem?_eq_some_iff.1 kr_19).1
  have lo := (Array.getElem?_eq_some_iff.1 ko_19).1
  refine region_via 7 [(38, .int .i64 1), (39, .int .i64 1), (40, .int .i64 (x3 * y1 + x4 * y4 + x5 * y7)), (41, .int .i64 p), (42, .int .i64 ((x3 * y1 + x4 * y4 + x5 * y7) % p)), (43, .pointer (some ⟨w.heap.size + 1 + 1 + 1, 3, none⟩)), (44, .pointer (some ⟨w.heap.size + 1 + 1 + 1, 4, none⟩))] (by kernel_rfl) (by decide) (by kernel_rfl) (by kernel_rfl) (by kernel_rfl) (fun aE hpe => ?_)
  simp only [puts, Act.put, List.setIfInBounds_toArray, List.set_cons_zero, List.set_cons_succ] at hpe
  subst hpe
  refine ⟨⟨.inr (.inr ?_), .inr (.inr ?_), .inr (.inr ?_), .inr (.inr ?_), .inr (.inr ?_), .inr (.inr ?_), .inr (.inr ?_), trivial⟩, ?_⟩
  · exact CalmG.mk 38 (.int .i64 1) rfl rfl rfl (fun W hW => calm_move (.tmp 8) rfl rfl)
  · exact CalmG.mk 39 (.int .i64 1) rfl rfl rfl (fun W hW => calm_move (.tmp 9) rfl rfl)
  · exact CalmG.mk 40 (.int .i64 (x3 * y1 + x4 * y4 + x5 * y7)) rfl rfl rfl (fun W hW => calm_move (.tmp 10) rfl rfl)
  · exact CalmG.mk 41 (.int .i64 p) rfl rfl rfl (fun W hW => calm_move (.tmp 0) rfl rfl)
  · exact CalmG.mk 42 (.int .i64 ((x3 * y1 + x4 * y4 + x5 * y7) % p)) rfl rfl rfl (fun W hW => by have e0 := dot12 bx3 by1 bx4 by4 bx5 by7; have e1 := Int.tmod_eq_emod_of_nonneg (b := p) e0; have e2 := wrap_small (modb (z := (x3 * y1 + x4 * y4 + x5 * y7)) hpb); have e3 : (p == 0) = false := (by simp; omega); exact calm_run (by simp [execOp, Act.eval, go_sem, e0, e1, e2, e3, (show ¬ p = 0 by omega)]))
  · exact CalmG.mk 43 (.pointer (some ⟨w.heap.size + 1 + 1 + 1, 3, none⟩)) rfl rfl rfl (fun W hW => calm_run (by simp [execOp, Act.eval, go_sem]))
  · exact CalmG.mk 44 (.pointer (some ⟨w.heap.size + 1 + 1 + 1, 4, none⟩)) rfl rfl rfl (fun W hW => calm_run (by simp [execOp, Act.eval, go_sem]))
  intro W hW
  simp only [List.drop_succ_cons, List.drop_zero]
  refine wpList_store1 _ rfl 2 (.tmp 44) (.tmp 42) rfl rfl (g := w.heap.size + 1 + 1 + 1) (off := 4) (T := 31) (cs := #[.int .i64 (((x0 * y0 + x1 * y3 + x2 * y6) % p)), .int .i64 (((x0 * y1 + x1 * y4 + x2 * y7) % p)), .int .i64 (((x0 * y2 + x1 * y5 + x2 * y8) % p)), .int .i64 (((x3 * y0 + x4 * y3 + x5 * y6) % p)), .int .i64 0, .int .i64 0, .int .i64 0, .int .i64 0, .int .i64 0]) (cs' := #[.int .i64 (((x0 * y0 + x1 * y3 + x2 * y6) % p)), .int .i64 (((x0 * y1 + x1 * y4 + x2 * y7) % p)), .int .i64 (((x0 * y2 + x1 * y5 + x2 * y8) % p)), .int .i64 (((x3 * y0 + x4 * y3 + x5 * y6) % p)), .int .i64 (((x3 * y1 + x4 * y4 + x5 * y7) % p)), .int .i64 0, .int .i64 0, .int .i64 0, .int .i64 0]) (z := ((x3 * y1 + x4 * y4 + x5 * y7) % p)) rfl rfl ((hW.block _ lo).trans ko_19) (Nat.le_of_ble_eq_true rfl) rfl Tryz.sizeOf2 ?_
  refine wpList_nil ?_
  have kx_20 := (setRow_other W (w.heap.size + 1 + 1 + 1) (w.heap.size) #[.int .i64 (((x0 * y0 + x1 * y3 + x2 * y6) % p)), .int .i64 (((x0 * y1 + x1 * y4 + x2 * y7) % p)), .int .i64 (((x0 * y2 + x1 * y5 + x2 * y8) % p)), .int .i64 (((x3 * y0 + x4 * y3 + x5 * y6) % p)), .int .i64 (((x3 * y1 + x4 * y4 + x5 * y7) % p)), .int .i64 0, .int .i64 0, .int .i64 0, .int .i64 0] (by omega)).trans ((hW.block _ lx).trans kx_19)
  have ky_20 := (setRow_other W (w.heap.size + 1 + 1 + 1) (w.heap.size + 1) #[.int .i64 (((x0 * y0 + x1 * y3 + x2 * y6) % p)), .int .i64 (((x0 * y1 + x1 * y4 + x2 * y7) % p)), .int .i64 (((x0 * y2 + x1 * y5 + x2 * y8) % p)), .int .i64 (((x3 * y0 + x4 * y3 + x5 * y6) % p)), .int .i64 (((x3 * y1 + x4 * y4 + x5 * y7) % p)), .int .i64 0, .int .i64 0, .int .i64 0, .int .i64 0] (by omega)).trans ((hW.block _ ly).trans ky_19)
  have kr_20 := (setRow_other W (w.heap.size + 1 + 1 + 1) (w.heap.size + 1 + 1) #[.int .i64 (((x0 * y0 + x1 * y3 + x2 * y6) % p)), .int .i64 (((x0 * y1 + x1 * y4 + x2 * y7) % p)), .int .i64 (((x0 * y2 + x1 * y5 + x2 * y8) % p)), .int .i64 (((x3 * y0 + x4 * y3 + x5 * y6) % p)), .int .i64 (((x3 * y1 + x4 * y4 + x5 * y7) % p)), .int .i64 0, .int .i64 0, .int .i64 0, .int .i64 0] (by omega)).trans ((hW.block _ lr).trans kr_19)
  have ko_20 := setRow_heap W (w.heap.size + 1 + 1 + 1) _ #[.int .i64 (((x0 * y0 + x1 * y3 + x2 * y6) % p)), .int .i64 (((x0 * y1 + x1 * y4 + x2 * y7) % p)), .int .i64 (((x0 * y2 + x1 * y5 + x2 * y8) % p)), .int .i64 (((x3 * y0 + x4 * y3 + x5 * y6) % p)), .int .i64 (((x3 * y1 + x4 * y4 + x5 * y7) % p)), .int .i64 0, .int .i64 0, .int .i64 0, .int .i64 0] _ _ ((hW.block _ lo).trans ko_19)
  have HB_20 : Below w.heap.size w (W.setRow (w.heap.size + 1 + 1 + 1) #[.int .i64 (((x0 * y0 + x1 * y3 + x2 * y6) % p)), .int .i64 (((x0 * y1 + x1 * y4 + x2 * y7) % p)), .int .i64 (((x0 * y2 + x1 * y5 + x2 * y8) % p)), .int .i64 (((x3 * y0 + x4 * y3 + x5 * y6) % p)), .int .i64 (((x3 * y1 + x4 * y4 + x5 * y7) % p)), .int .i64 0, .int .i64 0, .int .i64 0, .int .i64 0]) := below_setRowN (low_tr' HB_19 hW (by omega)) (by omega) _
  clear kx_19 ky_19 kr_19 ko_19 HB_19 lx ly lr lo hW
  generalize W.setRow (w.heap.size + 1 + 1 + 1) #[.int .i64 (((x0 * y0 + x1 * y3 + x2 * y6) % p)), .int .i64 (((x0 * y1 + x1 * y4 + x2 * y7) % p)), .int .i64 (((x0 * y2 + x1 * y5 + x2 * y8) % p)), .int .i64 (((x3 * y0 + x4 * y3 + x5 * y6) % p)), .int .i64 (((x3 * y1 + x4 * y4 + x5 * y7) % p)), .int .i64 0, .int .i64 0, .int .i64 0, .int .i64 0] = V_20 at *
  clear V_19
  go_wp2
  rw [rounds_succ]; go_wp2
  refine wp_loop_rounds 4 ?_
  rw [rounds_succ]; go_wp2
  have lx := (Array.getElem?_eq_some_iff.1 kx_20).1
  have ly := (Array.getElem?_eq_some_iff.1 ky_20).1
  have lr := (Array.getElem?_eq_some_iff.1 kr_20).1
  have lo := (Array.getElem?_eq_some_iff.1 ko_20).1
  refine region_via 13 [(25, .int .i64 0), (26, .int .i64 1), (27, .int .i64 0), (28, .pointer (some ⟨w.heap.size, 3, none⟩)), (29, .pointer (some ⟨w.heap.size, 3, none⟩)), (30, .int .i64 x3), (31, .int .i64 0), (32, .int .i64 2), (33, .pointer (some ⟨w.heap.size + 1, 0, none⟩)), (34, .pointer (some ⟨w.heap.size + 1, 2, none⟩)), (35, .int .i64 y2), (36, .int .i64 (x3 * y2)), (37, .int .i64 (x3 * y2))] (by kernel_rfl) (by decide) (by kernel_rfl) (by kernel_rfl) (by kernel_rfl) (fun aE hpe => ?_)
  simp only [puts, Act.put, List.setIfInBounds_toArray, List.set_cons_zero, List.set_cons_succ] at hpe
  subst hpe
  refine ⟨⟨.inr (.inr ?_), .inr (.inr ?_), .inr (.inr ?_), .inr (.inr ?_), .inr (.inr ?_), .inr (.inr ?_), .inr (.inr ?_), .inr (.inr ?_), .inr (.inr ?_), .inr (.inr ?_), .inr (.inr ?_), .inr (.inr ?_), .inr (.inr ?_), trivial⟩, ?_⟩
  · exact CalmG.mk 25 (.int .i64 0) rfl rfl rfl (fun W hW => calm_move (.tmp 10) rfl rfl)
  · exact CalmG.mk 26 (.int .i64 1) rfl rfl rfl (fun W hW => calm_move (.tmp 8) rfl rfl)
  · exact CalmG.mk 27 (.int .i64 0) rfl rfl rfl (fun W hW => calm_move (.tmp 11) rfl rfl)
  · exact CalmG.mk 28 (.pointer (some ⟨w.heap.size, 3, none⟩)) rfl rfl rfl (fun W hW => calm_run (by simp [execOp, Act.eval, go_sem]))
  · exact CalmG.mk 29 (.pointer (some ⟨w.heap.size, 3, none⟩)) rfl rfl rfl (fun W hW => calm_run (by simp [execOp, Act.eval, go_sem]))
  · exact CalmG.mk 30 (.int .i64 x3) rfl rfl rfl (fun W hW => by have hc := row_int (off := 3) (z := x3) ((hW.block _ lx).trans kx_20) rfl; exact calm_run (by simp [execOp, Act.eval, go_sem, hc]))
  · exact CalmG.mk 31 (.int .i64 0) rfl rfl rfl (fun W hW => calm_move (.tmp 11) rfl rfl)
  · exact CalmG.mk 32 (.int .i64 2) rfl rfl rfl (fun W hW => calm_move (.tmp 9) rfl rfl)
  · exact CalmG.mk 33 (.pointer (some ⟨w.heap.size + 1, 0, none⟩)) rfl rfl rfl (fun W hW => calm_run (by simp [execOp, Act.eval, go_sem]))
  · exact CalmG.mk 34 (.pointer (some ⟨w.heap.size + 1, 2, none⟩)) rfl rfl rfl (fun W hW => calm_run (by simp [execOp, Act.eval, go_sem]))
  · exact CalmG.mk 35 (.int .i64 y2) rfl rfl rfl (fun W hW => by have hc := row_int (off := 2) (z := y2) ((hW.block _ ly).trans ky_20) rfl; exact calm_run (by simp [execOp, Act.eval, go_sem, hc]))
  · exact CalmG.mk 36 (.int .i64 (x3 * y2)) rfl rfl rfl (fun W hW => calm_run (by simp [execOp, Act.eval, go_sem, wmul bx3 by2]))
  · exact CalmG.mk 37 (.int .i64 (x3 * y2)) rfl rfl rfl (fun W hW => calm_run (by simp [execOp, Act.eval, go_sem, wmul bx3 by2]))
  intro V_21 hW
  simp only [List.drop_succ_cons, List.drop_zero]
  have kx_21 := (hW.block _ lx).trans kx_20
  have ky_21 := (hW.block _ ly).trans ky_20
  have kr_21 := (hW.block _ lr).trans kr_20
  have ko_21 := (hW.block _ lo).trans ko_20
  have HB_21 := low_tr' HB_20 hW (by omega)
  clear kx_20 ky_20 kr_20 ko_20 HB_20 lx ly lr lo hW V_20
  go_wp2
  rw [rounds_succ]; go_wp2
  have lx := (Array.getElem?_eq_some_iff.1 kx_21).1
  have ly := (Array.getElem?_eq_some_iff.1 ky_21).1
  have lr := (Array.getElem?_eq_some_iff.1 kr_21).1
  have lo := (Array.getElem?_eq_some_iff.1 ko_21).1
  refine region_via 13 [(25, .int .i64 (x3 * y2)), (26, .int .i64 1), (27, .int .i64 1), (28, .pointer (some ⟨w.heap.size, 3, none⟩)), (29, .pointer (some ⟨w.heap.size, 4, none⟩)), (30, .int .i64 x4), (31, .int .i64 1), (32, .int .i64 2), (33, .pointer (some ⟨w.heap.size + 1, 3, none⟩)), (34, .pointer (some ⟨w.heap.size + 1, 5, none⟩)), (35, .int .i64 y5), (36, .int .i64 (x4 * y5)), (37, .int .i64 (x3 * y2 + x4 * y5))] (by kernel_rfl) (by decide) (by kernel_rfl) (by kernel_rfl) (by kernel_rfl) (fun aE hpe => ?_)
  simp only [puts, Act.put, List.setIfInBounds_toArray, List.set_cons_zero, List.set_cons_succ] at hpe
  subst hpe
  refine ⟨⟨.inr (.inr ?_), .inr (.inr ?_), .inr (.inr ?_), .inr (.inr ?_), .inr (.inr ?_), .inr (.inr ?_), .inr (.inr ?_), .inr (.inr ?_), .inr (.inr ?_), .inr (.inr ?_), .inr (.inr ?_), .inr (.inr ?_), .inr (.inr ?_), trivial⟩, ?_⟩
  · exact CalmG.mk 25 (.int .i64 (x3 * y2)) rfl rfl rfl (fun W hW => calm_move (.tmp 10) rfl rfl)
  · exact CalmG.mk 26 (.int .i64 1) rfl rfl rfl (fun W hW => calm_move (.tmp 8) rfl rfl)
  · exact CalmG.mk 27 (.int .i64 1) rfl rfl rfl (fun W hW => calm_move (.tmp 11) rfl rfl)
  · exact CalmG.mk 28 (.pointer (some ⟨w.heap.size, 3, none⟩)) rfl rfl rfl (fun W hW => calm_run (by simp [execOp, Act.eval, go_sem]))
  · exact CalmG.mk 29 (.pointer (some ⟨w.heap.size, 4, none⟩)) rfl rfl rfl (fun W hW => calm_run (by simp [execOp, Act.eval, go_sem]))
  · exact CalmG.mk 30 (.int .i64 x4) rfl rfl rfl (fun W hW => by have hc := row_int (off := 4) (z := x4) ((hW.block _ lx).trans kx_21) rfl; exact calm_run (by simp [execOp, Act.eval, go_sem, hc]))
  · exact CalmG.mk 31 (.int .i64 1) rfl rfl rfl (fun W hW => calm_move (.tmp 11) rfl rfl)
  · exact CalmG.mk 32 (.int .i64 2) rfl rfl rfl (fun W hW => calm_move (.tmp 9) rfl rfl)
  · exact CalmG.mk 33 (.pointer (some ⟨w.heap.size + 1, 3, none⟩)) rfl rfl rfl (fun W hW => calm_run (by simp [execOp, Act.eval, go_sem]))
  · exact CalmG.mk 34 (.pointer (some ⟨w.heap.size + 1, 5, none⟩)) rfl rfl rfl (fun W hW => calm_run (by simp [execOp, Act.eval, go_sem]))
  · exact CalmG.mk 35 (.int .i64 y5) rfl rfl rfl (fun W hW => by have hc := row_int (off := 5) (z := y5) ((hW.block _ ly).trans ky_21) rfl; exact calm_run (by simp [execOp, Act.eval, go_sem, hc]))
  · exact CalmG.mk 36 (.int .i64 (x4 * y5)) rfl rfl rfl (fun W hW => calm_run (by simp [execOp, Act.eval, go_sem, wmul bx4 by5]))
  · exact CalmG.mk 37 (.int .i64 (x3 * y2 + x4 * y5)) rfl rfl rfl (fun W hW => calm_run (by simp [execOp, Act.eval, go_sem, wadd2 bx3 by2 bx4 by5]))
  intro V_22 hW
  simp only [List.drop_succ_cons, List.drop_zero]
  have kx_22 := (hW.block _ lx).trans kx_21
  have ky_22 := (hW.block _ ly).trans ky_21
  have kr_22 := (hW.block _ lr).trans kr_21
  have ko_22 := (hW.block _ lo).trans ko_21
  have HB_22 := low_tr' HB_21 hW (by omega)
  clear kx_21 ky_21 kr_21 ko_21 HB_21 lx ly lr lo hW V_21
  go_wp2
  rw [rounds_succ]; go_wp2
  have lx := (Array.getElem?_eq_some_iff.1 kx_22).1
  have ly := (Array.getElem?_eq_some_iff.1 ky_22).1
  have lr := (Array.getElem?_eq_some_iff.1 kr_22).1
  have lo := (Array.getElem?_eq_some_iff.1 ko_22).1
  refine region_via 13 [(25, .int .i64 (x3 * y2 + x4 * y5)), (26, .int .i64 1), (27, .int .i64 2), (28, .pointer (some ⟨w.heap.size, 3, none⟩)), (29, .pointer (some ⟨w.heap.size, 5, none⟩)), (30, .int .i64 x5), (31, .int .i64 2), (32, .int .i64 2), (33, .pointer (some ⟨w.heap.size + 1, 6, none⟩)), (34, .pointer (some ⟨w.heap.size + 1, 8, none⟩)), (35, .int .i64 y8), (36, .int .i64 (x5 * y8)), (37, .int .i64 (x3 * y2 + x4 * y5 + x5 * y8))] (by kernel_rfl) (by decide) (by kernel_rfl) (by kernel_rfl) (by kernel_rfl) (fun aE hpe => ?_)
  simp only [puts, Act.put, List.setIfInBounds_toArray, List.set_cons_zero, List.set_cons_succ] at hpe
  subst hpe
  refine ⟨⟨.inr (.inr ?_), .inr (.inr ?_), .inr (.inr ?_), .inr (.inr ?_), .inr (.inr ?_), .inr (.inr ?_), .inr (.inr ?_), .inr (.inr ?_), .inr (.inr ?_), .inr (.inr ?_), .inr (.inr ?_), .inr (.inr ?_), .inr (.inr ?_), trivial⟩, ?_⟩
  · exact CalmG.mk 25 (.int .i64 (x3 * y2 + x4 * y5)) rfl rfl rfl (fun W hW => calm_move (.tmp 10) rfl rfl)
  · exact CalmG.mk 26 (.int .i64 1) rfl rfl rfl (fun W hW => calm_move (.tmp 8) rfl rfl)
  · exact CalmG.mk 27 (.int .i64 2) rfl rfl rfl (fun W hW => calm_move (.tmp 11) rfl rfl)
  · exact CalmG.mk 28 (.pointer (some ⟨w.heap.size, 3, none⟩)) rfl rfl rfl (fun W hW => calm_run (by simp [execOp, Act.eval, go_sem]))
  · exact CalmG.mk 29 (.pointer (some ⟨w.heap.size, 5, none⟩)) rfl rfl rfl (fun W hW => calm_run (by simp [execOp, Act.eval, go_sem]))
  · exact CalmG.mk 30 (.int .i64 x5) rfl rfl rfl (fun W hW => by have hc := row_int (off := 5) (z := x5) ((hW.block _ lx).trans kx_22) rfl; exact calm_run (by simp [execOp, Act.eval, go_sem, hc]))
  · exact CalmG.mk 31 (.int .i64 2) rfl rfl rfl (fun W hW => calm_move (.tmp 11) rfl rfl)
  · exact CalmG.mk 32 (.int .i64 2) rfl rfl rfl (fun W hW => calm_move (.tmp 9) rfl rfl)
  · exact CalmG.mk 33 (.pointer (some ⟨w.heap.size + 1, 6, none⟩)) rfl rfl rfl (fun W hW => calm_run (by simp [execOp, Act.eval, go_sem]))
  · exact CalmG.mk 34 (.pointer (some ⟨w.heap.size + 1, 8, none⟩)) rfl rfl rfl (fun W hW => calm_run (by simp [execOp, Act.eval, go_sem]))
  · exact CalmG.mk 35 (.int .i64 y8) rfl rfl rfl (fun W hW => by have hc := row_int (off := 8) (z := y8) ((hW.block _ ly).trans ky_22) rfl; exact calm_run (by simp [execOp, Act.eval, go_sem, hc]))
  · exact CalmG.mk 36 (.int .i64 (x5 * y8)) rfl rfl rfl (fun W hW => calm_run (by simp [execOp, Act.eval, go_sem, wmul bx5 by8]))
  · exact CalmG.mk 37 (.int .i64 (x3 * y2 + x4 * y5 + x5 * y8)) rfl rfl rfl (fun W hW => calm_run (by simp [execOp, Act.eval, go_sem, wadd3 bx3 by2 bx4 by5 bx5 by8]))
  intro V_23 hW
  simp only [List.drop_succ_cons, List.drop_zero]
  have kx_23 := (hW.block _ lx).trans kx_22
  have ky_23 := (hW.block _ ly).trans ky_22
  have kr_23 := (hW.block _ lr).trans kr_22
  have ko_23 := (hW.block _ lo).trans ko_22
  have HB_23 := low_tr' HB_22 hW (by omega)
  clear kx_22 ky_22 kr_22 ko_22 HB_22 lx ly lr lo hW V_22
  go_wp2
  rw [rounds_succ]; go_wp2
  have lx := (Array.getElem?_eq_some_iff.1 kx_23).1
  have ly := (Array.getElem?_eq_some_iff.1 ky_23).1
  have lr := (Array.getElem?_eq_some_iff.1 kr_23).1
  have lo := (Array.getElem?_eq_some_iff.1 ko_23).1
  refine region_via 7 [(38, .int .i64 1), (39, .int .i64 2), (40, .int .i64 (x3 * y2 + x4 * y5 + x5 * y8)), (41, .int .i64 p), (42, .int .i64 ((x3 * y2 + x4 * y5 + x5 * y8) % p)), (43, .pointer (some ⟨w.heap.size + 1 + 1 + 1, 3, none⟩)), (44, .pointer (some ⟨w.heap.size + 1 + 1 + 1, 5, none⟩))] (by kernel_rfl) (by decide) (by kernel_rfl) (by kernel_rfl) (by kernel_rfl) (fun aE hpe => ?_)
  simp only [puts, Act.put, List.setIfInBounds_toArray, List.set_cons_zero, List.set_cons_succ] at hpe
  subst hpe
  refine ⟨⟨.inr (.inr ?_), .inr (.inr ?_), .inr (.inr ?_), .inr (.inr ?_), .inr (.inr ?_), .inr (.inr ?_), .inr (.inr ?_), trivial⟩, ?_⟩
  · exact CalmG.mk 38 (.int .i64 1) rfl rfl rfl (fun W hW => calm_move (.tmp 8) rfl rfl)
  · exact CalmG.mk 39 (.int .i64 2) rfl rfl rfl (fun W hW => calm_move (.tmp 9) rfl rfl)
  · exact CalmG.mk 40 (.int .i64 (x3 * y2 + x4 * y5 + x5 * y8)) rfl rfl rfl (fun W hW => calm_move (.tmp 10) rfl rfl)
  · exact CalmG.mk 41 (.int .i64 p) rfl rfl rfl (fun W hW => calm_move (.tmp 0) rfl rfl)
  · exact CalmG.mk 42 (.int .i64 ((x3 * y2 + x4 * y5 + x5 * y8) % p)) rfl rfl rfl (fun W hW => by have e0 := dot12 bx3 by2 bx4 by5 bx5 by8; have e1 := Int.tmod_eq_emod_of_nonneg (b := p) e0; have e2 := wrap_small (modb (z := (x3 * y2 + x4 * y5 + x5 * y8)) hpb); have e3 : (p == 0) = false := (by simp; omega); exact calm_run (by simp [execOp, Act.eval, go_sem, e0, e1, e2, e3, (show ¬ p = 0 by omega)]))
  · exact CalmG.mk 43 (.pointer (some ⟨w.heap.size + 1 + 1 + 1, 3, none⟩)) rfl rfl rfl (fun W hW => calm_run (by simp [execOp, Act.eval, go_sem]))
  · exact CalmG.mk 44 (.pointer (some ⟨w.heap.size + 1 + 1 + 1, 5, none⟩)) rfl rfl rfl (fun W hW => calm_run (by simp [execOp, Act.eval, go_sem]))
  intro W hW
  simp only [List.drop_succ_cons, List.drop_zero]
  refine wpList_store1 _ rfl 2 (.tmp 44) (.tmp 42) rfl rfl (g := w.heap.size + 1 + 1 + 1) (off := 5) (T := 31) (cs := #[.int .i64 (((x0 * y0 + x1 * y3 + x2 * y6) % p)), .int .i64 (((x0 * y1 + x1 * y4 + x2 * y7) % p)), .int .i64 (((x0 * y2 + x1 * y5 + x2 * y8) % p)), .int .i64 (((x3 * y0 + x4 * y3 + x5 * y6) % p)), .int .i64 (((x3 * y1 + x4 * y4 + x5 * y7) % p)), .int .i64 0, .int .i64 0, .int .i64 0, .int .i64 0]) (cs' := #[.int .i64 (((x0 * y0 + x1 * y3 + x2 * y6) % p)), .int .i64 (((x0 * y1 + x1 * y4 + x2 * y7) % p)), .int .i64 (((x0 * y2 + x1 * y5 + x2 * y8) % p)), .int .i64 (((x3 * y0 + x4 * y3 + x5 * y6) % p)), .int .i64 (((x3 * y1 + x4 * y4 + x5 * y7) % p)), .int .i64 (((x3 * y2 + x4 * y5 + x5 * y8) % p)), .int .i64 0, .int .i64 0, .int .i64 0]) (z := ((x3 * y2 + x4 * y5 + x5 * y8) % p)) rfl rfl ((hW.block _ lo).trans ko_23) (Nat.le_of_ble_eq_true rfl) rfl Tryz.sizeOf2 ?_
  refine wpList_nil ?_
  have kx_24 := (setRow_other W (w.heap.size + 1 + 1 + 1) (w.heap.size) #[.int .i64 (((x0 * y0 + x1 * y3 + x2 * y6) % p)), .int .i64 (((x0 * y1 + x1 * y4 + x2 * y7) % p)), .int .i64 (((x0 * y2 + x1 * y5 + x2 * y8) % p)), .int .i64 (((x3 * y0 + x4 * y3 + x5 * y6) % p)), .int .i64 (((x3 * y1 + x4 * y4 + x5 * y7) % p)), .int .i64 (((x3 * y2 + x4 * y5 + x5 * y8) % p)), .int .i64 0, .int .i64 0, .int .i64 0] (by omega)).trans ((hW.block _ lx).trans kx_23)
  have ky_24 := (setRow_other W (w.heap.size + 1 + 1 + 1) (w.heap.size + 1) #[.int .i64 (((x0 * y0 + x1 * y3 + x2 * y6) % p)), .int .i64 (((x0 * y1 + x1 * y4 + x2 * y7) % p)), .int .i64 (((x0 * y2 + x1 * y5 + x2 * y8) % p)), .int .i64 (((x3 * y0 + x4 * y3 + x5 * y6) % p)), .int .i64 (((x3 * y1 + x4 * y4 + x5 * y7) % p)), .int .i64 (((x3 * y2 + x4 * y5 + x5 * y8) % p)), .int .i64 0, .int .i64 0, .int .i64 0] (by omega)).trans ((hW.block _ ly).trans ky_23)
  have kr_24 := (setRow_other W (w.heap.size + 1 + 1 + 1) (w.heap.size + 1 + 1) #[.int .i64 (((x0 * y0 + x1 * y3 + x2 * y6) % p)), .int .i64 (((x0 * y1 + x1 * y4 + x2 * y7) % p)), .int .i64 (((x0 * y2 + x1 * y5 + x2 * y8) % p)), .int .i64 (((x3 * y0 + x4 * y3 + x5 * y6) % p)), .int .i64 (((x3 * y1 + x4 * y4 + x5 * y7) % p)), .int .i64 (((x3 * y2 + x4 * y5 + x5 * y8) % p)), .int .i64 0, .int .i64 0, .int .i64 0] (by omega)).trans ((hW.block _ lr).trans kr_23)
  have ko_24 := setRow_heap W (w.heap.size + 1 + 1 + 1) _ #[.int .i64 (((x0 * y0 + x1 * y3 + x2 * y6) % p)), .int .i64 (((x0 * y1 + x1 * y4 + x2 * y7) % p)), .int .i64 (((x0 * y2 + x1 * y5 + x2 * y8) % p)), .int .i64 (((x3 * y0 + x4 * y3 + x5 * y6) % p)), .int .i64 (((x3 * y1 + x4 * y4 + x5 * y7) % p)), .int .i64 (((x3 * y2 + x4 * y5 + x5 * y8) % p)), .int .i64 0, .int .i64 0, .int .i64 0] _ _ ((hW.block _ lo).trans ko_23)
  have HB_24 : Below w.heap.size w (W.setRow (w.heap.size + 1 + 1 + 1) #[.int .i64 (((x0 * y0 + x1 * y3 + x2 * y6) % p)), .int .i64 (((x0 * y1 + x1 * y4 + x2 * y7) % p)), .int .i64 (((x0 * y2 + x1 * y5 + x2 * y8) % p)), .int .i64 (((x3 * y0 + x4 * y3 + x5 * y6) % p)), .int .i64 (((x3 * y1 + x4 * y4 + x5 * y7) % p)), .int .i64 (((x3 * y2 + x4 * y5 + x5 * y8) % p)), .int .i64 0, .int .i64 0, .int .i64 0]) := below_setRowN (low_tr' HB_23 hW (by omega)) (by omega) _
  clear kx_23 ky_23 kr_23 ko_23 HB_23 lx ly lr lo hW
  generalize W.setRow (w.heap.size + 1 + 1 + 1) #[.int .i64 (((x0 * y0 + x1 * y3 + x2 * y6) % p)), .int .i64 (((x0 * y1 + x1 * y4 + x2 * y7) % p)), .int .i64 (((x0 * y2 + x1 * y5 + x2 * y8) % p)), .int .i64 (((x3 * y0 + x4 * y3 + x5 * y6) % p)), .int .i64 (((x3 * y1 + x4 * y4 + x5 * y7) % p)), .int .i64 (((x3 * y2 + x4 * y5 + x5 * y8) % p)), .int .i64 0, .int .i64 0, .int .i64 0] = V_24 at *
  clear V_23
  go_wp2
  rw [rounds_succ]; go_wp2
  rw [rounds_succ]; go_wp2
  refine wp_loop_rounds 4 ?_
  rw [rounds_succ]; go_wp2
  refine wp_loop_rounds 4 ?_
  rw [rounds_succ]; go_wp2
  have lx := (Array.getElem?_eq_some_iff.1 kx_24).1
  have ly := (Array.getElem?_eq_some_iff.1 ky_24).1
  have lr := (Array.getElem?_eq_some_iff.1 kr_24).1
  have lo := (Array.getElem?_eq_some_iff.1 ko_24).1
  refine region_via 13 [(25, .int .i64 0), (26, .int .i64 2), (27, .int .i64 0), (28, .pointer (some ⟨w.heap.size, 6, none⟩)), (29, .pointer (some ⟨w.heap.size, 6, none⟩)), (30, .int .i64 x6), (31, .int .i64 0), (32, .int .i64 0), (33, .pointer (some ⟨w.heap.size + 1, 0, none⟩)), (34, .pointer (some ⟨w.heap.size + 1, 0, none⟩)), (35, .int .i64 y0), (36, .int .i64 (x6 * y0)), (37, .int .i64 (x6 * y0))] (by kernel_rfl) (by decide) (by kernel_rfl) (by kernel_rfl) (by kernel_rfl) (fun aE hpe => ?_)
  simp only [puts, Act.put, List.setIfInBounds_toArray, List.set_cons_zero, List.set_cons_succ] at hpe
  subst hpe
  refine ⟨⟨.inr (.inr ?_), .inr (.inr ?_), .inr (.inr ?_), .inr (.inr ?_), .inr (.inr ?_), .inr (.inr ?_), .inr (.inr ?_), .inr (.inr ?_), .inr (.inr ?_), .inr (.inr ?_), .inr (.inr ?_), .inr (.inr ?_), .inr (.inr ?_), trivial⟩, ?_⟩
  · exact CalmG.mk 25 (.int .i64 0) rfl rfl rfl (fun W hW => calm_move (.tmp 10) rfl rfl)
  · exact CalmG.mk 26 (.int .i64 2) rfl rfl rfl (fun W hW => calm_move (.tmp 8) rfl rfl)
  · exact CalmG.mk 27 (.int .i64 0) rfl rfl rfl (fun W hW => calm_move (.tmp 11) rfl rfl)
  · exact CalmG.mk 28 (.pointer (some ⟨w.heap.size, 6, none⟩)) rfl rfl rfl (fun W hW => calm_run (by simp [execOp, Act.eval, go_sem]))
  · exact CalmG.mk 29 (.pointer (some ⟨w.heap.size, 6, none⟩)) rfl rfl rfl (fun W hW => calm_run (by simp [execOp, Act.eval, go_sem]))
  · exact CalmG.mk 30 (.int .i64 x6) rfl rfl rfl (fun W hW => by have hc := row_int (off := 6) (z := x6) ((hW.block _ lx).trans kx_24) rfl; exact calm_run (by simp [execOp, Act.eval, go_sem, hc]))
  · exact CalmG.mk 31 (.int .i64 0) rfl rfl rfl (fun W hW => calm_move (.tmp 11) rfl rfl)
  · exact CalmG.mk 32 (.int .i64 0) rfl rfl rfl (fun W hW => calm_move (.tmp 9) rfl rfl)
  · exact CalmG.mk 33 (.pointer (some ⟨w.heap.size + 1, 0, none⟩)) rfl rfl rfl (fun W hW => calm_run (by simp [execOp, Act.eval, go_sem]))
  · exact CalmG.mk 34 (.pointer (some ⟨w.heap.size + 1, 0, none⟩)) rfl rfl rfl (fun W hW => calm_run (by simp [execOp, Act.eval, go_sem]))
  · exact CalmG.mk 35 (.int .i64 y0) rfl rfl rfl (fun W hW => by have hc := row_int (off := 0) (z := y0) ((hW.block _ ly).trans ky_24) rfl; exact calm_run (by simp [execOp, Act.eval, go_sem, hc]))
  · exact CalmG.mk 36 (.int .i64 (x6 * y0)) rfl rfl rfl (fun W hW => calm_run (by simp [execOp, Act.eval, go_sem, wmul bx6 by0]))
  · exact CalmG.mk 37 (.int .i64 (x6 * y0)) rfl rfl rfl (fun W hW => calm_run (by simp [execOp, Act.eval, go_sem, wmul bx6 by0]))
  intro V_25 hW
  simp only [List.drop_succ_cons, List.drop_zero]
  have kx_25 := (hW.block _ lx).trans kx_24
  have ky_25 := (hW.block _ ly).trans ky_24
  have kr_25 := (hW.block _ lr).trans kr_24
  have ko_25 := (hW.block _ lo).trans ko_24
  have HB_25 := low_tr' HB_24 hW (by omega)
  clear kx_24 ky_24 kr_24 ko_24 HB_24 lx ly lr lo hW V_24
  go_wp2
  rw [rounds_succ]; go_wp2
  have lx := (Array.getElem?_eq_some_iff.1 kx_25).1
  have ly := (Array.getElem?_eq_some_iff.1 ky_25).1
  have lr := (Array.getElem?_eq_some_iff.1 kr_25).1
  have lo := (Array.getElem?_eq_some_iff.1 ko_25).1
  refine region_via 13 [(25, .int .i64 (x6 * y0)), (26, .int .i64 2), (27, .int .i64 1), (28, .pointer (some ⟨w.heap.size, 6, none⟩)), (29, .pointer (some ⟨w.heap.size, 7, none⟩)), (30, .int .i64 x7), (31, .int .i64 1), (32, .int .i64 0), (33, .pointer (some ⟨w.heap.size + 1, 3, none⟩)), (34, .pointer (some ⟨w.heap.size + 1, 3, none⟩)), (35, .int .i64 y3), (36, .int .i64 (x7 * y3)), (37, .int .i64 (x6 * y0 + x7 * y3))] (by kernel_rfl) (by decide) (by kernel_rfl) (by kernel_rfl) (by kernel_rfl) (fun aE hpe => ?_)
  simp only [puts, Act.put, List.setIfInBounds_toArray, List.set_cons_zero, List.set_cons_succ] at hpe
  subst hpe
  refine ⟨⟨.inr (.inr ?_), .inr (.inr ?_), .inr (.inr ?_), .inr (.inr ?_), .inr (.inr ?_), .inr (.inr ?_), .inr (.inr ?_), .inr (.inr ?_), .inr (.inr ?_), .inr (.inr ?_), .inr (.inr ?_), .inr (.inr ?_), .inr (.inr ?_), trivial⟩, ?_⟩
  · exact CalmG.mk 25 (.int .i64 (x6 * y0)) rfl rfl rfl (fun W hW => calm_move (.tmp 10) rfl rfl)
  · exact CalmG.mk 26 (.int .i64 2) rfl rfl rfl (fun W hW => calm_move (.tmp 8) rfl rfl)
  · exact CalmG.mk 27 (.int .i64 1) rfl rfl rfl (fun W hW => calm_move (.tmp 11) rfl rfl)
  · exact CalmG.mk 28 (.pointer (some ⟨w.heap.size, 6, none⟩)) rfl rfl rfl (fun W hW => calm_run (by simp [execOp, Act.eval, go_sem]))
  · exact CalmG.mk 29 (.pointer (some ⟨w.heap.size, 7, none⟩)) rfl rfl rfl (fun W hW => calm_run (by simp [execOp, Act.eval, go_sem]))
  · exact CalmG.mk 30 (.int .i64 x7) rfl rfl rfl (fun W hW => by have hc := row_int (off := 7) (z := x7) ((hW.block _ lx).trans kx_25) rfl; exact calm_run (by simp [execOp, Act.eval, go_sem, hc]))
  · exact CalmG.mk 31 (.int .i64 1) rfl rfl rfl (fun W hW => calm_move (.tmp 11) rfl rfl)
  · exact CalmG.mk 32 (.int .i64 0) rfl rfl rfl (fun W hW => calm_move (.tmp 9) rfl rfl)
  · exact CalmG.mk 33 (.pointer (some ⟨w.heap.size + 1, 3, none⟩)) rfl rfl rfl (fun W hW => calm_run (by simp [execOp, Act.eval, go_sem]))
  · exact CalmG.mk 34 (.pointer (some ⟨w.heap.size + 1, 3, none⟩)) rfl rfl rfl (fun W hW => calm_run (by simp [execOp, Act.eval, go_sem]))
  · exact CalmG.mk 35 (.int .i64 y3) rfl rfl rfl (fun W hW => by have hc := row_int (off := 3) (z := y3) ((hW.block _ ly).trans ky_25) rfl; exact calm_run (by simp [execOp, Act.eval, go_sem, hc]))
  · exact CalmG.mk 36 (.int .i64 (x7 * y3)) rfl rfl rfl (fun W hW => calm_run (by simp [execOp, Act.eval, go_sem, wmul bx7 by3]))
  · exact CalmG.mk 37 (.int .i64 (x6 * y0 + x7 * y3)) rfl rfl rfl (fun W hW => calm_run (by simp [execOp, Act.eval, go_sem, wadd2 bx6 by0 bx7 by3]))
  intro V_26 hW
  simp only [List.drop_succ_cons, List.drop_zero]
  have kx_26 := (hW.block _ lx).trans kx_25
  have ky_26 := (hW.block _ ly).trans ky_25
  have kr_26 := (hW.block _ lr).trans kr_25
  have ko_26 := (hW.block _ lo).trans ko_25
  have HB_26 := low_tr' HB_25 hW (by omega)
  clear kx_25 ky_25 kr_25 ko_25 HB_25 lx ly lr lo hW V_25
  go_wp2
  rw [rounds_succ]; go_wp2
  have lx := (Array.getElem?_eq_some_iff.1 kx_26).1
  have ly := (Array.getElem?_eq_some_iff.1 ky_26).1
  have lr := (Array.getElem?_eq_some_iff.1 kr_26).1
  have lo := (Array.getElem?_eq_some_iff.1 ko_26).1
  refine region_via 13 [(25, .int .i64 (x6 * y0 + x7 * y3)), (26, .int .i64 2), (27, .int .i64 2), (28, .pointer (some ⟨w.heap.size, 6, none⟩)), (29, .pointer (some ⟨w.heap.size, 8, none⟩)), (30, .int .i64 x8), (31, .int .i64 2), (32, .int .i64 0), (33, .pointer (some ⟨w.heap.size + 1, 6, none⟩)), (34, .pointer (some ⟨w.heap.size + 1, 6, none⟩)), (35, .int .i64 y6), (36, .int .i64 (x8 * y6)), (37, .int .i64 (x6 * y0 + x7 * y3 + x8 * y6))] (by kernel_rfl) (by decide) (by kernel_rfl) (by kernel_rfl) (by kernel_rfl) (fun aE hpe => ?_)
  simp only [puts, Act.put, List.setIfInBounds_toArray, List.set_cons_zero, List.set_cons_succ] at hpe
  subst hpe
  refine ⟨⟨.inr (.inr ?_), .inr (.inr ?_), .inr (.inr ?_), .inr (.inr ?_), .inr (.inr ?_), .inr (.inr ?_), .inr (.inr ?_), .inr (.inr ?_), .inr (.inr ?_), .inr (.inr ?_), .inr (.inr ?_), .inr (.inr ?_), .inr (.inr ?_), trivial⟩, ?_⟩
  · exact CalmG.mk 25 (.int .i64 (x6 * y0 + x7 * y3)) rfl rfl rfl (fun W hW => calm_move (.tmp 10) rfl rfl)
  · exact CalmG.mk 26 (.int .i64 2) rfl rfl rfl (fun W hW => calm_move (.tmp 8) rfl rfl)
  · exact CalmG.mk 27 (.int .i64 2) rfl rfl rfl (fun W hW => calm_move (.tmp 11) rfl rfl)
  · exact CalmG.mk 28 (.pointer (some ⟨w.heap.size, 6, none⟩)) rfl rfl rfl (fun W hW => calm_run (by simp [execOp, Act.eval, go_sem]))
  · exact CalmG.mk 29 (.pointer (some ⟨w.heap.size, 8, none⟩)) rfl rfl rfl (fun W hW => calm_run (by simp [execOp, Act.eval, go_sem]))
  · exact CalmG.mk 30 (.int .i64 x8) rfl rfl rfl (fun W hW => by have hc := row_int (off := 8) (z := x8) ((hW.block _ lx).trans kx_26) rfl; exact calm_run (by simp [execOp, Act.eval, go_sem, hc]))
  · exact CalmG.mk 31 (.int .i64 2) rfl rfl rfl (fun W hW => calm_move (.tmp 11) rfl rfl)
  · exact CalmG.mk 32 (.int .i64 0) rfl rfl rfl (fun W hW => calm_move (.tmp 9) rfl rfl)
  · exact CalmG.mk 33 (.pointer (some ⟨w.heap.size + 1, 6, none⟩)) rfl rfl rfl (fun W hW => calm_run (by simp [execOp, Act.eval, go_sem]))
  · exact CalmG.mk 34 (.pointer (some ⟨w.heap.size + 1, 6, none⟩)) rfl rfl rfl (fun W hW => calm_run (by simp [execOp, Act.eval, go_sem]))
  · exact CalmG.mk 35 (.int .i64 y6) rfl rfl rfl (fun W hW => by have hc := row_int (off := 6) (z := y6) ((hW.block _ ly).trans ky_26) rfl; exact calm_run (by simp [execOp, Act.eval, go_sem, hc]))
  · exact CalmG.mk 36 (.int .i64 (x8 * y6)) rfl rfl rfl (fun W hW => calm_run (by simp [execOp, Act.eval, go_sem, wmul bx8 by6]))
  · exact CalmG.mk 37 (.int .i64 (x6 * y0 + x7 * y3 + x8 * y6)) rfl rfl rfl (fun W hW => calm_run (by simp [execOp, Act.eval, go_sem, wadd3 bx6 by0 bx7 by3 bx8 by6]))
  intro V_27 hW
  simp only [List.drop_succ_cons, List.drop_zero]
  have kx_27 := (hW.block _ lx).trans kx_26
  have ky_27 := (hW.block _ ly).trans ky_26
  have kr_27 := (hW.block _ lr).trans kr_26
  have ko_27 := (hW.block _ lo).trans ko_26
  have HB_27 := low_tr' HB_26 hW (by omega)
  clear kx_26 ky_26 kr_26 ko_26 HB_26 lx ly lr lo hW V_26
  go_wp2
  rw [rounds_succ]; go_wp2
  have lx := (Array.getElem?_eq_some_iff.1 kx_27).1
  have ly := (Array.getElem?_eq_some_iff.1 ky_27).1
  have lr := (Array.getElem?_eq_some_iff.1 kr_27).1
  have lo := (Array.getElem?_eq_some_iff.1 ko_27).1
  refine region_via 7 [(38, .int .i64 2), (39, .int .i64 0), (40, .int .i64 (x6 * y0 + x7 * y3 + x8 * y6)), (41, .int .i64 p), (42, .int .i64 ((x6 * y0 + x7 * y3 + x8 * y6) % p)), (43, .pointer (some ⟨w.heap.size + 1 + 1 + 1, 6, none⟩)), (44, .pointer (some ⟨w.heap.size + 1 + 1 + 1, 6, none⟩))] (by kernel_rfl) (by decide) (by kernel_rfl) (by kernel_rfl) (by kernel_rfl) (fun aE hpe => ?_)
  simp only [puts, Act.put, List.setIfInBounds_toArray, List.set_cons_zero, List.set_cons_succ] at hpe
  subst hpe
  refine ⟨⟨.inr (.inr ?_), .inr (.inr ?_), .inr (.inr ?_), .inr (.inr ?_), .inr (.inr ?_), .inr (.inr ?_), .inr (.inr ?_), trivial⟩, ?_⟩
  · exact CalmG.mk 38 (.int .i64 2) rfl rfl rfl (fun W hW => calm_move (.tmp 8) rfl rfl)
  · exact CalmG.mk 39 (.int .i64 0) rfl rfl rfl (fun W hW => calm_move (.tmp 9) rfl rfl)
  · exact CalmG.mk 40 (.int .i64 (x6 * y0 + x7 * y3 + x8 * y6)) rfl rfl rfl (fun W hW => calm_move (.tmp 10) rfl rfl)
  · exact CalmG.mk 41 (.int .i64 p) rfl rfl rfl (fun W hW => calm_move (.tmp 0) rfl rfl)
  · exact CalmG.mk 42 (.int .i64 ((x6 * y0 + x7 * y3 + x8 * y6) % p)) rfl rfl rfl (fun W hW => by have e0 := dot12 bx6 by0 bx7 by3 bx8 by6; have e1 := Int.tmod_eq_emod_of_nonneg (b := p) e0; have e2 := wrap_small (modb (z := (x6 * y0 + x7 * y3 + x8 * y6)) hpb); have e3 : (p == 0) = false := (by simp; omega); exact calm_run (by simp [execOp, Act.eval, go_sem, e0, e1, e2, e3, (show ¬ p = 0 by omega)]))
  · exact CalmG.mk 43 (.pointer (some ⟨w.heap.size + 1 + 1 + 1, 6, none⟩)) rfl rfl rfl (fun W hW => calm_run (by simp [execOp, Act.eval, go_sem]))
  · exact CalmG.mk 44 (.pointer (some ⟨w.heap.size + 1 + 1 + 1, 6, none⟩)) rfl rfl rfl (fun W hW => calm_run (by simp [execOp, Act.eval, go_sem]))
  intro W hW
  simp only [List.drop_succ_cons, List.drop_zero]
  refine wpList_store1 _ rfl 2 (.tmp 44) (.tmp 42) rfl rfl (g := w.heap.size + 1 + 1 + 1) (off := 6) (T := 31) (cs := #[.int .i64 (((x0 * y0 + x1 * y3 + x2 * y6) % p)), .int .i64 (((x0 * y1 + x1 * y4 + x2 * y7) % p)), .int .i64 (((x0 * y2 + x1 * y5 + x2 * y8) % p)), .int .i64 (((x3 * y0 + x4 * y3 + x5 * y6) % p)), .int .i64 (((x3 * y1 + x4 * y4 + x5 * y7) % p)), .int .i64 (((x3 * y2 + x4 * y5 + x5 * y8) % p)), .int .i64 0, .int .i64 0, .int .i64 0]) (cs' := #[.int .i64 (((x0 * y0 + x1 * y3 + x2 * y6) % p)), .int .i64 (((x0 * y1 + x1 * y4 + x2 * y7) % p)), .int .i64 (((x0 * y2 + x1 * y5 + x2 * y8) % p)), .int .i64 (((x3 * y0 + x4 * y3 + x5 * y6) % p)), .int .i64 (((x3 * y1 + x4 * y4 + x5 * y7) % p)), .int .i64 (((x3 * y2 + x4 * y5 + x5 * y8) % p)), .int .i64 (((x6 * y0 + x7 * y3 + x8 * y6) % p)), .int .i64 0, .int .i64 0]) (z := ((x6 * y0 + x7 * y3 + x8 * y6) % p)) rfl rfl ((hW.block _ lo).trans ko_27) (Nat.le_of_ble_eq_true rfl) rfl Tryz.sizeOf2 ?_
  refine wpList_nil ?_
  have kx_28 := (setRow_other W (w.heap.size + 1 + 1 + 1) (w.heap.size) #[.int .i64 (((x0 * y0 + x1 * y3 + x2 * y6) % p)), .int .i64 (((x0 * y1 + x1 * y4 + x2 * y7) % p)), .int .i64 (((x0 * y2 + x1 * y5 + x2 * y8) % p)), .int .i64 (((x3 * y0 + x4 * y3 + x5 * y6) % p)), .int .i64 (((x3 * y1 + x4 * y4 + x5 * y7) % p)), .int .i64 (((x3 * y2 + x4 * y5 + x5 * y8) % p)), .int .i64 (((x6 * y0 + x7 * y3 + x8 * y6) % p)), .int .i64 0, .int .i64 0] (by omega)).trans ((hW.block _ lx).trans kx_27)
  have ky_28 := (setRow_other W (w.heap.size + 1 + 1 + 1) (w.heap.size + 1) #[.int .i64 (((x0 * y0 + x1 * y3 + x2 * y6) % p)), .int .i64 (((x0 * y1 + x1 * y4 + x2 * y7) % p)), .int .i64 (((x0 * y2 + x1 * y5 + x2 * y8) % p)), .int .i64 (((x3 * y0 + x4 * y3 + x5 * y6) % p)), .int .i64 (((x3 * y1 + x4 * y4 + x5 * y7) % p)), .int .i64 (((x3 * y2 + x4 * y5 + x5 * y8) % p)), .int .i64 (((x6 * y0 + x7 * y3 + x8 * y6) % p)), .int .i64 0, .int .i64 0] (by omega)).trans ((hW.block _ ly).trans ky_27)
  have kr_28 := (setRow_other W (w.heap.size + 1 + 1 + 1) (w.heap.size + 1 + 1) #[.int .i64 (((x0 * y0 + x1 * y3 + x2 * y6) % p)), .int .i64 (((x0 * y1 + x1 * y4 + x2 * y7) % p)), .int .i64 (((x0 * y2 + x1 * y5 + x2 * y8) % p)), .int .i64 (((x3 * y0 + x4 * y3 + x5 * y6) % p)), .int .i64 (((x3 * y1 + x4 * y4 + x5 * y7) % p)), .int .i64 (((x3 * y2 + x4 * y5 + x5 * y8) % p)), .int .i64 (((x6 * y0 + x7 * y3 + x8 * y6) % p)), .int .i64 0, .int .i64 0] (by omega)).trans ((hW.block _ lr).trans kr_27)
  have ko_28 := setRow_heap W (w.heap.size + 1 + 1 + 1) _ #[.int .i64 (((x0 * y0 + x1 * y3 + x2 * y6) % p)), .int .i64 (((x0 * y1 + x1 * y4 + x2 * y7) % p)), .int .i64 (((x0 * y2 + x1 * y5 + x2 * y8) % p)), .int .i64 (((x3 * y0 + x4 * y3 + x5 * y6) % p)), .int .i64 (((x3 * y1 + x4 * y4 + x5 * y7) % p)), .int .i64 (((x3 * y2 + x4 * y5 + x5 * y8) % p)), .int .i64 (((x6 * y0 + x7 * y3 + x8 * y6) % p)), .int .i64 0, .int .i64 0] _ _ ((hW.block _ lo).trans ko_27)
  have HB_28 : Below w.heap.size w (W.setRow (w.heap.size + 1 + 1 + 1) #[.int .i64 (((x0 * y0 + x1 * y3 + x2 * y6) % p)), .int .i64 (((x0 * y1 + x1 * y4 + x2 * y7) % p)), .int .i64 (((x0 * y2 + x1 * y5 + x2 * y8) % p)), .int .i64 (((x3 * y0 + x4 * y3 + x5 * y6) % p)), .int .i64 (((x3 * y1 + x4 * y4 + x5 * y7) % p)), .int .i64 (((x3 * y2 + x4 * y5 + x5 * y8) % p)), .int .i64 (((x6 * y0 + x7 * y3 + x8 * y6) % p)), .int .i64 0, .int .i64 0]) := below_setRowN (low_tr' HB_27 hW (by omega)) (by omega) _
  clear kx_27 ky_27 kr_27 ko_27 HB_27 lx ly lr lo hW
  generalize W.setRow (w.heap.size + 1 + 1 + 1) #[.int .i64 (((x0 * y0 + x1 * y3 + x2 * y6) % p)), .int .i64 (((x0 * y1 + x1 * y4 + x2 * y7) % p)), .int .i64 (((x0 * y2 + x1 * y5 + x2 * y8) % p)), .int .i64 (((x3 * y0 + x4 * y3 + x5 * y6) % p)), .int .i64 (((x3 * y1 + x4 * y4 + x5 * y7) % p)), .int .i64 (((x3 * y2 + x4 * y5 + x5 * y8) % p)), .int .i64 (((x6 * y0 + x7 * y3 + x8 * y6) % p)), .int .i64 0, .int .i64 0] = V_28 at *
  clear V_27
  go_wp2
  rw [rounds_succ]; go_wp2
  refine wp_loop_rounds 4 ?_
  rw [rounds_succ]; go_wp2
  have lx := (Array.getElem?_eq_some_iff.1 kx_28).1
  have ly := (Array.getElem?_eq_some_iff.1 ky_28).1
  have lr := (Array.getElem?_eq_some_iff.1 kr_28).1
  have lo := (Array.getElem?_eq_some_iff.1 ko_28).1
  refine region_via 13 [(25, .int .i64 0), (26, .int .i64 2), (27, .int .i64 0), (28, .pointer (some ⟨w.heap.size, 6, none⟩)), (29, .pointer (some ⟨w.heap.size, 6, none⟩)), (30, .int .i64 x6), (31, .int .i64 0), (32, .int .i64 1), (33, .pointer (some ⟨w.heap.size + 1, 0, none⟩)), (34, .pointer (some ⟨w.heap.size + 1, 1, none⟩)), (35, .int .i64 y1), (36, .int .i64 (x6 * y1)), (37, .int .i64 (x6 * y1))] (by kernel_rfl) (by decide) (by kernel_rfl) (by kernel_rfl) (by kernel_rfl) (fun aE hpe => ?_)
  simp only [puts, Act.put, List.setIfInBounds_toArray, List.set_cons_zero, List.set_cons_succ] at hpe
  subst hpe
  refine ⟨⟨.inr (.inr ?_), .inr (.inr ?_), .inr (.inr ?_), .inr (.inr ?_), .inr (.inr ?_), .inr (.inr ?_), .inr (.inr ?_), .inr (.inr ?_), .inr (.inr ?_), .inr (.inr ?_), .inr (.inr ?_), .inr (.inr ?_), .inr (.inr ?_), trivial⟩, ?_⟩
  · exact CalmG.mk 25 (.int .i64 0) rfl rfl rfl (fun W hW => calm_move (.tmp 10) rfl rfl)
  · exact CalmG.mk 26 (.int .i64 2) rfl rfl rfl (fun W hW => calm_move (.tmp 8) rfl rfl)
  · exact CalmG.mk 27 (.int .i64 0) rfl rfl rfl (fun W hW => calm_move (.tmp 11) rfl rfl)
  · exact CalmG.mk 28 (.pointer (some ⟨w.heap.size, 6, none⟩)) rfl rfl rfl (fun W hW => calm_run (by simp [execOp, Act.eval, go_sem]))
  · exact CalmG.mk 29 (.pointer (some ⟨w.heap.size, 6, none⟩)) rfl rfl rfl (fun W hW => calm_run (by simp [execOp, Act.eval, go_sem]))
  · exact CalmG.mk 30 (.int .i64 x6) rfl rfl rfl (fun W hW => by have hc := row_int (off := 6) (z := x6) ((hW.block _ lx).trans kx_28) rfl; exact calm_run (by simp [execOp, Act.eval, go_sem, hc]))
  · exact CalmG.mk 31 (.int .i64 0) rfl rfl rfl (fun W hW => calm_move (.tmp 11) rfl rfl)
  · exact CalmG.mk 32 (.int .i64 1) rfl rfl rfl (fun W hW => calm_move (.tmp 9) rfl rfl)
  · exact CalmG.mk 33 (.pointer (some ⟨w.heap.size + 1, 0, none⟩)) rfl rfl rfl (fun W hW => calm_run (by simp [execOp, Act.eval, go_sem]))
  · exact CalmG.mk 34 (.pointer (some ⟨w.heap.size + 1, 1, none⟩)) rfl rfl rfl (fun W hW => calm_run (by simp [execOp, Act.eval, go_sem]))
  · exact CalmG.mk 35 (.int .i64 y1) rfl rfl rfl (fun W hW => by have hc := row_int (off := 1) (z := y1) ((hW.block _ ly).trans ky_28) rfl; exact calm_run (by simp [execOp, Act.eval, go_sem, hc]))
  · exact CalmG.mk 36 (.int .i64 (x6 * y1)) rfl rfl rfl (fun W hW => calm_run (by simp [execOp, Act.eval, go_sem, wmul bx6 by1]))
  · exact CalmG.mk 37 (.int .i64 (x6 * y1)) rfl rfl rfl (fun W hW => calm_run (by simp [execOp, Act.eval, go_sem, wmul bx6 by1]))
  intro V_29 hW
  simp only [List.drop_succ_cons, List.drop_zero]
  have kx_29 := (hW.block _ lx).trans kx_28
  have ky_29 := (hW.block _ ly).trans ky_28
  have kr_29 := (hW.block _ lr).trans kr_28
  have ko_29 := (hW.block _ lo).trans ko_28
  have HB_29 := low_tr' HB_28 hW (by omega)
  clear kx_28 ky_28 kr_28 ko_28 HB_28 lx ly lr lo hW V_28
  go_wp2
  rw [rounds_succ]; go_wp2
  have lx := (Array.getElem?_eq_some_iff.1 kx_29).1
  have ly := (Array.getElem?_eq_some_iff.1 ky_29).1
  have lr := (Array.getElem?_eq_some_iff.1 kr_29).1
  have lo := (Array.getElem?_eq_some_iff.1 ko_29).1
  refine region_via 13 [(25, .int .i64 (x6 * y1)), (26, .int .i64 2), (27, .int .i64 1), (28, .pointer (some ⟨w.heap.size, 6, none⟩)), (29, .pointer (some ⟨w.heap.size, 7, none⟩)), (30, .int .i64 x7), (31, .int .i64 1), (32, .int .i64 1), (33, .pointer (some ⟨w.heap.size + 1, 3, none⟩)), (34, .pointer (some ⟨w.heap.size + 1, 4, none⟩)), (35, .int .i64 y4), (36, .int .i64 (x7 * y4)), (37, .int .i64 (x6 * y1 + x7 * y4))] (by kernel_rfl) (by decide) (by kernel_rfl) (by kernel_rfl) (by kernel_rfl) (fun aE hpe => ?_)
  simp only [puts, Act.put, List.setIfInBounds_toArray, List.set_cons_zero, List.set_cons_succ] at hpe
  subst hpe
  refine ⟨⟨.inr (.inr ?_), .inr (.inr ?_), .inr (.inr ?_), .inr (.inr ?_), .inr (.inr ?_), .inr (.inr ?_), .inr (.inr ?_), .inr (.inr ?_), .inr (.inr ?_), .inr (.inr ?_), .inr (.inr ?_), .inr (.inr ?_), .inr (.inr ?_), trivial⟩, ?_⟩
  · exact CalmG.mk 25 (.int .i64 (x6 * y1)) rfl rfl rfl (fun W hW => calm_move (.tmp 10) rfl rfl)
  · exact CalmG.mk 26 (.int .i64 2) rfl rfl rfl (fun W hW => calm_move (.tmp 8) rfl rfl)
  · exact CalmG.mk 27 (.int .i64 1) rfl rfl rfl (fun W hW => calm_move (.tmp 11) rfl rfl)
  · exact CalmG.mk 28 (.pointer (some ⟨w.heap.size, 6, none⟩)) rfl rfl rfl (fun W hW => calm_run (by simp [execOp, Act.eval, go_sem]))
  · exact CalmG.mk 29 (.pointer (some ⟨w.heap.size, 7, none⟩)) rfl rfl rfl (fun W hW => calm_run (by simp [execOp, Act.eval, go_sem]))
  · exact CalmG.mk 30 (.int .i64 x7) rfl rfl rfl (fun W hW => by have hc := row_int (off := 7) (z := x7) ((hW.block _ lx).trans kx_29) rfl; exact calm_run (by simp [execOp, Act.eval, go_sem, hc]))
  · exact CalmG.mk 31 (.int .i64 1) rfl rfl rfl (fun W hW => calm_move (.tmp 11) rfl rfl)
  · exact CalmG.mk 32 (.int .i64 1) rfl rfl rfl (fun W hW => calm_move (.tmp 9) rfl rfl)
  · exact CalmG.mk 33 (.pointer (some ⟨w.heap.size + 1, 3, none⟩)) rfl rfl rfl (fun W hW => calm_run (by simp [execOp, Act.eval, go_sem]))
  · exact CalmG.mk 34 (.pointer (some ⟨w.heap.size + 1, 4, none⟩)) rfl rfl rfl (fun W hW => calm_run (by simp [execOp, Act.eval, go_sem]))
  · exact CalmG.mk 35 (.int .i64 y4) rfl rfl rfl (fun W hW => by have hc := row_int (off := 4) (z := y4) ((hW.block _ ly).trans ky_29) rfl; exact calm_run (by simp [execOp, Act.eval, go_sem, hc]))
  · exact CalmG.mk 36 (.int .i64 (x7 * y4)) rfl rfl rfl (fun W hW => calm_run (by simp [execOp, Act.eval, go_sem, wmul bx7 by4]))
  · exact CalmG.mk 37 (.int .i64 (x6 * y1 + x7 * y4)) rfl rfl rfl (fun W hW => calm_run (by simp [execOp, Act.eval, go_sem, wadd2 bx6 by1 bx7 by4]))
  intro V_30 hW
  simp only [List.drop_succ_cons, List.drop_zero]
  have kx_30 := (hW.block _ lx).trans kx_29
  have ky_30 := (hW.block _ ly).trans ky_29
  have kr_30 := (hW.block _ lr).trans kr_29
  have ko_30 := (hW.block _ lo).trans ko_29
  have HB_30 := low_tr' HB_29 hW (by omega)
  clear kx_29 ky_29 kr_29 ko_29 HB_29 lx ly lr lo hW V_29
  go_wp2
  rw [rounds_succ]; go_wp2
  have lx := (Array.getElem?_eq_some_iff.1 kx_30).1
  have ly := (Array.getElem?_eq_some_iff.1 ky_30).1
  have lr := (Array.getElem?_eq_some_iff.1 kr_30).1
  have lo := (Array.getElem?_eq_some_iff.1 ko_30).1
  refine region_via 13 [(25, .int .i64 (x6 * y1 + x7 * y4)), (26, .int .i64 2), (27, .int .i64 2), (28, .pointer (some ⟨w.heap.size, 6, none⟩)), (29, .pointer (some ⟨w.heap.size, 8, none⟩)), (30, .int .i64 x8), (31, .int .i64 2), (32, .int .i64 1), (33, .pointer (some ⟨w.heap.size + 1, 6, none⟩)), (34, .pointer (some ⟨w.heap.size + 1, 7, none⟩)), (35, .int .i64 y7), (36, .int .i64 (x8 * y7)), (37, .int .i64 (x6 * y1 + x7 * y4 + x8 * y7))] (by kernel_rfl) (by decide) (by kernel_rfl) (by kernel_rfl) (by kernel_rfl) (fun aE hpe => ?_)
  simp only [puts, Act.put, List.setIfInBounds_toArray, List.set_cons_zero, List.set_cons_succ] at hpe
  subst hpe
  refine ⟨⟨.inr (.inr ?_), .inr (.inr ?_), .inr (.inr ?_), .inr (.inr ?_), .inr (.inr ?_), .inr (.inr ?_), .inr (.inr ?_), .inr (.inr ?_), .inr (.inr ?_), .inr (.inr ?_), .inr (.inr ?_), .inr (.inr ?_), .inr (.inr ?_), trivial⟩, ?_⟩
  · exact CalmG.mk 25 (.int .i64 (x6 * y1 + x7 * y4)) rfl rfl rfl (fun W hW => calm_move (.tmp 10) rfl rfl)
  · exact CalmG.mk 26 (.int .i64 2) rfl rfl rfl (fun W hW => calm_move (.tmp 8) rfl rfl)
  · exact CalmG.mk 27 (.int .i64 2) rfl rfl rfl (fun W hW => calm_move (.tmp 11) rfl rfl)
  · exact CalmG.mk 28 (.pointer (some ⟨w.heap.size, 6, none⟩)) rfl rfl rfl (fun W hW => calm_run (by simp [execOp, Act.eval, go_sem]))
  · exact CalmG.mk 29 (.pointer (some ⟨w.heap.size, 8, none⟩)) rfl rfl rfl (fun W hW => calm_run (by simp [execOp, Act.eval, go_sem]))
  · exact CalmG.mk 30 (.int .i64 x8) rfl rfl rfl (fun W hW => by have hc := row_int (off := 8) (z := x8) ((hW.block _ lx).trans kx_30) rfl; exact calm_run (by simp [execOp, Act.eval, go_sem, hc]))
  · exact CalmG.mk 31 (.int .i64 2) rfl rfl rfl (fun W hW => calm_move (.tmp 11) rfl rfl)
  · exact CalmG.mk 32 (.int .i64 1) rfl rfl rfl (fun W hW => calm_move (.tmp 9) rfl rfl)
  · exact CalmG.mk 33 (.pointer (some ⟨w.heap.size + 1, 6, none⟩)) rfl rfl rfl (fun W hW => calm_run (by simp [execOp, Act.eval, go_sem]))
  · exact CalmG.mk 34 (.pointer (some ⟨w.heap.size + 1, 7, none⟩)) rfl rfl rfl (fun W hW => calm_run (by simp [execOp, Act.eval, go_sem]))
  · exact CalmG.mk 35 (.int .i64 y7) rfl rfl rfl (fun W hW => by have hc := row_int (off := 7) (z := y7) ((hW.block _ ly).trans ky_30) rfl; exact calm_run (by simp [execOp, Act.eval, go_sem, hc]))
  · exact CalmG.mk 36 (.int .i64 (x8 * y7)) rfl rfl rfl (fun W hW => calm_run (by simp [execOp, Act.eval, go_sem, wmul bx8 by7]))
  · exact CalmG.mk 37 (.int .i64 (x6 * y1 + x7 * y4 + x8 * y7)) rfl rfl rfl (fun W hW => calm_run (by simp [execOp, Act.eval, go_sem, wadd3 bx6 by1 bx7 by4 bx8 by7]))
  intro V_31 hW
  simp only [List.drop_succ_cons, List.drop_zero]
  have kx_31 := (hW.block _ lx).trans kx_30
  have ky_31 := (hW.block _ ly).trans ky_30
  have kr_31 := (hW.block _ lr).trans kr_30
  have ko_31 := (hW.block _ lo).trans ko_30
  have HB_31 := low_tr' HB_30 hW (by omega)
  clear kx_30 ky_30 kr_30 ko_30 HB_30 lx ly lr lo hW V_30
  go_wp2
  rw [rounds_succ]; go_wp2
  have lx := (Array.getElem?_eq_some_iff.1 kx_31).1
  have ly := (Array.getElem?_eq_some_iff.1 ky_31).1
  have lr := (Array.getElem?_eq_some_iff.1 kr_31).1
  have lo := (Array.getElem?_eq_some_iff.1 ko_31).1
  refine region_via 7 [(38, .int .i64 2), (39, .int .i64 1), (40, .int .i64 (x6 * y1 + x7 * y4 + x8 * y7)), (41, .int .i64 p), (42, .int .i64 ((x6 * y1 + x7 * y4 + x8 * y7) % p)), (43, .pointer (some ⟨w.heap.size + 1 + 1 + 1, 6, none⟩)), (44, .pointer (some ⟨w.heap.size + 1 + 1 + 1, 7, none⟩))] (by kernel_rfl) (by decide) (by kernel_rfl) (by kernel_rfl) (by kernel_rfl) (fun aE hpe => ?_)
  simp only [puts, Act.put, List.setIfInBounds_toArray, List.set_cons_zero, List.set_cons_succ] at hpe
  subst hpe
  refine ⟨⟨.inr (.inr ?_), .inr (.inr ?_), .inr (.inr ?_), .inr (.inr ?_), .inr (.inr ?_), .inr (.inr ?_), .inr (.inr ?_), trivial⟩, ?_⟩
  · exact CalmG.mk 38 (.int .i64 2) rfl rfl rfl (fun W hW => calm_move (.tmp 8) rfl rfl)
  · exact CalmG.mk 39 (.int .i64 1) rfl rfl rfl (fun W hW => calm_move (.tmp 9) rfl rfl)
  · exact CalmG.mk 40 (.int .i64 (x6 * y1 + x7 * y4 + x8 * y7)) rfl rfl rfl (fun W hW => calm_move (.tmp 10) rfl rfl)
  · exact CalmG.mk 41 (.int .i64 p) rfl rfl rfl (fun W hW => calm_move (.tmp 0) rfl rfl)
  · exact CalmG.mk 42 (.int .i64 ((x6 * y1 + x7 * y4 + x8 * y7) % p)) rfl rfl rfl (fun W hW => by have e0 := dot12 bx6 by1 bx7 by4 bx8 by7; have e1 := Int.tmod_eq_emod_of_nonneg (b := p) e0; have e2 := wrap_small (modb (z := (x6 * y1 + x7 * y4 + x8 * y7)) hpb); have e3 : (p == 0) = false := (by simp; omega); exact calm_run (by simp [execOp, Act.eval, go_sem, e0, e1, e2, e3, (show ¬ p = 0 by omega)]))
  · exact CalmG.mk 43 (.pointer (some ⟨w.heap.size + 1 + 1 + 1, 6, none⟩)) rfl rfl rfl (fun W hW => calm_run (by simp [execOp, Act.eval, go_sem]))
  · exact CalmG.mk 44 (.pointer (some ⟨w.heap.size + 1 + 1 + 1, 7, none⟩)) rfl rfl rfl (fun W hW => calm_run (by simp [execOp, Act.eval, go_sem]))
  intro W hW
  simp only [List.drop_succ_cons, List.drop_zero]
  refine wpList_store1 _ rfl 2 (.tmp 44) (.tmp 42) rfl rfl (g := w.heap.size + 1 + 1 + 1) (off := 7) (T := 31) (cs := #[.int .i64 (((x0 * y0 + x1 * y3 + x2 * y6) % p)), .int .i64 (((x0 * y1 + x1 * y4 + x2 * y7) % p)), .int .i64 (((x0 * y2 + x1 * y5 + x2 * y8) % p)), .int .i64 (((x3 * y0 + x4 * y3 + x5 * y6) % p)), .int .i64 (((x3 * y1 + x4 * y4 + x5 * y7) % p)), .int .i64 (((x3 * y2 + x4 * y5 + x5 * y8) % p)), .int .i64 (((x6 * y0 + x7 * y3 + x8 * y6) % p)), .int .i64 0, .int .i64 0]) (cs' := #[.int .i64 (((x0 * y0 + x1 * y3 + x2 * y6) % p)), .int .i64 (((x0 * y1 + x1 * y4 + x2 * y7) % p)), .int .i64 (((x0 * y2 + x1 * y5 + x2 * y8) % p)), .int .i64 (((x3 * y0 + x4 * y3 + x5 * y6) % p)), .int .i64 (((x3 * y1 + x4 * y4 + x5 * y7) % p)), .int .i64 (((x3 * y2 + x4 * y5 + x5 * y8) % p)), .int .i64 (((x6 * y0 + x7 * y3 + x8 * y6) % p)), .int .i64 (((x6 * y1 + x7 * y4 + x8 * y7) % p)), .int .i64 0]) (z := ((x6 * y1 + x7 * y4 + x8 * y7) % p)) rfl rfl ((hW.block _ lo).trans ko_31) (Nat.le_of_ble_eq_true rfl) rfl Tryz.sizeOf2 ?_
  refine wpList_nil ?_
  have kx_32 := (setRow_other W (w.heap.size + 1 + 1 + 1) (w.heap.size) #[.int .i64 (((x0 * y0 + x1 * y3 + x2 * y6) % p)), .int .i64 (((x0 * y1 + x1 * y4 + x2 * y7) % p)), .int .i64 (((x0 * y2 + x1 * y5 + x2 * y8) % p)), .int .i64 (((x3 * y0 + x4 * y3 + x5 * y6) % p)), .int .i64 (((x3 * y1 + x4 * y4 + x5 * y7) % p)), .int .i64 (((x3 * y2 + x4 * y5 + x5 * y8) % p)), .int .i64 (((x6 * y0 + x7 * y3 + x8 * y6) % p)), .int .i64 (((x6 * y1 + x7 * y4 + x8 * y7) % p)), .int .i64 0] (by omega)).trans ((hW.block _ lx).trans kx_31)
  have ky_32 := (setRow_other W (w.heap.size + 1 + 1 + 1) (w.heap.size + 1) #[.int .i64 (((x0 * y0 + x1 * y3 + x2 * y6) % p)), .int .i64 (((x0 * y1 + x1 * y4 + x2 * y7) % p)), .int .i64 (((x0 * y2 + x1 * y5 + x2 * y8) % p)), .int .i64 (((x3 * y0 + x4 * y3 + x5 * y6) % p)), .int .i64 (((x3 * y1 + x4 * y4 + x5 * y7) % p)), .int .i64 (((x3 * y2 + x4 * y5 + x5 * y8) % p)), .int .i64 (((x6 * y0 + x7 * y3 + x8 * y6) % p)), .int .i64 (((x6 * y1 + x7 * y4 + x8 * y7) % p)), .int .i64 0] (by omega)).trans ((hW.block _ ly).trans ky_31)
  have kr_32 := (setRow_other W (w.heap.size + 1 + 1 + 1) (w.heap.size + 1 + 1) #[.int .i64 (((x0 * y0 + x1 * y3 + x2 * y6) % p)), .int .i64 (((x0 * y1 + x1 * y4 + x2 * y7) % p)), .int .i64 (((x0 * y2 + x1 * y5 + x2 * y8) % p)), .int .i64 (((x3 * y0 + x4 * y3 + x5 * y6) % p)), .int .i64 (((x3 * y1 + x4 * y4 + x5 * y7) % p)), .int .i64 (((x3 * y2 + x4 * y5 + x5 * y8) % p)), .int .i64 (((x6 * y0 + x7 * y3 + x8 * y6) % p)), .int .i64 (((x6 * y1 + x7 * y4 + x8 * y7) % p)), .int .i64 0] (by omega)).trans ((hW.block _ lr).trans kr_31)
  have ko_32 := setRow_heap W (w.heap.size + 1 + 1 + 1) _ #[.int .i64 (((x0 * y0 + x1 * y3 + x2 * y6) % p)), .int .i64 (((x0 * y1 + x1 * y4 + x2 * y7) % p)), .int .i64 (((x0 * y2 + x1 * y5 + x2 * y8) % p)), .int .i64 (((x3 * y0 + x4 * y3 + x5 * y6) % p)), .int .i64 (((x3 * y1 + x4 * y4 + x5 * y7) % p)), .int .i64 (((x3 * y2 + x4 * y5 + x5 * y8) % p)), .int .i64 (((x6 * y0 + x7 * y3 + x8 * y6) % p)), .int .i64 (((x6 * y1 + x7 * y4 + x8 * y7) % p)), .int .i64 0] _ _ ((hW.block _ lo).trans ko_31)
  have HB_32 : Below w.heap.size w (W.setRow (w.heap.size + 1 + 1 + 1) #[.int .i64 (((x0 * y0 + x1 * y3 + x2 * y6) % p)), .int .i64 (((x0 * y1 + x1 * y4 + x2 * y7) % p)), .int .i64 (((x0 * y2 + x1 * y5 + x2 * y8) % p)), .int .i64 (((x3 * y0 + x4 * y3 + x5 * y6) % p)), .int .i64 (((x3 * y1 + x4 * y4 + x5 * y7) % p)), .int .i64 (((x3 * y2 + x4 * y5 + x5 * y8) % p)), .int .i64 (((x6 * y0 + x7 * y3 + x8 * y6) % p)), .int .i64 (((x6 * y1 + x7 * y4 + x8 * y7) % p)), .int .i64 0]) := below_setRowN (low_tr' HB_31 hW (by omega)) (by omega) _
  clear kx_31 ky_31 kr_31 ko_31 HB_31 lx ly lr lo hW
  generalize W.setRow (w.heap.size + 1 + 1 + 1) #[.int .i64 (((x0 * y0 + x1 * y3 + x2 * y6) % p)), .int .i64 (((x0 * y1 + x1 * y4 + x2 * y7) % p)), .int .i64 (((x0 * y2 + x1 * y5 + x2 * y8) % p)), .int .i64 (((x3 * y0 + x4 * y3 + x5 * y6) % p)), .int .i64 (((x3 * y1 + x4 * y4 + x5 * y7) % p)), .int .i64 (((x3 * y2 + x4 * y5 + x5 * y8) % p)), .int .i64 (((x6 * y0 + x7 * y3 + x8 * y6) % p)), .int .i64 (((x6 * y1 + x7 * y4 + x8 * y7) % p)), .int .i64 0] = V_32 at *
  clear V_31
  go_wp2
  rw [rounds_succ]; go_wp2
  refine wp_loop_rounds 4 ?_
  rw [rounds_succ]; go_wp2
  have lx := (Array.getElem?_eq_some_iff.1 kx_32).1
  have ly := (Array.getElem?_eq_some_iff.1 ky_32).1
  have lr := (Array.getElem?_eq_some_iff.1 kr_32).1
  have lo := (Array.getElem?_eq_some_iff.1 ko_32).1
  refine region_via 13 [(25, .int .i64 0), (26, .int .i64 2), (27, .int .i64 0), (28, .pointer (some ⟨w.heap.size, 6, none⟩)), (29, .pointer (some ⟨w.heap.size, 6, none⟩)), (30, .int .i64 x6), (31, .int .i64 0), (32, .int .i64 2), (33, .pointer (some ⟨w.heap.size + 1, 0, none⟩)), (34, .pointer (some ⟨w.heap.size + 1, 2, none⟩)), (35, .int .i64 y2), (36, .int .i64 (x6 * y2)), (37, .int .i64 (x6 * y2))] (by kernel_rfl) (by decide) (by kernel_rfl) (by kernel_rfl) (by kernel_rfl) (fun aE hpe => ?_)
  simp only [puts, Act.put, List.setIfInBounds_toArray, List.set_cons_zero, List.set_cons_succ] at hpe
  subst hpe
  refine ⟨⟨.inr (.inr ?_), .inr (.inr ?_), .inr (.inr ?_), .inr (.inr ?_), .inr (.inr ?_), .inr (.inr ?_), .inr (.inr ?_), .inr (.inr ?_), .inr (.inr ?_), .inr (.inr ?_), .inr (.inr ?_), .inr (.inr ?_), .inr (.inr ?_), trivial⟩, ?_⟩
  · exact CalmG.mk 25 (.int .i64 0) rfl rfl rfl (fun W hW => calm_move (.tmp 10) rfl rfl)
  · exact CalmG.mk 26 (.int .i64 2) rfl rfl rfl (fun W hW => calm_move (.tmp 8) rfl rfl)
  · exact CalmG.mk 27 (.int .i64 0) rfl rfl rfl (fun W hW => calm_move (.tmp 11) rfl rfl)
  · exact CalmG.mk 28 (.pointer (some ⟨w.heap.size, 6, none⟩)) rfl rfl rfl (fun W hW => calm_run (by simp [execOp, Act.eval, go_sem]))
  · exact CalmG.mk 29 (.pointer (some ⟨w.heap.size, 6, none⟩)) rfl rfl rfl (fun W hW => calm_run (by simp [execOp, Act.eval, go_sem]))
  · exact CalmG.mk 30 (.int .i64 x6) rfl rfl rfl (fun W hW => by have hc := row_int (off := 6) (z := x6) ((hW.block _ lx).trans kx_32) rfl; exact calm_run (by simp [execOp, Act.eval, go_sem, hc]))
  · exact CalmG.mk 31 (.int .i64 0) rfl rfl rfl (fun W hW => calm_move (.tmp 11) rfl rfl)
  · exact CalmG.mk 32 (.int .i64 2) rfl rfl rfl (fun W hW => calm_move (.tmp 9) rfl rfl)
  · exact CalmG.mk 33 (.pointer (some ⟨w.heap.size + 1, 0, none⟩)) rfl rfl rfl (fun W hW => calm_run (by simp [execOp, Act.eval, go_sem]))
  · exact CalmG.mk 34 (.pointer (some ⟨w.heap.size + 1, 2, none⟩)) rfl rfl rfl (fun W hW => calm_run (by simp [execOp, Act.eval, go_sem]))
  · exact CalmG.mk 35 (.int .i64 y2) rfl rfl rfl (fun W hW => by have hc := row_int (off := 2) (z := y2) ((hW.block _ ly).trans ky_32) rfl; exact calm_run (by simp [execOp, Act.eval, go_sem, hc]))
  · exact CalmG.mk 36 (.int .i64 (x6 * y2)) rfl rfl rfl (fun W hW => calm_run (by simp [execOp, Act.eval, go_sem, wmul bx6 by2]))
  · exact CalmG.mk 37 (.int .i64 (x6 * y2)) rfl rfl rfl (fun W hW => calm_run (by simp [execOp, Act.eval, go_sem, wmul bx6 by2]))
  intro V_33 hW
  simp only [List.drop_succ_cons, List.drop_zero]
  have kx_33 := (hW.block _ lx).trans kx_32
  have ky_33 := (hW.block _ ly).trans ky_32
  have kr_33 := (hW.block _ lr).trans kr_32
  have ko_33 := (hW.block _ lo).trans ko_32
  have HB_33 := low_tr' HB_32 hW (by omega)
  clear kx_32 ky_32 kr_32 ko_32 HB_32 lx ly lr lo hW V_32
  go_wp2
  rw [rounds_succ]; go_wp2
  have lx := (Array.getElem?_eq_some_iff.1 kx_33).1
  have ly := (Array.getElem?_eq_some_iff.1 ky_33).1
  have lr := (Array.getElem?_eq_some_iff.1 kr_33).1
  have lo := (Array.getElem?_eq_some_iff.1 ko_33).1
  refine region_via 13 [(25, .int .i64 (x6 * y2)), (26, .int .i64 2), (27, .int .i64 1), (28, .pointer (some ⟨w.heap.size, 6, none⟩)), (29, .pointer (some ⟨w.heap.size, 7, none⟩)), (30, .int .i64 x7), (31, .int .i64 1), (32, .int .i64 2), (33, .pointer (some ⟨w.heap.size + 1, 3, none⟩)), (34, .pointer (some ⟨w.heap.size + 1, 5, none⟩)), (35, .int .i64 y5), (36, .int .i64 (x7 * y5)), (37, .int .i64 (x6 * y2 + x7 * y5))] (by kernel_rfl) (by decide) (by kernel_rfl) (by kernel_rfl) (by kernel_rfl) (fun aE hpe => ?_)
  simp only [puts, Act.put, List.setIfInBounds_toArray, List.set_cons_zero, List.set_cons_succ] at hpe
  subst hpe
  refine ⟨⟨.inr (.inr ?_), .inr (.inr ?_), .inr (.inr ?_), .inr (.inr ?_), .inr (.inr ?_), .inr (.inr ?_), .inr (.inr ?_), .inr (.inr ?_), .inr (.inr ?_), .inr (.inr ?_), .inr (.inr ?_), .inr (.inr ?_), .inr (.inr ?_), trivial⟩, ?_⟩
  · exact CalmG.mk 25 (.int .i64 (x6 * y2)) rfl rfl rfl (fun W hW => calm_move (.tmp 10) rfl rfl)
  · exact CalmG.mk 26 (.int .i64 2) rfl rfl rfl (fun W hW => calm_move (.tmp 8) rfl rfl)
  · exact CalmG.mk 27 (.int .i64 1) rfl rfl rfl (fun W hW => calm_move (.tmp 11) rfl rfl)
  · exact CalmG.mk 28 (.pointer (some ⟨w.heap.size, 6, none⟩)) rfl rfl rfl (fun W hW => calm_run (by simp [execOp, Act.eval, go_sem]))
  · exact CalmG.mk 29 (.pointer (some ⟨w.heap.size, 7, none⟩)) rfl rfl rfl (fun W hW => calm_run (by simp [execOp, Act.eval, go_sem]))
  · exact CalmG.mk 30 (.int .i64 x7) rfl rfl rfl (fun W hW => by have hc := row_int (off := 7) (z := x7) ((hW.block _ lx).trans kx_33) rfl; exact calm_run (by simp [execOp, Act.eval, go_sem, hc]))
  · exact CalmG.mk 31 (.int .i64 1) rfl rfl rfl (fun W hW => calm_move (.tmp 11) rfl rfl)
  · exact CalmG.mk 32 (.int .i64 2) rfl rfl rfl (fun W hW => calm_move (.tmp 9) rfl rfl)
  · exact CalmG.mk 33 (.pointer (some ⟨w.heap.size + 1, 3, none⟩)) rfl rfl rfl (fun W hW => calm_run (by simp [execOp, Act.eval, go_sem]))
  · exact CalmG.mk 34 (.pointer (some ⟨w.heap.size + 1, 5, none⟩)) rfl rfl rfl (fun W hW => calm_run (by simp [execOp, Act.eval, go_sem]))
  · exact CalmG.mk 35 (.int .i64 y5) rfl rfl rfl (fun W hW => by have hc := row_int (off := 5) (z := y5) ((hW.block _ ly).trans ky_33) rfl; exact calm_run (by simp [execOp, Act.eval, go_sem, hc]))
  · exact CalmG.mk 36 (.int .i64 (x7 * y5)) rfl rfl rfl (fun W hW => calm_run (by simp [execOp, Act.eval, go_sem, wmul bx7 by5]))
  · exact CalmG.mk 37 (.int .i64 (x6 * y2 + x7 * y5)) rfl rfl rfl (fun W hW => calm_run (by simp [execOp, Act.eval, go_sem, wadd2 bx6 by2 bx7 by5]))
  intro V_34 hW
  simp only [List.drop_succ_cons, List.drop_zero]
  have kx_34 := (hW.block _ lx).trans kx_33
  have ky_34 := (hW.block _ ly).trans ky_33
  have kr_34 := (hW.block _ lr).trans kr_33
  have ko_34 := (hW.block _ lo).trans ko_33
  have HB_34 := low_tr' HB_33 hW (by omega)
  clear kx_33 ky_33 kr_33 ko_33 HB_33 lx ly lr lo hW V_33
  go_wp2
  rw [rounds_succ]; go_wp2
  have lx := (Array.getElem?_eq_some_iff.1 kx_34).1
  have ly := (Array.getElem?_eq_some_iff.1 ky_34).1
  have lr := (Array.getElem?_eq_some_iff.1 kr_34).1
  have lo := (Array.getElem?_eq_some_iff.1 ko_34).1
  refine region_via 13 [(25, .int .i64 (x6 * y2 + x7 * y5)), (26, .int .i64 2), (27, .int .i64 2), (28, .pointer (some ⟨w.heap.size, 6, none⟩)), (29, .pointer (some ⟨w.heap.size, 8, none⟩)), (30, .int .i64 x8), (31, .int .i64 2), (32, .int .i64 2), (33, .pointer (some ⟨w.heap.size + 1, 6, none⟩)), (34, .pointer (some ⟨w.heap.size + 1, 8, none⟩)), (35, .int .i64 y8), (36, .int .i64 (x8 * y8)), (37, .int .i64 (x6 * y2 + x7 * y5 + x8 * y8))] (by kernel_rfl) (by decide) (by kernel_rfl) (by kernel_rfl) (by kernel_rfl) (fun aE hpe => ?_)
  simp only [puts, Act.put, List.setIfInBounds_toArray, List.set_cons_zero, List.set_cons_succ] at hpe
  subst hpe
  refine ⟨⟨.inr (.inr ?_), .inr (.inr ?_), .inr (.inr ?_), .inr (.inr ?_), .inr (.inr ?_), .inr (.inr ?_), .inr (.inr ?_), .inr (.inr ?_), .inr (.inr ?_), .inr (.inr ?_), .inr (.inr ?_), .inr (.inr ?_), .inr (.inr ?_), trivial⟩, ?_⟩
  · exact CalmG.mk 25 (.int .i64 (x6 * y2 + x7 * y5)) rfl rfl rfl (fun W hW => calm_move (.tmp 10) rfl rfl)
  · exact CalmG.mk 26 (.int .i64 2) rfl rfl rfl (fun W hW => calm_move (.tmp 8) rfl rfl)
  · exact CalmG.mk 27 (.int .i64 2) rfl rfl rfl (fun W hW => calm_move (.tmp 11) rfl rfl)
  · exact CalmG.mk 28 (.pointer (some ⟨w.heap.size, 6, none⟩)) rfl rfl rfl (fun W hW => calm_run (by simp [execOp, Act.eval, go_sem]))
  · exact CalmG.mk 29 (.pointer (some ⟨w.heap.size, 8, none⟩)) rfl rfl rfl (fun W hW => calm_run (by simp [execOp, Act.eval, go_sem]))
  · exact CalmG.mk 30 (.int .i64 x8) rfl rfl rfl (fun W hW => by have hc := row_int (off := 8) (z := x8) ((hW.block _ lx).trans kx_34) rfl; exact calm_run (by simp [execOp, Act.eval, go_sem, hc]))
  · exact CalmG.mk 31 (.int .i64 2) rfl rfl rfl (fun W hW => calm_move (.tmp 11) rfl rfl)
  · exact CalmG.mk 32 (.int .i64 2) rfl rfl rfl (fun W hW => calm_move (.tmp 9) rfl rfl)
  · exact CalmG.mk 33 (.pointer (some ⟨w.heap.size + 1, 6, none⟩)) rfl rfl rfl (fun W hW => calm_run (by simp [execOp, Act.eval, go_sem]))
  · exact CalmG.mk 34 (.pointer (some ⟨w.heap.size + 1, 8, none⟩)) rfl rfl rfl (fun W hW => calm_run (by simp [execOp, Act.eval, go_sem]))
  · exact CalmG.mk 35 (.int .i64 y8) rfl rfl rfl (fun W hW => by have hc := row_int (off := 8) (z := y8) ((hW.block _ ly).trans ky_34) rfl; exact calm_run (by simp [execOp, Act.eval, go_sem, hc]))
  · exact CalmG.mk 36 (.int .i64 (x8 * y8)) rfl rfl rfl (fun W hW => calm_run (by simp [execOp, Act.eval, go_sem, wmul bx8 by8]))
  · exact CalmG.mk 37 (.int .i64 (x6 * y2 + x7 * y5 + x8 * y8)) rfl rfl rfl (fun W hW => calm_run (by simp [execOp, Act.eval, go_sem, wadd3 bx6 by2 bx7 by5 bx8 by8]))
  intro V_35 hW
  simp only [List.drop_succ_cons, List.drop_zero]
  have kx_35 := (hW.block _ lx).trans kx_34
  have ky_35 := (hW.block _ ly).trans ky_34
  have kr_35 := (hW.block _ lr).trans kr_34
  have ko_35 := (hW.block _ lo).trans ko_34
  have HB_35 := low_tr' HB_34 hW (by omega)
  clear kx_34 ky_34 kr_34 ko_34 HB_34 lx ly lr lo hW V_34
  go_wp2
  rw [rounds_succ]; go_wp2
  have lx := (Array.getElem?_eq_some_iff.1 kx_35).1
  have ly := (Array.getElem?_eq_some_iff.1 ky_35).1
  have lr := (Array.getElem?_eq_some_iff.1 kr_35).1
  have lo := (Array.getElem?_eq_some_iff.1 ko_35).1
  refine region_via 7 [(38, .int .i64 2), (39, .int .i64 2), (40, .int .i64 (x6 * y2 + x7 * y5 + x8 * y8)), (41, .int .i64 p), (42, .int .i64 ((x6 * y2 + x7 * y5 + x8 * y8) % p)), (43, .pointer (some ⟨w.heap.size + 1 + 1 + 1, 6, none⟩)), (44, .pointer (some ⟨w.heap.size + 1 + 1 + 1, 8, none⟩))] (by kernel_rfl) (by decide) (by kernel_rfl) (by kernel_rfl) (by kernel_rfl) (fun aE hpe => ?_)
  simp only [puts, Act.put, List.setIfInBounds_toArray, List.set_cons_zero, List.set_cons_succ] at hpe
  subst hpe
  refine ⟨⟨.inr (.inr ?_), .inr (.inr ?_), .inr (.inr ?_), .inr (.inr ?_), .inr (.inr ?_), .inr (.inr ?_), .inr (.inr ?_), trivial⟩, ?_⟩
  · exact CalmG.mk 38 (.int .i64 2) rfl rfl rfl (fun W hW => calm_move (.tmp 8) rfl rfl)
  · exact CalmG.mk 39 (.int .i64 2) rfl rfl rfl (fun W hW => calm_move (.tmp 9) rfl rfl)
  · exact CalmG.mk 40 (.int .i64 (x6 * y2 + x7 * y5 + x8 * y8)) rfl rfl rfl (fun W hW => calm_move (.tmp 10) rfl rfl)
  · exact CalmG.mk 41 (.int .i64 p) rfl rfl rfl (fun W hW => calm_move (.tmp 0) rfl rfl)
  · exact CalmG.mk 42 (.int .i64 ((x6 * y2 + x7 * y5 + x8 * y8) % p)) rfl rfl rfl (fun W hW => by have e0 := dot12 bx6 by2 bx7 by5 bx8 by8; have e1 := Int.tmod_eq_emod_of_nonneg (b := p) e0; have e2 := wrap_small (modb (z := (x6 * y2 + x7 * y5 + x8 * y8)) hpb); have e3 : (p == 0) = false := (by simp; omega); exact calm_run (by simp [execOp, Act.eval, go_sem, e0, e1, e2, e3, (show ¬ p = 0 by omega)]))
  · exact CalmG.mk 43 (.pointer (some ⟨w.heap.size + 1 + 1 + 1, 6, none⟩)) rfl rfl rfl (fun W hW => calm_run (by simp [execOp, Act.eval, go_sem]))
  · exact CalmG.mk 44 (.pointer (some ⟨w.heap.size + 1 + 1 + 1, 8, none⟩)) rfl rfl rfl (fun W hW => calm_run (by simp [execOp, Act.eval, go_sem]))
  intro W hW
  simp only [List.drop_succ_cons, List.drop_zero]
  refine wpList_store1 _ rfl 2 (.tmp 44) (.tmp 42) rfl rfl (g := w.heap.size + 1 + 1 + 1) (off := 8) (T := 31) (cs := #[.int .i64 (((x0 * y0 + x1 * y3 + x2 * y6) % p)), .int .i64 (((x0 * y1 + x1 * y4 + x2 * y7) % p)), .int .i64 (((x0 * y2 + x1 * y5 + x2 * y8) % p)), .int .i64 (((x3 * y0 + x4 * y3 + x5 * y6) % p)), .int .i64 (((x3 * y1 + x4 * y4 + x5 * y7) % p)), .int .i64 (((x3 * y2 + x4 * y5 + x5 * y8) % p)), .int .i64 (((x6 * y0 + x7 * y3 + x8 * y6) % p)), .int .i64 (((x6 * y1 + x7 * y4 + x8 * y7) % p)), .int .i64 0]) (cs' := #[.int .i64 (((x0 * y0 + x1 * y3 + x2 * y6) % p)), .int .i64 (((x0 * y1 + x1 * y4 + x2 * y7) % p)), .int .i64 (((x0 * y2 + x1 * y5 + x2 * y8) % p)), .int .i64 (((x3 * y0 + x4 * y3 + x5 * y6) % p)), .int .i64 (((x3 * y1 + x4 * y4 + x5 * y7) % p)), .int .i64 (((x3 * y2 + x4 * y5 + x5 * y8) % p)), .int .i64 (((x6 * y0 + x7 * y3 + x8 * y6) % p)), .int .i64 (((x6 * y1 + x7 * y4 + x8 * y7) % p)), .int .i64 (((x6 * y2 + x7 * y5 + x8 * y8) % p))]) (z := ((x6 * y2 + x7 * y5 + x8 * y8) % p)) rfl rfl ((hW.block _ lo).trans ko_35) (Nat.le_of_ble_eq_true rfl) rfl Tryz.sizeOf2 ?_
  refine wpList_nil ?_
  have kx_36 := (setRow_other W (w.heap.size + 1 + 1 + 1) (w.heap.size) #[.int .i64 (((x0 * y0 + x1 * y3 + x2 * y6) % p)), .int .i64 (((x0 * y1 + x1 * y4 + x2 * y7) % p)), .int .i64 (((x0 * y2 + x1 * y5 + x2 * y8) % p)), .int .i64 (((x3 * y0 + x4 * y3 + x5 * y6) % p)), .int .i64 (((x3 * y1 + x4 * y4 + x5 * y7) % p)), .int .i64 (((x3 * y2 + x4 * y5 + x5 * y8) % p)), .int .i64 (((x6 * y0 + x7 * y3 + x8 * y6) % p)), .int .i64 (((x6 * y1 + x7 * y4 + x8 * y7) % p)), .int .i64 (((x6 * y2 + x7 * y5 + x8 * y8) % p))] (by omega)).trans ((hW.block _ lx).trans kx_35)
  have ky_36 := (setRow_other W (w.heap.size + 1 + 1 + 1) (w.heap.size + 1) #[.int .i64 (((x0 * y0 + x1 * y3 + x2 * y6) % p)), .int .i64 (((x0 * y1 + x1 * y4 + x2 * y7) % p)), .int .i64 (((x0 * y2 + x1 * y5 + x2 * y8) % p)), .int .i64 (((x3 * y0 + x4 * y3 + x5 * y6) % p)), .int .i64 (((x3 * y1 + x4 * y4 + x5 * y7) % p)), .int .i64 (((x3 * y2 + x4 * y5 + x5 * y8) % p)), .int .i64 (((x6 * y0 + x7 * y3 + x8 * y6) % p)), .int .i64 (((x6 * y1 + x7 * y4 + x8 * y7) % p)), .int .i64 (((x6 * y2 + x7 * y5 + x8 * y8) % p))] (by omega)).trans ((hW.block _ ly).trans ky_35)
  have kr_36 := (setRow_other W (w.heap.size + 1 + 1 + 1) (w.heap.size + 1 + 1) #[.int .i64 (((x0 * y0 + x1 * y3 + x2 * y6) % p)), .int .i64 (((x0 * y1 + x1 * y4 + x2 * y7) % p)), .int .i64 (((x0 * y2 + x1 * y5 + x2 * y8) % p)), .int .i64 (((x3 * y0 + x4 * y3 + x5 * y6) % p)), .int .i64 (((x3 * y1 + x4 * y4 + x5 * y7) % p)), .int .i64 (((x3 * y2 + x4 * y5 + x5 * y8) % p)), .int .i64 (((x6 * y0 + x7 * y3 + x8 * y6) % p)), .int .i64 (((x6 * y1 + x7 * y4 + x8 * y7) % p)), .int .i64 (((x6 * y2 + x7 * y5 + x8 * y8) % p))] (by omega)).trans ((hW.block _ lr).trans kr_35)
  have ko_36 := setRow_heap W (w.heap.size + 1 + 1 + 1) _ #[.int .i64 (((x0 * y0 + x1 * y3 + x2 * y6) % p)), .int .i64 (((x0 * y1 + x1 * y4 + x2 * y7) % p)), .int .i64 (((x0 * y2 + x1 * y5 + x2 * y8) % p)), .int .i64 (((x3 * y0 + x4 * y3 + x5 * y6) % p)), .int .i64 (((x3 * y1 + x4 * y4 + x5 * y7) % p)), .int .i64 (((x3 * y2 + x4 * y5 + x5 * y8) % p)), .int .i64 (((x6 * y0 + x7 * y3 + x8 * y6) % p)), .int .i64 (((x6 * y1 + x7 * y4 + x8 * y7) % p)), .int .i64 (((x6 * y2 + x7 * y5 + x8 * y8) % p))] _ _ ((hW.block _ lo).trans ko_35)
  have HB_36 : Below w.heap.size w (W.setRow (w.heap.size + 1 + 1 + 1) #[.int .i64 (((x0 * y0 + x1 * y3 + x2 * y6) % p)), .int .i64 (((x0 * y1 + x1 * y4 + x2 * y7) % p)), .int .i64 (((x0 * y2 + x1 * y5 + x2 * y8) % p)), .int .i64 (((x3 * y0 + x4 * y3 + x5 * y6) % p)), .int .i64 (((x3 * y1 + x4 * y4 + x5 * y7) % p)), .int .i64 (((x3 * y2 + x4 * y5 + x5 * y8) % p)), .int .i64 (((x6 * y0 + x7 * y3 + x8 * y6) % p)), .int .i64 (((x6 * y1 + x7 * y4 + x8 * y7) % p)), .int .i64 (((x6 * y2 + x7 * y5 + x8 * y8) % p))]) := below_setRowN (low_tr' HB_35 hW (by omega)) (by omega) _
  clear kx_35 ky_35 kr_35 ko_35 HB_35 lx ly lr lo hW
  generalize W.setRow (w.heap.size + 1 + 1 + 1) #[.int .i64 (((x0 * y0 + x1 * y3 + x2 * y6) % p)), .int .i64 (((x0 * y1 + x1 * y4 + x2 * y7) % p)), .int .i64 (((x0 * y2 + x1 * y5 + x2 * y8) % p)), .int .i64 (((x3 * y0 + x4 * y3 + x5 * y6) % p)), .int .i64 (((x3 * y1 + x4 * y4 + x5 * y7) % p)), .int .i64 (((x3 * y2 + x4 * y5 + x5 * y8) % p)), .int .i64 (((x6 * y0 + x7 * y3 + x8 * y6) % p)), .int .i64 (((x6 * y1 + x7 * y4 + x8 * y7) % p)), .int .i64 (((x6 * y2 + x7 * y5 + x8 * y8) % p))] = V_36 at *
  clear V_35
  go_wp2
  rw [rounds_succ]; go_wp2
  have lr := (Array.getElem?_eq_some_iff.1 kr_36).1
  have lo := (Array.getElem?_eq_some_iff.1 ko_36).1
  rw [rounds_succ]
  go_wp2_with (first
    | (refine wpList_load_row _ rfl 31 _ rfl (g := w.heap.size + 1 + 1 + 1) (T := 31) (cs := #[.int .i64 (((x0 * y0 + x1 * y3 + x2 * y6) % p)), .int .i64 (((x0 * y1 + x1 * y4 + x2 * y7) % p)), .int .i64 (((x0 * y2 + x1 * y5 + x2 * y8) % p)), .int .i64 (((x3 * y0 + x4 * y3 + x5 * y6) % p)), .int .i64 (((x3 * y1 + x4 * y4 + x5 * y7) % p)), .int .i64 (((x3 * y2 + x4 * y5 + x5 * y8) % p)), .int .i64 (((x6 * y0 + x7 * y3 + x8 * y6) % p)), .int .i64 (((x6 * y1 + x7 * y4 + x8 * y7) % p)), .int .i64 (((x6 * y2 + x7 * y5 + x8 * y8) % p))]) (fr := (0, 0)) rfl ko_36 9 rfl Tryz.sizeOf31 Tryz.isAgg31 ?_)
    | (go_at_call 104; (with_reducible refine (HN.out _).mono ?_); rintro e w1_ ⟨rfl, hb1⟩; obtain ⟨hcb1, hfb1, hlb1⟩ := bcell hb1; have hsz1 := hb1.size; (try simp at hsz1); have HB1 := Lib.hid hb1; clear hb1)
    | (refine wpList_store_row _ rfl 31 _ _ rfl rfl (g := w.heap.size + 1 + 1) (T := 31) (cs := #[.int .i64 0, .int .i64 0, .int .i64 0, .int .i64 0, .int .i64 0, .int .i64 0, .int .i64 0, .int .i64 0, .int .i64 0]) (U := #[.int .i64 t0, .int .i64 t1, .int .i64 t2, .int .i64 t3, .int .i64 t4, .int .i64 t5, .int .i64 t6, .int .i64 t7, .int .i64 t8]) rfl rfl ((HB1.out.block _ lr).trans kr_36) rfl Tryz.sizeOf31 (by simp [Value.oneCell']) ?_))
  exact bodyPost_ret (v := .agg #[.int .i64 t0, .int .i64 t1, .int .i64 t2, .int .i64 t3, .int .i64 t4, .int .i64 t5, .int .i64 t6, .int .i64 t7, .int .i64 t8]) (results_row Tryz.results86 rfl (setRow_heap _ _ _ _ _ _ ((HB1.out.block _ lr).trans kr_36)) 9 rfl Tryz.sizeOf31 Tryz.isAgg31) rfl ⟨rfl, below_setRowN (low_tr' HB_36 HB1.out (by omega)) (by omega) _⟩
end Go.Proofs.YtaocnklolgdkfaaGreat
/- The Singer maps, in plain words: which code is the first. -/
namespace Go.Proofs.YtaocnklolgdkfaaGreat
open Go.RowKit
set_option linter.unusedVariables false
set_option linter.unusedSimpArgs false
def unitM : M9 := ((1, 0, 0), (0, 1, 0), (0, 0, 1))
/-- The powers of a map: number k is the power k + 1. -/
def powM (p : Int) (m : M9) : Nat → M9
  | 0 => m
  | k + 1 => timesM p (powM p m k) m
def compM (p c : Int) : M9 := ((0, 1, 0), (0, 0, 1), (c % p, c / p % p, c / (p * p)))
/-- From now on: how many steps until the unit. -/
def ordF (p : Int) (m : M9) : Nat → M9 → Nat → Nat
  | 0, _, _ => 0
  | f + 1, now, k => if now = unitM then k else ordF p m f (timesM p now m) (k + 1)
def ordM (p : Int) (m : M9) : Nat := ordF p m 200 m 1
theorem ordF_spec {p : Int} {m : M9} : ∀ (f : Nat) (k : Nat), ordF p m f (powM p m k) (k + 1) ≠ 0 → ∃ j, k ≤ j ∧ j < k + f ∧ ordF p m f (powM p m k) (k + 1) = j + 1 ∧ powM p m j = unitM ∧ ∀ i, k ≤ i → i < j → powM p m i ≠ unitM
  | 0, _, h => (h rfl).elim
  | f + 1, k, h => by
    unfold ordF at h ⊢
    by_cases e : powM p m k = unitM
    · rw [if_pos e]
      exact ⟨k, Nat.le_refl _, by omega, rfl, e, fun i h1 h2 => absurd h2 (by omega)⟩
    · rw [if_neg e] at h ⊢
      obtain ⟨j, h1, h2, h3, h4, h5⟩ := ordF_spec f (k + 1) h
      refine ⟨j, by omega, by omega, h3, h4, fun i hi hj => ?_⟩
      by_cases ei : i = k
      · rw [ei]; exact e
      · exact h5 i (by omega) hj
/-- The order of a map, where it is at most 200. -/
theorem ordM_spec {p : Int} {m : M9} {K : Nat} (h : ordM p m = K) (hK : K ≠ 0) : 1 ≤ K ∧ K ≤ 200 ∧ powM p m (K - 1) = unitM ∧ ∀ i, i < K - 1 → powM p m i ≠ unitM := by
  have h0 : ordF p m 200 (powM p m 0) (0 + 1) ≠ 0 := by rw [show ordF p m 200 (powM p m 0) (0 + 1) = K from h]; exact hK
  obtain ⟨j, _, h2, h3, h4, h5⟩ := ordF_spec 200 0 h0
  have e : K = j + 1 := by rw [← h]; exact h3
  subst e
  exact ⟨by omega, by omega, h4, fun i hi => h5 i (by omega) (by simpa using hi)⟩
/-- The first code of a Singer map. -/
def firstC (p : Nat) : Nat := if p = 3 then 4 else if p = 5 then 7 else if p = 7 then 9 else if p = 11 then 14 else 17
def checkC (p : Nat) : Bool := (List.range (firstC p)).all (fun c => c % p == 0 || (ordM p (compM p c) != 0 && ordM p (compM p c) != p * p + p + 1)) && (firstC p % p != 0 && ordM p (compM p (firstC p)) == p * p + p + 1)
theorem checks : ∀ p ∈ [3, 5, 7, 11, 13], checkC p = true := by decide +kernel
theorem inM_comp {p c : Nat} (hp : prB (p : Int) = true) (hc : c < p * p * p) : InM (compM p c) := by
  have hb := prB_bd hp
  have h1 : In12 ((c : Int) % p) := in12_mod hp
  have h2 : In12 ((c : Int) / p % p) := in12_mod hp
  have h3 : In12 ((c : Int) / ((p : Int) * p)) := by
    have e : (c : Int) / ((p : Int) * p) = ((c / (p * p) : Nat) : Int) := by simp
    rw [e]
    have : c / (p * p) < p := Nat.div_lt_of_lt_mul (by omega)
    generalize c / (p * p) = q at *
    exact ⟨Int.natCast_nonneg _, by omega⟩
  intro z hz
  simp only [compM, listM, List.mem_cons, List.not_mem_nil, or_false] at hz
  rcases hz with rfl | rfl | rfl | rfl | rfl | rfl | rfl | rfl | rfl <;> first | exact h1 | exact h2 | exact h3 | exact ⟨by decide, by decide⟩
theorem inM_pow {p : Int} {m : M9} (hp : prB p = true) (hm : InM m) (k : Nat) : InM (powM p m k) := by
  cases k with
  | zero => exact hm
  | succ k => exact inM_times hp
theorem eqM_dec (x y : M9) : eqM x.1 x.2.1 x.2.2 y.1 y.2.1 y.2.2 = decide (x = y) := by
  cases h : eqM x.1 x.2.1 x.2.2 y.1 y.2.1 y.2.2 with
  | true => obtain ⟨a, b, c⟩ := eqM_iff.1 h; exact (decide_eq_true (Prod.ext a (Prod.ext b c))).symm
  | false => exact (decide_eq_false (fun e => by rw [e, eqM_iff.2 ⟨rfl, rfl, rfl⟩] at h; cases h)).symm
end Go.Proofs.YtaocnklolgdkfaaGreat
/- Contracts: the orders of maps. (Printed by gens5.py, a program of this session.) -/
namespace Go.Proofs.YtaocnklolgdkfaaGreat
open Go.RowKit
set_option linter.unusedVariables false
set_option linter.unusedSimpArgs false
@[reducible] def cellsM9 (m : M9) : Array Value := #[.int .i64 m.1.1, .int .i64 m.1.2.1, .int .i64 m.1.2.2, .int .i64 m.2.1.1, .int .i64 m.2.1.2.1, .int .i64 m.2.1.2.2, .int .i64 m.2.2.1, .int .i64 m.2.2.2.1, .int .i64 m.2.2.2.2]
theorem numW {a b : Int} (h : a = b) : Value.int .i64 a = Value.int .i64 b := by rw [h]
@[go_sem high] theorem neMp (w : World) (x0 x1 x2 x3 x4 x5 x6 x7 x8 y0 y1 y2 y3 y4 y5 y6 y7 y8 : Int) : (binOp .neq 31 (.agg #[.int .i64 x0, .int .i64 x1, .int .i64 x2, .int .i64 x3, .int .i64 x4, .int .i64 x5, .int .i64 x6, .int .i64 x7, .int .i64 x8]) (.agg #[.int .i64 y0, .int .i64 y1, .int .i64 y2, .int .i64 y3, .int .i64 y4, .int .i64 y5, .int .i64 y6, .int .i64 y7, .int .i64 y8])).run Tryz.prog w = .ok (.bool (!eqM (x0, x1, x2) (x3, x4, x5) (x6, x7, x8) (y0, y1, y2) (y3, y4, y5) (y6, y7, y8))) w := by
  rw [run_neq_struct, eqAMap]; rfl
theorem calm_neMp {o : Oper} {ρ : Operand → Value} {W : World} {k : TypeId} (x y : Operand) {a b : M9} {v : Bool} (ho : o.op = .binOp .neq 31 x y k) (hx : ρ x = .agg (cellsM9 a)) (hy : ρ y = .agg (cellsM9 b)) (hv : (!decide (a = b)) = v) : calmAt Tryz.prog o ρ W (.bool v) := by
  refine calm_run ?_
  unfold execOp
  subst hv
  simp only [ho, hx, hy, Sem.run_bind, run_eqGuard_agg W .neq 31 x y _ _ eqgMp, Result.andThen_ok, neMp, Sem.run_pure]
  rw [eqM_dec a b]
theorem calm_eqMp9 {o : Oper} {ρ : Operand → Value} {W : World} {k : TypeId} (x y : Operand) {a b : M9} {v : Bool} (ho : o.op = .binOp .eql 31 x y k) (hx : ρ x = .agg (cellsM9 a)) (hy : ρ y = .agg (cellsM9 b)) (hv : decide (a = b) = v) : calmAt Tryz.prog o ρ W (.bool v) := by
  refine calm_run ?_
  unfold execOp
  subst hv
  simp only [ho, hx, hy, Sem.run_bind, run_eqGuard_agg W .eql 31 x y _ _ eqgMp, Result.andThen_ok, eqMp, Sem.run_pure]
  rw [eqM_dec a b]
set_option maxRecDepth 20000 in
set_option maxHeartbeats 4000000 in
theorem order_any (p : Int) (m : M9) (K : Nat) (w : World) (hp : prB p = true) (hm : InM m) (hK : ordM p m = K) (hK0 : K ≠ 0) :
    Calls Tryz.prog 54 #[.int .i64 p, .agg (cellsM9 m)] w (Ret w (.int .i64 (K : Int))) := by
  obtain ⟨k1, k2, k3, k4⟩ := ordM_spec hK hK0
  have HPow := Lib.hid (fun (k : Nat) => inM_pow (m := m) hp hm k)
  have HT := Lib.hid (fun (W : World) (k : Nat) => times_any p (powM p m k) m W hp (HPow.out k) hm)
  replace HT : Hid (∀ (W : World) (k : Nat), Calls Tryz.prog 80 #[.int .i64 p, .agg (cellsM9 (powM p m k)), .agg (cellsM9 m)] W (Ret W (.agg (cellsM9 (powM p m (k + 1)))))) := HT
  have HU : Hid (∀ W : World, Calls Tryz.prog 79 #[] W (Ret W (.agg (cellsM9 unitM)))) := Lib.hid (fun W => unit_impl W)
  have HY := Lib.hid k3
  have HN := Lib.hid k4
  clear hp hm hK k3 k4
  go_enter Tryz.func54, Tryz.ntmps54
  go_wp2
  go_loopw [5, 6] (fun q r wr => ∃ (k g : Nat), k < K ∧ q = .int .i64 ((k + 1 : Nat) : Int) ∧ r = .pointer (some ⟨g, 0, none⟩) ∧ w.heap.size < g ∧ g < wr.heap.size ∧ Hid (wr.heap[g]? = some (.cells (cellsM9 (powM p m k)) 31 (0, 0))) ∧ Hid (wr.heap[w.heap.size]? = some (.cells (cellsM9 m) 31 (0, 0))) ∧ Hid (Below w.heap.size w wr)) (fun q _ wr => K + 1 - (intOf q).toNat)
  case atStart => exact ⟨0, w.heap.size + 1, by omega, rfl, rfl, by omega, by simp, Lib.hid (by rw [hn_atN _ _ _ (by simp)]; rfl), Lib.hid (by rw [hn_pastN _ _ _ (by first | omega | (simp; done) | (simp; omega)), hn_atN _ _ _ (by simp)]), Lib.hid (by repeat (first | exact Below.refl _ _ | refine bset ?_ _ _ (by omega) _ | refine bal ?_ _ | refine bdrN ?_ _ | refine bdr ?_))⟩
  case round =>
    obtain ⟨k, g, hk, rfl, rfl, hg0, hg1, HG, HM, HB⟩ := hrel
    have hmw := HB.out.size
    go_wp2
    refine region_calm [(8, .agg (cellsM9 (powM p m k))), (9, .agg (cellsM9 unitM)), (10, .bool (!decide (powM p m k = unitM)))] (by kernel_rfl) (by kernel_rfl) (by kernel_rfl) (fun aE hpe => ?_)
    simp only [puts, Act.put, List.setIfInBounds_toArray, List.set_cons_zero, List.set_cons_succ] at hpe
    subst hpe
    refine ⟨⟨.inr (.inr ?_), .inr (.inr ?_), .inr (.inr ?_), trivial⟩, ?_⟩
    · exact Calm.mk 8 (.agg (cellsM9 (powM p m k))) rfl rfl (fun W hW => calm_load (cs := cellsM9 (powM p m k)) (g := g) (T := 31) (fr := (0, 0)) 31 (.tmp 6) rfl rfl ((hW.block _ hg1).trans HG.out) 9 rfl Tryz.sizeOf31 Tryz.isAgg31)
    · exact Calm.mk 9 (.agg (cellsM9 unitM)) rfl rfl (fun W hW => calm_call 79 _ #[] rfl rfl rfl (by simp [Act.eval]) (Tryz.call79 _ _) (HU.out W))
    · exact Calm.mk 10 (.bool (!decide (powM p m k = unitM))) rfl rfl (fun W hW => calm_neMp (.tmp 8) (.tmp 9) rfl rfl rfl rfl)
    intro W2 hW2
    have kg := (hW2.block _ hg1).trans HG.out
    have km := (hW2.block _ (by omega)).trans HM.out
    have lg := (Array.getElem?_eq_some_iff.1 kg).1
    have HB2 := Lib.hid (low_tr' HB.out hW2 hmw)
    clear hW2 HB HG HM
    have hT := Lib.hid (fun (W : World) => HT.out W k)
    by_cases he : powM p m k = unitM
    · have hkK : k + 1 = K := by
        rcases Nat.lt_or_ge k (K - 1) with h | h
        · exact (HN.out k h he).elim
        · omega
      rw [decide_eq_true he]
      go_wp2
      go_ret
      exact ⟨ret_int (by omega), HB2.out⟩
    · have hkK : k + 1 < K := by
        rcases Nat.lt_or_ge (k + 1) K with h | h
        · exact h
        · exfalso; exact he (by rw [show k = K - 1 by omega]; exact HY.out)
      rw [decide_eq_false he]
      clear he
      generalize powM p m k = now at *
      generalize hnx : powM p m (k + 1) = nxt at *
      have hmw2 := HB2.out.size
      go_wp2_with (first
        | (refine wpList_load_row _ rfl 31 _ rfl (g := g) (T := 31) (cs := cellsM9 now) (fr := (0, 0)) rfl kg 9 rfl Tryz.sizeOf31 Tryz.isAgg31 ?_)
        | (refine wpList_load_row _ rfl 31 _ rfl (g := W2.heap.size) (T := 31) (cs := cellsM9 now) (fr := (0, 0)) rfl (by rw [hn_atN _ _ _ rfl]) 9 rfl Tryz.sizeOf31 Tryz.isAgg31 ?_)
        | (refine wpList_load_row _ rfl 31 _ rfl (g := w.heap.size) (T := 31) (cs := cellsM9 m) (fr := (0, 0)) rfl (by rw [hn_pastN _ _ _ (by omega)]; exact km) 9 rfl Tryz.sizeOf31 Tryz.isAgg31 ?_)
        | (go_at_call 80; (with_reducible refine (hT.out _).mono ?_); rintro e w1_ ⟨rfl, hb1⟩; obtain ⟨hcb1, hfb1, hlb1⟩ := bcell hb1; have hsz1 := hb1.size; (try simp at hsz1); have HB1 := Lib.hid hb1; clear hb1)
        | (refine wpList_store_row _ rfl 31 _ _ rfl rfl (g := W2.heap.size) (T := 31) (cs := cellsM9 now) (U := cellsM9 nxt) rfl rfl (by rw [HB1.out.block _ (by simp), hn_atN _ _ _ rfl]) rfl Tryz.sizeOf31 (by simp [Value.oneCell']) ?_))
      go_roundw
      case rel => exact ⟨k + 1, W2.heap.size, hkK, numW (by omega), rfl, by omega, by simp; omega, Lib.hid (by rw [hnx]; exact setRow_heap _ _ (cellsM9 now) _ _ _ (by rw [HB1.out.block _ (by simp), hn_atN _ _ _ rfl])), Lib.hid ((setRow_other _ _ _ _ (by omega)).trans (by rw [HB1.out.block _ (by simp; omega), hn_pastN _ _ _ (by omega)]; exact km)), Lib.hid (below_setRowN (low_tr' (bal HB2.out _) HB1.out (by simp; omega)) (by omega) _)⟩
      case measure => simp [intOf]; omega
def ordT (K n : Nat) : Int := if K ≤ n then (K : Int) else 0
set_option maxRecDepth 20000 in
set_option maxHeartbeats 4000000 in
theorem l10Order_any (p : Int) (m : M9) (K n : Nat) (w : World) (hp : prB p = true) (hm : InM m) (hK : ordM p m = K) (hK0 : K ≠ 0) (hn : n ≤ 1000) :
    Calls Tryz.prog 60 #[.int .i64 p, .agg (cellsM9 m), .int .i64 (n : Int)] w (Ret w (.int .i64 (ordT K n))) := by
  obtain ⟨k1, k2, k3, k4⟩ := ordM_spec hK hK0
  have HPow := Lib.hid (fun (k : Nat) => inM_pow (m := m) hp hm k)
  have HT := Lib.hid (fun (W : World) (k : Nat) => l02Times_any p (powM p m k) m W hp (HPow.out k) hm)
  replace HT : Hid (∀ (W : World) (k : Nat), Calls Tryz.prog 86 #[.int .i64 p, .agg (cellsM9 (powM p m k)), .agg (cellsM9 m)] W (Ret W (.agg (cellsM9 (powM p m (k + 1)))))) := HT
  have HU : Hid (∀ W : World, Calls Tryz.prog 85 #[] W (Ret W (.agg (cellsM9 unitM)))) := Lib.hid (fun W => unit_spec W)
  have HY := Lib.hid k3
  have HN := Lib.hid k4
  clear hp hm hK k3 k4
  go_enter Tryz.func60, Tryz.ntmps60
  go_wp2
  have hKz : (K : Int) ≤ 200 := by omega
  go_loopw [8] (fun q wr => ∃ (k : Nat), k < K ∧ k ≤ n ∧ q = .int .i64 ((k + 1 : Nat) : Int) ∧ w.heap.size + 1 < wr.heap.size ∧ Hid (wr.heap[w.heap.size + 1]? = some (.cells (cellsM9 (powM p m k)) 31 (0, 0))) ∧ Hid (wr.heap[w.heap.size]? = some (.cells (cellsM9 m) 31 (0, 0))) ∧ Hid (Below w.heap.size w wr)) (fun q wr => K + 1 - (intOf q).toNat)
  case atStart => exact ⟨0, by omega, by omega, rfl, by simp, Lib.hid (by rw [hn_atN _ _ _ (by simp)]; rfl), Lib.hid (by rw [hn_pastN _ _ _ (by first | omega | (simp; done) | (simp; omega)), hn_atN _ _ _ (by simp)]), Lib.hid (by repeat (first | exact Below.refl _ _ | refine bset ?_ _ _ (by omega) _ | refine bal ?_ _ | refine bdrN ?_ _ | refine bdr ?_))⟩
  case round =>
    obtain ⟨k, hk, hkn, rfl, hg1, HG, HM, HB⟩ := hrel
    have hmw := HB.out.size
    by_cases hle : k + 1 ≤ n
    · have hlez : (k : Int) + 1 ≤ (n : Int) := by omega
      go_wp2
      refine region_calm [(15, .agg (cellsM9 (powM p m k))), (16, .agg (cellsM9 unitM)), (17, .bool (decide (powM p m k = unitM)))] (by kernel_rfl) (by kernel_rfl) (by kernel_rfl) (fun aE hpe => ?_)
      simp only [puts, Act.put, List.setIfInBounds_toArray, List.set_cons_zero, List.set_cons_succ] at hpe
      subst hpe
      refine ⟨⟨.inr (.inr ?_), .inr (.inr ?_), .inr (.inr ?_), trivial⟩, ?_⟩
      · exact Calm.mk 15 (.agg (cellsM9 (powM p m k))) rfl rfl (fun W hW => calm_load (cs := cellsM9 (powM p m k)) (g := w.heap.size + 1) (T := 31) (fr := (0, 0)) 31 (.tmp 7) rfl rfl ((hW.block _ hg1).trans HG.out) 9 rfl Tryz.sizeOf31 Tryz.isAgg31)
      · exact Calm.mk 16 (.agg (cellsM9 unitM)) rfl rfl (fun W hW => calm_call 85 _ #[] rfl rfl rfl (by simp [Act.eval]) (Tryz.call85 _ _) (HU.out W))
      · exact Calm.mk 17 (.bool (decide (powM p m k = unitM))) rfl rfl (fun W hW => calm_eqMp9 (.tmp 15) (.tmp 16) rfl rfl rfl rfl)
      intro W2 hW2
      have kg := (hW2.block _ hg1).trans HG.out
      have km := (hW2.block _ (by omega)).trans HM.out
      have lg := (Array.getElem?_eq_some_iff.1 kg).1
      have HB2 := Lib.hid (low_tr' HB.out hW2 hmw)
      clear hW2 HB HG HM
      have hT := Lib.hid (fun (W : World) => HT.out W k)
      by_cases he : powM p m k = unitM
      · have hkK : k + 1 = K := by
          rcases Nat.lt_or_ge k (K - 1) with h | h
          · exact (HN.out k h he).elim
          · omega
        rw [decide_eq_true he]
        go_wp2
        go_ret
        exact ⟨ret_int (by unfold ordT; rw [if_pos (by omega)]; omega), HB2.out⟩
      · have hkK : k + 1 < K := by
          rcases Nat.lt_or_ge (k + 1) K with h | h
          · exact h
          · exfalso; exact he (by rw [show k = K - 1 by omega]; exact HY.out)
        rw [decide_eq_false he]
        clear he
        generalize powM p m k = now at *
        generalize hnx : powM p m (k + 1) = nxt at *
        have hmw2 := HB2.out.size
        go_wp2_with (first
          | (refine wpList_load_row _ rfl 31 _ rfl (g := w.heap.size + 1) (T := 31) (cs := cellsM9 now) (fr := (0, 0)) rfl kg 9 rfl Tryz.sizeOf31 Tryz.isAgg31 ?_)
          | (refine wpList_load_row _ rfl 31 _ rfl (g := w.heap.size) (T := 31) (cs := cellsM9 m) (fr := (0, 0)) rfl km 9 rfl Tryz.sizeOf31 Tryz.isAgg31 ?_)
          | (go_at_call 86; (with_reducible refine (hT.out _).mono ?_); rintro e w1_ ⟨rfl, hb1⟩; obtain ⟨hcb1, hfb1, hlb1⟩ := bcell hb1; have hsz1 := hb1.size; (try simp at hsz1); have HB1 := Lib.hid hb1; clear hb1)
          | (refine wpList_store_row _ rfl 31 _ _ rfl rfl (g := w.heap.size + 1) (T := 31) (cs := cellsM9 now) (U := cellsM9 nxt) rfl rfl (by rw [HB1.out.block _ lg]; exact kg) rfl Tryz.sizeOf31 (by simp [Value.oneCell']) ?_))
        go_roundw
        case rel => exact ⟨k + 1, hkK, hle, numW (by omega), by simp; have := HB1.out.size; omega, Lib.hid (by rw [hnx]; exact setRow_heap _ _ (cellsM9 now) _ _ _ (by rw [HB1.out.block _ lg]; exact kg)), Lib.hid ((setRow_other _ _ _ _ (by omega)).trans (by rw [HB1.out.block _ (by omega)]; exact km)), Lib.hid (below_setRowN (low_tr' HB2.out HB1.out (by omega)) (by omega) _)⟩
        case measure => simp [intOf]; omega
    · have hlez : ¬ (k : Int) + 1 ≤ (n : Int) := by omega
      go_wp2
      go_ret
      exact ⟨ret_int (by unfold ordT; rw [if_neg (by omega)]), HB.out⟩
end Go.Proofs.YtaocnklolgdkfaaGreat
/- Contracts: the Singer map, as the program and as the reference find it. (Printed by gens6.py, a program of this session.) -/
namespace Go.Proofs.YtaocnklolgdkfaaGreat
open Go.RowKit
set_option linter.unusedVariables false
set_option linter.unusedSimpArgs false
theorem count_any (n : Nat) (w : World) (hn : n ≤ 13) : Calls Tryz.prog 39 #[.int .i64 (n : Int)] w fun e w' => e = .returned (.int .i64 ((n * n + n + 1 : Nat) : Int)) ∧ w = w' := by
  have h2 : 0 ≤ (n : Int) * (n : Int) ∧ (n : Int) * (n : Int) ≤ 169 := by
    refine ⟨Int.mul_nonneg (by omega) (by omega), ?_⟩
    have : (n : Int) * (n : Int) ≤ 13 * 13 := Int.mul_le_mul (by omega) (by omega) (by omega) (by omega)
    omega
  have e1 := wrap_small (z := (n : Int) * (n : Int)) (by omega)
  generalize hq : (n : Int) * (n : Int) = q at *
  have e2 := wrap_small (z := q + (n : Int)) (by omega)
  have e3 := wrap_small (z := q + (n : Int) + 1) (by omega)
  go_enter Tryz.func39, Tryz.ntmps39
  go_wp2
  go_ret
  exact ⟨ret_int (by simp only [Int.natCast_add, Int.natCast_mul]; omega), rfl⟩
theorem det_comp (n c : Nat) (hn : 3 ≤ n) : detZ (0, 1, 0) (0, 0, 1) ((c : Int) % (n : Int), (c : Int) / (n : Int) % (n : Int), (c : Int) / ((n : Int) * (n : Int))) % (n : Int) = ((c % n : Nat) : Int) := by
  unfold detZ
  simp
theorem comp_cells (n c : Nat) : cellsM9 (compM n c) = #[.int .i64 0, .int .i64 1, .int .i64 0, .int .i64 0, .int .i64 0, .int .i64 1, .int .i64 ((c : Int) % (n : Int)), .int .i64 ((c : Int) / (n : Int) % (n : Int)), .int .i64 ((c : Int) / ((n : Int) * (n : Int)))] := rfl
structure Codes (n : Nat) : Prop where
  pr : prB (n : Int) = true
  lt : firstC n < n * n * n
  no : ∀ c, c < firstC n → c % n = 0 ∨ (c % n ≠ 0 ∧ ordM n (compM n c) ≠ 0 ∧ ordM n (compM n c) ≠ n * n + n + 1)
  yes : firstC n % n ≠ 0 ∧ ordM n (compM n (firstC n)) = n * n + n + 1
theorem codes_of {n : Nat} (hp : prB (n : Int) = true) : Codes n := by
  have hm : n ∈ [3, 5, 7, 11, 13] := by
    have := prB_cases hp
    simp only [List.mem_cons, List.not_mem_nil, or_false]
    omega
  have hk := checks n hm
  unfold checkC at hk
  simp only [Bool.and_eq_true, bne_iff_ne, ne_eq, beq_iff_eq] at hk
  refine ⟨hp, ?_, fun c hc => ?_, hk.2⟩
  · simp only [List.mem_cons, List.not_mem_nil, or_false] at hm
    rcases hm with rfl | rfl | rfl | rfl | rfl <;> decide
  · have := List.all_eq_true.1 hk.1 c (List.mem_range.2 hc)
    simp only [Bool.or_eq_true, beq_iff_eq, Bool.and_eq_true, bne_iff_ne, ne_eq] at this
    rcases this with h | h
    · exact .inl h
    · by_cases h0 : c % n = 0
      · exact .inl h0
      · exact .inr ⟨h0, h.1, h.2⟩
set_option maxRecDepth 20000 in
set_option maxHeartbeats 8000000 in
theorem singer_any (n : Nat) (w : World) (hC : Codes n) :
    Calls Tryz.prog 29 #[.int .i64 (n : Int)] w (Ret w (.agg (cellsM9 (compM n (firstC n))))) := by
  have HC := Lib.hid hC
  obtain ⟨hn3, hn13⟩ := prB_bd hC.pr
  have hlt := hC.lt
  obtain ⟨M, hM⟩ : ∃ M : Int, (n : Int) * (n : Int) = M := ⟨_, rfl⟩
  obtain ⟨N3, hN3⟩ : ∃ N3 : Int, M * (n : Int) = N3 := ⟨_, rfl⟩
  have h2le : n * n ≤ 13 * 13 := Nat.mul_le_mul (by omega) (by omega)
  have h3le : n * n * n ≤ 13 * 13 * 13 := Nat.mul_le_mul h2le (by omega)
  have h2pos : 0 < n * n := Nat.mul_pos (by omega) (by omega)
  have hMv : M = ((n * n : Nat) : Int) := by rw [← hM]; simp
  have hNv : N3 = ((n * n * n : Nat) : Int) := by rw [← hN3, hMv]; simp
  obtain ⟨N2, hN2⟩ : ∃ N2 : Nat, n * n = N2 := ⟨_, rfl⟩
  obtain ⟨N4, hN4⟩ : ∃ N4 : Nat, N2 * n = N4 := ⟨_, rfl⟩
  rw [hN2] at hMv hNv h2le h3le h2pos hlt
  rw [hN4] at hNv h3le hlt
  have w1 : IntKind.wrap .i64 M = M := wrap_small (by omega)
  have w2 : IntKind.wrap .i64 N3 = N3 := wrap_small (by omega)
  have HN2 := Lib.hid hN2
  have HMv := Lib.hid hMv
  obtain ⟨F, hF⟩ : ∃ F : Nat, firstC n = F := ⟨_, rfl⟩
  have HF := Lib.hid hF
  rw [hF] at hlt
  have hltz : (F : Int) < N3 := by omega
  have hF2 : F < 2197 := by omega
  have HlN := Lib.hid hlt
  have hM0 : 0 < M := by omega
  have HN4 := Lib.hid hN4
  clear hN2 hN4 hMv hNv hF h2le h3le h2pos hlt
  go_enter Tryz.func29, Tryz.ntmps29
  go_wp2
  go_loopw [10] (fun q wr => ∃ c : Nat, c ≤ F ∧ q = .int .i64 (c : Int) ∧ Hid (wr.heap[w.heap.size]? = some (.cells #[.int .i64 0, .int .i64 0, .int .i64 0, .int .i64 0, .int .i64 0, .int .i64 0, .int .i64 0, .int .i64 0, .int .i64 0] 31 (0, 0))) ∧ Hid (Below w.heap.size w wr)) (fun q wr => F + 1 - (intOf q).toNat)
  case atStart => exact ⟨0, Nat.zero_le _, rfl, Lib.hid (by rw [hn_atN _ _ _ (by simp)]), Lib.hid (by repeat (first | exact Below.refl _ _ | refine bset ?_ _ _ (by omega) _ | refine bal ?_ _ | refine bdrN ?_ _ | refine bdr ?_))⟩
  case round =>
    obtain ⟨c, hc, rfl, HR, HB⟩ := hrel
    have hcN : (c : Int) < N3 := by omega
    have hc2 : c < 2197 := by omega
    obtain ⟨a, ha⟩ : ∃ a : Int, (c : Int) % (n : Int) = a := ⟨_, rfl⟩
    obtain ⟨d0, hd0⟩ : ∃ d0 : Int, (c : Int) / (n : Int) = d0 := ⟨_, rfl⟩
    obtain ⟨b, hb⟩ : ∃ b : Int, d0 % (n : Int) = b := ⟨_, rfl⟩
    obtain ⟨d, hd⟩ : ∃ d : Int, (c : Int) / M = d := ⟨_, rfl⟩
    obtain ⟨dv, hdv⟩ : ∃ dv : Nat, c % n = dv := ⟨_, rfl⟩
    have nz : ¬ n = 0 := by omega
    have nz2 : ¬ M = 0 := by omega
    have e17 : Int.tmod (c : Int) (n : Int) = a := by rw [← ha]; exact Int.tmod_eq_emod_of_nonneg (by omega)
    have w17 : IntKind.wrap .i64 a = a := by rw [← ha]; exact wrap_small (modb (by omega))
    have b20 : 0 ≤ d0 ∧ d0 ≤ 1000000 := by rw [← hd0]; exact ⟨Int.ediv_nonneg (by omega) (by omega), Int.le_trans (Int.ediv_le_self _ (by omega)) (by omega)⟩
    have e20 : Int.tdiv (c : Int) (n : Int) = d0 := by rw [← hd0]; exact Int.tdiv_eq_ediv_of_nonneg (by omega)
    have w20 : IntKind.wrap .i64 d0 = d0 := wrap_small b20
    have e22 : Int.tmod d0 (n : Int) = b := by rw [← hb]; exact Int.tmod_eq_emod_of_nonneg b20.1
    have w22 : IntKind.wrap .i64 b = b := by rw [← hb]; exact wrap_small (modb (by omega))
    have e27 : Int.tdiv (c : Int) M = d := by rw [← hd]; exact Int.tdiv_eq_ediv_of_nonneg (by omega)
    have w27 : IntKind.wrap .i64 d = d := by rw [← hd]; exact wrap_small ⟨Int.ediv_nonneg (by omega) (by omega), Int.le_trans (Int.ediv_le_self _ (by omega)) (by omega)⟩
    have hcell : cellsM9 (compM n c) = #[.int .i64 0, .int .i64 1, .int .i64 0, .int .i64 0, .int .i64 0, .int .i64 1, .int .i64 a, .int .i64 b, .int .i64 d] := by rw [comp_cells, ha, hM, hd, hd0, hb]
    have hin : InM (compM n c) := inM_comp HC.out.pr (by rw [HN2.out, HN4.out]; have := HlN.out; omega)
    have hdz : (dv : Int) = a := by rw [← ha, ← hdv]; simp
    have HDt : Hid (∀ W, Calls Tryz.prog 59 #[.agg #[.int .i64 0, .int .i64 1, .int .i64 0, .int .i64 0, .int .i64 0, .int .i64 1, .int .i64 a, .int .i64 b, .int .i64 d], .int .i64 (n : Int)] W (Ret W (.int .i64 (dv : Int)))) := Lib.hid (fun W => by
      have h1 := det_comp n c (by omega)
      rw [ha, hd0, hM, hd, hb, hdv] at h1
      obtain ⟨i0, i1, i2, _⟩ := inM_at hin
      have h2 := det_any n 0 1 0 0 0 1 a b d W HC.out.pr ⟨by decide, by decide, by decide⟩ ⟨by decide, by decide, by decide⟩ (by have h3 := i2; simp only [compM] at h3; rw [ha, hd0, hM, hd, hb] at h3; exact h3)
      rw [h1] at h2
      exact h2)
    have hHB := HB.out.size
    have lr0 := (Array.getElem?_eq_some_iff.1 HR.out).1
    have HKeep := Lib.hid (show True ∧ (c : Int) % (n : Int) = a ∧ (c : Int) / (n : Int) = d0 ∧ d0 % (n : Int) = b ∧ (c : Int) / M = d ∧ c % n = dv ∧ cellsM9 (compM n c) = #[.int .i64 0, .int .i64 1, .int .i64 0, .int .i64 0, .int .i64 0, .int .i64 1, .int .i64 a, .int .i64 b, .int .i64 d] ∧ InM (compM n c) from ⟨trivial, ha, hd0, hb, hd, hdv, hcell, hin⟩)
    clear ha hd0 hb hd hdv hcell hin
    go_wp2
    refine region_boxes [⟨17, 18, 4, 31, #[.int .i64 0, .int .i64 0, .int .i64 0, .int .i64 0, .int .i64 0, .int .i64 0, .int .i64 0, .int .i64 0, .int .i64 0], #[.int .i64 0, .int .i64 1, .int .i64 0, .int .i64 0, .int .i64 0, .int .i64 1, .int .i64 a, .int .i64 b, .int .i64 d]⟩] [(13, ptV 0 1 0), (14, ptV 0 0 1), (15, .int .i64 (c : Int)), (16, .int .i64 (n : Int)), (17, .int .i64 a), (18, .int .i64 (c : Int)), (19, .int .i64 (n : Int)), (20, .int .i64 d0), (21, .int .i64 (n : Int)), (22, .int .i64 b), (23, .int .i64 (c : Int)), (24, .int .i64 (n : Int)), (25, .int .i64 (n : Int)), (26, .int .i64 M), (27, .int .i64 d), (28, ptV a b d), (29, .agg #[.int .i64 0, .int .i64 1, .int .i64 0, .int .i64 0, .int .i64 0, .int .i64 1, .int .i64 a, .int .i64 b, .int .i64 d])] (by kernel_rfl) (by kernel_rfl) (by kernel_rfl) (fun aE hpe => ?_)
    simp only [puts, Act.put, List.setIfInBounds_toArray, List.set_cons_zero, List.set_cons_succ] at hpe
    subst hpe
    refine ⟨⟨⟨?_, ?_⟩, trivial⟩, ⟨.inr ?_, .inr ?_, .inr ?_, .inr ?_, .inr ?_, .inr ?_, .inr ?_, .inr ?_, .inr ?_, .inr ?_, .inr ?_, .inr ?_, .inr ?_, .inr ?_, .inr ?_, .inr ?_, .inr ?_, .inl rfl, .inl rfl, trivial⟩, ?_⟩
    · intro o ho ρ W
      obtain rfl : _ = o := Option.some.inj ho
      simp [execOp, go_sem]
    · intro o ho ρ W g hv hp hg
      obtain rfl : _ = o := Option.some.inj ho
      exact run_store_row (U := #[.int .i64 0, .int .i64 1, .int .i64 0, .int .i64 0, .int .i64 0, .int .i64 1, .int .i64 a, .int .i64 b, .int .i64 d]) 31 (.tmp 4) (.tmp 29) rfl hp (hv 29 (by simp [readsOf, Op.operands]) (by show (29 : Nat) ≠ 4; decide)) hg rfl Tryz.sizeOf31 (by simp [Value.oneCell'])
    · exact CalmG.mk 13 (ptV 0 1 0) rfl rfl rfl (fun W hW => calm_run (by simp [execOp, Act.eval, go_sem]))
    · exact CalmG.mk 14 (ptV 0 0 1) rfl rfl rfl (fun W hW => calm_run (by simp [execOp, Act.eval, go_sem]))
    · exact CalmG.mk 15 (.int .i64 (c : Int)) rfl rfl rfl (fun W hW => calm_move (.tmp 3) rfl rfl)
    · exact CalmG.mk 16 (.int .i64 (n : Int)) rfl rfl rfl (fun W hW => calm_move (.tmp 0) rfl rfl)
    · exact CalmG.mk 17 (.int .i64 a) rfl rfl rfl (fun W hW => calm_run (by simp [execOp, Act.eval, go_sem, nz, e17, w17]))
    · exact CalmG.mk 18 (.int .i64 (c : Int)) rfl rfl rfl (fun W hW => calm_move (.tmp 3) rfl rfl)
    · exact CalmG.mk 19 (.int .i64 (n : Int)) rfl rfl rfl (fun W hW => calm_move (.tmp 0) rfl rfl)
    · exact CalmG.mk 20 (.int .i64 d0) rfl rfl rfl (fun W hW => calm_run (by simp [execOp, Act.eval, go_sem, nz, e20, w20]))
    · exact CalmG.mk 21 (.int .i64 (n : Int)) rfl rfl rfl (fun W hW => calm_move (.tmp 0) rfl rfl)
    · exact CalmG.mk 22 (.int .i64 b) rfl rfl rfl (fun W hW => calm_run (by simp [execOp, Act.eval, go_sem, nz, e22, w22]))
    · exact CalmG.mk 23 (.int .i64 (c : Int)) rfl rfl rfl (fun W hW => calm_move (.tmp 3) rfl rfl)
    · exact CalmG.mk 24 (.int .i64 (n : Int)) rfl rfl rfl (fun W hW => calm_move (.tmp 0) rfl rfl)
    · exact CalmG.mk 25 (.int .i64 (n : Int)) rfl rfl rfl (fun W hW => calm_move (.tmp 0) rfl rfl)
    · exact CalmG.mk 26 (.int .i64 M) rfl rfl rfl (fun W hW => calm_run (by simp [execOp, Act.eval, go_sem, hM, w1]))
    · exact CalmG.mk 27 (.int .i64 d) rfl rfl rfl (fun W hW => calm_run (by simp [execOp, Act.eval, go_sem, nz2, e27, w27]))
    · exact CalmG.mk 28 (ptV a b d) rfl rfl rfl (fun W hW => calm_run (by simp [execOp, Act.eval, go_sem]))
    · exact CalmG.mk 29 (.agg #[.int .i64 0, .int .i64 1, .int .i64 0, .int .i64 0, .int .i64 0, .int .i64 1, .int .i64 a, .int .i64 b, .int .i64 d]) rfl rfl rfl (fun W hW => calm_run (by simp [execOp, Act.eval, go_sem]))
    intro g W2 hW2 hbx _
    obtain ⟨hg0, kb⟩ := hbx _ (.head _)
    dsimp only at hg0 kb
    simp only [List.map_cons, List.map_nil, puts, Act.put, List.setIfInBounds_toArray, List.set_cons_zero, List.set_cons_succ]
    generalize g 4 = gm at *
    clear hbx
    have lb := (Array.getElem?_eq_some_iff.1 kb).1
    have q0 : W2.cell? ⟨gm, 0, none⟩ = some (.int .i64 0) := row_int kb rfl
    have q1 : W2.cell? ⟨gm, 1, none⟩ = some (.int .i64 1) := row_int kb rfl
    have q2 : W2.cell? ⟨gm, 2, none⟩ = some (.int .i64 0) := row_int kb rfl
    have q3 : W2.cell? ⟨gm, 3, none⟩ = some (.int .i64 0) := row_int kb rfl
    have q4 : W2.cell? ⟨gm, 4, none⟩ = some (.int .i64 0) := row_int kb rfl
    have q5 : W2.cell? ⟨gm, 5, none⟩ = some (.int .i64 1) := row_int kb rfl
    have q6 : W2.cell? ⟨gm, 6, none⟩ = some (.int .i64 a) := row_int kb rfl
    have q7 : W2.cell? ⟨gm, 7, none⟩ = some (.int .i64 b) := row_int kb rfl
    have q8 : W2.cell? ⟨gm, 8, none⟩ = some (.int .i64 d) := row_int kb rfl
    have kr := (hW2.block _ lr0).trans HR.out
    have lr := (Array.getElem?_eq_some_iff.1 kr).1
    have HB2 := Lib.hid (low_tr' HB.out hW2 hHB)
    have hs2 := HB2.out.size
    clear hW2 HB HR lr0 hHB e17 w17 b20 e20 w20 e22 w22 e27 w27 nz2
    obtain ⟨_, ha, hd0, hb, hd, hdv, hcell, hin⟩ := HKeep.out
    have HOr := Lib.hid (fun (W : World) (K : Nat) (h1 : ordM n (compM n c) = K) (h2 : K ≠ 0) => (by have h3 := order_any n (compM n c) K W HC.out.pr hin h1 h2; rw [hcell] at h3; exact h3 : Calls Tryz.prog 54 #[.int .i64 (n : Int), .agg #[.int .i64 0, .int .i64 1, .int .i64 0, .int .i64 0, .int .i64 0, .int .i64 1, .int .i64 a, .int .i64 b, .int .i64 d]] W (Ret W (.int .i64 (K : Int)))))
    have HCo := Lib.hid (fun (W : World) => count_any n W (by omega))
    obtain ⟨Q, hQ⟩ : ∃ Q : Nat, n * n + n + 1 = Q := ⟨_, rfl⟩
    rw [hQ] at HCo
    have HCs := Lib.hid HC.out.no
    have HCy := Lib.hid HC.out.yes
    rw [HF.out, hQ] at HCy
    rw [HF.out, hQ] at HCs
    have HCell := Lib.hid hcell
    have HDv := Lib.hid hdv
    clear ha hd0 hb hd hdv hcell hin hdz HKeep hQ
    have tok1 : True := trivial
    have tok2 : True := trivial
    have tok3 : True := trivial
    by_cases hcF : c = F
    · subst hcF
      have hK : ordM n (compM n c) = Q := HCy.out.2
      have hQ0 : Q ≠ 0 := by have h1 := HC.out.yes.2; rw [HF.out, hK] at h1; omega
      have HO := Lib.hid (fun (W : World) => HOr.out W Q hK hQ0)
      have hz : ((dv : Int) == 0) = false := by have := HCy.out.1; rw [HDv.out] at this; simp; omega
      have hzn : ¬ dv = 0 := by have := HCy.out.1; rw [HDv.out] at this; exact this
      have hqq : ((Q : Int) == (Q : Int)) = true := by simp
      clear HCs HCy HOr hK hQ0
      go_wp2_with (first
      | (refine wpList_load_row _ rfl 31 _ rfl (g := gm) (T := 31) (cs := #[.int .i64 0, .int .i64 1, .int .i64 0, .int .i64 0, .int .i64 0, .int .i64 1, .int .i64 a, .int .i64 b, .int .i64 d]) (fr := (0, 0)) rfl kb 9 rfl Tryz.sizeOf31 Tryz.isAgg31 ?_)
      | (go_at_call 59; (with_reducible refine (HDt.out _).mono ?_); rintro e w3_ ⟨rfl, hb3⟩; obtain ⟨hcb3, hfb3, hlb3⟩ := bcell hb3; have hsz3 := hb3.size; (try simp at hsz3); have HB3 := Lib.hid hb3; clear hb3)
      | (refine wpList_load_row _ rfl 31 _ rfl (g := gm) (T := 31) (cs := #[.int .i64 0, .int .i64 1, .int .i64 0, .int .i64 0, .int .i64 0, .int .i64 1, .int .i64 a, .int .i64 b, .int .i64 d]) (fr := (0, 0)) rfl (by rw [HB3.out.block _ lb]; exact kb) 9 rfl Tryz.sizeOf31 Tryz.isAgg31 ?_)
      | (go_at_call 54; (with_reducible refine (HO.out _).mono ?_); rintro e w4_ ⟨rfl, hb4⟩; obtain ⟨hcb4, hfb4, hlb4⟩ := bcell hb4; have hsz4 := hb4.size; (try simp at hsz4); have HB4 := Lib.hid hb4; clear hb4)
      | (go_at_call 39; (with_reducible refine (HCo.out _).mono ?_); rintro e w' ⟨rfl, rfl⟩)
      | (refine wpList_load_row _ rfl 31 _ rfl (g := gm) (T := 31) (cs := #[.int .i64 0, .int .i64 1, .int .i64 0, .int .i64 0, .int .i64 0, .int .i64 1, .int .i64 a, .int .i64 b, .int .i64 d]) (fr := (0, 0)) rfl (by rw [HB4.out.block _ (by omega), HB3.out.block _ lb]; exact kb) 9 rfl Tryz.sizeOf31 Tryz.isAgg31 ?_)
      | (refine wpList_store_row _ rfl 31 _ _ rfl rfl (g := w.heap.size) (T := 31) (cs := #[.int .i64 0, .int .i64 0, .int .i64 0, .int .i64 0, .int .i64 0, .int .i64 0, .int .i64 0, .int .i64 0, .int .i64 0]) (U := #[.int .i64 0, .int .i64 1, .int .i64 0, .int .i64 0, .int .i64 0, .int .i64 1, .int .i64 a, .int .i64 b, .int .i64 d]) rfl rfl (by rw [HB4.out.block _ (by omega), HB3.out.block _ (by omega)]; exact kr) rfl Tryz.sizeOf31 (by simp [Value.oneCell']) ?_))
      exact bodyPost_ret (v := .agg #[.int .i64 0, .int .i64 1, .int .i64 0, .int .i64 0, .int .i64 0, .int .i64 1, .int .i64 a, .int .i64 b, .int .i64 d]) (results_row Tryz.results29 rfl (setRow_heap _ _ #[.int .i64 0, .int .i64 0, .int .i64 0, .int .i64 0, .int .i64 0, .int .i64 0, .int .i64 0, .int .i64 0, .int .i64 0] _ _ _ (by rw [HB4.out.block _ (by omega), HB3.out.block _ (by omega)]; exact kr)) 9 rfl Tryz.sizeOf31 Tryz.isAgg31) rfl ⟨by rw [HF.out, HCell.out], below_setRowN (low_tr' (low_tr' HB2.out HB3.out (by omega)) HB4.out (by omega)) (by omega) _⟩
    · have hclt : c < F := by omega
      rcases HCs.out c hclt with h0 | ⟨h0, h1, h2⟩
      · have h00 : dv = 0 := by rw [← HDv.out]; exact h0
        subst h00
        clear HCs HCy HOr h0
        go_wp2_with (first
          | (refine wpList_load_row _ rfl 31 _ rfl (g := gm) (T := 31) (cs := #[.int .i64 0, .int .i64 1, .int .i64 0, .int .i64 0, .int .i64 0, .int .i64 1, .int .i64 a, .int .i64 b, .int .i64 d]) (fr := (0, 0)) rfl kb 9 rfl Tryz.sizeOf31 Tryz.isAgg31 ?_)
          | (go_at_call 59; (with_reducible refine (HDt.out _).mono ?_); rintro e w3_ ⟨rfl, hb3⟩; obtain ⟨hcb3, hfb3, hlb3⟩ := bcell hb3; have hsz3 := hb3.size; (try simp at hsz3); have HB3 := Lib.hid hb3; clear hb3))
        go_roundw
        case rel => exact ⟨c + 1, by omega, numW (by omega), Lib.hid (by rw [HB3.out.block _ (by omega)]; exact kr), Lib.hid (low_tr' HB2.out HB3.out (by omega))⟩
        case measure => simp [intOf]; omega
      · obtain ⟨K, hK⟩ : ∃ K, ordM n (compM n c) = K := ⟨_, rfl⟩
        rw [hK] at h1 h2
        have HO := Lib.hid (fun (W : World) => HOr.out W K hK h1)
        have hz : ((dv : Int) == 0) = false := by rw [HDv.out] at h0; simp; omega
        have hzn : ¬ dv = 0 := by rw [HDv.out] at h0; exact h0
        have hkq : ¬ K = Q := h2
        have hqq : ((K : Int) == (Q : Int)) = false := by simp; omega
        clear HCs HCy HOr h0 h1 h2 hK
        go_wp2_with (first
        | (refine wpList_load_row _ rfl 31 _ rfl (g := gm) (T := 31) (cs := #[.int .i64 0, .int .i64 1, .int .i64 0, .int .i64 0, .int .i64 0, .int .i64 1, .int .i64 a, .int .i64 b, .int .i64 d]) (fr := (0, 0)) rfl kb 9 rfl Tryz.sizeOf31 Tryz.isAgg31 ?_)
        | (go_at_call 59; (with_reducible refine (HDt.out _).mono ?_); rintro e w3_ ⟨rfl, hb3⟩; obtain ⟨hcb3, hfb3, hlb3⟩ := bcell hb3; have hsz3 := hb3.size; (try simp at hsz3); have HB3 := Lib.hid hb3; clear hb3)
        | (refine wpList_load_row _ rfl 31 _ rfl (g := gm) (T := 31) (cs := #[.int .i64 0, .int .i64 1, .int .i64 0, .int .i64 0, .int .i64 0, .int .i64 1, .int .i64 a, .int .i64 b, .int .i64 d]) (fr := (0, 0)) rfl (by rw [HB3.out.block _ lb]; exact kb) 9 rfl Tryz.sizeOf31 Tryz.isAgg31 ?_)
        | (go_at_call 54; (with_reducible refine (HO.out _).mono ?_); rintro e w4_ ⟨rfl, hb4⟩; obtain ⟨hcb4, hfb4, hlb4⟩ := bcell hb4; have hsz4 := hb4.size; (try simp at hsz4); have HB4 := Lib.hid hb4; clear hb4)
        | (go_at_call 39; (with_reducible refine (HCo.out _).mono ?_); rintro e w' ⟨rfl, rfl⟩)
        | (refine wpList_load_row _ rfl 31 _ rfl (g := gm) (T := 31) (cs := #[.int .i64 0, .int .i64 1, .int .i64 0, .int .i64 0, .int .i64 0, .int .i64 1, .int .i64 a, .int .i64 b, .int .i64 d]) (fr := (0, 0)) rfl (by rw [HB4.out.block _ (by omega), HB3.out.block _ lb]; exact kb) 9 rfl Tryz.sizeOf31 Tryz.isAgg31 ?_)
        | (refine wpList_store_row _ rfl 31 _ _ rfl rfl (g := w.heap.size) (T := 31) (cs := #[.int .i64 0, .int .i64 0, .int .i64 0, .int .i64 0, .int .i64 0, .int .i64 0, .int .i64 0, .int .i64 0, .int .i64 0]) (U := #[.int .i64 0, .int .i64 1, .int .i64 0, .int .i64 0, .int .i64 0, .int .i64 1, .int .i64 a, .int .i64 b, .int .i64 d]) rfl rfl (by rw [HB4.out.block _ (by omega), HB3.out.block _ (by omega)]; exact kr) rfl Tryz.sizeOf31 (by simp [Value.oneCell']) ?_))
        go_roundw
        case rel => exact ⟨c + 1, by omega, numW (by omega), Lib.hid (by rw [HB4.out.block _ (by omega), HB3.out.block _ (by omega)]; exact kr), Lib.hid (low_tr' (low_tr' HB2.out HB3.out (by omega)) HB4.out (by omega))⟩
        case measure => simp [intOf]; omega
end Go.Proofs.YtaocnklolgdkfaaGreat
/- Orbits of a point under a map, in plain words; that the Singer orbits close. -/
namespace Go.Proofs.YtaocnklolgdkfaaGreat
open Go.RowKit
set_option linter.unusedVariables false
set_option linter.unusedSimpArgs false
def dotP (a b : Pt) : Int := a.1 * b.1 + a.2.1 * b.2.1 + a.2.2 * b.2.2
def imgP (p : Int) (m : M9) (a : Pt) : Pt := nrm3 p (dotP m.1 a % p) (dotP m.2.1 a % p) (dotP m.2.2 a % p)
theorem nrm3_in {p : Int} (hp : prB p = true) (x y z : Int) : In13 (nrm3 p x y z) := by
  obtain ⟨h3, h13⟩ := prB_bd hp
  unfold nrm3
  exact ⟨in12_mod hp, in12_mod hp, in12_mod hp⟩
theorem imgP_in {p : Int} (hp : prB p = true) (m : M9) (a : Pt) : In13 (imgP p m a) := nrm3_in hp _ _ _
def orbA (p : Int) (m : M9) (a : Pt) : Nat → Pt
  | 0 => a
  | k + 1 => imgP p m (orbA p m a k)
theorem orbA_in {p : Int} (hp : prB p = true) {m : M9} {a : Pt} (ha : In13 a) (k : Nat) : In13 (orbA p m a k) := by
  cases k with
  | zero => exact ha
  | succ k => exact imgP_in hp _ _
def orbL (p : Int) (m : M9) (a : Pt) (k : Nat) : List Pt := (List.range k).map (orbA p m a)
theorem orbL_succ (p : Int) (m : M9) (a : Pt) (k : Nat) : orbL p m a (k + 1) = orbL p m a k ++ [orbA p m a k] := by
  unfold orbL; rw [List.range_succ, List.map_append]; rfl
theorem orbL_length (p : Int) (m : M9) (a : Pt) (k : Nat) : (orbL p m a k).length = k := by unfold orbL; simp
theorem orbL_at (p : Int) (m : M9) (a : Pt) (k i : Nat) (h : i < k) : (orbL p m a k).getD i (0, 0, 0) = orbA p m a i := by
  unfold orbL; simp [List.getD, h]
/-- The orbit is back at its first point after k steps, and not before. -/
structure Orb (p : Int) (m : M9) (a : Pt) (k : Nat) : Prop where
  pr : prB p = true
  inm : InM m
  inp : In13 a
  pos : 0 < k ∧ k ≤ 1000
  back : orbA p m a k = a
  no : ∀ i, 0 < i → i < k → orbA p m a i ≠ a
def orbF (p : Int) (m : M9) (a : Pt) : Nat → Pt → Bool
  | 0, now => now == a
  | f + 1, now => now != a && orbF p m a f (imgP p m now)
theorem orbF_spec {p : Int} {m : M9} {a : Pt} : ∀ (f k : Nat), orbF p m a f (orbA p m a k) = true → (∀ i, k ≤ i → i < k + f → orbA p m a i ≠ a) ∧ orbA p m a (k + f) = a
  | 0, k, h => ⟨fun i h1 h2 => by omega, by simpa [orbF] using h⟩
  | f + 1, k, h => by
    unfold orbF at h
    simp only [Bool.and_eq_true, bne_iff_ne, ne_eq] at h
    obtain ⟨h1, h2⟩ := orbF_spec f (k + 1) h.2
    refine ⟨fun i hi hj => ?_, by rw [show k + (f + 1) = k + 1 + f by omega]; exact h2⟩
    by_cases e : i = k
    · rw [e]; exact h.1
    · exact h1 i (by omega) (by omega)
def checkO (p : Nat) : Bool := orbF p (compM p (firstC p)) (0, 0, 1) (p * p + p) (imgP p (compM p (firstC p)) (0, 0, 1))
theorem checksO : ∀ p ∈ [3, 5, 7, 11, 13], checkO p = true := by decide +kernel
/-- The Singer orbit: its map, its length. -/
theorem orb_of {n : Nat} (hp : prB (n : Int) = true) : Orb (n : Int) (compM n (firstC n)) (0, 0, 1) (n * n + n + 1) := by
  have hm : n ∈ [3, 5, 7, 11, 13] := by
    have := prB_cases hp
    simp only [List.mem_cons, List.not_mem_nil, or_false]
    omega
  have hk := checksO n hm
  obtain ⟨h1, h2⟩ := orbF_spec (p := (n : Int)) (m := compM n (firstC n)) (a := (0, 0, 1)) (n * n + n) 1 hk
  obtain ⟨h3, h13⟩ := prB_bd hp
  have h2le : n * n ≤ 13 * 13 := Nat.mul_le_mul (by omega) (by omega)
  exact ⟨hp, inM_comp hp (codes_of hp).lt, ⟨by decide, by decide, by decide⟩, by omega, by rw [show n * n + n + 1 = 1 + (n * n + n) by omega]; exact h2, fun i hi hj => h1 i (by omega) (by omega)⟩
/-- The Singer order of a prime. -/
def singL (n : Nat) : List Pt := orbL (n : Int) (compM n (firstC n)) (0, 0, 1) (n * n + n + 1)
theorem singL_length (n : Nat) : (singL n).length = n * n + n + 1 := orbL_length _ _ _ _
theorem singL_in {n : Nat} (hp : prB (n : Int) = true) : ∀ a ∈ singL n, In13 a := by
  intro a ha
  obtain ⟨i, _, rfl⟩ := List.mem_map.1 ha
  exact orbA_in hp ⟨by decide, by decide, by decide⟩ i
end Go.Proofs.YtaocnklolgdkfaaGreat
/- Contracts: the image of a point under a map, the program's and the reference's. (Printed by gent1.py, a program of this session.) -/
namespace Go.Proofs.YtaocnklolgdkfaaGreat
open Go.RowKit
set_option linter.unusedVariables false
set_option linter.unusedSimpArgs false
set_option maxRecDepth 20000 in
set_option maxHeartbeats 4000000 in
theorem image_any (p : Int) (m : M9) (a : Pt) (w : World) (hp : prB p = true) (hm : InM m) (ha : In13 a) :
    Calls Tryz.prog 82 #[.int .i64 p, .agg (cellsM9 m), ptV a.1 a.2.1 a.2.2] w (Ret w (ptV (imgP p m a).1 (imgP p m a).2.1 (imgP p m a).2.2)) := by
  obtain ⟨i0, i1, i2, _, _, _⟩ := inM_at hm
  have hb : ∀ r : Pt, -4611686018427387904 ≤ dotP r a % p ∧ dotP r a % p ≤ 4611686018427387904 := fun r => by
    have := prB_bd hp
    have h1 := Int.emod_nonneg (dotP r a) (show p ≠ 0 by omega)
    have h2 := Int.emod_lt_of_pos (dotP r a) (show 0 < p by omega)
    omega
  have H0 : Hid (∀ W, Calls Tryz.prog 87 #[.int .i64 p, ptV m.1.1 m.1.2.1 m.1.2.2, ptV a.1 a.2.1 a.2.2] W (Ret W (.int .i64 (dotP m.1 a % p)))) := Lib.hid (fun W => dot_any p _ _ _ _ _ _ W hp i0 ha)
  have H1 : Hid (∀ W, Calls Tryz.prog 87 #[.int .i64 p, ptV m.2.1.1 m.2.1.2.1 m.2.1.2.2, ptV a.1 a.2.1 a.2.2] W (Ret W (.int .i64 (dotP m.2.1 a % p)))) := Lib.hid (fun W => dot_any p _ _ _ _ _ _ W hp i1 ha)
  have H2 : Hid (∀ W, Calls Tryz.prog 87 #[.int .i64 p, ptV m.2.2.1 m.2.2.2.1 m.2.2.2.2, ptV a.1 a.2.1 a.2.2] W (Ret W (.int .i64 (dotP m.2.2 a % p)))) := Lib.hid (fun W => dot_any p _ _ _ _ _ _ W hp i2 ha)
  have HO : Hid (∀ W, Calls Tryz.prog 96 #[.int .i64 p, .int .i64 (dotP m.1 a % p), .int .i64 (dotP m.2.1 a % p), .int .i64 (dotP m.2.2 a % p)] W (Ret W (ptV (imgP p m a).1 (imgP p m a).2.1 (imgP p m a).2.2))) := Lib.hid (fun W => pointOf_any p _ _ _ W hp (hb _) (hb _) (hb _))
  clear hb i0 i1 i2 hm ha
  generalize imgP p m a = r at *
  generalize dotP m.1 a % p = d0 at *
  generalize dotP m.2.1 a % p = d1 at *
  generalize dotP m.2.2 a % p = d2 at *
  obtain ⟨⟨x0, x1, x2⟩, ⟨x3, x4, x5⟩, ⟨x6, x7, x8⟩⟩ := m
  obtain ⟨a0, a1, a2⟩ := a
  obtain ⟨r0, r1, r2⟩ := r
  dsimp only [cellsM9] at *
  go_enter Tryz.func82, Tryz.ntmps82
  go_wp2
  have kx : (((w.alloc (.cells #[.int .i64 x0, .int .i64 x1, .int .i64 x2, .int .i64 x3, .int .i64 x4, .int .i64 x5, .int .i64 x6, .int .i64 x7, .int .i64 x8] 31)).alloc (.cells #[.int .i64 a0, .int .i64 a1, .int .i64 a2] 56)).alloc (.cells #[.int .i64 0, .int .i64 0, .int .i64 0] 56)).heap[w.heap.size]? = some (.cells #[.int .i64 x0, .int .i64 x1, .int .i64 x2, .int .i64 x3, .int .i64 x4, .int .i64 x5, .int .i64 x6, .int .i64 x7, .int .i64 x8] 31 (0, 0)) := by rw [hn_pastN _ _ _ (by first | omega | (simp; done) | (simp; omega)), hn_pastN _ _ _ (by first | omega | (simp; done) | (simp; omega)), hn_atN _ _ _ (by simp)]
  have ka : (((w.alloc (.cells #[.int .i64 x0, .int .i64 x1, .int .i64 x2, .int .i64 x3, .int .i64 x4, .int .i64 x5, .int .i64 x6, .int .i64 x7, .int .i64 x8] 31)).alloc (.cells #[.int .i64 a0, .int .i64 a1, .int .i64 a2] 56)).alloc (.cells #[.int .i64 0, .int .i64 0, .int .i64 0] 56)).heap[w.heap.size + 1]? = some (.cells #[.int .i64 a0, .int .i64 a1, .int .i64 a2] 56 (0, 0)) := by rw [hn_pastN _ _ _ (by first | omega | (simp; done) | (simp; omega)), hn_atN _ _ _ (by simp)]
  have kr : (((w.alloc (.cells #[.int .i64 x0, .int .i64 x1, .int .i64 x2, .int .i64 x3, .int .i64 x4, .int .i64 x5, .int .i64 x6, .int .i64 x7, .int .i64 x8] 31)).alloc (.cells #[.int .i64 a0, .int .i64 a1, .int .i64 a2] 56)).alloc (.cells #[.int .i64 0, .int .i64 0, .int .i64 0] 56)).heap[w.heap.size + 1 + 1]? = some (.cells #[.int .i64 0, .int .i64 0, .int .i64 0] 56 (0, 0)) := by rw [hn_atN _ _ _ (by simp)]
  have lx := (Array.getElem?_eq_some_iff.1 kx).1
  have la := (Array.getElem?_eq_some_iff.1 ka).1
  have lr := (Array.getElem?_eq_some_iff.1 kr).1
  have HB : Below w.heap.size w (((w.alloc (.cells #[.int .i64 x0, .int .i64 x1, .int .i64 x2, .int .i64 x3, .int .i64 x4, .int .i64 x5, .int .i64 x6, .int .i64 x7, .int .i64 x8] 31)).alloc (.cells #[.int .i64 a0, .int .i64 a1, .int .i64 a2] 56)).alloc (.cells #[.int .i64 0, .int .i64 0, .int .i64 0] 56)) := (by repeat (first | exact Below.refl _ _ | refine bset ?_ _ _ (by omega) _ | refine bal ?_ _ | refine bdrN ?_ _ | refine bdr ?_))
  generalize (((w.alloc (.cells #[.int .i64 x0, .int .i64 x1, .int .i64 x2, .int .i64 x3, .int .i64 x4, .int .i64 x5, .int .i64 x6, .int .i64 x7, .int .i64 x8] 31)).alloc (.cells #[.int .i64 a0, .int .i64 a1, .int .i64 a2] 56)).alloc (.cells #[.int .i64 0, .int .i64 0, .int .i64 0] 56)) = V at *
  refine region_via 17 [(7, .int .i64 p), (8, .int .i64 p), (9, .pointer (some ⟨w.heap.size, 0, none⟩)), (10, ptV x0 x1 x2), (11, ptV a0 a1 a2), (12, .int .i64 d0), (13, .int .i64 p), (14, .pointer (some ⟨w.heap.size, 3, none⟩)), (15, ptV x3 x4 x5), (16, ptV a0 a1 a2), (17, .int .i64 d1), (18, .int .i64 p), (19, .pointer (some ⟨w.heap.size, 6, none⟩)), (20, ptV x6 x7 x8), (21, ptV a0 a1 a2), (22, .int .i64 d2), (23, ptV r0 r1 r2)] (by kernel_rfl) (by decide) (by kernel_rfl) (by kernel_rfl) (by kernel_rfl) (fun aE hpe => ?_)
  simp only [puts, Act.put, List.setIfInBounds_toArray, List.set_cons_zero, List.set_cons_succ] at hpe
  subst hpe
  refine ⟨⟨.inr (.inr ?_), .inr (.inr ?_), .inr (.inr ?_), .inr (.inr ?_), .inr (.inr ?_), .inr (.inr ?_), .inr (.inr ?_), .inr (.inr ?_), .inr (.inr ?_), .inr (.inr ?_), .inr (.inr ?_), .inr (.inr ?_), .inr (.inr ?_), .inr (.inr ?_), .inr (.inr ?_), .inr (.inr ?_), .inr (.inr ?_), trivial⟩, ?_⟩
  · exact CalmG.mk 7 (.int .i64 p) rfl rfl rfl (fun W hW => calm_move (.tmp 0) rfl rfl)
  · exact CalmG.mk 8 (.int .i64 p) rfl rfl rfl (fun W hW => calm_move (.tmp 0) rfl rfl)
  · exact CalmG.mk 9 (.pointer (some ⟨w.heap.size, 0, none⟩)) rfl rfl rfl (fun W hW => calm_run (by simp [execOp, Act.eval, go_sem]))
  · exact CalmG.mk 10 (ptV x0 x1 x2) rfl rfl rfl (fun W hW => calm_loadPt' 29 (.tmp 9) rfl rfl (row_int ((hW.block _ lx).trans kx) rfl) (row_int ((hW.block _ lx).trans kx) rfl) (row_int ((hW.block _ lx).trans kx) rfl) Tryz.sizeOf29 Tryz.isAgg29)
  · exact CalmG.mk 11 (ptV a0 a1 a2) rfl rfl rfl (fun W hW => calm_loadPt' 56 (.tmp 5) rfl rfl (row_int ((hW.block _ la).trans ka) rfl) (row_int ((hW.block _ la).trans ka) rfl) (row_int ((hW.block _ la).trans ka) rfl) Tryz.sizeOf56 Tryz.isAgg56)
  · exact CalmG.mk 12 (.int .i64 d0) rfl rfl rfl (fun W hW => calm_call 87 _ #[.int .i64 p, ptV x0 x1 x2, ptV a0 a1 a2] rfl rfl rfl (by simp [Act.eval]) (Tryz.call87 _ _) (H0.out W))
  · exact CalmG.mk 13 (.int .i64 p) rfl rfl rfl (fun W hW => calm_move (.tmp 0) rfl rfl)
  · exact CalmG.mk 14 (.pointer (some ⟨w.heap.size, 3, none⟩)) rfl rfl rfl (fun W hW => calm_run (by simp [execOp, Act.eval, go_sem]))
  · exact CalmG.mk 15 (ptV x3 x4 x5) rfl rfl rfl (fun W hW => calm_loadPt' 29 (.tmp 14) rfl rfl (row_int ((hW.block _ lx).trans kx) rfl) (row_int ((hW.block _ lx).trans kx) rfl) (row_int ((hW.block _ lx).trans kx) rfl) Tryz.sizeOf29 Tryz.isAgg29)
  · exact CalmG.mk 16 (ptV a0 a1 a2) rfl rfl rfl (fun W hW => calm_loadPt' 56 (.tmp 5) rfl rfl (row_int ((hW.block _ la).trans ka) rfl) (row_int ((hW.block _ la).trans ka) rfl) (row_int ((hW.block _ la).trans ka) rfl) Tryz.sizeOf56 Tryz.isAgg56)
  · exact CalmG.mk 17 (.int .i64 d1) rfl rfl rfl (fun W hW => calm_call 87 _ #[.int .i64 p, ptV x3 x4 x5, ptV a0 a1 a2] rfl rfl rfl (by simp [Act.eval]) (Tryz.call87 _ _) (H1.out W))
  · exact CalmG.mk 18 (.int .i64 p) rfl rfl rfl (fun W hW => calm_move (.tmp 0) rfl rfl)
  · exact CalmG.mk 19 (.pointer (some ⟨w.heap.size, 6, none⟩)) rfl rfl rfl (fun W hW => calm_run (by simp [execOp, Act.eval, go_sem]))
  · exact CalmG.mk 20 (ptV x6 x7 x8) rfl rfl rfl (fun W hW => calm_loadPt' 29 (.tmp 19) rfl rfl (row_int ((hW.block _ lx).trans kx) rfl) (row_int ((hW.block _ lx).trans kx) rfl) (row_int ((hW.block _ lx).trans kx) rfl) Tryz.sizeOf29 Tryz.isAgg29)
  · exact CalmG.mk 21 (ptV a0 a1 a2) rfl rfl rfl (fun W hW => calm_loadPt' 56 (.tmp 5) rfl rfl (row_int ((hW.block _ la).trans ka) rfl) (row_int ((hW.block _ la).trans ka) rfl) (row_int ((hW.block _ la).trans ka) rfl) Tryz.sizeOf56 Tryz.isAgg56)
  · exact CalmG.mk 22 (.int .i64 d2) rfl rfl rfl (fun W hW => calm_call 87 _ #[.int .i64 p, ptV x6 x7 x8, ptV a0 a1 a2] rfl rfl rfl (by simp [Act.eval]) (Tryz.call87 _ _) (H2.out W))
  · exact CalmG.mk 23 (ptV r0 r1 r2) rfl rfl rfl (fun W hW => calm_call 96 _ #[.int .i64 p, .int .i64 d0, .int .i64 d1, .int .i64 d2] rfl rfl rfl (by simp [Act.eval]) (Tryz.call96 _ _) (HO.out W))
  intro W hW
  simp only [List.drop_succ_cons, List.drop_zero]
  refine wpList_store_row _ rfl 56 _ _ rfl rfl (g := w.heap.size + 1 + 1) (T := 56) (cs := #[.int .i64 0, .int .i64 0, .int .i64 0]) (U := #[.int .i64 r0, .int .i64 r1, .int .i64 r2]) rfl rfl ((hW.block _ lr).trans kr) rfl Tryz.sizeOf56 (by simp [Value.oneCell']) ?_
  refine wpList_nil ?_
  go_wp2
  exact bodyPost_ret (v := ptV r0 r1 r2) (results_row Tryz.results82 rfl (setRow_heap _ _ #[.int .i64 0, .int .i64 0, .int .i64 0] _ _ _ ((hW.block _ lr).trans kr)) 3 rfl Tryz.sizeOf56 Tryz.isAgg56) rfl ⟨rfl, below_setRowN (low_tr' HB hW (by omega)) (by omega) _⟩
end Go.Proofs.YtaocnklolgdkfaaGreat

