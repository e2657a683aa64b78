/- New slices of points. -/
import Derived.Test.YthkbhaaodegocaaW2
namespace Go.Proofs.Ythkbhaaodegocaa
open Go.RowKit
set_option linter.unusedVariables false
theorem at1 (w : World) (g : Nat) (x0 y0 z0 : Int) (T : TypeId) (hg : g = w.heap.size) :
    PtsAt (w.alloc (.cells #[.int .i64 x0, .int .i64 y0, .int .i64 z0] T)) g 0 1 [(x0, y0, z0)] := by
  intro i hi
  rw [World.cell?_alloc_at _ _ _ _ hg, World.cell?_alloc_at _ _ _ _ hg, World.cell?_alloc_at _ _ _ _ hg]
  match i, hi with
  | 0, _ => exact ⟨rfl, rfl, rfl⟩
theorem at2 (w : World) (g : Nat) (x0 y0 z0 x1 y1 z1 : Int) (T : TypeId) (hg : g = w.heap.size) :
    PtsAt (w.alloc (.cells #[.int .i64 x0, .int .i64 y0, .int .i64 z0, .int .i64 x1, .int .i64 y1, .int .i64 z1] T)) g 0 2 [(x0, y0, z0), (x1, y1, z1)] := by
  intro i hi
  rw [World.cell?_alloc_at _ _ _ _ hg, World.cell?_alloc_at _ _ _ _ hg, World.cell?_alloc_at _ _ _ _ hg]
  match i, hi with
  | 0, _ => exact ⟨rfl, rfl, rfl⟩
  | 1, _ => exact ⟨rfl, rfl, rfl⟩
theorem at3 (w : World) (g : Nat) (x0 y0 z0 x1 y1 z1 x2 y2 z2 : Int) (T : TypeId) (hg : g = w.heap.size) :
    PtsAt (w.alloc (.cells #[.int .i64 x0, .int .i64 y0, .int .i64 z0, .int .i64 x1, .int .i64 y1, .int .i64 z1, .int .i64 x2, .int .i64 y2, .int .i64 z2] T)) g 0 3 [(x0, y0, z0), (x1, y1, z1), (x2, y2, z2)] := by
  intro i hi
  rw [World.cell?_alloc_at _ _ _ _ hg, World.cell?_alloc_at _ _ _ _ hg, World.cell?_alloc_at _ _ _ _ hg]
  match i, hi with
  | 0, _ => exact ⟨rfl, rfl, rfl⟩
  | 1, _ => exact ⟨rfl, rfl, rfl⟩
  | 2, _ => exact ⟨rfl, rfl, rfl⟩
theorem codeOf_ne {p : Int} {b : Bool} (h : codeOf p b ≠ 0) : (codeOf p b != 0) = true := by simpa using h
end Go.Proofs.Ythkbhaaodegocaa
