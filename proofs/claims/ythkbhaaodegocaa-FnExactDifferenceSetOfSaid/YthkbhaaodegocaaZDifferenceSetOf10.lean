/- Texts of the claim, in build order: T3, S7, T4, T6, D1, F1, F2, H0, E1. No condition. -/
import Derived.Laws.IdiomCopy
import Derived.Test.YthkbhaaodegocaaZDifferenceSetOf9
/- Contracts: orbits of a point, the program's and the reference's. (Printed by gent3.py, a program of this session.) -/
namespace Go.Proofs.Ythkbhaaodegocaa
open Go.RowKit
set_option linter.unusedVariables false
set_option linter.unusedSimpArgs false
theorem own_lt {w : World} {base : Nat} {e : TypeId} {size n : Nat} {v : Value} {xs : List Value} (h : w.ownsRow base e size v n xs) (k : Nat) (hk : v.ownBlock = some k) : k < w.heap.size := by
  rcases h.2 with ⟨rfl, _⟩ | ⟨g, cap, cur, rfl, hb, hg, _⟩
  · simp [Value.ownBlock] at hk
  · have : g = k := by simpa [Value.ownBlock] using hk
    rw [← this]
    exact (Array.getElem?_eq_some_iff.1 hg).1
theorem own_same {W W' : World} {base : Nat} {e : TypeId} {size n : Nat} {v : Value} {xs : List Value} (h : W.ownsRow base e size v n xs) (hb : ∀ b, v.ownBlock = some b → W'.heap[b]? = W.heap[b]?) : W'.ownsRow base e size v n xs := by
  refine ⟨h.1, ?_⟩
  rcases h.2 with h0 | ⟨g, cap, cur, rfl, hb0, hg, hr⟩
  · exact .inl h0
  · exact .inr ⟨g, cap, cur, rfl, hb0, (hb g (by simp [Value.ownBlock])).trans hg, hr⟩
def lenV : Value → Nat
  | .slice _ n _ => n
  | _ => 0
theorem own_len {w : World} {base : Nat} {e : TypeId} {size n : Nat} {v : Value} {xs : List Value} (h : w.ownsRow base e size v n xs) : lenV v = n := by
  rcases h.2 with ⟨rfl, h0⟩ | ⟨g, cap, cur, rfl, _⟩
  · simp [lenV]; omega
  · rfl
set_option maxRecDepth 20000 in
set_option maxHeartbeats 4000000 in
theorem orbit_any (p : Int) (m : M9) (a : Pt) (k : Nat) (w : World) (hO : Orb p m a k) :
    Calls Try.prog 141 #[.int .i64 p, .agg (cellsM9 m), ptV a.1 a.2.1 a.2.2] w (PtsPost w (orbL p m a k)) := by
  obtain ⟨i0, hi, hz0, hz1, hz2⟩ := info_parts infoPo
  have HI0 := Lib.hid hi; have HZ0 := Lib.hid hz0; have HZ1 := Lib.hid hz1; have HZ2 := Lib.hid hz2
  have HIm : Hid (∀ (j : Nat) (W : World), Calls Try.prog 171 #[.int .i64 p, .agg (cellsM9 m), ptV (orbA p m a j).1 (orbA p m a j).2.1 (orbA p m a j).2.2] W (Ret W (ptV (orbA p m a (j + 1)).1 (orbA p m a (j + 1)).2.1 (orbA p m a (j + 1)).2.2))) :=
    Lib.hid (fun j W => image_any p m (orbA p m a j) W hO.pr hO.inm (orbA_in hO.pr hO.inp j))
  have HNo := Lib.hid hO.no
  have HBk := Lib.hid hO.back
  have HA0 : Hid (orbA p m a 0 = a) := Lib.hid rfl
  have HLn := Lib.hid (orbL_length p m a)
  have HSn := Lib.hid (fun j => orbL_succ p m a j)
  have HL0 : Hid (orbL p m a 0 = []) := Lib.hid rfl
  obtain ⟨hk0, hk1⟩ := hO.pos
  clear hi hz0 hz1 hz2 hO
  generalize orbA p m a = A at *
  generalize orbL p m a = Ls at *
  obtain ⟨⟨x0, x1, x2⟩, ⟨x3, x4, x5⟩, ⟨x6, x7, x8⟩⟩ := m
  obtain ⟨a0, a1, a2⟩ := a
  dsimp only [cellsM9] at *
  obtain ⟨y, hy⟩ : ∃ y, A 1 = y := ⟨_, rfl⟩
  obtain ⟨y0, y1, y2⟩ := y
  have HY := Lib.hid hy
  have HI1 := Lib.hid (HIm.out 0)
  rw [HA0.out, hy] at HI1
  clear hy
  go_enter Try.func141, Try.ntmps141
  go_wp2_with (first
    | (refine wpList_load_row _ rfl 26 _ rfl (g := w.heap.size) (T := 26) (cs := #[.int .i64 x0, .int .i64 x1, .int .i64 x2, .int .i64 x3, .int .i64 x4, .int .i64 x5, .int .i64 x6, .int .i64 x7, .int .i64 x8]) (fr := (0, 0)) rfl (by rw [hn_pastN _ _ _ (by first | omega | (simp; done) | (simp; omega)), hn_pastN _ _ _ (by first | omega | (simp; done) | (simp; omega)), hn_atN _ _ _ (by simp)]) 9 rfl Try.sizeOf26 Try.isAgg26 ?_)
    | (go_at_call 171; (with_reducible refine (HI1.out _).mono ?_); rintro e w1_ ⟨rfl, hb1⟩; obtain ⟨hcb1, hfb1, hlb1⟩ := bcell hb1; have hsz1 := hb1.size; (try simp at hsz1); have HB1 := Lib.hid hb1; clear hb1; (try (have hl01 : w.heap.size < w1_.heap.size := by omega)); (try (have hl11 : w.heap.size + 1 < w1_.heap.size := by omega)); (try (have hl21 : w.heap.size + 1 + 1 < w1_.heap.size := by omega)))
    | (refine wpList_store_row _ rfl 23 _ _ rfl rfl (U := #[.int .i64 y0, .int .i64 y1, .int .i64 y2]) rfl rfl (heap_alloc_new _ _) rfl Try.sizeOf23 (by simp [Value.oneCell']) ?_; rw [alloc_setRow]))
  have hs1 := HB1.out.size
  try simp at hs1
  have kx := Lib.hid (show (w1_.alloc (.cells #[.int .i64 y0, .int .i64 y1, .int .i64 y2] 23)).heap[w.heap.size]? = some (.cells #[.int .i64 x0, .int .i64 x1, .int .i64 x2, .int .i64 x3, .int .i64 x4, .int .i64 x5, .int .i64 x6, .int .i64 x7, .int .i64 x8] 26 (0, 0)) by rw [hn_pastN _ _ _ (by omega), HB1.out.block _ (by first | omega | (simp; done) | (simp; omega)), hn_pastN _ _ _ (by first | omega | (simp; done) | (simp; omega)), hn_pastN _ _ _ (by first | omega | (simp; done) | (simp; omega)), hn_atN _ _ _ (by simp)])
  have ka := Lib.hid (show (w1_.alloc (.cells #[.int .i64 y0, .int .i64 y1, .int .i64 y2] 23)).heap[w.heap.size + 1]? = some (.cells #[.int .i64 a0, .int .i64 a1, .int .i64 a2] 23 (0, 0)) by rw [hn_pastN _ _ _ (by omega), HB1.out.block _ (by simp), hn_pastN _ _ _ (by first | omega | (simp; done) | (simp; omega)), hn_atN _ _ _ (by simp)])
  have kb := Lib.hid (show (w1_.alloc (.cells #[.int .i64 y0, .int .i64 y1, .int .i64 y2] 23)).heap[w1_.heap.size]? = some (.cells #[.int .i64 y0, .int .i64 y1, .int .i64 y2] 23 (0, 0)) by rw [hn_atN _ _ _ rfl])
  have ko := Lib.hid (show (w1_.alloc (.cells #[.int .i64 y0, .int .i64 y1, .int .i64 y2] 23)).ownsRow (w.heap.size + 1 + 1) 23 3 (.slice (some ⟨w.heap.size + 1 + 1, 0, none⟩) 1 1) 1 (ptCs (Ls 1)) by rw [HSn.out 0, HL0.out, HA0.out]; exact ⟨rfl, .inr ⟨(w.heap.size + 1 + 1), 1, #[.int .i64 a0, .int .i64 a1, .int .i64 a2], rfl, Nat.le_refl _, by rw [hn_pastN _ _ _ (by omega), HB1.out.block _ (by simp), hn_atN _ _ _ (by simp)], Nat.le_refl _, by unfold maxLen; omega, rfl, rfl⟩⟩)
  have hbl := Lib.hid (show Below w.heap.size w (w1_.alloc (.cells #[.int .i64 y0, .int .i64 y1, .int .i64 y2] 23)) from (by repeat (first | exact Below.refl _ _ | refine bset ?_ _ _ (by omega) _ | refine bal ?_ _ | refine bdrN ?_ _ | refine bdr ?_ | refine below_tr' ?_ HB1.out)))
  generalize hV : w1_.alloc (.cells #[.int .i64 y0, .int .i64 y1, .int .i64 y2] 23) = V at *
  clear HI1
  go_loopw [7, 8] (fun v c wr => ∃ (j gb : Nat) (y0 y1 y2 : Int), 1 ≤ j ∧ j ≤ k ∧ Hid (A j = (y0, y1, y2)) ∧ c = .pointer (some ⟨gb, 0, none⟩) ∧ Hid (wr.ownsRow (w.heap.size + 1 + 1) 23 3 v j (ptCs (Ls j))) ∧ Hid (wr.heap[gb]? = some (.cells #[.int .i64 y0, .int .i64 y1, .int .i64 y2] 23 (0, 0))) ∧ Hid (wr.heap[w.heap.size]? = some (.cells #[.int .i64 x0, .int .i64 x1, .int .i64 x2, .int .i64 x3, .int .i64 x4, .int .i64 x5, .int .i64 x6, .int .i64 x7, .int .i64 x8] 26 (0, 0))) ∧ Hid (wr.heap[w.heap.size + 1]? = some (.cells #[.int .i64 a0, .int .i64 a1, .int .i64 a2] 23 (0, 0))) ∧ Hid (v.ownBlock ≠ some gb) ∧ w.heap.size + 1 + 1 ≤ gb ∧ Hid (Below w.heap.size w wr)) (fun v _ wr => k - (lenV v))
  case atStart => exact ⟨1, w1_.heap.size, y0, y1, y2, Nat.le_refl _, hk0, HY, rfl, ko, kb, kx, ka, Lib.hid (by simp [Value.ownBlock]; omega), by omega, hbl⟩
  case round =>
    clear ko kb kx ka hbl HY
    obtain ⟨j, gb, y0, y1, y2, hj1, hjk, HY, rfl, HO, KB, KX, KA, HNe, hgb, HB⟩ := hrel
    have kb := KB.out
    have ka := KA.out
    have lb := (Array.getElem?_eq_some_iff.1 kb).1
    have hlen : lenV u7 = j := by have := own_len HO.out; exact this
    by_cases hlt : j < k
    · have hne : eqP (y0, y1, y2) (a0, a1, a2) = false := by
        cases he : eqP (y0, y1, y2) (a0, a1, a2) with
        | false => rfl
        | true => exact absurd (HY.out.trans (eqP_iff.1 he)) (HNo.out j (by omega) hlt)
      obtain ⟨z, hz⟩ : ∃ z, A (j + 1) = z := ⟨_, rfl⟩
      obtain ⟨z0, z1, z2⟩ := z
      have HZz := Lib.hid hz
      have HIj := Lib.hid (HIm.out j)
      rw [hz, HY.out] at HIj
      clear hz
      have hNe := HNe.out
      have lx := (Array.getElem?_eq_some_iff.1 KX.out).1
      have la := (Array.getElem?_eq_some_iff.1 ka).1
      have hns := own_base' HO.out
      have HNs := Lib.hid hns
      clear hns hNe
      go_wp2_with (first
        | (at_builtin; go_loud (refine wpList_append_own _ rfl _ _ 52 rfl (w.heap.size + 1 + 1) 23 i0 (.agg #[.int .i64 0, .int .i64 0, .int .i64 0]) 3 24 Try.underlying52 HI0.out HZ0.out HZ1.out HZ2.out rfl (by decide) _ _ _ rfl (HO.out.alloc _) ⟨wr.heap.size, 0, none⟩ 1 1 [.int .i64 y0, .int .i64 y1, .int .i64 y2] rfl rfl (newP _ _ _ _ _) (oneP _ _ _) (by unfold maxLen; omega) (by omega) (by first | omega | (simp; done) | (simp; omega)) ?_; intro v2 w2 hown hgrow _; have HO2 := Lib.hid hown; have HG := Lib.hid hgrow; clear hown hgrow; have kb2 : w2.heap[gb]? = some (.cells #[.int .i64 y0, .int .i64 y1, .int .i64 y2] 23 (0, 0)) := (by rw [HG.out.block gb (by first | omega | (simp; done) | (simp; omega)) (fun e => HNe.out e.symm), hn_pastN _ _ _ lb]; exact kb); have KX2 := Lib.hid (show w2.heap[w.heap.size]? = some (.cells #[.int .i64 x0, .int .i64 x1, .int .i64 x2, .int .i64 x3, .int .i64 x4, .int .i64 x5, .int .i64 x6, .int .i64 x7, .int .i64 x8] 26 (0, 0)) by rw [HG.out.block (w.heap.size) (by first | omega | (simp; done) | (simp; omega)) (fun e => by have := HNs.out _ e.symm; omega), hn_pastN _ _ _ lx]; exact KX.out); have KA2 := Lib.hid (show w2.heap[w.heap.size + 1]? = some (.cells #[.int .i64 a0, .int .i64 a1, .int .i64 a2] 23 (0, 0)) by rw [HG.out.block (w.heap.size + 1) (by first | omega | (simp; done) | (simp; omega)) (fun e => by have := HNs.out _ e.symm; omega), hn_pastN _ _ _ la]; exact KA.out); have lx2 := (Array.getElem?_eq_some_iff.1 KX2.out).1; have la2 := (Array.getElem?_eq_some_iff.1 KA2.out).1))
        | (refine wpList_load_row _ rfl 23 _ rfl (g := gb) (T := 23) (cs := #[.int .i64 y0, .int .i64 y1, .int .i64 y2]) (fr := (0, 0)) rfl (kb) 3 rfl Try.sizeOf23 Try.isAgg23 ?_)
        | (refine wpList_load_row _ rfl 23 _ rfl (g := w.heap.size + 1) (T := 23) (cs := #[.int .i64 a0, .int .i64 a1, .int .i64 a2]) (fr := (0, 0)) rfl (ka) 3 rfl Try.sizeOf23 Try.isAgg23 ?_)
        | (refine wpList_load_row _ rfl 23 _ rfl (g := gb) (T := 23) (cs := #[.int .i64 y0, .int .i64 y1, .int .i64 y2]) (fr := (0, 0)) rfl (kb2) 3 rfl Try.sizeOf23 Try.isAgg23 ?_)
        | (refine wpList_load_row _ rfl 23 _ rfl (g := w2.heap.size) (T := 23) (cs := #[.int .i64 y0, .int .i64 y1, .int .i64 y2]) (fr := (0, 0)) rfl (by rw [hn_atN _ _ _ rfl]) 3 rfl Try.sizeOf23 Try.isAgg23 ?_)
        | (refine wpList_load_row _ rfl 26 _ rfl (g := w.heap.size) (T := 26) (cs := #[.int .i64 x0, .int .i64 x1, .int .i64 x2, .int .i64 x3, .int .i64 x4, .int .i64 x5, .int .i64 x6, .int .i64 x7, .int .i64 x8]) (fr := (0, 0)) rfl (by rw [hn_pastN _ _ _ lx2]; exact KX2.out) 9 rfl Try.sizeOf26 Try.isAgg26 ?_)
        | (go_at_call 171; (with_reducible refine (HIj.out _).mono ?_); rintro e w3_ ⟨rfl, hb3⟩; obtain ⟨hcb3, hfb3, hlb3⟩ := bcell hb3; have hsz3 := hb3.size; (try simp at hsz3); have HB3 := Lib.hid hb3; clear hb3; (try (have hl03 : w.heap.size < w3_.heap.size := by omega)))
        | (refine wpList_store_row _ rfl 23 _ _ rfl rfl (U := #[.int .i64 y0, .int .i64 y1, .int .i64 y2]) rfl rfl (heap_alloc_new _ _) rfl Try.sizeOf23 (by simp [Value.oneCell']) ?_; rw [alloc_setRow])
        | (refine wpList_store_row _ rfl 23 _ _ rfl rfl (g := w2.heap.size) (T := 23) (cs := #[.int .i64 y0, .int .i64 y1, .int .i64 y2]) (U := #[.int .i64 z0, .int .i64 z1, .int .i64 z2]) rfl rfl (by rw [HB3.out.block _ (by simp), hn_atN _ _ _ rfl]) rfl Try.sizeOf23 (by simp [Value.oneCell']) ?_))
      have hs3 := HB3.out.size
      try simp at hs3
      have hl2 := own_lt HO2.out
      have hb2 := own_base' HO2.out
      have q2 : Below w.heap.size w w2 := (bal HB.out _).grown HG.out (by have := HB.out.size; first | omega | (simp; done) | (simp; omega)) (fun k' hk' => by have := HNs.out k' hk'; omega)
      go_roundw
      case rel => exact ⟨j + 1, w2.heap.size, z0, z1, z2, by omega, by omega, HZz, rfl, Lib.hid (by rw [HSn.out j, ptCs_snoc, HY.out]; exact own_same HO2.out (fun b hb => by have := hl2 b hb; rw [setRow_other _ _ _ _ (by omega), HB3.out.block _ (by first | omega | (simp; done) | (simp; omega)), hn_pastN _ _ _ (by omega)])), Lib.hid (setRow_heap _ _ _ _ _ _ (by rw [HB3.out.block _ (by simp), hn_atN _ _ _ rfl])), Lib.hid (by rw [setRow_other _ _ _ _ (by omega), HB3.out.block _ (by first | omega | (simp; done) | (simp; omega)), hn_pastN _ _ _ lx2]; exact KX2.out), Lib.hid (by rw [setRow_other _ _ _ _ (by omega), HB3.out.block _ (by first | omega | (simp; done) | (simp; omega)), hn_pastN _ _ _ la2]; exact KA2.out), Lib.hid (fun e => by have := hl2 _ e; omega), by omega, Lib.hid (below_setRowN (low_tr' (bal q2 _) HB3.out (by first | omega | (simp; done) | (simp; omega))) (by omega) _)⟩
      case measure => have := own_len HO2.out; simp only [hlen]; omega
    · have hjk2 : j = k := by omega
      subst hjk2
      have hne : eqP (y0, y1, y2) (a0, a1, a2) = true := eqP_iff.2 (HY.out.symm.trans HBk.out)
      go_wp2_with (first
        | (refine wpList_load_row _ rfl 23 _ rfl (g := gb) (T := 23) (cs := #[.int .i64 y0, .int .i64 y1, .int .i64 y2]) (fr := (0, 0)) rfl (kb) 3 rfl Try.sizeOf23 Try.isAgg23 ?_)
        | (refine wpList_load_row _ rfl 23 _ rfl (g := w.heap.size + 1) (T := 23) (cs := #[.int .i64 a0, .int .i64 a1, .int .i64 a2]) (fr := (0, 0)) rfl (ka) 3 rfl Try.sizeOf23 Try.isAgg23 ?_))
      go_ret
      exact ⟨_, rfl, by rw [HLn.out]; exact own_low HO.out (by omega), HB.out⟩
set_option maxRecDepth 20000 in
set_option maxHeartbeats 4000000 in
theorem l02Orbit_any (p : Int) (m : M9) (a : Pt) (k : Nat) (w : World) (hO : Orb p m a k) :
    Calls Try.prog 140 #[.int .i64 p, .agg (cellsM9 m), ptV a.1 a.2.1 a.2.2] w (PtsPost w (orbL p m a k)) := by
  obtain ⟨i0, hi, hz0, hz1, hz2⟩ := info_parts infoPo
  have HI0 := Lib.hid hi; have HZ0 := Lib.hid hz0; have HZ1 := Lib.hid hz1; have HZ2 := Lib.hid hz2
  have HIm : Hid (∀ (j : Nat) (W : World), Calls Try.prog 170 #[.int .i64 p, .agg (cellsM9 m), ptV (orbA p m a j).1 (orbA p m a j).2.1 (orbA p m a j).2.2] W (Ret W (ptV (orbA p m a (j + 1)).1 (orbA p m a (j + 1)).2.1 (orbA p m a (j + 1)).2.2))) :=
    Lib.hid (fun j W => l02Image_any p m (orbA p m a j) W hO.pr hO.inm (orbA_in hO.pr hO.inp j))
  have HNo := Lib.hid hO.no
  have HBk := Lib.hid hO.back
  have HA0 : Hid (orbA p m a 0 = a) := Lib.hid rfl
  have HLn := Lib.hid (orbL_length p m a)
  have HSn := Lib.hid (fun j => orbL_succ p m a j)
  have HL0 : Hid (orbL p m a 0 = []) := Lib.hid rfl
  obtain ⟨hk0, hk1⟩ := hO.pos
  clear hi hz0 hz1 hz2 hO
  generalize orbA p m a = A at *
  generalize orbL p m a = Ls at *
  obtain ⟨⟨x0, x1, x2⟩, ⟨x3, x4, x5⟩, ⟨x6, x7, x8⟩⟩ := m
  obtain ⟨a0, a1, a2⟩ := a
  dsimp only [cellsM9] at *
  obtain ⟨y, hy⟩ : ∃ y, A 1 = y := ⟨_, rfl⟩
  obtain ⟨y0, y1, y2⟩ := y
  have HY := Lib.hid hy
  have HI1 := Lib.hid (HIm.out 0)
  rw [HA0.out, hy] at HI1
  clear hy
  go_enter Try.func140, Try.ntmps140
  go_wp2_with (first
    | (refine wpList_load_row _ rfl 26 _ rfl (g := w.heap.size) (T := 26) (cs := #[.int .i64 x0, .int .i64 x1, .int .i64 x2, .int .i64 x3, .int .i64 x4, .int .i64 x5, .int .i64 x6, .int .i64 x7, .int .i64 x8]) (fr := (0, 0)) rfl (by rw [hn_pastN _ _ _ (by first | omega | (simp; done) | (simp; omega)), hn_pastN _ _ _ (by first | omega | (simp; done) | (simp; omega)), hn_atN _ _ _ (by simp)]) 9 rfl Try.sizeOf26 Try.isAgg26 ?_)
    | (go_at_call 170; (with_reducible refine (HI1.out _).mono ?_); rintro e w1_ ⟨rfl, hb1⟩; obtain ⟨hcb1, hfb1, hlb1⟩ := bcell hb1; have hsz1 := hb1.size; (try simp at hsz1); have HB1 := Lib.hid hb1; clear hb1; (try (have hl01 : w.heap.size < w1_.heap.size := by omega)); (try (have hl11 : w.heap.size + 1 < w1_.heap.size := by omega)); (try (have hl21 : w.heap.size + 1 + 1 < w1_.heap.size := by omega)))
    | (refine wpList_store_row _ rfl 23 _ _ rfl rfl (U := #[.int .i64 y0, .int .i64 y1, .int .i64 y2]) rfl rfl (heap_alloc_new _ _) rfl Try.sizeOf23 (by simp [Value.oneCell']) ?_; rw [alloc_setRow]))
  have hs1 := HB1.out.size
  try simp at hs1
  have kx := Lib.hid (show (w1_.alloc (.cells #[.int .i64 y0, .int .i64 y1, .int .i64 y2] 23)).heap[w.heap.size]? = some (.cells #[.int .i64 x0, .int .i64 x1, .int .i64 x2, .int .i64 x3, .int .i64 x4, .int .i64 x5, .int .i64 x6, .int .i64 x7, .int .i64 x8] 26 (0, 0)) by rw [hn_pastN _ _ _ (by omega), HB1.out.block _ (by first | omega | (simp; done) | (simp; omega)), hn_pastN _ _ _ (by first | omega | (simp; done) | (simp; omega)), hn_pastN _ _ _ (by first | omega | (simp; done) | (simp; omega)), hn_atN _ _ _ (by simp)])
  have ka := Lib.hid (show (w1_.alloc (.cells #[.int .i64 y0, .int .i64 y1, .int .i64 y2] 23)).heap[w.heap.size + 1]? = some (.cells #[.int .i64 a0, .int .i64 a1, .int .i64 a2] 23 (0, 0)) by rw [hn_pastN _ _ _ (by omega), HB1.out.block _ (by simp), hn_pastN _ _ _ (by first | omega | (simp; done) | (simp; omega)), hn_atN _ _ _ (by simp)])
  have kb := Lib.hid (show (w1_.alloc (.cells #[.int .i64 y0, .int .i64 y1, .int .i64 y2] 23)).heap[w1_.heap.size]? = some (.cells #[.int .i64 y0, .int .i64 y1, .int .i64 y2] 23 (0, 0)) by rw [hn_atN _ _ _ rfl])
  have ko := Lib.hid (show (w1_.alloc (.cells #[.int .i64 y0, .int .i64 y1, .int .i64 y2] 23)).ownsRow (w.heap.size + 1 + 1) 23 3 (.slice (some ⟨w.heap.size + 1 + 1, 0, none⟩) 1 1) 1 (ptCs (Ls 1)) by rw [HSn.out 0, HL0.out, HA0.out]; exact ⟨rfl, .inr ⟨(w.heap.size + 1 + 1), 1, #[.int .i64 a0, .int .i64 a1, .int .i64 a2], rfl, Nat.le_refl _, by rw [hn_pastN _ _ _ (by omega), HB1.out.block _ (by simp), hn_atN _ _ _ (by simp)], Nat.le_refl _, by unfold maxLen; omega, rfl, rfl⟩⟩)
  have hbl := Lib.hid (show Below w.heap.size w (w1_.alloc (.cells #[.int .i64 y0, .int .i64 y1, .int .i64 y2] 23)) from (by repeat (first | exact Below.refl _ _ | refine bset ?_ _ _ (by omega) _ | refine bal ?_ _ | refine bdrN ?_ _ | refine bdr ?_ | refine below_tr' ?_ HB1.out)))
  generalize hV : w1_.alloc (.cells #[.int .i64 y0, .int .i64 y1, .int .i64 y2] 23) = V at *
  clear HI1
  go_loopw [7, 8] (fun v c wr => ∃ (j gb : Nat) (y0 y1 y2 : Int), 1 ≤ j ∧ j ≤ k ∧ Hid (A j = (y0, y1, y2)) ∧ c = .pointer (some ⟨gb, 0, none⟩) ∧ Hid (wr.ownsRow (w.heap.size + 1 + 1) 23 3 v j (ptCs (Ls j))) ∧ Hid (wr.heap[gb]? = some (.cells #[.int .i64 y0, .int .i64 y1, .int .i64 y2] 23 (0, 0))) ∧ Hid (wr.heap[w.heap.size]? = some (.cells #[.int .i64 x0, .int .i64 x1, .int .i64 x2, .int .i64 x3, .int .i64 x4, .int .i64 x5, .int .i64 x6, .int .i64 x7, .int .i64 x8] 26 (0, 0))) ∧ Hid (wr.heap[w.heap.size + 1]? = some (.cells #[.int .i64 a0, .int .i64 a1, .int .i64 a2] 23 (0, 0))) ∧ Hid (v.ownBlock ≠ some gb) ∧ w.heap.size + 1 + 1 ≤ gb ∧ Hid (Below w.heap.size w wr)) (fun v _ wr => k - (lenV v))
  case atStart => exact ⟨1, w1_.heap.size, y0, y1, y2, Nat.le_refl _, hk0, HY, rfl, ko, kb, kx, ka, Lib.hid (by simp [Value.ownBlock]; omega), by omega, hbl⟩
  case round =>
    clear ko kb kx ka hbl HY
    obtain ⟨j, gb, y0, y1, y2, hj1, hjk, HY, rfl, HO, KB, KX, KA, HNe, hgb, HB⟩ := hrel
    have kb := KB.out
    have ka := KA.out
    have lb := (Array.getElem?_eq_some_iff.1 kb).1
    have hlen : lenV u7 = j := by have := own_len HO.out; exact this
    by_cases hlt : j < k
    · have hne : eqP (y0, y1, y2) (a0, a1, a2) = false := by
        cases he : eqP (y0, y1, y2) (a0, a1, a2) with
        | false => rfl
        | true => exact absurd (HY.out.trans (eqP_iff.1 he)) (HNo.out j (by omega) hlt)
      obtain ⟨z, hz⟩ : ∃ z, A (j + 1) = z := ⟨_, rfl⟩
      obtain ⟨z0, z1, z2⟩ := z
      have HZz := Lib.hid hz
      have HIj := Lib.hid (HIm.out j)
      rw [hz, HY.out] at HIj
      clear hz
      have hNe := HNe.out
      have lx := (Array.getElem?_eq_some_iff.1 KX.out).1
      have la := (Array.getElem?_eq_some_iff.1 ka).1
      have hns := own_base' HO.out
      have HNs := Lib.hid hns
      clear hns hNe
      go_wp2_with (first
        | (at_builtin; go_loud (refine wpList_append_own _ rfl _ _ 52 rfl (w.heap.size + 1 + 1) 23 i0 (.agg #[.int .i64 0, .int .i64 0, .int .i64 0]) 3 24 Try.underlying52 HI0.out HZ0.out HZ1.out HZ2.out rfl (by decide) _ _ _ rfl (HO.out.alloc _) ⟨wr.heap.size, 0, none⟩ 1 1 [.int .i64 y0, .int .i64 y1, .int .i64 y2] rfl rfl (newP _ _ _ _ _) (oneP _ _ _) (by unfold maxLen; omega) (by omega) (by first | omega | (simp; done) | (simp; omega)) ?_; intro v2 w2 hown hgrow _; have HO2 := Lib.hid hown; have HG := Lib.hid hgrow; clear hown hgrow; have kb2 : w2.heap[gb]? = some (.cells #[.int .i64 y0, .int .i64 y1, .int .i64 y2] 23 (0, 0)) := (by rw [HG.out.block gb (by first | omega | (simp; done) | (simp; omega)) (fun e => HNe.out e.symm), hn_pastN _ _ _ lb]; exact kb); have KX2 := Lib.hid (show w2.heap[w.heap.size]? = some (.cells #[.int .i64 x0, .int .i64 x1, .int .i64 x2, .int .i64 x3, .int .i64 x4, .int .i64 x5, .int .i64 x6, .int .i64 x7, .int .i64 x8] 26 (0, 0)) by rw [HG.out.block (w.heap.size) (by first | omega | (simp; done) | (simp; omega)) (fun e => by have := HNs.out _ e.symm; omega), hn_pastN _ _ _ lx]; exact KX.out); have KA2 := Lib.hid (show w2.heap[w.heap.size + 1]? = some (.cells #[.int .i64 a0, .int .i64 a1, .int .i64 a2] 23 (0, 0)) by rw [HG.out.block (w.heap.size + 1) (by first | omega | (simp; done) | (simp; omega)) (fun e => by have := HNs.out _ e.symm; omega), hn_pastN _ _ _ la]; exact KA.out); have lx2 := (Array.getElem?_eq_some_iff.1 KX2.out).1; have la2 := (Array.getElem?_eq_some_iff.1 KA2.out).1))
        | (refine wpList_load_row _ rfl 23 _ rfl (g := gb) (T := 23) (cs := #[.int .i64 y0, .int .i64 y1, .int .i64 y2]) (fr := (0, 0)) rfl (kb) 3 rfl Try.sizeOf23 Try.isAgg23 ?_)
        | (refine wpList_load_row _ rfl 23 _ rfl (g := w.heap.size + 1) (T := 23) (cs := #[.int .i64 a0, .int .i64 a1, .int .i64 a2]) (fr := (0, 0)) rfl (ka) 3 rfl Try.sizeOf23 Try.isAgg23 ?_)
        | (refine wpList_load_row _ rfl 23 _ rfl (g := gb) (T := 23) (cs := #[.int .i64 y0, .int .i64 y1, .int .i64 y2]) (fr := (0, 0)) rfl (kb2) 3 rfl Try.sizeOf23 Try.isAgg23 ?_)
        | (refine wpList_load_row _ rfl 23 _ rfl (g := w2.heap.size) (T := 23) (cs := #[.int .i64 y0, .int .i64 y1, .int .i64 y2]) (fr := (0, 0)) rfl (by rw [hn_atN _ _ _ rfl]) 3 rfl Try.sizeOf23 Try.isAgg23 ?_)
        | (refine wpList_load_row _ rfl 26 _ rfl (g := w.heap.size) (T := 26) (cs := #[.int .i64 x0, .int .i64 x1, .int .i64 x2, .int .i64 x3, .int .i64 x4, .int .i64 x5, .int .i64 x6, .int .i64 x7, .int .i64 x8]) (fr := (0, 0)) rfl (by rw [hn_pastN _ _ _ lx2]; exact KX2.out) 9 rfl Try.sizeOf26 Try.isAgg26 ?_)
        | (go_at_call 170; (with_reducible refine (HIj.out _).mono ?_); rintro e w3_ ⟨rfl, hb3⟩; obtain ⟨hcb3, hfb3, hlb3⟩ := bcell hb3; have hsz3 := hb3.size; (try simp at hsz3); have HB3 := Lib.hid hb3; clear hb3; (try (have hl03 : w.heap.size < w3_.heap.size := by omega)))
        | (refine wpList_store_row _ rfl 23 _ _ rfl rfl (U := #[.int .i64 y0, .int .i64 y1, .int .i64 y2]) rfl rfl (heap_alloc_new _ _) rfl Try.sizeOf23 (by simp [Value.oneCell']) ?_; rw [alloc_setRow])
        | (refine wpList_store_row _ rfl 23 _ _ rfl rfl (g := w2.heap.size) (T := 23) (cs := #[.int .i64 y0, .int .i64 y1, .int .i64 y2]) (U := #[.int .i64 z0, .int .i64 z1, .int .i64 z2]) rfl rfl (by rw [HB3.out.block _ (by simp), hn_atN _ _ _ rfl]) rfl Try.sizeOf23 (by simp [Value.oneCell']) ?_))
      have hs3 := HB3.out.size
      try simp at hs3
      have hl2 := own_lt HO2.out
      have hb2 := own_base' HO2.out
      have q2 : Below w.heap.size w w2 := (bal HB.out _).grown HG.out (by have := HB.out.size; first | omega | (simp; done) | (simp; omega)) (fun k' hk' => by have := HNs.out k' hk'; omega)
      go_roundw
      case rel => exact ⟨j + 1, w2.heap.size, z0, z1, z2, by omega, by omega, HZz, rfl, Lib.hid (by rw [HSn.out j, ptCs_snoc, HY.out]; exact own_same HO2.out (fun b hb => by have := hl2 b hb; rw [setRow_other _ _ _ _ (by omega), HB3.out.block _ (by first | omega | (simp; done) | (simp; omega)), hn_pastN _ _ _ (by omega)])), Lib.hid (setRow_heap _ _ _ _ _ _ (by rw [HB3.out.block _ (by simp), hn_atN _ _ _ rfl])), Lib.hid (by rw [setRow_other _ _ _ _ (by omega), HB3.out.block _ (by first | omega | (simp; done) | (simp; omega)), hn_pastN _ _ _ lx2]; exact KX2.out), Lib.hid (by rw [setRow_other _ _ _ _ (by omega), HB3.out.block _ (by first | omega | (simp; done) | (simp; omega)), hn_pastN _ _ _ la2]; exact KA2.out), Lib.hid (fun e => by have := hl2 _ e; omega), by omega, Lib.hid (below_setRowN (low_tr' (bal q2 _) HB3.out (by first | omega | (simp; done) | (simp; omega))) (by omega) _)⟩
      case measure => have := own_len HO2.out; simp only [hlen]; omega
    · have hjk2 : j = k := by omega
      subst hjk2
      have hne : eqP (y0, y1, y2) (a0, a1, a2) = true := eqP_iff.2 (HY.out.symm.trans HBk.out)
      go_wp2_with (first
        | (refine wpList_load_row _ rfl 23 _ rfl (g := gb) (T := 23) (cs := #[.int .i64 y0, .int .i64 y1, .int .i64 y2]) (fr := (0, 0)) rfl (kb) 3 rfl Try.sizeOf23 Try.isAgg23 ?_)
        | (refine wpList_load_row _ rfl 23 _ rfl (g := w.heap.size + 1) (T := 23) (cs := #[.int .i64 a0, .int .i64 a1, .int .i64 a2]) (fr := (0, 0)) rfl (ka) 3 rfl Try.sizeOf23 Try.isAgg23 ?_))
      go_ret
      exact ⟨_, rfl, by rw [HLn.out]; exact own_low HO.out (by omega), HB.out⟩
end Go.Proofs.Ythkbhaaodegocaa
/- Contracts: the Singer map, as the reference finds it; SingerMap. (Printed by gens7.py, a program of this session.) -/
namespace Go.Proofs.Ythkbhaaodegocaa
open Go.RowKit
set_option linter.unusedVariables false
set_option linter.unusedSimpArgs false
set_option maxRecDepth 20000 in
set_option maxHeartbeats 8000000 in
theorem l10Singer_any (n : Nat) (w : World) (hC : Codes n) :
    Calls Try.prog 86 #[.int .i64 (n : Int)] w (Ret w (.agg (cellsM9 (compM n (firstC n))))) := by
  have HC := Lib.hid hC
  obtain ⟨hn3, hn13⟩ := prB_bd hC.pr
  have hlt := hC.lt
  obtain ⟨M, hM⟩ : ∃ M : Int, (n : Int) * (n : Int) = M := ⟨_, rfl⟩
  obtain ⟨N3, hN3⟩ : ∃ N3 : Int, M * (n : Int) = N3 := ⟨_, rfl⟩
  have h2le : n * n ≤ 13 * 13 := Nat.mul_le_mul (by omega) (by omega)
  have h3le : n * n * n ≤ 13 * 13 * 13 := Nat.mul_le_mul h2le (by omega)
  have h2pos : 0 < n * n := Nat.mul_pos (by omega) (by omega)
  have hMv : M = ((n * n : Nat) : Int) := by rw [← hM]; simp
  have hNv : N3 = ((n * n * n : Nat) : Int) := by rw [← hN3, hMv]; simp
  obtain ⟨N2, hN2⟩ : ∃ N2 : Nat, n * n = N2 := ⟨_, rfl⟩
  obtain ⟨N4, hN4⟩ : ∃ N4 : Nat, N2 * n = N4 := ⟨_, rfl⟩
  rw [hN2] at hMv hNv h2le h3le h2pos hlt
  rw [hN4] at hNv h3le hlt
  have w1 : IntKind.wrap .i64 M = M := wrap_small (by omega)
  have w2 : IntKind.wrap .i64 N3 = N3 := wrap_small (by omega)
  have HN2 := Lib.hid hN2
  have HMv := Lib.hid hMv
  obtain ⟨F, hF⟩ : ∃ F : Nat, firstC n = F := ⟨_, rfl⟩
  have HF := Lib.hid hF
  rw [hF] at hlt
  have hltz : (F : Int) < N3 := by omega
  have hF2 : F < 2197 := by omega
  have HlN := Lib.hid hlt
  have hM0 : 0 < M := by omega
  have HN4 := Lib.hid hN4
  clear hN2 hN4 hMv hNv hF h2le h3le h2pos hlt
  obtain ⟨Q, hQ⟩ : ∃ Q : Nat, n * n + n + 1 = Q := ⟨_, rfl⟩
  have hQv : M + (n : Int) + 1 = (Q : Int) := by rw [HMv.out, ← hQ, HN2.out]; simp
  have hM169 : M ≤ 169 := by rw [← hM]; exact Int.le_trans (Int.mul_le_mul (by omega) (by omega) (by omega) (by omega : (0 : Int) ≤ 13)) (by decide : (13 : Int) * 13 ≤ 169)
  have hQ1 : Q ≤ 1000 := by omega
  have w3 : IntKind.wrap .i64 (M + (n : Int)) = M + (n : Int) := wrap_small (by omega)
  have w4 : IntKind.wrap .i64 (M + (n : Int) + 1) = (Q : Int) := by rw [hQv]; exact wrap_small (by omega)
  have HQ := Lib.hid hQ
  have HQv := Lib.hid hQv
  clear hQ hQv
  go_enter Try.func86, Try.ntmps86
  go_wp2
  go_loopw [4] (fun q wr => ∃ c : Nat, c ≤ F ∧ q = .int .i64 (c : Int) ∧ Hid (wr.heap[w.heap.size]? = some (.cells #[.int .i64 0, .int .i64 0, .int .i64 0, .int .i64 0, .int .i64 0, .int .i64 0, .int .i64 0, .int .i64 0, .int .i64 0] 26 (0, 0))) ∧ Hid (Below w.heap.size w wr)) (fun q wr => F + 1 - (intOf q).toNat)
  case atStart => exact ⟨0, Nat.zero_le _, rfl, Lib.hid (by rw [hn_atN _ _ _ (by simp)]), Lib.hid (by repeat (first | exact Below.refl _ _ | refine bset ?_ _ _ (by omega) _ | refine bal ?_ _ | refine bdrN ?_ _ | refine bdr ?_))⟩
  case round =>
    obtain ⟨c, hc, rfl, HR, HB⟩ := hrel
    have hc2 : c < 2197 := by omega
    obtain ⟨a, ha⟩ : ∃ a : Int, (c : Int) % (n : Int) = a := ⟨_, rfl⟩
    obtain ⟨d0, hd0⟩ : ∃ d0 : Int, (c : Int) / (n : Int) = d0 := ⟨_, rfl⟩
    obtain ⟨b, hb⟩ : ∃ b : Int, d0 % (n : Int) = b := ⟨_, rfl⟩
    obtain ⟨d, hd⟩ : ∃ d : Int, (c : Int) / M = d := ⟨_, rfl⟩
    obtain ⟨dv, hdv⟩ : ∃ dv : Nat, c % n = dv := ⟨_, rfl⟩
    have nz : ¬ n = 0 := by omega
    have nz2 : ¬ M = 0 := by omega
    have e17 : Int.tmod (c : Int) (n : Int) = a := by rw [← ha]; exact Int.tmod_eq_emod_of_nonneg (by omega)
    have w17 : IntKind.wrap .i64 a = a := by rw [← ha]; exact wrap_small (modb (by omega))
    have b20 : 0 ≤ d0 ∧ d0 ≤ 1000000 := by rw [← hd0]; exact ⟨Int.ediv_nonneg (by omega) (by omega), Int.le_trans (Int.ediv_le_self _ (by omega)) (by omega)⟩
    have e20 : Int.tdiv (c : Int) (n : Int) = d0 := by rw [← hd0]; exact Int.tdiv_eq_ediv_of_nonneg (by omega)
    have w20 : IntKind.wrap .i64 d0 = d0 := wrap_small b20
    have e22 : Int.tmod d0 (n : Int) = b := by rw [← hb]; exact Int.tmod_eq_emod_of_nonneg b20.1
    have w22 : IntKind.wrap .i64 b = b := by rw [← hb]; exact wrap_small (modb (by omega))
    have e27 : Int.tdiv (c : Int) M = d := by rw [← hd]; exact Int.tdiv_eq_ediv_of_nonneg (by omega)
    have w27 : IntKind.wrap .i64 d = d := by rw [← hd]; exact wrap_small ⟨Int.ediv_nonneg (by omega) (by omega), Int.le_trans (Int.ediv_le_self _ (by omega)) (by omega)⟩
    have hcell : cellsM9 (compM n c) = #[.int .i64 0, .int .i64 1, .int .i64 0, .int .i64 0, .int .i64 0, .int .i64 1, .int .i64 a, .int .i64 b, .int .i64 d] := by rw [comp_cells, ha, hM, hd, hd0, hb]
    have hin : InM (compM n c) := inM_comp HC.out.pr (by rw [HN2.out, HN4.out]; have := HlN.out; omega)
    have hdz : (dv : Int) = a := by rw [← ha, ← hdv]; simp
    have hHB := HB.out.size
    have lr0 := (Array.getElem?_eq_some_iff.1 HR.out).1
    have HKeep := Lib.hid (show True ∧ c % n = dv ∧ cellsM9 (compM n c) = #[.int .i64 0, .int .i64 1, .int .i64 0, .int .i64 0, .int .i64 0, .int .i64 1, .int .i64 a, .int .i64 b, .int .i64 d] ∧ InM (compM n c) from ⟨trivial, hdv, hcell, hin⟩)
    clear ha hd0 hb hd hdv hcell hin
    go_wp2
    refine region_calm [(17, .int .i64 (c : Int)), (18, .int .i64 (n : Int)), (19, .int .i64 (n : Int)), (20, .int .i64 M), (21, .int .i64 d), (22, .int .i64 (c : Int)), (23, .int .i64 (n : Int)), (24, .int .i64 d0), (25, .int .i64 (n : Int)), (26, .int .i64 b), (27, .int .i64 (c : Int)), (28, .int .i64 (n : Int)), (29, .int .i64 a), (5, .int .i64 d), (6, .int .i64 b), (7, .int .i64 a)] (by kernel_rfl) (by kernel_rfl) (by kernel_rfl) (fun aE hpe => ?_)
    simp only [puts, Act.put, List.setIfInBounds_toArray, List.set_cons_zero, List.set_cons_succ] at hpe
    subst hpe
    refine ⟨⟨.inr (.inr ?_), .inr (.inr ?_), .inr (.inr ?_), .inr (.inr ?_), .inr (.inr ?_), .inr (.inr ?_), .inr (.inr ?_), .inr (.inr ?_), .inr (.inr ?_), .inr (.inr ?_), .inr (.inr ?_), .inr (.inr ?_), .inr (.inr ?_), .inr (.inr ?_), .inr (.inr ?_), .inr (.inr ?_), trivial⟩, ?_⟩
    · exact Calm.mk 17 (.int .i64 (c : Int)) rfl rfl (fun W hW => calm_move (.tmp 4) rfl rfl)
    · exact Calm.mk 18 (.int .i64 (n : Int)) rfl rfl (fun W hW => calm_move (.tmp 0) rfl rfl)
    · exact Calm.mk 19 (.int .i64 (n : Int)) rfl rfl (fun W hW => calm_move (.tmp 0) rfl rfl)
    · exact Calm.mk 20 (.int .i64 M) rfl rfl (fun W hW => calm_run (by simp [execOp, Act.eval, go_sem, hM, w1]))
    · exact Calm.mk 21 (.int .i64 d) rfl rfl (fun W hW => calm_run (by simp [execOp, Act.eval, go_sem, nz2, e27, w27]))
    · exact Calm.mk 22 (.int .i64 (c : Int)) rfl rfl (fun W hW => calm_move (.tmp 4) rfl rfl)
    · exact Calm.mk 23 (.int .i64 (n : Int)) rfl rfl (fun W hW => calm_move (.tmp 0) rfl rfl)
    · exact Calm.mk 24 (.int .i64 d0) rfl rfl (fun W hW => calm_run (by simp [execOp, Act.eval, go_sem, nz, e20, w20]))
    · exact Calm.mk 25 (.int .i64 (n : Int)) rfl rfl (fun W hW => calm_move (.tmp 0) rfl rfl)
    · exact Calm.mk 26 (.int .i64 b) rfl rfl (fun W hW => calm_run (by simp [execOp, Act.eval, go_sem, nz, e22, w22]))
    · exact Calm.mk 27 (.int .i64 (c : Int)) rfl rfl (fun W hW => calm_move (.tmp 4) rfl rfl)
    · exact Calm.mk 28 (.int .i64 (n : Int)) rfl rfl (fun W hW => calm_move (.tmp 0) rfl rfl)
    · exact Calm.mk 29 (.int .i64 a) rfl rfl (fun W hW => calm_run (by simp [execOp, Act.eval, go_sem, nz, e17, w17]))
    · exact Calm.mk 5 (.int .i64 d) rfl rfl (fun W hW => calm_assign (.tmp 21) rfl rfl)
    · exact Calm.mk 6 (.int .i64 b) rfl rfl (fun W hW => calm_assign (.tmp 26) rfl rfl)
    · exact Calm.mk 7 (.int .i64 a) rfl rfl (fun W hW => calm_assign (.tmp 29) rfl rfl)
    intro W2 hW2
    have kr := (hW2.block _ lr0).trans HR.out
    have lr := (Array.getElem?_eq_some_iff.1 kr).1
    have HB2 := Lib.hid (low_tr' HB.out hW2 hHB)
    have hs2 := HB2.out.size
    clear hW2 HB HR lr0 hHB e17 w17 b20 e20 w20 e22 w22 e27 w27 nz2
    obtain ⟨_, hdv, hcell, hin⟩ := HKeep.out
    have HOr := Lib.hid (fun (W : World) (K : Nat) (h1 : ordM n (compM n c) = K) (h2 : K ≠ 0) => (by have h3 := l10Order_any n (compM n c) K Q W HC.out.pr hin h1 h2 hQ1; rw [hcell] at h3; exact h3 : Calls Try.prog 137 #[.int .i64 (n : Int), .agg #[.int .i64 0, .int .i64 1, .int .i64 0, .int .i64 0, .int .i64 0, .int .i64 1, .int .i64 a, .int .i64 b, .int .i64 d], .int .i64 (Q : Int)] W (Ret W (.int .i64 (ordT K Q)))))
    have HCs := Lib.hid HC.out.no
    have HCy := Lib.hid HC.out.yes
    rw [HF.out, HQ.out] at HCy
    rw [HF.out, HQ.out] at HCs
    have HCell := Lib.hid hcell
    have HDv := Lib.hid hdv
    have HDz := Lib.hid hdz
    clear hdv hcell hin HKeep hdz
    by_cases hcF : c = F
    · subst hcF
      have hK : ordM n (compM n c) = Q := HCy.out.2
      have hQ0 : Q ≠ 0 := by have h1 := HC.out.yes.2; rw [HF.out, hK] at h1; have := HQ.out; omega
      have HO := Lib.hid (fun (W : World) => HOr.out W Q hK hQ0)
      rw [show ordT Q Q = (Q : Int) by unfold ordT; rw [if_pos (Nat.le_refl _)]] at HO
      have hzn : ¬ a = 0 := by have := HCy.out.1; rw [HDv.out] at this; have := HDz.out; omega
      clear HCs HCy HOr hK hQ0
      go_wp2_with (first
        | (go_at_call 137; (with_reducible refine (HO.out _).mono ?_); rintro e w4_ ⟨rfl, hb4⟩; obtain ⟨hcb4, hfb4, hlb4⟩ := bcell hb4; have hsz4 := hb4.size; (try simp at hsz4); have HB4 := Lib.hid hb4; clear hb4; (try (have hl04 : W2.heap.size < w4_.heap.size := by omega)))
        | (refine wpList_store_row _ rfl 26 _ _ rfl rfl (g := w.heap.size) (T := 26) (cs := #[.int .i64 0, .int .i64 0, .int .i64 0, .int .i64 0, .int .i64 0, .int .i64 0, .int .i64 0, .int .i64 0, .int .i64 0]) (U := #[.int .i64 0, .int .i64 1, .int .i64 0, .int .i64 0, .int .i64 0, .int .i64 1, .int .i64 a, .int .i64 b, .int .i64 d]) rfl rfl (by rw [HB4.out.block _ (by simp; omega), hn_pastN _ _ _ (by omega)]; exact kr) rfl Try.sizeOf26 (by simp [Value.oneCell']) ?_))
      exact bodyPost_ret (v := .agg #[.int .i64 0, .int .i64 1, .int .i64 0, .int .i64 0, .int .i64 0, .int .i64 1, .int .i64 a, .int .i64 b, .int .i64 d]) (results_row Try.results86 rfl (setRow_heap _ _ #[.int .i64 0, .int .i64 0, .int .i64 0, .int .i64 0, .int .i64 0, .int .i64 0, .int .i64 0, .int .i64 0, .int .i64 0] _ _ _ (by rw [HB4.out.block _ (by simp; omega), hn_pastN _ _ _ (by omega)]; exact kr)) 9 rfl Try.sizeOf26 Try.isAgg26) rfl ⟨by rw [HF.out, HCell.out], below_setRowN (low_tr' (bal HB2.out _) HB4.out (by simp; omega)) (by omega) _⟩
    · have hclt : c < F := by omega
      rcases HCs.out c hclt with h0 | ⟨h0, h1, h2⟩
      · have h00 : a = 0 := by rw [HDv.out] at h0; have := HDz.out; omega
        subst h00
        clear HCs HCy HOr h0
        go_wp2
        go_roundw
        case rel => exact ⟨c + 1, by omega, numW (by omega), Lib.hid (by rw [hn_pastN _ _ _ (by omega)]; exact kr), Lib.hid (bal HB2.out _)⟩
        case measure => simp [intOf]; omega
      · obtain ⟨K, hK⟩ : ∃ K, ordM n (compM n c) = K := ⟨_, rfl⟩
        rw [hK] at h1 h2
        have HO := Lib.hid (fun (W : World) => HOr.out W K hK h1)
        have hQp : 0 < Q := by have := HQv.out; omega
        have hv : ¬ ordT K Q = (Q : Int) := by unfold ordT; split <;> omega
        generalize ordT K Q = v at *
        have hvb : (v == (Q : Int)) = false := by simpa using hv
        have hzn : ¬ a = 0 := by rw [HDv.out] at h0; have := HDz.out; omega
        clear HCs HCy HOr h0 h1 h2 hK
        go_wp2_with (go_at_call 137; (with_reducible refine (HO.out _).mono ?_); rintro e w4_ ⟨rfl, hb4⟩; obtain ⟨hcb4, hfb4, hlb4⟩ := bcell hb4; have hsz4 := hb4.size; (try simp at hsz4); have HB4 := Lib.hid hb4; clear hb4; (try (have hl04 : W2.heap.size < w4_.heap.size := by omega)))
        go_roundw
        case rel => exact ⟨c + 1, by omega, numW (by omega), Lib.hid (by rw [HB4.out.block _ (by simp; omega), hn_pastN _ _ _ (by omega)]; exact kr), Lib.hid (low_tr' (bal HB2.out _) HB4.out (by simp; omega))⟩
        case measure => simp [intOf]; omega
/-- What SingerMap returns. -/
def singM (n : Nat) : Value := .agg (cellsM9 (compM n (firstC n)))
theorem l10Prime_yes (n : Nat) (w : World) (hp : prB (n : Int) = true) : Calls Try.prog 85 #[.int .i64 (n : Int)] w fun e w' => e = .returned (.int .i64 0) ∧ w = w' := by
  go_enter Try.func85, Try.ntmps85
  go_wp2_with (go_at_call 68; refine (l01Prime_yes _ _ hp).mono ?_; rintro e w' ⟨rfl, rfl⟩)
  go_ret
  exact ⟨rfl, rfl⟩
theorem l10Prime_no (p : Int) (w : World) (hp : prB p = false) : Calls Try.prog 85 #[.int .i64 p] w fun e w' => e = .returned (.int .i64 2) ∧ w = w' := by
  go_enter Try.func85, Try.ntmps85
  go_wp2_with (go_at_call 68; refine (l01Prime_no _ _ hp).mono ?_; rintro e w' ⟨rfl, rfl⟩)
  go_ret
  exact ⟨rfl, rfl⟩
end Go.Proofs.Ythkbhaaodegocaa
/- Contracts: the Singer order of a prime; SingerOrder, the program's and the reference's. -/
namespace Go.Proofs.Ythkbhaaodegocaa
open Go.RowKit
set_option linter.unusedVariables false
set_option linter.unusedSimpArgs false
theorem singerOrder_any (n : Nat) (w : World) (hp : prB (n : Int) = true) : Calls Try.prog 90 #[.int .i64 (n : Int)] w (PtsPost w (singL n)) := by
  have HS := Lib.hid (fun (W : World) => singer_any n W (codes_of hp))
  have HO : Hid (∀ W, Calls Try.prog 141 #[.int .i64 (n : Int), .agg (cellsM9 (compM n (firstC n))), ptV 0 0 1] W (PtsPost W (singL n))) := Lib.hid (fun W => orbit_any _ _ (0, 0, 1) _ W (orb_of hp))
  generalize singL n = L at *
  generalize compM n (firstC n) = m at *
  clear hp
  go_enter Try.func90, Try.ntmps90
  go_wp2_with (first
    | (go_at_call 87; (with_reducible refine (HS.out _).mono ?_); rintro e w1_ ⟨rfl, hb1⟩; obtain ⟨hcb1, hfb1, hlb1⟩ := bcell hb1; have hsz1 := hb1.size; (try simp at hsz1); have HB1 := Lib.hid hb1; clear hb1)
    | (go_at_call 141; refine (HO.out _).mono ?_; rintro e w2 ⟨v, rfl, ho, hb⟩; have HO2 := Lib.hid ho; have HB2 := Lib.hid hb; clear ho hb))
  go_ret
  exact ⟨_, rfl, own_low HO2.out (by have := HB1.out.size; omega), (by repeat (first | exact Below.refl _ _ | refine bset ?_ _ _ (by omega) _ | refine bal ?_ _ | refine bdrN ?_ _ | refine bdr ?_ | refine below_tr' ?_ HB2.out | refine below_tr' ?_ HB1.out))⟩
theorem l10Points_any (n : Nat) (w : World) (hp : prB (n : Int) = true) : Calls Try.prog 89 #[.int .i64 (n : Int)] w (PtsPost w (singL n)) := by
  have HS := Lib.hid (fun (W : World) => l10Singer_any n W (codes_of hp))
  have HO : Hid (∀ W, Calls Try.prog 140 #[.int .i64 (n : Int), .agg (cellsM9 (compM n (firstC n))), ptV 0 0 1] W (PtsPost W (singL n))) := Lib.hid (fun W => l02Orbit_any _ _ (0, 0, 1) _ W (orb_of hp))
  generalize singL n = L at *
  generalize compM n (firstC n) = m at *
  clear hp
  go_enter Try.func89, Try.ntmps89
  go_wp2_with (first
    | (go_at_call 86; (with_reducible refine (HS.out _).mono ?_); rintro e w1_ ⟨rfl, hb1⟩; obtain ⟨hcb1, hfb1, hlb1⟩ := bcell hb1; have hsz1 := hb1.size; (try simp at hsz1); have HB1 := Lib.hid hb1; clear hb1)
    | (go_at_call 140; refine (HO.out _).mono ?_; rintro e w2 ⟨v, rfl, ho, hb⟩; have HO2 := Lib.hid ho; have HB2 := Lib.hid hb; clear ho hb))
  go_ret
  exact ⟨_, rfl, own_low HO2.out (by have := HB1.out.size; omega), (by repeat (first | exact Below.refl _ _ | refine bset ?_ _ _ (by omega) _ | refine bal ?_ _ | refine bdrN ?_ _ | refine bdr ?_ | refine below_tr' ?_ HB2.out | refine below_tr' ?_ HB1.out))⟩
/-- A new list of points, and no error. -/
structure PtsPost2 (w : World) (l : List Pt) (e : Ending) (w' : World) : Prop where
  out : ∃ v, e = .returned (.tuple #[v, .int .i64 0]) ∧ w'.ownsRow w.heap.size 23 3 v l.length (ptCs l) ∧ Below w.heap.size w w'
theorem SingerOrder_impl_yes (n : Nat) (w : World) (hp : prB (n : Int) = true) : Calls Try.prog 31 #[.int .i64 (n : Int)] w (PtsPost2 w (singL n)) := by
  have HO := Lib.hid (fun (W : World) => singerOrder_any n W hp)
  have HP := Lib.hid hp
  clear hp
  go_enter Try.func31, Try.ntmps31
  go_wp2_with (first
    | (go_at_call 73; refine (isPrime_yes _ _ HP.out).mono ?_; rintro e w' ⟨rfl, rfl⟩)
    | (go_at_call 90; refine (HO.out _).mono ?_; rintro e w2 ⟨v, rfl, ho, hb⟩; have HO2 := Lib.hid ho; have HB2 := Lib.hid hb; clear ho hb))
  exact bodyPost_ret (v := .tuple #[v, .int .i64 0]) (by simp [results, Try.results31, go_sem]) rfl ⟨_, rfl, HO2.out, HB2.out⟩
theorem SingerOrder_spec_yes (n : Nat) (w : World) (hp : prB (n : Int) = true) : Calls Try.prog 30 #[.int .i64 (n : Int)] w (PtsPost2 w (singL n)) := by
  have HO := Lib.hid (fun (W : World) => l10Points_any n W hp)
  have HP := Lib.hid hp
  clear hp
  go_enter Try.func30, Try.ntmps30
  go_wp2_with (first
    | (go_at_call 85; refine (l10Prime_yes _ _ HP.out).mono ?_; rintro e w' ⟨rfl, rfl⟩)
    | (go_at_call 89; refine (HO.out _).mono ?_; rintro e w2 ⟨v, rfl, ho, hb⟩; have HO2 := Lib.hid ho; have HB2 := Lib.hid hb; clear ho hb))
  exact bodyPost_ret (v := .tuple #[v, .int .i64 0]) (by simp [results, Try.results30, go_sem]) rfl ⟨_, rfl, HO2.out, HB2.out⟩
theorem SingerOrder_impl_no (p : Int) (w : World) (hp : prB p = false) : Calls Try.prog 31 #[.int .i64 p] w fun e w' => e = .returned (.tuple #[.slice none 0 0, .int .i64 2]) ∧ w = w' := by
  go_enter Try.func31, Try.ntmps31
  go_wp2_with (go_at_call 73; refine (isPrime_no _ _ hp).mono ?_; rintro e w' ⟨rfl, rfl⟩)
  exact bodyPost_ret (v := .tuple #[.slice none 0 0, .int .i64 2]) (by simp [results, Try.results31, go_sem]) rfl ⟨rfl, rfl⟩
theorem SingerOrder_spec_no (p : Int) (w : World) (hp : prB p = false) : Calls Try.prog 30 #[.int .i64 p] w fun e w' => e = .returned (.tuple #[.slice none 0 0, .int .i64 2]) ∧ w = w' := by
  go_enter Try.func30, Try.ntmps30
  go_wp2_with (go_at_call 85; refine (l10Prime_no _ _ hp).mono ?_; rintro e w' ⟨rfl, rfl⟩)
  exact bodyPost_ret (v := .tuple #[.slice none 0 0, .int .i64 2]) (by simp [results, Try.results30, go_sem]) rfl ⟨rfl, rfl⟩
end Go.Proofs.Ythkbhaaodegocaa
/- Contracts: which points of a list are on a line, as numbers; DifferenceSetOf, the program's and the reference's. (Printed by gent6.py, a program of this session.) -/
namespace Go.Proofs.Ythkbhaaodegocaa
open Go.RowKit
set_option linter.unusedVariables false
set_option linter.unusedSimpArgs false
/-- The numbers below k of which f holds. -/
def numU (f : Nat → Bool) (k : Nat) : List Int := ((List.range k).filter f).map (fun i : Nat => (i : Int))
theorem numU_succ (f : Nat → Bool) (k : Nat) : numU f (k + 1) = numU f k ++ (if f k then [(k : Int)] else []) := by
  unfold numU
  rw [List.range_succ, List.filter_append, List.map_append]
  cases h : f k <;> simp [h]
theorem numU_length (f : Nat → Bool) (k : Nat) : (numU f k).length ≤ k := by
  unfold numU
  rw [List.length_map]
  exact Nat.le_trans (List.length_filter_le _ _) (by simp)
theorem newI (wr : World) (x : Value) (T : TypeId) : ∀ (j : Nat) (u : Value), [x][j]? = some u → (wr.alloc (.cells #[x] T)).cell? ((⟨wr.heap.size, 0, none⟩ : Addr).add j) = some u := by
  intro j u hj
  have e : (wr.alloc (.cells #[x] T)).cell? ((⟨wr.heap.size, 0, none⟩ : Addr).add j) = #[x][j]? := by
    have hadd : (⟨wr.heap.size, 0, none⟩ : Addr).add j = ⟨wr.heap.size, j, none⟩ := by unfold Addr.add; split <;> simp_all
    rw [hadd, World.cell?_alloc_at _ _ _ _ rfl]
  rw [e]; simpa using hj
/-- A new list of numbers. -/
structure IntsPost (w : World) (l : List Int) (e : Ending) (w' : World) : Prop where
  out : ∃ v, e = .returned v ∧ w'.ownsRow w.heap.size 2 1 v l.length (ints l) ∧ Below w.heap.size w w'
def onN (n : Int) (L : List Pt) (l : Pt) : Nat → Bool := fun i => onB n (L.getD i (0, 0, 0)) l
set_option maxHeartbeats 4000000 in
theorem l10Numbers_any (n : Nat) (l0 l1 l2 : Int) (w : World) (hp : prB (n : Int) = true) (hl : In13 (l0, l1, l2)) :
    Calls Try.prog 91 #[.int .i64 (n : Int), ptV l0 l1 l2] w (IntsPost w (numU (onN (n : Int) (singL n) (l0, l1, l2)) (singL n).length)) := by
  obtain ⟨b1, b2⟩ := prB_bd hp
  obtain ⟨i0, hi, hz0, hz1, hz2⟩ := info_parts info64
  have HI0 := Lib.hid hi; have HZ0 := Lib.hid hz0; have HZ1 := Lib.hid hz1; have HZ2 := Lib.hid hz2
  clear hi hz0 hz1 hz2
  have HA := Lib.hid (fun (W : World) => l10Points_any n W hp)
  have HO := Lib.hid (fun (x y z : Int) (W : World) (h : In13 (x, y, z)) => l01On_any (n : Int) x y z l0 l1 l2 W hp h hl)
  have HIn := Lib.hid (singL_in hp)
  have hLen : (singL n).length ≤ 183 ∧ 0 < (singL n).length := by
    rw [singL_length]
    have : n * n ≤ 13 * 13 := Nat.mul_le_mul (by omega) (by omega)
    omega
  obtain ⟨hLen, HPos⟩ := hLen
  generalize singL n = all at *
  have HF := Lib.hid (show ∀ i, onN (n : Int) all (l0, l1, l2) i = onB n (all.getD i (0, 0, 0)) (l0, l1, l2) from fun _ => rfl)
  generalize onN (n : Int) all (l0, l1, l2) = f at *
  clear hp hl
  go_enter Try.func91, Try.ntmps91
  go_wp2_with (go_at_call 89; refine (HA.out _).mono ?_; rintro e w1 ⟨v, rfl, ho, hb⟩; obtain ⟨g, cap, rfl, hg0, hg1, hpt⟩ := ownPts ho rfl HPos; have HB1 := Lib.hid hb; have HP1 := Lib.hid hpt; have hsz1 := hb.size; (try simp at hsz1); clear hb hpt ho)
  have hbl : w1.heap[w.heap.size]? = some (.cells #[.int .i64 l0, .int .i64 l1, .int .i64 l2] 24 (0, 0)) := by rw [HB1.out.block _ (by first | omega | (simp; done) | (simp; omega)), hn_at' _ _ _ (by simp)]
  have hll : w.heap.size < w1.heap.size := (Array.getElem?_eq_some_iff.1 hbl).1
  go_loopw [6, 7] (fun v i wr => ∃ k : Nat, k ≤ all.length ∧ i = .int .i64 k ∧ Hid (wr.ownsRow w1.heap.size 2 1 v (numU f k).length (ints (numU f k))) ∧ Hid (Below w1.heap.size w1 wr)) (fun _ i wr => all.length - (intOf i).toNat)
  case atStart =>
    refine ⟨0, Nat.zero_le _, rfl, Lib.hid ?_, Lib.hid (by repeat (first | exact Below.refl _ _ | refine bset ?_ _ _ (by omega) _ | refine bal ?_ _ | refine bdrN ?_ _ | refine bdr ?_))⟩
    refine ⟨rfl, .inr ⟨w1.heap.size, 0, #[], rfl, Nat.le_refl _, heap_alloc_new _ _, Nat.le_refl _, by unfold maxLen; omega, rfl, rfl⟩⟩
  case round =>
    obtain ⟨k, hk, rfl, HR, HB⟩ := hrel
    by_cases hlt : k < all.length
    · have HPk := HP1.out k hlt
      have HInk : In13 (all.getD k (0, 0, 0)) := HIn.out _ (by simp [List.getD, hlt])
      have hkl := numU_length f k
      have HFk := Lib.hid (HF.out k)
      have HS := Lib.hid (numU_succ f k)
      generalize all.getD k (0, 0, 0) = a at *
      obtain ⟨x, y, z⟩ := a
      have HC := Lib.hid (fun (W : World) => HO.out x y z W HInk)
      obtain ⟨c0, c1, c2⟩ := HPk
      simp only [Nat.zero_add] at c0 c1 c2
      go_wp2
      refine region_calm [(17, .int .i64 n), (18, .slice (some ⟨g, 0, none⟩) all.length cap), (19, .int .i64 k), (20, .pointer (some ⟨g, k * 3, none⟩)), (21, ptV x y z), (22, ptV l0 l1 l2), (23, .bool (onB n (x, y, z) (l0, l1, l2)))] (by kernel_rfl) (by kernel_rfl) (by kernel_rfl) (fun aE hpe => ?_)
      simp only [puts, Act.put, List.setIfInBounds_toArray, List.set_cons_zero, List.set_cons_succ] at hpe
      subst hpe
      refine ⟨⟨.inr (.inr ?_), .inr (.inr ?_), .inr (.inr ?_), .inr (.inr ?_), .inr (.inr ?_), .inr (.inr ?_), .inr (.inr ?_), trivial⟩, ?_⟩
      · exact Calm.mk 17 (.int .i64 n) rfl rfl (fun W _ => calm_move (.tmp 0) rfl rfl)
      · exact Calm.mk 18 (.slice (some ⟨g, 0, none⟩) all.length cap) rfl rfl (fun W _ => calm_move (.tmp 5) rfl rfl)
      · exact Calm.mk 19 (.int .i64 k) rfl rfl (fun W _ => calm_move (.tmp 7) rfl rfl)
      · exact Calm.mk 20 (.pointer (some ⟨g, k * 3, none⟩)) rfl rfl (fun W _ => calm_run (by simp [execOp, Act.eval, go_sem, hlt]))
      · exact Calm.mk 21 (ptV x y z) rfl rfl (fun W hW => calm_loadPt 23 (.tmp 20) rfl rfl (cell_below hW (cell_below HB.out c0)) (cell_below hW (cell_below HB.out c1)) (cell_below hW (cell_below HB.out c2)) Try.sizeOf23 Try.isAgg23)
      · exact Calm.mk 22 (ptV l0 l1 l2) rfl rfl (fun W hW => calm_load (cs := #[.int .i64 l0, .int .i64 l1, .int .i64 l2]) (g := w.heap.size) (T := 24) (fr := (0, 0)) 24 (.tmp 3) rfl rfl (by rw [hW.block _ (Nat.lt_of_lt_of_le hll HB.out.size), HB.out.block _ hll]; exact hbl) 3 rfl Try.sizeOf24 Try.isAgg24)
      · exact Calm.mk 23 (.bool (onB n (x, y, z) (l0, l1, l2))) rfl rfl (fun W hW => calm_call 70 _ #[.int .i64 n, ptV x y z, ptV l0 l1 l2] rfl rfl rfl (by simp [Act.eval]) (Try.call70 _ _) (HC.out W))
      intro W2 hW2
      have HR2 := Lib.hid (own_below HR.out hW2)
      have HB2 := Lib.hid (low_tr' HB.out hW2 HB.out.size)
      clear hW2 HR HB c0 c1 c2 HC
      generalize numU f k = F at *
      cases hb : onB (n : Int) (x, y, z) (l0, l1, l2) with
      | true =>
        have HS2 : Hid (numU f (k + 1) = F ++ [(k : Int)]) := Lib.hid (by rw [HS.out, HFk.out, hb]; rfl)
        clear HS
        go_wp2_with (at_builtin; refine wpList_append_own _ rfl _ _ 34 rfl w1.heap.size 2 i0 (.int .i64 0) 1 8 Try.underlying34 HI0.out HZ0.out HZ1.out HZ2.out rfl (by decide) _ _ _ rfl (HR2.out.alloc _) ⟨W2.heap.size, 0, none⟩ 1 1 [.int .i64 (k : Int)] rfl rfl (newI _ _ _) (oneA _) (by unfold maxLen; omega) (by omega) (by have := HB2.out.size; first | omega | (simp; done) | (simp; omega)) ?_; intro v2 w2 hown hgrow _; have HO2 := Lib.hid hown; have HG := Lib.hid hgrow; clear hown hgrow)
        go_roundw
        case rel => exact ⟨k + 1, by omega, by go_num, Lib.hid (by rw [HS2.out, ints_app, List.length_append]; exact HO2.out), Lib.hid ((bal HB2.out _).grown HG.out (by have := HB2.out.size; first | omega | (simp; done) | (simp; omega)) (fun k' hk' => own_base' HR2.out k' hk'))⟩
        case measure => simp [intOf]; omega
      | false =>
        have HS2 : Hid (numU f (k + 1) = F) := Lib.hid (by rw [HS.out, HFk.out, hb]; simp)
        clear HS
        go_wp2
        go_roundw
        case rel => exact ⟨k + 1, by omega, by go_num, Lib.hid (by rw [HS2.out]; exact HR2.out), HB2⟩
        case measure => simp [intOf]; omega
    · have hT : k = all.length := by omega
      subst hT
      go_wp2
      go_ret
      have HB0 : Below w.heap.size w w1 := (by repeat (first | exact Below.refl _ _ | refine bset ?_ _ _ (by omega) _ | refine bal ?_ _ | refine bdrN ?_ _ | refine bdr ?_ | refine below_tr' ?_ HB1.out))
      exact ⟨u6, rfl, own_low HR.out HB0.size, low_tr' HB0 HB.out HB0.size⟩
set_option maxHeartbeats 4000000 in
theorem numbersOn_any (n : Nat) (g cap N : Nat) (all : List Pt) (l0 l1 l2 : Int) (w : World) (hp : prB (n : Int) = true) (hl : In13 (l0, l1, l2)) (hN : all.length = N) (hN1 : N ≤ 1000) (hin : ∀ a ∈ all, In13 a) (hpt : PtsAt w g 0 N all) :
    Calls Try.prog 92 #[.int .i64 (n : Int), .slice (some ⟨g, 0, none⟩) N cap, ptV l0 l1 l2] w (IntsPost w (numU (onN (n : Int) all (l0, l1, l2)) N)) := by
  obtain ⟨b1, b2⟩ := prB_bd hp
  obtain ⟨i0, hi, hz0, hz1, hz2⟩ := info_parts info64
  have HI0 := Lib.hid hi; have HZ0 := Lib.hid hz0; have HZ1 := Lib.hid hz1; have HZ2 := Lib.hid hz2
  clear hi hz0 hz1 hz2
  have HO := Lib.hid (fun (x y z : Int) (W : World) (h : In13 (x, y, z)) => isOn_any (n : Int) x y z l0 l1 l2 W hp h hl)
  have HF := Lib.hid (show ∀ i, onN (n : Int) all (l0, l1, l2) i = onB n (all.getD i (0, 0, 0)) (l0, l1, l2) from fun _ => rfl)
  generalize onN (n : Int) all (l0, l1, l2) = f at *
  have HP1 := Lib.hid hpt
  have HIn := Lib.hid hin
  clear hp hl hpt hin
  go_enter Try.func92, Try.ntmps92
  go_wp2
  go_loopw [7, 13] (fun v i wr => ∃ k : Nat, k ≤ N ∧ i = .int .i64 k ∧ Hid (wr.ownsRow (w.heap.size + 1) 2 1 v (numU f k).length (ints (numU f k))) ∧ Hid (wr.heap[w.heap.size]? = some (.cells #[.int .i64 l0, .int .i64 l1, .int .i64 l2] 24 (0, 0))) ∧ Hid (Below w.heap.size w wr)) (fun _ i wr => N - (intOf i).toNat)
  case atStart =>
    refine ⟨0, Nat.zero_le _, rfl, Lib.hid ?_, Lib.hid (by rw [hn_pastN _ _ _ (by simp), hn_atN _ _ _ rfl]), Lib.hid (by repeat (first | exact Below.refl _ _ | refine bset ?_ _ _ (by omega) _ | refine bal ?_ _ | refine bdrN ?_ _ | refine bdr ?_))⟩
    exact ⟨rfl, .inr ⟨w.heap.size + 1, 0, #[], rfl, Nat.le_refl _, by rw [hn_atN _ _ _ (by simp)], Nat.le_refl _, by unfold maxLen; omega, rfl, rfl⟩⟩
  case round =>
    obtain ⟨k, hk, rfl, HR, KL, HB⟩ := hrel
    by_cases hlt : k < N
    · have HPk := HP1.out k hlt
      have HInk : In13 (all.getD k (0, 0, 0)) := HIn.out _ (by simp [List.getD, hN, hlt])
      have hkl := numU_length f k
      have HFk := Lib.hid (HF.out k)
      have HS := Lib.hid (numU_succ f k)
      generalize all.getD k (0, 0, 0) = a at *
      obtain ⟨x, y, z⟩ := a
      have HC := Lib.hid (fun (W : World) => HO.out x y z W HInk)
      obtain ⟨c0, c1, c2⟩ := HPk
      simp only [Nat.zero_add] at c0 c1 c2
      have d0 := cell_below HB.out c0
      have d1 := cell_below HB.out c1
      have d2 := cell_below HB.out c2
      have ll := (Array.getElem?_eq_some_iff.1 KL.out).1
      clear c0 c1 c2 HInk
      generalize numU f k = F at *
      cases hb : onB (n : Int) (x, y, z) (l0, l1, l2) with
      | true =>
        have HS2 : Hid (numU f (k + 1) = F ++ [(k : Int)]) := Lib.hid (by rw [HS.out, HFk.out, hb]; rfl)
        rw [hb] at HC
        clear HS
        go_wp2_with (first
          | (refine wpList_store_row _ rfl 23 _ _ rfl rfl (U := #[.int .i64 x, .int .i64 y, .int .i64 z]) rfl rfl (heap_alloc_new _ _) rfl Try.sizeOf23 (by simp [Value.oneCell']) ?_; rw [alloc_setRow])
          | (refine wpList_load_row _ rfl 23 _ rfl (g := wr.heap.size) (T := 23) (cs := #[.int .i64 x, .int .i64 y, .int .i64 z]) (fr := (0, 0)) rfl (by rw [hn_atN _ _ _ rfl]) 3 rfl Try.sizeOf23 Try.isAgg23 ?_)
          | (refine wpList_load_row _ rfl 24 _ rfl (g := w.heap.size) (T := 24) (cs := #[.int .i64 l0, .int .i64 l1, .int .i64 l2]) (fr := (0, 0)) rfl (by rw [hn_pastN _ _ _ ll]; exact KL.out) 3 rfl Try.sizeOf24 Try.isAgg24 ?_)
          | (go_at_call 75; (with_reducible refine (HC.out _).mono ?_); rintro e w3_ ⟨rfl, hb3⟩; obtain ⟨hcb3, hfb3, hlb3⟩ := bcell hb3; have hsz3 := hb3.size; (try simp at hsz3); have HB3 := Lib.hid hb3; clear hb3; (try (have hl03 : w.heap.size < w3_.heap.size := by omega)))
          | (at_builtin; refine wpList_append_own _ rfl _ _ 34 rfl (w.heap.size + 1) 2 i0 (.int .i64 0) 1 8 Try.underlying34 HI0.out HZ0.out HZ1.out HZ2.out rfl (by decide) _ _ _ rfl ((own_below (HR.out.alloc _) HB3.out).alloc _) ⟨w3_.heap.size, 0, none⟩ 1 1 [.int .i64 (k : Int)] rfl rfl (newI _ _ _) (oneA _) (by unfold maxLen; omega) (by omega) (by have := HB3.out.size; have := HB.out.size; first | omega | (simp; done) | (simp; omega)) ?_; intro v2 w2 hown hgrow _; have HO2 := Lib.hid hown; have HG := Lib.hid hgrow; clear hown hgrow))
        have HR3 := own_below (HR.out.alloc (.cells #[.int .i64 x, .int .i64 y, .int .i64 z] 23)) HB3.out
        have HB4 := low_tr' (bal HB.out (.cells #[.int .i64 x, .int .i64 y, .int .i64 z] 23)) HB3.out (by have := HB.out.size; first | omega | (simp; done) | (simp; omega))
        have hnb := own_base' HR3
        have s3 := HB3.out.size
        go_roundw
        case rel => exact ⟨k + 1, by omega, by go_num, Lib.hid (by rw [HS2.out, ints_app, List.length_append]; exact HO2.out), Lib.hid (by rw [HG.out.block (w.heap.size) (by simp at s3 ⊢; omega) (fun e => by have := hnb _ e.symm; omega), hn_pastN _ _ _ (by simp at s3; omega), HB3.out.block _ (by simp; omega), hn_pastN _ _ _ ll]; exact KL.out), Lib.hid ((bal HB4 _).grown HG.out (by have := HB4.size; first | omega | (simp; done) | (simp; omega)) (fun k' hk' => by have := hnb k' hk'; omega))⟩
        case measure => simp [intOf]; omega
      | false =>
        have HS2 : Hid (numU f (k + 1) = F) := Lib.hid (by rw [HS.out, HFk.out, hb]; simp)
        rw [hb] at HC
        clear HS
        go_wp2_with (first
          | (refine wpList_store_row _ rfl 23 _ _ rfl rfl (U := #[.int .i64 x, .int .i64 y, .int .i64 z]) rfl rfl (heap_alloc_new _ _) rfl Try.sizeOf23 (by simp [Value.oneCell']) ?_; rw [alloc_setRow])
          | (refine wpList_load_row _ rfl 23 _ rfl (g := wr.heap.size) (T := 23) (cs := #[.int .i64 x, .int .i64 y, .int .i64 z]) (fr := (0, 0)) rfl (by rw [hn_atN _ _ _ rfl]) 3 rfl Try.sizeOf23 Try.isAgg23 ?_)
          | (refine wpList_load_row _ rfl 24 _ rfl (g := w.heap.size) (T := 24) (cs := #[.int .i64 l0, .int .i64 l1, .int .i64 l2]) (fr := (0, 0)) rfl (by rw [hn_pastN _ _ _ ll]; exact KL.out) 3 rfl Try.sizeOf24 Try.isAgg24 ?_)
          | (go_at_call 75; (with_reducible refine (HC.out _).mono ?_); rintro e w3_ ⟨rfl, hb3⟩; obtain ⟨hcb3, hfb3, hlb3⟩ := bcell hb3; have hsz3 := hb3.size; (try simp at hsz3); have HB3 := Lib.hid hb3; clear hb3; (try (have hl03 : w.heap.size < w3_.heap.size := by omega))))
        have HR3 := own_below (HR.out.alloc (.cells #[.int .i64 x, .int .i64 y, .int .i64 z] 23)) HB3.out
        have HB4 := low_tr' (bal HB.out (.cells #[.int .i64 x, .int .i64 y, .int .i64 z] 23)) HB3.out (by have := HB.out.size; first | omega | (simp; done) | (simp; omega))
        go_roundw
        case rel => exact ⟨k + 1, by omega, by go_num, Lib.hid (by rw [HS2.out]; exact HR3), Lib.hid (by rw [HB3.out.block _ (by simp; omega), hn_pastN _ _ _ ll]; exact KL.out), Lib.hid HB4⟩
        case measure => simp [intOf]; omega
    · have hT : k = N := by omega
      subst hT
      go_wp2
      go_ret
      exact ⟨u7, rfl, own_low HR.out (by omega), HB.out⟩
end Go.Proofs.Ythkbhaaodegocaa
/- Plain words: two different points have a line. -/
namespace Go.Proofs.Ythkbhaaodegocaa
set_option linter.unusedVariables false
set_option linter.unusedSimpArgs false
def crsNz (p : Int) (a b : Pt) : Bool := (crs a b).1 % p != 0 || ((crs a b).2.1 % p != 0 || (crs a b).2.2 % p != 0)
def crsChk (n : Nat) : Bool := (allP n).all (fun a => (allP n).all (fun b => eqP a b || crsNz (n : Int) a b))
theorem crsChk3 : crsChk 3 = true := by decide +kernel
theorem crsChk5 : crsChk 5 = true := by decide +kernel
theorem crsChk7 : crsChk 7 = true := by decide +kernel
theorem crsChk11 : crsChk 11 = true := by decide +kernel
theorem crsChk13 : crsChk 13 = true := by decide +kernel
theorem crsChk_of {n : Nat} (hp : prB (n : Int) = true) : crsChk n = true := by
  have h := prB_cases hp
  have : n = 3 ∨ n = 5 ∨ n = 7 ∨ n = 11 ∨ n = 13 := by omega
  rcases this with rfl | rfl | rfl | rfl | rfl
  · exact crsChk3
  · exact crsChk5
  · exact crsChk7
  · exact crsChk11
  · exact crsChk13
/-- Two different normal points have one normal line. -/
theorem crsN_pt {n : Nat} {a b : Pt} (ha : ptB (n : Int) a.1 a.2.1 a.2.2 = true) (hb : ptB (n : Int) b.1 b.2.1 b.2.2 = true) (h : eqP a b = false) :
    ptB (n : Int) (crsN n a b).1 (crsN n a b).2.1 (crsN n a b).2.2 = true := by
  have hp := (pt_facts ha).1
  have h1 := List.all_eq_true.1 (List.all_eq_true.1 (crsChk_of hp) _ (mem_allP ha)) _ (mem_allP hb)
  have h2 : crsNz (n : Int) a b = true := by
    rw [Bool.or_eq_true] at h1
    rcases h1 with h1 | h1
    · exact absurd (h1.symm.trans h) (by decide)
    · exact h1
  refine nrm3_pt hp ?_
  unfold nzB zerosB
  unfold crsNz at h2
  simp at h2 ⊢
  omega
end Go.Proofs.Ythkbhaaodegocaa
/- Lists of points that are written to in place. -/
namespace Go.Proofs.Ythkbhaaodegocaa
open Go.RowKit
set_option linter.unusedVariables false
set_option linter.unusedSimpArgs false
/-- A block of room for points. -/
def RoomP (W : World) (g cap : Nat) (T : TypeId) : Prop := ∃ cur, W.heap[g]? = some (.cells cur T (0, 0)) ∧ cur.size = cap * 3
theorem RoomP.set {W : World} {g cap : Nat} {T : TypeId} (h : RoomP W g cap T) (j : Nat) (v : Value) : RoomP (W.setCell ⟨g, j, none⟩ v) g cap T := by
  obtain ⟨cur, hb, hs⟩ := h
  exact ⟨cur.setIfInBounds j v, by simp [World.setCell, Array.getElem?_modify, hb], by simpa using hs⟩
theorem RoomP.sets {g cap : Nat} {T : TypeId} : ∀ (vs : List Value) (o : Nat) {W : World} (h : RoomP W g cap T), RoomP (W.setCells g o vs) g cap T
  | [], _, _, h => h
  | v :: r, o, _, h => RoomP.sets r (o + 1) (h.set o v)
theorem RoomP.frozen {W : World} {g cap : Nat} {T : TypeId} (h : RoomP W g cap T) (j : Nat) : W.frozen? ⟨g, j, none⟩ = false := by
  obtain ⟨cur, hb, hs⟩ := h
  exact frozen_of_row W g j _ _ hb
theorem RoomP.some {W : World} {g cap : Nat} {T : TypeId} (h : RoomP W g cap T) (j : Nat) (hj : j < cap * 3) : (W.cell? ⟨g, j, none⟩).isSome = true := by
  obtain ⟨cur, hb, hs⟩ := h
  rw [cell_of_row W g j _ _ _ hb]
  simp [hs, hj]
theorem RoomP.below {W W' : World} {g cap : Nat} {T : TypeId} (h : RoomP W g cap T) (hb : Below W.heap.size W W') : RoomP W' g cap T := by
  obtain ⟨cur, h1, hs⟩ := h
  exact ⟨cur, by rw [hb.block _ (Array.getElem?_eq_some_iff.1 h1).1]; exact h1, hs⟩
theorem RoomP.lt {W : World} {g cap : Nat} {T : TypeId} (h : RoomP W g cap T) : g < W.heap.size := by
  obtain ⟨cur, h1, hs⟩ := h
  exact (Array.getElem?_eq_some_iff.1 h1).1
theorem roomP_own {W : World} {base : Nat} {T : TypeId} {g cap n : Nat} {xs : List Value} {b : Option Addr} (hb : b = some ⟨g, 0, none⟩) (h : W.ownsRow base T 3 (.slice b n cap) n xs) : RoomP W g cap T ∧ n ≤ cap ∧ cap ≤ maxLen := by
  subst hb
  rcases h.2 with ⟨h0, _⟩ | ⟨g', cap', cur, h1, _, hg, hle, hm, hsz, _⟩
  · cases h0
  · cases h1; exact ⟨⟨cur, hg, hsz⟩, hle, hm⟩
/-- Three stores set a point. -/
theorem pts_set {W : World} {g cap n : Nat} {T : TypeId} {L : List Pt} (hr : RoomP W g cap T) (hn : n ≤ cap) (h : PtsAt W g 0 n L) (hl : L.length = n) (i : Nat) (hi : i < n) (x y z : Int) :
    PtsAt (((W.setCell ⟨g, i * 3, none⟩ (.int .i64 x)).setCell ⟨g, i * 3 + 1, none⟩ (.int .i64 y)).setCell ⟨g, i * 3 + 2, none⟩ (.int .i64 z)) g 0 n (L.set i (x, y, z)) := by
  have ne : ∀ a b : Nat, a ≠ b → (⟨g, a, none⟩ : Addr) ≠ ⟨g, b, none⟩ := fun a b h e => h (by cases e; rfl)
  have s0 := Option.isSome_iff_exists.1 (hr.some (i * 3) (by omega))
  have s1 := Option.isSome_iff_exists.1 (hr.some (i * 3 + 1) (by omega))
  have s2 := Option.isSome_iff_exists.1 (hr.some (i * 3 + 2) (by omega))
  obtain ⟨u0, s0⟩ := s0
  obtain ⟨u1, s1⟩ := s1
  obtain ⟨u2, s2⟩ := s2
  intro j hj
  obtain ⟨c0, c1, c2⟩ := h j hj
  simp only [Nat.zero_add] at c0 c1 c2 ⊢
  by_cases e : j = i
  · subst e
    have hd : (L.set j (x, y, z)).getD j (0, 0, 0) = (x, y, z) := by simp [List.getD, hl, hj]
    rw [hd]
    refine ⟨?_, ?_, ?_⟩
    · rw [World.cell?_setCell_other _ _ _ _ (ne _ _ (by omega)), World.cell?_setCell_other _ _ _ _ (ne _ _ (by omega)), World.cell?_setCell_same _ _ _ s0]
    · rw [World.cell?_setCell_other _ _ _ _ (ne _ _ (by omega)), World.cell?_setCell_same (u := u1) _ _ _ (by rw [World.cell?_setCell_other _ _ _ _ (ne _ _ (by omega))]; exact s1)]
    · rw [World.cell?_setCell_same (u := u2) _ _ _ (by rw [World.cell?_setCell_other _ _ _ _ (ne _ _ (by omega)), World.cell?_setCell_other _ _ _ _ (ne _ _ (by omega))]; exact s2)]
  · have hd : (L.set i (x, y, z)).getD j (0, 0, 0) = L.getD j (0, 0, 0) := by simp [List.getD, List.getElem?_set_ne (Ne.symm e)]
    rw [hd]
    refine ⟨?_, ?_, ?_⟩
    · rw [World.cell?_setCell_other _ _ _ _ (ne _ _ (by omega)), World.cell?_setCell_other _ _ _ _ (ne _ _ (by omega)), World.cell?_setCell_other _ _ _ _ (ne _ _ (by omega))]; exact c0
    · rw [World.cell?_setCell_other _ _ _ _ (ne _ _ (by omega)), World.cell?_setCell_other _ _ _ _ (ne _ _ (by omega)), World.cell?_setCell_other _ _ _ _ (ne _ _ (by omega))]; exact c1
    · rw [World.cell?_setCell_other _ _ _ _ (ne _ _ (by omega)), World.cell?_setCell_other _ _ _ _ (ne _ _ (by omega)), World.cell?_setCell_other _ _ _ _ (ne _ _ (by omega))]; exact c2
/-- Points at hand and room: an owned list. -/
theorem own_of_pts {W : World} {base g cap n : Nat} {T : TypeId} {L : List Pt} (hb : base ≤ g) (hr : RoomP W g cap T) (hm : cap ≤ maxLen) (hn : n ≤ cap) (hl : L.length = n) (h : PtsAt W g 0 n L) :
    W.ownsRow base T 3 (.slice (some ⟨g, 0, none⟩) n cap) n (ptCs L) := by
  obtain ⟨cur, hg, hsz⟩ := hr
  refine ⟨by rw [ptCs_length, hl], .inr ⟨g, cap, cur, rfl, hb, hg, hn, hm, hsz, ?_⟩⟩
  apply List.ext_getElem?
  intro j
  by_cases hj : j < n * 3
  · rw [List.getElem?_take_of_lt hj]
    have hq : j / 3 < n := by omega
    obtain ⟨c0, c1, c2⟩ := h (j / 3) hq
    obtain ⟨d0, d1, d2⟩ := ptCs_at L (j / 3) (by omega)
    rw [cell_of_row W g _ _ _ _ hg, Nat.zero_add] at c0 c1 c2
    have hc : ∀ k : Nat, cur.toList[k]? = cur[k]? := by intro k; simp
    rw [hc]
    have : j = j / 3 * 3 ∨ j = j / 3 * 3 + 1 ∨ j = j / 3 * 3 + 2 := by omega
    rcases this with e | e | e <;> rw [e]
    · rw [c0, d0]
    · rw [c1, d1]
    · rw [c2, d2]
  · rw [List.getElem?_eq_none (by rw [List.length_take]; omega), List.getElem?_eq_none (by rw [ptCs_length]; omega)]
/-- Points ahead of what is set. -/
theorem pts_ahead {W : World} {g n m o : Nat} {L : List Pt} (h : PtsAt W g 0 n L) (hm : m ≤ n) (hl : L.length = n) (vs : List Value) (ho : m * 3 ≤ o) : PtsAt (W.setCells g o vs) g 0 m (L.take m) := by
  intro j hj
  obtain ⟨c0, c1, c2⟩ := h j (by omega)
  have hd : (L.take m).getD j (0, 0, 0) = L.getD j (0, 0, 0) := by simp [List.getD, List.getElem?_take_of_lt hj]
  rw [hd]
  simp only [Nat.zero_add] at c0 c1 c2 ⊢
  refine ⟨?_, ?_, ?_⟩
  · rw [World.cell?_setCells_out _ _ _ _ _ (fun _ _ => .inl (by show j * 3 < o; omega))]; exact c0
  · rw [World.cell?_setCells_out _ _ _ _ _ (fun _ _ => .inl (by show j * 3 + 1 < o; omega))]; exact c1
  · rw [World.cell?_setCells_out _ _ _ _ _ (fun _ _ => .inl (by show j * 3 + 2 < o; omega))]; exact c2
/-- 'clear' of a list of points: its cells are set to 0. -/
theorem run_clear_pts {P : Program} (w : World) (t e ty : TypeId) (ht : P.underlying t = some (.slice e)) (hv : ∀ w, (zeroValue e).run P w = .ok (.agg #[.int .i64 0, .int .i64 0, .int .i64 0]) w) (b o n c : Nat) (hn : 0 < n)
    (hc : ∀ j, j < n * 3 → (w.cell? ⟨b, o + j, none⟩).isSome = true) (hf : ∀ j, j < n * 3 → w.frozen? ⟨b, o + j, none⟩ = false) :
    (Builtin.clear_ #[t] ty #[.slice (some ⟨b, o, none⟩) n c]).run P w = .ok (.tuple #[]) (w.setCells b o (List.replicate (n * 3) (.int .i64 0))) := by
  have hzc : (Builtin.zeroCells (Value.agg #[.int .i64 0, .int .i64 0, .int .i64 0]).cells n).toList = List.replicate (n * 3) (.int .i64 0) := by
    have hcl : (Value.agg #[.int .i64 0, .int .i64 0, .int .i64 0]).cells = #[.int .i64 0, .int .i64 0, .int .i64 0] := by rfl
    rw [hcl]
    simp only [Builtin.zeroCells]
    apply List.ext_getElem
    · simp
    · intro i h1 h2
      have : i % 3 = 0 ∨ i % 3 = 1 ∨ i % 3 = 2 := by omega
      rcases this with e | e | e <;> simp [e]
  have hst := run_storeCells_cells (P := P) b o (List.replicate (n * 3) (.int .i64 0)) 0 w (by simpa using hc) (by simpa using hf) (by intro v hv'; rw [List.eq_of_mem_replicate hv']; rfl)
  simp only [Nat.add_zero] at hst
  obtain ⟨m, rfl⟩ : ∃ m, n = m + 1 := ⟨n - 1, by omega⟩
  simp [Builtin.clear_, run_underlying ht, hv, hzc, hst]
/-- What has been moved down: the first i are those kept of the first j, from j on all is as it was. -/
structure Moved (f : Pt → Bool) (all : List Pt) (i j : Nat) (L : List Pt) : Prop where
  len : L.length = all.length
  lt : i < j
  head : L.take i = (all.take j).filter f
  rest : L.drop j = all.drop j
theorem Moved.at {f : Pt → Bool} {all L : List Pt} {i j : Nat} (h : Moved f all i j L) (hj : j < all.length) : L.getD j (0, 0, 0) = all.getD j (0, 0, 0) := by
  have h0 : (L.drop j)[0]? = (all.drop j)[0]? := by rw [h.rest]
  simp at h0
  simp [List.getD, h0]
theorem Moved.keep {f : Pt → Bool} {all L : List Pt} {i j : Nat} (h : Moved f all i j L) (hj : j < all.length) (hf : f (all.getD j (0, 0, 0)) = true) : Moved f all (i + 1) (j + 1) (L.set i (all.getD j (0, 0, 0))) where
  len := by rw [List.length_set]; exact h.len
  lt := by have := h.lt; omega
  head := by
    have hi : i < L.length := by have := h.lt; have := h.len; omega
    rw [take_snoc' _ (0, 0, 0) i (by simpa using hi), List.take_set_of_le (Nat.le_refl _), h.head, filter_snoc f all (0, 0, 0) j hj, if_pos hf]
    congr 1
    simp [List.getD, hi]
  rest := by
    rw [List.drop_set, if_pos (by have := h.lt; omega)]
    have := congrArg (List.drop 1) h.rest
    simpa [List.drop_drop] using this
theorem Moved.skip {f : Pt → Bool} {all L : List Pt} {i j : Nat} (h : Moved f all i j L) (hj : j < all.length) (hf : f (all.getD j (0, 0, 0)) = false) : Moved f all i (j + 1) L where
  len := h.len
  lt := by have := h.lt; omega
  head := by rw [h.head, filter_snoc f all (0, 0, 0) j hj, if_neg (by rw [hf]; decide), List.append_nil]
  rest := by
    have := congrArg (List.drop 1) h.rest
    simpa [List.drop_drop] using this
theorem Moved.start {f : Pt → Bool} {all : List Pt} {i : Nat} (hi : i < all.length) (h0 : ∀ a ∈ all.take i, f a = true) (hf : f (all.getD i (0, 0, 0)) = false) : Moved f all i (i + 1) all where
  len := rfl
  lt := by omega
  head := by rw [filter_snoc f all (0, 0, 0) i hi, if_neg (by rw [hf]; decide), List.append_nil, List.filter_eq_self.2 h0]
  rest := rfl
theorem Moved.done {f : Pt → Bool} {all L : List Pt} {i : Nat} (h : Moved f all i all.length L) : L.take i = all.filter f := by rw [h.head, List.take_length]
theorem Moved.cnt {f : Pt → Bool} {all L : List Pt} {i : Nat} (h : Moved f all i all.length L) : i = (all.filter f).length := by
  rw [← h.done, List.length_take, h.len]; have := h.lt; omega
/-- What IndexFunc tells. -/
theorem idxZ_cases (f : Pt → Bool) (l : List Pt) : (idxZ f l = -1 ∧ ∀ a ∈ l, f a = false) ∨ ∃ k, k < l.length ∧ idxZ f l = (k : Int) ∧ f (l.getD k (0, 0, 0)) = true ∧ ∀ a ∈ l.take k, f a = false := by
  unfold idxZ
  cases h : l.findIdx? f with
  | none => exact .inl ⟨rfl, fun a ha => by simpa using (List.findIdx?_eq_none_iff.1 h) a ha⟩
  | some k =>
    obtain ⟨hk, h1, h2⟩ := List.findIdx?_eq_some_iff_getElem.1 h
    refine .inr ⟨k, hk, rfl, by simpa [List.getD, hk] using h1, fun a ha => ?_⟩
    obtain ⟨j, hj, e⟩ := List.mem_take_iff_getElem.1 ha
    have := h2 j (by omega)
    rw [← e]; simpa using this
end Go.Proofs.Ythkbhaaodegocaa
/- Contracts: slices.DeleteFunc over points. -/
namespace Go.Proofs.Ythkbhaaodegocaa
open Go.RowKit
set_option linter.unusedVariables false
set_option linter.unusedSimpArgs false
theorem RoomP.alloc {W : World} {g cap : Nat} {T : TypeId} (h : RoomP W g cap T) (o : Obj) : RoomP (W.alloc o) g cap T := by
  have hl := h.lt
  obtain ⟨cur, h1, hs⟩ := h
  exact ⟨cur, by rw [heap_alloc_old]; exact h1; exact hl, hs⟩
/-- An owned list of points, again. -/
def OwnPost (b : Nat) (w : World) (l : List Pt) (e : Ending) (w' : World) : Prop :=
  ∃ v, e = .returned v ∧ w'.ownsRow b 23 3 v l.length (ptCs l) ∧ Below b w w'
set_option maxHeartbeats 2000000 in
theorem deleteFunc_any (c : Value) (f : Pt → Bool) (b g cap n : Nat) (l : List Pt) (w : World) (hl : l.length = n) (hn : n ≤ 1000000) (hbg : b ≤ g) (hbw : b ≤ w.heap.size)
    (hr : RoomP w g cap 23) (hnc : n ≤ cap) (hcm : cap ≤ maxLen) (hc : PtsAt w g 0 n l)
    (hF : ∀ (W : World) (x y z : Int), Below b w W → (x, y, z) ∈ l → Calls Try.prog 148 #[ptV x y z, c] W (Ret W (.bool (f (x, y, z))))) :
    Calls Try.prog 147 #[.slice (some ⟨g, 0, none⟩) n cap, .func (.func 148) #[] #[c]] w (OwnPost b w (l.filter (fun a => !f a))) := by
  have HI := Lib.hid (indexFunc_any c f g cap n l w hl hn hc (fun W x y z hW => hF W x y z (low_tr' (Below.refl b w) hW hbw)))
  rcases idxZ_cases f l with ⟨e, h0⟩ | ⟨k, hk, e, h1, h0⟩
  · rw [e] at HI
    have hfl : l.filter (fun a => !f a) = l := List.filter_eq_self.2 (fun a ha => by rw [h0 a ha]; rfl)
    have HE := Lib.hid hfl
    have HO := Lib.hid (own_of_pts hbg hr hcm hnc hl hc)
    have HL := Lib.hid hl
    clear hr hc hF h0 hfl hl e
    go_enter Try.func147, Try.ntmps147
    go_wp2_with (go_at_call 174; (with_reducible refine (HI.out).mono ?_); rintro e w1_ ⟨rfl, hb1⟩; obtain ⟨hcb1, hfb1, hlb1⟩ := bcell hb1; have hsz1 := hb1.size; (try simp at hsz1); have HB1 := Lib.hid hb1; clear hb1)
    go_ret
    refine ⟨_, rfl, ?_, low_tr' (Below.refl b w) HB1.out hbw⟩
    rw [HE.out, HL.out]; exact own_below HO.out HB1.out
  · rw [e] at HI
    have HM0 := Lib.hid (Moved.start (f := fun a => !f a) hk (fun a ha => by rw [h0 a ha]; rfl) (by rw [h1]; rfl))
    have hk' : k < n := by omega
    have HR0 := Lib.hid hr
    have HC0 := Lib.hid hc
    have HF := Lib.hid hF
    have HL := Lib.hid hl
    have hgl := hr.lt
    clear hr hc hF h0 hl e h1
    go_enter Try.func147, Try.ntmps147
    go_wp2_with (go_at_call 174; (with_reducible refine (HI.out).mono ?_); rintro e w1_ ⟨rfl, hb1⟩; obtain ⟨hcb1, hfb1, hlb1⟩ := bcell hb1; have hsz1 := hb1.size; (try simp at hsz1); have HB1 := Lib.hid hb1; clear hb1)
    go_loopw [5, 6] (fun i j wr => ∃ (ii jj : Nat) (L : List Pt), i = .int .i64 ii ∧ j = .int .i64 jj ∧ jj ≤ n ∧ Hid (Moved (fun a => !f a) l ii jj L) ∧ Hid (RoomP wr g cap 23) ∧ Hid (PtsAt wr g 0 n L) ∧ Hid (Below b w wr)) (fun _ j wr => n - (intOf j).toNat)
    case atStart => exact ⟨k, k + 1, l, rfl, by go_num, by omega, HM0, Lib.hid (HR0.out.below HB1.out), Lib.hid (HC0.out.below HB1.out), Lib.hid (low_tr' (Below.refl b w) HB1.out hbw)⟩
    case round =>
      obtain ⟨ii, jj, L, rfl, rfl, hjn, HM, HR, HC, HB⟩ := hrel
      have hlt' := HM.out.lt
      by_cases hlt : jj < n
      · have hjl : jj < l.length := by have := HL.out; omega
        have hbwr : b ≤ wr.heap.size := Nat.le_trans hbw HB.out.size
        obtain ⟨c0, c1, c2⟩ := HC.out jj hlt
        rw [HM.out.at hjl] at c0 c1 c2
        have HK := Lib.hid (HM.out.keep hjl)
        have HS := Lib.hid (HM.out.skip hjl)
        have hmem : l.getD jj (0, 0, 0) ∈ l := by simp [List.getD, hjl]
        generalize l.getD jj (0,0,0) = a at *
        obtain ⟨x, y, z⟩ := a
        simp only [Nat.zero_add] at c0 c1 c2
        have HQ := Lib.hid (fun (W : World) hW => HF.out W x y z hW hmem)
        have hgr := HR.out.lt
        have hii : ii < n := by omega
        clear hmem
        cases hv : f (x, y, z) with
        | true =>
          have HS2 := Lib.hid (HS.out (by rw [hv]; rfl))
          rw [hv] at HQ
          clear HK HS hv
          go_wp2_with (go_at_call 148; (with_reducible refine (HQ.out _ (below_al HB.out hbwr _)).mono ?_); rintro e w2_ ⟨rfl, hb2⟩; obtain ⟨hcb2, hfb2, hlb2⟩ := bcell hb2; have hsz2 := hb2.size; (try simp at hsz2); have HB2 := Lib.hid hb2; clear hb2; (try (have hl02 : w.heap.size < w2_.heap.size := by omega)))
          go_roundw
          case rel => refine ⟨_, _, _, _, _, _, _, _, _, _, _, _, _, _, _, _, _, _, _, _, _, _, _, ⟨ii, jj + 1, L, rfl, by go_num, by omega, HS2, Lib.hid ((HR.out.alloc _).below HB2.out), Lib.hid ((HC.out.below (bal (Below.refl _ _) _)).below HB2.out), Lib.hid (low_tr' (below_al HB.out hbwr _) HB2.out (by simp; omega))⟩, rfl⟩
          case measure => simp [intOf]; omega
        | false =>
          have HK2 := Lib.hid (HK.out (by rw [hv]; rfl))
          rw [hv] at HQ
          clear HK HS hv
          obtain ⟨u0, s0⟩ := Option.isSome_iff_exists.1 (HR.out.some (ii * 3) (by omega))
          have r0 := HR.out.frozen (ii * 3)
          obtain ⟨u1, s1⟩ := Option.isSome_iff_exists.1 (HR.out.some (ii * 3 + 1) (by omega))
          have r1 := HR.out.frozen (ii * 3 + 1)
          obtain ⟨u2, s2⟩ := Option.isSome_iff_exists.1 (HR.out.some (ii * 3 + 2) (by omega))
          have r2 := HR.out.frozen (ii * 3 + 2)
          go_wp2_with (go_at_call 148; (with_reducible refine (HQ.out _ (below_al HB.out hbwr _)).mono ?_); rintro e w2_ ⟨rfl, hb2⟩; obtain ⟨hcb2, hfb2, hlb2⟩ := bcell hb2; have hsz2 := hb2.size; (try simp at hsz2); have HB2 := Lib.hid hb2; clear hb2; (try (have hl02 : w.heap.size < w2_.heap.size := by omega)))
          have HR2 := (HR.out.alloc (.cells #[.int .i64 x, .int .i64 y, .int .i64 z] 23)).below HB2.out
          have HC2 := (HC.out.below (bal (Below.refl _ _) (.cells #[.int .i64 x, .int .i64 y, .int .i64 z] 23))).below HB2.out
          have HBB := low_tr' (below_al HB.out hbwr (.cells #[.int .i64 x, .int .i64 y, .int .i64 z] 23)) HB2.out (by simp; omega)
          have HLL := HM.out.len.trans HL.out
          go_roundw
          case rel => refine ⟨_, _, _, _, _, _, _, _, _, _, _, _, _, _, _, _, _, _, _, _, _, _, _, ⟨ii + 1, jj + 1, L.set ii (x, y, z), by go_num, by go_num, by omega, HK2, Lib.hid (((HR2.set _ _).set _ _).set _ _), Lib.hid (pts_set HR2 hnc HC2 HLL ii hii x y z), Lib.hid (((HBB.setCell hbg _).setCell hbg _).setCell hbg _)⟩, rfl⟩
          case measure => simp [intOf]; omega
      · have hjn' : jj = n := by omega
        subst hjn'
        have hcl : ∀ ty, (Builtin.clear_ #[52] ty #[.slice (some ⟨g, ii * 3, none⟩) (jj - ii) (cap - ii)]).run Try.prog wr = .ok (.tuple #[]) (wr.setCells g (ii * 3) (List.replicate ((jj - ii) * 3) (.int .i64 0))) :=
          fun ty => run_clear_pts wr _ _ ty Try.underlying52 Try.zeroValue23 g (ii * 3) _ _ (by omega) (fun j hj => HR.out.some _ (by omega)) (fun j hj => HR.out.frozen _)
        have hii : ii < jj := hlt'
        have hjc : jj ≤ cap := hnc
        go_wp2
        go_ret
        have hE := HM.out
        have hcnt := (show Moved (fun a => !f a) l ii l.length L by rw [HL.out]; exact HM.out)
        refine ⟨_, rfl, ?_, below_setCells g hbg _ _ _ HB.out⟩
        rw [← hcnt.cnt, ← hcnt.done]
        exact own_of_pts hbg (HR.out.sets _ _) hcm (by omega) (by rw [List.length_take]; have := hE.len; have := HL.out; omega) (pts_ahead HC.out (by omega) (hE.len.trans HL.out) _ (Nat.le_refl _))
end Go.Proofs.Ythkbhaaodegocaa
/- Plain words: sets of numbers modulo n; difference sets. -/
namespace Go.Proofs.Ythkbhaaodegocaa
set_option linter.unusedVariables false
set_option linter.unusedSimpArgs false
/-- The i-th number is a rest and greater than the one ahead. -/
def okI (n : Int) (l : List Int) (i : Nat) : Bool := decide (0 ≤ l.getD i 0 ∧ l.getD i 0 ≤ n - 1) && (i == 0 || decide (l.getD (i - 1) 0 < l.getD i 0))
def okB (n : Int) (l : List Int) : Bool := (List.range l.length).all (okI n l)
/-- A set of numbers modulo n. -/
def setB (n : Int) (l : List Int) : Bool := decide (2 ≤ n ∧ n ≤ 1000) && (decide (l.length ≤ 60) && okB n l)
theorem okB_all {n : Int} {l : List Int} (h : ∀ i, i < l.length → okI n l i = true) : okB n l = true := List.all_eq_true.2 fun i hi => h i (List.mem_range.1 hi)
theorem okB_bad {n : Int} {l : List Int} {i : Nat} (hi : i < l.length) (h : okI n l i = false) : okB n l = false := by
  cases e : okB n l with
  | false => rfl
  | true => have := List.all_eq_true.1 e i (List.mem_range.2 hi); rw [h] at this; cases this
theorem okB_at {n : Int} {l : List Int} (h : okB n l = true) {i : Nat} (hi : i < l.length) : 0 ≤ l.getD i 0 ∧ l.getD i 0 ≤ n - 1 := by
  have := List.all_eq_true.1 h i (List.mem_range.2 hi)
  unfold okI at this
  simp only [Bool.and_eq_true, decide_eq_true_eq] at this
  exact this.1
theorem setB_yes {n : Int} {l : List Int} (h : setB n l = true) : (2 ≤ n ∧ n ≤ 1000) ∧ l.length ≤ 60 ∧ okB n l = true := by
  unfold setB at h
  simpa using h
/-- One more at a place. -/
def bump (c : List Int) (i : Nat) : List Int := c.set i (c.getD i 0 + 1)
def dif (n : Int) (l : List Int) (i k : Nat) : Nat := ((l.getD i 0 - l.getD k 0) % n).toNat
def rowC (n : Int) (l : List Int) (i : Nat) (c : List Int) (k : Nat) : List Int := (List.range k).foldl (fun c k => bump c (dif n l i k)) c
def cntC (n : Int) (l : List Int) (i : Nat) : List Int := (List.range i).foldl (fun c i => rowC n l i c l.length) (List.replicate n.toNat 0)
theorem rowC_zero (n : Int) (l : List Int) (i : Nat) (c : List Int) : rowC n l i c 0 = c := rfl
theorem rowC_succ (n : Int) (l : List Int) (i : Nat) (c : List Int) (k : Nat) : rowC n l i c (k + 1) = bump (rowC n l i c k) (dif n l i k) := by
  unfold rowC; rw [List.range_succ, List.foldl_append]; rfl
theorem cntC_succ (n : Int) (l : List Int) (i : Nat) : cntC n l (i + 1) = rowC n l i (cntC n l i) l.length := by
  unfold cntC; rw [List.range_succ, List.foldl_append]; rfl
theorem bump_length (c : List Int) (i : Nat) : (bump c i).length = c.length := by simp [bump]
theorem rowC_length (n : Int) (l : List Int) (i : Nat) (c : List Int) (k : Nat) : (rowC n l i c k).length = c.length := by
  induction k with
  | zero => rfl
  | succ k ih => rw [rowC_succ, bump_length, ih]
theorem cntC_length (n : Int) (l : List Int) (i : Nat) : (cntC n l i).length = n.toNat := by
  induction i with
  | zero => simp [cntC]
  | succ i ih => rw [cntC_succ, rowC_length, ih]
def within0 (c : List Int) (B : Int) : Prop := ∀ j, 0 ≤ c.getD j 0 ∧ c.getD j 0 ≤ B
theorem bump_bd {c : List Int} {B : Int} (h : within0 c B) (i : Nat) : within0 (bump c i) (B + 1) := by
  intro j
  have hj := h j
  have hi := h i
  unfold bump
  by_cases e : i = j
  · subst e
    by_cases hl : i < c.length
    · simp [List.getD, hl] at hj ⊢; omega
    · simp [List.getD, Nat.le_of_not_lt hl] at hj ⊢; omega
  · simp only [List.getD, List.getElem?_set_ne e] at hj ⊢
    omega
theorem rowC_bd {n : Int} {l : List Int} {i : Nat} {c : List Int} {B : Int} (h : within0 c B) (k : Nat) : within0 (rowC n l i c k) (B + k) := by
  induction k with
  | zero => simpa [rowC_zero] using h
  | succ k ih => rw [rowC_succ]; have := bump_bd ih (dif n l i k); rw [show B + ((k + 1 : Nat) : Int) = B + k + 1 by omega]; exact this
theorem cntC_bd {n : Int} {l : List Int} (hl : l.length ≤ 60) (i : Nat) : within0 (cntC n l i) (60 * i) := by
  induction i with
  | zero =>
    intro j
    by_cases hj : j < n.toNat
    · simp [cntC, List.getD, hj]
    · have e : (List.replicate n.toNat (0 : Int))[j]? = none := List.getElem?_eq_none (by simp; omega)
      simp [cntC, List.getD, e]
  | succ i ih =>
    rw [cntC_succ]
    intro j
    have := rowC_bd (n := n) (l := l) (i := i) ih l.length j
    omega
/-- Whether each difference but 0 comes up once. -/
def onesB (c : List Int) : Bool := (List.range (c.length - 1)).all (fun d => c.getD (d + 1) 0 == 1)
theorem onesB_all {c : List Int} (h : ∀ d, d < c.length - 1 → (c.getD (d + 1) 0 == 1) = true) : onesB c = true := List.all_eq_true.2 fun d hd => h d (List.mem_range.1 hd)
theorem onesB_bad {c : List Int} {d : Nat} (hd : d < c.length - 1) (h : (c.getD (d + 1) 0 == 1) = false) : onesB c = false := by
  cases e : onesB c with
  | false => rfl
  | true => have := List.all_eq_true.1 e d (List.mem_range.2 hd); rw [h] at this; cases this
/-- What both programs answer. -/
def diffR (n : Int) (l : List Int) : Bool × Int := if setB n l = true then (onesB (cntC n l l.length), 0) else (false, 2)
end Go.Proofs.Ythkbhaaodegocaa
/- Contracts: the laws' own helpers on slices. -/
namespace Go.Proofs.Ythkbhaaodegocaa
open Go.RowKit
set_option linter.unusedVariables false
set_option linter.unusedSimpArgs false
/-- How much room the laws leave behind a list of n. -/
def roomN (n : Nat) : Nat := if n % 6 = 5 then 0 else if n % 3 = 0 then 1 else n
theorem roomBehind_any (n : Nat) (w : World) (hn : n ≤ 1000000) :
    Calls Try.prog 63 #[.int .i64 (n : Int)] w fun e w' => e = .returned (.int .i64 (roomN n : Int)) ∧ w = w' := by
  by_cases h6 : n % 6 = 5
  · have HR : Hid (roomN n = 0) := Lib.hid (by unfold roomN; rw [if_pos h6])
    go_enter Try.func63, Try.ntmps63
    go_wp2
    go_ret
    exact ⟨by first | rfl | (rw [HR.out]; rfl), rfl⟩
  · by_cases h3 : n % 3 = 0
    · have HR : Hid (roomN n = 1) := Lib.hid (by unfold roomN; rw [if_neg h6, if_pos h3])
      go_enter Try.func63, Try.ntmps63
      go_wp2
      go_ret
      exact ⟨by first | rfl | (rw [HR.out]; rfl), rfl⟩
    · have HR : Hid (roomN n = n) := Lib.hid (by unfold roomN; rw [if_neg h6, if_neg h3])
      go_enter Try.func63, Try.ntmps63
      go_wp2
      go_ret
      exact ⟨by first | rfl | (rw [HR.out]; rfl), rfl⟩
theorem szPointS_any (b : Option Addr) (n cap : Nat) (left : Int) (w : World) (hl : left ≤ 1000000 ∧ 0 ≤ left) (hn : n ≤ 9223372036854775807) :
    Calls Try.prog 44 #[.slice b n cap, .int .i64 left] w fun e w' => e = .returned (.int .i64 (if left < n then -1 else left - n)) ∧ w = w' := by
  by_cases h : left < n
  · have HR : Hid ((if left < (n : Int) then (-1 : Int) else left - n) = -1) := Lib.hid (if_pos h)
    go_enter Try.func44, Try.ntmps44
    go_wp2
    go_ret
    exact ⟨by first | rfl | (rw [HR.out]; rfl), rfl⟩
  · have HR : Hid ((if left < (n : Int) then (-1 : Int) else left - n) = left - n) := Lib.hid (if_neg h)
    go_enter Try.func44, Try.ntmps44
    go_wp2
    go_ret
    exact ⟨by first | rfl | (rw [HR.out]; rfl), rfl⟩
end Go.Proofs.Ythkbhaaodegocaa
