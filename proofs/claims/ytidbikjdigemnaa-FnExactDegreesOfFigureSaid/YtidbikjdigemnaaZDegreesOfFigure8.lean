/- Texts of the claim, in build order: Y2, Y3, G3. No condition. -/
import Derived.Test.YtidbikjdigemnaaZDegreesOfFigure7
/- Contracts: the program's DualFigure. (Printed by geny2.py, a program of this session.) -/
namespace Go.Proofs.Ytidbikjdigemnaa
open Go.RowKit
set_option linter.unusedVariables false
set_option linter.unusedSimpArgs false
theorem results_rowF {P : Program} {fn : Func} {tmps : Array Value} {t s : Tmp} {W : World} {g : Nat} {T : TypeId} {cs : Array Value} {fr : Nat × Nat} {ty : TypeId} {x : Value} (h : fn.results = #[.cell t ty, .tmp s]) (ht : tmps.getD t undef = .pointer (some ⟨g, 0, none⟩)) (hx : tmps.getD s undef = x)
    (hg : W.heap[g]? = some (.cells cs T fr)) (n : Nat) (hn : cs.size = n) (hs : ∀ W, (sizeOf ty).run P W = .ok n W) (ha : ∀ W, (isAgg ty).run P W = .ok true W) : (results fn tmps).run P W = .ok (.tuple #[.agg cs, x]) W := by
  have hv := run_loadRow (P := P) ty hg n hn hs ha
  have ht' : tmps[t]?.getD undef = .pointer (some ⟨g, 0, none⟩) := by rw [← Array.getD_eq_getD_getElem?]; exact ht
  have hx' : tmps[s]?.getD undef = x := by rw [← Array.getD_eq_getD_getElem?]; exact hx
  have hp : ∀ a : Addr, asAddr (.pointer (some a)) = pure a := fun _ => rfl
  simp [results, h, ht', hx', hp, Sem.run_bind, Sem.run_pure, hv]
theorem own_neT {W : World} {base : Nat} {T T' : TypeId} {size : Nat} {v : Value} {n g : Nat} {xs : List Value} {cs : Array Value} (h : W.ownsRow base T size v n xs) (hg : W.heap[g]? = some (.cells cs T' (0, 0))) (hT : T ≠ T') : v.ownBlock ≠ some g := by
  intro e
  rcases h.2 with ⟨rfl, _⟩ | ⟨g', cap, cur, rfl, hb, hg', _⟩
  · simp [Value.ownBlock] at e
  · have e2 : g' = g := by simpa [Value.ownBlock] using e
    subst e2
    rw [hg] at hg'
    cases hg'
    exact hT rfl
theorem own_neO {W : World} {base base' : Nat} {T T' : TypeId} {size size' : Nat} {v v' : Value} {n n' : Nat} {xs xs' : List Value} (h : W.ownsRow base T size v n xs) (h' : W.ownsRow base' T' size' v' n' xs') (hT : T ≠ T') (b : Nat) (hb : v.ownBlock = some b) : some b ≠ v'.ownBlock := by
  intro e
  rcases h'.2 with ⟨rfl, _⟩ | ⟨g', cap, cur, rfl, _, hg', _⟩
  · simp [Value.ownBlock] at e
  · have e2 : b = g' := by simpa [Value.ownBlock] using e
    subst e2
    exact own_neT h hg' hT hb
theorem own_same {W W' : World} {base : Nat} {e : TypeId} {size n : Nat} {v : Value} {xs : List Value} (h : W.ownsRow base e size v n xs) (hb : ∀ b, v.ownBlock = some b → W'.heap[b]? = W.heap[b]?) : W'.ownsRow base e size v n xs := by
  refine ⟨h.1, ?_⟩
  rcases h.2 with h0 | ⟨g, cap, cur, rfl, hb0, hg, hr⟩
  · exact .inl h0
  · exact .inr ⟨g, cap, cur, rfl, hb0, (hb g (by simp [Value.ownBlock])).trans hg, hr⟩
theorem own_lt {w : World} {base : Nat} {e : TypeId} {size n : Nat} {v : Value} {xs : List Value} (h : w.ownsRow base e size v n xs) (k : Nat) (hk : v.ownBlock = some k) : k < w.heap.size := by
  rcases h.2 with ⟨rfl, _⟩ | ⟨g, cap, cur, rfl, hb, hg, _⟩
  · simp [Value.ownBlock] at hk
  · have : g = k := by simpa [Value.ownBlock] using hk
    rw [← this]
    exact (Array.getElem?_eq_some_iff.1 hg).1
theorem own_form {w : World} {base : Nat} {e : TypeId} {size n : Nat} {v : Value} {xs : List Value} (h : w.ownsRow base e size v n xs) : ∃ b c, v = .slice b n c := by
  rcases h.2 with ⟨rfl, rfl⟩ | ⟨g, cap, cur, rfl, _⟩
  · exact ⟨_, _, rfl⟩
  · exact ⟨_, _, rfl⟩
theorem newPs (wr : World) (q : Nat) (hq : wr.heap.size = q) (x y z : Value) (T : TypeId) : ∀ (j : Nat) (u : Value), [x, y, z][j]? = some u → (wr.alloc (.cells #[x, y, z] T)).cell? ((⟨q, 0, none⟩ : Addr).add j) = some u := by
  subst hq
  exact newP wr x y z T
theorem infoLn : (Try.prog.info? 50).map (fun i => (i.zero, i.size, i.bytes)) = some (some (.agg #[.int .i64 0, .int .i64 0, .int .i64 0]), 3, 24) := by kernel_rfl
theorem take_ptC (l : List Pt) (k : Nat) (h : k < l.length) : ptCs (l.take (k + 1)) = ptCs (l.take k) ++ ptC (l.getD k (0, 0, 0)) := by
  rw [take_snoc' l (0, 0, 0) k h, ptCs_snoc]
theorem row_set0 {W : World} {g : Nat} {a b v : Value} {T : TypeId} (h : W.heap[g]? = some (.cells #[a, b] T (0, 0))) : (W.setCell ⟨g, 0, none⟩ v).heap[g]? = some (.cells #[v, b] T (0, 0)) := by
  have hlt := (Array.getElem?_eq_some_iff.1 h).1
  simp [World.setCell, Array.getElem?_modify, h]
theorem row_set1 {W : World} {g : Nat} {a b v : Value} {T : TypeId} (h : W.heap[g]? = some (.cells #[a, b] T (0, 0))) : (W.setCell ⟨g, 1, none⟩ v).heap[g]? = some (.cells #[a, v] T (0, 0)) := by
  simp [World.setCell, Array.getElem?_modify, h]
/-- Two new lists: the lines as points, the points as lines. -/
structure DualPost (w : World) (n1 n2 : Nat) (l1 l2 : List Pt) (e : Ending) (w' : World) : Prop where
  out : ∃ v1 v2, e = .returned (.tuple #[.agg #[v1, v2], .int .i64 0]) ∧ w'.ownsRow w.heap.size 49 3 v1 n2 (ptCs l2) ∧ w'.ownsRow w.heap.size 50 3 v2 n1 (ptCs l1) ∧ Below w.heap.size w w'
set_option maxRecDepth 20000 in
theorem DualFigure_impl_code (p : Int) (b1 : Option Addr) (n1 c1 : Nat) (b2 : Option Addr) (n2 c2 : Nat) (l1 l2 : List Pt) (w : World) (hn1 : n1 ≤ 1000000) (hn2 : n2 ≤ 1000000) (h1 : ListP w b1 n1 l1) (h2 : ListP w b2 n2 l2) (k : Int) (hk : figC p n1 n2 l1 l2 = k) (h0 : k ≠ 0) :
    Calls Try.prog 9 #[.int .i64 p, figV b1 n1 c1 b2 n2 c2] w (Ret w (.tuple #[.agg #[.slice none 0 0, .slice none 0 0], .int .i64 k])) := by
  have HC := Lib.hid (fun (W : World) (hW : Below w.heap.size w W) => figureCode_any p b1 n1 c1 b2 n2 c2 l1 l2 W hn1 hn2 (h1.below hW) (h2.below hW))
  rw [hk] at HC
  have hq : (k != 0) = true := bnet h0
  clear h1 h2 hk
  go_enter Try.func9, Try.ntmps9
  go_wp2_with (first
    | (go_at_call 29; (with_reducible refine (HC.out _ (by repeat (first | exact Below.refl _ _ | refine bset ?_ _ _ (by omega) _ | refine bal ?_ _ | refine bdrN ?_ _ | refine bdr ?_))).mono ?_); rintro e w1_ ⟨rfl, hb1⟩; obtain ⟨hcb1, hfb1, hlb1⟩ := bcell hb1; have hsz1 := hb1.size; (try simp at hsz1); have HB1 := Lib.hid hb1; clear hb1; (try (have hl01 : w.heap.size < w1_.heap.size := by omega)); (try (have hl11 : w.heap.size + 1 < w1_.heap.size := by omega)))
    | (refine wpList_build _ rfl 29 _ rfl #[.slice none 0 0, .slice none 0 0] (by kernel_rfl) ?_)
    | (refine wpList_store_row _ rfl 29 _ _ rfl rfl (g := w.heap.size + 1) (T := 29) (cs := #[.slice none 0 0, .slice none 0 0]) (U := #[.slice none 0 0, .slice none 0 0]) rfl rfl (by rw [HB1.out.block _ (by simp), hn_atN _ _ _ (by simp)]) rfl Try.sizeOf29 (by simp [Value.oneCell']) ?_))
  exact bodyPost_ret (v := .tuple #[.agg #[.slice none 0 0, .slice none 0 0], .int .i64 k]) (results_rowF Try.results9 rfl rfl (setRow_heap _ _ #[.slice none 0 0, .slice none 0 0] _ _ _ (by rw [HB1.out.block _ (by simp), hn_atN _ _ _ (by simp)])) 2 rfl Try.sizeOf29 Try.isAgg29) rfl ⟨rfl, below_setRowN (by repeat (first | exact Below.refl _ _ | refine bset ?_ _ _ (by omega) _ | refine bal ?_ _ | refine bdrN ?_ _ | refine bdr ?_ | refine below_tr' ?_ HB1.out)) (by omega) _⟩
set_option maxRecDepth 20000 in
set_option maxHeartbeats 8000000 in
theorem DualFigure_impl_good (p : Int) (b1 : Option Addr) (n1 c1 : Nat) (b2 : Option Addr) (n2 c2 : Nat) (l1 l2 : List Pt) (w : World) (hn1 : n1 ≤ 1000000) (hn2 : n2 ≤ 1000000) (h1 : ListP w b1 n1 l1) (h2 : ListP w b2 n2 l2) (hk : figC p n1 n2 l1 l2 = 0) :
    Calls Try.prog 9 #[.int .i64 p, figV b1 n1 c1 b2 n2 c2] w (DualPost w n1 n2 l1 l2) := by
  obtain ⟨_, m1, m2⟩ := figC_zero hk
  have HC := Lib.hid (fun (W : World) (hW : Below w.heap.size w W) => figureCode_any p b1 n1 c1 b2 n2 c2 l1 l2 W hn1 hn2 (h1.below hW) (h2.below hW))
  rw [hk] at HC
  have HL1 := Lib.hid h1
  have HL2 := Lib.hid h2
  obtain ⟨i0, hi, hz0, hz1, hz2⟩ := info_parts infoPo
  have HI0 := Lib.hid hi; have HZ0 := Lib.hid hz0; have HZ1 := Lib.hid hz1; have HZ2 := Lib.hid hz2
  obtain ⟨j0, hj, hy0, hy1, hy2⟩ := info_parts infoLn
  have HJ0 := Lib.hid hj; have HY0 := Lib.hid hy0; have HY1 := Lib.hid hy1; have HY2 := Lib.hid hy2
  have hl1 := h1.1
  have hl2 := h2.1
  clear h1 h2 hk hn1 hn2 hi hz0 hz1 hz2 hj hy0 hy1 hy2
  go_enter Try.func9, Try.ntmps9
  go_wp2_with (first
    | (go_at_call 29; (with_reducible refine (HC.out _ (by repeat (first | exact Below.refl _ _ | refine bset ?_ _ _ (by omega) _ | refine bal ?_ _ | refine bdrN ?_ _ | refine bdr ?_))).mono ?_); rintro e w1_ ⟨rfl, hb1⟩; obtain ⟨hcb1, hfb1, hlb1⟩ := bcell hb1; have hsz1 := hb1.size; (try simp at hsz1); have HB1 := Lib.hid hb1; clear hb1; (try (have hl01 : w.heap.size < w1_.heap.size := by omega)); (try (have hl11 : w.heap.size + 1 < w1_.heap.size := by omega)))
    | (refine wpList_build _ rfl 29 _ rfl #[.slice none 0 0, .slice none 0 0] (by kernel_rfl) ?_)
    | (refine wpList_store_row _ rfl 29 _ _ rfl rfl (U := #[.slice none 0 0, .slice none 0 0]) rfl rfl (heap_alloc_new _ _) rfl Try.sizeOf29 (by simp [Value.oneCell']) ?_; rw [alloc_setRow]))
  have kf : (w1_.alloc (.cells #[.slice none 0 0, .slice none 0 0] 29)).heap[w.heap.size]? = some (.cells #[.slice b1 n1 c1, .slice b2 n2 c2] 29 (0, 0)) := by rw [hn_pastN _ _ _ (by first | omega | (simp; done) | (simp; omega)), HB1.out.block _ (by first | omega | (simp; done) | (simp; omega)), hn_pastN _ _ _ (by first | omega | (simp; done) | (simp; omega)), hn_atN _ _ _ rfl]
  have kr : (w1_.alloc (.cells #[.slice none 0 0, .slice none 0 0] 29)).heap[w.heap.size + 1]? = some (.cells #[.slice none 0 0, .slice none 0 0] 29 (0, 0)) := by rw [hn_pastN _ _ _ (by first | omega | (simp; done) | (simp; omega)), HB1.out.block _ (by first | omega | (simp; done) | (simp; omega)), hn_atN _ _ _ (by simp)]
  have k7 : (w1_.alloc (.cells #[.slice none 0 0, .slice none 0 0] 29)).heap[w1_.heap.size]? = some (.cells #[.slice none 0 0, .slice none 0 0] 29 (0, 0)) := by rw [hn_atN _ _ _ (by simp)]
  have hb0 : Below w.heap.size w (w1_.alloc (.cells #[.slice none 0 0, .slice none 0 0] 29)) := (by repeat (first | exact Below.refl _ _ | refine bset ?_ _ _ (by omega) _ | refine bal ?_ _ | refine bdrN ?_ _ | refine bdr ?_ | refine below_tr' ?_ HB1.out))
  have hs1 := HB1.out.size
  try simp at hs1
  have o1 : (w1_.alloc (.cells #[.slice none 0 0, .slice none 0 0] 29)).ownsRow w1_.heap.size 49 3 (.slice none 0 0) 0 (ptCs []) := ⟨rfl, .inl ⟨rfl, rfl⟩⟩
  have o2 : (w1_.alloc (.cells #[.slice none 0 0, .slice none 0 0] 29)).ownsRow w1_.heap.size 50 3 (.slice none 0 0) 0 (ptCs []) := ⟨rfl, .inl ⟨rfl, rfl⟩⟩
  have KF0 := Lib.hid kf
  have KR0 := Lib.hid kr
  have K70 := Lib.hid k7
  have HBB0 := Lib.hid hb0
  have O10 := Lib.hid o1
  have O20 := Lib.hid o2
  clear kf kr k7 hb0 o1 o2
  have hsV : w1_.heap.size ≤ (w1_.alloc (.cells #[.slice none 0 0, .slice none 0 0] 29)).heap.size := by simp
  generalize (w1_.alloc (.cells #[.slice none 0 0, .slice none 0 0] 29)) = V0 at *
  have hg7l : w1_.heap.size ≤ w1_.heap.size := Nat.le_refl _
  clear hcb1 hfb1 hlb1 HB1 HC
  go_loopw [23] (fun i wr => ∃ (k : Nat) (v : Value), k ≤ n2 ∧ i = .int .i64 k ∧ Hid (wr.ownsRow w1_.heap.size 49 3 v k (ptCs (l2.take k))) ∧ Hid (wr.ownsRow w1_.heap.size 50 3 (.slice none 0 0) 0 (ptCs [])) ∧ Hid (wr.heap[w1_.heap.size]? = some (.cells #[v, .slice none 0 0] 29 (0, 0))) ∧ Hid (wr.heap[w.heap.size]? = some (.cells #[.slice b1 n1 c1, .slice b2 n2 c2] 29 (0, 0))) ∧ Hid (wr.heap[w.heap.size + 1]? = some (.cells #[.slice none 0 0, .slice none 0 0] 29 (0, 0))) ∧ Hid (Below w.heap.size w wr)) (fun i wr => n2 - (intOf i).toNat)
  case atStart => exact ⟨0, .slice none 0 0, Nat.zero_le _, rfl, O10, O20, K70, KF0, KR0, HBB0⟩
  case round =>
    clear O10 O20 K70 KF0 KR0 HBB0
    obtain ⟨k, v, hk, rfl, HO, OTH, K7, KF, KR, HB⟩ := hrel
    have l7 := (Array.getElem?_eq_some_iff.1 K7.out).1
    have lf := (Array.getElem?_eq_some_iff.1 KF.out).1
    have lr := (Array.getElem?_eq_some_iff.1 KR.out).1
    have xf0 : wr.cell? ⟨w.heap.size, 0, none⟩ = some (.slice b1 n1 c1) := rowV KF.out rfl
    have xf1 : wr.cell? ⟨w.heap.size, 1, none⟩ = some (.slice b2 n2 c2) := rowV KF.out rfl
    have x7 : wr.cell? ⟨w1_.heap.size, 0, none⟩ = some v := rowV K7.out rfl
    have f7 := frozen_of_row wr (w1_.heap.size) 0 _ _ K7.out
    by_cases hlt : k < n2
    · have hk2 : k < l2.length := by omega
      have HT := Lib.hid (take_ptC l2 k hk2)
      obtain ⟨gl, ol, rfl, hp⟩ := HL2.out.2 (by omega)
      obtain ⟨d0, d1, d2⟩ := (hp.below HB.out) k hlt
      clear hp
      generalize l2.getD k (0, 0, 0) = a at *
      obtain ⟨x, y, z⟩ := a
      have hnb := own_base' HO.out
      have hsz := HB.out.size
      have hBs : w1_.heap.size ≤ wr.heap.size := by omega
      go_wp2_with (first
        | (refine wpList_store_row _ rfl 50 _ _ rfl rfl (U := #[.int .i64 x, .int .i64 y, .int .i64 z]) rfl rfl (heap_alloc_new _ _) rfl Try.sizeOf50 (by simp [Value.oneCell']) ?_; rw [alloc_setRow])
        | (refine wpList_load_row _ rfl 50 _ rfl (g := wr.heap.size) (T := 50) (cs := #[.int .i64 x, .int .i64 y, .int .i64 z]) (fr := (0, 0)) rfl (by rw [hn_atN _ _ _ rfl]) 3 rfl Try.sizeOf50 Try.isAgg50 ?_)
        | (at_builtin; go_loud (refine wpList_append_own _ rfl _ _ 26 rfl w1_.heap.size 49 i0 (.agg #[.int .i64 0, .int .i64 0, .int .i64 0]) 3 24 Try.underlying26 HI0.out HZ0.out HZ1.out HZ2.out rfl (by decide) _ _ _ rfl ((HO.out.alloc _).alloc _) ⟨wr.heap.size + 1, 0, none⟩ 1 1 [.int .i64 x, .int .i64 y, .int .i64 z] rfl rfl (newPs _ _ (by simp) _ _ _ _) (oneP _ _ _) (by unfold maxLen; omega) (by omega) (by first | omega | (simp; done) | (simp; omega)) ?_; intro v2 w2 hown hgrow _; obtain ⟨bq, cq, hq⟩ := own_form hown; subst hq; have HO2 := Lib.hid hown; have HG := Lib.hid hgrow; clear hown hgrow; have K72 := Lib.hid (show w2.heap[w1_.heap.size]? = some (.cells #[v, .slice none 0 0] 29 (0, 0)) by exact (by rw [HG.out.block (w1_.heap.size) (by first | omega | (simp; done) | (simp; omega)) (fun e => own_neT HO.out K7.out (by decide) e.symm), hn_pastN _ _ _ (by first | omega | (simp; done) | (simp; omega)), hn_pastN _ _ _ l7]; exact K7.out)); have x72 : w2.cell? ⟨w1_.heap.size, 0, none⟩ = some v := rowV K72.out rfl; have f72 := frozen_of_row w2 (w1_.heap.size) 0 _ _ K72.out)))
      have hsg : Below w.heap.size w w2 := (bal (bal HB.out (.cells #[.int .i64 x, .int .i64 y, .int .i64 z] 50)) (.cells #[.int .i64 x, .int .i64 y, .int .i64 z] 49)).grown HG.out (by first | omega | (simp; done) | (simp; omega) | exact Nat.le_trans (by omega) hBw) (fun k' hk' => by have := hnb k' hk'; omega)
      have OT2 := Lib.hid (own_same (W' := w2) OTH.out (fun b hb => (by rw [HG.out.block b (by have := own_lt OTH.out b hb; first | omega | (simp; done) | (simp; omega)) (own_neO OTH.out HO.out (by decide) b hb), hn_pastN _ _ _ (by have := own_lt OTH.out b hb; first | omega | (simp; done) | (simp; omega)), hn_pastN _ _ _ (own_lt OTH.out b hb)])))
      have KF2 := Lib.hid (show w2.heap[w.heap.size]? = some (.cells #[.slice b1 n1 c1, .slice (some ⟨gl, ol, none⟩) n2 c2] 29 (0, 0)) from (by rw [HG.out.block (w.heap.size) (by first | omega | (simp; done) | (simp; omega)) (fun e => by have := hnb _ e.symm; omega), hn_pastN _ _ _ (by first | omega | (simp; done) | (simp; omega)), hn_pastN _ _ _ lf]; exact KF.out))
      have KR2 := Lib.hid (show w2.heap[w.heap.size + 1]? = some (.cells #[.slice none 0 0, .slice none 0 0] 29 (0, 0)) from (by rw [HG.out.block (w.heap.size + 1) (by first | omega | (simp; done) | (simp; omega)) (fun e => by have := hnb _ e.symm; omega), hn_pastN _ _ _ (by first | omega | (simp; done) | (simp; omega)), hn_pastN _ _ _ lr]; exact KR.out))
      go_roundw
      case rel => first | exact ⟨k + 1, .slice bq (k + 1) cq, by omega, by go_num, Lib.hid (by rw [HT.out]; exact own_same HO2.out (fun b hb => Below.heap_setCell _ _ _ _ (fun e => by have h7 := own_neT HO2.out K72.out (by decide); exact h7 (by rw [hb, e])))), Lib.hid (own_same OT2.out (fun b hb => Below.heap_setCell _ _ _ _ (fun e => by have h7 := own_neT OT2.out K72.out (by decide); exact h7 (by rw [hb, e])))), Lib.hid (row_set0 K72.out), Lib.hid ((Below.heap_setCell _ _ _ _ (by simp; omega)).trans KF2.out), Lib.hid ((Below.heap_setCell _ _ _ _ (by simp; omega)).trans KR2.out), Lib.hid (hsg.setCell (by show w.heap.size ≤ w1_.heap.size; omega) _)⟩ | exact ⟨k + 1, by omega, by first | go_num | omega, .slice bq (k + 1) cq, Lib.hid (by rw [HT.out]; exact own_same HO2.out (fun b hb => Below.heap_setCell _ _ _ _ (fun e => by have h7 := own_neT HO2.out K72.out (by decide); exact h7 (by rw [hb, e])))), Lib.hid (own_same OT2.out (fun b hb => Below.heap_setCell _ _ _ _ (fun e => by have h7 := own_neT OT2.out K72.out (by decide); exact h7 (by rw [hb, e])))), Lib.hid (row_set0 K72.out), Lib.hid ((Below.heap_setCell _ _ _ _ (by simp; omega)).trans KF2.out), Lib.hid ((Below.heap_setCell _ _ _ _ (by simp; omega)).trans KR2.out), Lib.hid (hsg.setCell (by show w.heap.size ≤ w1_.heap.size; omega) _)⟩
      case measure => simp [intOf]; omega
    · obtain ⟨v1, hv1⟩ : ∃ v1 : Value, v1 = v := ⟨_, rfl⟩
      subst hv1
      have hkn : k = n2 := by omega
      have ht : l2.take k = l2 := List.take_of_length_le (by omega)
      rw [ht, hkn] at HO
      clear ht
      go_wp2
      clear hkn
      go_loopw [37] (fun i wr => ∃ (k : Nat) (v : Value), k ≤ n1 ∧ i = .int .i64 k ∧ Hid (wr.ownsRow w1_.heap.size 50 3 v k (ptCs (l1.take k))) ∧ Hid (wr.ownsRow w1_.heap.size 49 3 v1 n2 (ptCs l2)) ∧ Hid (wr.heap[w1_.heap.size]? = some (.cells #[v1, v] 29 (0, 0))) ∧ Hid (wr.heap[w.heap.size]? = some (.cells #[.slice b1 n1 c1, .slice b2 n2 c2] 29 (0, 0))) ∧ Hid (wr.heap[w.heap.size + 1]? = some (.cells #[.slice none 0 0, .slice none 0 0] 29 (0, 0))) ∧ Hid (Below w.heap.size w wr)) (fun i wr => n1 - (intOf i).toNat)
      case atStart => exact ⟨0, .slice none 0 0, Nat.zero_le _, rfl, OTH, HO, K7, KF, KR, HB⟩
      case round =>
        clear OTH HO K7 KF KR HB
        obtain ⟨k, v, hk, rfl, HO, OTH, K7, KF, KR, HB⟩ := hrel
        have l7 := (Array.getElem?_eq_some_iff.1 K7.out).1
        have lf := (Array.getElem?_eq_some_iff.1 KF.out).1
        have lr := (Array.getElem?_eq_some_iff.1 KR.out).1
        have xf0 : wr.cell? ⟨w.heap.size, 0, none⟩ = some (.slice b1 n1 c1) := rowV KF.out rfl
        have xf1 : wr.cell? ⟨w.heap.size, 1, none⟩ = some (.slice b2 n2 c2) := rowV KF.out rfl
        have x7 : wr.cell? ⟨w1_.heap.size, 1, none⟩ = some v := rowV K7.out rfl
        have f7 := frozen_of_row wr (w1_.heap.size) 1 _ _ K7.out
        by_cases hlt : k < n1
        · have hk2 : k < l1.length := by omega
          have HT := Lib.hid (take_ptC l1 k hk2)
          obtain ⟨gl, ol, rfl, hp⟩ := HL1.out.2 (by omega)
          obtain ⟨d0, d1, d2⟩ := (hp.below HB.out) k hlt
          clear hp
          generalize l1.getD k (0, 0, 0) = a at *
          obtain ⟨x, y, z⟩ := a
          have hnb := own_base' HO.out
          have hsz := HB.out.size
          have hBs : w1_.heap.size ≤ wr.heap.size := by omega
          go_wp2_with (first
            | (refine wpList_store_row _ rfl 49 _ _ rfl rfl (U := #[.int .i64 x, .int .i64 y, .int .i64 z]) rfl rfl (heap_alloc_new _ _) rfl Try.sizeOf49 (by simp [Value.oneCell']) ?_; rw [alloc_setRow])
            | (refine wpList_load_row _ rfl 49 _ rfl (g := wr.heap.size) (T := 49) (cs := #[.int .i64 x, .int .i64 y, .int .i64 z]) (fr := (0, 0)) rfl (by rw [hn_atN _ _ _ rfl]) 3 rfl Try.sizeOf49 Try.isAgg49 ?_)
            | (at_builtin; go_loud (refine wpList_append_own _ rfl _ _ 27 rfl w1_.heap.size 50 j0 (.agg #[.int .i64 0, .int .i64 0, .int .i64 0]) 3 24 Try.underlying27 HJ0.out HY0.out HY1.out HY2.out rfl (by decide) _ _ _ rfl ((HO.out.alloc _).alloc _) ⟨wr.heap.size + 1, 0, none⟩ 1 1 [.int .i64 x, .int .i64 y, .int .i64 z] rfl rfl (newPs _ _ (by simp) _ _ _ _) (oneP _ _ _) (by unfold maxLen; omega) (by omega) (by first | omega | (simp; done) | (simp; omega)) ?_; intro v2 w2 hown hgrow _; obtain ⟨bq, cq, hq⟩ := own_form hown; subst hq; have HO2 := Lib.hid hown; have HG := Lib.hid hgrow; clear hown hgrow; have K72 := Lib.hid (show w2.heap[w1_.heap.size]? = some (.cells #[v1, v] 29 (0, 0)) by exact (by rw [HG.out.block (w1_.heap.size) (by first | omega | (simp; done) | (simp; omega)) (fun e => own_neT HO.out K7.out (by decide) e.symm), hn_pastN _ _ _ (by first | omega | (simp; done) | (simp; omega)), hn_pastN _ _ _ l7]; exact K7.out)); have x72 : w2.cell? ⟨w1_.heap.size, 1, none⟩ = some v := rowV K72.out rfl; have f72 := frozen_of_row w2 (w1_.heap.size) 1 _ _ K72.out)))
          have hsg : Below w.heap.size w w2 := (bal (bal HB.out (.cells #[.int .i64 x, .int .i64 y, .int .i64 z] 49)) (.cells #[.int .i64 x, .int .i64 y, .int .i64 z] 50)).grown HG.out (by first | omega | (simp; done) | (simp; omega) | exact Nat.le_trans (by omega) hBw) (fun k' hk' => by have := hnb k' hk'; omega)
          have OT2 := Lib.hid (own_same (W' := w2) OTH.out (fun b hb => (by rw [HG.out.block b (by have := own_lt OTH.out b hb; first | omega | (simp; done) | (simp; omega)) (own_neO OTH.out HO.out (by decide) b hb), hn_pastN _ _ _ (by have := own_lt OTH.out b hb; first | omega | (simp; done) | (simp; omega)), hn_pastN _ _ _ (own_lt OTH.out b hb)])))
          have KF2 := Lib.hid (show w2.heap[w.heap.size]? = some (.cells #[.slice (some ⟨gl, ol, none⟩) n1 c1, .slice b2 n2 c2] 29 (0, 0)) from (by rw [HG.out.block (w.heap.size) (by first | omega | (simp; done) | (simp; omega)) (fun e => by have := hnb _ e.symm; omega), hn_pastN _ _ _ (by first | omega | (simp; done) | (simp; omega)), hn_pastN _ _ _ lf]; exact KF.out))
          have KR2 := Lib.hid (show w2.heap[w.heap.size + 1]? = some (.cells #[.slice none 0 0, .slice none 0 0] 29 (0, 0)) from (by rw [HG.out.block (w.heap.size + 1) (by first | omega | (simp; done) | (simp; omega)) (fun e => by have := hnb _ e.symm; omega), hn_pastN _ _ _ (by first | omega | (simp; done) | (simp; omega)), hn_pastN _ _ _ lr]; exact KR.out))
          go_roundw
          case rel => first | exact ⟨k + 1, .slice bq (k + 1) cq, by omega, by go_num, Lib.hid (by rw [HT.out]; exact own_same HO2.out (fun b hb => Below.heap_setCell _ _ _ _ (fun e => by have h7 := own_neT HO2.out K72.out (by decide); exact h7 (by rw [hb, e])))), Lib.hid (own_same OT2.out (fun b hb => Below.heap_setCell _ _ _ _ (fun e => by have h7 := own_neT OT2.out K72.out (by decide); exact h7 (by rw [hb, e])))), Lib.hid (row_set1 K72.out), Lib.hid ((Below.heap_setCell _ _ _ _ (by simp; omega)).trans KF2.out), Lib.hid ((Below.heap_setCell _ _ _ _ (by simp; omega)).trans KR2.out), Lib.hid (hsg.setCell (by show w.heap.size ≤ w1_.heap.size; omega) _)⟩ | exact ⟨k + 1, by omega, by first | go_num | omega, .slice bq (k + 1) cq, Lib.hid (by rw [HT.out]; exact own_same HO2.out (fun b hb => Below.heap_setCell _ _ _ _ (fun e => by have h7 := own_neT HO2.out K72.out (by decide); exact h7 (by rw [hb, e])))), Lib.hid (own_same OT2.out (fun b hb => Below.heap_setCell _ _ _ _ (fun e => by have h7 := own_neT OT2.out K72.out (by decide); exact h7 (by rw [hb, e])))), Lib.hid (row_set1 K72.out), Lib.hid ((Below.heap_setCell _ _ _ _ (by simp; omega)).trans KF2.out), Lib.hid ((Below.heap_setCell _ _ _ _ (by simp; omega)).trans KR2.out), Lib.hid (hsg.setCell (by show w.heap.size ≤ w1_.heap.size; omega) _)⟩
          case measure => simp [intOf]; omega
        · have hkn : k = n1 := by omega
          have ht : l1.take k = l1 := List.take_of_length_le (by omega)
          rw [ht, hkn] at HO
          obtain ⟨bb1, cc1, hf1⟩ := own_form OTH.out
          obtain ⟨bb2, cc2, hf2⟩ := own_form HO.out
          subst hf1
          subst hf2
          go_wp2_with (first
            | (refine wpList_load_row _ rfl 29 _ rfl (g := w1_.heap.size) (T := 29) (cs := #[.slice bb1 n2 cc1, .slice bb2 n1 cc2]) (fr := (0, 0)) rfl (K7.out) 2 rfl Try.sizeOf29 Try.isAgg29 ?_)
            | (refine wpList_store_row _ rfl 29 _ _ rfl rfl (g := w.heap.size + 1) (T := 29) (cs := #[.slice none 0 0, .slice none 0 0]) (U := #[.slice bb1 n2 cc1, .slice bb2 n1 cc2]) rfl rfl KR.out rfl Try.sizeOf29 (by simp [Value.oneCell']) ?_))
          have s1 : ∀ b, Value.ownBlock (.slice bb1 n2 cc1) = some b → b ≠ w.heap.size + 1 := fun b hb e => by have := own_base' OTH.out b hb; omega
          have s2 : ∀ b, Value.ownBlock (.slice bb2 n1 cc2) = some b → b ≠ w.heap.size + 1 := fun b hb e => by have := own_base' HO.out b hb; omega
          exact bodyPost_ret (v := .tuple #[.agg #[.slice bb1 n2 cc1, .slice bb2 n1 cc2], .int .i64 0]) (results_rowF Try.results9 rfl rfl (setRow_heap _ _ #[.slice none 0 0, .slice none 0 0] _ _ _ KR.out) 2 rfl Try.sizeOf29 Try.isAgg29) rfl ⟨_, _, rfl, own_low (own_same OTH.out (fun b hb => setRow_other _ _ _ _ (s1 b hb))) (by omega), own_low (own_same HO.out (fun b hb => setRow_other _ _ _ _ (s2 b hb))) (by omega), below_setRowN HB.out (by omega) _⟩
end Go.Proofs.Ytidbikjdigemnaa
/- Contracts: the reference's DualFigure. (Printed by geny2.py, a program of this session.) -/
namespace Go.Proofs.Ytidbikjdigemnaa
open Go.RowKit
set_option linter.unusedVariables false
set_option linter.unusedSimpArgs false
theorem src3 {W : World} {g o : Nat} {x y z : Int} (d0 : W.cell? ⟨g, o, none⟩ = some (.int .i64 x)) (d1 : W.cell? ⟨g, o + 1, none⟩ = some (.int .i64 y)) (d2 : W.cell? ⟨g, o + 2, none⟩ = some (.int .i64 z)) :
    ∀ (j : Nat) (u : Value), [Value.int .i64 x, .int .i64 y, .int .i64 z][j]? = some u → W.cell? ((⟨g, o, none⟩ : Addr).add j) = some u := by
  intro j u hj
  have hadd : ∀ j, (⟨g, o, none⟩ : Addr).add j = ⟨g, o + j, none⟩ := by intro j; unfold Addr.add; split <;> simp_all
  rw [hadd]
  match j, hj with
  | 0, hj => simpa using d0.trans (by simpa using hj)
  | 1, hj => exact d1.trans (by simpa using hj)
  | 2, hj => exact d2.trans (by simpa using hj)
  | j + 3, hj => simp at hj
set_option maxRecDepth 20000 in
theorem DualFigure_spec_code (p : Int) (b1 : Option Addr) (n1 c1 : Nat) (b2 : Option Addr) (n2 c2 : Nat) (l1 l2 : List Pt) (w : World) (hn1 : n1 ≤ 1000000) (hn2 : n2 ≤ 1000000) (h1 : ListP w b1 n1 l1) (h2 : ListP w b2 n2 l2) (k : Int) (hk : figC p n1 n2 l1 l2 = k) (h0 : k ≠ 0) :
    Calls Try.prog 7 #[.int .i64 p, figV b1 n1 c1 b2 n2 c2] w (Ret w (.tuple #[.agg #[.slice none 0 0, .slice none 0 0], .int .i64 k])) := by
  have HC := Lib.hid (fun (W : World) (hW : Below w.heap.size w W) => l09Code_any p b1 n1 c1 b2 n2 c2 l1 l2 W hn1 hn2 (h1.below hW) (h2.below hW))
  rw [hk] at HC
  have hq : (k != 0) = true := bnet h0
  clear h1 h2 hk
  go_enter Try.func7, Try.ntmps7
  go_wp2_with (first
    | (go_at_call 26; (with_reducible refine (HC.out _ (by repeat (first | exact Below.refl _ _ | refine bset ?_ _ _ (by omega) _ | refine bal ?_ _ | refine bdrN ?_ _ | refine bdr ?_))).mono ?_); rintro e w1_ ⟨rfl, hb1⟩; obtain ⟨hcb1, hfb1, hlb1⟩ := bcell hb1; have hsz1 := hb1.size; (try simp at hsz1); have HB1 := Lib.hid hb1; clear hb1; (try (have hl01 : w.heap.size < w1_.heap.size := by omega)); (try (have hl11 : w.heap.size + 1 < w1_.heap.size := by omega)))
    | (refine wpList_build _ rfl 29 _ rfl #[.slice none 0 0, .slice none 0 0] (by kernel_rfl) ?_)
    | (refine wpList_store_row _ rfl 29 _ _ rfl rfl (g := w.heap.size + 1) (T := 29) (cs := #[.slice none 0 0, .slice none 0 0]) (U := #[.slice none 0 0, .slice none 0 0]) rfl rfl (by rw [HB1.out.block _ (by simp), hn_atN _ _ _ (by simp)]) rfl Try.sizeOf29 (by simp [Value.oneCell']) ?_))
  exact bodyPost_ret (v := .tuple #[.agg #[.slice none 0 0, .slice none 0 0], .int .i64 k]) (results_rowF Try.results7 rfl rfl (setRow_heap _ _ #[.slice none 0 0, .slice none 0 0] _ _ _ (by rw [HB1.out.block _ (by simp), hn_atN _ _ _ (by simp)])) 2 rfl Try.sizeOf29 Try.isAgg29) rfl ⟨rfl, below_setRowN (by repeat (first | exact Below.refl _ _ | refine bset ?_ _ _ (by omega) _ | refine bal ?_ _ | refine bdrN ?_ _ | refine bdr ?_ | refine below_tr' ?_ HB1.out)) (by omega) _⟩
set_option maxRecDepth 20000 in
set_option maxHeartbeats 8000000 in
theorem DualFigure_spec_good (p : Int) (b1 : Option Addr) (n1 c1 : Nat) (b2 : Option Addr) (n2 c2 : Nat) (l1 l2 : List Pt) (w : World) (hn1 : n1 ≤ 1000000) (hn2 : n2 ≤ 1000000) (h1 : ListP w b1 n1 l1) (h2 : ListP w b2 n2 l2) (hk : figC p n1 n2 l1 l2 = 0) :
    Calls Try.prog 7 #[.int .i64 p, figV b1 n1 c1 b2 n2 c2] w (DualPost w n1 n2 l1 l2) := by
  obtain ⟨_, m1, m2⟩ := figC_zero hk
  have HC := Lib.hid (fun (W : World) (hW : Below w.heap.size w W) => l09Code_any p b1 n1 c1 b2 n2 c2 l1 l2 W hn1 hn2 (h1.below hW) (h2.below hW))
  rw [hk] at HC
  have HL1 := Lib.hid h1
  have HL2 := Lib.hid h2
  obtain ⟨i0, hi, hz0, hz1, hz2⟩ := info_parts infoPo
  have HI0 := Lib.hid hi; have HZ0 := Lib.hid hz0; have HZ1 := Lib.hid hz1; have HZ2 := Lib.hid hz2
  obtain ⟨j0, hj, hy0, hy1, hy2⟩ := info_parts infoLn
  have HJ0 := Lib.hid hj; have HY0 := Lib.hid hy0; have HY1 := Lib.hid hy1; have HY2 := Lib.hid hy2
  have hl1 := h1.1
  have hl2 := h2.1
  clear h1 h2 hk hn1 hn2 hi hz0 hz1 hz2 hj hy0 hy1 hy2
  go_enter Try.func7, Try.ntmps7
  go_wp2_with (first
    | (go_at_call 26; (with_reducible refine (HC.out _ (by repeat (first | exact Below.refl _ _ | refine bset ?_ _ _ (by omega) _ | refine bal ?_ _ | refine bdrN ?_ _ | refine bdr ?_))).mono ?_); rintro e w1_ ⟨rfl, hb1⟩; obtain ⟨hcb1, hfb1, hlb1⟩ := bcell hb1; have hsz1 := hb1.size; (try simp at hsz1); have HB1 := Lib.hid hb1; clear hb1; (try (have hl01 : w.heap.size < w1_.heap.size := by omega)); (try (have hl11 : w.heap.size + 1 < w1_.heap.size := by omega)))
    | (refine wpList_store_row _ rfl 29 _ _ rfl rfl (U := #[.slice (some ⟨w1_.heap.size, 0, none⟩) 0 0, .slice (some ⟨w1_.heap.size + 1, 0, none⟩) 0 0]) rfl rfl (heap_alloc_new _ _) rfl Try.sizeOf29 (by simp [Value.oneCell']) ?_; rw [alloc_setRow]))
  have kf : (((w1_.alloc (.cells #[] 49)).alloc (.cells #[] 50)).alloc (.cells #[.slice (some ⟨w1_.heap.size, 0, none⟩) 0 0, .slice (some ⟨w1_.heap.size + 1, 0, none⟩) 0 0] 29)).heap[w.heap.size]? = some (.cells #[.slice b1 n1 c1, .slice b2 n2 c2] 29 (0, 0)) := by rw [hn_pastN _ _ _ (by first | omega | (simp; done) | (simp; omega)), hn_pastN _ _ _ (by first | omega | (simp; done) | (simp; omega)), hn_pastN _ _ _ (by first | omega | (simp; done) | (simp; omega)), HB1.out.block _ (by first | omega | (simp; done) | (simp; omega)), hn_pastN _ _ _ (by first | omega | (simp; done) | (simp; omega)), hn_atN _ _ _ rfl]
  have kr : (((w1_.alloc (.cells #[] 49)).alloc (.cells #[] 50)).alloc (.cells #[.slice (some ⟨w1_.heap.size, 0, none⟩) 0 0, .slice (some ⟨w1_.heap.size + 1, 0, none⟩) 0 0] 29)).heap[w.heap.size + 1]? = some (.cells #[.slice none 0 0, .slice none 0 0] 29 (0, 0)) := by rw [hn_pastN _ _ _ (by first | omega | (simp; done) | (simp; omega)), hn_pastN _ _ _ (by first | omega | (simp; done) | (simp; omega)), hn_pastN _ _ _ (by first | omega | (simp; done) | (simp; omega)), HB1.out.block _ (by first | omega | (simp; done) | (simp; omega)), hn_atN _ _ _ (by simp)]
  have k7 : (((w1_.alloc (.cells #[] 49)).alloc (.cells #[] 50)).alloc (.cells #[.slice (some ⟨w1_.heap.size, 0, none⟩) 0 0, .slice (some ⟨w1_.heap.size + 1, 0, none⟩) 0 0] 29)).heap[(w1_.heap.size + 1 + 1)]? = some (.cells #[.slice (some ⟨w1_.heap.size, 0, none⟩) 0 0, .slice (some ⟨w1_.heap.size + 1, 0, none⟩) 0 0] 29 (0, 0)) := by rw [hn_atN _ _ _ (by simp)]
  have hb0 : Below w.heap.size w (((w1_.alloc (.cells #[] 49)).alloc (.cells #[] 50)).alloc (.cells #[.slice (some ⟨w1_.heap.size, 0, none⟩) 0 0, .slice (some ⟨w1_.heap.size + 1, 0, none⟩) 0 0] 29)) := (by repeat (first | exact Below.refl _ _ | refine bset ?_ _ _ (by omega) _ | refine bal ?_ _ | refine bdrN ?_ _ | refine bdr ?_ | refine below_tr' ?_ HB1.out))
  have hs1 := HB1.out.size
  try simp at hs1
  have o1 : (((w1_.alloc (.cells #[] 49)).alloc (.cells #[] 50)).alloc (.cells #[.slice (some ⟨w1_.heap.size, 0, none⟩) 0 0, .slice (some ⟨w1_.heap.size + 1, 0, none⟩) 0 0] 29)).ownsRow w1_.heap.size 49 3 (.slice (some ⟨w1_.heap.size, 0, none⟩) 0 0) 0 (ptCs []) := ⟨rfl, .inr ⟨w1_.heap.size, 0, #[], rfl, Nat.le_refl _, by rw [hn_pastN _ _ _ (by first | omega | (simp; done) | (simp; omega)), hn_pastN _ _ _ (by first | omega | (simp; done) | (simp; omega)), hn_atN _ _ _ rfl], Nat.le_refl _, by unfold maxLen; omega, rfl, rfl⟩⟩
  have o2 : (((w1_.alloc (.cells #[] 49)).alloc (.cells #[] 50)).alloc (.cells #[.slice (some ⟨w1_.heap.size, 0, none⟩) 0 0, .slice (some ⟨w1_.heap.size + 1, 0, none⟩) 0 0] 29)).ownsRow w1_.heap.size 50 3 (.slice (some ⟨w1_.heap.size + 1, 0, none⟩) 0 0) 0 (ptCs []) := ⟨rfl, .inr ⟨w1_.heap.size + 1, 0, #[], rfl, Nat.le_succ _, by rw [hn_pastN _ _ _ (by first | omega | (simp; done) | (simp; omega)), hn_atN _ _ _ (by simp)], Nat.le_refl _, by unfold maxLen; omega, rfl, rfl⟩⟩
  have KF0 := Lib.hid kf
  have KR0 := Lib.hid kr
  have K70 := Lib.hid k7
  have HBB0 := Lib.hid hb0
  have O10 := Lib.hid o1
  have O20 := Lib.hid o2
  clear kf kr k7 hb0 o1 o2
  have hsV : w1_.heap.size ≤ (((w1_.alloc (.cells #[] 49)).alloc (.cells #[] 50)).alloc (.cells #[.slice (some ⟨w1_.heap.size, 0, none⟩) 0 0, .slice (some ⟨w1_.heap.size + 1, 0, none⟩) 0 0] 29)).heap.size := by simp; omega
  generalize (((w1_.alloc (.cells #[] 49)).alloc (.cells #[] 50)).alloc (.cells #[.slice (some ⟨w1_.heap.size, 0, none⟩) 0 0, .slice (some ⟨w1_.heap.size + 1, 0, none⟩) 0 0] 29)) = V0 at *
  obtain ⟨g7, hg7⟩ : ∃ g7, w1_.heap.size + 1 + 1 = g7 := ⟨_, rfl⟩
  rw [hg7] at K70
  rw [hg7]
  have hg7l : w1_.heap.size ≤ g7 := by omega
  clear hcb1 hfb1 hlb1 HB1 HC
  go_loopw [8] (fun i wr => ∃ (k : Nat) (v : Value), k ≤ n2 ∧ i = .int .i64 k ∧ Hid (wr.ownsRow w1_.heap.size 49 3 v k (ptCs (l2.take k))) ∧ Hid (wr.ownsRow w1_.heap.size 50 3 (.slice (some ⟨w1_.heap.size + 1, 0, none⟩) 0 0) 0 (ptCs [])) ∧ Hid (wr.heap[g7]? = some (.cells #[v, .slice (some ⟨w1_.heap.size + 1, 0, none⟩) 0 0] 29 (0, 0))) ∧ Hid (wr.heap[w.heap.size]? = some (.cells #[.slice b1 n1 c1, .slice b2 n2 c2] 29 (0, 0))) ∧ Hid (wr.heap[w.heap.size + 1]? = some (.cells #[.slice none 0 0, .slice none 0 0] 29 (0, 0))) ∧ Hid (Below w.heap.size w wr)) (fun i wr => n2 - (intOf i).toNat)
  case atStart => exact ⟨0, .slice (some ⟨w1_.heap.size, 0, none⟩) 0 0, Nat.zero_le _, rfl, O10, O20, K70, KF0, KR0, HBB0⟩
  case round =>
    clear O10 O20 K70 KF0 KR0 HBB0
    obtain ⟨k, v, hk, rfl, HO, OTH, K7, KF, KR, HB⟩ := hrel
    have l7 := (Array.getElem?_eq_some_iff.1 K7.out).1
    have lf := (Array.getElem?_eq_some_iff.1 KF.out).1
    have lr := (Array.getElem?_eq_some_iff.1 KR.out).1
    have xf0 : wr.cell? ⟨w.heap.size, 0, none⟩ = some (.slice b1 n1 c1) := rowV KF.out rfl
    have xf1 : wr.cell? ⟨w.heap.size, 1, none⟩ = some (.slice b2 n2 c2) := rowV KF.out rfl
    have x7 : wr.cell? ⟨g7, 0, none⟩ = some v := rowV K7.out rfl
    have f7 := frozen_of_row wr (g7) 0 _ _ K7.out
    by_cases hlt : k < n2
    · have hk2 : k < l2.length := by omega
      have HT := Lib.hid (take_ptC l2 k hk2)
      obtain ⟨gl, ol, rfl, hp⟩ := HL2.out.2 (by omega)
      obtain ⟨d0, d1, d2⟩ := (hp.below HB.out) k hlt
      clear hp
      generalize l2.getD k (0, 0, 0) = a at *
      obtain ⟨x, y, z⟩ := a
      have hnb := own_base' HO.out
      have hsz := HB.out.size
      have hBs : w1_.heap.size ≤ wr.heap.size := by omega
      go_wp2
      refine region_boxvia 8 7 34 (fun g => .slice (some ⟨g, 0, none⟩) 1 1) #[.int .i64 x, .int .i64 y, .int .i64 z] 49 [(27, .pointer (some ⟨g7, 0, none⟩)), (28, v), (29, .pointer (some ⟨w.heap.size, 1, none⟩)), (30, .slice (some ⟨gl, ol, none⟩) n2 c2), (31, .int .i64 (k : Int)), (32, .pointer (some ⟨gl, ol + k * 3, none⟩)), (33, ptV x y z)] (by kernel_rfl) (by decide) rfl (by kernel_rfl) (by kernel_rfl) (by kernel_rfl) (by decide) (by simp) (by kernel_rfl) (fun aE hpe => ?_)
      simp only [puts, Act.put, List.setIfInBounds_toArray, List.set_cons_zero, List.set_cons_succ] at hpe
      subst hpe
      refine ⟨?_, ⟨.inr (.inr ?_), .inr (.inr ?_), .inr (.inr ?_), .inr (.inr ?_), .inr (.inr ?_), .inr (.inr ?_), .inr (.inr ?_), .inl rfl, trivial⟩, ?_⟩
      · intro ρ W hr
        have r0 : ρ (.tmp 33) = ptV x y z := hr 33 (by simp [readsOf, Op.operands])
        simp [execOp, go_sem, r0]
      · exact CalmG.mk 27 (.pointer (some ⟨g7, 0, none⟩)) rfl rfl rfl (fun W hW => calm_run (by simp [execOp, Act.eval, go_sem]))
      · exact CalmG.mk 28 (v) rfl rfl rfl (fun W hW => calm_run (by have hc : W.cell? ⟨g7, 0, none⟩ = some v := cell_below hW x7; simp [execOp, Act.eval, go_sem, hc]))
      · exact CalmG.mk 29 (.pointer (some ⟨w.heap.size, 1, none⟩)) rfl rfl rfl (fun W hW => calm_run (by simp [execOp, Act.eval, go_sem]))
      · exact CalmG.mk 30 (.slice (some ⟨gl, ol, none⟩) n2 c2) rfl rfl rfl (fun W hW => calm_run (by have hc : W.cell? ⟨w.heap.size, 1, none⟩ = some (.slice (some ⟨gl, ol, none⟩) n2 c2) := cell_below hW xf1; simp [execOp, Act.eval, go_sem, hc]))
      · exact CalmG.mk 31 (.int .i64 (k : Int)) rfl rfl rfl (fun W hW => calm_move (.tmp 8) rfl rfl)
      · exact CalmG.mk 32 (.pointer (some ⟨gl, ol + k * 3, none⟩)) rfl rfl rfl (fun W hW => calm_run (by simp [execOp, Act.eval, go_sem, hlt]))
      · exact CalmG.mk 33 (ptV x y z) rfl rfl rfl (fun W hW => calm_loadPt 50 (.tmp 32) rfl rfl (cell_below hW d0) (cell_below hW d1) (cell_below hW d2) Try.sizeOf50 Try.isAgg50)
      intro g W hW hg hgc
      simp only [List.drop_succ_cons, List.drop_zero, Act.put, List.setIfInBounds_toArray, List.set_cons_zero, List.set_cons_succ]
      have J7 := Lib.hid ((hW.block _ l7).trans K7.out)
      have JF := Lib.hid ((hW.block _ lf).trans KF.out)
      have JR := Lib.hid ((hW.block _ lr).trans KR.out)
      have m7 := (Array.getElem?_eq_some_iff.1 J7.out).1
      have mf := (Array.getElem?_eq_some_iff.1 JF.out).1
      have mr := (Array.getElem?_eq_some_iff.1 JR.out).1
      have HOW := Lib.hid (own_below HO.out hW)
      have OTW := Lib.hid (own_below OTH.out hW)
      have HBW := Lib.hid (low_tr' HB.out hW HB.out.size)
      have hBw : w1_.heap.size ≤ W.heap.size := Nat.le_trans hBs hW.size
      have HD := Lib.hid (src3 (o := 0) (by rw [cell_of_row W _ 0 _ _ _ hgc]; rfl : W.cell? ⟨g, 0, none⟩ = some (.int .i64 x)) (by rw [cell_of_row W _ (0 + 1) _ _ _ hgc]; rfl) (by rw [cell_of_row W _ (0 + 2) _ _ _ hgc]; rfl))
      clear hW hgc x7 f7 xf0 xf1 d0 d1 d2
      go_wp2_with (at_builtin; go_loud (refine wpList_append_own _ rfl _ _ 26 rfl w1_.heap.size 49 i0 (.agg #[.int .i64 0, .int .i64 0, .int .i64 0]) 3 24 Try.underlying26 HI0.out HZ0.out HZ1.out HZ2.out rfl (by decide) _ _ _ rfl (HOW.out) ⟨g, 0, none⟩ 1 1 [.int .i64 x, .int .i64 y, .int .i64 z] rfl rfl (HD.out) (oneP _ _ _) (by unfold maxLen; omega) (by omega) hBw ?_; intro v2 w2 hown hgrow _; obtain ⟨bq, cq, hq⟩ := own_form hown; subst hq; have HO2 := Lib.hid hown; have HG := Lib.hid hgrow; clear hown hgrow; have K72 := Lib.hid (show w2.heap[g7]? = some (.cells #[v, .slice (some ⟨w1_.heap.size + 1, 0, none⟩) 0 0] 29 (0, 0)) by exact (by rw [HG.out.block (g7) m7 (fun e => own_neT HOW.out J7.out (by decide) e.symm)]; exact J7.out)); have x72 : w2.cell? ⟨g7, 0, none⟩ = some v := rowV K72.out rfl; have f72 := frozen_of_row w2 (g7) 0 _ _ K72.out))
      have hsg : Below w.heap.size w w2 := (HBW.out).grown HG.out (HBW.out).size (fun k' hk' => by have := hnb k' hk'; omega)
      have OT2 := Lib.hid (own_same (W' := w2) OTW.out (fun b hb => (by rw [HG.out.block b (own_lt OTW.out b hb) (own_neO OTW.out HOW.out (by decide) b hb)])))
      have KF2 := Lib.hid (show w2.heap[w.heap.size]? = some (.cells #[.slice b1 n1 c1, .slice (some ⟨gl, ol, none⟩) n2 c2] 29 (0, 0)) from (by rw [HG.out.block (w.heap.size) mf (fun e => by have := hnb _ e.symm; omega)]; exact JF.out))
      have KR2 := Lib.hid (show w2.heap[w.heap.size + 1]? = some (.cells #[.slice none 0 0, .slice none 0 0] 29 (0, 0)) from (by rw [HG.out.block (w.heap.size + 1) mr (fun e => by have := hnb _ e.symm; omega)]; exact JR.out))
      go_roundw
      case rel => first | exact ⟨k + 1, .slice bq (k + 1) cq, by omega, by go_num, Lib.hid (by rw [HT.out]; exact own_same HO2.out (fun b hb => Below.heap_setCell _ _ _ _ (fun e => by have h7 := own_neT HO2.out K72.out (by decide); exact h7 (by rw [hb, e])))), Lib.hid (own_same OT2.out (fun b hb => Below.heap_setCell _ _ _ _ (fun e => by have h7 := own_neT OT2.out K72.out (by decide); exact h7 (by rw [hb, e])))), Lib.hid (row_set0 K72.out), Lib.hid ((Below.heap_setCell _ _ _ _ (by simp; omega)).trans KF2.out), Lib.hid ((Below.heap_setCell _ _ _ _ (by simp; omega)).trans KR2.out), Lib.hid (hsg.setCell (by show w.heap.size ≤ g7; omega) _)⟩ | exact ⟨k + 1, by omega, by first | go_num | omega, .slice bq (k + 1) cq, Lib.hid (by rw [HT.out]; exact own_same HO2.out (fun b hb => Below.heap_setCell _ _ _ _ (fun e => by have h7 := own_neT HO2.out K72.out (by decide); exact h7 (by rw [hb, e])))), Lib.hid (own_same OT2.out (fun b hb => Below.heap_setCell _ _ _ _ (fun e => by have h7 := own_neT OT2.out K72.out (by decide); exact h7 (by rw [hb, e])))), Lib.hid (row_set0 K72.out), Lib.hid ((Below.heap_setCell _ _ _ _ (by simp; omega)).trans KF2.out), Lib.hid ((Below.heap_setCell _ _ _ _ (by simp; omega)).trans KR2.out), Lib.hid (hsg.setCell (by show w.heap.size ≤ g7; omega) _)⟩
      case measure => simp [intOf]; omega
    · obtain ⟨v1, hv1⟩ : ∃ v1 : Value, v1 = v := ⟨_, rfl⟩
      subst hv1
      have hkn : k = n2 := by omega
      have ht : l2.take k = l2 := List.take_of_length_le (by omega)
      rw [ht, hkn] at HO
      clear ht
      go_wp2
      clear hkn
      go_loopw [9] (fun i wr => ∃ (k : Nat) (v : Value), k ≤ n1 ∧ i = .int .i64 k ∧ Hid (wr.ownsRow w1_.heap.size 50 3 v k (ptCs (l1.take k))) ∧ Hid (wr.ownsRow w1_.heap.size 49 3 v1 n2 (ptCs l2)) ∧ Hid (wr.heap[g7]? = some (.cells #[v1, v] 29 (0, 0))) ∧ Hid (wr.heap[w.heap.size]? = some (.cells #[.slice b1 n1 c1, .slice b2 n2 c2] 29 (0, 0))) ∧ Hid (wr.heap[w.heap.size + 1]? = some (.cells #[.slice none 0 0, .slice none 0 0] 29 (0, 0))) ∧ Hid (Below w.heap.size w wr)) (fun i wr => n1 - (intOf i).toNat)
      case atStart => exact ⟨0, .slice (some ⟨w1_.heap.size + 1, 0, none⟩) 0 0, Nat.zero_le _, rfl, OTH, HO, K7, KF, KR, HB⟩
      case round =>
        clear OTH HO K7 KF KR HB
        obtain ⟨k, v, hk, rfl, HO, OTH, K7, KF, KR, HB⟩ := hrel
        have l7 := (Array.getElem?_eq_some_iff.1 K7.out).1
        have lf := (Array.getElem?_eq_some_iff.1 KF.out).1
        have lr := (Array.getElem?_eq_some_iff.1 KR.out).1
        have xf0 : wr.cell? ⟨w.heap.size, 0, none⟩ = some (.slice b1 n1 c1) := rowV KF.out rfl
        have xf1 : wr.cell? ⟨w.heap.size, 1, none⟩ = some (.slice b2 n2 c2) := rowV KF.out rfl
        have x7 : wr.cell? ⟨g7, 1, none⟩ = some v := rowV K7.out rfl
        have f7 := frozen_of_row wr (g7) 1 _ _ K7.out
        by_cases hlt : k < n1
        · have hk2 : k < l1.length := by omega
          have HT := Lib.hid (take_ptC l1 k hk2)
          obtain ⟨gl, ol, rfl, hp⟩ := HL1.out.2 (by omega)
          obtain ⟨d0, d1, d2⟩ := (hp.below HB.out) k hlt
          clear hp
          generalize l1.getD k (0, 0, 0) = a at *
          obtain ⟨x, y, z⟩ := a
          have hnb := own_base' HO.out
          have hsz := HB.out.size
          have hBs : w1_.heap.size ≤ wr.heap.size := by omega
          go_wp2
          refine region_boxvia 8 7 51 (fun g => .slice (some ⟨g, 0, none⟩) 1 1) #[.int .i64 x, .int .i64 y, .int .i64 z] 50 [(44, .pointer (some ⟨g7, 1, none⟩)), (45, v), (46, .pointer (some ⟨w.heap.size, 0, none⟩)), (47, .slice (some ⟨gl, ol, none⟩) n1 c1), (48, .int .i64 (k : Int)), (49, .pointer (some ⟨gl, ol + k * 3, none⟩)), (50, ptV x y z)] (by kernel_rfl) (by decide) rfl (by kernel_rfl) (by kernel_rfl) (by kernel_rfl) (by decide) (by simp) (by kernel_rfl) (fun aE hpe => ?_)
          simp only [puts, Act.put, List.setIfInBounds_toArray, List.set_cons_zero, List.set_cons_succ] at hpe
          subst hpe
          refine ⟨?_, ⟨.inr (.inr ?_), .inr (.inr ?_), .inr (.inr ?_), .inr (.inr ?_), .inr (.inr ?_), .inr (.inr ?_), .inr (.inr ?_), .inl rfl, trivial⟩, ?_⟩
          · intro ρ W hr
            have r0 : ρ (.tmp 50) = ptV x y z := hr 50 (by simp [readsOf, Op.operands])
            simp [execOp, go_sem, r0]
          · exact CalmG.mk 44 (.pointer (some ⟨g7, 1, none⟩)) rfl rfl rfl (fun W hW => calm_run (by simp [execOp, Act.eval, go_sem]))
          · exact CalmG.mk 45 (v) rfl rfl rfl (fun W hW => calm_run (by have hc : W.cell? ⟨g7, 1, none⟩ = some v := cell_below hW x7; simp [execOp, Act.eval, go_sem, hc]))
          · exact CalmG.mk 46 (.pointer (some ⟨w.heap.size, 0, none⟩)) rfl rfl rfl (fun W hW => calm_run (by simp [execOp, Act.eval, go_sem]))
          · exact CalmG.mk 47 (.slice (some ⟨gl, ol, none⟩) n1 c1) rfl rfl rfl (fun W hW => calm_run (by have hc : W.cell? ⟨w.heap.size, 0, none⟩ = some (.slice (some ⟨gl, ol, none⟩) n1 c1) := cell_below hW xf0; simp [execOp, Act.eval, go_sem, hc]))
          · exact CalmG.mk 48 (.int .i64 (k : Int)) rfl rfl rfl (fun W hW => calm_move (.tmp 9) rfl rfl)
          · exact CalmG.mk 49 (.pointer (some ⟨gl, ol + k * 3, none⟩)) rfl rfl rfl (fun W hW => calm_run (by simp [execOp, Act.eval, go_sem, hlt]))
          · exact CalmG.mk 50 (ptV x y z) rfl rfl rfl (fun W hW => calm_loadPt 49 (.tmp 49) rfl rfl (cell_below hW d0) (cell_below hW d1) (cell_below hW d2) Try.sizeOf49 Try.isAgg49)
          intro g W hW hg hgc
          simp only [List.drop_succ_cons, List.drop_zero, Act.put, List.setIfInBounds_toArray, List.set_cons_zero, List.set_cons_succ]
          have J7 := Lib.hid ((hW.block _ l7).trans K7.out)
          have JF := Lib.hid ((hW.block _ lf).trans KF.out)
          have JR := Lib.hid ((hW.block _ lr).trans KR.out)
          have m7 := (Array.getElem?_eq_some_iff.1 J7.out).1
          have mf := (Array.getElem?_eq_some_iff.1 JF.out).1
          have mr := (Array.getElem?_eq_some_iff.1 JR.out).1
          have HOW := Lib.hid (own_below HO.out hW)
          have OTW := Lib.hid (own_below OTH.out hW)
          have HBW := Lib.hid (low_tr' HB.out hW HB.out.size)
          have hBw : w1_.heap.size ≤ W.heap.size := Nat.le_trans hBs hW.size
          have HD := Lib.hid (src3 (o := 0) (by rw [cell_of_row W _ 0 _ _ _ hgc]; rfl : W.cell? ⟨g, 0, none⟩ = some (.int .i64 x)) (by rw [cell_of_row W _ (0 + 1) _ _ _ hgc]; rfl) (by rw [cell_of_row W _ (0 + 2) _ _ _ hgc]; rfl))
          clear hW hgc x7 f7 xf0 xf1 d0 d1 d2
          go_wp2_with (at_builtin; go_loud (refine wpList_append_own _ rfl _ _ 27 rfl w1_.heap.size 50 j0 (.agg #[.int .i64 0, .int .i64 0, .int .i64 0]) 3 24 Try.underlying27 HJ0.out HY0.out HY1.out HY2.out rfl (by decide) _ _ _ rfl (HOW.out) ⟨g, 0, none⟩ 1 1 [.int .i64 x, .int .i64 y, .int .i64 z] rfl rfl (HD.out) (oneP _ _ _) (by unfold maxLen; omega) (by omega) hBw ?_; intro v2 w2 hown hgrow _; obtain ⟨bq, cq, hq⟩ := own_form hown; subst hq; have HO2 := Lib.hid hown; have HG := Lib.hid hgrow; clear hown hgrow; have K72 := Lib.hid (show w2.heap[g7]? = some (.cells #[v1, v] 29 (0, 0)) by exact (by rw [HG.out.block (g7) m7 (fun e => own_neT HOW.out J7.out (by decide) e.symm)]; exact J7.out)); have x72 : w2.cell? ⟨g7, 1, none⟩ = some v := rowV K72.out rfl; have f72 := frozen_of_row w2 (g7) 1 _ _ K72.out))
          have hsg : Below w.heap.size w w2 := (HBW.out).grown HG.out (HBW.out).size (fun k' hk' => by have := hnb k' hk'; omega)
          have OT2 := Lib.hid (own_same (W' := w2) OTW.out (fun b hb => (by rw [HG.out.block b (own_lt OTW.out b hb) (own_neO OTW.out HOW.out (by decide) b hb)])))
          have KF2 := Lib.hid (show w2.heap[w.heap.size]? = some (.cells #[.slice (some ⟨gl, ol, none⟩) n1 c1, .slice b2 n2 c2] 29 (0, 0)) from (by rw [HG.out.block (w.heap.size) mf (fun e => by have := hnb _ e.symm; omega)]; exact JF.out))
          have KR2 := Lib.hid (show w2.heap[w.heap.size + 1]? = some (.cells #[.slice none 0 0, .slice none 0 0] 29 (0, 0)) from (by rw [HG.out.block (w.heap.size + 1) mr (fun e => by have := hnb _ e.symm; omega)]; exact JR.out))
          go_roundw
          case rel => first | exact ⟨k + 1, .slice bq (k + 1) cq, by omega, by go_num, Lib.hid (by rw [HT.out]; exact own_same HO2.out (fun b hb => Below.heap_setCell _ _ _ _ (fun e => by have h7 := own_neT HO2.out K72.out (by decide); exact h7 (by rw [hb, e])))), Lib.hid (own_same OT2.out (fun b hb => Below.heap_setCell _ _ _ _ (fun e => by have h7 := own_neT OT2.out K72.out (by decide); exact h7 (by rw [hb, e])))), Lib.hid (row_set1 K72.out), Lib.hid ((Below.heap_setCell _ _ _ _ (by simp; omega)).trans KF2.out), Lib.hid ((Below.heap_setCell _ _ _ _ (by simp; omega)).trans KR2.out), Lib.hid (hsg.setCell (by show w.heap.size ≤ g7; omega) _)⟩ | exact ⟨k + 1, by omega, by first | go_num | omega, .slice bq (k + 1) cq, Lib.hid (by rw [HT.out]; exact own_same HO2.out (fun b hb => Below.heap_setCell _ _ _ _ (fun e => by have h7 := own_neT HO2.out K72.out (by decide); exact h7 (by rw [hb, e])))), Lib.hid (own_same OT2.out (fun b hb => Below.heap_setCell _ _ _ _ (fun e => by have h7 := own_neT OT2.out K72.out (by decide); exact h7 (by rw [hb, e])))), Lib.hid (row_set1 K72.out), Lib.hid ((Below.heap_setCell _ _ _ _ (by simp; omega)).trans KF2.out), Lib.hid ((Below.heap_setCell _ _ _ _ (by simp; omega)).trans KR2.out), Lib.hid (hsg.setCell (by show w.heap.size ≤ g7; omega) _)⟩
          case measure => simp [intOf]; omega
        · have hkn : k = n1 := by omega
          have ht : l1.take k = l1 := List.take_of_length_le (by omega)
          rw [ht, hkn] at HO
          obtain ⟨bb1, cc1, hf1⟩ := own_form OTH.out
          obtain ⟨bb2, cc2, hf2⟩ := own_form HO.out
          subst hf1
          subst hf2
          go_wp2_with (first
            | (refine wpList_load_row _ rfl 29 _ rfl (g := g7) (T := 29) (cs := #[.slice bb1 n2 cc1, .slice bb2 n1 cc2]) (fr := (0, 0)) rfl (K7.out) 2 rfl Try.sizeOf29 Try.isAgg29 ?_)
            | (refine wpList_store_row _ rfl 29 _ _ rfl rfl (g := w.heap.size + 1) (T := 29) (cs := #[.slice none 0 0, .slice none 0 0]) (U := #[.slice bb1 n2 cc1, .slice bb2 n1 cc2]) rfl rfl KR.out rfl Try.sizeOf29 (by simp [Value.oneCell']) ?_))
          have s1 : ∀ b, Value.ownBlock (.slice bb1 n2 cc1) = some b → b ≠ w.heap.size + 1 := fun b hb e => by have := own_base' OTH.out b hb; omega
          have s2 : ∀ b, Value.ownBlock (.slice bb2 n1 cc2) = some b → b ≠ w.heap.size + 1 := fun b hb e => by have := own_base' HO.out b hb; omega
          exact bodyPost_ret (v := .tuple #[.agg #[.slice bb1 n2 cc1, .slice bb2 n1 cc2], .int .i64 0]) (results_rowF Try.results7 rfl rfl (setRow_heap _ _ #[.slice none 0 0, .slice none 0 0] _ _ _ KR.out) 2 rfl Try.sizeOf29 Try.isAgg29) rfl ⟨_, _, rfl, own_low (own_same OTH.out (fun b hb => setRow_other _ _ _ _ (s1 b hb))) (by omega), own_low (own_same HO.out (fun b hb => setRow_other _ _ _ _ (s2 b hb))) (by omega), below_setRowN HB.out (by omega) _⟩
end Go.Proofs.Ytidbikjdigemnaa
/- Contracts: the laws' own lists of points and lines, in one word; the laws' own figures. -/
namespace Go.Proofs.Ytidbikjdigemnaa
open Go.RowKit
set_option linter.unusedVariables false
set_option linter.unusedSimpArgs false
/-- Laid with room behind. -/
structure LaidR (w : World) (n : Nat) (l : List Pt) (e : Ending) (w' : World) : Prop where
  out : ∃ g, e = .returned (.slice (some ⟨g, 0, none⟩) n (n + roomN n)) ∧ w.heap.size ≤ g ∧ g < w'.heap.size ∧ RoomP w' g (n + roomN n) 49 ∧ PtsAt w' g 0 (n + roomN n) (withRoomP l) ∧ Below w.heap.size w w'
structure LaidRL (w : World) (n : Nat) (l : List Pt) (e : Ending) (w' : World) : Prop where
  out : ∃ g, e = .returned (.slice (some ⟨g, 0, none⟩) n (n + roomN n)) ∧ w.heap.size ≤ g ∧ g < w'.heap.size ∧ RoomP w' g (n + roomN n) 50 ∧ PtsAt w' g 0 (n + roomN n) (withRoomP l) ∧ Below w.heap.size w w'
/-- Laid, or nil. -/
structure LaidB (w : World) (n : Nat) (l : List Pt) (e : Ending) (w' : World) : Prop where
  out : ∃ b c, e = .returned (.slice b n c) ∧ ListP w' b n l ∧ (∀ a o, b = some ⟨a, o, none⟩ → w.heap.size ≤ a) ∧ Below w.heap.size w w'
theorem laidR_list {w' : World} {g n : Nat} {l : List Pt} (hl : l.length = n) (h : PtsAt w' g 0 (n + roomN n) (withRoomP l)) : ListP w' (some ⟨g, 0, none⟩) n l := by
  subst hl
  exact listP_mk rfl (fun i hi => by have := h i (by omega); rwa [withRoomP_at l i hi] at this)
theorem toPointS_R (b : Option Addr) (n cap : Nat) (l : List Pt) (w : World) (hn : n ≤ 1000000) (h : ListP w b n l) :
    Calls Try.prog 27 #[.slice b n cap, .bool false] w (LaidR w n l) := by
  obtain ⟨rfl, hc⟩ := h
  exact (toPointS_any b l.length cap false l w rfl hn (.inl rfl) hc).mono fun e w' ⟨g, he, h1, h2, h3, h4⟩ => ⟨g, he, h1, h2.lt, h2, h3, h4⟩
theorem toLineS_R (b : Option Addr) (n cap : Nat) (l : List Pt) (w : World) (hn : n ≤ 1000000) (h : ListP w b n l) :
    Calls Try.prog 28 #[.slice b n cap, .bool false] w (LaidRL w n l) := by
  obtain ⟨rfl, hc⟩ := h
  exact (toLineS_any b l.length cap false l w rfl hn (.inl rfl) hc).mono fun e w' ⟨g, he, h1, h2, h3, h4⟩ => ⟨g, he, h1, h2.lt, h2, h3, h4⟩
theorem toPointS_B (b : Option Addr) (n cap : Nat) (l : List Pt) (w : World) (hn : n ≤ 1000000) (h : ListP w b n l) :
    Calls Try.prog 27 #[.slice b n cap, .bool true] w (LaidB w n l) := by
  rcases Nat.eq_zero_or_pos n with h0 | h0
  · subst h0
    obtain rfl := List.length_eq_zero_iff.1 h.1
    exact (toPointS_nil cap b w).mono fun e w' ⟨he, hw⟩ => ⟨none, 0, he, listP_nil, (fun _ _ h => by cases h), hw ▸ Below.refl _ _⟩
  · obtain ⟨rfl, hc⟩ := h
    exact (toPointS_any b l.length cap true l w rfl hn (.inr h0) hc).mono fun e w' ⟨g, he, h1, h2, h3, h4⟩ => ⟨_, _, he, laidR_list rfl h3, (fun _ _ h => by cases h; exact h1), h4⟩
theorem toLineS_B (b : Option Addr) (n cap : Nat) (l : List Pt) (w : World) (hn : n ≤ 1000000) (h : ListP w b n l) :
    Calls Try.prog 28 #[.slice b n cap, .bool true] w (LaidB w n l) := by
  rcases Nat.eq_zero_or_pos n with h0 | h0
  · subst h0
    obtain rfl := List.length_eq_zero_iff.1 h.1
    exact (toLineS_nil cap b w).mono fun e w' ⟨he, hw⟩ => ⟨none, 0, he, listP_nil, (fun _ _ h => by cases h), hw ▸ Below.refl _ _⟩
  · obtain ⟨rfl, hc⟩ := h
    exact (toLineS_any b l.length cap true l w rfl hn (.inr h0) hc).mono fun e w' ⟨g, he, h1, h2, h3, h4⟩ => ⟨_, _, he, laidR_list rfl h3, (fun _ _ h => by cases h; exact h1), h4⟩
theorem szLineS_any (b : Option Addr) (n cap : Nat) (left : Int) (w : World) (hl : left ≤ 1000000 ∧ 0 ≤ left) (hn : n ≤ 9223372036854775807) :
    Calls Try.prog 25 #[.slice b n cap, .int .i64 left] w fun e w' => e = .returned (.int .i64 (if left < n then -1 else left - n)) ∧ w = w' := by
  by_cases h : left < n
  · have HR : Hid ((if left < (n : Int) then (-1 : Int) else left - n) = -1) := Lib.hid (if_pos h)
    go_enter Try.func25, Try.ntmps25
    go_wp2
    go_ret
    exact ⟨by first | rfl | (rw [HR.out]; rfl), rfl⟩
  · have HR : Hid ((if left < (n : Int) then (-1 : Int) else left - n) = left - n) := Lib.hid (if_neg h)
    go_enter Try.func25, Try.ntmps25
    go_wp2
    go_ret
    exact ⟨by first | rfl | (rw [HR.out]; rfl), rfl⟩
end Go.Proofs.Ytidbikjdigemnaa
