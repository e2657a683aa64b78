/- SingerMap, the program's and the reference's; the law FnExactSingerMap, walked. (Printed by gens8.py, a program of this session.) -/
import Derived.Test.YthkbhaaodegocaaS7
import Derived.Test.YthkbhaaodegocaaN3
namespace Go.Proofs.Ythkbhaaodegocaa
open Go.RowKit
set_option linter.unusedVariables false
set_option linter.unusedSimpArgs false
theorem results_row2 {P : Program} {fn : Func} {tmps : Array Value} {t s : Tmp} {W : World} {g : Nat} {T : TypeId} {cs : Array Value} {fr : Nat × Nat} {ty : TypeId} {x : Value} (h : fn.results = #[.cell t ty, .tmp s]) (ht : tmps.getD t undef = .pointer (some ⟨g, 0, none⟩)) (hx : tmps.getD s undef = x)
    (hg : W.heap[g]? = some (.cells cs T fr)) (n : Nat) (hn : cs.size = n) (hs : ∀ W, (sizeOf ty).run P W = .ok n W) (ha : ∀ W, (isAgg ty).run P W = .ok true W) : (results fn tmps).run P W = .ok (.tuple #[.agg cs, x]) W := by
  have hv := run_loadRow (P := P) ty hg n hn hs ha
  have ht' : tmps[t]?.getD undef = .pointer (some ⟨g, 0, none⟩) := by rw [← Array.getD_eq_getD_getElem?]; exact ht
  have hx' : tmps[s]?.getD undef = x := by rw [← Array.getD_eq_getD_getElem?]; exact hx
  have hp : ∀ a : Addr, asAddr (.pointer (some a)) = pure a := fun _ => rfl
  simp [results, h, ht', hx', hp, Sem.run_bind, Sem.run_pure, hv]
/-- What SingerMap returns. -/
def singR (p : Int) : M9 × Int := if prB p = true then (compM p.toNat (firstC p.toNat), 0) else (((0, 0, 0), (0, 0, 0), (0, 0, 0)), 2)
theorem singR_yes {n : Nat} (hp : prB (n : Int) = true) : singR (n : Int) = (compM n (firstC n), 0) := by unfold singR; rw [if_pos hp]; simp
theorem singR_no {p : Int} (hp : prB p = false) : singR p = (((0, 0, 0), (0, 0, 0), (0, 0, 0)), 2) := by unfold singR; rw [if_neg (by rw [hp]; decide)]
theorem SingerMap_spec_yes (n : Nat) (w : World) (hp : prB (n : Int) = true) : Calls Try.prog 27 #[.int .i64 (n : Int)] w (Ret w (.tuple #[.agg (cellsM9 (compM n (firstC n))), .int .i64 0])) := by
  have HC := Lib.hid (codes_of hp)
  have HL := Lib.hid (fun (W : World) => l10Singer_any n W HC.out)
  have HP := Lib.hid hp
  generalize compM n (firstC n) = m at *
  obtain ⟨⟨m0, m1, m2⟩, ⟨m3, m4, m5⟩, ⟨m6, m7, m8⟩⟩ := m
  clear hp
  go_enter Try.func27, Try.ntmps27
  go_wp2_with (first
    | (go_at_call 85; refine (l10Prime_yes _ _ HP.out).mono ?_; rintro e w' ⟨rfl, rfl⟩)
    | (go_at_call 86; (with_reducible refine (HL.out _).mono ?_); rintro e w1_ ⟨rfl, hb1⟩; obtain ⟨hcb1, hfb1, hlb1⟩ := bcell hb1; have hsz1 := hb1.size; (try simp at hsz1); have HB1 := Lib.hid hb1; clear hb1; (try (have hl01 : w.heap.size < w1_.heap.size := by omega)))
    | (refine wpList_store_row _ rfl 26 _ _ rfl rfl (g := w.heap.size) (T := 26) (cs := #[.int .i64 0, .int .i64 0, .int .i64 0, .int .i64 0, .int .i64 0, .int .i64 0, .int .i64 0, .int .i64 0, .int .i64 0]) (U := #[.int .i64 m0, .int .i64 m1, .int .i64 m2, .int .i64 m3, .int .i64 m4, .int .i64 m5, .int .i64 m6, .int .i64 m7, .int .i64 m8]) rfl rfl (by rw [HB1.out.block _ (by simp), hn_atN _ _ _ (by simp)]) rfl Try.sizeOf26 (by simp [Value.oneCell']) ?_))
  have hr : w1_.heap[w.heap.size]? = some (.cells #[.int .i64 0, .int .i64 0, .int .i64 0, .int .i64 0, .int .i64 0, .int .i64 0, .int .i64 0, .int .i64 0, .int .i64 0] 26 (0, 0)) := by rw [HB1.out.block _ (by simp), hn_atN _ _ _ (by simp)]
  exact bodyPost_ret (v := .tuple #[.agg #[.int .i64 m0, .int .i64 m1, .int .i64 m2, .int .i64 m3, .int .i64 m4, .int .i64 m5, .int .i64 m6, .int .i64 m7, .int .i64 m8], .int .i64 0]) (results_row2 Try.results27 rfl rfl (setRow_heap _ _ #[.int .i64 0, .int .i64 0, .int .i64 0, .int .i64 0, .int .i64 0, .int .i64 0, .int .i64 0, .int .i64 0, .int .i64 0] _ _ _ hr) 9 rfl Try.sizeOf26 Try.isAgg26) rfl ⟨rfl, below_setRowN (by repeat (first | exact Below.refl _ _ | refine bset ?_ _ _ (by omega) _ | refine bal ?_ _ | refine bdrN ?_ _ | refine bdr ?_ | refine below_tr' ?_ HB1.out)) (Nat.le_refl _) _⟩
theorem SingerMap_spec_no (p : Int) (w : World) (hp : prB p = false) : Calls Try.prog 27 #[.int .i64 p] w (Ret w (.tuple #[.agg #[.int .i64 0, .int .i64 0, .int .i64 0, .int .i64 0, .int .i64 0, .int .i64 0, .int .i64 0, .int .i64 0, .int .i64 0], .int .i64 2])) := by
  have HP := Lib.hid hp
  clear hp
  go_enter Try.func27, Try.ntmps27
  go_wp2_with (first
    | (go_at_call 85; refine (l10Prime_no _ _ HP.out).mono ?_; rintro e w' ⟨rfl, rfl⟩)
    | (refine wpList_build _ rfl 26 _ rfl #[.int .i64 0, .int .i64 0, .int .i64 0, .int .i64 0, .int .i64 0, .int .i64 0, .int .i64 0, .int .i64 0, .int .i64 0] (by kernel_rfl) ?_)
    | (refine wpList_store_row _ rfl 26 _ _ rfl rfl (g := w.heap.size) (T := 26) (cs := #[.int .i64 0, .int .i64 0, .int .i64 0, .int .i64 0, .int .i64 0, .int .i64 0, .int .i64 0, .int .i64 0, .int .i64 0]) (U := #[.int .i64 0, .int .i64 0, .int .i64 0, .int .i64 0, .int .i64 0, .int .i64 0, .int .i64 0, .int .i64 0, .int .i64 0]) rfl rfl (heap_alloc_new _ _) rfl Try.sizeOf26 (by simp [Value.oneCell']) ?_))
  exact bodyPost_ret (v := .tuple #[.agg #[.int .i64 0, .int .i64 0, .int .i64 0, .int .i64 0, .int .i64 0, .int .i64 0, .int .i64 0, .int .i64 0, .int .i64 0], .int .i64 2]) (results_row2 Try.results27 rfl rfl (setRow_heap _ _ #[.int .i64 0, .int .i64 0, .int .i64 0, .int .i64 0, .int .i64 0, .int .i64 0, .int .i64 0, .int .i64 0, .int .i64 0] _ _ _ (heap_alloc_new _ _)) 9 rfl Try.sizeOf26 Try.isAgg26) rfl ⟨rfl, below_setRowN (bal (Below.refl _ _) _) (Nat.le_refl _) _⟩
theorem SingerMap_spec (p : Int) (w : World) : Calls Try.prog 27 #[.int .i64 p] w (Ret w (.tuple #[.agg (cellsM9 (singR p).1), .int .i64 (singR p).2])) := by
  cases hp : prB p with
  | false => rw [singR_no hp]; exact SingerMap_spec_no p w hp
  | true =>
    obtain ⟨n, rfl⟩ : ∃ n : Nat, p = n := ⟨p.toNat, by have := prB_bd hp; omega⟩
    rw [singR_yes hp]; exact SingerMap_spec_yes n w hp
theorem SingerMap_impl_yes (n : Nat) (w : World) (hp : prB (n : Int) = true) : Calls Try.prog 28 #[.int .i64 (n : Int)] w (Ret w (.tuple #[.agg (cellsM9 (compM n (firstC n))), .int .i64 0])) := by
  have HC := Lib.hid (codes_of hp)
  have HL := Lib.hid (fun (W : World) => singer_any n W HC.out)
  have HP := Lib.hid hp
  generalize compM n (firstC n) = m at *
  obtain ⟨⟨m0, m1, m2⟩, ⟨m3, m4, m5⟩, ⟨m6, m7, m8⟩⟩ := m
  clear hp
  go_enter Try.func28, Try.ntmps28
  go_wp2_with (first
    | (go_at_call 73; refine (isPrime_yes _ _ HP.out).mono ?_; rintro e w' ⟨rfl, rfl⟩)
    | (go_at_call 87; (with_reducible refine (HL.out _).mono ?_); rintro e w1_ ⟨rfl, hb1⟩; obtain ⟨hcb1, hfb1, hlb1⟩ := bcell hb1; have hsz1 := hb1.size; (try simp at hsz1); have HB1 := Lib.hid hb1; clear hb1; (try (have hl01 : w.heap.size < w1_.heap.size := by omega)))
    | (refine wpList_store_row _ rfl 26 _ _ rfl rfl (g := w.heap.size) (T := 26) (cs := #[.int .i64 0, .int .i64 0, .int .i64 0, .int .i64 0, .int .i64 0, .int .i64 0, .int .i64 0, .int .i64 0, .int .i64 0]) (U := #[.int .i64 m0, .int .i64 m1, .int .i64 m2, .int .i64 m3, .int .i64 m4, .int .i64 m5, .int .i64 m6, .int .i64 m7, .int .i64 m8]) rfl rfl (by rw [HB1.out.block _ (by simp), hn_atN _ _ _ (by simp)]) rfl Try.sizeOf26 (by simp [Value.oneCell']) ?_))
  have hr : w1_.heap[w.heap.size]? = some (.cells #[.int .i64 0, .int .i64 0, .int .i64 0, .int .i64 0, .int .i64 0, .int .i64 0, .int .i64 0, .int .i64 0, .int .i64 0] 26 (0, 0)) := by rw [HB1.out.block _ (by simp), hn_atN _ _ _ (by simp)]
  exact bodyPost_ret (v := .tuple #[.agg #[.int .i64 m0, .int .i64 m1, .int .i64 m2, .int .i64 m3, .int .i64 m4, .int .i64 m5, .int .i64 m6, .int .i64 m7, .int .i64 m8], .int .i64 0]) (results_row2 Try.results28 rfl rfl (setRow_heap _ _ #[.int .i64 0, .int .i64 0, .int .i64 0, .int .i64 0, .int .i64 0, .int .i64 0, .int .i64 0, .int .i64 0, .int .i64 0] _ _ _ hr) 9 rfl Try.sizeOf26 Try.isAgg26) rfl ⟨rfl, below_setRowN (by repeat (first | exact Below.refl _ _ | refine bset ?_ _ _ (by omega) _ | refine bal ?_ _ | refine bdrN ?_ _ | refine bdr ?_ | refine below_tr' ?_ HB1.out)) (Nat.le_refl _) _⟩
theorem SingerMap_impl_no (p : Int) (w : World) (hp : prB p = false) : Calls Try.prog 28 #[.int .i64 p] w (Ret w (.tuple #[.agg #[.int .i64 0, .int .i64 0, .int .i64 0, .int .i64 0, .int .i64 0, .int .i64 0, .int .i64 0, .int .i64 0, .int .i64 0], .int .i64 2])) := by
  have HP := Lib.hid hp
  clear hp
  go_enter Try.func28, Try.ntmps28
  go_wp2_with (first
    | (go_at_call 73; refine (isPrime_no _ _ HP.out).mono ?_; rintro e w' ⟨rfl, rfl⟩)
    | (refine wpList_build _ rfl 26 _ rfl #[.int .i64 0, .int .i64 0, .int .i64 0, .int .i64 0, .int .i64 0, .int .i64 0, .int .i64 0, .int .i64 0, .int .i64 0] (by kernel_rfl) ?_)
    | (refine wpList_store_row _ rfl 26 _ _ rfl rfl (g := w.heap.size) (T := 26) (cs := #[.int .i64 0, .int .i64 0, .int .i64 0, .int .i64 0, .int .i64 0, .int .i64 0, .int .i64 0, .int .i64 0, .int .i64 0]) (U := #[.int .i64 0, .int .i64 0, .int .i64 0, .int .i64 0, .int .i64 0, .int .i64 0, .int .i64 0, .int .i64 0, .int .i64 0]) rfl rfl (heap_alloc_new _ _) rfl Try.sizeOf26 (by simp [Value.oneCell']) ?_))
  exact bodyPost_ret (v := .tuple #[.agg #[.int .i64 0, .int .i64 0, .int .i64 0, .int .i64 0, .int .i64 0, .int .i64 0, .int .i64 0, .int .i64 0, .int .i64 0], .int .i64 2]) (results_row2 Try.results28 rfl rfl (setRow_heap _ _ #[.int .i64 0, .int .i64 0, .int .i64 0, .int .i64 0, .int .i64 0, .int .i64 0, .int .i64 0, .int .i64 0, .int .i64 0] _ _ _ (heap_alloc_new _ _)) 9 rfl Try.sizeOf26 Try.isAgg26) rfl ⟨rfl, below_setRowN (bal (Below.refl _ _) _) (Nat.le_refl _) _⟩
theorem SingerMap_impl (p : Int) (w : World) : Calls Try.prog 28 #[.int .i64 p] w (Ret w (.tuple #[.agg (cellsM9 (singR p).1), .int .i64 (singR p).2])) := by
  cases hp : prB p with
  | false => rw [singR_no hp]; exact SingerMap_impl_no p w hp
  | true =>
    obtain ⟨n, rfl⟩ : ∃ n : Nat, p = n := ⟨p.toNat, by have := prB_bd hp; omega⟩
    rw [singR_yes hp]; exact SingerMap_impl_yes n w hp
set_option maxHeartbeats 4000000 in
theorem FnExactSingerMap_walk (p : Int) (w : World) : Calls Try.prog 7 #[.int .i64 p] w (Ret w (.bool true)) := by
  have HS := Lib.hid (fun (W : World) => SingerMap_spec p W)
  have HI := Lib.hid (fun (W : World) => SingerMap_impl p W)
  have HQ := Lib.hid (fun (m : M9) (W : World) => eqMap_same m.1.1 m.1.2.1 m.1.2.2 m.2.1.1 m.2.1.2.1 m.2.1.2.2 m.2.2.1 m.2.2.2.1 m.2.2.2.2 W)
  generalize singR p = r at *
  obtain ⟨⟨⟨m0, m1, m2⟩, ⟨m3, m4, m5⟩, ⟨m6, m7, m8⟩⟩, c⟩ := r
  have HE := Lib.hid (HQ.out ((m0, m1, m2), (m3, m4, m5), (m6, m7, m8)))
  clear HQ
  go_enter Try.func7, Try.ntmps7
  go_wp2_with (first
    | (go_at_call 27; (with_reducible refine (HS.out _).mono ?_); rintro e w1_ ⟨rfl, hb1⟩; obtain ⟨hcb1, hfb1, hlb1⟩ := bcell hb1; have hsz1 := hb1.size; (try simp at hsz1); have HB1 := Lib.hid hb1; clear hb1; (try (have hl01 : w.heap.size < w1_.heap.size := by omega)))
    | (go_at_call 28; (with_reducible refine (HI.out _).mono ?_); rintro e w2_ ⟨rfl, hb2⟩; obtain ⟨hcb2, hfb2, hlb2⟩ := bcell hb2; have hsz2 := hb2.size; (try simp at hsz2); have HB2 := Lib.hid hb2; clear hb2; (try (have hl02 : w.heap.size < w2_.heap.size := by omega)))
    | (refine wpList_store_row _ rfl 26 _ _ rfl rfl (U := #[.int .i64 m0, .int .i64 m1, .int .i64 m2, .int .i64 m3, .int .i64 m4, .int .i64 m5, .int .i64 m6, .int .i64 m7, .int .i64 m8]) rfl rfl (heap_alloc_new _ _) rfl Try.sizeOf26 (by simp [Value.oneCell']) ?_; rw [alloc_setRow])
    | (refine wpList_load_row _ rfl 26 _ rfl (g := w1_.heap.size) (T := 26) (cs := #[.int .i64 m0, .int .i64 m1, .int .i64 m2, .int .i64 m3, .int .i64 m4, .int .i64 m5, .int .i64 m6, .int .i64 m7, .int .i64 m8]) (fr := (0, 0)) rfl (by rw [hn_pastN _ _ _ (by first | omega | (simp; done) | (simp; omega)), HB2.out.block _ (by first | omega | (simp; done) | (simp; omega)), hn_atN _ _ _ (by simp)]) 9 rfl Try.sizeOf26 Try.isAgg26 ?_)
    | (refine wpList_load_row _ rfl 26 _ rfl (g := w2_.heap.size) (T := 26) (cs := #[.int .i64 m0, .int .i64 m1, .int .i64 m2, .int .i64 m3, .int .i64 m4, .int .i64 m5, .int .i64 m6, .int .i64 m7, .int .i64 m8]) (fr := (0, 0)) rfl (by rw [hn_atN _ _ _ (by simp)]) 9 rfl Try.sizeOf26 Try.isAgg26 ?_)
    | (go_at_call 29; (with_reducible refine (HE.out _).mono ?_); rintro e w3_ ⟨rfl, hb3⟩; obtain ⟨hcb3, hfb3, hlb3⟩ := bcell hb3; have hsz3 := hb3.size; (try simp at hsz3); have HB3 := Lib.hid hb3; clear hb3))
  go_ret
  exact ⟨rfl, (by repeat (first | exact Below.refl _ _ | refine bset ?_ _ _ (by omega) _ | refine bal ?_ _ | refine bdrN ?_ _ | refine bdr ?_ | refine below_tr' ?_ HB3.out | refine below_tr' ?_ HB2.out | refine below_tr' ?_ HB1.out))⟩
end Go.Proofs.Ythkbhaaodegocaa
