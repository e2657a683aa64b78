/- Texts of the claim, in build order: S8, SG2, FS0, UC, UJ, UM, UI, UK, UL, UE, UH, UN, H5, H6, H7, U9, SG3, Big, P9, Like, SG4. No condition. -/
import Derived.Deep.CutRange
import Derived.Test.YtaocnklolgdkfaaGreatZFnSinger8
/- SingerMap, the program's and the reference's; the law FnExactSingerMap, walked. (Printed by gens8.py, a program of this session.) -/
namespace Go.Proofs.YtaocnklolgdkfaaGreat
open Go.RowKit
set_option linter.unusedVariables false
set_option linter.unusedSimpArgs false
theorem results_row2 {P : Program} {fn : Func} {tmps : Array Value} {t s : Tmp} {W : World} {g : Nat} {T : TypeId} {cs : Array Value} {fr : Nat × Nat} {ty : TypeId} {x : Value} (h : fn.results = #[.cell t ty, .tmp s]) (ht : tmps.getD t undef = .pointer (some ⟨g, 0, none⟩)) (hx : tmps.getD s undef = x)
    (hg : W.heap[g]? = some (.cells cs T fr)) (n : Nat) (hn : cs.size = n) (hs : ∀ W, (sizeOf ty).run P W = .ok n W) (ha : ∀ W, (isAgg ty).run P W = .ok true W) : (results fn tmps).run P W = .ok (.tuple #[.agg cs, x]) W := by
  have hv := run_loadRow (P := P) ty hg n hn hs ha
  have ht' : tmps[t]?.getD undef = .pointer (some ⟨g, 0, none⟩) := by rw [← Array.getD_eq_getD_getElem?]; exact ht
  have hx' : tmps[s]?.getD undef = x := by rw [← Array.getD_eq_getD_getElem?]; exact hx
  have hp : ∀ a : Addr, asAddr (.pointer (some a)) = pure a := fun _ => rfl
  simp [results, h, ht', hx', hp, Sem.run_bind, Sem.run_pure, hv]
/-- What SingerMap returns. -/
def singR (p : Int) : M9 × Int := if prB p = true then (compM p.toNat (firstC p.toNat), 0) else (((0, 0, 0), (0, 0, 0), (0, 0, 0)), 2)
theorem SingerMap_spec_yes (n : Nat) (w : World) (hp : prB (n : Int) = true) : Calls Tryz.prog 10 #[.int .i64 (n : Int)] w (Ret w (.tuple #[.agg (cellsM9 (compM n (firstC n))), .int .i64 0])) := by
  have HC := Lib.hid (codes_of hp)
  have HL := Lib.hid (fun (W : World) => l10Singer_any n W HC.out)
  have HP := Lib.hid hp
  generalize compM n (firstC n) = m at *
  obtain ⟨⟨m0, m1, m2⟩, ⟨m3, m4, m5⟩, ⟨m6, m7, m8⟩⟩ := m
  clear hp
  go_enter Tryz.func10, Tryz.ntmps10
  go_wp2_with (first
    | (go_at_call 27; refine (l10Prime_yes _ _ HP.out).mono ?_; rintro e w' ⟨rfl, rfl⟩)
    | (go_at_call 30; (with_reducible refine (HL.out _).mono ?_); rintro e w1_ ⟨rfl, hb1⟩; obtain ⟨hcb1, hfb1, hlb1⟩ := bcell hb1; have hsz1 := hb1.size; (try simp at hsz1); have HB1 := Lib.hid hb1; clear hb1; (try (have hl01 : w.heap.size < w1_.heap.size := by omega)))
    | (refine wpList_store_row _ rfl 31 _ _ rfl rfl (g := w.heap.size) (T := 31) (cs := #[.int .i64 0, .int .i64 0, .int .i64 0, .int .i64 0, .int .i64 0, .int .i64 0, .int .i64 0, .int .i64 0, .int .i64 0]) (U := #[.int .i64 m0, .int .i64 m1, .int .i64 m2, .int .i64 m3, .int .i64 m4, .int .i64 m5, .int .i64 m6, .int .i64 m7, .int .i64 m8]) rfl rfl (by rw [HB1.out.block _ (by simp), hn_atN _ _ _ (by simp)]) rfl Tryz.sizeOf31 (by simp [Value.oneCell']) ?_))
  have hr : w1_.heap[w.heap.size]? = some (.cells #[.int .i64 0, .int .i64 0, .int .i64 0, .int .i64 0, .int .i64 0, .int .i64 0, .int .i64 0, .int .i64 0, .int .i64 0] 31 (0, 0)) := by rw [HB1.out.block _ (by simp), hn_atN _ _ _ (by simp)]
  exact bodyPost_ret (v := .tuple #[.agg #[.int .i64 m0, .int .i64 m1, .int .i64 m2, .int .i64 m3, .int .i64 m4, .int .i64 m5, .int .i64 m6, .int .i64 m7, .int .i64 m8], .int .i64 0]) (results_row2 Tryz.results10 rfl rfl (setRow_heap _ _ #[.int .i64 0, .int .i64 0, .int .i64 0, .int .i64 0, .int .i64 0, .int .i64 0, .int .i64 0, .int .i64 0, .int .i64 0] _ _ _ hr) 9 rfl Tryz.sizeOf31 Tryz.isAgg31) rfl ⟨rfl, below_setRowN (by repeat (first | exact Below.refl _ _ | refine bset ?_ _ _ (by omega) _ | refine bal ?_ _ | refine bdrN ?_ _ | refine bdr ?_ | refine below_tr' ?_ HB1.out)) (Nat.le_refl _) _⟩
theorem SingerMap_spec_no (p : Int) (w : World) (hp : prB p = false) : Calls Tryz.prog 10 #[.int .i64 p] w (Ret w (.tuple #[.agg #[.int .i64 0, .int .i64 0, .int .i64 0, .int .i64 0, .int .i64 0, .int .i64 0, .int .i64 0, .int .i64 0, .int .i64 0], .int .i64 2])) := by
  have HP := Lib.hid hp
  clear hp
  go_enter Tryz.func10, Tryz.ntmps10
  go_wp2_with (first
    | (go_at_call 27; refine (l10Prime_no _ _ HP.out).mono ?_; rintro e w' ⟨rfl, rfl⟩)
    | (refine wpList_build _ rfl 31 _ rfl #[.int .i64 0, .int .i64 0, .int .i64 0, .int .i64 0, .int .i64 0, .int .i64 0, .int .i64 0, .int .i64 0, .int .i64 0] (by kernel_rfl) ?_)
    | (refine wpList_store_row _ rfl 31 _ _ rfl rfl (g := w.heap.size) (T := 31) (cs := #[.int .i64 0, .int .i64 0, .int .i64 0, .int .i64 0, .int .i64 0, .int .i64 0, .int .i64 0, .int .i64 0, .int .i64 0]) (U := #[.int .i64 0, .int .i64 0, .int .i64 0, .int .i64 0, .int .i64 0, .int .i64 0, .int .i64 0, .int .i64 0, .int .i64 0]) rfl rfl (heap_alloc_new _ _) rfl Tryz.sizeOf31 (by simp [Value.oneCell']) ?_))
  exact bodyPost_ret (v := .tuple #[.agg #[.int .i64 0, .int .i64 0, .int .i64 0, .int .i64 0, .int .i64 0, .int .i64 0, .int .i64 0, .int .i64 0, .int .i64 0], .int .i64 2]) (results_row2 Tryz.results10 rfl rfl (setRow_heap _ _ #[.int .i64 0, .int .i64 0, .int .i64 0, .int .i64 0, .int .i64 0, .int .i64 0, .int .i64 0, .int .i64 0, .int .i64 0] _ _ _ (heap_alloc_new _ _)) 9 rfl Tryz.sizeOf31 Tryz.isAgg31) rfl ⟨rfl, below_setRowN (bal (Below.refl _ _) _) (Nat.le_refl _) _⟩
theorem SingerMap_impl_yes (n : Nat) (w : World) (hp : prB (n : Int) = true) : Calls Tryz.prog 9 #[.int .i64 (n : Int)] w (Ret w (.tuple #[.agg (cellsM9 (compM n (firstC n))), .int .i64 0])) := by
  have HC := Lib.hid (codes_of hp)
  have HL := Lib.hid (fun (W : World) => singer_any n W HC.out)
  have HP := Lib.hid hp
  generalize compM n (firstC n) = m at *
  obtain ⟨⟨m0, m1, m2⟩, ⟨m3, m4, m5⟩, ⟨m6, m7, m8⟩⟩ := m
  clear hp
  go_enter Tryz.func9, Tryz.ntmps9
  go_wp2_with (first
    | (go_at_call 25; refine (isPrime_yes _ _ HP.out).mono ?_; rintro e w' ⟨rfl, rfl⟩)
    | (go_at_call 29; (with_reducible refine (HL.out _).mono ?_); rintro e w1_ ⟨rfl, hb1⟩; obtain ⟨hcb1, hfb1, hlb1⟩ := bcell hb1; have hsz1 := hb1.size; (try simp at hsz1); have HB1 := Lib.hid hb1; clear hb1; (try (have hl01 : w.heap.size < w1_.heap.size := by omega)))
    | (refine wpList_store_row _ rfl 31 _ _ rfl rfl (g := w.heap.size) (T := 31) (cs := #[.int .i64 0, .int .i64 0, .int .i64 0, .int .i64 0, .int .i64 0, .int .i64 0, .int .i64 0, .int .i64 0, .int .i64 0]) (U := #[.int .i64 m0, .int .i64 m1, .int .i64 m2, .int .i64 m3, .int .i64 m4, .int .i64 m5, .int .i64 m6, .int .i64 m7, .int .i64 m8]) rfl rfl (by rw [HB1.out.block _ (by simp), hn_atN _ _ _ (by simp)]) rfl Tryz.sizeOf31 (by simp [Value.oneCell']) ?_))
  have hr : w1_.heap[w.heap.size]? = some (.cells #[.int .i64 0, .int .i64 0, .int .i64 0, .int .i64 0, .int .i64 0, .int .i64 0, .int .i64 0, .int .i64 0, .int .i64 0] 31 (0, 0)) := by rw [HB1.out.block _ (by simp), hn_atN _ _ _ (by simp)]
  exact bodyPost_ret (v := .tuple #[.agg #[.int .i64 m0, .int .i64 m1, .int .i64 m2, .int .i64 m3, .int .i64 m4, .int .i64 m5, .int .i64 m6, .int .i64 m7, .int .i64 m8], .int .i64 0]) (results_row2 Tryz.results9 rfl rfl (setRow_heap _ _ #[.int .i64 0, .int .i64 0, .int .i64 0, .int .i64 0, .int .i64 0, .int .i64 0, .int .i64 0, .int .i64 0, .int .i64 0] _ _ _ hr) 9 rfl Tryz.sizeOf31 Tryz.isAgg31) rfl ⟨rfl, below_setRowN (by repeat (first | exact Below.refl _ _ | refine bset ?_ _ _ (by omega) _ | refine bal ?_ _ | refine bdrN ?_ _ | refine bdr ?_ | refine below_tr' ?_ HB1.out)) (Nat.le_refl _) _⟩
theorem SingerMap_impl_no (p : Int) (w : World) (hp : prB p = false) : Calls Tryz.prog 9 #[.int .i64 p] w (Ret w (.tuple #[.agg #[.int .i64 0, .int .i64 0, .int .i64 0, .int .i64 0, .int .i64 0, .int .i64 0, .int .i64 0, .int .i64 0, .int .i64 0], .int .i64 2])) := by
  have HP := Lib.hid hp
  clear hp
  go_enter Tryz.func9, Tryz.ntmps9
  go_wp2_with (first
    | (go_at_call 25; refine (isPrime_no _ _ HP.out).mono ?_; rintro e w' ⟨rfl, rfl⟩)
    | (refine wpList_build _ rfl 31 _ rfl #[.int .i64 0, .int .i64 0, .int .i64 0, .int .i64 0, .int .i64 0, .int .i64 0, .int .i64 0, .int .i64 0, .int .i64 0] (by kernel_rfl) ?_)
    | (refine wpList_store_row _ rfl 31 _ _ rfl rfl (g := w.heap.size) (T := 31) (cs := #[.int .i64 0, .int .i64 0, .int .i64 0, .int .i64 0, .int .i64 0, .int .i64 0, .int .i64 0, .int .i64 0, .int .i64 0]) (U := #[.int .i64 0, .int .i64 0, .int .i64 0, .int .i64 0, .int .i64 0, .int .i64 0, .int .i64 0, .int .i64 0, .int .i64 0]) rfl rfl (heap_alloc_new _ _) rfl Tryz.sizeOf31 (by simp [Value.oneCell']) ?_))
  exact bodyPost_ret (v := .tuple #[.agg #[.int .i64 0, .int .i64 0, .int .i64 0, .int .i64 0, .int .i64 0, .int .i64 0, .int .i64 0, .int .i64 0, .int .i64 0], .int .i64 2]) (results_row2 Tryz.results9 rfl rfl (setRow_heap _ _ #[.int .i64 0, .int .i64 0, .int .i64 0, .int .i64 0, .int .i64 0, .int .i64 0, .int .i64 0, .int .i64 0, .int .i64 0] _ _ _ (heap_alloc_new _ _)) 9 rfl Tryz.sizeOf31 Tryz.isAgg31) rfl ⟨rfl, below_setRowN (bal (Below.refl _ _) _) (Nat.le_refl _) _⟩
end Go.Proofs.YtaocnklolgdkfaaGreat
/- Contracts: the draws of the law FnSinger, and the order of a Singer map. -- draws -- maps -/
namespace Go.Proofs.YtaocnklolgdkfaaGreat
open Go.RowKit
set_option linter.unusedVariables false
set_option linter.unusedSimpArgs false
theorem NumQ.ofB {Pn : Int → Prop} {W : World} {gl k : Nat} {l : List Int} (h : RowK W gl (l.map (Value.int .i64)).toArray 2) (hk : l.length = k) (hp : ∀ r ∈ l, Pn r) : NumQ Pn W gl k := by
  obtain ⟨cs, h1, h2, h3⟩ := (NumQ.ofL h hk).out
  exact ⟨cs, h1, h2, fun i hi => by obtain ⟨r, e, hr⟩ := h3 i hi; exact ⟨r, e, hp r hr⟩⟩
def bd17 (r : Int) : Prop := -17 ≤ r ∧ r ≤ 17
set_option maxRecDepth 20000 in
set_option maxHeartbeats 8000000 in
theorem DrawPrime_Q (g : Nat) (b : Option Addr) (n c : Nat) (w : World) (hS : SrcK w g b n c) : Calls Tryz.prog 81 #[.pointer (some ⟨g, 0, none⟩)] w (NumR bd17 g b n c w) := by
  go_enter Tryz.func81, Tryz.ntmps81
  go_wp2_with (first | (go_at_call 55; (with_reducible refine (Pick_Q bd17 g b n c _ 8 _ _ (hS.link (LowK.lnk findLow)) (NumQ.ofB (l := [3, 3, 5, 5, 7, 7, 11, 13]) (show RowK _ _ #[.int .i64 3, .int .i64 3, .int .i64 5, .int .i64 5, .int .i64 7, .int .i64 7, .int .i64 11, .int .i64 13] _ from findRow) rfl (by unfold bd17; simp)) (by decide) (by decide)).mono ?_); rintro e w' ⟨r, rfl, hr, hD⟩))
  have hl : LowK w (w.alloc (.cells #[.int .i64 3, .int .i64 3, .int .i64 5, .int .i64 5, .int .i64 7, .int .i64 7, .int .i64 11, .int .i64 13] 2)) := findLow
  (apply ret_one Tryz.results81; (conv => lhs; whnf); exact rfl)
  exact ⟨r, rfl, hr, ((Drew.refl hS).low hl).tr hD⟩
set_option maxRecDepth 20000 in
set_option maxHeartbeats 8000000 in
theorem Any_Q (g : Nat) (b : Option Addr) (n c : Nat) (w : World) (hS : SrcK w g b n c) : Calls Tryz.prog 56 #[.pointer (some ⟨g, 0, none⟩)] w (NumR bd17 g b n c w) := by
  go_enter Tryz.func56, Tryz.ntmps56
  go_wp2_with (first
    | (go_at_call 42; (with_reducible refine (Next_S g b n c 30 _ hS (by decide)).mono ?_); rintro e w' ⟨r, rfl, hr, hD⟩)
    | (go_at_call 55; (with_reducible refine (Pick_Q bd17 g b n c _ 6 _ _ (hD.src.link (LowK.lnk findLow)) (NumQ.ofB (l := [0, 2, 4, 9, 17, -3]) (show RowK _ _ #[.int .i64 0, .int .i64 2, .int .i64 4, .int .i64 9, .int .i64 17, .int .i64 (-3)] _ from findRow) rfl (by unfold bd17; simp)) (by decide) (by decide)).mono ?_); rintro e w2 ⟨r2, rfl, hr2, hD2⟩)
    | (go_at_call 81; (with_reducible refine (DrawPrime_Q g b n c _ hD.src).mono ?_); rintro e w2 ⟨r2, rfl, hr2, hD2⟩))
  · have hl : LowK w' (w'.alloc (.cells #[.int .i64 0, .int .i64 2, .int .i64 4, .int .i64 9, .int .i64 17, .int .i64 (-3)] 2)) := findLow
    (apply ret_one Tryz.results56; (conv => lhs; whnf); exact rfl)
    exact ⟨r2, rfl, hr2, (hD.low hl).tr hD2⟩
  · (apply ret_one Tryz.results56; (conv => lhs; whnf); exact rfl)
    exact ⟨r2, rfl, hr2, hD.tr hD2⟩
set_option maxRecDepth 20000 in
set_option maxHeartbeats 8000000 in
theorem Few_Q (g : Nat) (b : Option Addr) (n c : Nat) (w : World) (hS : SrcK w g b n c) : Calls Tryz.prog 23 #[.pointer (some ⟨g, 0, none⟩)] w (NumR bd17 g b n c w) := by
  have tok : True := trivial
  go_enter Tryz.func23, Tryz.ntmps23
  go_wp2_with (first
    | (go_at_call 56; (with_reducible refine (Any_Q g b n c _ hS).mono ?_); rintro e w' ⟨r, rfl, hr, hD⟩; have hl : LowK w' (w'.alloc (.cells #[.int .i64 3, .int .i64 5, .int .i64 7, .int .i64 r] 2)) := findLow)
    | (have _t := tok; go_at_call 55; (with_reducible refine (Pick_Q bd17 g b n c _ 4 _ _ (hD.low hl).src (NumQ.ofB (l := [3, 5, 7, r]) (show RowK _ _ #[.int .i64 3, .int .i64 5, .int .i64 7, .int .i64 r] _ from findRow) rfl (by intro x hx; simp at hx; rcases hx with rfl | rfl | rfl | rfl <;> first | exact hr | (unfold bd17; decide))) (by decide) (by decide)).mono ?_); rintro e w2 ⟨r2, rfl, hr2, hD2⟩; clear tok; have hl2 : LowK w2 (w2.alloc (.cells #[.int .i64 3, .int .i64 3, .int .i64 3, .int .i64 5, .int .i64 5, .int .i64 r2] 2)) := findLow)
    | (go_at_call 55; (with_reducible refine (Pick_Q bd17 g b n c _ 6 _ _ (hD2.low hl2).src (NumQ.ofB (l := [3, 3, 3, 5, 5, r2]) (show RowK _ _ #[.int .i64 3, .int .i64 3, .int .i64 3, .int .i64 5, .int .i64 5, .int .i64 r2] _ from findRow) rfl (by intro x hx; simp at hx; rcases hx with rfl | rfl | rfl <;> first | exact hr2 | (unfold bd17; decide))) (by decide) (by decide)).mono ?_); rintro e w3 ⟨r3, rfl, hr3, hD3⟩))
  (apply ret_one Tryz.results23; (conv => lhs; whnf); exact rfl)
  exact ⟨r3, rfl, hr3, (((hD.low hl).tr hD2).low hl2).tr hD3⟩
theorem bd_sq {p : Int} (h : bd17 p) : 0 ≤ p * p + p ∧ p * p + p ≤ 306 ∧ 0 ≤ p * p ∧ p * p ≤ 289 := by
  obtain ⟨h1, h2⟩ := h
  obtain ⟨k, hk⟩ : ∃ k : Nat, p = (k : Int) - 17 := ⟨(p + 17).toNat, by omega⟩
  have hk34 : k ≤ 34 := by omega
  subst hk
  have : ∀ k ∈ List.range 35, 0 ≤ ((k : Int) - 17) * ((k : Int) - 17) + ((k : Int) - 17) ∧ ((k : Int) - 17) * ((k : Int) - 17) + ((k : Int) - 17) ≤ 306 ∧ 0 ≤ ((k : Int) - 17) * ((k : Int) - 17) ∧ ((k : Int) - 17) * ((k : Int) - 17) ≤ 289 := by decide
  exact this k (List.mem_range.2 (by omega))
set_option maxRecDepth 20000 in
set_option maxHeartbeats 16000000 in
theorem DrawSingerOrder_E (b : Option Addr) (n c : Nat) (w : World) (hC : CodeK w b n) (hn : n ≤ 4096) (hb : ∀ a, b = some a → a.block < w.heap.size) :
    Calls Tryz.prog 5 #[.slice b n c] w (fun e W => ∃ p : Int, e = .returned (.int .i64 p) ∧ LowK w W) := by
  go_enter Tryz.func5, Tryz.ntmps5
  go_wp2_with (first | (go_at_call 24; (with_reducible refine (From_S b n c _ hC hn hb).mono ?_); rintro e w1 ⟨g, rfl, hg, hS, hl1⟩) | (go_at_call 23; (with_reducible refine (Few_Q g b n c _ hS).mono ?_); rintro e w2 ⟨p, rfl, hp, hD⟩; have hl2 := LowK.but hD.but hg hl1))
  (apply ret_one Tryz.results5; (conv => lhs; whnf); exact rfl)
  exact ⟨p, rfl, hl2⟩
set_option maxRecDepth 20000 in
set_option maxHeartbeats 16000000 in
theorem DrawLineOfShift_E (b : Option Addr) (n c : Nat) (w : World) (hC : CodeK w b n) (hn : n ≤ 4096) (hb : ∀ a, b = some a → a.block < w.heap.size) :
    Calls Tryz.prog 17 #[.slice b n c] w (fun e W => ∃ p t : Int, e = .returned (.tuple #[.int .i64 p, .int .i64 t]) ∧ LowK w W) := by
  have tok : True := trivial
  go_enter Tryz.func17, Tryz.ntmps17
  go_wp2_with (first | (go_at_call 24; (with_reducible refine (From_S b n c _ hC hn hb).mono ?_); rintro e w1 ⟨g, rfl, hg, hS, hl1⟩) | (go_at_call 23; (with_reducible refine (Few_Q g b n c _ hS).mono ?_); rintro e w2 ⟨p, rfl, hp, hD⟩; obtain ⟨q0, q1, q2, q3⟩ := bd_sq hp; obtain ⟨p0, p1⟩ := hp) | (have _t := tok; go_at_call 42; (with_reducible refine (Next_S g b n c 16 _ hD.src (by decide)).mono ?_); rintro e w3 ⟨r, rfl, hr, hD2⟩; have hr16 : r < 16 := (by omega); have hD3 := hD.tr hD2; clear tok) | (go_at_call 42; (with_reducible refine (Next_S g b n c _ _ hD3.src (by omega)).mono ?_); rintro e w4 ⟨t, rfl, ht, hD4⟩; have hD5 := hD3.tr hD4; have hl5 := LowK.but hD5.but hg hl1))
  (apply ret_two Tryz.results17; (conv => lhs; whnf); (conv => lhs; whnf); exact rfl)
  exact ⟨p, t, rfl, hl5⟩
section
variable {P : Program} {fn : Func} {R : Ending → World → Prop} {a : Act} {w : World}
theorem results_tc {tmps : Array Value} {s u : Tmp} {g : Nat} {T ty : TypeId} {cs : Array Value} {fr : Nat × Nat} {x : Value} (hf : fn.results = #[.tmp s, .cell u ty]) (hx : tmps.getD s undef = x)
    (hu : tmps.getD u undef = .pointer (some ⟨g, 0, none⟩)) (hg : w.heap[g]? = some (.cells cs T fr)) (n : Nat) (hn : cs.size = n) (hs : ∀ W, (sizeOf ty).run P W = .ok n W) (ha : ∀ W, (isAgg ty).run P W = .ok true W) : (results fn tmps).run P w = .ok (.tuple #[x, .agg cs]) w := by
  have e1 := run_loadRow (P := P) ty hg n hn hs ha
  have hu' : tmps[u]?.getD undef = .pointer (some ⟨g, 0, none⟩) := by rw [← Array.getD_eq_getD_getElem?]; exact hu
  have hx' : tmps[s]?.getD undef = x := by rw [← Array.getD_eq_getD_getElem?]; exact hx
  have hp : ∀ a : Addr, asAddr (.pointer (some a)) = pure a := fun _ => rfl
  simp [results, hf, hu', hx', hp, Sem.run_bind, Sem.run_pure, e1]
theorem ret_tc {s u : Tmp} {g : Nat} {T ty : TypeId} {cs : Array Value} {x : Value} (hf : fn.results = #[.tmp s, .cell u ty]) (hx : a.tmps.getD s undef = x)
    (hu : a.tmps.getD u undef = .pointer (some ⟨g, 0, none⟩)) (hg : RowK w g cs T) (n : Nat) (hn : cs.size = n) (hs : ∀ W, (sizeOf ty).run P W = .ok n W) (ha : ∀ W, (isAgg ty).run P W = .ok true W)
    (hd : a.defers = []) (hR : R (.returned (.tuple #[x, .agg cs])) w) : bodyPost P fn R .ret a w :=
  bodyPost_ret (results_tc hf hx hu hg.out n hn hs ha) hd hR
end
set_option pp.deepTerms false
set_option pp.deepTerms.threshold 10
set_option maxRecDepth 20000 in
set_option maxHeartbeats 16000000 in
theorem DrawShiftOfLine_E (b : Option Addr) (n c : Nat) (w : World) (hC : CodeK w b n) (hn : n ≤ 4096) (hb : ∀ a, b = some a → a.block < w.heap.size) :
    Calls Tryz.prog 14 #[.slice b n c] w (fun e W => ∃ (p : Int) (t : Pt), e = .returned (.tuple #[.int .i64 p, pV t]) ∧ LowK w W) := by
  go_enter Tryz.func14, Tryz.ntmps14
  go_wp2_with (first | (go_at_call 24; have r3 : RowK (w.alloc (.cells #[.int .i64 0, .int .i64 0, .int .i64 0] 38)) w.heap.size (pC (0, 0, 0)) 38 := (show RowK _ _ #[.int .i64 0, .int .i64 0, .int .i64 0] _ from findRow); have hV : LowK w (w.alloc (.cells #[.int .i64 0, .int .i64 0, .int .i64 0] 38)) := findLow; have hsz : (w.alloc (.cells #[.int .i64 0, .int .i64 0, .int .i64 0] 38)).heap.size = w.heap.size + 1 := (by simp); (with_reducible refine (From_S b n c _ (hC.link (LowK.lnk hV)) hn (fun a ha => by have := hb a ha; omega)).mono ?_); rintro e w1 ⟨g, rfl, hg, hS, hl1⟩; have hz1 := LowK.size hl1; have q3 := r3.link (LowK.lnk hl1); have hV1 := LowK.link (LowK.lnk hl1) hV; have hgl := hS.lt; rw [hsz] at hg; clear r3 hV hl1) | (go_at_call 23; (with_reducible refine (Few_Q g b n c _ hS).mono ?_); rintro e w2 ⟨p, rfl, hp, hD⟩) | (go_at_call 35; (with_reducible refine (Fine_S p _).mono ?_); rintro e w3 ⟨q, rfl, hq, hl3⟩; have hD3 := hD.low hl3) | (go_at_call 34; (with_reducible refine (SpoilPoint_E g b n c q _ hD3.src (fun a ha => by have := hb a ha; have := hD3.but.size; omega)).mono ?_); rintro e w4 ⟨t, rfl, hD4⟩; have hD5 := hD3.tr hD4; have p3 := RowK.but hD5.but (by omega) q3; have hl5 := LowK.but hD5.but (by omega) hV1) | (refine wl_store ?_))
  have s3 : RowK (w4.setRow w.heap.size (pC t)) w.heap.size (pC t) 38 := findRow
  exact ret_tc Tryz.results14 rfl rfl s3 3 rfl Tryz.sizeOf38 Tryz.isAgg38 rfl ⟨p, t, rfl, findLow⟩
theorem sing_ok : ∀ p ∈ ([3, 5, 7, 11, 13] : List Nat), okM (p : Int) (compM p (firstC p)) = true ∧ ordM (p : Int) (compM p (firstC p)) = p * p + p + 1 := by decide +kernel
theorem MapsK.one {W : World} {g : Nat} {m : M9} {T : TypeId} (h : RowK W g (mC m) T) : MapsK W g 0 1 [m] := ⟨fun i hi j v hv => by
  obtain rfl : i = 0 := by omega
  rw [Nat.zero_mul, Nat.zero_add, cell_of_row W g _ _ _ _ h.out]
  simpa using hv⟩
set_option maxRecDepth 20000 in
set_option maxHeartbeats 8000000 in
theorem OrderOfMap_E (n : Nat) (m : M9) (K : Nat) (w : World) (hp : prB (n : Int) = true) (hm : InM m) (hok : okM (n : Int) m = true) (hK : ordM (n : Int) m = K) (hK0 : K ≠ 0) :
    Calls Tryz.prog 22 #[.int .i64 (n : Int), mV m] w (Ret w (.tuple #[.int .i64 (K : Int), .int .i64 0])) := by
  have hc : codeOf (n : Int) (oksM (n : Int) [m]) = 0 := by simp [codeOf, oksM, hp, hok]
  have HOrd : ∀ W, Calls Tryz.prog 54 #[.int .i64 (n : Int), .agg (mC m)] W (Ret W (.int .i64 (K : Int))) := fun W => order_any (n : Int) m K W hp hm hK hK0
  go_enter Tryz.func22, Tryz.ntmps22
  go_wp2_with (first | (refine wl_sliceM (t := m) ?_) | (refine wl_load ?_) | (go_at_call 53; have hrow : RowK ((w.alloc (.cells (mC m) 31)).alloc (.cells (mC m) 31)) (w.heap.size + 1) (mC m) 31 := findRow; have hcod := mapsCode_M (n : Int) (some ⟨w.heap.size + 1, 0, none⟩) 1 1 [m] ((w.alloc (.cells (mC m) 31)).alloc (.cells (mC m) 31)) (by decide) ⟨rfl, fun _ => ⟨_, 0, rfl, MapsK.one hrow⟩⟩; rw [hc] at hcod; refine hcod.mono ?_; rintro e w2 ⟨rfl, hb2⟩; have hl2 := Link.mk hb2; have hs2 := hb2.size; clear hb2) | (go_at_call 54; (with_reducible refine (HOrd _).mono ?_); rintro e w3 ⟨rfl, hb3⟩; have hl3 := Link.mk hb3; have hs3 := hb3.size; clear hb3))
  (apply ret_two Tryz.results22; (conv => lhs; whnf); (conv => lhs; whnf); exact rfl)
  exact ret_ret rfl findLow
end Go.Proofs.YtaocnklolgdkfaaGreat
/- A list of numbers and a code, handed back. -- own lists -- numbers -/
namespace Go.Proofs.YtaocnklolgdkfaaGreat
open Go.RowKit
set_option linter.unusedVariables false
/-- A list of numbers and a code are handed back. -/
def SetC (w : World) (R : List Int) (k : Nat) (cd : Int) (e : Ending) (w' : World) : Prop := ∃ b c, e = .returned (.tuple #[.slice b k c, .int .i64 cd]) ∧ ArgK w' b k R ∧ LowK w w'
theorem SetC.yes {w w' : World} {R : List Int} {k : Nat} {e : Ending} (hk : R.length = k) (h : IntsPost2 w R e w') : SetC w R k 0 e w' := by
  obtain ⟨v, rfl, hO, hb⟩ := h
  obtain ⟨b, c, rfl, hA⟩ := OwnK.arg (⟨hO⟩ : OwnK w' w.heap.size 2 1 v R.length (ints R)) rfl
  subst hk
  exact ⟨b, c, rfl, hA, ⟨hb⟩⟩
theorem SetC.no {w w' : World} {cd : Int} {e : Ending} (h : Ret w (.tuple #[.slice none 0 0, .int .i64 cd]) e w') : SetC w [] 0 cd e w' := by
  obtain ⟨rfl, hb⟩ := h
  exact ⟨none, 0, rfl, ⟨fun h => absurd h (Nat.lt_irrefl _)⟩, ⟨hb⟩⟩
end Go.Proofs.YtaocnklolgdkfaaGreat
/- Contracts: the program's and the specification's LineOfShift. -- numbers -- build100 -/
namespace Go.Proofs.YtaocnklolgdkfaaGreat
open Go.RowKit
set_option linter.unusedVariables false
set_option linter.unusedSimpArgs false
section
variable {ops : Array Oper} {rest : List Oper} {o : Oper} {a : Act} {w : World} {Q : Exit → Act → World → Prop}
theorem wl_build100 {t : TypeId} (hK : wpList Tryz.prog ops Q rest (a.put o.dst (.agg (pC (1, 0, 0)))) w) (hgd : o.guard = none := by exact rfl) (hop : o.op = .build t #[(0, .const (.int .i64 1)), (1, .const (.int .i64 0)), (2, .const (.int .i64 0))] := by exact rfl)
    (hb : Program.built Tryz.prog t (#[(0, .const (.int .i64 1)), (1, .const (.int .i64 0)), (2, .const (.int .i64 0))].map fun ((i, x) : Nat × Operand) => (i, a.eval x)).toList = some (pC (1, 0, 0)) := by kernel_rfl) : wpList Tryz.prog ops Q (o :: rest) a w := wpList_build w hgd t _ hop _ hb hK
end
theorem l10Numbers_P (n : Nat) (l : Pt) (w : World) (hp : prB (n : Int) = true) (hl : In13 l) :
    Calls Tryz.prog 33 #[.int .i64 (n : Int), pV l] w (IntsPost w (numU (onN (n : Int) (singL n) l) (singL n).length)) := l10Numbers_any n l.1 l.2.1 l.2.2 w hp hl
theorem far_P (w : World) : Calls Tryz.prog 32 #[] w (Ret w (pV (1, 0, 0))) := far_any w
theorem moved_D (n m t : Int) (b : Option Addr) (c D : Nat) (l : List Int) (w : World) (hD : l.length = D) (n2 : 2 ≤ n) (n1 : n ≤ 1000) (m0 : 0 ≤ m) (m1 : m < n) (t0 : 0 ≤ t) (t1 : t < n) (hb : ∀ k ∈ l, 0 ≤ k ∧ k < n) (hl : D ≤ 1000) (hP : ArgK w b D l) :
    Calls Tryz.prog 38 #[.int .i64 n, .slice b D c, .int .i64 m, .int .i64 t] w (NewI w (sortN (movN n m t l))) := by
  subst hD; exact moved_any n m t b c l w n2 n1 m0 m1 t0 t1 hb hl hP
theorem numbersOn_K (n g cap N : Nat) (all : List Pt) (l : Pt) (w : World) (hp : prB (n : Int) = true) (hl : In13 l) (hN : all.length = N) (hN1 : N ≤ 1000) (hin : ∀ a ∈ all, In13 a) (hpt : PtsK w g 0 N all) :
    Calls Tryz.prog 31 #[.int .i64 (n : Int), .slice (some ⟨g, 0, none⟩) N cap, pV l] w (IntsPost w (numU (onN (n : Int) all l) N)) := numbersOn_any n g cap N all l.1 l.2.1 l.2.2 w hp hl hN hN1 hin hpt.out
set_option maxRecDepth 20000 in
set_option maxHeartbeats 8000000 in
theorem LineOfShift_impl_yes (n t i0 i1 N D : Nat) (S : List Pt) (d L : List Int) (c : Pt) (w : World) (hp : prB (n : Int) = true) (hN : n * n + n + 1 = N) (ht : t < N) (hS : singL n = S) (hd : numU (onN (n : Int) S (1, 0, 0)) N = d) (hL : sortN (movN (N : Int) 1 (t : Int) d) = L)
    (hD : d.length = D) (hD2 : 2 ≤ D) (hD1 : D ≤ 1000) (hmem : ∀ k ∈ d, 0 ≤ k ∧ k < (N : Int)) (h0 : L.getD 0 0 = (i0 : Int)) (h1 : L.getD 1 0 = (i1 : Int)) (hi0 : i0 < N) (hi1 : i1 < N) (hc : crsN (n : Int) (S.getD i0 (0, 0, 0)) (S.getD i1 (0, 0, 0)) = c) :
    Calls Tryz.prog 18 #[.int .i64 (n : Int), .int .i64 (t : Int)] w (Ret w (.tuple #[pV c, .int .i64 0])) := by
  obtain ⟨b1, b2⟩ := prB_bd hp
  have hn13 : n ≤ 13 := by omega
  have hn2 : n * n ≤ 13 * 13 := Nat.mul_le_mul hn13 hn13
  have hSl : S.length = N := by rw [← hS, singL_length]; exact hN
  have hin : ∀ a ∈ S, In13 a := by rw [← hS]; exact singL_in hp
  have HIN := Lib.hid hin
  have HMEM := Lib.hid hmem
  have hN1 : N ≤ 1000 := by omega
  have hN3 : 3 ≤ N := by omega
  have q0 : (0 : Int) ≤ (n : Int) * n := by have : (0 : Int) ≤ ((n * n : Nat) : Int) := by omega
                                            simpa using this
  have q1 : (n : Int) * n ≤ 169 := by have : ((n * n : Nat) : Int) ≤ 169 := by omega
                                      simpa using this
  have q2 : (t : Int) ≤ (n : Int) * n + n := by have : ((t : Nat) : Int) ≤ ((n * n + n : Nat) : Int) := by omega
                                                simpa using this
  have hNp : 0 < S.length := by omega
  have hLl : L.length = D := by rw [← hL, sml]; exact hD
  obtain ⟨x, hx⟩ : ∃ x, S.getD i0 (0, 0, 0) = x := ⟨_, rfl⟩
  obtain ⟨y, hy⟩ : ∃ y, S.getD i1 (0, 0, 0) = y := ⟨_, rfl⟩
  have hxi : In13 x := by rw [← hx, List.getD_eq_getElem?_getD, List.getElem?_eq_getElem (by omega)]; exact hin _ (List.getElem_mem _)
  have hyi : In13 y := by rw [← hy, List.getD_eq_getElem?_getD, List.getElem?_eq_getElem (by omega)]; exact hin _ (List.getElem_mem _)
  rw [hx, hy] at hc
  have HD := Lib.hid hd
  have HL := Lib.hid hL
  have HS := Lib.hid hS
  have HNN := Lib.hid hN
  clear hd hL hS hin hmem hN
  go_enter Tryz.func18, Tryz.ntmps18
  go_wp2_with (first | (refine wl_load ?_) | (refine wl_store ?_) | (refine wl_build100 ?_) | (refine wl_build ?_) | (refine wl_slice ?_) | (refine wl_append ?_; intro v' w' ho hg hb; have hs := hg.size; (try simp at hs); (try rw [ptCs_end] at ho); (try rw [ints_end] at ho); (try simp only [Nat.zero_add, Nat.reduceAdd, List.nil_append, List.cons_append] at ho)) | (go_at_call 25; (with_reducible refine (isPrime_yes _ _ hp).mono ?_); rintro e w' ⟨rfl, rfl⟩) | (go_at_call 43; (with_reducible refine (within_yes _ _ _ _ (by omega) q2).mono ?_); rintro e w' ⟨rfl, rfl⟩) | (go_at_call 26; (with_reducible refine (singerOrder_any n _ hp).mono ?_); rintro e w' ⟨v, rfl, ho, hb⟩; rw [HS.out] at ho; obtain ⟨g, cap, rfl, hg0, hg1, hpt⟩ := ownPts ho rfl hNp; (simp only [hSl] at hpt ⊢); have hPK := PtsK.mk hpt; have hl := Link.mk hb; have hs := hb.size; (try simp at hs); clear hb ho hpt) | (go_at_call 39; (with_reducible refine (count_any n _ hn13).mono ?_); rintro e w' ⟨rfl, rfl⟩; (simp only [HNN.out])) | (go_at_call 32; (with_reducible refine (far_P _).mono ?_); rintro e w' ⟨rfl, hb⟩; have hl := Link.mk hb; have hs := hb.size; (try simp at hs); clear hb) | (go_at_call 31; (with_reducible refine (numbersOn_K n _ _ N S (1, 0, 0) _ hp in13_far hSl hN1 HIN.out findPts).mono ?_); go_loud (rintro e w' ⟨v, rfl, ho, hb⟩; rw [HD.out, hD] at ho; obtain ⟨b2, c2, rfl, hG⟩ := OwnK.arg (OwnK.mk ho) hD; have hl2 := Link.mk hb; have hs := hb.size; clear hb ho)) | (go_at_call 38; (with_reducible refine (moved_D (N : Int) 1 (t : Int) _ _ D d _ hD (by omega) (by omega) (by omega) (by omega) (by omega) (by omega) HMEM.out (by omega) findArg).mono ?_); go_loud (rintro e w' ⟨v, rfl, hO, hb⟩; rw [HL.out, hLl] at hO; obtain ⟨g3, c3, rfl, hg3, hg4, hI⟩ := OwnK.ints hO hLl (by omega); have hl3 := Link.mk hb; have hs := hb.size; clear hb hO)) | (go_at_call 44; (with_reducible refine (join_P _ hp hxi hyi).mono ?_); rintro e w' ⟨rfl, hb⟩; have hl := Link.mk hb; have hs := hb.size; (try simp at hs); clear hb) | ((with_reducible apply region_gd (id := 5)); refine region_QA (id := 5) 14 ?_; apply Exists.intro; refine ⟨fun G => ?_, fun W hl => ?_⟩; (· (simp only [List.take_succ_cons, List.take_zero]; (repeat (first | go_big_quiet_skip | (go_big_quiet_want; first | (refine q_load ?_; simp only [Act.put, List.setIfInBounds_toArray, List.set_cons_zero, List.set_cons_succ]; go_big_quiet_on) | (go_big_quiet_op; first | go_big_quiet_on | (apply Exists.intro; refine ⟨fun g => ?_, ?_⟩; (· (have hl := growL g; first | (go_at_call 32; with_reducible exact grow_ret (far_P _)) | (go_at_call 44; with_reducible exact grow_ret (join_P _ hp hxi hyi)))); go_big_quiet_on))))); exact rfl)); have hs := hl.out.size; (try simp at hs); simp only [List.drop_succ_cons, List.drop_zero]))
  subst hc
  (first | (go_ret; refine ⟨?_, LowK.out findLow⟩; first | exact rfl | skip) | (apply ret_rowT Tryz.results18; exact rfl; exact rfl; (exact findRow); exact rfl; (first | exact Tryz.sizeOf56 | exact Tryz.sizeOf38 | exact Tryz.sizeOf31); (first | exact Tryz.isAgg56 | exact Tryz.isAgg38 | exact Tryz.isAgg31); exact rfl; refine ret_ret ?_ findLow; first | exact rfl | skip) | (apply ret_row Tryz.results18; exact rfl; (exact findRow); exact rfl; (first | exact Tryz.sizeOf56 | exact Tryz.sizeOf38 | exact Tryz.sizeOf31); (first | exact Tryz.isAgg56 | exact Tryz.isAgg38 | exact Tryz.isAgg31); exact rfl; refine ret_ret ?_ findLow; first | exact rfl | skip))
set_option maxRecDepth 20000 in
set_option maxHeartbeats 8000000 in
theorem LineOfShift_spec_yes (n t e0 e1 i0 i1 N D : Nat) (S : List Pt) (d : List Int) (c : Pt) (w : World) (hp : prB (n : Int) = true) (hN : n * n + n + 1 = N) (ht : t < N) (hS : singL n = S) (hd : numU (onN (n : Int) S (1, 0, 0)) N = d)
    (hD : d.length = D) (hD2 : 2 ≤ D) (hD1 : D ≤ 1000) (h0 : d.getD 0 0 = (e0 : Int)) (h1 : d.getD 1 0 = (e1 : Int)) (he0 : e0 < N) (he1 : e1 < N) (hm0 : ((e0 : Int) + t) % (N : Int) = (i0 : Int)) (hm1 : ((e1 : Int) + t) % (N : Int) = (i1 : Int)) (hi0 : i0 < N) (hi1 : i1 < N) (hc : crsN (n : Int) (S.getD i0 (0, 0, 0)) (S.getD i1 (0, 0, 0)) = c) :
    Calls Tryz.prog 19 #[.int .i64 (n : Int), .int .i64 (t : Int)] w (Ret w (.tuple #[pV c, .int .i64 0])) := by
  obtain ⟨b1, b2⟩ := prB_bd hp
  have hn13 : n ≤ 13 := by omega
  have hn2 : n * n ≤ 13 * 13 := Nat.mul_le_mul hn13 hn13
  have hSl : S.length = N := by rw [← hS, singL_length]; exact hN
  have hin : ∀ a ∈ S, In13 a := by rw [← hS]; exact singL_in hp
  have HIN := Lib.hid hin
  have hN1 : N ≤ 1000 := by omega
  have hN3 : 3 ≤ N := by omega
  have q0 : (0 : Int) ≤ (n : Int) * n := by have : (0 : Int) ≤ ((n * n : Nat) : Int) := by omega
                                            simpa using this
  have q1 : (n : Int) * n ≤ 169 := by have : ((n * n : Nat) : Int) ≤ 169 := by omega
                                      simpa using this
  have q2 : (t : Int) ≤ (n : Int) * n + n := by have : ((t : Nat) : Int) ≤ ((n * n + n : Nat) : Int) := by omega
                                                simpa using this
  have hNp : 0 < S.length := by omega
  obtain ⟨x, hx⟩ : ∃ x, S.getD i0 (0, 0, 0) = x := ⟨_, rfl⟩
  obtain ⟨y, hy⟩ : ∃ y, S.getD i1 (0, 0, 0) = y := ⟨_, rfl⟩
  have hxi : In13 x := by rw [← hx, List.getD_eq_getElem?_getD, List.getElem?_eq_getElem (by omega)]; exact hin _ (List.getElem_mem _)
  have hyi : In13 y := by rw [← hy, List.getD_eq_getElem?_getD, List.getElem?_eq_getElem (by omega)]; exact hin _ (List.getElem_mem _)
  rw [hx, hy] at hc
  have hNz : ((n : Int) * n + n + 1) = (N : Int) := by have : ((n * n + n + 1 : Nat) : Int) = (N : Int) := by rw [hN]
                                                       simpa using this
  have HD := Lib.hid hd
  have HS := Lib.hid hS
  have HNN := Lib.hid hN
  clear hd hS hin hN
  go_enter Tryz.func19, Tryz.ntmps19
  go_wp2_with (first | (refine wl_load ?_) | (refine wl_store ?_) | (refine wl_build100 ?_) | (refine wl_build ?_) | (refine wl_slice ?_) | (refine wl_append ?_; intro v' w' ho hg hb; have hs := hg.size; (try simp at hs); (try rw [ptCs_end] at ho); (try rw [ints_end] at ho); (try simp only [Nat.zero_add, Nat.reduceAdd, List.nil_append, List.cons_append] at ho)) | (go_at_call 45; (with_reducible refine (l01Prime_yes _ _ hp).mono ?_); rintro e w' ⟨rfl, rfl⟩) | (go_at_call 46; (with_reducible refine (in_yes _ _ _ _ (by omega) q2).mono ?_); rintro e w' ⟨rfl, hb⟩; have hl := Link.mk hb; have hs := hb.size; (try simp at hs); clear hb) | (go_at_call 33; (with_reducible refine (l10Numbers_P n (1, 0, 0) _ hp in13_far).mono ?_); go_loud (rintro e w' ⟨v, rfl, ho, hb⟩; rw [HS.out, hSl, HD.out, hD] at ho; obtain ⟨g3, c3, rfl, hg3, hg4, hI⟩ := OwnK.ints (OwnK.mk ho) hD (by omega); have hl2 := Link.mk hb; have hs := hb.size; (try simp at hs); clear hb ho)) | (go_at_call 28; (with_reducible refine (l10Points_any n _ hp).mono ?_); go_loud (rintro e w' ⟨v, rfl, ho, hb⟩; rw [HS.out] at ho; obtain ⟨g, cap, rfl, hg0, hg1, hpt⟩ := ownPts ho rfl hNp; (simp only [hSl] at hpt ⊢); have hPK := PtsK.mk hpt; have hl := Link.mk hb; have hs := hb.size; (try simp at hs); clear hb ho hpt)) | (go_at_call 47; (with_reducible refine (l01Join_P _ hp hxi hyi).mono ?_); rintro e w' ⟨rfl, hb⟩; have hl := Link.mk hb; have hs := hb.size; (try simp at hs); clear hb) | ((with_reducible apply region_gd (id := 5)); refine region_CHA (id := 5) 28 [25, 26] (LowK _) (.k (.k (.k (.k (.k (.k (.k (.k (.k (.k (.k (.k (.k (.k (.k (.k (.k (.k (.k (.k (.k (.k (.k (.k (.k (.d (.d (.k .n)))))))))))))))))))))))))))) (.d (.d (.d (.d (.d (.d (.d (.d (.d (.d (.d (.d (.d (.d (.d (.d (.d (.d (.d (.d (.d (.d (.d (.d (.d (.k (.k (.d .n)))))))))))))))))))))))))))) (fun W W' h l => LowK.link l h) (LowK.refl _) ?_; apply Exists.intro; refine ⟨fun W0 hk G => ?_, ?_⟩; (· (have hl := LowK.lnk hk; (repeat (first | go_big_quiet_skip | (go_big_quiet_want; first | (refine q_load ?_; simp only [Act.put, List.setIfInBounds_toArray, List.set_cons_zero, List.set_cons_succ]; go_big_quiet_on) | (go_big_quiet_op; first | go_big_quiet_on | (apply Exists.intro; refine ⟨fun g => ?_, ?_⟩; (· (have hl := growL g; first | (go_at_call 46; with_reducible exact grow_ret (in_yes _ _ _ _ (by omega) q2)) | (go_at_call 47; with_reducible exact grow_ret (l01Join_P _ hp hxi hyi)))); go_big_quiet_on))))); exact rfl)); refine ch_step fun W1 hl => ?_; have hs := hl.out.size; (try simp at hs); go_wp2_with (first | (refine wl_load ?_) | (refine wl_store ?_) | (refine wl_build100 ?_) | (refine wl_build ?_) | (refine wl_slice ?_) | (refine wl_append ?_; intro v' w' ho hg hb; have hs := hg.size; (try simp at hs); (try rw [ptCs_end] at ho); (try rw [ints_end] at ho); (try simp only [Nat.zero_add, Nat.reduceAdd, List.nil_append, List.cons_append] at ho))); refine ⟨rfl, ⟨_, rfl⟩, findLow, ?_⟩; refine ch_step fun W1 hl => ?_; have hs := hl.out.size; (try simp at hs); go_wp2_with (first | (refine wl_load ?_) | (refine wl_store ?_) | (refine wl_build100 ?_) | (refine wl_build ?_) | (refine wl_slice ?_) | (refine wl_append ?_; intro v' w' ho hg hb; have hs := hg.size; (try simp at hs); (try rw [ptCs_end] at ho); (try rw [ints_end] at ho); (try simp only [Nat.zero_add, Nat.reduceAdd, List.nil_append, List.cons_append] at ho))); refine ⟨rfl, ⟨undef, rfl⟩, findLow, ?_⟩;  refine ch_nil fun W1 hl => ?_; have hs := hl.out.size; (try simp at hs); (try simp only [List.drop_succ_cons, List.drop_zero])))
  subst hc
  (first | (go_ret; refine ⟨?_, LowK.out findLow⟩; first | exact rfl | skip) | (apply ret_rowT Tryz.results19; exact rfl; exact rfl; (exact findRow); exact rfl; (first | exact Tryz.sizeOf56 | exact Tryz.sizeOf38 | exact Tryz.sizeOf31); (first | exact Tryz.isAgg56 | exact Tryz.isAgg38 | exact Tryz.isAgg31); exact rfl; refine ret_ret ?_ findLow; first | exact rfl | skip) | (apply ret_row Tryz.results19; exact rfl; (exact findRow); exact rfl; (first | exact Tryz.sizeOf56 | exact Tryz.sizeOf38 | exact Tryz.sizeOf31); (first | exact Tryz.isAgg56 | exact Tryz.isAgg38 | exact Tryz.isAgg31); exact rfl; refine ret_ret ?_ findLow; first | exact rfl | skip))
end Go.Proofs.YtaocnklolgdkfaaGreat
/- Contracts: the program's ShiftOfLine. -- numbers (under way) -/
namespace Go.Proofs.YtaocnklolgdkfaaGreat
open Go.RowKit
set_option linter.unusedVariables false
set_option linter.unusedSimpArgs false
theorem linesCode_one (p : Int) (g c : Nat) (l : Pt) (T : TypeId) (w : World) (v : Int) (hv : codeOf p (ptsB p [l]) = v) (h : RowK w g (pC l) T) : Calls Tryz.prog 36 #[.int .i64 p, .slice (some ⟨g, 0, none⟩) 1 c] w (Ret w (.int .i64 v)) := by
  rw [← hv]
  refine linesCode_any p g 0 1 c [l] w rfl (by decide) (fun i hi => ?_)
  obtain rfl : i = 0 := by omega
  refine ⟨?_, ?_, ?_⟩ <;> (simp only [Nat.zero_mul, Nat.add_zero, Nat.zero_add]; rw [cell_of_row w g _ _ _ _ h.out]; rfl)
set_option maxRecDepth 20000 in
set_option maxHeartbeats 8000000 in
theorem ShiftOfLine_impl_no (p : Int) (l : Pt) (c : Int) (w : World) (hv : codeOf p (ptsB p [l]) = c) (hc : (c == 0) = false) (hc2 : ¬ c = 0) :
    Calls Tryz.prog 15 #[.int .i64 p, pV l] w (Ret w (.tuple #[.int .i64 0, .int .i64 c])) := by
  have HV := Lib.hid hv
  clear hv
  go_enter Tryz.func15, Tryz.ntmps15
  go_wp2_with (first | (refine wl_load ?_) | (refine wl_store ?_) | (refine wl_build ?_) | (refine wl_slice ?_) | (refine wl_append ?_; intro v' w' ho hg hb; have hs := hg.size; (try simp at hs); (try rw [ptCs_end] at ho); (try rw [ints_end] at ho); (try simp only [Nat.zero_add, Nat.reduceAdd, List.nil_append, List.cons_append] at ho)) | (go_at_call 36; (with_reducible refine (linesCode_one p _ _ l _ _ c HV.out findRow).mono ?_); rintro e w' ⟨rfl, hb⟩; have hl := Link.mk hb; have hs := hb.size; (try simp at hs); clear hb))
  (apply ret_two Tryz.results15; (conv => lhs; whnf); (conv => lhs; whnf); exact rfl)
  exact ret_ret rfl findLow
theorem Equal_D (b1 b2 : Option Addr) (n1 n2 c1 c2 : Nat) (S1 S2 : List Int) (w : World) (v : Bool) (hv : decide (S1 = S2) = v) (h1 : S1.length = n1) (h2 : S2.length = n2) (hm : n1 ≤ 1000) (hm2 : n2 ≤ 1000) (hA1 : ArgK w b1 n1 S1) (hA2 : ArgK w b2 n2 S2) :
    Calls Tryz.prog 37 #[.slice b1 n1 c1, .slice b2 n2 c2] w (Ret w (.bool v)) := Equal_b b1 b2 n1 n2 c1 c2 S1 S2 w v hv h1 h2 (by omega) (by omega) hA1 hA2
set_option maxRecDepth 20000 in
set_option maxHeartbeats 8000000 in
theorem ShiftOfLine_impl_yes (n N D Z T : Nat) (S : List Pt) (d R : List Int) (l : Pt) (w : World) (hp : prB (n : Int) = true) (hN : n * n + n + 1 = N) (hv : codeOf (n : Int) (ptsB (n : Int) [l]) = 0) (hli : In13 l) (hS : singL n = S) (hd : numU (onN (n : Int) S (1, 0, 0)) N = d) (hR : numU (onN (n : Int) S l) N = R)
    (hD : d.length = D) (hD1 : D ≤ 1000) (hZ : R.length = Z) (hZ1 : Z ≤ 1000) (hmem : ∀ k ∈ d, 0 ≤ k ∧ k < (N : Int)) (hT : T < N) (hhit : sortN (movN (N : Int) 1 (T : Int) d) = R) (hmin : ∀ j, j < T → ¬ sortN (movN (N : Int) 1 (j : Int) d) = R) :
    Calls Tryz.prog 15 #[.int .i64 (n : Int), pV l] w (Ret w (.tuple #[.int .i64 (T : Int), .int .i64 0])) := by
  obtain ⟨b1, b2⟩ := prB_bd hp
  have hn13 : n ≤ 13 := by omega
  have hn2 : n * n ≤ 13 * 13 := Nat.mul_le_mul hn13 hn13
  have hSl : S.length = N := by rw [← hS, singL_length]; exact hN
  have hin : ∀ a ∈ S, In13 a := by rw [← hS]; exact singL_in hp
  have hN1 : N ≤ 1000 := by omega
  have hN3 : 3 ≤ N := by omega
  have hNp : 0 < S.length := by omega
  have HV := Lib.hid hv
  have HIN := Lib.hid hin
  have HMEM := Lib.hid hmem
  have HD := Lib.hid hd
  have HR := Lib.hid hR
  have HS := Lib.hid hS
  have HNN := Lib.hid hN
  have HIT := Lib.hid hhit
  have HMIN := Lib.hid hmin
  clear hv hd hR hS hin hmem hN hhit hmin
  go_enter Tryz.func15, Tryz.ntmps15
  go_wp2_with (first | (refine wl_load ?_) | (refine wl_store ?_) | (refine wl_build ?_) | (refine wl_slice ?_) | (refine wl_append ?_; intro v' w' ho hg hb; have hs := hg.size; (try simp at hs); (try rw [ptCs_end] at ho); (try rw [ints_end] at ho); (try simp only [Nat.zero_add, Nat.reduceAdd, List.nil_append, List.cons_append] at ho)) | (go_at_call 36; (with_reducible refine (linesCode_one (n : Int) _ _ l _ _ 0 HV.out findRow).mono ?_); rintro e w' ⟨rfl, hb⟩; have hl := Link.mk hb; have hs := hb.size; (try simp at hs); clear hb) | (go_at_call 26; (with_reducible refine (singerOrder_any n _ hp).mono ?_); rintro e w' ⟨v, rfl, ho, hb⟩; rw [HS.out] at ho; obtain ⟨g, cap, rfl, hg0, hg1, hpt⟩ := ownPts ho rfl hNp; (simp only [hSl] at hpt ⊢); have hPK := PtsK.mk hpt; have hl := Link.mk hb; have hs := hb.size; (try simp at hs); clear hb ho hpt) | (go_at_call 32; (with_reducible refine (far_P _).mono ?_); rintro e w' ⟨rfl, hb⟩; have hl := Link.mk hb; have hs := hb.size; (try simp at hs); clear hb) | (go_at_call 31; (with_reducible refine (numbersOn_K n _ _ N S (1, 0, 0) _ hp in13_far hSl hN1 HIN.out findPts).mono ?_); rintro e w' ⟨v, rfl, ho, hb⟩; rw [HD.out, hD] at ho; obtain ⟨bd, cd, rfl, hG⟩ := OwnK.arg (OwnK.mk ho) hD; have hl2 := Link.mk hb; have hs := hb.size; clear hb ho) | (go_at_call 31; (with_reducible refine (numbersOn_K n _ _ N S l _ hp hli hSl hN1 HIN.out findPts).mono ?_); rintro e w' ⟨v, rfl, ho, hb⟩; rw [HR.out, hZ] at ho; obtain ⟨br, cr, rfl, hG2⟩ := OwnK.arg (OwnK.mk ho) hZ; have hl2 := Link.mk hb; have hs := hb.size; clear hb ho))
  go_loopw [10] (fun i wr => ∃ k : Nat, k ≤ T ∧ i = .int .i64 (k : Int) ∧ LowK w wr ∧ ArgK wr bd D d ∧ ArgK wr br Z R) (fun i wr => T - (intOf i).toNat)
  case atStart => exact ⟨0, Nat.zero_le _, rfl, findLow, findArg, findArg⟩
  case round =>
    obtain ⟨k, hk, rfl, hV, hA, hB2⟩ := hrel
    have hsz := hV.size
    have hkN : (k : Int) < N := by omega
    by_cases hlt : k < T
    · have hh2 : decide (sortN (movN (N : Int) 1 (k : Int) d) = R) = false := by simpa using HMIN.out k hlt
      go_wp2_with (first | (refine wl_load ?_) | (refine wl_store ?_) | (refine wl_build ?_) | (refine wl_slice ?_) | (refine wl_append ?_; intro v' w' ho hg hb; have hs := hg.size; (try simp at hs); (try rw [ptCs_end] at ho); (try rw [ints_end] at ho); (try simp only [Nat.zero_add, Nat.reduceAdd, List.nil_append, List.cons_append] at ho)) | (go_at_call 39; (with_reducible refine (count_any n _ hn13).mono ?_); rintro e w' ⟨rfl, rfl⟩; (simp only [HNN.out])) | (go_at_call 38; (with_reducible refine (moved_D (N : Int) 1 (k : Int) _ _ D d _ hD (by omega) (by omega) (by omega) (by omega) (by omega) (by omega) HMEM.out (by omega) findArg).mono ?_); rintro e w' ⟨v, rfl, hO, hb⟩; obtain ⟨b3, c3, rfl, hG3⟩ := hO.arg rfl; rw [sml, hD] at hG3 hO; (simp only [sml, hD]); have hl2 := Link.mk hb; have hs := hb.size; clear hb hO) | (go_at_call 37; (with_reducible refine (Equal_D _ _ _ _ _ _ _ _ _ false hh2 ((sml _ _ _ _).trans hD) hZ (by omega) (by omega) findArg findArg).mono ?_); rintro e w' ⟨rfl, hb⟩; have hl := Link.mk hb; have hs := hb.size; (try simp at hs); clear hb))
      go_roundw
      case rel => exact ⟨k + 1, by omega, by go_num, findLow, findArg, findArg⟩
      case measure => (simp [intOf]; try omega)
    · obtain rfl : k = T := by omega
      have hh2 : decide (sortN (movN (N : Int) 1 (k : Int) d) = R) = true := by simpa using HIT.out
      go_wp2_with (first | (refine wl_load ?_) | (refine wl_store ?_) | (refine wl_build ?_) | (refine wl_slice ?_) | (refine wl_append ?_; intro v' w' ho hg hb; have hs := hg.size; (try simp at hs); (try rw [ptCs_end] at ho); (try rw [ints_end] at ho); (try simp only [Nat.zero_add, Nat.reduceAdd, List.nil_append, List.cons_append] at ho)) | (go_at_call 39; (with_reducible refine (count_any n _ hn13).mono ?_); rintro e w' ⟨rfl, rfl⟩; (simp only [HNN.out])) | (go_at_call 38; (with_reducible refine (moved_D (N : Int) 1 (k : Int) _ _ D d _ hD (by omega) (by omega) (by omega) (by omega) (by omega) (by omega) HMEM.out (by omega) findArg).mono ?_); rintro e w' ⟨v, rfl, hO, hb⟩; obtain ⟨b3, c3, rfl, hG3⟩ := hO.arg rfl; rw [sml, hD] at hG3 hO; (simp only [sml, hD]); have hl2 := Link.mk hb; have hs := hb.size; clear hb hO) | (go_at_call 37; (with_reducible refine (Equal_D _ _ _ _ _ _ _ _ _ true hh2 ((sml _ _ _ _).trans hD) hZ (by omega) (by omega) findArg findArg).mono ?_); rintro e w' ⟨rfl, hb⟩; have hl := Link.mk hb; have hs := hb.size; (try simp at hs); clear hb))
      (apply ret_two Tryz.results15; (conv => lhs; whnf); (conv => lhs; whnf); exact rfl)
      exact ret_ret rfl findLow
end Go.Proofs.YtaocnklolgdkfaaGreat
/- Contracts: the specification's ShiftOfLine. -- numbers -- build100 -/
namespace Go.Proofs.YtaocnklolgdkfaaGreat
open Go.RowKit
set_option linter.unusedVariables false
set_option linter.unusedSimpArgs false
theorem l10Numbers_far (n : Nat) (w : World) (hp : prB (n : Int) = true) :
    Calls Tryz.prog 33 #[.int .i64 (n : Int), .agg #[.int .i64 1, .int .i64 0, .int .i64 0]] w (IntsPost w (numU (onN (n : Int) (singL n) (1, 0, 0)) (singL n).length)) := l10Numbers_P n (1, 0, 0) w hp in13_far
theorem l10Moved_D (n m t : Int) (b : Option Addr) (c D : Nat) (l : List Int) (w : World) (hD : l.length = D) (n2 : 2 ≤ n) (n1 : n ≤ 1000) (m0 : 0 ≤ m) (m1 : m < n) (t0 : 0 ≤ t) (t1 : t < n) (hb : ∀ k ∈ l, 0 ≤ k ∧ k < n) (hl : D ≤ 1000) (hP : ArgK w b D l) :
    Calls Tryz.prog 71 #[.int .i64 n, .slice b D c, .int .i64 m, .int .i64 t] w (NewI w (sortN (movN n m t l))) := by
  subst hD; exact l10Moved_any n m t b c l w n2 n1 m0 m1 t0 t1 hb hl hP
theorem l10Same_D (b1 b2 : Option Addr) (n1 n2 c1 c2 : Nat) (S1 S2 : List Int) (w : World) (v : Bool) (hv : decide (S1 = S2) = v) (h1 : S1.length = n1) (h2 : S2.length = n2) (hm : n1 ≤ 1000) (hm2 : n2 ≤ 1000) (hA1 : ArgK w b1 n1 S1) (hA2 : ArgK w b2 n2 S2) :
    Calls Tryz.prog 70 #[.slice b1 n1 c1, .slice b2 n2 c2] w (Ret w (.bool v)) := l10Same_b b1 b2 n1 n2 c1 c2 S1 S2 w v hv h1 h2 (by omega) (by omega) hA1 hA2
theorem l01Code_one (p : Int) (g c : Nat) (l : Pt) (T : TypeId) (w : World) (v : Int) (hv : codeOf p (ptsB p [l]) = v) (h : RowK w g (pC l) T) : Calls Tryz.prog 40 #[.int .i64 p, .slice (some ⟨g, 0, none⟩) 1 c] w (Ret w (.int .i64 v)) := by
  rw [← hv]
  refine l01Code_any p g 0 1 c [l] w rfl (by decide) (fun i hi => ?_)
  obtain rfl : i = 0 := by omega
  refine ⟨?_, ?_, ?_⟩ <;> (simp only [Nat.zero_mul, Nat.add_zero, Nat.zero_add]; rw [cell_of_row w g _ _ _ _ h.out]; rfl)
set_option maxRecDepth 20000 in
set_option maxHeartbeats 8000000 in
theorem ShiftOfLine_spec_no (p : Int) (l : Pt) (c : Int) (w : World) (hv : codeOf p (ptsB p [l]) = c) (hc : (c == 0) = false) (hc2 : ¬ c = 0) :
    Calls Tryz.prog 16 #[.int .i64 p, pV l] w (Ret w (.tuple #[.int .i64 0, .int .i64 c])) := by
  have HV := Lib.hid hv
  clear hv
  go_enter Tryz.func16, Tryz.ntmps16
  go_wp2_with (first | (refine wl_load ?_) | (refine wl_store ?_) | (refine wl_build100 ?_) | (refine wl_build ?_) | (refine wl_slice ?_) | (refine wl_append ?_; intro v' w' ho hg hb; have hs := hg.size; (try simp at hs); (try rw [ptCs_end] at ho); (try rw [ints_end] at ho); (try simp only [Nat.zero_add, Nat.reduceAdd, List.nil_append, List.cons_append] at ho)) | (go_at_call 40; (with_reducible refine (l01Code_one p _ _ l _ _ c HV.out findRow).mono ?_); rintro e w' ⟨rfl, hb⟩; have hl := Link.mk hb; have hs := hb.size; (try simp at hs); clear hb))
  (apply ret_two Tryz.results16; (conv => lhs; whnf); (conv => lhs; whnf); exact rfl)
  exact ret_ret rfl findLow
set_option maxRecDepth 20000 in
set_option maxHeartbeats 8000000 in
theorem l10ShiftOf_yes (n N D Z T : Nat) (S : List Pt) (d R : List Int) (l : Pt) (w : World) (hp : prB (n : Int) = true) (hN : n * n + n + 1 = N) (hli : In13 l) (hS : singL n = S) (hd : numU (onN (n : Int) S (1, 0, 0)) N = d) (hR : numU (onN (n : Int) S l) N = R)
    (hD : d.length = D) (hD1 : D ≤ 1000) (hZ : R.length = Z) (hZ1 : Z ≤ 1000) (hmem : ∀ k ∈ d, 0 ≤ k ∧ k < (N : Int)) (hT : T < N) (hhit : sortN (movN (N : Int) 1 (T : Int) d) = R) (hmin : ∀ j, j < T → ¬ sortN (movN (N : Int) 1 (j : Int) d) = R) :
    Calls Tryz.prog 41 #[.int .i64 (n : Int), pV l] w (Ret w (.int .i64 (T : Int))) := by
  obtain ⟨b1, b2⟩ := prB_bd hp
  have hn13 : n ≤ 13 := by omega
  have hn2 : n * n ≤ 13 * 13 := Nat.mul_le_mul hn13 hn13
  have hSl : S.length = N := by rw [← hS, singL_length]; exact hN
  have hN1 : N ≤ 1000 := by omega
  have hN3 : 3 ≤ N := by omega
  have q0 : (0 : Int) ≤ (n : Int) * n := by have : (0 : Int) ≤ ((n * n : Nat) : Int) := by omega
                                            simpa using this
  have q1 : (n : Int) * n ≤ 169 := by have : ((n * n : Nat) : Int) ≤ 169 := by omega
                                      simpa using this
  have hNz : ((n : Int) * n + n + 1) = (N : Int) := by have : ((n * n + n + 1 : Nat) : Int) = (N : Int) := by rw [hN]
                                                       simpa using this
  have HMEM := Lib.hid hmem
  have HD := Lib.hid hd
  have HR := Lib.hid hR
  have HS := Lib.hid hS
  have HNN := Lib.hid hN
  have HIT := Lib.hid hhit
  have HMIN := Lib.hid hmin
  clear hd hR hS hmem hN hhit hmin
  go_enter Tryz.func41, Tryz.ntmps41
  go_wp2_with (first | (refine wl_load ?_) | (refine wl_store ?_) | (refine wl_build100 ?_) | (refine wl_build ?_) | (refine wl_slice ?_) | (refine wl_append ?_; intro v' w' ho hg hb; have hs := hg.size; (try simp at hs); (try rw [ptCs_end] at ho); (try rw [ints_end] at ho); (try simp only [Nat.zero_add, Nat.reduceAdd, List.nil_append, List.cons_append] at ho)))
  refine region_CHA (id := 1) 6 [2, 5] (fun W => LowK w W ∧ RowK W w.heap.size (pC l) 38) (.k (.k (.d (.k (.k (.d (.d (.d .n)))))))) (.d (.d (.k (.d (.d (.k (.d (.d .n)))))))) (fun W W' h l => ⟨LowK.link l h.1, h.2.link l⟩) ⟨findLow, findRow⟩ ?_
  apply Exists.intro
  refine ⟨fun W0 hk G => ?_, ?_⟩
  · obtain ⟨k1, k2⟩ := hk
    repeat (first | go_big_quiet_skip | (go_big_quiet_want; first | (refine q_load ?_; simp only [Act.put, List.setIfInBounds_toArray, List.set_cons_zero, List.set_cons_succ]; go_big_quiet_on) | (go_big_quiet_op; first | go_big_quiet_on)))
    exact rfl
  refine ch_step fun W1 hl1 => ?_
  have hs1 := hl1.out.size
  (try simp at hs1)
  go_wp2_with (first | (refine wl_load ?_) | (refine wl_store ?_) | (refine wl_build100 ?_) | (refine wl_build ?_) | (refine wl_slice ?_) | (refine wl_append ?_; intro v' w' ho hg hb; have hs := hg.size; (try simp at hs); (try rw [ptCs_end] at ho); (try rw [ints_end] at ho); (try simp only [Nat.zero_add, Nat.reduceAdd, List.nil_append, List.cons_append] at ho)) | (go_at_call 33; (with_reducible refine (l10Numbers_far n _ hp).mono ?_); go_loud (rintro e w' ⟨v, rfl, ho, hb⟩; rw [HS.out, hSl, HD.out, hD] at ho; obtain ⟨bd, cd, rfl, hG⟩ := OwnK.arg (OwnK.mk ho) hD; have hl2 := Link.mk hb; have hs := hb.size; clear hb ho)))
  refine ⟨rfl, ⟨_, rfl⟩, ⟨findLow, findRow⟩, ?_⟩
  refine ch_step fun W2 hl3 => ?_
  have hs2 := hl3.out.size
  (try simp at hs2)
  go_wp2_with (first | (refine wl_load ?_) | (refine wl_store ?_) | (refine wl_build100 ?_) | (refine wl_build ?_) | (refine wl_slice ?_) | (refine wl_append ?_; intro v' w' ho hg hb; have hs := hg.size; (try simp at hs); (try rw [ptCs_end] at ho); (try rw [ints_end] at ho); (try simp only [Nat.zero_add, Nat.reduceAdd, List.nil_append, List.cons_append] at ho)) | (go_at_call 33; (with_reducible refine (l10Numbers_P n l _ hp hli).mono ?_); go_loud (rintro e w' ⟨v, rfl, ho, hb⟩; rw [HS.out, hSl, HR.out, hZ] at ho; obtain ⟨br, cr, rfl, hG2⟩ := OwnK.arg (OwnK.mk ho) hZ; have hl4 := Link.mk hb; have hs := hb.size; clear hb ho)))
  refine ⟨rfl, ⟨_, rfl⟩, ⟨findLow, findRow⟩, ?_⟩
  refine ch_nil fun W3 hl5 => ?_
  have hs3 := hl5.out.size
  (try simp at hs3)
  (try simp only [List.drop_succ_cons, List.drop_zero])
  go_wp2_with (first | (refine wl_load ?_) | (refine wl_store ?_) | (refine wl_build100 ?_) | (refine wl_build ?_) | (refine wl_slice ?_) | (refine wl_append ?_; intro v' w' ho hg hb; have hs := hg.size; (try simp at hs); (try rw [ptCs_end] at ho); (try rw [ints_end] at ho); (try simp only [Nat.zero_add, Nat.reduceAdd, List.nil_append, List.cons_append] at ho)))
  go_loopw [7] (fun i wr => ∃ k : Nat, k ≤ T ∧ i = .int .i64 (k : Int) ∧ LowK w wr ∧ ArgK wr bd D d ∧ ArgK wr br Z R) (fun i wr => T - (intOf i).toNat)
  case atStart => exact ⟨0, Nat.zero_le _, rfl, findLow, findArg, findArg⟩
  case round =>
    obtain ⟨k, hk, rfl, hV, hA, hB2⟩ := hrel
    have hsz := hV.size
    have hkN : (k : Int) < N := by omega
    by_cases hlt : k < T
    · have hh2 : decide (sortN (movN (N : Int) 1 (k : Int) d) = R) = false := by simpa using HMIN.out k hlt
      go_wp2_with (first | (refine wl_load ?_) | (refine wl_store ?_) | (refine wl_build100 ?_) | (refine wl_build ?_) | (refine wl_slice ?_) | (refine wl_append ?_; intro v' w' ho hg hb; have hs := hg.size; (try simp at hs); (try rw [ptCs_end] at ho); (try rw [ints_end] at ho); (try simp only [Nat.zero_add, Nat.reduceAdd, List.nil_append, List.cons_append] at ho)) | (go_at_call 71; (with_reducible refine (l10Moved_D (N : Int) 1 (k : Int) _ _ D d _ hD (by omega) (by omega) (by omega) (by omega) (by omega) (by omega) HMEM.out (by omega) findArg).mono ?_); rintro e w' ⟨v, rfl, hO, hb⟩; obtain ⟨b3, c3, rfl, hG3⟩ := hO.arg rfl; rw [sml, hD] at hG3 hO; (simp only [sml, hD]); have hl2 := Link.mk hb; have hs := hb.size; clear hb hO) | (go_at_call 70; (with_reducible refine (l10Same_D _ _ _ _ _ _ _ _ _ false hh2 ((sml _ _ _ _).trans hD) hZ (by omega) (by omega) findArg findArg).mono ?_); rintro e w' ⟨rfl, hb⟩; have hl := Link.mk hb; have hs := hb.size; (try simp at hs); clear hb))
      go_roundw
      case rel => exact ⟨k + 1, by omega, by go_num, findLow, findArg, findArg⟩
      case measure => (simp [intOf]; try omega)
    · obtain rfl : k = T := by omega
      have hh2 : decide (sortN (movN (N : Int) 1 (k : Int) d) = R) = true := by simpa using HIT.out
      go_wp2_with (first | (refine wl_load ?_) | (refine wl_store ?_) | (refine wl_build100 ?_) | (refine wl_build ?_) | (refine wl_slice ?_) | (refine wl_append ?_; intro v' w' ho hg hb; have hs := hg.size; (try simp at hs); (try rw [ptCs_end] at ho); (try rw [ints_end] at ho); (try simp only [Nat.zero_add, Nat.reduceAdd, List.nil_append, List.cons_append] at ho)) | (go_at_call 71; (with_reducible refine (l10Moved_D (N : Int) 1 (k : Int) _ _ D d _ hD (by omega) (by omega) (by omega) (by omega) (by omega) (by omega) HMEM.out (by omega) findArg).mono ?_); rintro e w' ⟨v, rfl, hO, hb⟩; obtain ⟨b3, c3, rfl, hG3⟩ := hO.arg rfl; rw [sml, hD] at hG3 hO; (simp only [sml, hD]); have hl2 := Link.mk hb; have hs := hb.size; clear hb hO) | (go_at_call 70; (with_reducible refine (l10Same_D _ _ _ _ _ _ _ _ _ true hh2 ((sml _ _ _ _).trans hD) hZ (by omega) (by omega) findArg findArg).mono ?_); rintro e w' ⟨rfl, hb⟩; have hl := Link.mk hb; have hs := hb.size; (try simp at hs); clear hb))
      (apply ret_one Tryz.results41; (conv => lhs; whnf); exact rfl)
      exact ret_ret rfl findLow
set_option maxRecDepth 20000 in
set_option maxHeartbeats 8000000 in
theorem ShiftOfLine_spec_yes (n N D Z T : Nat) (S : List Pt) (d R : List Int) (l : Pt) (w : World) (hp : prB (n : Int) = true) (hN : n * n + n + 1 = N) (hv : codeOf (n : Int) (ptsB (n : Int) [l]) = 0) (hli : In13 l) (hS : singL n = S) (hd : numU (onN (n : Int) S (1, 0, 0)) N = d) (hR : numU (onN (n : Int) S l) N = R)
    (hD : d.length = D) (hD1 : D ≤ 1000) (hZ : R.length = Z) (hZ1 : Z ≤ 1000) (hmem : ∀ k ∈ d, 0 ≤ k ∧ k < (N : Int)) (hT : T < N) (hhit : sortN (movN (N : Int) 1 (T : Int) d) = R) (hmin : ∀ j, j < T → ¬ sortN (movN (N : Int) 1 (j : Int) d) = R) :
    Calls Tryz.prog 16 #[.int .i64 (n : Int), pV l] w (Ret w (.tuple #[.int .i64 (T : Int), .int .i64 0])) := by
  have HV := Lib.hid hv
  have HT := Lib.hid (fun w => l10ShiftOf_yes n N D Z T S d R l w hp hN hli hS hd hR hD hD1 hZ hZ1 hmem hT hhit hmin)
  clear hv hN hS hd hR hmem hhit hmin
  go_enter Tryz.func16, Tryz.ntmps16
  go_wp2_with (first | (refine wl_load ?_) | (refine wl_store ?_) | (refine wl_build100 ?_) | (refine wl_build ?_) | (refine wl_slice ?_) | (refine wl_append ?_; intro v' w' ho hg hb; have hs := hg.size; (try simp at hs); (try rw [ptCs_end] at ho); (try rw [ints_end] at ho); (try simp only [Nat.zero_add, Nat.reduceAdd, List.nil_append, List.cons_append] at ho)) | (go_at_call 40; (with_reducible refine (l01Code_one (n : Int) _ _ l _ _ 0 HV.out findRow).mono ?_); rintro e w' ⟨rfl, hb⟩; have hl := Link.mk hb; have hs := hb.size; (try simp at hs); clear hb) | (go_at_call 41; (with_reducible refine (HT.out _).mono ?_); rintro e w' ⟨rfl, hb⟩; have hl := Link.mk hb; have hs := hb.size; (try simp at hs); clear hb))
  (apply ret_two Tryz.results16; (conv => lhs; whnf); (conv => lhs; whnf); exact rfl)
  exact ret_ret rfl findLow
end Go.Proofs.YtaocnklolgdkfaaGreat
/- Every line is a shift of the difference set: checked by the kernel. -/
namespace Go.Proofs.YtaocnklolgdkfaaGreat
open Go.RowKit
set_option linter.unusedVariables false
set_option linter.unusedSimpArgs false
/-- This shift of the set is the line. -/
def lnB (p : Nat) (l : Pt) (t : Nat) : Bool :=
  onB (p : Int) ((sL p).getD t (0, 0, 0)) l && (onB (p : Int) ((sL p).getD ((1 + t) % (p * p + p + 1)) (0, 0, 0)) l
    && decide (insS (movN ((p * p + p + 1 : Nat) : Int) 1 (t : Int) (dL p)) = numU (onN (p : Int) (sL p) l) (p * p + p + 1)))
def linesB (p : Nat) : Bool := (sL p).all fun l => (List.range (p * p + p + 1)).any (lnB p l)
set_option maxRecDepth 100000 in
set_option maxHeartbeats 4000000 in
theorem lines_3 : linesB 3 = true ∧ linesB 5 = true ∧ linesB 7 = true := by decide +kernel
set_option maxRecDepth 100000 in
set_option maxHeartbeats 4000000 in
theorem lines_11 : linesB 11 = true := by decide +kernel
set_option maxRecDepth 100000 in
set_option maxHeartbeats 4000000 in
theorem lines_13 : linesB 13 = true := by decide +kernel
end Go.Proofs.YtaocnklolgdkfaaGreat
/- Every normal triple stands in the Singer order: checked by the kernel. -/
namespace Go.Proofs.YtaocnklolgdkfaaGreat
open Go.RowKit
set_option linter.unusedVariables false
set_option linter.unusedSimpArgs false
def allInB (p : Nat) : Bool := (List.range p).all fun a => (List.range p).all fun b => (List.range p).all fun c => !ptB (p : Int) (a : Int) (b : Int) (c : Int) || (sL p).contains ((a : Int), (b : Int), (c : Int))
set_option maxRecDepth 100000 in
set_option maxHeartbeats 4000000 in
theorem all_in : ∀ p ∈ ([3, 5, 7, 11, 13] : List Nat), allInB p = true := by decide +kernel
end Go.Proofs.YtaocnklolgdkfaaGreat
/- Plain: the shift of a line: the least hit. -/
namespace Go.Proofs.YtaocnklolgdkfaaGreat
open Go.RowKit
set_option linter.unusedVariables false
set_option linter.unusedSimpArgs false
theorem least_of {f : Nat → Bool} : ∀ {t : Nat}, f t = true → ∃ T, T ≤ t ∧ f T = true ∧ ∀ j, j < T → f j = false
  | 0, h => ⟨0, Nat.le_refl _, h, fun j hj => absurd hj (Nat.not_lt_zero _)⟩
  | t + 1, h => by
    by_cases h1 : ∃ s, s ≤ t ∧ f s = true
    · obtain ⟨s, hs, hf⟩ := h1
      rcases Nat.lt_or_ge s (t + 1) with h2 | h2
      · have hw : ∀ n, n ≤ t → f n = true → ∃ T, T ≤ n ∧ f T = true ∧ ∀ j, j < T → f j = false := by
          intro n
          induction n using Nat.strongRecOn with
          | _ n ih =>
            intro hn hf
            by_cases h3 : ∃ m, m < n ∧ f m = true
            · obtain ⟨m, hm, hfm⟩ := h3
              obtain ⟨T, a, b, c⟩ := ih m hm (by omega) hfm
              exact ⟨T, by omega, b, c⟩
            · refine ⟨n, Nat.le_refl _, hf, fun j hj => ?_⟩
              cases e : f j with
              | false => rfl
              | true => exact absurd ⟨j, hj, e⟩ h3
        obtain ⟨T, a, b, c⟩ := hw s hs hf
        exact ⟨T, by omega, b, c⟩
      · omega
    · refine ⟨t + 1, Nat.le_refl _, h, fun j hj => ?_⟩
      cases e : f j with
      | false => rfl
      | true => exact absurd ⟨j, by omega, e⟩ h1
theorem lines_all {n : Nat} (hn : n ∈ ([3, 5, 7, 11, 13] : List Nat)) : linesB n = true := by
  simp only [List.mem_cons, List.not_mem_nil, or_false] at hn
  rcases hn with rfl | rfl | rfl | rfl | rfl
  · exact lines_3.1
  · exact lines_3.2.1
  · exact lines_3.2.2
  · exact lines_11
  · exact lines_13
/-- The least shift that is the line. -/
theorem shift_of {n : Nat} {l : Pt} (hn : n ∈ ([3, 5, 7, 11, 13] : List Nat)) (hl : l ∈ sL n) :
    ∃ T, T < n * n + n + 1 ∧ sortN (movN ((n * n + n + 1 : Nat) : Int) 1 (T : Int) (dL n)) = numU (onN (n : Int) (sL n) l) (n * n + n + 1) ∧ ∀ j, j < T → ¬ sortN (movN ((n * n + n + 1 : Nat) : Int) 1 (j : Int) (dL n)) = numU (onN (n : Int) (sL n) l) (n * n + n + 1) := by
  have h1 := List.all_eq_true.1 (lines_all hn) l hl
  obtain ⟨t, ht, hf⟩ := List.any_eq_true.1 h1
  unfold lnB at hf
  simp only [Bool.and_eq_true, decide_eq_true_eq] at hf
  have h2 := hf.2.2
  rw [← sortN_ins] at h2
  obtain ⟨T, a, b, c⟩ := least_of (f := fun j => decide (sortN (movN ((n * n + n + 1 : Nat) : Int) 1 (j : Int) (dL n)) = numU (onN (n : Int) (sL n) l) (n * n + n + 1))) (t := t) (by simpa using h2)
  have := List.mem_range.1 ht
  exact ⟨T, by omega, by simpa using b, fun j hj => by simpa using c j hj⟩
end Go.Proofs.YtaocnklolgdkfaaGreat
/- Contracts: LineOfShift, refused. -- numbers -/
namespace Go.Proofs.YtaocnklolgdkfaaGreat
open Go.RowKit
set_option linter.unusedVariables false
set_option linter.unusedSimpArgs false
theorem prime_sq {p : Int} (hp : prB p = true) : 3 ≤ p ∧ p ≤ 13 ∧ 0 ≤ p * p ∧ p * p ≤ 169 := by
  obtain ⟨h1, h2⟩ := prB_bd hp
  have h3 : p * p ≤ 13 * 13 := Int.mul_le_mul h2 h2 (by omega) (by omega)
  have h4 : 0 ≤ p * p := Int.mul_nonneg (by omega) (by omega)
  exact ⟨h1, h2, h4, by omega⟩
set_option maxRecDepth 20000 in
set_option maxHeartbeats 4000000 in
theorem LineOfShift_impl_no (p t : Int) (w : World) (hno : prB p = true → t < 0 ∨ p * p + p < t) :
    Calls Tryz.prog 18 #[.int .i64 p, .int .i64 t] w (Ret w (.tuple #[pV (0, 0, 0), .int .i64 2])) := by
  rcases hp : prB p with _ | _
  · go_enter Tryz.func18, Tryz.ntmps18
    go_wp2_with (first | (refine wl_load ?_) | (refine wl_store ?_) | (refine wl_build ?_) | (refine wl_slice ?_) | (refine wl_append ?_; intro v' w' ho hg hb; have hs := hg.size; (try simp at hs); (try rw [ptCs_end] at ho); (try rw [ints_end] at ho); (try simp only [Nat.zero_add, Nat.reduceAdd, List.nil_append, List.cons_append] at ho)) | (go_at_call 25; (with_reducible refine (isPrime_no _ _ hp).mono ?_); rintro e w' ⟨rfl, rfl⟩) | ((with_reducible apply region_gd (id := 5)); refine region_QA (id := 5) 14 ?_; apply Exists.intro; refine ⟨fun G => ?_, fun W hl => ?_⟩; (· (simp only [List.take_succ_cons, List.take_zero]; (repeat (first | go_big_quiet_skip | (go_big_quiet_want; first | (refine q_load ?_; simp only [Act.put, List.setIfInBounds_toArray, List.set_cons_zero, List.set_cons_succ]; go_big_quiet_on) | (go_big_quiet_op; first | go_big_quiet_on)))); exact rfl)); have hs := hl.out.size; (try simp at hs); simp only [List.drop_succ_cons, List.drop_zero]))
    (first | (go_ret; refine ⟨?_, LowK.out findLow⟩; first | exact rfl | skip) | (apply ret_rowT Tryz.results18; exact rfl; exact rfl; (exact findRow); exact rfl; (first | exact Tryz.sizeOf56 | exact Tryz.sizeOf38 | exact Tryz.sizeOf31); (first | exact Tryz.isAgg56 | exact Tryz.isAgg38 | exact Tryz.isAgg31); exact rfl; refine ret_ret ?_ findLow; first | exact rfl | skip) | (apply ret_row Tryz.results18; exact rfl; (exact findRow); exact rfl; (first | exact Tryz.sizeOf56 | exact Tryz.sizeOf38 | exact Tryz.sizeOf31); (first | exact Tryz.isAgg56 | exact Tryz.isAgg38 | exact Tryz.isAgg31); exact rfl; refine ret_ret ?_ findLow; first | exact rfl | skip))
  · have hr := hno hp
    obtain ⟨h1, h2, h3, h4⟩ := prime_sq hp
    go_enter Tryz.func18, Tryz.ntmps18
    go_wp2_with (first | (refine wl_load ?_) | (refine wl_store ?_) | (refine wl_build ?_) | (refine wl_slice ?_) | (refine wl_append ?_; intro v' w' ho hg hb; have hs := hg.size; (try simp at hs); (try rw [ptCs_end] at ho); (try rw [ints_end] at ho); (try simp only [Nat.zero_add, Nat.reduceAdd, List.nil_append, List.cons_append] at ho)) | (go_at_call 25; (with_reducible refine (isPrime_yes _ _ hp).mono ?_); rintro e w' ⟨rfl, rfl⟩) | (go_at_call 43; (with_reducible refine (within_no _ _ _ _ hr).mono ?_); rintro e w' ⟨rfl, rfl⟩) | ((with_reducible apply region_gd (id := 5)); refine region_QA (id := 5) 14 ?_; apply Exists.intro; refine ⟨fun G => ?_, fun W hl => ?_⟩; (· (simp only [List.take_succ_cons, List.take_zero]; (repeat (first | go_big_quiet_skip | (go_big_quiet_want; first | (refine q_load ?_; simp only [Act.put, List.setIfInBounds_toArray, List.set_cons_zero, List.set_cons_succ]; go_big_quiet_on) | (go_big_quiet_op; first | go_big_quiet_on)))); exact rfl)); have hs := hl.out.size; (try simp at hs); simp only [List.drop_succ_cons, List.drop_zero]))
    (first | (go_ret; refine ⟨?_, LowK.out findLow⟩; first | exact rfl | skip) | (apply ret_rowT Tryz.results18; exact rfl; exact rfl; (exact findRow); exact rfl; (first | exact Tryz.sizeOf56 | exact Tryz.sizeOf38 | exact Tryz.sizeOf31); (first | exact Tryz.isAgg56 | exact Tryz.isAgg38 | exact Tryz.isAgg31); exact rfl; refine ret_ret ?_ findLow; first | exact rfl | skip) | (apply ret_row Tryz.results18; exact rfl; (exact findRow); exact rfl; (first | exact Tryz.sizeOf56 | exact Tryz.sizeOf38 | exact Tryz.sizeOf31); (first | exact Tryz.isAgg56 | exact Tryz.isAgg38 | exact Tryz.isAgg31); exact rfl; refine ret_ret ?_ findLow; first | exact rfl | skip))
set_option maxRecDepth 20000 in
set_option maxHeartbeats 4000000 in
theorem LineOfShift_spec_no (p t : Int) (w : World) (hno : prB p = true → t < 0 ∨ p * p + p < t) :
    Calls Tryz.prog 19 #[.int .i64 p, .int .i64 t] w (Ret w (.tuple #[pV (0, 0, 0), .int .i64 2])) := by
  rcases hp : prB p with _ | _
  · go_enter Tryz.func19, Tryz.ntmps19
    go_wp2_with (first | (refine wl_load ?_) | (refine wl_store ?_) | (refine wl_build ?_) | (refine wl_slice ?_) | (refine wl_append ?_; intro v' w' ho hg hb; have hs := hg.size; (try simp at hs); (try rw [ptCs_end] at ho); (try rw [ints_end] at ho); (try simp only [Nat.zero_add, Nat.reduceAdd, List.nil_append, List.cons_append] at ho)) | (go_at_call 45; (with_reducible refine (l01Prime_no _ _ hp).mono ?_); rintro e w' ⟨rfl, rfl⟩) | ((with_reducible apply region_gd (id := 5)); refine region_CHA (id := 5) 28 [25, 26] (LowK _) (.k (.k (.k (.k (.k (.k (.k (.k (.k (.k (.k (.k (.k (.k (.k (.k (.k (.k (.k (.k (.k (.k (.k (.k (.k (.d (.d (.k .n)))))))))))))))))))))))))))) (.d (.d (.d (.d (.d (.d (.d (.d (.d (.d (.d (.d (.d (.d (.d (.d (.d (.d (.d (.d (.d (.d (.d (.d (.d (.k (.k (.d .n)))))))))))))))))))))))))))) (fun W W' h l => LowK.link l h) (LowK.refl _) ?_; apply Exists.intro; refine ⟨fun W0 hk G => ?_, ?_⟩; (· (have hl := LowK.lnk hk; (repeat (first | go_big_quiet_skip | (go_big_quiet_want; first | (refine q_load ?_; simp only [Act.put, List.setIfInBounds_toArray, List.set_cons_zero, List.set_cons_succ]; go_big_quiet_on) | (go_big_quiet_op; first | go_big_quiet_on)))); exact rfl)); refine ch_step fun W1 hl => ?_; have hs := hl.out.size; (try simp at hs); go_wp2_with (first | (refine wl_load ?_) | (refine wl_store ?_) | (refine wl_build ?_) | (refine wl_slice ?_) | (refine wl_append ?_; intro v' w' ho hg hb; have hs := hg.size; (try simp at hs); (try rw [ptCs_end] at ho); (try rw [ints_end] at ho); (try simp only [Nat.zero_add, Nat.reduceAdd, List.nil_append, List.cons_append] at ho))); refine ⟨rfl, ⟨_, rfl⟩, findLow, ?_⟩; refine ch_step fun W1 hl => ?_; have hs := hl.out.size; (try simp at hs); go_wp2_with (first | (refine wl_load ?_) | (refine wl_store ?_) | (refine wl_build ?_) | (refine wl_slice ?_) | (refine wl_append ?_; intro v' w' ho hg hb; have hs := hg.size; (try simp at hs); (try rw [ptCs_end] at ho); (try rw [ints_end] at ho); (try simp only [Nat.zero_add, Nat.reduceAdd, List.nil_append, List.cons_append] at ho))); refine ⟨rfl, ⟨undef, rfl⟩, findLow, ?_⟩;  refine ch_nil fun W1 hl => ?_; have hs := hl.out.size; (try simp at hs); (try simp only [List.drop_succ_cons, List.drop_zero])))
    (first | (go_ret; refine ⟨?_, LowK.out findLow⟩; first | exact rfl | skip) | (apply ret_rowT Tryz.results19; exact rfl; exact rfl; (exact findRow); exact rfl; (first | exact Tryz.sizeOf56 | exact Tryz.sizeOf38 | exact Tryz.sizeOf31); (first | exact Tryz.isAgg56 | exact Tryz.isAgg38 | exact Tryz.isAgg31); exact rfl; refine ret_ret ?_ findLow; first | exact rfl | skip) | (apply ret_row Tryz.results19; exact rfl; (exact findRow); exact rfl; (first | exact Tryz.sizeOf56 | exact Tryz.sizeOf38 | exact Tryz.sizeOf31); (first | exact Tryz.isAgg56 | exact Tryz.isAgg38 | exact Tryz.isAgg31); exact rfl; refine ret_ret ?_ findLow; first | exact rfl | skip))
  · have hr := hno hp
    obtain ⟨h1, h2, h3, h4⟩ := prime_sq hp
    go_enter Tryz.func19, Tryz.ntmps19
    go_wp2_with (first | (refine wl_load ?_) | (refine wl_store ?_) | (refine wl_build ?_) | (refine wl_slice ?_) | (refine wl_append ?_; intro v' w' ho hg hb; have hs := hg.size; (try simp at hs); (try rw [ptCs_end] at ho); (try rw [ints_end] at ho); (try simp only [Nat.zero_add, Nat.reduceAdd, List.nil_append, List.cons_append] at ho)) | (go_at_call 45; (with_reducible refine (l01Prime_yes _ _ hp).mono ?_); rintro e w' ⟨rfl, rfl⟩) | (go_at_call 46; (with_reducible refine (in_no _ _ _ _ hr).mono ?_); rintro e w' ⟨rfl, hb⟩; have hl := Link.mk hb; have hs := hb.size; (try simp at hs); clear hb) | ((with_reducible apply region_gd (id := 5)); refine region_CHA (id := 5) 28 [25, 26] (LowK _) (.k (.k (.k (.k (.k (.k (.k (.k (.k (.k (.k (.k (.k (.k (.k (.k (.k (.k (.k (.k (.k (.k (.k (.k (.k (.d (.d (.k .n)))))))))))))))))))))))))))) (.d (.d (.d (.d (.d (.d (.d (.d (.d (.d (.d (.d (.d (.d (.d (.d (.d (.d (.d (.d (.d (.d (.d (.d (.d (.k (.k (.d .n)))))))))))))))))))))))))))) (fun W W' h l => LowK.link l h) (LowK.refl _) ?_; apply Exists.intro; refine ⟨fun W0 hk G => ?_, ?_⟩; (· (have hl := LowK.lnk hk; (repeat (first | go_big_quiet_skip | (go_big_quiet_want; first | (refine q_load ?_; simp only [Act.put, List.setIfInBounds_toArray, List.set_cons_zero, List.set_cons_succ]; go_big_quiet_on) | (go_big_quiet_op; first | go_big_quiet_on | (apply Exists.intro; refine ⟨fun g => ?_, ?_⟩; (· (have hl := growL g; first | (go_at_call 46; with_reducible exact grow_ret (in_no _ _ _ _ hr)))); go_big_quiet_on))))); exact rfl)); refine ch_step fun W1 hl => ?_; have hs := hl.out.size; (try simp at hs); go_wp2_with (first | (refine wl_load ?_) | (refine wl_store ?_) | (refine wl_build ?_) | (refine wl_slice ?_) | (refine wl_append ?_; intro v' w' ho hg hb; have hs := hg.size; (try simp at hs); (try rw [ptCs_end] at ho); (try rw [ints_end] at ho); (try simp only [Nat.zero_add, Nat.reduceAdd, List.nil_append, List.cons_append] at ho))); refine ⟨rfl, ⟨_, rfl⟩, findLow, ?_⟩; refine ch_step fun W1 hl => ?_; have hs := hl.out.size; (try simp at hs); go_wp2_with (first | (refine wl_load ?_) | (refine wl_store ?_) | (refine wl_build ?_) | (refine wl_slice ?_) | (refine wl_append ?_; intro v' w' ho hg hb; have hs := hg.size; (try simp at hs); (try rw [ptCs_end] at ho); (try rw [ints_end] at ho); (try simp only [Nat.zero_add, Nat.reduceAdd, List.nil_append, List.cons_append] at ho))); refine ⟨rfl, ⟨undef, rfl⟩, findLow, ?_⟩;  refine ch_nil fun W1 hl => ?_; have hs := hl.out.size; (try simp at hs); (try simp only [List.drop_succ_cons, List.drop_zero])))
    (first | (go_ret; refine ⟨?_, LowK.out findLow⟩; first | exact rfl | skip) | (apply ret_rowT Tryz.results19; exact rfl; exact rfl; (exact findRow); exact rfl; (first | exact Tryz.sizeOf56 | exact Tryz.sizeOf38 | exact Tryz.sizeOf31); (first | exact Tryz.isAgg56 | exact Tryz.isAgg38 | exact Tryz.isAgg31); exact rfl; refine ret_ret ?_ findLow; first | exact rfl | skip) | (apply ret_row Tryz.results19; exact rfl; (exact findRow); exact rfl; (first | exact Tryz.sizeOf56 | exact Tryz.sizeOf38 | exact Tryz.sizeOf31); (first | exact Tryz.isAgg56 | exact Tryz.isAgg38 | exact Tryz.isAgg31); exact rfl; refine ret_ret ?_ findLow; first | exact rfl | skip))
end Go.Proofs.YtaocnklolgdkfaaGreat
/- The law FnExactLineOfShift: walked. -- numbers -/
namespace Go.Proofs.YtaocnklolgdkfaaGreat
open Go.RowKit
set_option linter.unusedVariables false
set_option linter.unusedSimpArgs false
theorem prime_mem {n : Nat} (hp : prB (n : Int) = true) : n ∈ ([3, 5, 7, 11, 13] : List Nat) := by
  rcases prB_cases hp with h | h | h | h | h
  · obtain rfl : n = 3 := by omega
    simp
  · obtain rfl : n = 5 := by omega
    simp
  · obtain rfl : n = 7 := by omega
    simp
  · obtain rfl : n = 11 := by omega
    simp
  · obtain rfl : n = 13 := by omega
    simp
theorem dS {n : Nat} (hp : prB (n : Int) = true) : singL n = sL n ∧ numU (onN (n : Int) (singL n) (1, 0, 0)) (n * n + n + 1) = dL n ∧ 2 ≤ (dL n).length ∧ (dL n).length ≤ 1000 ∧ ∀ k ∈ dL n, 0 ≤ k ∧ k < ((n * n + n + 1 : Nat) : Int) := by
  have hm : n ∈ ([3, 5, 7, 11, 13] : List Nat) := by
    rcases prB_cases hp with h | h | h | h | h
    · obtain rfl : n = 3 := by omega
      simp
    · obtain rfl : n = 5 := by omega
      simp
    · obtain rfl : n = 7 := by omega
      simp
    · obtain rfl : n = 11 := by omega
      simp
    · obtain rfl : n = 13 := by omega
      simp
  have hS := sL_eq n hm
  refine ⟨hS, by rw [hS]; exact dL_eq0 n hm, ?_⟩
  have h1 : ∀ p ∈ ([3, 5, 7, 11, 13] : List Nat), 2 ≤ (dL p).length ∧ (dL p).length ≤ 1000 ∧ ∀ k ∈ dL p, 0 ≤ k ∧ k < ((p * p + p + 1 : Nat) : Int) := by decide +kernel
  exact h1 n hm
theorem shift_facts2 (n t : Nat) (hp : prB (n : Int) = true) (ht : t < n * n + n + 1) :
    ∃ e0 e1 i0 i1 j0 j1 : Nat, (dL n).getD 0 0 = (e0 : Int) ∧ (dL n).getD 1 0 = (e1 : Int) ∧ e0 < n * n + n + 1 ∧ e1 < n * n + n + 1 ∧ ((e0 : Int) + t) % ((n * n + n + 1 : Nat) : Int) = (i0 : Int) ∧ ((e1 : Int) + t) % ((n * n + n + 1 : Nat) : Int) = (i1 : Int) ∧ i0 < n * n + n + 1 ∧ i1 < n * n + n + 1 ∧
      (sortN (movN ((n * n + n + 1 : Nat) : Int) 1 (t : Int) (dL n))).getD 0 0 = (j0 : Int) ∧ (sortN (movN ((n * n + n + 1 : Nat) : Int) 1 (t : Int) (dL n))).getD 1 0 = (j1 : Int) ∧ j0 < n * n + n + 1 ∧ j1 < n * n + n + 1 ∧ crsN (n : Int) ((sL n).getD j0 (0, 0, 0)) ((sL n).getD j1 (0, 0, 0)) = crsN (n : Int) ((sL n).getD i0 (0, 0, 0)) ((sL n).getD i1 (0, 0, 0)) := by
  obtain ⟨hS, hd, hd2, hd3, hmem⟩ := dS hp
  have hk := List.all_eq_true.1 (chk_all n (prime_mem hp)) t (List.mem_range.2 ht)
  unfold chkS at hk
  rw [← sortN_ins] at hk
  generalize hL : sortN (movN ((n * n + n + 1 : Nat) : Int) 1 (t : Int) (dL n)) = L at hk ⊢
  generalize hM : movN ((n * n + n + 1 : Nat) : Int) 1 (t : Int) (dL n) = M at hk
  unfold chkB at hk
  simp only [Bool.and_eq_true, decide_eq_true_eq] at hk
  obtain ⟨⟨hc, l0, l1, l2, l3⟩, m0, m1⟩ := hk
  have g0 : ∀ i, i < (dL n).length → 0 ≤ (dL n).getD i 0 ∧ (dL n).getD i 0 < ((n * n + n + 1 : Nat) : Int) := fun i hi => by
    have : (dL n).getD i 0 = (dL n)[i] := by simp [List.getD, hi]
    rw [this]; exact hmem _ (List.getElem_mem _)
  have a0 := g0 0 (by omega)
  have a1 := g0 1 (by omega)
  generalize (dL n).getD 0 0 = u0 at *
  generalize (dL n).getD 1 0 = u1 at *
  have hNp : (0 : Int) < ((n * n + n + 1 : Nat) : Int) := by omega
  generalize hN : n * n + n + 1 = N at *
  have b0 := Int.emod_nonneg (u0 + t) (show (N : Int) ≠ 0 by omega)
  have b0' := Int.emod_lt_of_pos (u0 + t) hNp
  have b1 := Int.emod_nonneg (u1 + t) (show (N : Int) ≠ 0 by omega)
  have b1' := Int.emod_lt_of_pos (u1 + t) hNp
  rw [m0] at b0 b0'
  rw [m1] at b1 b1'
  obtain ⟨v0, rfl⟩ := Int.eq_ofNat_of_zero_le a0.1
  obtain ⟨v1, rfl⟩ := Int.eq_ofNat_of_zero_le a1.1
  refine ⟨v0, v1, (M.getD 0 0).toNat, (M.getD 1 0).toNat, (L.getD 0 0).toNat, (L.getD 1 0).toNat, rfl, rfl, by omega, by omega, by rw [m0]; omega, by rw [m1]; omega, by omega, by omega, by omega, by omega, by omega, by omega, hc⟩
end Go.Proofs.YtaocnklolgdkfaaGreat
/- The law FnExactShiftOfLine: walked. -- numbers -/
namespace Go.Proofs.YtaocnklolgdkfaaGreat
open Go.RowKit
set_option linter.unusedVariables false
set_option linter.unusedSimpArgs false
theorem ptB_mem {n : Nat} {l : Pt} (hp : prB (n : Int) = true) (h : ptB (n : Int) l.1 l.2.1 l.2.2 = true) : l ∈ sL n := by
  obtain ⟨x, y, z⟩ := l
  have hall := all_in n (prime_mem hp)
  have h2 : ptB (n : Int) x y z = true := h
  unfold ptB normB numsB at h2
  simp only [Bool.and_eq_true, List.all_cons, List.all_nil, numB_iff] at h2
  obtain ⟨-, -, ⟨x0, x1⟩, ⟨y0, y1⟩, ⟨z0, z1⟩, -⟩ := h2
  obtain ⟨a, rfl⟩ := Int.eq_ofNat_of_zero_le x0
  obtain ⟨b, rfl⟩ := Int.eq_ofNat_of_zero_le y0
  obtain ⟨c, rfl⟩ := Int.eq_ofNat_of_zero_le z0
  unfold allInB at hall
  have h3 := List.all_eq_true.1 (List.all_eq_true.1 (List.all_eq_true.1 hall a (List.mem_range.2 (by omega))) b (List.mem_range.2 (by omega))) c (List.mem_range.2 (by omega))
  rw [show ptB (n : Int) (a : Int) (b : Int) (c : Int) = true from h] at h3
  exact List.contains_iff_mem.1 (by simpa using h3)
end Go.Proofs.YtaocnklolgdkfaaGreat
/- Contracts: whether a set is a difference set: the reference. -/
namespace Go.Proofs.YtaocnklolgdkfaaGreat
open Go.RowKit
set_option linter.unusedVariables false
set_option linter.unusedSimpArgs false
theorem diffR_no {n : Int} {l : List Int} (h : setB n l = false) : diffR n l = (false, 2) := by unfold diffR; rw [h]; rfl
theorem diffR_yes {n : Int} {l : List Int} (h : setB n l = true) : diffR n l = (onesB (cntC n l l.length), 0) := by unfold diffR; rw [h]; rfl
theorem dif_bd {n : Int} (h : 2 ≤ n) (l : List Int) (i k : Nat) : (dif n l i k : Int) = (l.getD i 0 - l.getD k 0) % n ∧ dif n l i k < n.toNat := by
  have h0 := Int.emod_nonneg (l.getD i 0 - l.getD k 0) (show n ≠ 0 by omega)
  have h1 := Int.emod_lt_of_pos (l.getD i 0 - l.getD k 0) (show 0 < n by omega)
  unfold dif
  omega
theorem ArgI.cells {w : World} {b : Option Addr} {n : Nat} {l : List Int} (h : ArgI w b n l) (hn : 0 < n) : ∃ g off, b = some ⟨g, off, none⟩ ∧ g < w.heap.size ∧ IntsAt w g off n l := by
  obtain ⟨g, off, e, hp⟩ := h hn
  exact ⟨g, off, e, World.block_lt_of_cell? w _ (hp 0 hn), hp⟩
end Go.Proofs.YtaocnklolgdkfaaGreat
/- Contracts: whether a set is a difference set: the program. -/
namespace Go.Proofs.YtaocnklolgdkfaaGreat
open Go.RowKit
set_option linter.unusedVariables false
set_option linter.unusedSimpArgs false
theorem infoJ : (Tryz.prog.info? 3).map (fun i => (i.zero, i.size, i.bytes)) = some (some (.int .i64 0), 1, 8) := by kernel_rfl
/-- The place of the first number but 1. -/
structure OnesPost (C : List Int) (w : World) (e : Ending) (w' : World) : Prop where
  out : (∃ v : Int, e = .returned (.int .i64 v) ∧ ((v = -1 ∧ onesB C = true) ∨ (0 ≤ v ∧ onesB C = false))) ∧ w = w'
set_option maxHeartbeats 1000000 in
theorem indexFunc_ones (G m : Nat) (C : List Int) (w : World) (hn : 1 ≤ m ∧ m ≤ 1000) (hC : C.length = m + 1) (hp : IntsAt w G 0 (m + 1) C) :
    Calls Tryz.prog 74 #[.slice (some ⟨G, 1, none⟩) m m, .func (.func 51) #[] #[]] w (OnesPost C w) := by
  obtain ⟨n1, n1000⟩ := hn
  have HP := Lib.hid hp
  have HL := Lib.hid hC
  clear hp hC
  go_enter Tryz.func74, Tryz.ntmps74
  go_wp2
  go_loop [8] (fun i => ∃ d : Nat, d ≤ m ∧ i = .int .i64 d ∧ Hid (∀ q, q < d → (C.getD (q + 1) 0 == 1) = true)) (fun i => m - (intOf i).toNat)
  case atStart => exact ⟨0, Nat.zero_le _, rfl, Lib.hid (fun q hq => absurd hq (Nat.not_lt_zero _))⟩
  case round =>
    obtain ⟨d, hd, rfl, HD⟩ := hrel
    by_cases hlt : d < m
    · have cd := HP.out (d + 1) (by omega)
      rw [show 0 + (d + 1) = 1 + d by omega] at cd
      have HNo := Lib.hid (fun h : (C.getD (d + 1) 0 == 1) = false => onesB_bad (c := C) (d := d) (by have := HL.out; omega) h)
      have HYes : Hid ((C.getD (d + 1) 0 == 1) = true → ∀ q, q < d + 1 → (C.getD (q + 1) 0 == 1) = true) := Lib.hid (fun h q hq => by
        rcases Nat.lt_or_ge q d with h2 | h2
        · exact HD.out q h2
        · rw [show q = d by omega]; exact h)
      generalize C.getD (d + 1) 0 = v at *
      cases hv : (v == 1) with
      | true =>
        have HY2 := Lib.hid (HYes.out hv)
        have hv1 : (v != 1) = false := by simpa using hv
        clear HNo HYes
        go_wp2_with (go_at_call 51; go_in)
        go_round
        case rel => exact ⟨d + 1, by omega, by go_num, HY2⟩
        case measure => simp [intOf]; omega
      | false =>
        have HY2 := Lib.hid (HNo.out hv)
        have hv1 : (v != 1) = true := by simpa using hv
        clear HNo HYes
        go_wp2_with (go_at_call 51; go_in)
        go_ret
        exact ⟨⟨_, rfl, .inr ⟨by omega, HY2.out⟩⟩, rfl⟩
    · have HY2 := Lib.hid (onesB_all (c := C) (fun q hq => HD.out q (by have := HL.out; omega)))
      go_wp2
      go_ret
      exact ⟨⟨_, rfl, .inl ⟨rfl, HY2.out⟩⟩, rfl⟩
theorem containsFunc_ones (G m : Nat) (C : List Int) (w : World) (hn : 1 ≤ m ∧ m ≤ 1000) (hC : C.length = m + 1) (hp : IntsAt w G 0 (m + 1) C) :
    Calls Tryz.prog 50 #[.slice (some ⟨G, 1, none⟩) m m, .func (.func 51) #[] #[]] w (fun e w' => e = .returned (.bool (!onesB C)) ∧ w = w') := by
  have HI := Lib.hid (indexFunc_ones G m C w hn hC hp)
  clear hn hC hp
  generalize hO : onesB C = o
  have HO := Lib.hid hO
  clear hO
  cases o with
  | true =>
    have HI2 : Hid (Calls Tryz.prog 74 #[.slice (some ⟨G, 1, none⟩) m m, .func (.func 51) #[] #[]] w (fun e w' => e = .returned (.int .i64 (-1)) ∧ w = w')) :=
      Lib.hid (HI.out.mono fun e w' ⟨h⟩ => by
        obtain ⟨⟨v, he, h2⟩, hw⟩ := h
        rcases h2 with ⟨rfl, _⟩ | ⟨_, h2⟩
        · exact ⟨he, hw⟩
        · rw [HO.out] at h2; cases h2)
    clear HI
    go_enter Tryz.func50, Tryz.ntmps50
    go_wp2_with (go_at_call 74; (with_reducible refine (HI2.out).mono ?_); rintro e w' ⟨rfl, rfl⟩)
    go_ret
    exact ⟨rfl, rfl⟩
  | false =>
    have HI2 : Hid (Calls Tryz.prog 74 #[.slice (some ⟨G, 1, none⟩) m m, .func (.func 51) #[] #[]] w (fun e w' => ∃ v : Int, 0 ≤ v ∧ e = .returned (.int .i64 v) ∧ w = w')) :=
      Lib.hid (HI.out.mono fun e w' ⟨h⟩ => by
        obtain ⟨⟨v, he, h2⟩, hw⟩ := h
        rcases h2 with ⟨_, h2⟩ | ⟨h0, _⟩
        · rw [HO.out] at h2; cases h2
        · exact ⟨v, h0, he, hw⟩)
    clear HI
    go_enter Tryz.func50, Tryz.ntmps50
    go_wp2_with (go_at_call 74; (with_reducible refine (HI2.out).mono ?_); rintro e w' ⟨v, h0, rfl, rfl⟩)
    go_ret
    exact ⟨ret_bool (by simp <;> omega), rfl⟩
set_option maxHeartbeats 4000000 in
theorem IsDifferenceSet_impl_yes (n : Nat) (b : Option Addr) (k cap : Nat) (l : List Int) (w : World) (hl : l.length = k) (hk : k ≤ 1000000) (hc : ArgI w b k l) (hs : setB n l = true) :
    Calls Tryz.prog 20 #[.int .i64 (n : Int), .slice b k cap] w (Ret w (.tuple #[.bool (onesB (cntC n l k)), .int .i64 0])) := by
  obtain ⟨⟨n2, n1000⟩, h60, hok⟩ := setB_yes hs
  obtain ⟨i0, hi, hz0, hz1, hz2⟩ := info_parts infoJ
  have HS := Lib.hid (fun (W : World) (hW : Below w.heap.size w W) => isNumberSet_any n b k cap l W hl hk (hc.below hW))
  rw [hs] at HS
  have HL := Lib.hid hl
  have HC := Lib.hid hc
  have HOk := Lib.hid (fun i (h : i < k) => okB_at hok (i := i) (by omega))
  have HBd := Lib.hid (cntC_bd (n := n) (l := l) h60)
  have HI0 := Lib.hid hi; have HZ0 := Lib.hid hz0; have HZ1 := Lib.hid hz1; have HZ2 := Lib.hid hz2
  have hk60 : k ≤ 60 := by omega
  obtain ⟨m, rfl⟩ : ∃ m, n = m + 1 := ⟨n - 1, by omega⟩
  have nn2 : 1 ≤ m := by omega
  have nn3 : m + 1 ≤ 1000 := by omega
  clear hi hz0 hz1 hz2 hl hc hs hok n2 n1000 h60
  generalize hn : m + 1 = n at *
  go_enter Tryz.func20, Tryz.ntmps20
  go_wp2_with (first
    | (go_at_call 48; (with_reducible refine (HS.out _ (Below.refl _ _)).mono ?_); rintro e w1_ ⟨rfl, hb1⟩; have hsz1 := hb1.size; have HB1 := Lib.hid hb1; clear hb1)
    | (refine wpList_make_ints _ rfl _ _ 72 rfl 3 i0 Tryz.underlying72 HI0.out HZ0.out HZ1.out .i64 .i64 n _ (by omega) rfl rfl (by rw [HZ2.out]; omega) (by omega) ?_; intro w2 hb2 hr2 hp2 hl2; have HB2 := Lib.hid hb2; have HR2 := Lib.hid hr2; have HP2 := Lib.hid hp2; clear hb2 hr2 hp2))
  have HBw : Hid (Below w.heap.size w w2) := Lib.hid (low_tr' HB1.out HB2.out hsz1)
  have hgw : w.heap.size ≤ w1_.heap.size := hsz1
  generalize hG : w1_.heap.size = G at *
  clear HB1 HB2 hG HS
  go_loopw [19] (fun i wr => ∃ i' : Nat, i' ≤ k ∧ i = .int .i64 i' ∧ Hid (RoomI wr G n 3) ∧ Hid (IntsAt wr G 0 n (cntC n l i')) ∧ Hid (Below w.heap.size w wr)) (fun i wr => k - (intOf i).toNat)
  case atStart => exact ⟨0, Nat.zero_le _, rfl, HR2, Lib.hid (by have := HP2.out; simpa [cntC] using this), HBw⟩
  case round =>
    obtain ⟨i, hik, rfl, HR, HP, HB⟩ := hrel
    by_cases hlt : i < k
    · obtain ⟨g, off, rfl, hgl, hpt⟩ := HC.out.cells (by omega)
      have ci : wr.cell? ⟨g, off + i, none⟩ = some (.int .i64 (l.getD i 0)) := (HB.out.cell hgl).trans (hpt i hlt)
      have HPt := Lib.hid hpt
      clear hpt
      generalize hxi : l.getD i 0 = x at ci
      have HXi := Lib.hid hxi
      clear hxi
      go_wp2
      go_loopw [25] (fun jv wr => ∃ j : Nat, j ≤ k ∧ jv = .int .i64 j ∧ Hid (RoomI wr G n 3) ∧ Hid (IntsAt wr G 0 n (rowC n l i (cntC n l i) j)) ∧ Hid (Below w.heap.size w wr)) (fun jv wr => k - (intOf jv).toNat)
      case atStart => exact ⟨0, Nat.zero_le _, rfl, HR, HP, HB⟩
      case round =>
        clear HR HP HB ci
        obtain ⟨j, hjk, rfl, HR, HP, HB⟩ := hrel
        by_cases hlj : j < k
        · have cj : wr.cell? ⟨g, off + j, none⟩ = some (.int .i64 (l.getD j 0)) := (HB.out.cell hgl).trans (HPt.out j hlj)
          obtain ⟨d1, d2⟩ := dif_bd (n := (n : Int)) (by omega) l i j
          have hoi := HOk.out i hlt
          have hoj := HOk.out j hlj
          have HN := Lib.hid (rowC_succ n l i (cntC n l i) j)
          have hbd := rowC_bd (n := (n : Int)) (l := l) (i := i) (HBd.out i) j (dif n l i j)
          have hlen : (rowC n l i (cntC n l i) j).length = n := by rw [rowC_length, cntC_length]; simp
          unfold bump at HN
          rw [Int.toNat_natCast] at d2
          rw [HXi.out] at d1 hoi
          generalize l.getD j 0 = y at *
          generalize rowC n l i (cntC n l i) j = C at *
          have cd := HP.out _ d2
          rw [Nat.zero_add] at cd
          generalize C.getD (dif n l i j) 0 = v at *
          generalize dif n l i j = d at *
          obtain ⟨x0, x1⟩ := hoi
          obtain ⟨y0, y1⟩ := hoj
          obtain ⟨v0, v1⟩ := hbd
          have HM := Lib.hid (fun (W : World) => mod_any (x - y) n W (by omega) (by omega) (by omega) (by omega))
          rw [← d1] at HM
          clear d1
          have hwl := HR.out.lt
          have f2 := HR.out.frozen d
          go_wp2_with (go_at_call 49; (with_reducible refine (HM.out _).mono ?_); rintro e w' ⟨rfl, rfl⟩)
          go_roundw
          case rel => exact ⟨j + 1, by omega, by go_num, Lib.hid (HR.out.set _ _), Lib.hid (by rw [HN.out]; exact ints_set HR.out (Nat.le_refl _) HP.out hlen d d2 (v + 1)), Lib.hid (HB.out.setCell hgw _)⟩
          case measure => simp [intOf]; omega
        · have hjk2 : j = k := by omega
          subst hjk2
          have HN := Lib.hid (cntC_succ n l i)
          go_wp2
          go_roundw
          case rel => exact ⟨i + 1, by omega, by go_num, HR, Lib.hid (by rw [HN.out, HL.out]; exact HP.out), HB⟩
          case measure => simp [intOf]; omega
    · have hik2 : i = k := by omega
      subst hik2
      have hlen : (cntC n l i).length = n := by rw [cntC_length]; simp
      generalize cntC n l i = C at *
      have HF := Lib.hid (containsFunc_ones G m C wr (by omega) (by omega) (by rw [hn]; exact HP.out))
      generalize onesB C = o at *
      have hm1 : n - 1 = m := by omega
      have hn1 : 1 ≤ n := by omega
      go_wp2_with (go_at_call 50; (with_reducible refine (HF.out).mono ?_); rintro e w' ⟨rfl, rfl⟩)
      exact bodyPost_ret (v := .tuple #[.bool o, .int .i64 0]) (by simp [results, Tryz.results20, go_sem]) rfl ⟨rfl, HB.out⟩
theorem IsDifferenceSet_impl (n : Int) (b : Option Addr) (k cap : Nat) (l : List Int) (w : World) (hl : l.length = k) (hk : k ≤ 1000000) (hc : ArgI w b k l) :
    Calls Tryz.prog 20 #[.int .i64 n, .slice b k cap] w (Ret w (.tuple #[.bool (diffR n l).1, .int .i64 (diffR n l).2])) := by
  cases hs : setB n l with
  | true =>
    obtain ⟨⟨n2, n1000⟩, _⟩ := setB_yes hs
    obtain ⟨m, rfl⟩ : ∃ m : Nat, n = m := ⟨n.toNat, by omega⟩
    rw [diffR_yes hs, hl]
    exact IsDifferenceSet_impl_yes m b k cap l w hl hk hc hs
  | false =>
    rw [diffR_no hs]
    have HS := Lib.hid (fun (W : World) (hW : Below w.heap.size w W) => isNumberSet_any n b k cap l W hl hk (hc.below hW))
    rw [hs] at HS
    clear hs hc hl
    go_enter Tryz.func20, Tryz.ntmps20
    go_wp2_with (go_at_call 48; (with_reducible refine (HS.out _ (Below.refl _ _)).mono ?_); rintro e w1_ ⟨rfl, hb1⟩; have hsz1 := hb1.size; have HB1 := Lib.hid hb1; clear hb1)
    exact bodyPost_ret (v := .tuple #[.bool false, .int .i64 2]) (by simp [results, Tryz.results20, go_sem]) rfl ⟨rfl, HB1.out⟩
end Go.Proofs.YtaocnklolgdkfaaGreat
/- The law FnExactIsDifferenceSet: walked. -/
namespace Go.Proofs.YtaocnklolgdkfaaGreat
open Go.RowKit
set_option linter.unusedVariables false
set_option linter.unusedSimpArgs false
structure LaidK (w : World) (k : Nat) (l : List Int) (e : Ending) (w' : World) : Prop where
  out : ∃ g, e = .returned (.slice (some ⟨g, 0, none⟩) k (k + roomN k)) ∧ w.heap.size ≤ g ∧ g < w'.heap.size ∧ RoomI w' g (k + roomN k) 2 ∧ IntsAt w' g 0 (k + roomN k) (withRoomI l) ∧ Below w.heap.size w w'
end Go.Proofs.YtaocnklolgdkfaaGreat
/- The law FnExactTranslateOf: walked. -/
namespace Go.Proofs.YtaocnklolgdkfaaGreat
open Go.RowKit
set_option linter.unusedVariables false
set_option linter.unusedSimpArgs false
theorem TranslateOf_implK (n m : Int) (b : Option Addr) (k cap : Nat) (l : List Int) (W : World) (v : Value) (hr : trO n m l = v) (hl : l.length = k) (hk : k ≤ 1000000) (h : ArgK W b k l) :
    Calls Tryz.prog 21 #[.int .i64 n, .slice b k cap, .int .i64 m] W (Ret W v) := by
  subst hl; rw [← hr]; exact TranslateOf_impl n m b cap l W hk h
end Go.Proofs.YtaocnklolgdkfaaGreat
/- The law FnSinger: what its parts do. -- draws -- numbers -/
namespace Go.Proofs.YtaocnklolgdkfaaGreat
open Go.RowKit
set_option linter.unusedVariables false
set_option linter.unusedSimpArgs false
theorem shI_sort (n t : Nat) : shI n t = sortN (movN ((n * n + n + 1 : Nat) : Int) 1 (t : Int) (dL n)) := (sortN_ins _).symm
theorem back_at {n t : Nat} (hp : prB (n : Int) = true) (ht : t < n * n + n + 1) : ptB (n : Int) (lineT n t).1 (lineT n t).2.1 (lineT n t).2.2 = true ∧ shI n t = numU (onN (n : Int) (sL n) (lineT n t)) (n * n + n + 1) := by
  have h := backB_yes (List.all_eq_true.1 (back_all n (prime_mem hp)) t (List.mem_range.2 ht))
  unfold backL at h
  rw [Bool.and_eq_true, decide_eq_true_eq] at h
  exact h
theorem thru_at {n : Nat} {l : Pt} (hp : prB (n : Int) = true) (hl : l ∈ sL n) : lineI n ((numU (onN (n : Int) (sL n) l) (n * n + n + 1)).getD 0 0).toNat ((numU (onN (n : Int) (sL n) l) (n * n + n + 1)).getD 1 0).toNat = l := by
  have h := List.all_eq_true.1 (thru_all n (prime_mem hp)) l hl
  unfold thruB thruR at h
  exact of_decide_eq_true h
theorem freshB_at : ∀ {L : List (List Nat)}, freshB L = true → ∀ i j, i < j → (hj : j < L.length) → eqL (L.getD i []) (L.getD j []) = false
  | [], _, i, j, _, hj => by simp at hj
  | a :: L, h, i, j, hij, hj => by
    unfold freshB at h
    rw [Bool.and_eq_true] at h
    cases j with
    | zero => omega
    | succ j =>
      have hj' : j < L.length := by simpa using hj
      cases i with
      | zero =>
        have := List.all_eq_true.1 h.1 (L.getD j []) (by rw [List.getD, List.getElem?_eq_getElem hj']; exact List.getElem_mem _)
        simpa using this
      | succ i => exact freshB_at h.2 i j (by omega) hj'
theorem sh_ne {n i j : Nat} (hp : prB (n : Int) = true) (hij : i < j) (hj : j < n * n + n + 1) : shI n i ≠ shI n j := fun e => by
  have h := sh_all n (prime_mem hp)
  unfold shB at h
  rw [forceM_eq] at h
  have hl : (shT n).length = n * n + n + 1 := by simp [shT]
  have hg : ∀ k, k < n * n + n + 1 → (shT n).getD k [] = (shI n k).map Int.toNat := fun k hk => by
    unfold shT shI
    simp [List.getD, hk]
  have := freshB_at h i j hij (by omega)
  rw [hg i (by omega), hg j hj, e, eqL_refl] at this
  cases this
theorem line_yes (n t : Nat) (hp : prB (n : Int) = true) (ht : t < n * n + n + 1) :
    (∀ w : World, Calls Tryz.prog 18 #[.int .i64 (n : Int), .int .i64 (t : Int)] w (Ret w (.tuple #[pV (lineT n t), .int .i64 0]))) ∧ (∀ w : World, Calls Tryz.prog 19 #[.int .i64 (n : Int), .int .i64 (t : Int)] w (Ret w (.tuple #[pV (lineT n t), .int .i64 0]))) := by
  obtain ⟨hS, hd, hd2, hd3, hmem⟩ := dS hp
  obtain ⟨e0, e1, i0, i1, j0, j1, f0, f1, be0, be1, m0, m1, bi0, bi1, s0, s1, bj0, bj1, hc⟩ := shift_facts2 n t hp ht
  have hL : crsN (n : Int) ((sL n).getD j0 (0, 0, 0)) ((sL n).getD j1 (0, 0, 0)) = lineT n t := by
    unfold lineT lineI
    rw [shI_sort, s0, s1]
    rfl
  exact ⟨fun w => LineOfShift_impl_yes n t j0 j1 (n * n + n + 1) (dL n).length (sL n) (dL n) _ _ w hp rfl ht hS (by rw [← hS]; exact hd) rfl rfl hd2 hd3 hmem s0 s1 bj0 bj1 hL, fun w => LineOfShift_spec_yes n t e0 e1 i0 i1 (n * n + n + 1) (dL n).length (sL n) (dL n) _ w hp rfl ht hS (by rw [← hS]; exact hd) rfl hd2 hd3 f0 f1 be0 be1 m0 m1 bi0 bi1 (hc.symm.trans hL)⟩
theorem shift_yes (n : Nat) (l : Pt) (hp : prB (n : Int) = true) (hl : ptB (n : Int) l.1 l.2.1 l.2.2 = true) :
    ∃ T : Nat, T < n * n + n + 1 ∧ shI n T = numU (onN (n : Int) (sL n) l) (n * n + n + 1) ∧ (∀ w : World, Calls Tryz.prog 15 #[.int .i64 (n : Int), pV l] w (Ret w (.tuple #[.int .i64 (T : Int), .int .i64 0]))) ∧ (∀ w : World, Calls Tryz.prog 16 #[.int .i64 (n : Int), pV l] w (Ret w (.tuple #[.int .i64 (T : Int), .int .i64 0]))) := by
  obtain ⟨h3, h13, -, -⟩ := prime_sq hp
  have hn2 : n * n ≤ 13 * 13 := Nat.mul_le_mul (by omega) (by omega)
  have hlen : (numU (onN (n : Int) (sL n) l) (n * n + n + 1)).length ≤ 1000 := by
    have h1 := numU_length (onN (n : Int) (sL n) l) (n * n + n + 1)
    omega
  obtain ⟨hS, hd, hd2, hd3, hmem⟩ := dS hp
  obtain ⟨T, hT, hhit, hmin⟩ := shift_of (prime_mem hp) (ptB_mem hp hl)
  have hv : codeOf (n : Int) (ptsB (n : Int) [l]) = 0 := by simp [codeOf, ptsB, hp, hl]
  have hli : In13 l := in13' hl
  exact ⟨T, hT, by rw [shI_sort]; exact hhit, fun w => ShiftOfLine_impl_yes n _ _ _ T (sL n) (dL n) _ l w hp rfl hv hli hS (by rw [← hS]; exact hd) rfl rfl hd3 rfl hlen hmem hT hhit hmin, fun w => ShiftOfLine_spec_yes n _ _ _ T (sL n) (dL n) _ l w hp rfl hv hli hS (by rw [← hS]; exact hd) rfl rfl hd3 rfl hlen hmem hT hhit hmin⟩
/-- A line has the shift that has the line. -/
theorem shift_line {n t T : Nat} (hp : prB (n : Int) = true) (ht : t < n * n + n + 1) (hT : T < n * n + n + 1) (h : shI n T = numU (onN (n : Int) (sL n) (lineT n t)) (n * n + n + 1)) : T = t := by
  have h2 := (back_at hp ht).2
  rw [← h2] at h
  rcases Nat.lt_trichotomy T t with h3 | h3 | h3
  · exact absurd h (sh_ne hp h3 ht)
  · exact h3
  · exact absurd h.symm (sh_ne hp h3 hT)
theorem line_shift {n T : Nat} {l : Pt} (hp : prB (n : Int) = true) (hl : ptB (n : Int) l.1 l.2.1 l.2.2 = true) (h : shI n T = numU (onN (n : Int) (sL n) l) (n * n + n + 1)) : lineT n T = l := by
  have := thru_at hp (ptB_mem hp hl)
  rw [← h] at this
  exact this
/-- A line drawn, its shift, and back. -/
structure ShfF (q : Int) (l : Pt) (sh cd : Int) : Prop where
  i : ∀ w : World, Calls Tryz.prog 15 #[.int .i64 q, pV l] w (Ret w (.tuple #[.int .i64 sh, .int .i64 cd]))
  s : ∀ w : World, Calls Tryz.prog 16 #[.int .i64 q, pV l] w (Ret w (.tuple #[.int .i64 sh, .int .i64 cd]))
  good : cd = 0 → ∀ w : World, Calls Tryz.prog 18 #[.int .i64 q, .int .i64 sh] w (Ret w (.tuple #[pV l, .int .i64 0]))
theorem shf_facts (q : Int) (l : Pt) : ∃ sh cd, ShfF q l sh cd := by
  cases hc : (codeOf q (ptsB q [l]) == 0) with
  | false => exact ⟨0, codeOf q (ptsB q [l]), fun w => ShiftOfLine_impl_no q l _ w rfl hc (by simpa using hc), fun w => ShiftOfLine_spec_no q l _ w rfl hc (by simpa using hc), fun h => absurd h (by simpa using hc)⟩
  | true =>
    have h0 : codeOf q (ptsB q [l]) = 0 := by simpa using hc
    have hp : prB q = true := by
      cases h : prB q with
      | true => rfl
      | false => simp [codeOf, h] at h0
    have hl : ptB q l.1 l.2.1 l.2.2 = true := by
      cases h : ptB q l.1 l.2.1 l.2.2 with
      | true => rfl
      | false => simp [codeOf, ptsB, hp, h] at h0
    obtain ⟨h3, h13, -, -⟩ := prime_sq hp
    obtain ⟨n, rfl⟩ := Int.eq_ofNat_of_zero_le (show 0 ≤ q by omega)
    obtain ⟨T, hT, hh, hi, hs⟩ := shift_yes n l hp hl
    refine ⟨T, 0, hi, hs, fun _ => ?_⟩
    have := (line_yes n T hp hT).1
    rwa [line_shift hp hl hh] at this
/-- A shift drawn, its line, and back. -/
structure LinF (r t : Int) (c : Pt) (cd : Int) : Prop where
  i : ∀ w : World, Calls Tryz.prog 18 #[.int .i64 r, .int .i64 t] w (Ret w (.tuple #[pV c, .int .i64 cd]))
  s : ∀ w : World, Calls Tryz.prog 19 #[.int .i64 r, .int .i64 t] w (Ret w (.tuple #[pV c, .int .i64 cd]))
  good : cd = 0 → ∀ w : World, Calls Tryz.prog 15 #[.int .i64 r, pV c] w (Ret w (.tuple #[.int .i64 t, .int .i64 0]))
theorem lin_facts (r t : Int) : ∃ c cd, LinF r t c cd := by
  by_cases h : prB r = true ∧ 0 ≤ t ∧ t ≤ r * r + r
  · obtain ⟨hp, h0, h1⟩ := h
    obtain ⟨h3, h13, -, -⟩ := prime_sq hp
    obtain ⟨n, rfl⟩ := Int.eq_ofNat_of_zero_le (show 0 ≤ r by omega)
    obtain ⟨u, rfl⟩ := Int.eq_ofNat_of_zero_le h0
    have hu : u < n * n + n + 1 := by
      have : ((u : Nat) : Int) ≤ ((n * n + n : Nat) : Int) := by simpa using h1
      omega
    obtain ⟨hi, hs⟩ := line_yes n u hp hu
    refine ⟨lineT n u, 0, hi, hs, fun _ => ?_⟩
    obtain ⟨T, hT, hh, hi2, -⟩ := shift_yes n (lineT n u) hp (back_at hp hu).1
    obtain rfl := shift_line hp hu hT hh
    exact hi2
  · have hno : prB r = true → t < 0 ∨ r * r + r < t := fun hp => by
      by_cases h0 : 0 ≤ t
      · right
        have : ¬ t ≤ r * r + r := fun h1 => h ⟨hp, h0, h1⟩
        omega
      · left; omega
    exact ⟨(0, 0, 0), 2, fun w => LineOfShift_impl_no r t w hno, fun w => LineOfShift_spec_no r t w hno, fun h => absurd h (by decide)⟩
theorem dif_at {n : Nat} (hp : prB (n : Int) = true) : setB ((n * n + n + 1 : Nat) : Int) (dL n) = true ∧ diffR ((n * n + n + 1 : Nat) : Int) (dL n) = (true, 0) := by
  have h := dif_all n (prime_mem hp)
  unfold difB at h
  rw [Bool.and_eq_true] at h
  refine ⟨h.1, ?_⟩
  unfold diffR
  rw [if_pos h.1, onesB_all (fun d hd => ?_)]
  rw [cntC_length, Int.toNat_natCast] at hd
  rw [cntC_difC (by rw [Int.toNat_natCast]; omega)]
  have := List.all_eq_true.1 h.2 d (List.mem_range.2 (by omega))
  rw [beq_iff_eq] at this
  rw [this]; rfl
theorem mul_at {n : Nat} (hp : prB (n : Int) = true) : ∃ s : Int, trO ((n * n + n + 1 : Nat) : Int) (n : Int) (dL n) = .tuple #[.int .i64 s, .int .i64 0] := by
  obtain ⟨h3, h13, -, -⟩ := prime_sq hp
  have h := mul_all n (prime_mem hp)
  unfold mulB at h
  obtain ⟨t, ht, he⟩ := List.any_eq_true.1 h
  have he := of_decide_eq_true he
  rw [← sortN_ins, ← sortN_ins] at he
  have hs : 0 ≤ shiftI ((n * n + n + 1 : Nat) : Int) (n : Int) (dL n) := by
    unfold shiftI
    rw [Int.toNat_natCast]
    have hh : hitB ((n * n + n + 1 : Nat) : Int) (n : Int) (dL n) t = true := decide_eq_true he
    rcases hf : (List.range (n * n + n + 1)).find? (hitB ((n * n + n + 1 : Nat) : Int) (n : Int) (dL n)) with _ | u
    · exact absurd hh (by have := List.find?_eq_none.1 hf t ht; simpa using this)
    · show (0 : Int) ≤ (u : Int)
      omega
  unfold trO
  have hn0 : 0 ≤ n * n := Nat.zero_le _
  rw [if_pos ⟨(dif_at hp).1, by omega, by (push_cast; have : (0 : Int) ≤ (n : Int) * n := (by exact_mod_cast hn0)); omega⟩, if_pos hs]
  exact ⟨_, rfl⟩
/-- A list of points and a code are handed back. -/
def PntC (w : World) (S : List Pt) (k : Nat) (cd : Int) (e : Ending) (w' : World) : Prop := ∃ b c, e = .returned (.tuple #[.slice b k c, .int .i64 cd]) ∧ (0 < k → ∃ g, b = some ⟨g, 0, none⟩ ∧ PtsK w' g 0 k S) ∧ LowK w w'
theorem PntC.yes {w w' : World} {S : List Pt} {k : Nat} {e : Ending} (hk : S.length = k) (h0 : 0 < k) (h : PtsPost2 w S e w') : PntC w S k 0 e w' := by
  obtain ⟨v, rfl, hO, hb⟩ := h
  rw [hk] at hO
  obtain ⟨g, c, rfl, -, -, hP⟩ := OwnK.pts (⟨hO⟩ : OwnK w' w.heap.size 56 3 v k (ptCs S)) hk h0
  exact ⟨_, c, rfl, fun _ => ⟨g, rfl, hP⟩, ⟨hb⟩⟩
theorem PntC.no {w w' : World} {cd : Int} {e : Ending} (h : e = .returned (.tuple #[.slice none 0 0, .int .i64 cd]) ∧ w = w') : PntC w [] 0 cd e w' := by
  obtain ⟨rfl, rfl⟩ := h
  exact ⟨none, 0, rfl, fun h => absurd h (Nat.lt_irrefl _), LowK.refl _⟩
/-- The three of a prime. -/
structure SinF (p : Int) (S : List Pt) (k : Nat) (m : M9) (D : List Int) (kd : Nat) (cd : Int) : Prop where
  len : S.length = k
  lend : D.length = kd
  small : k ≤ 1000 ∧ kd ≤ 1000
  oi : ∀ w : World, Calls Tryz.prog 6 #[.int .i64 p] w (PntC w S k cd)
  os : ∀ w : World, Calls Tryz.prog 7 #[.int .i64 p] w (PntC w S k cd)
  mi : ∀ w : World, Calls Tryz.prog 9 #[.int .i64 p] w (Ret w (.tuple #[Value.agg (cellsM9 m), .int .i64 cd]))
  ms : ∀ w : World, Calls Tryz.prog 10 #[.int .i64 p] w (Ret w (.tuple #[Value.agg (cellsM9 m), .int .i64 cd]))
  di : ∀ w : World, Calls Tryz.prog 11 #[.int .i64 p] w (SetC w D kd cd)
  ds : ∀ w : World, Calls Tryz.prog 12 #[.int .i64 p] w (SetC w D kd cd)
  bad : cd ≠ 0 → k = 0
  good : cd = 0 → ∃ (n : Nat) (s : Int), p = (n : Int) ∧ 3 ≤ n ∧ n ≤ 13 ∧ k = n * n + n + 1 ∧ 0 < k ∧ 0 < kd ∧
    (∀ (W : World) (b : Option Addr) (c : Nat), ArgK W b kd D → Calls Tryz.prog 20 #[.int .i64 ((n * n + n + 1 : Nat) : Int), .slice b kd c] W (Ret W (.tuple #[.bool true, .int .i64 0]))) ∧
    (∀ (W : World) (b : Option Addr) (c : Nat), ArgK W b kd D → Calls Tryz.prog 21 #[.int .i64 ((n * n + n + 1 : Nat) : Int), .slice b kd c, .int .i64 (n : Int)] W (Ret W (.tuple #[.int .i64 s, .int .i64 0]))) ∧
    (∀ W : World, Calls Tryz.prog 22 #[.int .i64 (n : Int), Value.agg (cellsM9 m)] W (Ret W (.tuple #[.int .i64 ((n * n + n + 1 : Nat) : Int), .int .i64 0])))
theorem sin_facts (p : Int) : ∃ S k m D kd cd, SinF p S k m D kd cd := by
  rcases hp : prB p with _ | _
  · have hm : singR p = (((0, 0, 0), (0, 0, 0), (0, 0, 0)), 2) := by unfold singR; rw [hp]; rfl
    refine ⟨[], 0, ((0, 0, 0), (0, 0, 0), (0, 0, 0)), [], 0, 2, rfl, rfl, ⟨by decide, by decide⟩, fun w => (SingerOrder_impl_no p w hp).mono fun e w' h => PntC.no h, fun w => (SingerOrder_spec_no p w hp).mono fun e w' h => PntC.no h, fun w => SingerMap_impl_no p w hp, fun w => SingerMap_spec_no p w hp,
      fun w => (DifferenceSetOf_impl_no p w hp).mono fun e w' h => ?_, fun w => (DifferenceSetOf_spec_no p w hp).mono fun e w' h => ?_, fun _ => rfl, fun h => absurd h (by decide)⟩
    · obtain ⟨rfl, rfl⟩ := h
      exact ⟨none, 0, rfl, ⟨fun h => absurd h (Nat.lt_irrefl _)⟩, LowK.refl _⟩
    · obtain ⟨rfl, rfl⟩ := h
      exact ⟨none, 0, rfl, ⟨fun h => absurd h (Nat.lt_irrefl _)⟩, LowK.refl _⟩
  · obtain ⟨h3, h13, -, -⟩ := prime_sq hp
    obtain ⟨n, rfl⟩ := Int.eq_ofNat_of_zero_le (show 0 ≤ p by omega)
    have hn2 : n * n ≤ 13 * 13 := Nat.mul_le_mul (by omega) (by omega)
    have hk : (singL n).length = n * n + n + 1 := singL_length n
    obtain ⟨d0, d1⟩ := diffL_bd hp
    obtain ⟨hS, hd, hd2, hd3, hmem⟩ := dS hp
    have hD : diffL n = dL n := by
      unfold diffL
      rw [singL_length]
      exact hd
    obtain ⟨s, hs⟩ := mul_at hp
    have hin : InM (compM n (firstC n)) := okM_inM (sing_ok n (prime_mem hp)).1
    refine ⟨singL n, n * n + n + 1, compM n (firstC n), diffL n, (diffL n).length, 0, hk, rfl, ⟨by omega, by omega⟩, fun w => (SingerOrder_impl_yes n w hp).mono fun e w' h => PntC.yes hk (by omega) h, fun w => (SingerOrder_spec_yes n w hp).mono fun e w' h => PntC.yes hk (by omega) h, fun w => SingerMap_impl_yes n w hp, fun w => SingerMap_spec_yes n w hp,
      fun w => (DifferenceSetOf_impl_yes n w hp).mono fun e w' h => SetC.yes rfl h, fun w => (DifferenceSetOf_spec_yes n w hp).mono fun e w' h => SetC.yes rfl h, fun h => absurd rfl h, fun _ => ⟨n, s, rfl, by omega, by omega, rfl, by omega, d0, fun W b c hA => ?_, fun W b c hA => ?_, fun W => ?_⟩⟩
    · have := IsDifferenceSet_impl ((n * n + n + 1 : Nat) : Int) b (diffL n).length c (diffL n) W rfl (by omega) hA.toI
      rw [show diffR ((n * n + n + 1 : Nat) : Int) (diffL n) = (true, 0) by rw [hD]; exact (dif_at hp).2] at this
      exact this
    · exact TranslateOf_implK ((n * n + n + 1 : Nat) : Int) (n : Int) b _ c (diffL n) W _ (by rw [hD]; exact hs) rfl (by omega) hA
    · exact OrderOfMap_E n _ _ W hp hin (sing_ok n (prime_mem hp)).1 (sing_ok n (prime_mem hp)).2 (by omega)
end Go.Proofs.YtaocnklolgdkfaaGreat
/- The laws' first test: a code that is too long. -- draws -/
namespace Go.Proofs.YtaocnklolgdkfaaGreat
open Go.RowKit
set_option linter.unusedVariables false
set_option linter.unusedSimpArgs false
theorem big_E (b : Option Addr) (n c : Nat) (w : World) {v : Bool} (hv : decide (4096 < n) = v) : Calls Tryz.prog 4 #[.slice b n c] w (Ret w (.bool v)) := by
  have HV := Lib.hid hv
  clear hv
  rcases v with _ | _
  · have h : ¬ (4096 : Int) < (n : Int) := by have := HV.out; simp at this; omega
    go_enter Tryz.func4, Tryz.ntmps4
    go_wp2_with (first | (refine wl_loadS ?_) | (refine wl_load ?_) | (refine wl_storeS ?_) | (refine wl_store ?_) | (refine wl_build ?_) | (refine wl_slice ?_) | (refine wl_append ?_; intro v' w' ho hg hb; have hs := hg.size; (try simp at hs); (try rw [ptCs_end] at ho); (try rw [ints_end] at ho); (try simp only [Nat.zero_add, Nat.reduceAdd, List.nil_append, List.cons_append] at ho)))
    (apply ret_one Tryz.results4; (conv => lhs; whnf); exact rfl)
    exact ret_ret rfl findLow
  · have h : (4096 : Int) < (n : Int) := by have := HV.out; simp at this; omega
    go_enter Tryz.func4, Tryz.ntmps4
    go_wp2_with (first | (refine wl_loadS ?_) | (refine wl_load ?_) | (refine wl_storeS ?_) | (refine wl_store ?_) | (refine wl_build ?_) | (refine wl_slice ?_) | (refine wl_append ?_; intro v' w' ho hg hb; have hs := hg.size; (try simp at hs); (try rw [ptCs_end] at ho); (try rw [ints_end] at ho); (try simp only [Nat.zero_add, Nat.reduceAdd, List.nil_append, List.cons_append] at ho)))
    (apply ret_one Tryz.results4; (conv => lhs; whnf); exact rfl)
    exact ret_ret rfl findLow
end Go.Proofs.YtaocnklolgdkfaaGreat
/- Two lists of points compared. -- draws -/
namespace Go.Proofs.YtaocnklolgdkfaaGreat
open Go.RowKit
set_option linter.unusedVariables false
set_option linter.unusedSimpArgs false
set_option pp.deepTerms false
set_option pp.deepTerms.threshold 10
set_option maxRecDepth 20000 in
set_option maxHeartbeats 8000000 in
theorem points9_K (g g2 n c c2 : Nat) (L : List Pt) (w : World) (hn : n ≤ 1000000) (hL : L.length = n) (h1 : PtsK w g 0 n L) (h2 : PtsK w g2 0 n L) :
    Calls Tryz.prog 8 #[.slice (some ⟨g, 0, none⟩) n c, .slice (some ⟨g2, 0, none⟩) n c2] w (Ret w (.bool true)) := by
  have HL := Lib.hid hL
  clear hL
  go_enter Tryz.func8, Tryz.ntmps8
  go_wp2_with (first | (refine wl_loadS ?_) | (refine wl_load ?_) | (refine wl_storeS ?_) | (refine wl_store ?_) | (refine wl_build ?_) | (refine wl_slice ?_) | (refine wl_append ?_; intro v' w' ho hg hb; have hs := hg.size; (try simp at hs); (try rw [ptCs_end] at ho); (try rw [ints_end] at ho); (try simp only [Nat.zero_add, Nat.reduceAdd, List.nil_append, List.cons_append] at ho)) | ((with_reducible apply region_gd (id := 6)); refine region_QA (id := 6) 9 ?_; apply Exists.intro; refine ⟨fun G => ?_, fun W hl => ?_⟩; (· (simp only [List.take_succ_cons, List.take_zero]; (repeat (first | go_big_quiet_skip | (go_big_quiet_want; first | (refine q_loadS ?_; simp only [Act.put, List.setIfInBounds_toArray, List.set_cons_zero, List.set_cons_succ]; go_big_quiet_on) | (refine q_load ?_; simp only [Act.put, List.setIfInBounds_toArray, List.set_cons_zero, List.set_cons_succ]; go_big_quiet_on) | (go_big_quiet_op; first | go_big_quiet_on)))); exact rfl)); have hs := hl.out.size; (try simp at hs); simp only [List.drop_succ_cons, List.drop_zero]))
  go_loopw [5] (fun iv wr => ∃ i : Nat, i ≤ n ∧ iv = .int .i64 (i : Int) ∧ LowK w wr) (fun iv wr => n - (intOf iv).toNat)
  case atStart => exact ⟨0, Nat.zero_le _, rfl, LowK.refl _⟩
  case round =>
    obtain ⟨i, hi, rfl, hV⟩ := hrel
    by_cases hlt : i < n
    · have p1 := h1.link (LowK.lnk hV)
      have p2 := h2.link (LowK.lnk hV)
      have he : eqP (L[i]?.getD (0, 0, 0)) (L[i]?.getD (0, 0, 0)) = true := by simp [eqP]
      go_wp2_with (first | (refine wl_loadS ?_) | (refine wl_load ?_) | (refine wl_storeS ?_) | (refine wl_store ?_) | (refine wl_build ?_) | (refine wl_slice ?_) | (refine wl_append ?_; intro v' w' ho hg hb; have hs := hg.size; (try simp at hs); (try rw [ptCs_end] at ho); (try rw [ints_end] at ho); (try simp only [Nat.zero_add, Nat.reduceAdd, List.nil_append, List.cons_append] at ho)) | ((with_reducible apply region_gd (id := 6)); refine region_QA (id := 6) 9 ?_; apply Exists.intro; refine ⟨fun G => ?_, fun W hl => ?_⟩; (· (simp only [List.take_succ_cons, List.take_zero]; (repeat (first | go_big_quiet_skip | (go_big_quiet_want; first | (refine q_loadS ?_; simp only [Act.put, List.setIfInBounds_toArray, List.set_cons_zero, List.set_cons_succ]; go_big_quiet_on) | (refine q_load ?_; simp only [Act.put, List.setIfInBounds_toArray, List.set_cons_zero, List.set_cons_succ]; go_big_quiet_on) | (go_big_quiet_op; first | go_big_quiet_on)))); exact rfl)); have hs := hl.out.size; (try simp at hs); simp only [List.drop_succ_cons, List.drop_zero]))
      go_roundw
      case rel => exact ⟨i + 1, by omega, by go_num, findLow⟩
      case measure => (simp [intOf]; try omega)
    · obtain rfl : n = i := by omega
      go_wp2_with (first | (refine wl_loadS ?_) | (refine wl_load ?_) | (refine wl_storeS ?_) | (refine wl_store ?_) | (refine wl_build ?_) | (refine wl_slice ?_) | (refine wl_append ?_; intro v' w' ho hg hb; have hs := hg.size; (try simp at hs); (try rw [ptCs_end] at ho); (try rw [ints_end] at ho); (try simp only [Nat.zero_add, Nat.reduceAdd, List.nil_append, List.cons_append] at ho)) | ((with_reducible apply region_gd (id := 6)); refine region_QA (id := 6) 9 ?_; apply Exists.intro; refine ⟨fun G => ?_, fun W hl => ?_⟩; (· (simp only [List.take_succ_cons, List.take_zero]; (repeat (first | go_big_quiet_skip | (go_big_quiet_want; first | (refine q_loadS ?_; simp only [Act.put, List.setIfInBounds_toArray, List.set_cons_zero, List.set_cons_succ]; go_big_quiet_on) | (refine q_load ?_; simp only [Act.put, List.setIfInBounds_toArray, List.set_cons_zero, List.set_cons_succ]; go_big_quiet_on) | (go_big_quiet_op; first | go_big_quiet_on)))); exact rfl)); have hs := hl.out.size; (try simp at hs); simp only [List.drop_succ_cons, List.drop_zero]))
      (apply ret_one Tryz.results8; (conv => lhs; whnf); exact rfl)
      exact ret_ret rfl findLow
end Go.Proofs.YtaocnklolgdkfaaGreat
/- Two lists of numbers compared. -- draws -- own lists -- numbers -/
namespace Go.Proofs.YtaocnklolgdkfaaGreat
open Go.RowKit
set_option linter.unusedVariables false
set_option linter.unusedSimpArgs false
set_option pp.deepTerms false
set_option pp.deepTerms.threshold 10
set_option maxRecDepth 20000 in
set_option maxHeartbeats 8000000 in
theorem likeInts_K (b b' : Option Addr) (n c c' : Nat) (L : List Int) (w : World) (hn : n ≤ 1000000) (hL : L.length = n) (h1 : ArgK w b n L) (h2 : ArgK w b' n L) :
    Calls Tryz.prog 13 #[.slice b n c, .slice b' n c'] w (Ret w (.bool true)) := by
  have HL := Lib.hid hL
  have H1 := Lib.hid h1
  have H2 := Lib.hid h2
  clear hL h1 h2
  go_enter Tryz.func13, Tryz.ntmps13
  go_wp2_with (first | (refine wl_loadS ?_) | (refine wl_load ?_) | (refine wl_storeS ?_) | (refine wl_store ?_) | (refine wl_build ?_) | (refine wl_slice ?_) | (refine wl_append ?_; intro v' w' ho hg hb; have hs := hg.size; (try simp at hs); (try rw [ptCs_end] at ho); (try rw [ints_end] at ho); (try simp only [Nat.zero_add, Nat.reduceAdd, List.nil_append, List.cons_append] at ho)) | ((with_reducible apply region_gd (id := 6)); refine region_QA (id := 6) 9 ?_; apply Exists.intro; refine ⟨fun G => ?_, fun W hl => ?_⟩; (· (simp only [List.take_succ_cons, List.take_zero]; (repeat (first | go_big_quiet_skip | (go_big_quiet_want; first | (refine q_loadS ?_; simp only [Act.put, List.setIfInBounds_toArray, List.set_cons_zero, List.set_cons_succ]; go_big_quiet_on) | (refine q_load ?_; simp only [Act.put, List.setIfInBounds_toArray, List.set_cons_zero, List.set_cons_succ]; go_big_quiet_on) | (go_big_quiet_op; first | go_big_quiet_on)))); exact rfl)); have hs := hl.out.size; (try simp at hs); simp only [List.drop_succ_cons, List.drop_zero]))
  go_loopw [5] (fun iv wr => ∃ i : Nat, i ≤ n ∧ iv = .int .i64 (i : Int) ∧ LowK w wr) (fun iv wr => n - (intOf iv).toNat)
  case atStart => exact ⟨0, Nat.zero_le _, rfl, LowK.refl _⟩
  case round =>
    obtain ⟨i, hi, rfl, hV⟩ := hrel
    by_cases hlt : i < n
    · obtain ⟨g, rfl, p1⟩ := (H1.out.link (LowK.lnk hV)).out (by omega)
      obtain ⟨g', rfl, p2⟩ := (H2.out.link (LowK.lnk hV)).out (by omega)
      go_wp2_with (first | (refine wl_loadS ?_) | (refine wl_load ?_) | (refine wl_storeS ?_) | (refine wl_store ?_) | (refine wl_build ?_) | (refine wl_slice ?_) | (refine wl_append ?_; intro v' w' ho hg hb; have hs := hg.size; (try simp at hs); (try rw [ptCs_end] at ho); (try rw [ints_end] at ho); (try simp only [Nat.zero_add, Nat.reduceAdd, List.nil_append, List.cons_append] at ho)) | ((with_reducible apply region_gd (id := 6)); refine region_QA (id := 6) 9 ?_; apply Exists.intro; refine ⟨fun G => ?_, fun W hl => ?_⟩; (· (simp only [List.take_succ_cons, List.take_zero]; (repeat (first | go_big_quiet_skip | (go_big_quiet_want; first | (refine q_loadS ?_; simp only [Act.put, List.setIfInBounds_toArray, List.set_cons_zero, List.set_cons_succ]; go_big_quiet_on) | (refine q_load ?_; simp only [Act.put, List.setIfInBounds_toArray, List.set_cons_zero, List.set_cons_succ]; go_big_quiet_on) | (go_big_quiet_op; first | go_big_quiet_on)))); exact rfl)); have hs := hl.out.size; (try simp at hs); simp only [List.drop_succ_cons, List.drop_zero]))
      go_roundw
      case rel => exact ⟨i + 1, by omega, by go_num, findLow⟩
      case measure => (simp [intOf]; try omega)
    · obtain rfl : n = i := by omega
      go_wp2_with (first | (refine wl_loadS ?_) | (refine wl_load ?_) | (refine wl_storeS ?_) | (refine wl_store ?_) | (refine wl_build ?_) | (refine wl_slice ?_) | (refine wl_append ?_; intro v' w' ho hg hb; have hs := hg.size; (try simp at hs); (try rw [ptCs_end] at ho); (try rw [ints_end] at ho); (try simp only [Nat.zero_add, Nat.reduceAdd, List.nil_append, List.cons_append] at ho)) | ((with_reducible apply region_gd (id := 6)); refine region_QA (id := 6) 9 ?_; apply Exists.intro; refine ⟨fun G => ?_, fun W hl => ?_⟩; (· (simp only [List.take_succ_cons, List.take_zero]; (repeat (first | go_big_quiet_skip | (go_big_quiet_want; first | (refine q_loadS ?_; simp only [Act.put, List.setIfInBounds_toArray, List.set_cons_zero, List.set_cons_succ]; go_big_quiet_on) | (refine q_load ?_; simp only [Act.put, List.setIfInBounds_toArray, List.set_cons_zero, List.set_cons_succ]; go_big_quiet_on) | (go_big_quiet_op; first | go_big_quiet_on)))); exact rfl)); have hs := hl.out.size; (try simp at hs); simp only [List.drop_succ_cons, List.drop_zero]))
      (apply ret_one Tryz.results13; (conv => lhs; whnf); exact rfl)
      exact ret_ret rfl findLow
end Go.Proofs.YtaocnklolgdkfaaGreat
/- The law FnSinger: walked. -- draws -- own lists -- numbers -/
namespace Go.Proofs.YtaocnklolgdkfaaGreat
open Go.RowKit
set_option linter.unusedVariables false
set_option linter.unusedSimpArgs false
@[go_sem high] theorem neLn (w : World) (a0 a1 a2 b0 b1 b2 : Int) : (binOp .neq 38 (ptV a0 a1 a2) (ptV b0 b1 b2)).run Tryz.prog w = .ok (.bool (!eqP (a0, a1, a2) (b0, b1, b2))) w := by
  rw [run_neq_struct, eqA24]; rfl
@[go_sem high] theorem neLnP (w : World) (a b : Pt) : (binOp .neq 38 (.agg (pC a)) (.agg (pC b))).run Tryz.prog w = .ok (.bool (!eqP a b)) w := neLn w a.1 a.2.1 a.2.2 b.1 b.2.1 b.2.2
theorem at_list {P : Program} {ops l : _} {Q : Exit → Act → World → Prop} {a : Act} (W : World) (F : World → Prop) (h : F W) (k : ∀ V, F V → wpList P ops Q l a V) : wpList P ops Q l a W := k W h
theorem points9_Z (b b' : Option Addr) (k c c' : Nat) (S : List Pt) (w : World) (hk : k ≤ 1000) (hS : S.length = k) (h1 : 0 < k → ∃ g, b = some ⟨g, 0, none⟩ ∧ PtsK w g 0 k S) (h2 : 0 < k → ∃ g, b' = some ⟨g, 0, none⟩ ∧ PtsK w g 0 k S) :
    Calls Tryz.prog 8 #[.slice b k c, .slice b' k c'] w (Ret w (.bool true)) := by
  rcases Nat.eq_zero_or_pos k with h0 | h0
  · subst h0
    go_enter Tryz.func8, Tryz.ntmps8
    go_wp2_with (first | (refine wl_loadS ?_) | (refine wl_load ?_) | (refine wl_storeS ?_) | (refine wl_store ?_) | (refine wl_build ?_) | (refine wl_slice ?_) | (refine wl_append ?_; intro v' w' ho hg hb; have hs := hg.size; (try simp at hs); (try rw [ptCs_end] at ho); (try rw [ints_end] at ho); (try simp only [Nat.zero_add, Nat.reduceAdd, List.nil_append, List.cons_append] at ho)) | ((with_reducible apply region_gd (id := 6)); refine region_QA (id := 6) 9 ?_; apply Exists.intro; refine ⟨fun G => ?_, fun W hl => ?_⟩; (· (simp only [List.take_succ_cons, List.take_zero]; (repeat (first | go_big_quiet_skip | (go_big_quiet_want; first | (refine q_loadS ?_; simp only [Act.put, List.setIfInBounds_toArray, List.set_cons_zero, List.set_cons_succ]; go_big_quiet_on) | (refine q_load ?_; simp only [Act.put, List.setIfInBounds_toArray, List.set_cons_zero, List.set_cons_succ]; go_big_quiet_on) | (go_big_quiet_op; first | go_big_quiet_on)))); exact rfl)); have hs := hl.out.size; (try simp at hs); simp only [List.drop_succ_cons, List.drop_zero]))
    go_loopw [5] (fun iv wr => iv = .int .i64 0 ∧ LowK w wr) (fun iv wr => 0)
    case atStart => exact ⟨rfl, LowK.refl _⟩
    case round =>
      obtain ⟨rfl, hV⟩ := hrel
      go_wp2_with (first | (refine wl_loadS ?_) | (refine wl_load ?_) | (refine wl_storeS ?_) | (refine wl_store ?_) | (refine wl_build ?_) | (refine wl_slice ?_) | (refine wl_append ?_; intro v' w' ho hg hb; have hs := hg.size; (try simp at hs); (try rw [ptCs_end] at ho); (try rw [ints_end] at ho); (try simp only [Nat.zero_add, Nat.reduceAdd, List.nil_append, List.cons_append] at ho)) | ((with_reducible apply region_gd (id := 6)); refine region_QA (id := 6) 9 ?_; apply Exists.intro; refine ⟨fun G => ?_, fun W hl => ?_⟩; (· (simp only [List.take_succ_cons, List.take_zero]; (repeat (first | go_big_quiet_skip | (go_big_quiet_want; first | (refine q_loadS ?_; simp only [Act.put, List.setIfInBounds_toArray, List.set_cons_zero, List.set_cons_succ]; go_big_quiet_on) | (refine q_load ?_; simp only [Act.put, List.setIfInBounds_toArray, List.set_cons_zero, List.set_cons_succ]; go_big_quiet_on) | (go_big_quiet_op; first | go_big_quiet_on)))); exact rfl)); have hs := hl.out.size; (try simp at hs); simp only [List.drop_succ_cons, List.drop_zero]))
      (apply ret_one Tryz.results8; (conv => lhs; whnf); exact rfl)
      exact ret_ret rfl findLow
  · obtain ⟨g, rfl, p1⟩ := h1 h0
    obtain ⟨g', rfl, p2⟩ := h2 h0
    exact points9_K g g' k c c' S w (by omega) hS p1 p2
theorem PntD {w W : World} {b : Option Addr} {k : Nat} {S : List Pt} (l : Link w W) (h : 0 < k → ∃ g, b = some ⟨g, 0, none⟩ ∧ PtsK w g 0 k S) : 0 < k → ∃ g, b = some ⟨g, 0, none⟩ ∧ PtsK W g 0 k S := fun h0 => by
  obtain ⟨g, e, hp⟩ := h h0
  exact ⟨g, e, hp.link l⟩
set_option maxRecDepth 20000 in
set_option maxHeartbeats 4000000 in
theorem FnSinger_big (b : Option Addr) (n c : Nat) (w : World) (hn : 4096 < n) : Calls Tryz.prog 3 #[.slice b n c] w (Ret w (.bool true)) := by
  go_enter Tryz.func3, Tryz.ntmps3
  go_wp2_with (first | (refine wl_loadS ?_) | (refine wl_load ?_) | (refine wl_storeS ?_) | (refine wl_store ?_) | (refine wl_build ?_) | (refine wl_slice ?_) | (refine wl_append ?_; intro v' w' ho hg hb; have hs := hg.size; (try simp at hs); (try rw [ptCs_end] at ho); (try rw [ints_end] at ho); (try simp only [Nat.zero_add, Nat.reduceAdd, List.nil_append, List.cons_append] at ho)) | (go_at_call 4; (with_reducible refine (big_E b n c _ (decide_eq_true hn)).mono ?_); rintro e w' ⟨rfl, hb⟩; have hl := Link.mk hb; have hs := hb.size; (try simp at hs); clear hb))
  (apply ret_one Tryz.results3; (conv => lhs; whnf); exact rfl)
  exact ret_ret rfl findLow
set_option pp.deepTerms false
set_option pp.deepTerms.threshold 10
set_option maxRecDepth 20000 in
set_option maxHeartbeats 16000000 in
theorem FnSinger_small (b : Option Addr) (n c : Nat) (w : World) (hC : CodeK w b n) (hn : n ≤ 4096) (hb : ∀ a, b = some a → a.block < w.heap.size) : Calls Tryz.prog 3 #[.slice b n c] w (Ret w (.bool true)) := by
  have HB := Lib.hid hb
  have HC := Lib.hid hC
  clear hb hC
  have tok : True := trivial
  go_enter Tryz.func3, Tryz.ntmps3
  go_wp2_with (first | (with_reducible refine hold (p := wpList _ _ _ ({ dst := some 74, op := _, type := _, pos := _, after := _, guard := _ } :: _) _ _) ?_) | (refine wl_loadS ?_) | (refine wl_load ?_) | (refine wl_storeS ?_) | (refine wl_store ?_) | (refine wl_build ?_) | (refine wl_slice ?_) | (refine wl_append ?_; intro v' w' ho hg hb; have hs := hg.size; (try simp at hs); (try rw [ptCs_end] at ho); (try rw [ints_end] at ho); (try simp only [Nat.zero_add, Nat.reduceAdd, List.nil_append, List.cons_append] at ho)) | (go_at_call 4; (with_reducible refine (big_E b n c _ (decide_eq_false (by omega))).mono ?_); rintro e w' ⟨rfl, hb⟩; have hl := Link.mk hb; have hs := hb.size; (try simp at hs); clear hb) | (go_at_call 5; (with_reducible refine (DrawSingerOrder_E b n c _ (HC.out.link (LowK.lnk findLow)) hn (fun a ha => Nat.lt_of_lt_of_le (HB.out a ha) (LowK.size findLow))).mono ?_); (rintro e w1 ⟨p, rfl, hl1⟩; have hlk1 := LowK.lnk hl1; have hz1 := LowK.size hl1; obtain ⟨S, k, m, D, kd, cd, F⟩ := sin_facts p; have HF := Lib.hid F; clear F)) | (go_at_call 6; (with_reducible refine (HF.out.oi _).mono ?_); (rintro e w2 ⟨b2, c2, rfl, hP2, hl2⟩; have HP2 := Lib.hid hP2; have hlk2 := LowK.lnk hl2; have hz2 := LowK.size hl2; clear hP2)) | (go_at_call 7; (with_reducible refine (HF.out.os _).mono ?_); (rintro e w3 ⟨b3, c3, rfl, hP3, hl3⟩; have HP3 := Lib.hid hP3; have hlk3 := LowK.lnk hl3; have hz3 := LowK.size hl3; clear hP3)) | (go_at_call 8; (with_reducible refine (points9_Z b2 b3 k c2 c3 S _ HF.out.small.1 HF.out.len (PntD (LowK.lnk (findLow (w := w2))) HP2.out) (PntD (LowK.lnk (findLow (w := w3))) HP3.out)).mono ?_); rintro e w' ⟨rfl, hb⟩; have hl := Link.mk hb; have hs := hb.size; (try simp at hs); clear hb) | (go_at_call 9; (with_reducible refine (HF.out.mi _).mono ?_); (rintro e w4 ⟨rfl, hb4⟩; have hlk4 := Link.mk hb4; have hz4 := hb4.size; (try simp at hz4); clear hb4)) | (go_at_call 10; (with_reducible refine (HF.out.ms _).mono ?_); (rintro e w5 ⟨rfl, hb5⟩; have hlk5 := Link.mk hb5; have hz5 := hb5.size; (try simp at hz5); clear hb5)))
  unfold Hold
  refine at_list _ (fun V => RowK V w4.heap.size (cellsM9 m) 31 ∧ RowK V w5.heap.size (cellsM9 m) 31 ∧ LowK w V) ⟨findRow, findRow, findLow⟩ (fun V hV => ?_)
  obtain ⟨r8, r10, hlow⟩ := hV
  clear hlk1 hlk2 hlk3 hlk4 hlk5 hl1 hl2 hl3 HP2 HP3
  generalize w4.heap.size = g8 at *
  generalize w5.heap.size = g10 at *
  obtain ⟨⟨m0, m1, m2⟩, ⟨m3, m4, m5⟩, ⟨m6, m7, m8⟩⟩ := m
  have ca0 := (r8.cellAt (k := 0) rfl).out
  have ca1 := (r8.cellAt (k := 1) rfl).out
  have ca2 := (r8.cellAt (k := 2) rfl).out
  have ca3 := (r8.cellAt (k := 3) rfl).out
  have ca4 := (r8.cellAt (k := 4) rfl).out
  have ca5 := (r8.cellAt (k := 5) rfl).out
  have ca6 := (r8.cellAt (k := 6) rfl).out
  have ca7 := (r8.cellAt (k := 7) rfl).out
  have ca8 := (r8.cellAt (k := 8) rfl).out
  have cb0 := (r10.cellAt (k := 0) rfl).out
  have cb1 := (r10.cellAt (k := 1) rfl).out
  have cb2 := (r10.cellAt (k := 2) rfl).out
  have cb3 := (r10.cellAt (k := 3) rfl).out
  have cb4 := (r10.cellAt (k := 4) rfl).out
  have cb5 := (r10.cellAt (k := 5) rfl).out
  have cb6 := (r10.cellAt (k := 6) rfl).out
  have cb7 := (r10.cellAt (k := 7) rfl).out
  have cb8 := (r10.cellAt (k := 8) rfl).out
  have hw := LowK.size hlow
  have hg8 := r8.lt
  have hE : eqM (m0, m1, m2) (m3, m4, m5) (m6, m7, m8) (m0, m1, m2) (m3, m4, m5) (m6, m7, m8) = true := eqM_iff.2 ⟨rfl, rfl, rfl⟩
  go_wp2_with (first | (with_reducible refine hold (p := wpList _ _ _ ({ dst := some 143, op := _, type := _, pos := _, after := _, guard := _ } :: _) _ _) ?_) | (refine wl_loadS ?_) | (refine wl_load ?_) | (refine wl_storeS ?_) | (refine wl_store ?_) | (refine wl_build ?_) | (refine wl_slice ?_) | (refine wl_append ?_; intro v' w' ho hg hb; have hs := hg.size; (try simp at hs); (try rw [ptCs_end] at ho); (try rw [ints_end] at ho); (try simp only [Nat.zero_add, Nat.reduceAdd, List.nil_append, List.cons_append] at ho)) | (go_at_call 11; (with_reducible refine (HF.out.di _).mono ?_); (rintro e w6 ⟨b6, c6, rfl, hA6, hl6⟩; have HA6 := Lib.hid hA6; have hlk6 := LowK.lnk hl6; have hz6 := LowK.size hl6; clear hA6)) | (go_at_call 12; (with_reducible refine (HF.out.ds _).mono ?_); (rintro e w7 ⟨b7, c7, rfl, hA7, hl7⟩; have HA7 := Lib.hid hA7; have hlk7 := LowK.lnk hl7; have hz7 := LowK.size hl7; clear hA7)) | (go_at_call 13; (with_reducible refine (likeInts_K b6 b7 kd c6 c7 D _ (Nat.le_trans HF.out.small.2 (by decide)) HF.out.lend (HA6.out.link (LowK.lnk (findLow (w := w6)))) (HA7.out.link (LowK.lnk (findLow (w := w7))))).mono ?_); rintro e w' ⟨rfl, hb⟩; have hl := Link.mk hb; have hs := hb.size; (try simp at hs); clear hb) | (go_at_call 14; (with_reducible refine (DrawShiftOfLine_E b n c _ (HC.out.link (LowK.lnk findLow)) hn (fun a ha => Nat.lt_of_lt_of_le (HB.out a ha) (LowK.size findLow))).mono ?_); (rintro e w8 ⟨q, l, rfl, hl8⟩; have hlk8 := LowK.lnk hl8; have hz8 := LowK.size hl8; obtain ⟨sh, cdq, FQ⟩ := shf_facts q l; have HQ := Lib.hid FQ; clear FQ)) | (go_at_call 15; (with_reducible refine (HQ.out.i _).mono ?_); rintro e w' ⟨rfl, hb⟩; have hl := Link.mk hb; have hs := hb.size; (try simp at hs); clear hb) | (go_at_call 16; (with_reducible refine (HQ.out.s _).mono ?_); rintro e w' ⟨rfl, hb⟩; have hl := Link.mk hb; have hs := hb.size; (try simp at hs); clear hb) | (go_at_call 17; (with_reducible refine (DrawLineOfShift_E b n c _ (HC.out.link (LowK.lnk findLow)) hn (fun a ha => Nat.lt_of_lt_of_le (HB.out a ha) (LowK.size findLow))).mono ?_); (rintro e w9 ⟨r, t, rfl, hl9⟩; have hlk9 := LowK.lnk hl9; have hz9 := LowK.size hl9; obtain ⟨c9, cdr, FR⟩ := lin_facts r t; have HR := Lib.hid FR; clear FR)) | (go_at_call 18; (with_reducible refine (HR.out.i _).mono ?_); (rintro e w10 ⟨rfl, hb10⟩; have hlk10 := Link.mk hb10; have hz10 := hb10.size; (try simp at hz10); clear hb10)) | (go_at_call 19; (with_reducible refine (HR.out.s _).mono ?_); (rintro e w11 ⟨rfl, hb11⟩; have hlk11 := Link.mk hb11; have hz11 := hb11.size; (try simp at hz11); clear hb11)))
  unfold Hold
  have r8' : RowK V g8 #[.int .i64 m0, .int .i64 m1, .int .i64 m2, .int .i64 m3, .int .i64 m4, .int .i64 m5, .int .i64 m6, .int .i64 m7, .int .i64 m8] 31 := r8
  refine at_list _ (fun W => RowK W g8 #[.int .i64 m0, .int .i64 m1, .int .i64 m2, .int .i64 m3, .int .i64 m4, .int .i64 m5, .int .i64 m6, .int .i64 m7, .int .i64 m8] 31 ∧ RowK W w8.heap.size (pC l) 38 ∧ RowK W w10.heap.size (pC c9) 38 ∧ RowK W w11.heap.size (pC c9) 38 ∧ ArgK W b6 kd D ∧ LowK w W) ⟨findRow, findRow, findRow, findRow, HA6.out.link (LowK.lnk (findLow (w := w6))), findLow⟩ (fun V2 hV2 => ?_)
  clear r8 r8' r10 ca0 ca1 ca2 ca3 ca4 ca5 ca6 ca7 ca8 cb0 cb1 cb2 cb3 cb4 cb5 cb6 cb7 cb8 hlk6 hlk7 hlk8 hlk9 hlk10 hlk11 hl6 hl7 hl8 hl9 HA6 HA7 hlow hw hE
  obtain ⟨r8, r17, r24, r26, hA, hlow⟩ := hV2
  generalize w8.heap.size = g17 at *
  generalize w10.heap.size = g24 at *
  generalize w11.heap.size = g26 at *
  obtain ⟨x0, x1, x2⟩ := c9
  have ca0 : V2.cell? ⟨g24, 0, none⟩ = some (.int .i64 x0) := (r24.cellAt (k := 0) rfl).out
  have ca1 : V2.cell? ⟨g24, 1, none⟩ = some (.int .i64 x1) := (r24.cellAt (k := 1) rfl).out
  have ca2 : V2.cell? ⟨g24, 2, none⟩ = some (.int .i64 x2) := (r24.cellAt (k := 2) rfl).out
  have cb0 : V2.cell? ⟨g26, 0, none⟩ = some (.int .i64 x0) := (r26.cellAt (k := 0) rfl).out
  have cb1 : V2.cell? ⟨g26, 1, none⟩ = some (.int .i64 x1) := (r26.cellAt (k := 1) rfl).out
  have cb2 : V2.cell? ⟨g26, 2, none⟩ = some (.int .i64 x2) := (r26.cellAt (k := 2) rfl).out
  have hE : eqP (x0, x1, x2) (x0, x1, x2) = true := by simp [eqP]
  have hw := LowK.size hlow
  have hcr : (cdr == 0) = false ∨ (cdr = 0 ∧ ∀ w : World, Calls Tryz.prog 15 #[.int .i64 r, pV (x0, x1, x2)] w (Ret w (.tuple #[.int .i64 t, .int .i64 0]))) := by
    by_cases h : cdr = 0
    · exact .inr ⟨h, HR.out.good h⟩
    · exact .inl (by simpa using h)
  have hcq : (cdq == 0) = false ∨ (cdq = 0 ∧ ∀ w : World, Calls Tryz.prog 18 #[.int .i64 q, .int .i64 sh] w (Ret w (.tuple #[pV l, .int .i64 0]))) := by
    by_cases h : cdq = 0
    · exact .inr ⟨h, HQ.out.good h⟩
    · exact .inl (by simpa using h)
  go_wp2_with (first | (with_reducible refine hold (p := wpList _ _ _ ({ dst := some 150, op := _, type := _, pos := _, after := _, guard := _ } :: _) _ _) ?_) | (refine wl_loadS ?_) | (refine wl_load ?_) | (refine wl_storeS ?_) | (refine wl_store ?_) | (refine wl_build ?_) | (refine wl_slice ?_) | (refine wl_append ?_; intro v' w' ho hg hb; have hs := hg.size; (try simp at hs); (try rw [ptCs_end] at ho); (try rw [ints_end] at ho); (try simp only [Nat.zero_add, Nat.reduceAdd, List.nil_append, List.cons_append] at ho)))
  unfold Hold
  clear ca0 ca1 ca2 cb0 cb1 cb2 hE HR HQ
  go_upto_if 150 with fail
  go_cut [] from 149 to 163 (fun wx => LowK V2 wx)
  case first =>
   as_aux_lemma =>
    rcases hcr with h | ⟨rfl, h⟩
    · go_wp2_with fail
      go_meet
      exact LowK.refl _
    · have HG := Lib.hid h
      go_wp2_with (first | (refine wl_loadS ?_) | (refine wl_load ?_) | (refine wl_storeS ?_) | (refine wl_store ?_) | (refine wl_build ?_) | (refine wl_slice ?_) | (refine wl_append ?_; intro v' w' ho hg hb; have hs := hg.size; (try simp at hs); (try rw [ptCs_end] at ho); (try rw [ints_end] at ho); (try simp only [Nat.zero_add, Nat.reduceAdd, List.nil_append, List.cons_append] at ho)) | (go_at_call 15; (with_reducible refine (HG.out _).mono ?_); rintro e w' ⟨rfl, hb⟩; have hl := Link.mk hb; have hs := hb.size; (try simp at hs); clear hb))
      go_meet
      exact findLow
  case rest =>
   as_aux_lemma =>
    clear hcr
    go_upto_if 165 with fail
    go_cut [] from 164 to 178 (fun wx => LowK V2 wx)
    case first =>
     as_aux_lemma =>
      rcases hcq with h | ⟨rfl, h⟩
      · go_wp2_with fail
        go_meet
        exact hcut
      · have HG := Lib.hid h
        have hlc := LowK.lnk hcut
        have hzc := LowK.size hcut
        have hg17 := r17.lt
        obtain ⟨y0, y1, y2⟩ := l
        go_wp2_with (first | (with_reducible refine hold (p := wpList _ _ _ ({ dst := some 173, op := _, type := _, pos := _, after := _, guard := _ } :: _) _ _) ?_) | (refine wl_loadS ?_) | (refine wl_load ?_) | (refine wl_storeS ?_) | (refine wl_store ?_) | (refine wl_build ?_) | (refine wl_slice ?_) | (refine wl_append ?_; intro v' w' ho hg hb; have hs := hg.size; (try simp at hs); (try rw [ptCs_end] at ho); (try rw [ints_end] at ho); (try simp only [Nat.zero_add, Nat.reduceAdd, List.nil_append, List.cons_append] at ho)) | (go_at_call 18; (with_reducible refine (HG.out _).mono ?_); (rintro e w12 ⟨rfl, hb12⟩; have hlk12 := Link.mk hb12; have hz12 := hb12.size; (try simp at hz12); clear hb12)))
        unfold Hold
        refine at_list _ (fun W => RowK W g17 (pC (y0, y1, y2)) 38 ∧ RowK W w12.heap.size (pC (y0, y1, y2)) 38 ∧ LowK V2 W) ⟨findRow, findRow, findLow⟩ (fun V3 hV3 => ?_)
        obtain ⟨q17, q30, hl3⟩ := hV3
        have ca0 : V3.cell? ⟨g17, 0, none⟩ = some (.int .i64 y0) := (q17.cellAt (k := 0) rfl).out
        have ca1 : V3.cell? ⟨g17, 1, none⟩ = some (.int .i64 y1) := (q17.cellAt (k := 1) rfl).out
        have ca2 : V3.cell? ⟨g17, 2, none⟩ = some (.int .i64 y2) := (q17.cellAt (k := 2) rfl).out
        have cb0 : V3.cell? ⟨w12.heap.size, 0, none⟩ = some (.int .i64 y0) := (q30.cellAt (k := 0) rfl).out
        have cb1 : V3.cell? ⟨w12.heap.size, 1, none⟩ = some (.int .i64 y1) := (q30.cellAt (k := 1) rfl).out
        have cb2 : V3.cell? ⟨w12.heap.size, 2, none⟩ = some (.int .i64 y2) := (q30.cellAt (k := 2) rfl).out
        have hE : eqP (y0, y1, y2) (y0, y1, y2) = true := by simp [eqP]
        go_wp2_with fail
        go_meet
        exact hl3
    case rest =>
     as_aux_lemma =>
      clear hcq
      have q8 := r8.link (LowK.lnk hcut)
      have hA2 := hA.link (LowK.lnk hcut)
      have hlow2 : LowK w wc := LowK.link (LowK.lnk hcut) hlow
      have hkk : (k : Int) ≤ 1000 := by have := HF.out.small.1; omega
      by_cases hcd : cd = 0
      · subst hcd
        obtain ⟨N, s, rfl, h3, h13, hk, hk0, hkd, HId, HTr, HOr⟩ := HF.out.good rfl
        have e : ((N * N + N + 1 : Nat) : Int) = (N : Int) * (N : Int) + (N : Int) + 1 := by push_cast; rfl
        have hkE : (((k : Nat) : Int) == (N : Int) * (N : Int) + (N : Int) + 1) = true := by rw [hk, e]; simp
        rw [e] at HId HTr HOr
        have hnn : (N : Int) * (N : Int) ≤ 169 := by
          have : N * N ≤ 13 * 13 := Nat.mul_le_mul (by omega) (by omega)
          exact_mod_cast this
        have hnn0 : 0 ≤ (N : Int) * (N : Int) := by exact_mod_cast Nat.zero_le _
        have HI := Lib.hid HId
        have HT := Lib.hid HTr
        have HO := Lib.hid HOr
        have HA2 := Lib.hid hA2
        clear HId HTr HOr hk e HF hA2
        go_wp2_with (first | (refine wl_loadS ?_) | (refine wl_load ?_) | (refine wl_storeS ?_) | (refine wl_store ?_) | (refine wl_build ?_) | (refine wl_slice ?_) | (refine wl_append ?_; intro v' w' ho hg hb; have hs := hg.size; (try simp at hs); (try rw [ptCs_end] at ho); (try rw [ints_end] at ho); (try simp only [Nat.zero_add, Nat.reduceAdd, List.nil_append, List.cons_append] at ho)) | (go_at_call 20; (with_reducible refine (HI.out _ b6 _ (HA2.out.link (LowK.lnk (findLow (w := wc))))).mono ?_); rintro e w' ⟨rfl, hb⟩; have hl := Link.mk hb; have hs := hb.size; (try simp at hs); clear hb) | (go_at_call 21; (with_reducible refine (HT.out _ b6 _ (HA2.out.link (LowK.lnk (findLow (w := wc))))).mono ?_); rintro e w' ⟨rfl, hb⟩; have hl := Link.mk hb; have hs := hb.size; (try simp at hs); clear hb) | (go_at_call 22; (with_reducible refine (HO.out _).mono ?_); rintro e w' ⟨rfl, hb⟩; have hl := Link.mk hb; have hs := hb.size; (try simp at hs); clear hb))
        (apply ret_one Tryz.results3; (conv => lhs; whnf); exact rfl)
        exact ret_ret rfl (LowK.link (LowK.lnk (findLow (w := wc))) hlow2)
      · have hne : (cd != 0) = true := by simpa using hcd
        have hk0 : k = 0 := HF.out.bad hcd
        subst hk0
        clear HF
        go_wp2_with (first | (refine wl_loadS ?_) | (refine wl_load ?_) | (refine wl_storeS ?_) | (refine wl_store ?_) | (refine wl_build ?_) | (refine wl_slice ?_) | (refine wl_append ?_; intro v' w' ho hg hb; have hs := hg.size; (try simp at hs); (try rw [ptCs_end] at ho); (try rw [ints_end] at ho); (try simp only [Nat.zero_add, Nat.reduceAdd, List.nil_append, List.cons_append] at ho)))
        (apply ret_one Tryz.results3; (conv => lhs; whnf); exact rfl)
        exact ret_ret (by simp) (LowK.link (LowK.lnk (findLow (w := wc))) hlow2)
theorem FnSinger_walk (b : Option Addr) (n c : Nat) (w : World) (hC : CodeK w b n) (hb : ∀ a, b = some a → a.block < w.heap.size) : Calls Tryz.prog 3 #[.slice b n c] w (Ret w (.bool true)) := by
  by_cases hn : n ≤ 4096
  · exact FnSinger_small b n c w hC hn hb
  · exact FnSinger_big b n c w (by omega)
end Go.Proofs.YtaocnklolgdkfaaGreat

