/- Contracts: the reference's normal lists and crossed numbers. -/
import Derived.Test.YthkbhaaodegocaaW8
import Derived.BigRegion
import Derived.RegionTactic
namespace Go.Proofs.Ythkbhaaodegocaa
open Go.RowKit
set_option linter.unusedVariables false
set_option linter.unusedSimpArgs false
theorem own_base' {w : World} {base : Nat} {e : TypeId} {size n : Nat} {v : Value} {xs : List Value} (h : w.ownsRow base e size v n xs) (k : Nat) (hk : v.ownBlock = some k) : base ≤ k := by
  rcases h.2 with ⟨rfl, _⟩ | ⟨g, cap, cur, rfl, hb, _⟩
  · simp [Value.ownBlock] at hk
  · have : g = k := by simpa [Value.ownBlock] using hk
    omega
theorem ret_tb {v v' : Value} {a b : Bool} (hv : v = v') (h : a = b) : Ending.returned (.tuple #[v, .bool a]) = .returned (.tuple #[v', .bool b]) := by rw [hv, h]
def ints (l : List Int) : List Value := l.map (Value.int .i64)
theorem ints_snoc (l : List Int) (x : Int) : ints (l ++ [x]) = ints l ++ [.int .i64 x] := by simp [ints]
theorem new1 (wr : World) (x : Value) (T : TypeId) : ∀ (j : Nat) (u : Value), [x][j]? = some u → (wr.alloc (.cells #[x] T)).cell? ((⟨wr.heap.size, 0, none⟩ : Addr).add j) = some u := by
  intro j u hj
  cases j with
  | zero =>
    have e : x = u := by simpa using hj
    subst e
    exact World.cell?_alloc_at _ _ _ _ rfl
  | succ j => simp at hj
theorem one1 (k : IntKind) (x : Int) : ∀ u ∈ [Value.int k x], u.oneCell' = true := by
  intro u hu
  have e : u = .int k x := by simpa using hu
  subst e; rfl
/-- A new list of numbers, and whether it is other than 0. -/
structure NormPost (w : World) (p : Int) (l : List Int) (n : Nat) (e : Ending) (w' : World) : Prop where
  out : ∃ v, e = .returned (.tuple #[v, .bool (nzB p l)]) ∧ w'.ownsRow w.heap.size 2 1 v n (ints (normL p l)) ∧ Below w.heap.size w w'
theorem info64 : (Try.prog.info? 2).map (fun i => (i.zero, i.size, i.bytes)) = some (some (.int .i64 0), 1, 8) := by kernel_rfl
set_option maxHeartbeats 1000000 in
theorem l01Norm_any (p : Int) (b o n cap : Nat) (l : List Int) (w : World) (hp : prB p = true) (hl : l.length = n) (hn : n ≤ 1000000)
    (hc : ∀ i, i < n → w.cell? ⟨b, o + i, none⟩ = some (.int .i64 (l.getD i 0)))
    (hx : ∀ i, i < n → -4611686018427387904 ≤ l.getD i 0 ∧ l.getD i 0 ≤ 4611686018427387904) :
    Calls Try.prog 179 #[.int .i64 p, .slice (some ⟨b, o, none⟩) n cap] w (NormPost w p l n) := by
  obtain ⟨b1, b2⟩ := prB_bd hp
  have hpz : (p == 0) = false := beqf (by omega)
  have HL := Lib.hid hl; clear hl
  have HC := Lib.hid hc; clear hc
  have HX := Lib.hid hx; clear hx
  have HP := Lib.hid hp; clear hp
  obtain ⟨i0, hi, hz0, hz1, hz2⟩ := info_parts info64
  have HI0 := Lib.hid hi; have HZ0 := Lib.hid hz0; have HZ1 := Lib.hid hz1; have HZ2 := Lib.hid hz2
  clear hi hz0 hz1 hz2
  go_enter Try.func179, Try.ntmps179
  go_wp2
  go_loopw [6, 7, 8] (fun f v i wr => ∃ k : Nat, k ≤ n ∧ i = .int .i64 k ∧ f = .int .i64 (facL p (l.take k)) ∧ Hid (wr.ownsRow w.heap.size 2 1 v k (ints ((normL p l).take k))) ∧ Hid (Below w.heap.size w wr)) (fun _ _ i wr => n - (intOf i).toNat)
  case atStart =>
    refine ⟨0, Nat.zero_le _, rfl, by show Value.int .i64 0 = .int .i64 (invP p 0); rw [invP_zero p (by omega)], Lib.hid ?_, Lib.hid (by repeat (first | exact Below.refl _ _ | refine bset ?_ _ _ (by omega) _ | refine bal ?_ _ | refine bdrN ?_ _ | refine bdr ?_))⟩
    refine ⟨rfl, .inr ⟨w.heap.size, 0, #[], rfl, Nat.le_refl _, heap_alloc_new _ _, Nat.le_refl _, by unfold maxLen; omega, rfl, rfl⟩⟩
  case round =>
    obtain ⟨k, hk, rfl, rfl, HO, HB⟩ := hrel
    have hfb := facL_bd HP.out (l.take k)
    by_cases hlt : k < n
    · have hcell : wr.cell? ⟨b, o + k, none⟩ = some (.int .i64 (l.getD k 0)) := cell_below HB.out (HC.out k hlt)
      have HS : Hid ((normL p l).take (k + 1) = (normL p l).take k ++ [(l.getD k 0 % p) * facL p (l.take (k + 1)) % p]) := Lib.hid (by
        rw [take_snoc' _ 0 k (by rw [normL_length]; have := HL.out; omega), normL_at HP.out _ _ (by have := HL.out; omega)])
      have HF : Hid (facL p (l.take (k + 1)) = if facL p (l.take k) = 0 then invP p (l.getD k 0 % p) else facL p (l.take k)) := Lib.hid (by
        rw [take_snoc' l 0 k (by have := HL.out; omega), facL_snoc HP.out])
      have hxb := HX.out k hlt
      have HM := Lib.hid (l01Mod_any p (l.getD k 0) wr (by omega) (by omega) hxb.1 hxb.2)
      have hm0 : 0 ≤ l.getD k 0 % p := Int.emod_nonneg _ (by omega)
      have hm1 : l.getD k 0 % p < p := Int.emod_lt_of_pos _ (by omega)
      generalize l.getD k 0 = x at *
      generalize x % p = m at *
      generalize facL p (l.take k) = f at *
      by_cases hf0 : f = 0
      · have hF1 := HF.out; rw [if_pos hf0] at hF1
        have ht1 : (f == 0) = true := beqt hf0
        by_cases hm : m = 0
        · have ht2 : (m != 0) = false := bnef hm
          have HN : Hid (facL p (l.take (k + 1)) = f ∧ (normL p l).take (k + 1) = (normL p l).take k ++ [m * f % p]) := Lib.hid (by
            have e : facL p (l.take (k + 1)) = f := by rw [hF1, hm, invP_zero p (by omega), hf0]
            exact ⟨e, by rw [HS.out, e]⟩)
          clear HF HS hF1
          obtain ⟨m1, m2⟩ := mul_bd (a := m) (b := f) (A := 12) (B := 12) (by omega) (by omega) (by omega) (by omega)
          have HE := Lib.hid hf0; have HE2 := Lib.hid hm; clear hf0 hm
          go_wp2_with (first
            | (go_at_call 72; (with_reducible refine (HM.out).mono ?_); rintro e w' ⟨rfl, rfl⟩)
            | (at_builtin; refine wpList_append_own _ rfl _ _ 34 rfl w.heap.size 2 i0 (.int .i64 0) 1 8 Try.underlying34 HI0.out HZ0.out HZ1.out HZ2.out rfl (by decide) _ _ _ rfl (HO.out.alloc _) ⟨wr.heap.size, 0, none⟩ 1 1 [.int .i64 (m * f % p)] rfl rfl (new1 _ _ _) (one1 _ _) (by unfold maxLen; omega) (by omega) (by have := HB.out.size; simp; omega) ?_; intro v2 w2 hown hgrow _; have HO2 := Lib.hid hown; have HG := Lib.hid hgrow; clear hown hgrow))
          go_roundw
          case rel => exact ⟨k + 1, by omega, by go_num, by rw [HN.out.1], Lib.hid (by rw [HN.out.2, ints_snoc]; exact HO2.out), Lib.hid ((bal HB.out _).grown HG.out (by have := HB.out.size; simp; omega) (fun k' hk' => own_base' HO.out k' hk'))⟩
          case measure => simp [intOf]; omega
        · have ht2 : (m != 0) = true := bnet hm
          have HI := Lib.hid (l01Inverse_any p m wr HP.out (by omega) (by omega) (by rw [Int.emod_eq_of_lt hm0 hm1]; omega))
          rw [Int.emod_eq_of_lt hm0 hm1] at HI
          have hvb := invP_bd HP.out hm0 hm1
          have HN : Hid (facL p (l.take (k + 1)) = invP p m ∧ (normL p l).take (k + 1) = (normL p l).take k ++ [m * invP p m % p]) := Lib.hid ⟨hF1, by rw [HS.out, hF1]⟩
          clear HF HS hF1
          generalize invP p m = g at *
          obtain ⟨m1, m2⟩ := mul_bd (a := m) (b := g) (A := 12) (B := 12) (by omega) (by omega) (by omega) (by omega)
          have HE := Lib.hid hf0; have HE2 := Lib.hid hm; clear hf0 hm
          go_wp2_with (first
            | (go_at_call 72; (with_reducible refine (HM.out).mono ?_); rintro e w' ⟨rfl, rfl⟩)
            | (go_at_call 71; (with_reducible refine (HI.out).mono ?_); rintro e w' ⟨rfl, rfl⟩)
            | (at_builtin; refine wpList_append_own _ rfl _ _ 34 rfl w.heap.size 2 i0 (.int .i64 0) 1 8 Try.underlying34 HI0.out HZ0.out HZ1.out HZ2.out rfl (by decide) _ _ _ rfl (HO.out.alloc _) ⟨wr.heap.size, 0, none⟩ 1 1 [.int .i64 (m * g % p)] rfl rfl (new1 _ _ _) (one1 _ _) (by unfold maxLen; omega) (by omega) (by have := HB.out.size; simp; omega) ?_; intro v2 w2 hown hgrow _; have HO2 := Lib.hid hown; have HG := Lib.hid hgrow; clear hown hgrow))
          go_roundw
          case rel => exact ⟨k + 1, by omega, by go_num, by rw [HN.out.1], Lib.hid (by rw [HN.out.2, ints_snoc]; exact HO2.out), Lib.hid ((bal HB.out _).grown HG.out (by have := HB.out.size; simp; omega) (fun k' hk' => own_base' HO.out k' hk'))⟩
          case measure => simp [intOf]; omega
      · have hF1 := HF.out; rw [if_neg hf0] at hF1
        have ht1 : (f == 0) = false := beqf hf0
        have HN : Hid (facL p (l.take (k + 1)) = f ∧ (normL p l).take (k + 1) = (normL p l).take k ++ [m * f % p]) := Lib.hid ⟨hF1, by rw [HS.out, hF1]⟩
        clear HF HS hF1
        obtain ⟨m1, m2⟩ := mul_bd (a := m) (b := f) (A := 12) (B := 12) (by omega) (by omega) (by omega) (by omega)
        have HE := Lib.hid hf0; clear hf0
        go_wp2_with (first
          | (go_at_call 72; (with_reducible refine (HM.out).mono ?_); rintro e w' ⟨rfl, rfl⟩)
          | (at_builtin; refine wpList_append_own _ rfl _ _ 34 rfl w.heap.size 2 i0 (.int .i64 0) 1 8 Try.underlying34 HI0.out HZ0.out HZ1.out HZ2.out rfl (by decide) _ _ _ rfl (HO.out.alloc _) ⟨wr.heap.size, 0, none⟩ 1 1 [.int .i64 (m * f % p)] rfl rfl (new1 _ _ _) (one1 _ _) (by unfold maxLen; omega) (by omega) (by have := HB.out.size; simp; omega) ?_; intro v2 w2 hown hgrow _; have HO2 := Lib.hid hown; have HG := Lib.hid hgrow; clear hown hgrow))
        go_roundw
        case rel => exact ⟨k + 1, by omega, by go_num, by rw [HN.out.1], Lib.hid (by rw [HN.out.2, ints_snoc]; exact HO2.out), Lib.hid ((bal HB.out _).grown HG.out (by have := HB.out.size; simp; omega) (fun k' hk' => own_base' HO.out k' hk'))⟩
        case measure => simp [intOf]; omega
    · have HT : Hid (l.take k = l ∧ (normL p l).take k = normL p l ∧ k = n) := Lib.hid ⟨List.take_of_length_le (by have := HL.out; omega), List.take_of_length_le (by rw [normL_length]; have := HL.out; omega), by omega⟩
      have HG : Hid ((facL p (l.take k) != 0) = nzB p l) := Lib.hid (by
        rw [HT.out.1]; unfold nzB
        rw [Bool.eq_iff_iff]; simp [facL_zero HP.out, firstNZ_eq_zero])
      generalize facL p (l.take k) = f at *
      go_wp2
      go_ret2
      refine ⟨u7, ret_tb rfl HG.out, ?_, HB.out⟩
      · have h := HO.out
        rw [HT.out.2.1, HT.out.2.2] at h; exact h

/-- A new list of three, laid open. -/
theorem own3 {W : World} {base : Nat} {T : TypeId} {v : Value} {x y z : Int} (h : W.ownsRow base T 1 v 3 (ints [x, y, z])) :
    ∃ g cap, v = .slice (some ⟨g, 0, none⟩) 3 cap ∧ base ≤ g ∧ g < W.heap.size ∧ W.cell? ⟨g, 0, none⟩ = some (.int .i64 x) ∧ W.cell? ⟨g, 1, none⟩ = some (.int .i64 y) ∧ W.cell? ⟨g, 2, none⟩ = some (.int .i64 z) := by
  rcases h.2 with ⟨_, h0⟩ | ⟨g, cap, cur, rfl, hb, hg, hle, _, hsz, htk⟩
  · cases h0
  · have hat : ∀ j, j < 3 → cur[j]? = (ints [x, y, z])[j]? := by
      intro j hj
      rw [← htk, List.getElem?_take_of_lt (by omega)]; simp
    refine ⟨g, cap, rfl, hb, (Array.getElem?_eq_some_iff.1 hg).1, ?_, ?_, ?_⟩
    · rw [cell_of_row W g 0 _ _ _ hg, hat 0 (by omega)]; rfl
    · rw [cell_of_row W g 1 _ _ _ hg, hat 1 (by omega)]; rfl
    · rw [cell_of_row W g 2 _ _ _ hg, hat 2 (by omega)]; rfl
structure Norm3Post (w : World) (p x y z : Int) (e : Ending) (w' : World) : Prop where
  out : ∃ g cap, e = .returned (.tuple #[.slice (some ⟨g, 0, none⟩) 3 cap, .bool (nzB p [x, y, z])]) ∧ w.heap.size ≤ g ∧ g < w'.heap.size ∧
    w'.cell? ⟨g, 0, none⟩ = some (.int .i64 (nrm3 p x y z).1) ∧ w'.cell? ⟨g, 1, none⟩ = some (.int .i64 (nrm3 p x y z).2.1) ∧ w'.cell? ⟨g, 2, none⟩ = some (.int .i64 (nrm3 p x y z).2.2) ∧ Below w.heap.size w w'
theorem norm3_any (p x y z : Int) (b : Nat) (w : World) (hp : prB p = true) (hx : -4611686018427387904 ≤ x ∧ x ≤ 4611686018427387904) (hy : -4611686018427387904 ≤ y ∧ y ≤ 4611686018427387904) (hz : -4611686018427387904 ≤ z ∧ z ≤ 4611686018427387904)
    (hc : ∀ i, i < 3 → w.cell? ⟨b, 0 + i, none⟩ = some (.int .i64 ([x, y, z].getD i 0))) :
    Calls Try.prog 179 #[.int .i64 p, .slice (some ⟨b, 0, none⟩) 3 3] w (Norm3Post w p x y z) := by
  refine (l01Norm_any p b 0 3 3 [x, y, z] w hp rfl (by omega) hc (by intro i hi; match i, hi with | 0, _ => (simp; omega) | 1, _ => (simp; omega) | 2, _ => (simp; omega))).mono ?_
  rintro e w' ⟨v, rfl, ho, hb⟩
  rw [normL3] at ho
  obtain ⟨g, cap, rfl, h1, h2, c0, c1, c2⟩ := own3 ho
  exact ⟨g, cap, rfl, h1, h2, c0, c1, c2, hb⟩
/-- What three stored numbers read as. -/
theorem rd3 {W : World} {b : Nat} {a0 a1 a2 : Value} (x y z : Value) (d0 : W.cell? ⟨b, 0, none⟩ = some a0) (d1 : W.cell? ⟨b, 1, none⟩ = some a1) (d2 : W.cell? ⟨b, 2, none⟩ = some a2) :
    (W.setCell ⟨b, 0, none⟩ x).cell? ⟨b, 0, none⟩ = some x ∧ ((W.setCell ⟨b, 0, none⟩ x).setCell ⟨b, 1, none⟩ y).cell? ⟨b, 1, none⟩ = some y ∧ (((W.setCell ⟨b, 0, none⟩ x).setCell ⟨b, 1, none⟩ y).setCell ⟨b, 2, none⟩ z).cell? ⟨b, 2, none⟩ = some z := by
  refine ⟨World.cell?_setCell_same _ _ _ d0, World.cell?_setCell_same (u := a1) _ _ _ ?_, World.cell?_setCell_same (u := a2) _ _ _ ?_⟩
  · rw [World.cell?_setCell_other _ _ _ _ (by simp)]; exact d1
  · rw [World.cell?_setCell_other _ _ _ _ (by simp), World.cell?_setCell_other _ _ _ _ (by simp)]; exact d2
/-- The point of three numbers, and whether there is one. -/
def made (p x y z : Int) : Pt × Bool := if nzB p [x, y, z] then (nrm3 p x y z, true) else ((0, 0, 0), false)
set_option maxHeartbeats 1000000 in
theorem l01Made_any (p x y z : Int) (w : World) (hp : prB p = true) (hx : -4611686018427387904 ≤ x ∧ x ≤ 4611686018427387904) (hy : -4611686018427387904 ≤ y ∧ y ≤ 4611686018427387904) (hz : -4611686018427387904 ≤ z ∧ z ≤ 4611686018427387904) :
    Calls Try.prog 172 #[.int .i64 p, .int .i64 x, .int .i64 y, .int .i64 z] w (Ret w (.tuple #[ptV (made p x y z).1.1 (made p x y z).1.2.1 (made p x y z).1.2.2, .bool (made p x y z).2])) := by
  have HC := Lib.hid (fun (g : Nat) (W : World) hc => norm3_any p x y z g W hp hx hy hz hc)
  have HE : made p x y z = if nzB p [x, y, z] then (nrm3 p x y z, true) else ((0, 0, 0), false) := rfl
  have HD : Hid (∀ (w : World) e w', Norm3Post w p x y z e w' → ∃ g cap, e = .returned (.tuple #[.slice (some ⟨g, 0, none⟩) 3 cap, .bool (nzB p [x, y, z])]) ∧ w.heap.size ≤ g ∧ g < w'.heap.size ∧
    w'.cell? ⟨g, 0, none⟩ = some (.int .i64 (nrm3 p x y z).1) ∧ w'.cell? ⟨g, 1, none⟩ = some (.int .i64 (nrm3 p x y z).2.1) ∧ w'.cell? ⟨g, 2, none⟩ = some (.int .i64 (nrm3 p x y z).2.2) ∧ Below w.heap.size w w') := Lib.hid (fun _ _ _ h => h.out)
  clear hp
  generalize nrm3 p x y z = r at *
  obtain ⟨u0, u1, u2⟩ := r
  cases hn : nzB p [x, y, z] with
  | true =>
    rw [hn] at HE HD
    have HM : Hid (made p x y z = ((u0, u1, u2), true)) := Lib.hid HE
    clear HE hn
    go_enter Try.func172, Try.ntmps172
    go_wp2_with (go_at_call 179; refine (HC.out _ _ (new3 _ _ _ _ _ _ (by simp))).mono ?_; intro e w1 hpost; obtain ⟨g, cap, rfl, h1, h2, c0, c1, c2, hb⟩ := HD.out _ _ _ hpost; obtain ⟨hcb, hfb, hlb⟩ := bcell hb; have hsz := hb.size; (try simp at hsz); (try simp at h1); have hl0 : w.heap.size < w1.heap.size := (by omega); have hne : w.heap.size < g := (by omega); have HB := Lib.hid hb; clear hb hpost)
    go_region
    all_goals go_wp2
    have d0 : w1.cell? ⟨w.heap.size, 0, none⟩ = some (.int .i64 0) := by rw [hcb _ _ (by simp; omega)]; simp [go_sem]
    have d1 : w1.cell? ⟨w.heap.size, 1, none⟩ = some (.int .i64 0) := by rw [hcb _ _ (by simp; omega)]; simp [go_sem]
    have d2 : w1.cell? ⟨w.heap.size, 2, none⟩ = some (.int .i64 0) := by rw [hcb _ _ (by simp; omega)]; simp [go_sem]
    obtain ⟨q0, q1, q2⟩ := rd3 (.int .i64 u0) (.int .i64 u1) (.int .i64 u2) d0 d1 d2
    exact bodyPost_ret (v := .tuple #[ptV u0 u1 u2, .bool true]) (by simp [results, Try.results172, go_sem, q0, q1, q2]) rfl ⟨by rw [HM.out], (by repeat (first | exact Below.refl _ _ | refine bset ?_ _ _ (by omega) _ | refine bal ?_ _ | refine bdrN ?_ _ | refine bdr ?_ | refine below_tr' ?_ HB.out))⟩
  | false =>
    rw [hn] at HE HD
    have HM : Hid (made p x y z = ((0, 0, 0), false)) := Lib.hid HE
    clear HE hn
    go_enter Try.func172, Try.ntmps172
    go_wp2_with (go_at_call 179; refine (HC.out _ _ (new3 _ _ _ _ _ _ (by simp))).mono ?_; intro e w1 hpost; obtain ⟨g, cap, rfl, h1, h2, c0, c1, c2, hb⟩ := HD.out _ _ _ hpost; obtain ⟨hcb, hfb, hlb⟩ := bcell hb; have hsz := hb.size; (try simp at hsz); (try simp at h1); have hl0 : w.heap.size < w1.heap.size := (by omega); have hne : w.heap.size < g := (by omega); have HB := Lib.hid hb; clear hb hpost)
    have d0 : w1.cell? ⟨w.heap.size, 0, none⟩ = some (.int .i64 0) := by rw [hcb _ _ (by simp; omega)]; simp [go_sem]
    have d1 : w1.cell? ⟨w.heap.size, 1, none⟩ = some (.int .i64 0) := by rw [hcb _ _ (by simp; omega)]; simp [go_sem]
    have d2 : w1.cell? ⟨w.heap.size, 2, none⟩ = some (.int .i64 0) := by rw [hcb _ _ (by simp; omega)]; simp [go_sem]
    obtain ⟨q0, q1, q2⟩ := rd3 (.int .i64 0) (.int .i64 0) (.int .i64 0) d0 d1 d2
    exact bodyPost_ret (v := .tuple #[ptV 0 0 0, .bool false]) (by simp [results, Try.results172, go_sem, q0, q1, q2]) rfl ⟨by rw [HM.out], (by repeat (first | exact Below.refl _ _ | refine bset ?_ _ _ (by omega) _ | refine bal ?_ _ | refine bdrN ?_ _ | refine bdr ?_ | refine below_tr' ?_ HB.out))⟩
end Go.Proofs.Ythkbhaaodegocaa
