/- Contracts: inverses, normal lists made. -/
import Derived.Test.YthkbhaaodegocaaW2
import Derived.Laws.IdiomCopy
namespace Go.Proofs.Ythkbhaaodegocaa
open Go.RowKit
set_option linter.unusedVariables false
set_option linter.unusedSimpArgs false

theorem inverse_any (n p : Int) (w : World) (hp : prB p = true) (h0 : 0 < n) (h1 : n < p) :
    Calls Try.prog 76 #[.int .i64 n, .int .i64 p] w fun e w' => e = .returned (.int .i64 (invP p n)) ∧ w = w' := by
  obtain ⟨s1, s2, s3, s4⟩ := invP_spec hp h0 h1
  obtain ⟨b1, b2⟩ := prB_bd hp
  have S3 := Lib.hid s3; clear s3
  have S4 := Lib.hid s4; clear s4
  clear hp
  generalize invP p n = v at *
  go_enter Try.func76, Try.ntmps76
  go_wp2
  go_loop [5] (fun i => ∃ k : Int, 1 ≤ k ∧ k ≤ v ∧ i = .int .i64 k) (fun i => (v - intOf i).toNat)
  case atStart => exact ⟨1, by omega, by omega, rfl⟩
  case round =>
    obtain ⟨k, hk1, hk2, rfl⟩ := hrel
    obtain ⟨m1, m2⟩ := mul_bd (a := n) (b := k) (A := 12) (B := 12) (by omega) (by omega) (by omega) (by omega)
    by_cases e : k = v
    · have hne : (n * k % p != 1) = false := by rw [e, S3.out]; rfl
      have E := Lib.hid e; clear e
      go_wp2_with (go_at_call 65; refine (mod_any _ _ _ (by omega) (by omega) (by omega) (by omega)).mono ?_; rintro e w' ⟨rfl, rfl⟩)
      go_ret
      exact ⟨ret_int E.out, rfl⟩
    · have hne : (n * k % p != 1) = true := by have := S4.out k hk1 (by omega); simpa using this
      go_wp2_with (go_at_call 65; refine (mod_any _ _ _ (by omega) (by omega) (by omega) (by omega)).mono ?_; rintro e w' ⟨rfl, rfl⟩)
      go_round
      case rel => exact ⟨k + 1, by omega, by omega, rfl⟩
      case measure => simp [intOf]; omega
theorem l01Mod_any (p n : Int) (w : World) (hp : 0 < p) (hp' : p ≤ 1000) (hn : -4611686018427387904 ≤ n) (hn' : n ≤ 4611686018427387904) :
    Calls Try.prog 72 #[.int .i64 p, .int .i64 n] w fun e w' => e = .returned (.int .i64 (n % p)) ∧ w = w' := by
  have hb := tmod_lo n p hp
  have e : IntKind.i64.wrap (n.tmod p + p) = n.tmod p + p := IntWalk.i64_in _ (by omega)
  go_enter Try.func72, Try.ntmps72
  go_wp2
  go_ret
  exact ⟨ret_int (mod_is' n p hp), rfl⟩
theorem l01Inverse_any (p x : Int) (w : World) (hp : prB p = true) (hn : -4611686018427387904 ≤ x) (hn' : x ≤ 4611686018427387904) (h0 : 0 < x % p) :
    Calls Try.prog 71 #[.int .i64 p, .int .i64 x] w fun e w' => e = .returned (.int .i64 (invP p (x % p))) ∧ w = w' := by
  obtain ⟨b1, b2⟩ := prB_bd hp
  have h1 : x % p < p := Int.emod_lt_of_pos _ (by omega)
  obtain ⟨s1, s2, s3, s4⟩ := invP_spec hp h0 h1
  have hx := Lib.hid (l01Mod_any p x w (by omega) (by omega) hn hn')
  generalize x % p = n at *
  have S3 := Lib.hid s3; clear s3
  have S4 := Lib.hid s4; clear s4
  clear hp
  generalize invP p n = v at *
  go_enter Try.func71, Try.ntmps71
  go_wp2
  go_loop [5] (fun i => ∃ k : Int, 1 ≤ k ∧ k ≤ v ∧ i = .int .i64 k) (fun i => (v - intOf i).toNat)
  case atStart => exact ⟨1, by omega, by omega, rfl⟩
  case round =>
    obtain ⟨k, hk1, hk2, rfl⟩ := hrel
    have hkp : k < p := by omega
    obtain ⟨m1, m2⟩ := mul_bd (a := k) (b := n) (A := 12) (B := 12) (by omega) (by omega) (by omega) (by omega)
    by_cases e : k = v
    · have hne : (k * n % p == 1) = true := by rw [e, Int.mul_comm, S3.out]; rfl
      have E := Lib.hid e; clear e
      go_wp2_with (go_at_call 72; refine hx.out.mono ?_; rintro e w' ⟨rfl, rfl⟩)
      go_ret
      exact ⟨ret_int E.out, rfl⟩
    · have hne : (k * n % p == 1) = false := by have := S4.out k hk1 (by omega); rw [Int.mul_comm]; simpa using this
      go_wp2_with (go_at_call 72; refine hx.out.mono ?_; rintro e w' ⟨rfl, rfl⟩)
      go_round
      case rel => exact ⟨k + 1, by omega, by omega, rfl⟩
      case measure => simp [intOf]; omega

/-! ### numbers written one by one -/
def setInts (w : World) (b o : Nat) (l : List Int) : World := w.setCells b o (l.map (Value.int .i64))
theorem setCells_snoc (b : Nat) (v : Value) : ∀ (l : List Value) (o : Nat) (w : World), w.setCells b o (l ++ [v]) = (w.setCells b o l).setCell ⟨b, o + l.length, none⟩ v
  | [], o, w => rfl
  | u :: r, o, w => by
    show (w.setCell ⟨b, o, none⟩ u).setCells b (o + 1) (r ++ [v]) = ((w.setCell ⟨b, o, none⟩ u).setCells b (o + 1) r).setCell ⟨b, o + (r.length + 1), none⟩ v
    rw [setCells_snoc b v r (o + 1), show o + (r.length + 1) = o + 1 + r.length by omega]
theorem setInts_snoc (w : World) (b o : Nat) (l : List Int) (x : Int) : setInts w b o (l ++ [x]) = (setInts w b o l).setCell ⟨b, o + l.length, none⟩ (.int .i64 x) := by
  unfold setInts; rw [List.map_append]; simp only [List.map_cons, List.map_nil]; rw [setCells_snoc, List.length_map]
theorem setInts_cell_ge (w : World) (b o : Nat) (l : List Int) (i : Nat) (h : l.length ≤ i) : (setInts w b o l).cell? ⟨b, o + i, none⟩ = w.cell? ⟨b, o + i, none⟩ :=
  World.cell?_setCells_out b _ o w _ (fun _ _ => .inr (by simp; omega))
theorem setInts_frozen (w : World) (b o : Nat) (l : List Int) (a : Addr) : (setInts w b o l).frozen? a = w.frozen? a := World.frozen?_setCells b _ o w a
theorem setInts_other (w : World) (b o : Nat) (l : List Int) (a : Addr) (h : a.block ≠ b) : (setInts w b o l).cell? a = w.cell? a :=
  World.cell?_setCells_out b _ o w a (fun e _ => (h e).elim)
theorem setInts_cell (w : World) (b o : Nat) (l : List Int) (hc : ∀ j, j < l.length → (w.cell? ⟨b, o + j, none⟩).isSome = true) (i : Nat) (h : i < l.length) : (setInts w b o l).cell? ⟨b, o + i, none⟩ = some (.int .i64 (l.getD i 0)) := by
  unfold setInts
  rw [World.cell?_setCells_in b (l.map (Value.int .i64)) o w (by simpa using hc) i (by simpa using h)]
  simp [List.getD, h]
theorem setCells_size (b : Nat) : ∀ (l : List Value) (o : Nat) (w : World), (w.setCells b o l).heap.size = w.heap.size
  | [], _, _ => rfl
  | u :: r, o, w => by
    show ((w.setCell ⟨b, o, none⟩ u).setCells b (o + 1) r).heap.size = w.heap.size
    rw [setCells_size b r]; simp [World.setCell]
theorem setInts_size (w : World) (b o : Nat) (l : List Int) : (setInts w b o l).heap.size = w.heap.size := setCells_size b _ o w
theorem below_setCells {B : Nat} {w : World} (b : Nat) (hb : B ≤ b) : ∀ (l : List Value) (o : Nat) (W : World), Below B w W → Below B w (W.setCells b o l)
  | [], _, _, h => h
  | u :: r, o, W, h => below_setCells b hb r (o + 1) _ (h.setCell hb _)
theorem below_setInts {B : Nat} {w W : World} {b : Nat} (h : Below B w W) (hb : B ≤ b) (o : Nat) (l : List Int) : Below B w (setInts W b o l) := below_setCells b hb _ o W h

theorem setInts3 (w : World) (b : Nat) (x y z : Int) : setInts w b 0 [x, y, z] = ((w.setCell ⟨b, 0, none⟩ (.int .i64 x)).setCell ⟨b, 1, none⟩ (.int .i64 y)).setCell ⟨b, 2, none⟩ (.int .i64 z) := rfl
theorem normal_any (p : Int) (b o n cap : Nat) (l : List Int) (w : World) (hp : prB p = true) (hl : l.length = n) (hn : n ≤ 4611686018427387904)
    (hc : ∀ i, i < n → w.cell? ⟨b, o + i, none⟩ = some (.int .i64 (l.getD i 0))) (hf : ∀ i, i < n → w.frozen? ⟨b, o + i, none⟩ = false)
    (hx : ∀ i, i < n → -4611686018427387904 ≤ l.getD i 0 ∧ l.getD i 0 ≤ 4611686018427387904) :
    Calls Try.prog 183 #[.int .i64 p, .slice (some ⟨b, o, none⟩) n cap] w fun e w' => e = .returned (.bool (nzB p l)) ∧ setInts w b o (normL p l) = w' := by
  obtain ⟨b1, b2⟩ := prB_bd hp
  have HL := Lib.hid hl; clear hl
  have HC := Lib.hid hc; clear hc
  have HZ := Lib.hid hf; clear hf
  have HX := Lib.hid hx; clear hx
  have HP := Lib.hid hp; clear hp
  go_enter Try.func183, Try.ntmps183
  go_wp2
  go_loopw [5, 10] (fun f i wr => ∃ k : Nat, k ≤ n ∧ i = .int .i64 k ∧ f = .int .i64 (facL p (l.take k)) ∧ Hid (wr = setInts w b o ((normL p l).take k))) (fun _ i wr => n - (intOf i).toNat)
  case atStart => exact ⟨0, Nat.zero_le _, rfl, by show Value.int .i64 0 = .int .i64 (invP p 0); rw [invP_zero p (by omega)], Lib.hid rfl⟩
  case round =>
    obtain ⟨k, hk, rfl, rfl, HW⟩ := hrel
    have hfb := facL_bd HP.out (l.take k)
    by_cases hlt : k < n
    · have hcell : wr.cell? ⟨b, o + k, none⟩ = some (.int .i64 (l.getD k 0)) := by
        rw [HW.out, setInts_cell_ge _ _ _ _ _ (by simp; omega)]; exact HC.out k hlt
      have hfrz : wr.frozen? ⟨b, o + k, none⟩ = false := by rw [HW.out, setInts_frozen]; exact HZ.out k hlt
      have HS : Hid ((normL p l).take (k + 1) = (normL p l).take k ++ [(l.getD k 0 % p) * facL p (l.take (k + 1)) % p]) := Lib.hid (by
        rw [take_snoc' _ 0 k (by rw [normL_length]; have := HL.out; omega), normL_at HP.out _ _ (by have := HL.out; omega)])
      have HF : Hid (facL p (l.take (k + 1)) = if facL p (l.take k) = 0 then invP p (l.getD k 0 % p) else facL p (l.take k)) := Lib.hid (by
        rw [take_snoc' l 0 k (by have := HL.out; omega), facL_snoc HP.out])
      have hxb := HX.out k hlt
      have HM := Lib.hid (mod_any (l.getD k 0) p wr (by omega) (by omega) hxb.1 hxb.2)
      have hm0 : 0 ≤ l.getD k 0 % p := Int.emod_nonneg _ (by omega)
      have hm1 : l.getD k 0 % p < p := Int.emod_lt_of_pos _ (by omega)
      generalize l.getD k 0 = x at *
      generalize x % p = m at *
      generalize facL p (l.take k) = f at *
      by_cases hf0 : f = 0
      · have hF1 := HF.out; rw [if_pos hf0] at hF1
        have ht1 : (f == 0) = true := by simp [hf0]
        by_cases hm : m = 0
        · have ht2 : (m != 0) = false := by simp [hm]
          have HN : Hid (facL p (l.take (k + 1)) = f ∧ (normL p l).take (k + 1) = (normL p l).take k ++ [m * f % p]) := Lib.hid (by
            have e : facL p (l.take (k + 1)) = f := by rw [hF1, hm, invP_zero p (by omega), hf0]
            exact ⟨e, by rw [HS.out, e]⟩)
          clear HF HS hF1
          obtain ⟨m1, m2⟩ := mul_bd (a := m) (b := f) (A := 12) (B := 12) (by omega) (by omega) (by omega) (by omega)
          have HM2 := Lib.hid (mod_any (m * f) p wr (by omega) (by omega) (by omega) (by omega))
          have HE := Lib.hid hf0; have HE2 := Lib.hid hm; clear hf0 hm
          go_wp2_with (go_at_call 65; first | ((with_reducible refine HM.out.mono ?_); rintro e w' ⟨rfl, rfl⟩) | ((with_reducible refine HM2.out.mono ?_); rintro e w' ⟨rfl, rfl⟩))
          go_roundw
          case rel => exact ⟨k + 1, by omega, by go_num, by rw [HN.out.1], Lib.hid (by rw [HN.out.2, setInts_snoc, ← HW.out]; simp [normL_length]; congr 2; have := HL.out; omega)⟩
          case measure => simp [intOf]; omega
        · have ht2 : (m != 0) = true := by simp [hm]
          have HI := Lib.hid (inverse_any m p wr HP.out (by omega) (by omega))
          have hvb := invP_bd HP.out hm0 hm1
          have HN : Hid (facL p (l.take (k + 1)) = invP p m ∧ (normL p l).take (k + 1) = (normL p l).take k ++ [m * invP p m % p]) := Lib.hid ⟨hF1, by rw [HS.out, hF1]⟩
          clear HF HS hF1
          generalize invP p m = v at *
          obtain ⟨m1, m2⟩ := mul_bd (a := m) (b := v) (A := 12) (B := 12) (by omega) (by omega) (by omega) (by omega)
          have HM2 := Lib.hid (mod_any (m * v) p wr (by omega) (by omega) (by omega) (by omega))
          have HE := Lib.hid hf0; have HE2 := Lib.hid hm; clear hf0 hm
          go_wp2_with (first
            | (go_at_call 65; first | ((with_reducible refine HM.out.mono ?_); rintro e w' ⟨rfl, rfl⟩) | ((with_reducible refine HM2.out.mono ?_); rintro e w' ⟨rfl, rfl⟩))
            | (go_at_call 76; (with_reducible refine HI.out.mono ?_); rintro e w' ⟨rfl, rfl⟩))
          go_roundw
          case rel => exact ⟨k + 1, by omega, by go_num, by rw [HN.out.1], Lib.hid (by rw [HN.out.2, setInts_snoc, ← HW.out]; simp [normL_length]; congr 2; have := HL.out; omega)⟩
          case measure => simp [intOf]; omega
      · have hF1 := HF.out; rw [if_neg hf0] at hF1
        have ht1 : (f == 0) = false := by simp [hf0]
        have HN : Hid (facL p (l.take (k + 1)) = f ∧ (normL p l).take (k + 1) = (normL p l).take k ++ [m * f % p]) := Lib.hid ⟨hF1, by rw [HS.out, hF1]⟩
        clear HF HS hF1
        obtain ⟨m1, m2⟩ := mul_bd (a := m) (b := f) (A := 12) (B := 12) (by omega) (by omega) (by omega) (by omega)
        have HM2 := Lib.hid (mod_any (m * f) p wr (by omega) (by omega) (by omega) (by omega))
        have HE := Lib.hid hf0; clear hf0
        go_wp2_with (go_at_call 65; first | ((with_reducible refine HM.out.mono ?_); rintro e w' ⟨rfl, rfl⟩) | ((with_reducible refine HM2.out.mono ?_); rintro e w' ⟨rfl, rfl⟩))
        go_roundw
        case rel => exact ⟨k + 1, by omega, by go_num, by rw [HN.out.1], Lib.hid (by rw [HN.out.2, setInts_snoc, ← HW.out]; simp [normL_length]; congr 2; have := HL.out; omega)⟩
        case measure => simp [intOf]; omega
    · have HT : Hid (l.take k = l ∧ (normL p l).take k = normL p l) := Lib.hid ⟨List.take_of_length_le (by have := HL.out; omega), List.take_of_length_le (by rw [normL_length]; have := HL.out; omega)⟩
      have HG : Hid ((facL p (l.take k) != 0) = nzB p l) := Lib.hid (by
        rw [HT.out.1]; unfold nzB
        rw [Bool.eq_iff_iff]; simp [facL_zero HP.out, firstNZ_eq_zero])
      generalize facL p (l.take k) = f at *
      go_wp2
      go_ret
      exact ⟨ret_bool HG.out, by rw [HW.out, HT.out.2]⟩
end Go.Proofs.Ythkbhaaodegocaa
