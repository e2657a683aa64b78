/- Contracts: pointsThat, for each closure that is handed to it. (Printed by genthat.py, a program of this session.) -/
import Derived.Test.YthkbhaaodegocaaF2
namespace Go.Proofs.Ythkbhaaodegocaa
open Go.RowKit
set_option linter.unusedVariables false
set_option linter.unusedSimpArgs false
theorem that1_call (g : Nat) (x y z : Int) (v : Bool) (T : TypeId) (c0 c1 : Value) (W : World) (hg : W.heap[g]? = some (.cells #[.func (.func 103) #[] #[c0, c1]] T (0, 0)))
    (hF : ∀ W' : World, Below W.heap.size W W' → Calls Try.prog 103 #[ptV x y z, c0, c1] W' (Ret W' (.bool v))) :
    Calls Try.prog 148 #[ptV x y z, .pointer (some ⟨g, 0, none⟩)] W (Ret W (.bool (!v))) := by
  have HF := Lib.hid hF
  have c0 : W.cell? ⟨g, 0, none⟩ = some (.func (.func 103) #[] #[c0, c1]) := by rw [cell_of_row W g 0 _ _ _ hg]; rfl
  have hl : g < W.heap.size := (Array.getElem?_eq_some_iff.1 hg).1
  clear hF hg
  go_enter Try.func148, Try.ntmps148
  go_wp2_with (go_at_call 103; (with_reducible refine (HF.out _ (by repeat (first | exact Below.refl _ _ | refine bset ?_ _ _ (by omega) _ | refine bal ?_ _ | refine bdrN ?_ _ | refine bdr ?_))).mono ?_); rintro e w1_ ⟨rfl, hb1⟩; obtain ⟨hcb1, hfb1, hlb1⟩ := bcell hb1; have hsz1 := hb1.size; (try simp at hsz1); have HB1 := Lib.hid hb1; clear hb1; (try (have hl01 : w.heap.size < w1_.heap.size := by omega)))
  go_ret
  exact ⟨rfl, (by repeat (first | exact Below.refl _ _ | refine bset ?_ _ _ (by omega) _ | refine bal ?_ _ | refine bdrN ?_ _ | refine bdr ?_ | refine below_tr' ?_ HB1.out))⟩
set_option maxHeartbeats 1000000 in
theorem that1_any (n : Nat) (f : Pt → Bool) (c0 c1 : Value) (w : World) (hn : 3 ≤ n ∧ n ≤ 13)
    (hF : ∀ (W : World) (x y z : Int), Below w.heap.size w W → (x, y, z) ∈ allP n → Calls Try.prog 103 #[ptV x y z, c0, c1] W (Ret W (.bool (f (x, y, z))))) :
    Calls Try.prog 102 #[.int .i64 (n : Int), .func (.func 103) #[] #[c0, c1]] w (OwnPost w.heap.size w ((allP n).filter f)) := by
  have HA := Lib.hid (fun (W : World) => allPoints_any n W hn)
  have HLen : (allP n).length ≤ 183 := by rw [allP_length]; have : n * n ≤ 13 * 13 := Nat.mul_le_mul (by omega) (by omega); omega
  have HPos : 0 < (allP n).length := by rw [allP_length]; omega
  have HF := Lib.hid hF
  clear hF hn
  go_enter Try.func102, Try.ntmps102
  go_wp2_with (first
    | (go_at_call 74; refine (HA.out _).mono ?_; rintro e w1 ⟨v, rfl, ho, hb⟩; obtain ⟨g, cap, rfl, hg0, hg1, hpt⟩ := ownPts ho rfl HPos; have HRo := roomP_own rfl ho; have HB1 := Lib.hid hb; have hsz1 := hb.size; (try simp at hsz1); have hbx : w1.heap[w.heap.size]? = some (.cells #[.func (.func 103) #[] #[c0, c1]] 117 (0, 0)) := (by rw [HB1.out.block _ (by first | omega | (simp; done) | (simp; omega)), hn_at' _ _ _ (by simp)]); have HB0 : Below w.heap.size w w1 := (by repeat (first | exact Below.refl _ _ | refine bset ?_ _ _ (by omega) _ | refine bal ?_ _ | refine bdrN ?_ _ | refine bdr ?_ | refine below_tr' ?_ HB1.out)); have HD := Lib.hid (deleteFunc_any (.pointer (some ⟨w.heap.size, 0, none⟩)) (fun a => !f a) (w.heap.size + 1) g cap (allP n).length (allP n) w1 rfl (by omega) (by simpa using hg0) (by omega) HRo.1 HRo.2.1 HRo.2.2 hpt (fun W x y z hW hm => that1_call w.heap.size x y z (f (x, y, z)) _ c0 c1 W (by rw [hW.block _ (by omega)]; exact hbx) (fun W' hW' => HF.out W' x y z (low_tr' (low_tr' HB0 hW (by omega)) hW' (by have := HB0.size; have := hW.size; omega)) hm))); clear hb hpt ho HRo hbx)
    | (go_at_call 147; (with_reducible refine (HD.out).mono ?_); rintro e w2 ⟨v2, rfl, ho2, hb2⟩; have HO2 := Lib.hid ho2; have HB2 := Lib.hid hb2; clear ho2 hb2))
  go_ret
  refine ⟨_, rfl, ?_, low_tr' HB0 HB2.out (by omega)⟩
  have h2 := own_low HO2.out (Nat.le_succ _)
  have he : (allP n).filter (fun a => !(!f a)) = (allP n).filter f := by simp
  rw [he] at h2
  exact h2

theorem that2_call (g : Nat) (x y z : Int) (v : Bool) (T : TypeId) (c0 c1 c2 c3 : Value) (W : World) (hg : W.heap[g]? = some (.cells #[.func (.func 104) #[] #[c0, c1, c2, c3]] T (0, 0)))
    (hF : ∀ W' : World, Below W.heap.size W W' → Calls Try.prog 104 #[ptV x y z, c0, c1, c2, c3] W' (Ret W' (.bool v))) :
    Calls Try.prog 148 #[ptV x y z, .pointer (some ⟨g, 0, none⟩)] W (Ret W (.bool (!v))) := by
  have HF := Lib.hid hF
  have c0 : W.cell? ⟨g, 0, none⟩ = some (.func (.func 104) #[] #[c0, c1, c2, c3]) := by rw [cell_of_row W g 0 _ _ _ hg]; rfl
  have hl : g < W.heap.size := (Array.getElem?_eq_some_iff.1 hg).1
  clear hF hg
  go_enter Try.func148, Try.ntmps148
  go_wp2_with (go_at_call 104; (with_reducible refine (HF.out _ (by repeat (first | exact Below.refl _ _ | refine bset ?_ _ _ (by omega) _ | refine bal ?_ _ | refine bdrN ?_ _ | refine bdr ?_))).mono ?_); rintro e w1_ ⟨rfl, hb1⟩; obtain ⟨hcb1, hfb1, hlb1⟩ := bcell hb1; have hsz1 := hb1.size; (try simp at hsz1); have HB1 := Lib.hid hb1; clear hb1; (try (have hl01 : w.heap.size < w1_.heap.size := by omega)))
  go_ret
  exact ⟨rfl, (by repeat (first | exact Below.refl _ _ | refine bset ?_ _ _ (by omega) _ | refine bal ?_ _ | refine bdrN ?_ _ | refine bdr ?_ | refine below_tr' ?_ HB1.out))⟩
set_option maxHeartbeats 1000000 in
theorem that2_any (n : Nat) (f : Pt → Bool) (c0 c1 c2 c3 : Value) (w : World) (hn : 3 ≤ n ∧ n ≤ 13)
    (hF : ∀ (W : World) (x y z : Int), Below w.heap.size w W → (x, y, z) ∈ allP n → Calls Try.prog 104 #[ptV x y z, c0, c1, c2, c3] W (Ret W (.bool (f (x, y, z))))) :
    Calls Try.prog 102 #[.int .i64 (n : Int), .func (.func 104) #[] #[c0, c1, c2, c3]] w (OwnPost w.heap.size w ((allP n).filter f)) := by
  have HA := Lib.hid (fun (W : World) => allPoints_any n W hn)
  have HLen : (allP n).length ≤ 183 := by rw [allP_length]; have : n * n ≤ 13 * 13 := Nat.mul_le_mul (by omega) (by omega); omega
  have HPos : 0 < (allP n).length := by rw [allP_length]; omega
  have HF := Lib.hid hF
  clear hF hn
  go_enter Try.func102, Try.ntmps102
  go_wp2_with (first
    | (go_at_call 74; refine (HA.out _).mono ?_; rintro e w1 ⟨v, rfl, ho, hb⟩; obtain ⟨g, cap, rfl, hg0, hg1, hpt⟩ := ownPts ho rfl HPos; have HRo := roomP_own rfl ho; have HB1 := Lib.hid hb; have hsz1 := hb.size; (try simp at hsz1); have hbx : w1.heap[w.heap.size]? = some (.cells #[.func (.func 104) #[] #[c0, c1, c2, c3]] 117 (0, 0)) := (by rw [HB1.out.block _ (by first | omega | (simp; done) | (simp; omega)), hn_at' _ _ _ (by simp)]); have HB0 : Below w.heap.size w w1 := (by repeat (first | exact Below.refl _ _ | refine bset ?_ _ _ (by omega) _ | refine bal ?_ _ | refine bdrN ?_ _ | refine bdr ?_ | refine below_tr' ?_ HB1.out)); have HD := Lib.hid (deleteFunc_any (.pointer (some ⟨w.heap.size, 0, none⟩)) (fun a => !f a) (w.heap.size + 1) g cap (allP n).length (allP n) w1 rfl (by omega) (by simpa using hg0) (by omega) HRo.1 HRo.2.1 HRo.2.2 hpt (fun W x y z hW hm => that2_call w.heap.size x y z (f (x, y, z)) _ c0 c1 c2 c3 W (by rw [hW.block _ (by omega)]; exact hbx) (fun W' hW' => HF.out W' x y z (low_tr' (low_tr' HB0 hW (by omega)) hW' (by have := HB0.size; have := hW.size; omega)) hm))); clear hb hpt ho HRo hbx)
    | (go_at_call 147; (with_reducible refine (HD.out).mono ?_); rintro e w2 ⟨v2, rfl, ho2, hb2⟩; have HO2 := Lib.hid ho2; have HB2 := Lib.hid hb2; clear ho2 hb2))
  go_ret
  refine ⟨_, rfl, ?_, low_tr' HB0 HB2.out (by omega)⟩
  have h2 := own_low HO2.out (Nat.le_succ _)
  have he : (allP n).filter (fun a => !(!f a)) = (allP n).filter f := by simp
  rw [he] at h2
  exact h2

end Go.Proofs.Ythkbhaaodegocaa
