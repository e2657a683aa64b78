/- Contracts: whether a desk is one: the program. -/
import Derived.Test.YthkbhaaodegocaaM2
namespace Go.Proofs.Ythkbhaaodegocaa
open Go.RowKit
set_option linter.unusedVariables false
set_option linter.unusedSimpArgs false
def deskB (p a0 a1 a2 b0 b1 b2 m0 m1 m2 m3 m4 m5 m6 m7 m8 c0 c1 c2 c3 c4 c5 : Int) : Bool := ptB p a0 a1 a2 && (ptB p b0 b1 b2 && (mapB p [m0, m1, m2, m3, m4, m5, m6, m7, m8] (detZ (m0, m1, m2) (m3, m4, m5) (m6, m7, m8)) && (prB p && normB p [c0, c1, c2, c3, c4, c5])))
set_option maxRecDepth 10000 in
set_option maxHeartbeats 2000000 in
theorem IsDesk_impl (p a0 a1 a2 b0 b1 b2 m0 m1 m2 m3 m4 m5 m6 m7 m8 c0 c1 c2 c3 c4 c5 : Int) (w : World) :
    Calls Try.prog 26 #[.agg #[.int .i64 p, .int .i64 a0, .int .i64 a1, .int .i64 a2, .int .i64 b0, .int .i64 b1, .int .i64 b2, .int .i64 m0, .int .i64 m1, .int .i64 m2, .int .i64 m3, .int .i64 m4, .int .i64 m5, .int .i64 m6, .int .i64 m7, .int .i64 m8, .int .i64 c0, .int .i64 c1, .int .i64 c2, .int .i64 c3, .int .i64 c4, .int .i64 c5]] w (Ret w (.bool (deskB p a0 a1 a2 b0 b1 b2 m0 m1 m2 m3 m4 m5 m6 m7 m8 c0 c1 c2 c3 c4 c5))) := by
  have H1 := Lib.hid (fun (W : World) => IsPoint_any p a0 a1 a2 W)
  have H2 := Lib.hid (fun (W : World) => IsLine_any p b0 b1 b2 W)
  have H3 := Lib.hid (fun (W : World) => IsMap_any p m0 m1 m2 m3 m4 m5 m6 m7 m8 W)
  have H4 := Lib.hid (fun (W : World) => IsConic_any p c0 c1 c2 c3 c4 c5 W)
  have HE0 : deskB p a0 a1 a2 b0 b1 b2 m0 m1 m2 m3 m4 m5 m6 m7 m8 c0 c1 c2 c3 c4 c5 = (ptB p a0 a1 a2 && (ptB p b0 b1 b2 && (mapB p [m0, m1, m2, m3, m4, m5, m6, m7, m8] (detZ (m0, m1, m2) (m3, m4, m5) (m6, m7, m8)) && (prB p && normB p [c0, c1, c2, c3, c4, c5])))) := rfl
  generalize ptB p a0 a1 a2 = v1 at *
  generalize ptB p b0 b1 b2 = v2 at *
  generalize mapB p [m0, m1, m2, m3, m4, m5, m6, m7, m8] (detZ (m0, m1, m2) (m3, m4, m5) (m6, m7, m8)) = v3 at *
  generalize (prB p && normB p [c0, c1, c2, c3, c4, c5]) = v4 at *
  cases v1 with
  | false =>
    have HE := Lib.hid (show deskB p a0 a1 a2 b0 b1 b2 m0 m1 m2 m3 m4 m5 m6 m7 m8 c0 c1 c2 c3 c4 c5 = false by rw [HE0]; first | rfl | simp)
    clear HE0
    go_enter Try.func26, Try.ntmps26
    go_wp2_with (first
      | (go_at_call 81; (with_reducible refine (H1.out _).mono ?_); rintro e w1_ ⟨rfl, hb1⟩; obtain ⟨hcb1, hfb1, hlb1⟩ := bcell hb1; have hsz1 := hb1.size; (try simp at hsz1); have HB1 := Lib.hid hb1; clear hb1; (try (have hl01 : w.heap.size < w1_.heap.size := by omega))))
    go_ret
    exact ⟨ret_bool HE.out.symm, (by repeat (first | exact Below.refl _ _ | refine bset ?_ _ _ (by omega) _ | refine bal ?_ _ | refine bdrN ?_ _ | refine bdr ?_ | refine below_tr' ?_ HB1.out))⟩
  | true =>
    cases v2 with
    | false =>
      have HE := Lib.hid (show deskB p a0 a1 a2 b0 b1 b2 m0 m1 m2 m3 m4 m5 m6 m7 m8 c0 c1 c2 c3 c4 c5 = false by rw [HE0]; first | rfl | simp)
      clear HE0
      go_enter Try.func26, Try.ntmps26
      go_wp2_with (first
        | (go_at_call 81; (with_reducible refine (H1.out _).mono ?_); rintro e w1_ ⟨rfl, hb1⟩; obtain ⟨hcb1, hfb1, hlb1⟩ := bcell hb1; have hsz1 := hb1.size; (try simp at hsz1); have HB1 := Lib.hid hb1; clear hb1; (try (have hl01 : w.heap.size < w1_.heap.size := by omega)))
        | (go_at_call 82; (with_reducible refine (H2.out _).mono ?_); rintro e w2_ ⟨rfl, hb2⟩; obtain ⟨hcb2, hfb2, hlb2⟩ := bcell hb2; have hsz2 := hb2.size; (try simp at hsz2); have HB2 := Lib.hid hb2; clear hb2; (try (have hl02 : w.heap.size < w2_.heap.size := by omega))))
      go_ret
      exact ⟨ret_bool HE.out.symm, (by repeat (first | exact Below.refl _ _ | refine bset ?_ _ _ (by omega) _ | refine bal ?_ _ | refine bdrN ?_ _ | refine bdr ?_ | refine below_tr' ?_ HB2.out | refine below_tr' ?_ HB1.out))⟩
    | true =>
      cases v3 with
      | false =>
        have HE := Lib.hid (show deskB p a0 a1 a2 b0 b1 b2 m0 m1 m2 m3 m4 m5 m6 m7 m8 c0 c1 c2 c3 c4 c5 = false by rw [HE0]; first | rfl | simp)
        clear HE0
        go_enter Try.func26, Try.ntmps26
        go_wp2_with (first
          | (go_at_call 81; (with_reducible refine (H1.out _).mono ?_); rintro e w1_ ⟨rfl, hb1⟩; obtain ⟨hcb1, hfb1, hlb1⟩ := bcell hb1; have hsz1 := hb1.size; (try simp at hsz1); have HB1 := Lib.hid hb1; clear hb1; (try (have hl01 : w.heap.size < w1_.heap.size := by omega)))
          | (go_at_call 82; (with_reducible refine (H2.out _).mono ?_); rintro e w2_ ⟨rfl, hb2⟩; obtain ⟨hcb2, hfb2, hlb2⟩ := bcell hb2; have hsz2 := hb2.size; (try simp at hsz2); have HB2 := Lib.hid hb2; clear hb2; (try (have hl02 : w.heap.size < w2_.heap.size := by omega)))
          | (go_at_call 83; (with_reducible refine (H3.out _).mono ?_); rintro e w3_ ⟨rfl, hb3⟩; obtain ⟨hcb3, hfb3, hlb3⟩ := bcell hb3; have hsz3 := hb3.size; (try simp at hsz3); have HB3 := Lib.hid hb3; clear hb3; (try (have hl03 : w.heap.size < w3_.heap.size := by omega))))
        go_ret
        exact ⟨ret_bool HE.out.symm, (by repeat (first | exact Below.refl _ _ | refine bset ?_ _ _ (by omega) _ | refine bal ?_ _ | refine bdrN ?_ _ | refine bdr ?_ | refine below_tr' ?_ HB3.out | refine below_tr' ?_ HB2.out | refine below_tr' ?_ HB1.out))⟩
      | true =>
        have HE := Lib.hid (show deskB p a0 a1 a2 b0 b1 b2 m0 m1 m2 m3 m4 m5 m6 m7 m8 c0 c1 c2 c3 c4 c5 = v4 by rw [HE0]; first | rfl | simp)
        clear HE0
        go_enter Try.func26, Try.ntmps26
        go_wp2_with (first
          | (go_at_call 81; (with_reducible refine (H1.out _).mono ?_); rintro e w1_ ⟨rfl, hb1⟩; obtain ⟨hcb1, hfb1, hlb1⟩ := bcell hb1; have hsz1 := hb1.size; (try simp at hsz1); have HB1 := Lib.hid hb1; clear hb1; (try (have hl01 : w.heap.size < w1_.heap.size := by omega)))
          | (go_at_call 82; (with_reducible refine (H2.out _).mono ?_); rintro e w2_ ⟨rfl, hb2⟩; obtain ⟨hcb2, hfb2, hlb2⟩ := bcell hb2; have hsz2 := hb2.size; (try simp at hsz2); have HB2 := Lib.hid hb2; clear hb2; (try (have hl02 : w.heap.size < w2_.heap.size := by omega)))
          | (go_at_call 83; (with_reducible refine (H3.out _).mono ?_); rintro e w3_ ⟨rfl, hb3⟩; obtain ⟨hcb3, hfb3, hlb3⟩ := bcell hb3; have hsz3 := hb3.size; (try simp at hsz3); have HB3 := Lib.hid hb3; clear hb3; (try (have hl03 : w.heap.size < w3_.heap.size := by omega)))
          | (go_at_call 84; (with_reducible refine (H4.out _).mono ?_); rintro e w4_ ⟨rfl, hb4⟩; obtain ⟨hcb4, hfb4, hlb4⟩ := bcell hb4; have hsz4 := hb4.size; (try simp at hsz4); have HB4 := Lib.hid hb4; clear hb4; (try (have hl04 : w.heap.size < w4_.heap.size := by omega))))
        go_ret
        exact ⟨ret_bool HE.out.symm, (by repeat (first | exact Below.refl _ _ | refine bset ?_ _ _ (by omega) _ | refine bal ?_ _ | refine bdrN ?_ _ | refine bdr ?_ | refine below_tr' ?_ HB4.out | refine below_tr' ?_ HB3.out | refine below_tr' ?_ HB2.out | refine below_tr' ?_ HB1.out))⟩
end Go.Proofs.Ythkbhaaodegocaa
