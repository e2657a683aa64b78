/- The law FnExactIsFigure: walked. (Printed by genk6.py, a program of this session.) -/
import Derived.Test.YthkbhaaodegocaaK5
import Derived.Test.YthkbhaaodegocaaRegX
namespace Go.Proofs.Ythkbhaaodegocaa
open Go.RowKit
set_option linter.unusedVariables false
set_option linter.unusedSimpArgs false
def isLaid (n1 n2 : Nat) (l1 l2 : List Pt) : Value → World → Prop := fun v W => ∃ k1 k2, v = figV (some ⟨k1, 0, none⟩) n1 (n1 + roomN n1) (some ⟨k2, 0, none⟩) n2 (n2 + roomN n2) ∧ PtsAt W k1 0 (n1 + roomN n1) (withRoomP l1) ∧ PtsAt W k2 0 (n2 + roomN n2) (withRoomP l2)
theorem mono_laid (n1 n2 : Nat) (l1 l2 : List Pt) : Mono (isLaid n1 n2 l1 l2) := ⟨fun v W W' ⟨k1, k2, h, i1, i2⟩ hb => ⟨k1, k2, h, i1.below hb, i2.below hb⟩⟩
set_option maxHeartbeats 4000000 in
theorem FnExactIsFigure_big (p : Int) (b1 : Option Addr) (n1 c1 : Nat) (b2 : Option Addr) (n2 c2 : Nat) (w : World) (hn1 : n1 ≤ 9223372036854775807) (hn2 : n2 ≤ 9223372036854775807) (hk : ¬ n1 + n2 ≤ 1000000) :
    Calls Try.prog 12 #[.int .i64 p, figV b1 n1 c1 b2 n2 c2] w (Ret w (.bool true)) := by
  have HZ := Lib.hid (fun (W : World) => szFigure_any b1 n1 c1 b2 n2 c2 W hn1 hn2)
  rw [if_neg hk] at HZ
  go_enter Try.func12, Try.ntmps12
  go_wp2_with (go_at_call 49; (with_reducible refine (HZ.out _).mono ?_); rintro e w1_ ⟨rfl, hb1⟩; obtain ⟨hcb1, hfb1, hlb1⟩ := bcell hb1; have hsz1 := hb1.size; (try simp at hsz1); have HB1 := Lib.hid hb1; clear hb1; (try (have hl01 : w.heap.size < w1_.heap.size := by omega)))
  go_ret
  exact ⟨rfl, (by repeat (first | exact Below.refl _ _ | refine bset ?_ _ _ (by omega) _ | refine bal ?_ _ | refine bdrN ?_ _ | refine bdr ?_ | refine below_tr' ?_ HB1.out))⟩
set_option maxHeartbeats 4000000 in
theorem FnExactIsFigure_fit (p : Int) (b1 : Option Addr) (n1 c1 : Nat) (b2 : Option Addr) (n2 c2 : Nat) (l1 l2 : List Pt) (w : World) (hk : n1 + n2 ≤ 1000000) (h1 : ListP w b1 n1 l1) (h2 : ListP w b2 n2 l2) :
    Calls Try.prog 12 #[.int .i64 p, figV b1 n1 c1 b2 n2 c2] w (Ret w (.bool true)) := by
  have HZ := Lib.hid (fun (W : World) => szFigure_any b1 n1 c1 b2 n2 c2 W (by omega) (by omega))
  rw [if_pos hk] at HZ
  have HT := Lib.hid (fun (W : World) (hW : Below w.heap.size w W) => toFigure_R b1 n1 c1 b2 n2 c2 l1 l2 W (by omega) (by omega) (h1.below hW) (h2.below hW))
  have HU := Lib.hid (fun (W : World) (hW : Below w.heap.size w W) => toFigure_B b1 n1 c1 b2 n2 c2 l1 l2 W (by omega) (by omega) (h1.below hW) (h2.below hW))
  have HS := Lib.hid (fun (W : World) (a1 : Option Addr) (d1 : Nat) (a2 : Option Addr) (d2 : Nat) (i1 : ListP W a1 n1 l1) (i2 : ListP W a2 n2 l2) => IsFigure_spec p a1 n1 d1 a2 n2 d2 l1 l2 W (by omega) (by omega) i1 i2)
  have HI := Lib.hid (fun (W : World) (a1 : Option Addr) (d1 : Nat) (a2 : Option Addr) (d2 : Nat) (i1 : ListP W a1 n1 l1) (i2 : ListP W a2 n2 l2) => IsFigure_impl p a1 n1 d1 a2 n2 d2 l1 l2 W (by omega) (by omega) i1 i2)
  have HN := Lib.hid (fun (W : World) (g1 g2 k1 k2 : Nat) i1 i2 i3 i4 => intactFigure_same g1 g2 k1 k2 n1 n2 l1 l2 W (by omega) (by omega) h1.1 h2.1 i1 i2 i3 i4)
  have HL1 := Lib.hid h1.1
  have HL2 := Lib.hid h2.1
  unfold isfV at HS HI
  generalize (decide (codeOf p (ptsB p l1 && ptsB p l2) = 0) && figB n1 n2 l1 l2) = rb at *
  generalize codeOf p (ptsB p l1 && ptsB p l2) = rz at *
  generalize hq : (1000000 : Int) - (n1 : Int) - (n2 : Int) = q at *
  have hq0 : 0 ≤ q := by omega
  have tok2 : True := trivial
  have tok3 : True := trivial
  have tok4 : True := trivial
  have tok5 : True := trivial
  clear h1 h2
  go_enter Try.func12, Try.ntmps12
  go_wp2_with (first
    | (go_at_call 49; (with_reducible refine (HZ.out _).mono ?_); rintro e w1_ ⟨rfl, hb1⟩; obtain ⟨hcb1, hfb1, hlb1⟩ := bcell hb1; have hsz1 := hb1.size; (try simp at hsz1); have HB1 := Lib.hid hb1; clear hb1; (try (have hl01 : w.heap.size < w1_.heap.size := by omega)))
    | (have _t := tok2; go_at_call 51; (with_reducible refine (HT.out _ (by repeat (first | exact Below.refl _ _ | refine bset ?_ _ _ (by omega) _ | refine bal ?_ _ | refine bdrN ?_ _ | refine bdr ?_ | refine below_tr' ?_ HB1.out))).mono ?_); rintro e w2_ ⟨g1, g2, rfl, hp1, hp2, hb2⟩; obtain ⟨hcb2, hfb2, hlb2⟩ := bcell hb2; have hsz2 := hb2.size; (try simp at hsz2); have HB2 := Lib.hid hb2; have HP1 := Lib.hid hp1; have HP2 := Lib.hid hp2; clear hb2 hp1 hp2 tok2; have hl02 : w.heap.size < w2_.heap.size := (by omega))
    | (have _t := tok3; (go_at_call 50; (with_reducible refine (HS.out _ _ _ _ _ (laidR_list HL1.out HP1.out) (laidR_list HL2.out HP2.out)).mono ?_); rintro e w3_ ⟨rfl, hb3⟩; obtain ⟨hcb3, hfb3, hlb3⟩ := bcell hb3; have hsz3 := hb3.size; (try simp at hsz3); have HB3 := Lib.hid hb3; clear hb3; (try (have hl03 : w.heap.size < w3_.heap.size := by omega))); clear tok3)
    | (have _t := tok4; go_at_call 51; (with_reducible refine (HT.out _ (by repeat (first | exact Below.refl _ _ | refine bset ?_ _ _ (by omega) _ | refine bal ?_ _ | refine bdrN ?_ _ | refine bdr ?_ | refine below_tr' ?_ HB3.out | refine below_tr' ?_ HB2.out | refine below_tr' ?_ HB1.out))).mono ?_); rintro e w4_ ⟨g3, g4, rfl, hp3, hp4, hb4⟩; obtain ⟨hcb4, hfb4, hlb4⟩ := bcell hb4; have hsz4 := hb4.size; (try simp at hsz4); have HB4 := Lib.hid hb4; have HP3 := Lib.hid hp3; have HP4 := Lib.hid hp4; clear hb4 hp3 hp4 tok4; have hl04 : w.heap.size < w4_.heap.size := (by omega))
    | (have _t := tok5; (go_at_call 52; (with_reducible refine (HI.out _ _ _ _ _ ((laidR_list HL1.out HP3.out).below (bal (Below.refl _ _) _)) ((laidR_list HL2.out HP4.out).below (bal (Below.refl _ _) _))).mono ?_); rintro e w5_ ⟨rfl, hb5⟩; obtain ⟨hcb5, hfb5, hlb5⟩ := bcell hb5; have hsz5 := hb5.size; (try simp at hsz5); have HB5 := Lib.hid hb5; clear hb5; (try (have hl05 : w.heap.size < w5_.heap.size := by omega)); (try (have hl05_1 : w4_.heap.size < w5_.heap.size := by omega))); clear tok5))
  have bt : w5_.heap[w.heap.size]? = some (.cells #[.slice b1 n1 c1, .slice b2 n2 c2] 71 (0, 0)) := by
    rw [HB5.out.block _ (by simp; omega), at_old _ _ _ (by omega), HB4.out.block _ (by omega), HB3.out.block _ (by omega), HB2.out.block _ (by omega), HB1.out.block _ (by simp)]; exact heap_alloc_new _ _
  have bx : w5_.heap[w4_.heap.size]? = some (.cells #[.slice (some ⟨g3, 0, none⟩) n1 (n1 + roomN n1), .slice (some ⟨g4, 0, none⟩) n2 (n2 + roomN n2)] 76 (0, 0)) := by
    rw [HB5.out.block _ (by simp), at_new _ _ _ rfl]
  have HQ : Hid (Below w.heap.size w w5_) := Lib.hid (by repeat (first | exact Below.refl _ _ | refine bset ?_ _ _ (by omega) _ | refine bal ?_ _ | refine bdrN ?_ _ | refine bdr ?_ | refine below_tr' ?_ HB5.out | refine below_tr' ?_ HB4.out | refine below_tr' ?_ HB3.out | refine below_tr' ?_ HB2.out | refine below_tr' ?_ HB1.out))
  have HP3' := Lib.hid ((HP3.out.below (bal (Below.refl _ _) _)).below HB5.out)
  have HP4' := Lib.hid ((HP4.out.below (bal (Below.refl _ _) _)).below HB5.out)
  have hsz5' : w.heap.size < w5_.heap.size := by have := HQ.out.size; omega
  clear HP1 HP2 HP3 HP4 HS
  refine region_rels 5 [(41, isV (figV (some ⟨g3, 0, none⟩) n1 (n1 + roomN n1) (some ⟨g4, 0, none⟩) n2 (n2 + roomN n2))), (42, isV (figV b1 n1 c1 b2 n2 c2)), (43, isLaid n1 n2 l1 l2), (44, isV (.bool true)), (45, isV (.bool false))] (by kernel_rfl) (by decide) (by kernel_rfl) rfl ⟨mono_is _, mono_is _, mono_laid _ _ _ _, mono_is _, mono_is _, trivial⟩ ⟨?_, ?_, ?_, ?_, ?_, trivial⟩ ?_
  · refine RelOk.mk' 41 rfl rfl (fun a W hW hr => ?_)
    have h8 := (hr 8 rfl).2 rfl
    exact rel_calm (calm_load (cs := #[.slice (some ⟨g3, 0, none⟩) n1 (n1 + roomN n1), .slice (some ⟨g4, 0, none⟩) n2 (n2 + roomN n2)]) (g := w4_.heap.size) (T := 76) (fr := (0, 0)) 76 (.tmp 8) rfl h8 (by rw [hW.block _ (by omega)]; exact bx) 2 rfl Try.sizeOf76 Try.isAgg76) (fun _ _ => rfl)
  · refine RelOk.mk' 42 rfl rfl (fun a W hW hr => ?_)
    have h3 := (hr 3 rfl).2 rfl
    exact rel_calm (calm_load (cs := #[.slice b1 n1 c1, .slice b2 n2 c2]) (g := w.heap.size) (T := 71) (fr := (0, 0)) 71 (.tmp 3) rfl h3 (by rw [hW.block _ (by omega)]; exact bt) 2 rfl Try.sizeOf71 Try.isAgg71) (fun _ _ => rfl)
  · refine RelOk.mk' 43 rfl rfl (fun a W hW hr => ?_)
    have h42 : a.tmps.getD 42 undef = figV b1 n1 c1 b2 n2 c2 := (hr 42 rfl).1 rfl
    exact rel_call 51 _ #[figV b1 n1 c1 b2 n2 c2, .bool false] rfl rfl (by simp [Act.eval, h42]) (Try.call51 _ _)
      ((HT.out W (low_tr' HQ.out hW (by omega))).mono fun e W' ⟨⟨k1, k2, he, i1, i2, hb⟩⟩ => ⟨_, he, hb, k1, k2, rfl, i1, i2⟩)
  · refine RelOk.mk' 44 rfl rfl (fun a W hW hr => ?_)
    have h41 : a.tmps.getD 41 undef = figV (some ⟨g3, 0, none⟩) n1 (n1 + roomN n1) (some ⟨g4, 0, none⟩) n2 (n2 + roomN n2) := (hr 41 rfl).1 rfl
    obtain ⟨k1, k2, h43, i1, i2⟩ : isLaid n1 n2 l1 l2 (a.tmps.getD 43 undef) W := (hr 43 rfl).1 rfl
    exact rel_call 53 _ #[figV (some ⟨g3, 0, none⟩) n1 (n1 + roomN n1) (some ⟨g4, 0, none⟩) n2 (n2 + roomN n2), figV (some ⟨k1, 0, none⟩) n1 (n1 + roomN n1) (some ⟨k2, 0, none⟩) n2 (n2 + roomN n2)] rfl rfl (by simp [Act.eval, h41, h43]) (Try.call53 _ _)
      ((HN.out W g3 g4 k1 k2 (HP3'.out.below hW) (HP4'.out.below hW) i1 i2).mono fun e W' ⟨he, hb⟩ => ⟨_, he, hb, rfl⟩)
  · refine RelOk.mk' 45 rfl rfl (fun a W hW hr => ?_)
    have h44 : a.tmps.getD 44 undef = .bool true := (hr 44 rfl).1 rfl
    exact rel_calm (calm_run (v := .bool false) (by simp [execOp, Act.eval, go_sem, h44])) (fun _ _ => rfl)
  intro v w6_ hb6 hv
  have e41 : v 41 = figV (some ⟨g3, 0, none⟩) n1 (n1 + roomN n1) (some ⟨g4, 0, none⟩) n2 (n2 + roomN n2) := hv 41 rfl
  have e42 : v 42 = figV b1 n1 c1 b2 n2 c2 := hv 42 rfl
  have e44 : v 44 = .bool true := hv 44 rfl
  have e45 : v 45 = .bool false := hv 45 rfl
  simp only [List.map_cons, List.map_nil, puts, Act.put, List.setIfInBounds_toArray, List.set_cons_zero, List.set_cons_succ, e41, e42, e44, e45, List.drop_succ_cons, List.drop_zero, List.drop_nil]
  refine wpList_nil ?_
  obtain ⟨hcb6, hfb6, hlb6⟩ := bcell hb6
  have hsz6 := hb6.size
  have HB6 := Lib.hid hb6
  generalize v 43 = v43
  clear hv hb6 e41 e42 e44 e45 v bx
  have hl06 : w.heap.size < w6_.heap.size := by omega
  have HQ2 : Hid (Below w.heap.size w w6_) := Lib.hid (low_tr' HQ.out HB6.out (by omega))
  go_wp2_with (first
    | (go_at_call 51; (with_reducible refine (HU.out _ HQ2.out).mono ?_); rintro e w7_ ⟨B1, C1, B2, C2, rfl, hp1, hp2, hb7⟩; obtain ⟨hcb7, hfb7, hlb7⟩ := bcell hb7; have hsz7 := hb7.size; have HB7 := Lib.hid hb7; have HP1 := Lib.hid hp1; have HP2 := Lib.hid hp2; clear hb7 hp1 hp2)
    | (go_at_call 52; (with_reducible refine (HI.out _ _ _ _ _ HP1.out HP2.out).mono ?_); rintro e w8_ ⟨rfl, hb8⟩; obtain ⟨hcb8, hfb8, hlb8⟩ := bcell hb8; have hsz8 := hb8.size; (try simp at hsz8); have HB8 := Lib.hid hb8; clear hb8; (try (have hl08 : w.heap.size < w8_.heap.size := by omega))))
  go_ret
  exact ⟨rfl, low_tr' (low_tr' HQ2.out HB7.out (by omega)) HB8.out (by omega)⟩
theorem FnExactIsFigure_walk (p : Int) (b1 : Option Addr) (n1 c1 : Nat) (b2 : Option Addr) (n2 c2 : Nat) (l1 l2 : List Pt) (w : World) (hn1 : n1 ≤ 9223372036854775807) (hn2 : n2 ≤ 9223372036854775807) (h1 : ListP w b1 n1 l1) (h2 : ListP w b2 n2 l2) :
    Calls Try.prog 12 #[.int .i64 p, figV b1 n1 c1 b2 n2 c2] w (Ret w (.bool true)) := by
  by_cases hk : n1 + n2 ≤ 1000000
  · exact FnExactIsFigure_fit p b1 n1 c1 b2 n2 c2 l1 l2 w hk h1 h2
  · exact FnExactIsFigure_big p b1 n1 c1 b2 n2 c2 w hn1 hn2 hk
end Go.Proofs.Ythkbhaaodegocaa
