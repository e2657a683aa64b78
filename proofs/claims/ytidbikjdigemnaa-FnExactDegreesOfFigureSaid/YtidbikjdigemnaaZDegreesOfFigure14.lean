/- Texts of the claim, in build order: V5. No condition. -/
import Derived.Deep.DeepCutAuto
import Derived.Test.YtidbikjdigemnaaZDegreesOfFigure13
/- The law FnExactDegreesOfFigure, walked. (Printed by genv5.py, a program of this session.) -/
namespace Go.Proofs.Ytidbikjdigemnaa
open Go.RowKit
set_option linter.unusedVariables false
set_option linter.unusedSimpArgs false
def isLaid2 (n1 n2 : Nat) (l1 l2 : List Pt) : Value → World → Prop := fun v W => ∃ k1 k2, v = figV (some ⟨k1, 0, none⟩) n1 (n1 + roomN n1) (some ⟨k2, 0, none⟩) n2 (n2 + roomN n2) ∧ PtsAt W k1 0 (n1 + roomN n1) (withRoomP l1) ∧ PtsAt W k2 0 (n2 + roomN n2) (withRoomP l2)
theorem mono_laid2 (n1 n2 : Nat) (l1 l2 : List Pt) : Mono (isLaid2 n1 n2 l1 l2) := ⟨fun v W W' ⟨k1, k2, h, i1, i2⟩ hb => ⟨k1, k2, h, i1.below hb, i2.below hb⟩⟩
set_option maxHeartbeats 4000000 in
theorem FnExactDegreesOfFigure_big (p : Int) (b1 : Option Addr) (n1 c1 : Nat) (b2 : Option Addr) (n2 c2 : Nat) (w : World) (hn1 : n1 ≤ 9223372036854775807) (hn2 : n2 ≤ 9223372036854775807) (hk : ¬ n1 + n2 ≤ 1000000) :
    Calls Try.prog 4 #[.int .i64 p, figV b1 n1 c1 b2 n2 c2] w (Ret w (.bool true)) := by
  have HZ := Lib.hid (fun (W : World) => szFigure_any b1 n1 c1 b2 n2 c2 W hn1 hn2)
  rw [if_neg hk] at HZ
  go_enter Try.func4, Try.ntmps4
  go_wp2_with (go_at_call 6; (with_reducible refine (HZ.out _).mono ?_); rintro e w1_ ⟨rfl, hb1⟩; obtain ⟨hcb1, hfb1, hlb1⟩ := bcell hb1; have hsz1 := hb1.size; (try simp at hsz1); have HB1 := Lib.hid hb1; clear hb1; (try (have hl01 : w.heap.size < w1_.heap.size := by omega)))
  go_ret
  exact ⟨rfl, (by repeat (first | exact Below.refl _ _ | refine bset ?_ _ _ (by omega) _ | refine bal ?_ _ | refine bdrN ?_ _ | refine bdr ?_ | refine below_tr' ?_ HB1.out))⟩
set_option maxRecDepth 20000 in
set_option maxHeartbeats 16000000 in
theorem FnExactDegreesOfFigure_fit (p : Int) (b1 : Option Addr) (n1 c1 : Nat) (b2 : Option Addr) (n2 c2 : Nat) (l1 l2 : List Pt) (w : World) (hk : n1 + n2 ≤ 1000000) (h1 : ListP w b1 n1 l1) (h2 : ListP w b2 n2 l2) :
    Calls Try.prog 4 #[.int .i64 p, figV b1 n1 c1 b2 n2 c2] w (Ret w (.bool true)) := by
  have HZ := Lib.hid (fun (W : World) => szFigure_any b1 n1 c1 b2 n2 c2 W (by omega) (by omega))
  rw [if_pos hk] at HZ
  have HT := Lib.hid (fun (W : World) (hW : Below w.heap.size w W) => toFigure_R2 b1 n1 c1 b2 n2 c2 l1 l2 W (by omega) (by omega) (h1.below hW) (h2.below hW))
  have HU := Lib.hid (fun (W : World) (hW : Below w.heap.size w W) => toFigure_B b1 n1 c1 b2 n2 c2 l1 l2 W (by omega) (by omega) (h1.below hW) (h2.below hW))
  have HS := Lib.hid (fun (W : World) (a1 : Option Addr) (d1 : Nat) (a2 : Option Addr) (d2 : Nat) (i1 : ListP W a1 n1 l1) (i2 : ListP W a2 n2 l2) => DegreesOfFigure_spec p a1 n1 d1 a2 n2 d2 l1 l2 W (by omega) (by omega) i1 i2)
  have HI := Lib.hid (fun (W : World) (a1 : Option Addr) (d1 : Nat) (a2 : Option Addr) (d2 : Nat) (i1 : ListP W a1 n1 l1) (i2 : ListP W a2 n2 l2) => DegreesOfFigure_impl p a1 n1 d1 a2 n2 d2 l1 l2 W (by omega) (by omega) i1 i2)
  have HN := Lib.hid (fun (W : World) (g1 g2 k1 k2 : Nat) i1 i2 i3 i4 => intactFigure_same g1 g2 k1 k2 n1 n2 l1 l2 W (by omega) (by omega) h1.1 h2.1 i1 i2 i3 i4)
  have HL1 := Lib.hid h1.1
  have HL2 := Lib.hid h2.1
  obtain ⟨hm1, hm2⟩ := (dualM_bd (p := p) (n1 := n1) (n2 := n2) (l1 := l1) (l2 := l2))
  generalize dualM (figC p n1 n2 l1 l2) n1 = m1 at *
  generalize dualM (figC p n1 n2 l1 l2) n2 = m2 at *
  generalize listF (degP p l1 l2 n2) n1 = L1 at *
  generalize listF (degL p l1 l2 n1) n2 = L2 at *
  generalize figC p n1 n2 l1 l2 = kc at *
  have hx0 : ¬ markN n1 n2 < 0 := by unfold markN; omega
  have hmm1 : m1 ≤ 1000000 := by omega
  have hmm2 : m2 ≤ 1000000 := by omega
  have hg1 : ¬ ((101 + m1 : Nat) : Int) < 0 := by omega
  have hg0 : ¬ ((101 + m1 + m2 : Nat) : Int) < 0 := by omega
  have HMk := Lib.hid (fun (W : World) a1 d1 a2 d2 (q1 : MkL W a1 n1 49) (q2 : MkL W a2 n2 50) lo1 hi1 lo2 hi2 e1 e2 k1 k2 hd => markFigure_F a1 n1 d1 a2 n2 d2 _ _ W (by omega) (by omega) q1 q2 lo1 hi1 lo2 hi2 e1 e2 k1 k2 hd)
  have HM1 := Lib.hid (fun (R : Obj) (B lo hi lo' hi' : Nat) (a1 : Option Addr) (d1 : Nat) (a2 : Option Addr) (d2 : Nat) (g1 : Option Addr) (e1 : Nat) (g2 : Option Addr) (e2 : Nat) (W : World) (h : StA w R B lo hi lo' hi' a1 d1 a2 d2 g1 e1 g2 e2 m1 m2 L1 L2 W) => mark1_st hmm1 h)
  have HM2 := Lib.hid (fun (R : Obj) (B lo hi lo' hi' : Nat) (a1 : Option Addr) (d1 : Nat) (a2 : Option Addr) (d2 : Nat) (g1 : Option Addr) (e1 : Nat) (g2 : Option Addr) (e2 : Nat) (W : World) (h : StM w R B lo hi lo' hi' a1 d1 a2 d2 g1 e1 g2 e2 m1 m2 L1 L2 W) => mark2_st hmm1 hmm2 h)
  have HH1 := Lib.hid (fun (R : Obj) (lo hi : Nat) (a1 : Option Addr) (d1 : Nat) (a2 : Option Addr) (d2 : Nat) (g1 : Option Addr) (g2 : Option Addr) (e1 : Nat) (W : World) (h : StB w R lo hi a1 d1 a2 d2 g1 g2 m1 m2 L1 L2 W) => held1_st (e1 := e1) hmm1 h)
  have HH2 := Lib.hid (fun (R : Obj) (lo hi : Nat) (a1 : Option Addr) (d1 : Nat) (a2 : Option Addr) (d2 : Nat) (g1 : Option Addr) (g2 : Option Addr) (e2 : Nat) (W : World) (h : StB w R lo hi a1 d1 a2 d2 g1 g2 m1 m2 L1 L2 W) => held2_st (e2 := e2) hmm1 hmm2 h)
  generalize ((101 + m1 + m2 : Nat) : Int) = Mg at *
  generalize ((101 + m1 : Nat) : Int) = Mf at *
  generalize markN n1 n2 = Mx at *
  generalize hq : (1000000 : Int) - (n1 : Int) - (n2 : Int) = q at *
  have hq0 : ¬ q < 0 := by omega
  have tok3 : True := trivial
  have tok5 : True := trivial
  clear h1 h2 hq
  go_enter Try.func4, Try.ntmps4
  go_upto_region 10 with (first
    | (go_at_call 6; (with_reducible refine (HZ.out _).mono ?_); rintro e w1_ ⟨rfl, hb1⟩; obtain ⟨hcb1, hfb1, hlb1⟩ := bcell hb1; have hsz1 := hb1.size; (try simp at hsz1); have HB1 := Lib.hid hb1; clear hb1; (try (have hl01 : w.heap.size < w1_.heap.size := by omega)))
    | (have _t := tok3; go_at_call 8; (with_reducible refine (HT.out _ (by repeat (first | exact Below.refl _ _ | refine bset ?_ _ _ (by omega) _ | refine bal ?_ _ | refine bdrN ?_ _ | refine bdr ?_ | refine below_tr' ?_ HB1.out))).mono ?_); rintro e w3_ ⟨g31, g32, rfl, hu3, hv3, hw3, hr1, hr2, hp1, hp2, hb⟩; have HB3 := Lib.hid hb; have P31 := Lib.hid hp1; have P32 := Lib.hid hp2; have RR31 := Lib.hid hr1; have RR32 := Lib.hid hr2; have hsz3 := hb.size; (try simp at hsz3); clear hb hp1 hp2 hr1 hr2; clear tok3)
    | (go_at_call 14; (with_reducible refine (HS.out _ _ _ _ _ (laidR_list HL1.out P31.out) (laidR_list HL2.out P32.out)).mono ?_); intro e w4_ h; obtain ⟨wa, wd, wb, we, rfl, ho, hb⟩ := DegAny.open h; clear h; have HB4 := Lib.hid hb; have DD4 := Lib.hid ho; have hsz4 := hb.size; (try simp at hsz4); clear hb ho)
    | (refine wpList_load_row _ rfl 24 _ rfl (g := w.heap.size) (T := 24) (cs := #[.slice b1 n1 c1, .slice b2 n2 c2]) (fr := (0, 0)) rfl (by rw [HB4.out.block _ (by first | omega | (simp; done) | (simp; omega)), HB3.out.block _ (by first | omega | (simp; done) | (simp; omega)), HB1.out.block _ (by simp)]; exact heap_alloc_new _ _) 2 rfl Try.sizeOf24 Try.isAgg24 ?_)
    | (have _t := tok5; go_at_call 8; (with_reducible refine (HT.out _ (by repeat (first | exact Below.refl _ _ | refine bset ?_ _ _ (by omega) _ | refine bal ?_ _ | refine bdrN ?_ _ | refine bdr ?_ | refine below_tr' ?_ HB4.out | refine below_tr' ?_ HB3.out | refine below_tr' ?_ HB1.out))).mono ?_); rintro e w5_ ⟨g51, g52, rfl, hu5, hv5, hw5, hr1, hr2, hp1, hp2, hb⟩; have HB5 := Lib.hid hb; have P51 := Lib.hid hp1; have P52 := Lib.hid hp2; have RR51 := Lib.hid hr1; have RR52 := Lib.hid hr2; have hsz5 := hb.size; (try simp at hsz5); clear hb hp1 hp2 hr1 hr2; clear tok5)
    | (refine wpList_store_row _ rfl 29 _ _ rfl rfl rfl rfl (heap_alloc_new _ _) rfl Try.sizeOf29 (by simp [Value.oneCell']) ?_; rw [alloc_setRow])
    | (refine wpList_load_row _ rfl 29 _ rfl (g := w5_.heap.size) (T := 29) (cs := #[.slice (some ⟨g51, 0, none⟩) n1 (n1 + roomN n1), .slice (some ⟨g52, 0, none⟩) n2 (n2 + roomN n2)]) (fr := (0, 0)) rfl (heap_alloc_new _ _) 2 rfl Try.sizeOf29 Try.isAgg29 ?_)
    | (go_at_call 15; (with_reducible refine (HI.out _ _ _ _ _ ((laidR_list HL1.out P51.out).below (bal (Below.refl _ _) _)) ((laidR_list HL2.out P52.out).below (bal (Below.refl _ _) _))).mono ?_); intro e w6_ h; obtain ⟨ga, gd, gb, ge, rfl, ho, hb⟩ := DegAny.open h; clear h; have HB6 := Lib.hid hb; have DD6 := Lib.hid ho; have hsz6 := hb.size; (try simp at hsz6); clear hb ho)
    | (go_at_call 16; (with_reducible refine (eqI_ils hmm1 DD6.out.p (((DD4.out.below HB5.out).below (bal (Below.refl _ _) _)).below HB6.out).p).mono ?_); rintro e w7_ ⟨rfl, hb7⟩; obtain ⟨hcb7, hfb7, hlb7⟩ := bcell hb7; have hsz7 := hb7.size; (try simp at hsz7); have HB7 := Lib.hid hb7; clear hb7)
    | (go_at_call 16; (with_reducible refine (eqI_ils hmm2 (DD6.out.below HB7.out).q ((((DD4.out.below HB5.out).below (bal (Below.refl _ _) _)).below HB6.out).below HB7.out).q).mono ?_); rintro e w8_ ⟨rfl, hb8⟩; obtain ⟨hcb8, hfb8, hlb8⟩ := bcell hb8; have hsz8 := hb8.size; (try simp at hsz8); have HB8 := Lib.hid hb8; clear hb8))
  have hA := HB1.out.size
  try simp at hA
  have K3 : w8_.heap[w.heap.size]? = some (.cells #[.slice b1 n1 c1, .slice b2 n2 c2] 24 (0, 0)) := by rw [HB8.out.block _ (by first | omega | (simp; done) | (simp; omega)), HB7.out.block _ (by first | omega | (simp; done) | (simp; omega)), HB6.out.block _ (by first | omega | (simp; done) | (simp; omega)), hn_pastN _ _ _ (by omega), HB5.out.block _ (by omega), HB4.out.block _ (by omega), HB3.out.block _ (by omega), HB1.out.block _ (by simp)]; exact heap_alloc_new _ _
  have K8 : w8_.heap[w5_.heap.size]? = some (.cells #[.slice (some ⟨g51, 0, none⟩) n1 (n1 + roomN n1), .slice (some ⟨g52, 0, none⟩) n2 (n2 + roomN n2)] 29 (0, 0)) := by rw [HB8.out.block _ (by first | omega | (simp; done) | (simp; omega)), HB7.out.block _ (by first | omega | (simp; done) | (simp; omega)), HB6.out.block _ (by simp), hn_atN _ _ _ rfl]
  have HQ : Hid (Below w.heap.size w w8_) := Lib.hid (by repeat (first | exact Below.refl _ _ | refine bset ?_ _ _ (by omega) _ | refine bal ?_ _ | refine bdrN ?_ _ | refine bdr ?_ | refine below_tr' ?_ HB8.out | refine below_tr' ?_ HB7.out | refine below_tr' ?_ HB6.out | refine below_tr' ?_ HB5.out | refine below_tr' ?_ HB4.out | refine below_tr' ?_ HB3.out | refine below_tr' ?_ HB1.out))
  replace P51 := Lib.hid ((((P51.out.below (bal (Below.refl _ _) _)).below HB6.out).below HB7.out).below HB8.out)
  replace P52 := Lib.hid ((((P52.out.below (bal (Below.refl _ _) _)).below HB6.out).below HB7.out).below HB8.out)
  replace RR51 := Lib.hid ((((RR51.out.below (bal (Below.refl _ _) _)).below HB6.out).below HB7.out).below HB8.out)
  replace RR52 := Lib.hid ((((RR52.out.below (bal (Below.refl _ _) _)).below HB6.out).below HB7.out).below HB8.out)
  replace DD4 := Lib.hid (((((DD4.out.below HB5.out).below (bal (Below.refl _ _) _)).below HB6.out).below HB7.out).below HB8.out)
  replace DD6 := Lib.hid ((DD6.out.below HB7.out).below HB8.out)
  obtain ⟨log, hlog⟩ : ∃ log, (w5_.alloc (.cells #[.slice (some ⟨g51, 0, none⟩) n1 (n1 + roomN n1), .slice (some ⟨g52, 0, none⟩) n2 (n2 + roomN n2)] 29)).heap.size = log := ⟨_, rfl⟩
  have hlog2 : log = w5_.heap.size + 1 := by rw [← hlog]; simp
  rw [hlog] at DD6
  clear hlog
  have s7 := HB7.out.size
  have s8 := HB8.out.size
  have hs3 := HB3.out.size
  have hs4 := HB4.out.size
  have hs6 := HB6.out.size
  try simp at hs6
  try simp at hu5
  clear HB1 HB3 HB4 HB5 HB6 HB7 HB8 P31 P32 RR31 RR32 HS hcb1 hfb1 hlb1 hcb7 hfb7 hlb7 hcb8 hfb8 hlb8
  refine region_rels 5 [(56, isV (figV (some ⟨g51, 0, none⟩) n1 (n1 + roomN n1) (some ⟨g52, 0, none⟩) n2 (n2 + roomN n2))), (57, isV (figV b1 n1 c1 b2 n2 c2)), (58, isLaid2 n1 n2 l1 l2), (59, isV (.bool true)), (60, isV (.bool false))] (by kernel_rfl) (by decide) (by kernel_rfl) rfl ⟨mono_is _, mono_is _, mono_laid2 _ _ _ _, mono_is _, mono_is _, trivial⟩ ⟨?_, ?_, ?_, ?_, ?_, trivial⟩ ?_
  · refine RelOk.mk' 56 rfl rfl (fun a W hW hr => ?_)
    have h8 := (hr 9 rfl).2 rfl
    exact rel_calm (calm_load (cs := #[.slice (some ⟨g51, 0, none⟩) n1 (n1 + roomN n1), .slice (some ⟨g52, 0, none⟩) n2 (n2 + roomN n2)]) (g := w5_.heap.size) (T := 29) (fr := (0, 0)) 29 (.tmp 9) rfl h8 (by rw [hW.block _ (by omega)]; exact K8) 2 rfl Try.sizeOf29 Try.isAgg29) (fun _ _ => rfl)
  · refine RelOk.mk' 57 rfl rfl (fun a W hW hr => ?_)
    have h3 := (hr 3 rfl).2 rfl
    exact rel_calm (calm_load (cs := #[.slice b1 n1 c1, .slice b2 n2 c2]) (g := w.heap.size) (T := 24) (fr := (0, 0)) 24 (.tmp 3) rfl h3 (by rw [hW.block _ (by omega)]; exact K3) 2 rfl Try.sizeOf24 Try.isAgg24) (fun _ _ => rfl)
  · refine RelOk.mk' 58 rfl rfl (fun a W hW hr => ?_)
    have h42 : a.tmps.getD 57 undef = figV b1 n1 c1 b2 n2 c2 := (hr 57 rfl).1 rfl
    exact rel_call 8 _ #[figV b1 n1 c1 b2 n2 c2, .bool false] rfl rfl (by simp [Act.eval, h42]) (Try.call8 _ _)
      ((HT.out W (low_tr' HQ.out hW (by omega))).mono fun e W' ⟨⟨k1, k2, he, _, _, _, _, _, i1, i2, hb⟩⟩ => ⟨_, he, hb, k1, k2, rfl, i1, i2⟩)
  · refine RelOk.mk' 59 rfl rfl (fun a W hW hr => ?_)
    have h41 : a.tmps.getD 56 undef = figV (some ⟨g51, 0, none⟩) n1 (n1 + roomN n1) (some ⟨g52, 0, none⟩) n2 (n2 + roomN n2) := (hr 56 rfl).1 rfl
    obtain ⟨k1, k2, h43, i1, i2⟩ : isLaid2 n1 n2 l1 l2 (a.tmps.getD 58 undef) W := (hr 58 rfl).1 rfl
    exact rel_call 11 _ #[figV (some ⟨g51, 0, none⟩) n1 (n1 + roomN n1) (some ⟨g52, 0, none⟩) n2 (n2 + roomN n2), figV (some ⟨k1, 0, none⟩) n1 (n1 + roomN n1) (some ⟨k2, 0, none⟩) n2 (n2 + roomN n2)] rfl rfl (by simp [Act.eval, h41, h43]) (Try.call11 _ _)
      ((HN.out W g51 g52 k1 k2 (P51.out.below hW) (P52.out.below hW) i1 i2).mono fun e W' ⟨he, hb⟩ => ⟨_, he, hb, rfl⟩)
  · refine RelOk.mk' 60 rfl rfl (fun a W hW hr => ?_)
    have h44 : a.tmps.getD 59 undef = .bool true := (hr 59 rfl).1 rfl
    exact rel_calm (calm_run (v := .bool false) (by simp [execOp, Act.eval, go_sem, h44])) (fun _ _ => rfl)
  intro v w9_ hb9 hv
  have e41 : v 56 = figV (some ⟨g51, 0, none⟩) n1 (n1 + roomN n1) (some ⟨g52, 0, none⟩) n2 (n2 + roomN n2) := hv 56 rfl
  have e42 : v 57 = figV b1 n1 c1 b2 n2 c2 := hv 57 rfl
  have e44 : v 59 = .bool true := hv 59 rfl
  have e45 : v 60 = .bool false := hv 60 rfl
  simp only [List.map_cons, List.map_nil, puts, Act.put, List.setIfInBounds_toArray, List.set_cons_zero, List.set_cons_succ, e41, e42, e44, e45, List.drop_succ_cons, List.drop_zero, List.drop_nil]
  refine wpList_nil ?_
  have q9 := hb9.size
  have HB9 := Lib.hid hb9
  generalize v 58 = v47
  clear hv hb9 e41 e42 e44 e45 v HN
  have K3b := (HB9.out.block _ (by omega)).trans K3
  have K8b := (HB9.out.block _ (by omega)).trans K8
  have HQ9 : Hid (Below w.heap.size w w9_) := Lib.hid (low_tr' HQ.out HB9.out (by omega))
  replace RR51 := Lib.hid (RR51.out.below HB9.out)
  replace RR52 := Lib.hid (RR52.out.below HB9.out)
  replace DD4 := Lib.hid (DD4.out.below HB9.out)
  replace DD6 := Lib.hid (DD6.out.below HB9.out)
  clear K3 K8 HQ P51 P52 HB9
  have x1 : ∀ a : Addr, some (⟨g51, 0, none⟩ : Addr) = some a → a.block = g51 := fun a ha => by cases ha; rfl
  have x2 : ∀ a : Addr, some (⟨g52, 0, none⟩ : Addr) = some a → a.block = g52 := fun a ha => by cases ha; rfl
  have X1 := Lib.hid x1
  have X2 := Lib.hid x2
  clear x1 x2
  go_upto_region 14 with (first
    | (refine wpList_load_row _ rfl 29 _ rfl (g := w5_.heap.size) (T := 29) (cs := #[.slice (some ⟨g51, 0, none⟩) n1 (n1 + roomN n1), .slice (some ⟨g52, 0, none⟩) n2 (n2 + roomN n2)]) (fr := (0, 0)) rfl (K8b) 2 rfl Try.sizeOf29 Try.isAgg29 ?_)
    | (go_at_call 12; refine (HMk.out _ _ _ _ _ (.inr ⟨g51, _, rfl, Nat.le_add_right _ _, RR51.out⟩) (.inr ⟨g52, _, rfl, Nat.le_add_right _ _, RR52.out⟩) g51 (g51 + 1) g52 (g52 + 1) (fun a ha => by have := X1.out a ha; omega) (fun a ha => by have := X2.out a ha; omega) (by omega) (by omega) (by omega)).mono ?_; rintro e w10_ ⟨rfl, hs, _, _⟩; have HS10 := Lib.hid hs; clear hs))
  have s9 := HS10.out.size
  have d1 : ∀ k, k < w9_.heap.size → k ≠ g51 → k ≠ g52 → w10_.heap[k]? = w9_.heap[k]? := fun k hk q1 q2 => HS10.out.block k hk (fun a ha => by have := X1.out a ha; omega) (fun a ha => by have := X2.out a ha; omega)
  have SA : Hid (StA w (.cells #[.slice b1 n1 c1, .slice b2 n2 c2] 24 (0, 0)) 0 w3_.heap.size w4_.heap.size log w6_.heap.size wa wd wb we ga gd gb ge m1 m2 L1 L2 w10_) := Lib.hid ⟨(d1 _ (by omega) (by omega) (by omega)).trans K3b, DD4.out.blocks s9 (fun k h1 h2 => d1 k (by omega) (by omega) (by omega)), DD6.out.blocks s9 (fun k h1 h2 => d1 k (by omega) (by omega) (by omega)), HS10.out.below HQ9.out (fun a ha => by have := X1.out a ha; omega) (fun a ha => by have := X2.out a ha; omega) (by omega), ⟨by omega, by omega, by omega⟩⟩
  clear d1 K3b K8b HQ9 HS10 RR51 RR52 HMk DD4 DD6 X1 X2
  have tokA : True := trivial
  have tokB : True := trivial
  go_wp2_with (first
    | ((go_at_call 16; (with_reducible refine (eq1_st hmm1 SA.out).mono ?_); rintro e w11_ ⟨rfl, hb11⟩; obtain ⟨hcb11, hfb11, hlb11⟩ := bcell hb11; have hsz11 := hb11.size; (try simp at hsz11); have HB11 := Lib.hid hb11; clear hb11); have S11 := Lib.hid (SA.out.below HB11.out))
    | ((go_at_call 16; (with_reducible refine (eq2_st hmm2 S11.out).mono ?_); rintro e w12_ ⟨rfl, hb12⟩; obtain ⟨hcb12, hfb12, hlb12⟩ := bcell hb12; have hsz12 := hb12.size; (try simp at hsz12); have HB12 := Lib.hid hb12; clear hb12); have S12 := Lib.hid (S11.out.below HB12.out))
    | (go_at_call 17; (with_reducible refine (HM1.out _ _ _ _ _ _ _ _ _ _ _ _ _ _ _ S12.out).mono ?_); rintro e w13_ ⟨rfl, hs13, hm⟩; have S13 := Lib.hid hm; clear hm)
    | (go_at_call 17; (with_reducible refine (HM2.out _ _ _ _ _ _ _ _ _ _ _ _ _ _ _ S13.out).mono ?_); rintro e w14_ ⟨rfl, hs14, hm⟩; have S14 := Lib.hid hm; clear hm)
    | (have _t := tokA; (go_at_call 18; (with_reducible refine (HH1.out _ _ _ _ _ _ _ _ _ _ _ S14.out).mono ?_); rintro e w15_ ⟨rfl, hb15⟩; obtain ⟨hcb15, hfb15, hlb15⟩ := bcell hb15; have hsz15 := hb15.size; (try simp at hsz15); have HB15 := Lib.hid hb15; clear hb15); clear tokA; have S15 := Lib.hid (S14.out.below HB15.out))
    | (have _t := tokB; (go_at_call 18; (with_reducible refine (HH2.out _ _ _ _ _ _ _ _ _ _ _ S15.out).mono ?_); rintro e w16_ ⟨rfl, hb16⟩; obtain ⟨hcb16, hfb16, hlb16⟩ := bcell hb16; have hsz16 := hb16.size; (try simp at hsz16); have HB16 := Lib.hid hb16; clear hb16); clear tokB; have S16 := Lib.hid (S15.out.below HB16.out))
    | (refine wpList_load_row _ rfl 24 _ rfl (g := w.heap.size) (T := 24) (cs := #[.slice b1 n1 c1, .slice b2 n2 c2]) (fr := (0, 0)) rfl (S16.out.k3) 2 rfl Try.sizeOf24 Try.isAgg24 ?_)
    | (go_at_call 8; (with_reducible refine (HU.out _ S16.out.bl).mono ?_); rintro e w17_ ⟨B1, C1, B2, C2, rfl, hp1, hp2, hb⟩; have HB17 := Lib.hid hb; have hsz17 := hb.size; have P171 := Lib.hid hp1; have P172 := Lib.hid hp2; have S17 := Lib.hid (S16.out.below hb); clear hb hp1 hp2)
    | (go_at_call 15; (with_reducible refine (HI.out _ _ _ _ _ P171.out P172.out).mono ?_); intro e w18_ h; obtain ⟨ja, jd, jb, je, rfl, ho, hb⟩ := DegAny.open h; clear h; have HB18 := Lib.hid hb; have DD18 := Lib.hid ho; have hsz18 := hb.size; (try simp at hsz18); clear hb ho; have S18 := Lib.hid (S17.out.below HB18.out))
    | ((go_at_call 16; (with_reducible refine (eq3_st hmm1 S18.out DD18.out).mono ?_); rintro e w19_ ⟨rfl, hb19⟩; obtain ⟨hcb19, hfb19, hlb19⟩ := bcell hb19; have hsz19 := hb19.size; (try simp at hsz19); have HB19 := Lib.hid hb19; clear hb19); have S19 := Lib.hid (S18.out.below HB19.out); have DD19 := Lib.hid (DD18.out.below HB19.out))
    | ((go_at_call 16; (with_reducible refine (eq4_st hmm2 S19.out DD19.out).mono ?_); rintro e w20_ ⟨rfl, hb20⟩; obtain ⟨hcb20, hfb20, hlb20⟩ := bcell hb20; have hsz20 := hb20.size; (try simp at hsz20); have HB20 := Lib.hid hb20; clear hb20); have S20 := Lib.hid (S19.out.below HB20.out))
    | ((go_at_call 18; (with_reducible refine (HH1.out _ _ _ _ _ _ _ _ _ _ _ S20.out).mono ?_); rintro e w21_ ⟨rfl, hb21⟩; obtain ⟨hcb21, hfb21, hlb21⟩ := bcell hb21; have hsz21 := hb21.size; (try simp at hsz21); have HB21 := Lib.hid hb21; clear hb21); have S21 := Lib.hid (S20.out.below HB21.out))
    | ((go_at_call 18; (with_reducible refine (HH2.out _ _ _ _ _ _ _ _ _ _ _ S21.out).mono ?_); rintro e w22_ ⟨rfl, hb22⟩; obtain ⟨hcb22, hfb22, hlb22⟩ := bcell hb22; have hsz22 := hb22.size; (try simp at hsz22); have HB22 := Lib.hid hb22; clear hb22); have S22 := Lib.hid (S21.out.below HB22.out)))
  go_ret
  exact ⟨rfl, S22.out.bl⟩
theorem FnExactDegreesOfFigure_walk (p : Int) (b1 : Option Addr) (n1 c1 : Nat) (b2 : Option Addr) (n2 c2 : Nat) (l1 l2 : List Pt) (w : World) (hn1 : n1 ≤ 9223372036854775807) (hn2 : n2 ≤ 9223372036854775807) (h1 : ListP w b1 n1 l1) (h2 : ListP w b2 n2 l2) :
    Calls Try.prog 4 #[.int .i64 p, figV b1 n1 c1 b2 n2 c2] w (Ret w (.bool true)) := by
  by_cases hk : n1 + n2 ≤ 1000000
  · exact FnExactDegreesOfFigure_fit p b1 n1 c1 b2 n2 c2 l1 l2 w hk h1 h2
  · exact FnExactDegreesOfFigure_big p b1 n1 c1 b2 n2 c2 w hn1 hn2 hk
end Go.Proofs.Ytidbikjdigemnaa
