/- Texts of the claim, in build order: I5. No condition. -/
import Derived.Deep.DeepCutAuto
import Derived.Test.YtidbikjdigemnaaZIncidenceTable11
/- The law FnExactIncidenceTable, walked. (Printed by geni5.py, a program of this session.) -/
namespace Go.Proofs.Ytidbikjdigemnaa
open Go.RowKit
set_option linter.unusedVariables false
set_option linter.unusedSimpArgs false
def isLaid (n1 n2 : Nat) (l1 l2 : List Pt) : Value → World → Prop := fun v W => ∃ k1 k2, v = figV (some ⟨k1, 0, none⟩) n1 (n1 + roomN n1) (some ⟨k2, 0, none⟩) n2 (n2 + roomN n2) ∧ PtsAt W k1 0 (n1 + roomN n1) (withRoomP l1) ∧ PtsAt W k2 0 (n2 + roomN n2) (withRoomP l2)
theorem mkdS_below {w W : World} {n2 : Nat} {gs : List (Nat × Nat)} (h : MkdS w n2 gs) (hb : Below w.heap.size w W) : MkdS W n2 gs := fun i hi => (h i hi).below hb
theorem mono_laid (n1 n2 : Nat) (l1 l2 : List Pt) : Mono (isLaid n1 n2 l1 l2) := ⟨fun v W W' ⟨k1, k2, h, i1, i2⟩ hb => ⟨k1, k2, h, i1.below hb, i2.below hb⟩⟩
set_option maxHeartbeats 4000000 in
theorem FnExactIncidenceTable_big (p : Int) (b1 : Option Addr) (n1 c1 : Nat) (b2 : Option Addr) (n2 c2 : Nat) (w : World) (hn1 : n1 ≤ 9223372036854775807) (hn2 : n2 ≤ 9223372036854775807) (hk : ¬ n1 + n2 ≤ 1000000) :
    Calls Try.prog 5 #[.int .i64 p, figV b1 n1 c1 b2 n2 c2] w (Ret w (.bool true)) := by
  have HZ := Lib.hid (fun (W : World) => szFigure_any b1 n1 c1 b2 n2 c2 W hn1 hn2)
  rw [if_neg hk] at HZ
  go_enter Try.func5, Try.ntmps5
  go_wp2_with (go_at_call 6; (with_reducible refine (HZ.out _).mono ?_); rintro e w1_ ⟨rfl, hb1⟩; obtain ⟨hcb1, hfb1, hlb1⟩ := bcell hb1; have hsz1 := hb1.size; (try simp at hsz1); have HB1 := Lib.hid hb1; clear hb1; (try (have hl01 : w.heap.size < w1_.heap.size := by omega)))
  go_ret
  exact ⟨rfl, (by repeat (first | exact Below.refl _ _ | refine bset ?_ _ _ (by omega) _ | refine bal ?_ _ | refine bdrN ?_ _ | refine bdr ?_ | refine below_tr' ?_ HB1.out))⟩
set_option maxRecDepth 20000 in
set_option maxHeartbeats 16000000 in
theorem FnExactIncidenceTable_fit (p : Int) (b1 : Option Addr) (n1 c1 : Nat) (b2 : Option Addr) (n2 c2 : Nat) (l1 l2 : List Pt) (w : World) (hk : n1 + n2 ≤ 1000000) (h1 : ListP w b1 n1 l1) (h2 : ListP w b2 n2 l2) :
    Calls Try.prog 5 #[.int .i64 p, figV b1 n1 c1 b2 n2 c2] w (Ret w (.bool true)) := by
  have HZ := Lib.hid (fun (W : World) => szFigure_any b1 n1 c1 b2 n2 c2 W (by omega) (by omega))
  rw [if_pos hk] at HZ
  have HT := Lib.hid (fun (W : World) (hW : Below w.heap.size w W) => toFigure_R2 b1 n1 c1 b2 n2 c2 l1 l2 W (by omega) (by omega) (h1.below hW) (h2.below hW))
  have HU := Lib.hid (fun (W : World) (hW : Below w.heap.size w W) => toFigure_B b1 n1 c1 b2 n2 c2 l1 l2 W (by omega) (by omega) (h1.below hW) (h2.below hW))
  have HS := Lib.hid (fun (W : World) (a1 : Option Addr) (d1 : Nat) (a2 : Option Addr) (d2 : Nat) (i1 : ListP W a1 n1 l1) (i2 : ListP W a2 n2 l2) => IncidenceTable_spec p a1 n1 d1 a2 n2 d2 l1 l2 W (by omega) (by omega) i1 i2)
  have HI := Lib.hid (fun (W : World) (a1 : Option Addr) (d1 : Nat) (a2 : Option Addr) (d2 : Nat) (i1 : ListP W a1 n1 l1) (i2 : ListP W a2 n2 l2) => IncidenceTable_impl p a1 n1 d1 a2 n2 d2 l1 l2 W (by omega) (by omega) i1 i2)
  have HN := Lib.hid (fun (W : World) (g1 g2 k1 k2 : Nat) i1 i2 i3 i4 => intactFigure_same g1 g2 k1 k2 n1 n2 l1 l2 W (by omega) (by omega) h1.1 h2.1 i1 i2 i3 i4)
  have HL1 := Lib.hid h1.1
  have HL2 := Lib.hid h2.1
  obtain ⟨hm1, hm2⟩ := (dualM_bd (p := p) (n1 := n1) (n2 := n2) (l1 := l1) (l2 := l2))
  generalize dualM (figC p n1 n2 l1 l2) n1 = m1 at *
  generalize dualM (figC p n1 n2 l1 l2) n2 = m2 at *
  generalize tblR p l1 l2 n2 = tb at *
  generalize figC p n1 n2 l1 l2 = kc at *
  have hx0 : ¬ markN n1 n2 < 0 := by unfold markN; omega
  have hg0 : ¬ ((101 + m2 * m1 : Nat) : Int) < 0 := by omega
  have HMk := Lib.hid (fun (W : World) a1 d1 a2 d2 (q1 : MkL W a1 n1 49) (q2 : MkL W a2 n2 50) lo1 hi1 lo2 hi2 e1 e2 k1 k2 hd => markFigure_F a1 n1 d1 a2 n2 d2 _ _ W (by omega) (by omega) q1 q2 lo1 hi1 lo2 hi2 e1 e2 k1 k2 hd)
  have HMg := Lib.hid (fun (W : World) b c lo gs hm o t => markInt64SS_any b c m1 m2 lo gs tb W hm hm1 hm2 o t)
  have HHg := Lib.hid (fun (W : World) b c lo gs hm o t => heldInt64SS_any b c m1 m2 lo gs W hm hm1 hm2 o t)
  have HEq := Lib.hid (fun (W : World) b b' c c' lo lo' gs gs' hm hm' o o' t t' => eqInt64SS_same b b' c c' m1 m2 lo lo' gs gs' tb W hm hm' (by omega) (by omega) o o' t t')
  generalize markN n1 n2 = Mx at *
  generalize ((101 + m2 * m1 : Nat) : Int) = Mg at *
  generalize hq : (1000000 : Int) - (n1 : Int) - (n2 : Int) = q at *
  have hq0 : ¬ q < 0 := by omega
  have tok3 : True := trivial
  have tok5 : True := trivial
  clear h1 h2 hq
  go_enter Try.func5, Try.ntmps5
  go_upto_region 10 with (first
    | (go_at_call 6; (with_reducible refine (HZ.out _).mono ?_); rintro e w1_ ⟨rfl, hb1⟩; obtain ⟨hcb1, hfb1, hlb1⟩ := bcell hb1; have hsz1 := hb1.size; (try simp at hsz1); have HB1 := Lib.hid hb1; clear hb1; (try (have hl01 : w.heap.size < w1_.heap.size := by omega)))
    | (have _t := tok3; go_at_call 8; (with_reducible refine (HT.out _ (by repeat (first | exact Below.refl _ _ | refine bset ?_ _ _ (by omega) _ | refine bal ?_ _ | refine bdrN ?_ _ | refine bdr ?_ | refine below_tr' ?_ HB1.out))).mono ?_); rintro e w3_ ⟨g31, g32, rfl, hu3, hv3, hw3, hr1, hr2, hp1, hp2, hb⟩; have HB3 := Lib.hid hb; have P31 := Lib.hid hp1; have P32 := Lib.hid hp2; have RR31 := Lib.hid hr1; have RR32 := Lib.hid hr2; have hsz3 := hb.size; (try simp at hsz3); clear hb hp1 hp2 hr1 hr2; clear tok3)
    | (go_at_call 19; (with_reducible refine (HS.out _ _ _ _ _ (laidR_list HL1.out P31.out) (laidR_list HL2.out P32.out)).mono ?_); rintro e w4_ ⟨wb, wc, ws, rfl, hg, ho, ht, hb⟩; have HB4 := Lib.hid hb; have HG4 := Lib.hid hg; have OO4 := Lib.hid ho; have TT4 := Lib.hid ht; have BN4 := Lib.hid (bnd_of ho ht); have hsz4 := hb.size; (try simp at hsz4); clear hb hg ho ht)
    | (refine wpList_load_row _ rfl 24 _ rfl (g := w.heap.size) (T := 24) (cs := #[.slice b1 n1 c1, .slice b2 n2 c2]) (fr := (0, 0)) rfl (by rw [HB4.out.block _ (by first | omega | (simp; done) | (simp; omega)), HB3.out.block _ (by first | omega | (simp; done) | (simp; omega)), HB1.out.block _ (by simp)]; exact heap_alloc_new _ _) 2 rfl Try.sizeOf24 Try.isAgg24 ?_)
    | (have _t := tok5; go_at_call 8; (with_reducible refine (HT.out _ (by repeat (first | exact Below.refl _ _ | refine bset ?_ _ _ (by omega) _ | refine bal ?_ _ | refine bdrN ?_ _ | refine bdr ?_ | refine below_tr' ?_ HB4.out | refine below_tr' ?_ HB3.out | refine below_tr' ?_ HB1.out))).mono ?_); rintro e w5_ ⟨g51, g52, rfl, hu5, hv5, hw5, hr1, hr2, hp1, hp2, hb⟩; have HB5 := Lib.hid hb; have P51 := Lib.hid hp1; have P52 := Lib.hid hp2; have RR51 := Lib.hid hr1; have RR52 := Lib.hid hr2; have hsz5 := hb.size; (try simp at hsz5); clear hb hp1 hp2 hr1 hr2; clear tok5)
    | (refine wpList_store_row _ rfl 29 _ _ rfl rfl rfl rfl (heap_alloc_new _ _) rfl Try.sizeOf29 (by simp [Value.oneCell']) ?_; rw [alloc_setRow])
    | (refine wpList_load_row _ rfl 29 _ rfl (g := w5_.heap.size) (T := 29) (cs := #[.slice (some ⟨g51, 0, none⟩) n1 (n1 + roomN n1), .slice (some ⟨g52, 0, none⟩) n2 (n2 + roomN n2)]) (fr := (0, 0)) rfl (heap_alloc_new _ _) 2 rfl Try.sizeOf29 Try.isAgg29 ?_)
    | (go_at_call 20; (with_reducible refine (HI.out _ _ _ _ _ ((laidR_list HL1.out P51.out).below (bal (Below.refl _ _) _)) ((laidR_list HL2.out P52.out).below (bal (Below.refl _ _) _))).mono ?_); rintro e w6_ ⟨gb, gc, gg, rfl, hg, ho, ht, hb⟩; have HB6 := Lib.hid hb; have HG6 := Lib.hid hg; have OO6 := Lib.hid ho; have TT6 := Lib.hid ht; have BN6 := Lib.hid (bnd_of ho ht); have hsz6 := hb.size; (try simp at hsz6); clear hb hg ho ht)
    | (go_at_call 21; (with_reducible refine (HEq.out _ _ _ _ _ _ _ _ _ HG6.out HG4.out OO6.out (out_below (out_below (out_below OO4.out HB5.out) (bal (Below.refl _ _) _)) HB6.out) TT6.out (tab_below (tab_below (tab_below TT4.out HB5.out) (bal (Below.refl _ _) _)) HB6.out)).mono ?_); rintro e w7_ ⟨rfl, hb7⟩; obtain ⟨hcb7, hfb7, hlb7⟩ := bcell hb7; have hsz7 := hb7.size; (try simp at hsz7); have HB7 := Lib.hid hb7; clear hb7))
  have hA := HB1.out.size
  try simp at hA
  have K3 : w7_.heap[w.heap.size]? = some (.cells #[.slice b1 n1 c1, .slice b2 n2 c2] 24 (0, 0)) := by rw [HB7.out.block _ (by first | omega | (simp; done) | (simp; omega)), HB6.out.block _ (by first | omega | (simp; done) | (simp; omega)), hn_pastN _ _ _ (by omega), HB5.out.block _ (by omega), HB4.out.block _ (by omega), HB3.out.block _ (by omega), HB1.out.block _ (by simp)]; exact heap_alloc_new _ _
  have K8 : w7_.heap[w5_.heap.size]? = some (.cells #[.slice (some ⟨g51, 0, none⟩) n1 (n1 + roomN n1), .slice (some ⟨g52, 0, none⟩) n2 (n2 + roomN n2)] 29 (0, 0)) := by rw [HB7.out.block _ (by first | omega | (simp; done) | (simp; omega)), HB6.out.block _ (by simp), hn_atN _ _ _ rfl]
  have HQ : Hid (Below w.heap.size w w7_) := Lib.hid (by repeat (first | exact Below.refl _ _ | refine bset ?_ _ _ (by omega) _ | refine bal ?_ _ | refine bdrN ?_ _ | refine bdr ?_ | refine below_tr' ?_ HB7.out | refine below_tr' ?_ HB6.out | refine below_tr' ?_ HB5.out | refine below_tr' ?_ HB4.out | refine below_tr' ?_ HB3.out | refine below_tr' ?_ HB1.out))
  replace P51 := Lib.hid (((P51.out.below (bal (Below.refl _ _) _)).below HB6.out).below HB7.out)
  replace P52 := Lib.hid (((P52.out.below (bal (Below.refl _ _) _)).below HB6.out).below HB7.out)
  replace RR51 := Lib.hid (((RR51.out.below (bal (Below.refl _ _) _)).below HB6.out).below HB7.out)
  replace RR52 := Lib.hid (((RR52.out.below (bal (Below.refl _ _) _)).below HB6.out).below HB7.out)
  replace OO4 := Lib.hid (out_below (out_below (out_below (out_below OO4.out HB5.out) (bal (Below.refl _ _) _)) HB6.out) HB7.out)
  replace TT4 := Lib.hid (tab_below (tab_below (tab_below (tab_below TT4.out HB5.out) (bal (Below.refl _ _) _)) HB6.out) HB7.out)
  replace OO6 := Lib.hid (out_below OO6.out HB7.out)
  replace TT6 := Lib.hid (tab_below TT6.out HB7.out)
  obtain ⟨log, hlog⟩ : ∃ log, (w5_.alloc (.cells #[.slice (some ⟨g51, 0, none⟩) n1 (n1 + roomN n1), .slice (some ⟨g52, 0, none⟩) n2 (n2 + roomN n2)] 29)).heap.size = log := ⟨_, rfl⟩
  have hlog2 : log = w5_.heap.size + 1 := by rw [← hlog]; simp
  rw [hlog] at OO6 TT6
  clear hlog
  have s7 := HB7.out.size
  have hs3 := HB3.out.size
  have hs4 := HB4.out.size
  have hs6 := HB6.out.size
  try simp at hs6
  try simp at hu5
  clear HB1 HB3 HB4 HB5 HB6 HB7 P31 P32 RR31 RR32 HS hcb1 hfb1 hlb1 hcb7 hfb7 hlb7
  refine region_rels 5 [(45, isV (figV (some ⟨g51, 0, none⟩) n1 (n1 + roomN n1) (some ⟨g52, 0, none⟩) n2 (n2 + roomN n2))), (46, isV (figV b1 n1 c1 b2 n2 c2)), (47, isLaid n1 n2 l1 l2), (48, isV (.bool true)), (49, isV (.bool false))] (by kernel_rfl) (by decide) (by kernel_rfl) rfl ⟨mono_is _, mono_is _, mono_laid _ _ _ _, mono_is _, mono_is _, trivial⟩ ⟨?_, ?_, ?_, ?_, ?_, trivial⟩ ?_
  · refine RelOk.mk' 45 rfl rfl (fun a W hW hr => ?_)
    have h8 := (hr 8 rfl).2 rfl
    exact rel_calm (calm_load (cs := #[.slice (some ⟨g51, 0, none⟩) n1 (n1 + roomN n1), .slice (some ⟨g52, 0, none⟩) n2 (n2 + roomN n2)]) (g := w5_.heap.size) (T := 29) (fr := (0, 0)) 29 (.tmp 8) rfl h8 (by rw [hW.block _ (by omega)]; exact K8) 2 rfl Try.sizeOf29 Try.isAgg29) (fun _ _ => rfl)
  · refine RelOk.mk' 46 rfl rfl (fun a W hW hr => ?_)
    have h3 := (hr 3 rfl).2 rfl
    exact rel_calm (calm_load (cs := #[.slice b1 n1 c1, .slice b2 n2 c2]) (g := w.heap.size) (T := 24) (fr := (0, 0)) 24 (.tmp 3) rfl h3 (by rw [hW.block _ (by omega)]; exact K3) 2 rfl Try.sizeOf24 Try.isAgg24) (fun _ _ => rfl)
  · refine RelOk.mk' 47 rfl rfl (fun a W hW hr => ?_)
    have h42 : a.tmps.getD 46 undef = figV b1 n1 c1 b2 n2 c2 := (hr 46 rfl).1 rfl
    exact rel_call 8 _ #[figV b1 n1 c1 b2 n2 c2, .bool false] rfl rfl (by simp [Act.eval, h42]) (Try.call8 _ _)
      ((HT.out W (low_tr' HQ.out hW (by omega))).mono fun e W' ⟨⟨k1, k2, he, _, _, _, _, _, i1, i2, hb⟩⟩ => ⟨_, he, hb, k1, k2, rfl, i1, i2⟩)
  · refine RelOk.mk' 48 rfl rfl (fun a W hW hr => ?_)
    have h41 : a.tmps.getD 45 undef = figV (some ⟨g51, 0, none⟩) n1 (n1 + roomN n1) (some ⟨g52, 0, none⟩) n2 (n2 + roomN n2) := (hr 45 rfl).1 rfl
    obtain ⟨k1, k2, h43, i1, i2⟩ : isLaid n1 n2 l1 l2 (a.tmps.getD 47 undef) W := (hr 47 rfl).1 rfl
    exact rel_call 11 _ #[figV (some ⟨g51, 0, none⟩) n1 (n1 + roomN n1) (some ⟨g52, 0, none⟩) n2 (n2 + roomN n2), figV (some ⟨k1, 0, none⟩) n1 (n1 + roomN n1) (some ⟨k2, 0, none⟩) n2 (n2 + roomN n2)] rfl rfl (by simp [Act.eval, h41, h43]) (Try.call11 _ _)
      ((HN.out W g51 g52 k1 k2 (P51.out.below hW) (P52.out.below hW) i1 i2).mono fun e W' ⟨he, hb⟩ => ⟨_, he, hb, rfl⟩)
  · refine RelOk.mk' 49 rfl rfl (fun a W hW hr => ?_)
    have h44 : a.tmps.getD 48 undef = .bool true := (hr 48 rfl).1 rfl
    exact rel_calm (calm_run (v := .bool false) (by simp [execOp, Act.eval, go_sem, h44])) (fun _ _ => rfl)
  intro v w8_ hb8 hv
  have e41 : v 45 = figV (some ⟨g51, 0, none⟩) n1 (n1 + roomN n1) (some ⟨g52, 0, none⟩) n2 (n2 + roomN n2) := hv 45 rfl
  have e42 : v 46 = figV b1 n1 c1 b2 n2 c2 := hv 46 rfl
  have e44 : v 48 = .bool true := hv 48 rfl
  have e45 : v 49 = .bool false := hv 49 rfl
  simp only [List.map_cons, List.map_nil, puts, Act.put, List.setIfInBounds_toArray, List.set_cons_zero, List.set_cons_succ, e41, e42, e44, e45, List.drop_succ_cons, List.drop_zero, List.drop_nil]
  refine wpList_nil ?_
  have q8 := hb8.size
  have HB8 := Lib.hid hb8
  generalize v 47 = v47
  clear hv hb8 e41 e42 e44 e45 v HN
  have K3b := (HB8.out.block _ (by omega)).trans K3
  have K8b := (HB8.out.block _ (by omega)).trans K8
  have HQ8 : Hid (Below w.heap.size w w8_) := Lib.hid (low_tr' HQ.out HB8.out (by omega))
  replace RR51 := Lib.hid (RR51.out.below HB8.out)
  replace RR52 := Lib.hid (RR52.out.below HB8.out)
  replace OO4 := Lib.hid (out_below OO4.out HB8.out)
  replace OO6 := Lib.hid (out_below OO6.out HB8.out)
  replace TT4 := Lib.hid (tab_below TT4.out HB8.out)
  replace TT6 := Lib.hid (tab_below TT6.out HB8.out)
  clear K3 K8 HQ P51 P52 HB8
  have x1 : ∀ a : Addr, some (⟨g51, 0, none⟩ : Addr) = some a → a.block = g51 := fun a ha => by cases ha; rfl
  have x2 : ∀ a : Addr, some (⟨g52, 0, none⟩ : Addr) = some a → a.block = g52 := fun a ha => by cases ha; rfl
  have X1 := Lib.hid x1
  have X2 := Lib.hid x2
  clear x1 x2
  go_upto_region 14 with (first
    | (refine wpList_load_row _ rfl 29 _ rfl (g := w5_.heap.size) (T := 29) (cs := #[.slice (some ⟨g51, 0, none⟩) n1 (n1 + roomN n1), .slice (some ⟨g52, 0, none⟩) n2 (n2 + roomN n2)]) (fr := (0, 0)) rfl (K8b) 2 rfl Try.sizeOf29 Try.isAgg29 ?_)
    | (go_at_call 12; refine (HMk.out _ _ _ _ _ (.inr ⟨g51, _, rfl, Nat.le_add_right _ _, RR51.out⟩) (.inr ⟨g52, _, rfl, Nat.le_add_right _ _, RR52.out⟩) g51 (g51 + 1) g52 (g52 + 1) (fun a ha => by have := X1.out a ha; omega) (fun a ha => by have := X2.out a ha; omega) (by omega) (by omega) (by omega)).mono ?_; rintro e w9_ ⟨rfl, hs, _, _⟩; have HS9 := Lib.hid hs; clear hs))
  have s9 := HS9.out.size
  have d1 : ∀ k, k < w8_.heap.size → k ≠ g51 → k ≠ g52 → w9_.heap[k]? = w8_.heap[k]? := fun k hk q1 q2 => HS9.out.block k hk (fun a ha => by have := X1.out a ha; omega) (fun a ha => by have := X2.out a ha; omega)
  have K3c := (d1 _ (by omega) (by omega) (by omega)).trans K3b
  have e4 : ∀ k, w3_.heap.size ≤ k → k < w4_.heap.size → w9_.heap[k]? = w8_.heap[k]? := fun k h1 h2 => d1 k (by omega) (by omega) (by omega)
  have e6 : ∀ k, log ≤ k → k < w6_.heap.size → w9_.heap[k]? = w8_.heap[k]? := fun k h1 h2 => d1 k (by omega) (by omega) (by omega)
  replace OO4 := Lib.hid (out_blocks OO4.out BN4.out s9 e4)
  replace TT4 := Lib.hid (tab_blocks TT4.out BN4.out s9 e4)
  replace OO6 := Lib.hid (out_blocks OO6.out BN6.out s9 e6)
  replace TT6 := Lib.hid (tab_blocks TT6.out BN6.out s9 e6)
  have HQ9 : Hid (Below w.heap.size w w9_) := Lib.hid (HS9.out.below HQ8.out (fun a ha => by have := X1.out a ha; omega) (fun a ha => by have := X2.out a ha; omega) (by omega))
  have K3d := Lib.hid K3c
  clear d1 e4 e6 K3b K8b K3c HQ8 HS9 RR51 RR52 HMk
  have tokE : True := trivial
  have tokH : True := trivial
  go_wp2_with (first
    | (have _t := tokE; (go_at_call 21; (with_reducible refine (HEq.out _ _ _ _ _ _ _ _ _ HG6.out HG4.out OO6.out OO4.out TT6.out TT4.out).mono ?_); rintro e w10_ ⟨rfl, hb10⟩; obtain ⟨hcb10, hfb10, hlb10⟩ := bcell hb10; have hsz10 := hb10.size; (try simp at hsz10); have HB10 := Lib.hid hb10; clear hb10); clear tokE; have K3e := Lib.hid ((HB10.out.block _ (Array.getElem?_eq_some_iff.1 K3d.out).1).trans K3d.out))
    | (go_at_call 22; refine (HMg.out _ _ _ _ _ HG6.out (out_below OO6.out HB10.out) (tab_below TT6.out HB10.out)).mono ?_; rintro e w11_ ⟨rfl, hs, hm⟩; have HS11 := Lib.hid hs; have HM11 := Lib.hid hm; have s11 := hs.size; clear hs hm; have r11 := Lib.hid (fun i (hi : i < gg.length) => (TT6.out i hi).1); have e11 := Lib.hid (fun k (h2 : k < w4_.heap.size) => HS11.out.block k (by omega) (fun i hi => by have := r11.out i hi; omega)); have K3f := Lib.hid ((e11.out w.heap.size (by omega)).trans K3e.out); have OC4 := Lib.hid (out_blocks (out_below OO4.out HB10.out) BN4.out s11 (fun k _ h2 => e11.out k h2)); have TC4 := Lib.hid (tab_blocks (tab_below TT4.out HB10.out) BN4.out s11 (fun k _ h2 => e11.out k h2)); have OC6 := Lib.hid (out_saveS (out_below OO6.out HB10.out) HS11.out); have HQ11 := Lib.hid (HS11.out.below (low_tr' HQ9.out HB10.out HQ9.out.size) (fun i hi => by have := r11.out i hi; omega) (by omega)))
    | (have _t := tokH; (go_at_call 23; (with_reducible refine (HHg.out _ _ _ _ _ HG6.out OC6.out HM11.out).mono ?_); rintro e w12_ ⟨rfl, hb12⟩; obtain ⟨hcb12, hfb12, hlb12⟩ := bcell hb12; have hsz12 := hb12.size; (try simp at hsz12); have HB12 := Lib.hid hb12; clear hb12); clear tokH; have K3g := Lib.hid ((HB12.out.block _ (Array.getElem?_eq_some_iff.1 K3f.out).1).trans K3f.out))
    | (refine wpList_load_row _ rfl 24 _ rfl (g := w.heap.size) (T := 24) (cs := #[.slice b1 n1 c1, .slice b2 n2 c2]) (fr := (0, 0)) rfl (K3g.out) 2 rfl Try.sizeOf24 Try.isAgg24 ?_)
    | (go_at_call 8; (with_reducible refine (HU.out _ (low_tr' HQ11.out HB12.out HQ11.out.size)).mono ?_); rintro e w13_ ⟨B1, C1, B2, C2, rfl, hp1, hp2, hb⟩; have HB13 := Lib.hid hb; have hsz13 := hb.size; have P131 := Lib.hid hp1; have P132 := Lib.hid hp2; clear hb hp1 hp2)
    | (go_at_call 20; (with_reducible refine (HI.out _ _ _ _ _ P131.out P132.out).mono ?_); rintro e w14_ ⟨jb, jc, jg, rfl, hg, ho, ht, hb⟩; have HB14 := Lib.hid hb; have HG14 := Lib.hid hg; have OO14 := Lib.hid ho; have TT14 := Lib.hid ht; have BN14 := Lib.hid (bnd_of ho ht); have hsz14 := hb.size; (try simp at hsz14); clear hb hg ho ht)
    | (go_at_call 21; (with_reducible refine (HEq.out _ _ _ _ _ _ _ _ _ HG14.out HG4.out OO14.out (out_below (out_below (out_below OC4.out HB12.out) HB13.out) HB14.out) TT14.out (tab_below (tab_below (tab_below TC4.out HB12.out) HB13.out) HB14.out)).mono ?_); rintro e w15_ ⟨rfl, hb15⟩; obtain ⟨hcb15, hfb15, hlb15⟩ := bcell hb15; have hsz15 := hb15.size; (try simp at hsz15); have HB15 := Lib.hid hb15; clear hb15)
    | (go_at_call 23; (with_reducible refine (HHg.out _ _ _ _ _ HG6.out (out_below (out_below (out_below (out_below OC6.out HB12.out) HB13.out) HB14.out) HB15.out) (mkdS_below (mkdS_below (mkdS_below (mkdS_below HM11.out HB12.out) HB13.out) HB14.out) HB15.out)).mono ?_); rintro e w16_ ⟨rfl, hb16⟩; obtain ⟨hcb16, hfb16, hlb16⟩ := bcell hb16; have hsz16 := hb16.size; (try simp at hsz16); have HB16 := Lib.hid hb16; clear hb16))
  go_ret
  have t12 := low_tr' HQ11.out HB12.out HQ11.out.size
  have t13 := low_tr' t12 HB13.out t12.size
  have t14 := low_tr' t13 HB14.out t13.size
  have t15 := low_tr' t14 HB15.out t14.size
  exact ⟨rfl, low_tr' t15 HB16.out t15.size⟩
theorem FnExactIncidenceTable_walk (p : Int) (b1 : Option Addr) (n1 c1 : Nat) (b2 : Option Addr) (n2 c2 : Nat) (l1 l2 : List Pt) (w : World) (hn1 : n1 ≤ 9223372036854775807) (hn2 : n2 ≤ 9223372036854775807) (h1 : ListP w b1 n1 l1) (h2 : ListP w b2 n2 l2) :
    Calls Try.prog 5 #[.int .i64 p, figV b1 n1 c1 b2 n2 c2] w (Ret w (.bool true)) := by
  by_cases hk : n1 + n2 ≤ 1000000
  · exact FnExactIncidenceTable_fit p b1 n1 c1 b2 n2 c2 l1 l2 w hk h1 h2
  · exact FnExactIncidenceTable_big p b1 n1 c1 b2 n2 c2 w hn1 hn2 hk
end Go.Proofs.Ytidbikjdigemnaa
