/- Contracts: slices.DeleteFunc over points. -/
import Derived.Test.YthkbhaaodegocaaF1
namespace Go.Proofs.Ythkbhaaodegocaa
open Go.RowKit
set_option linter.unusedVariables false
set_option linter.unusedSimpArgs false
theorem RoomP.alloc {W : World} {g cap : Nat} {T : TypeId} (h : RoomP W g cap T) (o : Obj) : RoomP (W.alloc o) g cap T := by
  have hl := h.lt
  obtain ⟨cur, h1, hs⟩ := h
  exact ⟨cur, by rw [heap_alloc_old]; exact h1; exact hl, hs⟩
/-- An owned list of points, again. -/
def OwnPost (b : Nat) (w : World) (l : List Pt) (e : Ending) (w' : World) : Prop :=
  ∃ v, e = .returned v ∧ w'.ownsRow b 23 3 v l.length (ptCs l) ∧ Below b w w'
set_option maxHeartbeats 2000000 in
theorem deleteFunc_any (c : Value) (f : Pt → Bool) (b g cap n : Nat) (l : List Pt) (w : World) (hl : l.length = n) (hn : n ≤ 1000000) (hbg : b ≤ g) (hbw : b ≤ w.heap.size)
    (hr : RoomP w g cap 23) (hnc : n ≤ cap) (hcm : cap ≤ maxLen) (hc : PtsAt w g 0 n l)
    (hF : ∀ (W : World) (x y z : Int), Below b w W → (x, y, z) ∈ l → Calls Try.prog 148 #[ptV x y z, c] W (Ret W (.bool (f (x, y, z))))) :
    Calls Try.prog 147 #[.slice (some ⟨g, 0, none⟩) n cap, .func (.func 148) #[] #[c]] w (OwnPost b w (l.filter (fun a => !f a))) := by
  have HI := Lib.hid (indexFunc_any c f g cap n l w hl hn hc (fun W x y z hW => hF W x y z (low_tr' (Below.refl b w) hW hbw)))
  rcases idxZ_cases f l with ⟨e, h0⟩ | ⟨k, hk, e, h1, h0⟩
  · rw [e] at HI
    have hfl : l.filter (fun a => !f a) = l := List.filter_eq_self.2 (fun a ha => by rw [h0 a ha]; rfl)
    have HE := Lib.hid hfl
    have HO := Lib.hid (own_of_pts hbg hr hcm hnc hl hc)
    have HL := Lib.hid hl
    clear hr hc hF h0 hfl hl e
    go_enter Try.func147, Try.ntmps147
    go_wp2_with (go_at_call 174; (with_reducible refine (HI.out).mono ?_); rintro e w1_ ⟨rfl, hb1⟩; obtain ⟨hcb1, hfb1, hlb1⟩ := bcell hb1; have hsz1 := hb1.size; (try simp at hsz1); have HB1 := Lib.hid hb1; clear hb1)
    go_ret
    refine ⟨_, rfl, ?_, low_tr' (Below.refl b w) HB1.out hbw⟩
    rw [HE.out, HL.out]; exact own_below HO.out HB1.out
  · rw [e] at HI
    have HM0 := Lib.hid (Moved.start (f := fun a => !f a) hk (fun a ha => by rw [h0 a ha]; rfl) (by rw [h1]; rfl))
    have hk' : k < n := by omega
    have HR0 := Lib.hid hr
    have HC0 := Lib.hid hc
    have HF := Lib.hid hF
    have HL := Lib.hid hl
    have hgl := hr.lt
    clear hr hc hF h0 hl e h1
    go_enter Try.func147, Try.ntmps147
    go_wp2_with (go_at_call 174; (with_reducible refine (HI.out).mono ?_); rintro e w1_ ⟨rfl, hb1⟩; obtain ⟨hcb1, hfb1, hlb1⟩ := bcell hb1; have hsz1 := hb1.size; (try simp at hsz1); have HB1 := Lib.hid hb1; clear hb1)
    go_loopw [5, 6] (fun i j wr => ∃ (ii jj : Nat) (L : List Pt), i = .int .i64 ii ∧ j = .int .i64 jj ∧ jj ≤ n ∧ Hid (Moved (fun a => !f a) l ii jj L) ∧ Hid (RoomP wr g cap 23) ∧ Hid (PtsAt wr g 0 n L) ∧ Hid (Below b w wr)) (fun _ j wr => n - (intOf j).toNat)
    case atStart => exact ⟨k, k + 1, l, rfl, by go_num, by omega, HM0, Lib.hid (HR0.out.below HB1.out), Lib.hid (HC0.out.below HB1.out), Lib.hid (low_tr' (Below.refl b w) HB1.out hbw)⟩
    case round =>
      obtain ⟨ii, jj, L, rfl, rfl, hjn, HM, HR, HC, HB⟩ := hrel
      have hlt' := HM.out.lt
      by_cases hlt : jj < n
      · have hjl : jj < l.length := by have := HL.out; omega
        have hbwr : b ≤ wr.heap.size := Nat.le_trans hbw HB.out.size
        obtain ⟨c0, c1, c2⟩ := HC.out jj hlt
        rw [HM.out.at hjl] at c0 c1 c2
        have HK := Lib.hid (HM.out.keep hjl)
        have HS := Lib.hid (HM.out.skip hjl)
        have hmem : l.getD jj (0, 0, 0) ∈ l := by simp [List.getD, hjl]
        generalize l.getD jj (0,0,0) = a at *
        obtain ⟨x, y, z⟩ := a
        simp only [Nat.zero_add] at c0 c1 c2
        have HQ := Lib.hid (fun (W : World) hW => HF.out W x y z hW hmem)
        have hgr := HR.out.lt
        have hii : ii < n := by omega
        clear hmem
        cases hv : f (x, y, z) with
        | true =>
          have HS2 := Lib.hid (HS.out (by rw [hv]; rfl))
          rw [hv] at HQ
          clear HK HS hv
          go_wp2_with (go_at_call 148; (with_reducible refine (HQ.out _ (below_al HB.out hbwr _)).mono ?_); rintro e w2_ ⟨rfl, hb2⟩; obtain ⟨hcb2, hfb2, hlb2⟩ := bcell hb2; have hsz2 := hb2.size; (try simp at hsz2); have HB2 := Lib.hid hb2; clear hb2; (try (have hl02 : w.heap.size < w2_.heap.size := by omega)))
          go_roundw
          case rel => refine ⟨_, _, _, _, _, _, _, _, _, _, _, _, _, _, _, _, _, _, _, _, _, _, _, ⟨ii, jj + 1, L, rfl, by go_num, by omega, HS2, Lib.hid ((HR.out.alloc _).below HB2.out), Lib.hid ((HC.out.below (bal (Below.refl _ _) _)).below HB2.out), Lib.hid (low_tr' (below_al HB.out hbwr _) HB2.out (by simp; omega))⟩, rfl⟩
          case measure => simp [intOf]; omega
        | false =>
          have HK2 := Lib.hid (HK.out (by rw [hv]; rfl))
          rw [hv] at HQ
          clear HK HS hv
          obtain ⟨u0, s0⟩ := Option.isSome_iff_exists.1 (HR.out.some (ii * 3) (by omega))
          have r0 := HR.out.frozen (ii * 3)
          obtain ⟨u1, s1⟩ := Option.isSome_iff_exists.1 (HR.out.some (ii * 3 + 1) (by omega))
          have r1 := HR.out.frozen (ii * 3 + 1)
          obtain ⟨u2, s2⟩ := Option.isSome_iff_exists.1 (HR.out.some (ii * 3 + 2) (by omega))
          have r2 := HR.out.frozen (ii * 3 + 2)
          go_wp2_with (go_at_call 148; (with_reducible refine (HQ.out _ (below_al HB.out hbwr _)).mono ?_); rintro e w2_ ⟨rfl, hb2⟩; obtain ⟨hcb2, hfb2, hlb2⟩ := bcell hb2; have hsz2 := hb2.size; (try simp at hsz2); have HB2 := Lib.hid hb2; clear hb2; (try (have hl02 : w.heap.size < w2_.heap.size := by omega)))
          have HR2 := (HR.out.alloc (.cells #[.int .i64 x, .int .i64 y, .int .i64 z] 23)).below HB2.out
          have HC2 := (HC.out.below (bal (Below.refl _ _) (.cells #[.int .i64 x, .int .i64 y, .int .i64 z] 23))).below HB2.out
          have HBB := low_tr' (below_al HB.out hbwr (.cells #[.int .i64 x, .int .i64 y, .int .i64 z] 23)) HB2.out (by simp; omega)
          have HLL := HM.out.len.trans HL.out
          go_roundw
          case rel => refine ⟨_, _, _, _, _, _, _, _, _, _, _, _, _, _, _, _, _, _, _, _, _, _, _, ⟨ii + 1, jj + 1, L.set ii (x, y, z), by go_num, by go_num, by omega, HK2, Lib.hid (((HR2.set _ _).set _ _).set _ _), Lib.hid (pts_set HR2 hnc HC2 HLL ii hii x y z), Lib.hid (((HBB.setCell hbg _).setCell hbg _).setCell hbg _)⟩, rfl⟩
          case measure => simp [intOf]; omega
      · have hjn' : jj = n := by omega
        subst hjn'
        have hcl : ∀ ty, (Builtin.clear_ #[52] ty #[.slice (some ⟨g, ii * 3, none⟩) (jj - ii) (cap - ii)]).run Try.prog wr = .ok (.tuple #[]) (wr.setCells g (ii * 3) (List.replicate ((jj - ii) * 3) (.int .i64 0))) :=
          fun ty => run_clear_pts wr _ _ ty Try.underlying52 Try.zeroValue23 g (ii * 3) _ _ (by omega) (fun j hj => HR.out.some _ (by omega)) (fun j hj => HR.out.frozen _)
        have hii : ii < jj := hlt'
        have hjc : jj ≤ cap := hnc
        go_wp2
        go_ret
        have hE := HM.out
        have hcnt := (show Moved (fun a => !f a) l ii l.length L by rw [HL.out]; exact HM.out)
        refine ⟨_, rfl, ?_, below_setCells g hbg _ _ _ HB.out⟩
        rw [← hcnt.cnt, ← hcnt.done]
        exact own_of_pts hbg (HR.out.sets _ _) hcm (by omega) (by rw [List.length_take]; have := hE.len; have := HL.out; omega) (pts_ahead HC.out (by omega) (hE.len.trans HL.out) _ (Nat.le_refl _))
end Go.Proofs.Ythkbhaaodegocaa
