/- Texts of the claim, in build order: F1, F2, H0, E1, H1, G1, G2. No condition. -/
import Derived.Laws.IdiomCopy
import Derived.Laws.MakeOwn
import Derived.Test.YthkbhaaodegocaaZPappusLine3
/- Lists of points that are written to in place. -/
namespace Go.Proofs.Ythkbhaaodegocaa
open Go.RowKit
set_option linter.unusedVariables false
set_option linter.unusedSimpArgs false
/-- A block of room for points. -/
def RoomP (W : World) (g cap : Nat) (T : TypeId) : Prop := ∃ cur, W.heap[g]? = some (.cells cur T (0, 0)) ∧ cur.size = cap * 3
theorem RoomP.set {W : World} {g cap : Nat} {T : TypeId} (h : RoomP W g cap T) (j : Nat) (v : Value) : RoomP (W.setCell ⟨g, j, none⟩ v) g cap T := by
  obtain ⟨cur, hb, hs⟩ := h
  exact ⟨cur.setIfInBounds j v, by simp [World.setCell, Array.getElem?_modify, hb], by simpa using hs⟩
theorem RoomP.sets {g cap : Nat} {T : TypeId} : ∀ (vs : List Value) (o : Nat) {W : World} (h : RoomP W g cap T), RoomP (W.setCells g o vs) g cap T
  | [], _, _, h => h
  | v :: r, o, _, h => RoomP.sets r (o + 1) (h.set o v)
theorem RoomP.frozen {W : World} {g cap : Nat} {T : TypeId} (h : RoomP W g cap T) (j : Nat) : W.frozen? ⟨g, j, none⟩ = false := by
  obtain ⟨cur, hb, hs⟩ := h
  exact frozen_of_row W g j _ _ hb
theorem RoomP.some {W : World} {g cap : Nat} {T : TypeId} (h : RoomP W g cap T) (j : Nat) (hj : j < cap * 3) : (W.cell? ⟨g, j, none⟩).isSome = true := by
  obtain ⟨cur, hb, hs⟩ := h
  rw [cell_of_row W g j _ _ _ hb]
  simp [hs, hj]
theorem RoomP.below {W W' : World} {g cap : Nat} {T : TypeId} (h : RoomP W g cap T) (hb : Below W.heap.size W W') : RoomP W' g cap T := by
  obtain ⟨cur, h1, hs⟩ := h
  exact ⟨cur, by rw [hb.block _ (Array.getElem?_eq_some_iff.1 h1).1]; exact h1, hs⟩
theorem RoomP.lt {W : World} {g cap : Nat} {T : TypeId} (h : RoomP W g cap T) : g < W.heap.size := by
  obtain ⟨cur, h1, hs⟩ := h
  exact (Array.getElem?_eq_some_iff.1 h1).1
theorem roomP_own {W : World} {base : Nat} {T : TypeId} {g cap n : Nat} {xs : List Value} {b : Option Addr} (hb : b = some ⟨g, 0, none⟩) (h : W.ownsRow base T 3 (.slice b n cap) n xs) : RoomP W g cap T ∧ n ≤ cap ∧ cap ≤ maxLen := by
  subst hb
  rcases h.2 with ⟨h0, _⟩ | ⟨g', cap', cur, h1, _, hg, hle, hm, hsz, _⟩
  · cases h0
  · cases h1; exact ⟨⟨cur, hg, hsz⟩, hle, hm⟩
/-- Three stores set a point. -/
theorem pts_set {W : World} {g cap n : Nat} {T : TypeId} {L : List Pt} (hr : RoomP W g cap T) (hn : n ≤ cap) (h : PtsAt W g 0 n L) (hl : L.length = n) (i : Nat) (hi : i < n) (x y z : Int) :
    PtsAt (((W.setCell ⟨g, i * 3, none⟩ (.int .i64 x)).setCell ⟨g, i * 3 + 1, none⟩ (.int .i64 y)).setCell ⟨g, i * 3 + 2, none⟩ (.int .i64 z)) g 0 n (L.set i (x, y, z)) := by
  have ne : ∀ a b : Nat, a ≠ b → (⟨g, a, none⟩ : Addr) ≠ ⟨g, b, none⟩ := fun a b h e => h (by cases e; rfl)
  have s0 := Option.isSome_iff_exists.1 (hr.some (i * 3) (by omega))
  have s1 := Option.isSome_iff_exists.1 (hr.some (i * 3 + 1) (by omega))
  have s2 := Option.isSome_iff_exists.1 (hr.some (i * 3 + 2) (by omega))
  obtain ⟨u0, s0⟩ := s0
  obtain ⟨u1, s1⟩ := s1
  obtain ⟨u2, s2⟩ := s2
  intro j hj
  obtain ⟨c0, c1, c2⟩ := h j hj
  simp only [Nat.zero_add] at c0 c1 c2 ⊢
  by_cases e : j = i
  · subst e
    have hd : (L.set j (x, y, z)).getD j (0, 0, 0) = (x, y, z) := by simp [List.getD, hl, hj]
    rw [hd]
    refine ⟨?_, ?_, ?_⟩
    · rw [World.cell?_setCell_other _ _ _ _ (ne _ _ (by omega)), World.cell?_setCell_other _ _ _ _ (ne _ _ (by omega)), World.cell?_setCell_same _ _ _ s0]
    · rw [World.cell?_setCell_other _ _ _ _ (ne _ _ (by omega)), World.cell?_setCell_same (u := u1) _ _ _ (by rw [World.cell?_setCell_other _ _ _ _ (ne _ _ (by omega))]; exact s1)]
    · rw [World.cell?_setCell_same (u := u2) _ _ _ (by rw [World.cell?_setCell_other _ _ _ _ (ne _ _ (by omega)), World.cell?_setCell_other _ _ _ _ (ne _ _ (by omega))]; exact s2)]
  · have hd : (L.set i (x, y, z)).getD j (0, 0, 0) = L.getD j (0, 0, 0) := by simp [List.getD, List.getElem?_set_ne (Ne.symm e)]
    rw [hd]
    refine ⟨?_, ?_, ?_⟩
    · rw [World.cell?_setCell_other _ _ _ _ (ne _ _ (by omega)), World.cell?_setCell_other _ _ _ _ (ne _ _ (by omega)), World.cell?_setCell_other _ _ _ _ (ne _ _ (by omega))]; exact c0
    · rw [World.cell?_setCell_other _ _ _ _ (ne _ _ (by omega)), World.cell?_setCell_other _ _ _ _ (ne _ _ (by omega)), World.cell?_setCell_other _ _ _ _ (ne _ _ (by omega))]; exact c1
    · rw [World.cell?_setCell_other _ _ _ _ (ne _ _ (by omega)), World.cell?_setCell_other _ _ _ _ (ne _ _ (by omega)), World.cell?_setCell_other _ _ _ _ (ne _ _ (by omega))]; exact c2
/-- Points at hand and room: an owned list. -/
theorem own_of_pts {W : World} {base g cap n : Nat} {T : TypeId} {L : List Pt} (hb : base ≤ g) (hr : RoomP W g cap T) (hm : cap ≤ maxLen) (hn : n ≤ cap) (hl : L.length = n) (h : PtsAt W g 0 n L) :
    W.ownsRow base T 3 (.slice (some ⟨g, 0, none⟩) n cap) n (ptCs L) := by
  obtain ⟨cur, hg, hsz⟩ := hr
  refine ⟨by rw [ptCs_length, hl], .inr ⟨g, cap, cur, rfl, hb, hg, hn, hm, hsz, ?_⟩⟩
  apply List.ext_getElem?
  intro j
  by_cases hj : j < n * 3
  · rw [List.getElem?_take_of_lt hj]
    have hq : j / 3 < n := by omega
    obtain ⟨c0, c1, c2⟩ := h (j / 3) hq
    obtain ⟨d0, d1, d2⟩ := ptCs_at L (j / 3) (by omega)
    rw [cell_of_row W g _ _ _ _ hg, Nat.zero_add] at c0 c1 c2
    have hc : ∀ k : Nat, cur.toList[k]? = cur[k]? := by intro k; simp
    rw [hc]
    have : j = j / 3 * 3 ∨ j = j / 3 * 3 + 1 ∨ j = j / 3 * 3 + 2 := by omega
    rcases this with e | e | e <;> rw [e]
    · rw [c0, d0]
    · rw [c1, d1]
    · rw [c2, d2]
  · rw [List.getElem?_eq_none (by rw [List.length_take]; omega), List.getElem?_eq_none (by rw [ptCs_length]; omega)]
/-- Points ahead of what is set. -/
theorem pts_ahead {W : World} {g n m o : Nat} {L : List Pt} (h : PtsAt W g 0 n L) (hm : m ≤ n) (hl : L.length = n) (vs : List Value) (ho : m * 3 ≤ o) : PtsAt (W.setCells g o vs) g 0 m (L.take m) := by
  intro j hj
  obtain ⟨c0, c1, c2⟩ := h j (by omega)
  have hd : (L.take m).getD j (0, 0, 0) = L.getD j (0, 0, 0) := by simp [List.getD, List.getElem?_take_of_lt hj]
  rw [hd]
  simp only [Nat.zero_add] at c0 c1 c2 ⊢
  refine ⟨?_, ?_, ?_⟩
  · rw [World.cell?_setCells_out _ _ _ _ _ (fun _ _ => .inl (by show j * 3 < o; omega))]; exact c0
  · rw [World.cell?_setCells_out _ _ _ _ _ (fun _ _ => .inl (by show j * 3 + 1 < o; omega))]; exact c1
  · rw [World.cell?_setCells_out _ _ _ _ _ (fun _ _ => .inl (by show j * 3 + 2 < o; omega))]; exact c2
/-- 'clear' of a list of points: its cells are set to 0. -/
theorem run_clear_pts {P : Program} (w : World) (t e ty : TypeId) (ht : P.underlying t = some (.slice e)) (hv : ∀ w, (zeroValue e).run P w = .ok (.agg #[.int .i64 0, .int .i64 0, .int .i64 0]) w) (b o n c : Nat) (hn : 0 < n)
    (hc : ∀ j, j < n * 3 → (w.cell? ⟨b, o + j, none⟩).isSome = true) (hf : ∀ j, j < n * 3 → w.frozen? ⟨b, o + j, none⟩ = false) :
    (Builtin.clear_ #[t] ty #[.slice (some ⟨b, o, none⟩) n c]).run P w = .ok (.tuple #[]) (w.setCells b o (List.replicate (n * 3) (.int .i64 0))) := by
  have hzc : (Builtin.zeroCells (Value.agg #[.int .i64 0, .int .i64 0, .int .i64 0]).cells n).toList = List.replicate (n * 3) (.int .i64 0) := by
    have hcl : (Value.agg #[.int .i64 0, .int .i64 0, .int .i64 0]).cells = #[.int .i64 0, .int .i64 0, .int .i64 0] := by rfl
    rw [hcl]
    simp only [Builtin.zeroCells]
    apply List.ext_getElem
    · simp
    · intro i h1 h2
      have : i % 3 = 0 ∨ i % 3 = 1 ∨ i % 3 = 2 := by omega
      rcases this with e | e | e <;> simp [e]
  have hst := run_storeCells_cells (P := P) b o (List.replicate (n * 3) (.int .i64 0)) 0 w (by simpa using hc) (by simpa using hf) (by intro v hv'; rw [List.eq_of_mem_replicate hv']; rfl)
  simp only [Nat.add_zero] at hst
  obtain ⟨m, rfl⟩ : ∃ m, n = m + 1 := ⟨n - 1, by omega⟩
  simp [Builtin.clear_, run_underlying ht, hv, hzc, hst]
/-- What has been moved down: the first i are those kept of the first j, from j on all is as it was. -/
structure Moved (f : Pt → Bool) (all : List Pt) (i j : Nat) (L : List Pt) : Prop where
  len : L.length = all.length
  lt : i < j
  head : L.take i = (all.take j).filter f
  rest : L.drop j = all.drop j
theorem Moved.at {f : Pt → Bool} {all L : List Pt} {i j : Nat} (h : Moved f all i j L) (hj : j < all.length) : L.getD j (0, 0, 0) = all.getD j (0, 0, 0) := by
  have h0 : (L.drop j)[0]? = (all.drop j)[0]? := by rw [h.rest]
  simp at h0
  simp [List.getD, h0]
theorem Moved.keep {f : Pt → Bool} {all L : List Pt} {i j : Nat} (h : Moved f all i j L) (hj : j < all.length) (hf : f (all.getD j (0, 0, 0)) = true) : Moved f all (i + 1) (j + 1) (L.set i (all.getD j (0, 0, 0))) where
  len := by rw [List.length_set]; exact h.len
  lt := by have := h.lt; omega
  head := by
    have hi : i < L.length := by have := h.lt; have := h.len; omega
    rw [take_snoc' _ (0, 0, 0) i (by simpa using hi), List.take_set_of_le (Nat.le_refl _), h.head, filter_snoc f all (0, 0, 0) j hj, if_pos hf]
    congr 1
    simp [List.getD, hi]
  rest := by
    rw [List.drop_set, if_pos (by have := h.lt; omega)]
    have := congrArg (List.drop 1) h.rest
    simpa [List.drop_drop] using this
theorem Moved.skip {f : Pt → Bool} {all L : List Pt} {i j : Nat} (h : Moved f all i j L) (hj : j < all.length) (hf : f (all.getD j (0, 0, 0)) = false) : Moved f all i (j + 1) L where
  len := h.len
  lt := by have := h.lt; omega
  head := by rw [h.head, filter_snoc f all (0, 0, 0) j hj, if_neg (by rw [hf]; decide), List.append_nil]
  rest := by
    have := congrArg (List.drop 1) h.rest
    simpa [List.drop_drop] using this
theorem Moved.start {f : Pt → Bool} {all : List Pt} {i : Nat} (hi : i < all.length) (h0 : ∀ a ∈ all.take i, f a = true) (hf : f (all.getD i (0, 0, 0)) = false) : Moved f all i (i + 1) all where
  len := rfl
  lt := by omega
  head := by rw [filter_snoc f all (0, 0, 0) i hi, if_neg (by rw [hf]; decide), List.append_nil, List.filter_eq_self.2 h0]
  rest := rfl
theorem Moved.done {f : Pt → Bool} {all L : List Pt} {i : Nat} (h : Moved f all i all.length L) : L.take i = all.filter f := by rw [h.head, List.take_length]
theorem Moved.cnt {f : Pt → Bool} {all L : List Pt} {i : Nat} (h : Moved f all i all.length L) : i = (all.filter f).length := by
  rw [← h.done, List.length_take, h.len]; have := h.lt; omega
/-- What IndexFunc tells. -/
theorem idxZ_cases (f : Pt → Bool) (l : List Pt) : (idxZ f l = -1 ∧ ∀ a ∈ l, f a = false) ∨ ∃ k, k < l.length ∧ idxZ f l = (k : Int) ∧ f (l.getD k (0, 0, 0)) = true ∧ ∀ a ∈ l.take k, f a = false := by
  unfold idxZ
  cases h : l.findIdx? f with
  | none => exact .inl ⟨rfl, fun a ha => by simpa using (List.findIdx?_eq_none_iff.1 h) a ha⟩
  | some k =>
    obtain ⟨hk, h1, h2⟩ := List.findIdx?_eq_some_iff_getElem.1 h
    refine .inr ⟨k, hk, rfl, by simpa [List.getD, hk] using h1, fun a ha => ?_⟩
    obtain ⟨j, hj, e⟩ := List.mem_take_iff_getElem.1 ha
    have := h2 j (by omega)
    rw [← e]; simpa using this
end Go.Proofs.Ythkbhaaodegocaa
/- Contracts: slices.DeleteFunc over points. -/
namespace Go.Proofs.Ythkbhaaodegocaa
open Go.RowKit
set_option linter.unusedVariables false
set_option linter.unusedSimpArgs false
theorem RoomP.alloc {W : World} {g cap : Nat} {T : TypeId} (h : RoomP W g cap T) (o : Obj) : RoomP (W.alloc o) g cap T := by
  have hl := h.lt
  obtain ⟨cur, h1, hs⟩ := h
  exact ⟨cur, by rw [heap_alloc_old]; exact h1; exact hl, hs⟩
/-- An owned list of points, again. -/
def OwnPost (b : Nat) (w : World) (l : List Pt) (e : Ending) (w' : World) : Prop :=
  ∃ v, e = .returned v ∧ w'.ownsRow b 23 3 v l.length (ptCs l) ∧ Below b w w'
set_option maxHeartbeats 2000000 in
theorem deleteFunc_any (c : Value) (f : Pt → Bool) (b g cap n : Nat) (l : List Pt) (w : World) (hl : l.length = n) (hn : n ≤ 1000000) (hbg : b ≤ g) (hbw : b ≤ w.heap.size)
    (hr : RoomP w g cap 23) (hnc : n ≤ cap) (hcm : cap ≤ maxLen) (hc : PtsAt w g 0 n l)
    (hF : ∀ (W : World) (x y z : Int), Below b w W → (x, y, z) ∈ l → Calls Try.prog 148 #[ptV x y z, c] W (Ret W (.bool (f (x, y, z))))) :
    Calls Try.prog 147 #[.slice (some ⟨g, 0, none⟩) n cap, .func (.func 148) #[] #[c]] w (OwnPost b w (l.filter (fun a => !f a))) := by
  have HI := Lib.hid (indexFunc_any c f g cap n l w hl hn hc (fun W x y z hW => hF W x y z (low_tr' (Below.refl b w) hW hbw)))
  rcases idxZ_cases f l with ⟨e, h0⟩ | ⟨k, hk, e, h1, h0⟩
  · rw [e] at HI
    have hfl : l.filter (fun a => !f a) = l := List.filter_eq_self.2 (fun a ha => by rw [h0 a ha]; rfl)
    have HE := Lib.hid hfl
    have HO := Lib.hid (own_of_pts hbg hr hcm hnc hl hc)
    have HL := Lib.hid hl
    clear hr hc hF h0 hfl hl e
    go_enter Try.func147, Try.ntmps147
    go_wp2_with (go_at_call 174; (with_reducible refine (HI.out).mono ?_); rintro e w1_ ⟨rfl, hb1⟩; obtain ⟨hcb1, hfb1, hlb1⟩ := bcell hb1; have hsz1 := hb1.size; (try simp at hsz1); have HB1 := Lib.hid hb1; clear hb1)
    go_ret
    refine ⟨_, rfl, ?_, low_tr' (Below.refl b w) HB1.out hbw⟩
    rw [HE.out, HL.out]; exact own_below HO.out HB1.out
  · rw [e] at HI
    have HM0 := Lib.hid (Moved.start (f := fun a => !f a) hk (fun a ha => by rw [h0 a ha]; rfl) (by rw [h1]; rfl))
    have hk' : k < n := by omega
    have HR0 := Lib.hid hr
    have HC0 := Lib.hid hc
    have HF := Lib.hid hF
    have HL := Lib.hid hl
    have hgl := hr.lt
    clear hr hc hF h0 hl e h1
    go_enter Try.func147, Try.ntmps147
    go_wp2_with (go_at_call 174; (with_reducible refine (HI.out).mono ?_); rintro e w1_ ⟨rfl, hb1⟩; obtain ⟨hcb1, hfb1, hlb1⟩ := bcell hb1; have hsz1 := hb1.size; (try simp at hsz1); have HB1 := Lib.hid hb1; clear hb1)
    go_loopw [5, 6] (fun i j wr => ∃ (ii jj : Nat) (L : List Pt), i = .int .i64 ii ∧ j = .int .i64 jj ∧ jj ≤ n ∧ Hid (Moved (fun a => !f a) l ii jj L) ∧ Hid (RoomP wr g cap 23) ∧ Hid (PtsAt wr g 0 n L) ∧ Hid (Below b w wr)) (fun _ j wr => n - (intOf j).toNat)
    case atStart => exact ⟨k, k + 1, l, rfl, by go_num, by omega, HM0, Lib.hid (HR0.out.below HB1.out), Lib.hid (HC0.out.below HB1.out), Lib.hid (low_tr' (Below.refl b w) HB1.out hbw)⟩
    case round =>
      obtain ⟨ii, jj, L, rfl, rfl, hjn, HM, HR, HC, HB⟩ := hrel
      have hlt' := HM.out.lt
      by_cases hlt : jj < n
      · have hjl : jj < l.length := by have := HL.out; omega
        have hbwr : b ≤ wr.heap.size := Nat.le_trans hbw HB.out.size
        obtain ⟨c0, c1, c2⟩ := HC.out jj hlt
        rw [HM.out.at hjl] at c0 c1 c2
        have HK := Lib.hid (HM.out.keep hjl)
        have HS := Lib.hid (HM.out.skip hjl)
        have hmem : l.getD jj (0, 0, 0) ∈ l := by simp [List.getD, hjl]
        generalize l.getD jj (0,0,0) = a at *
        obtain ⟨x, y, z⟩ := a
        simp only [Nat.zero_add] at c0 c1 c2
        have HQ := Lib.hid (fun (W : World) hW => HF.out W x y z hW hmem)
        have hgr := HR.out.lt
        have hii : ii < n := by omega
        clear hmem
        cases hv : f (x, y, z) with
        | true =>
          have HS2 := Lib.hid (HS.out (by rw [hv]; rfl))
          rw [hv] at HQ
          clear HK HS hv
          go_wp2_with (go_at_call 148; (with_reducible refine (HQ.out _ (below_al HB.out hbwr _)).mono ?_); rintro e w2_ ⟨rfl, hb2⟩; obtain ⟨hcb2, hfb2, hlb2⟩ := bcell hb2; have hsz2 := hb2.size; (try simp at hsz2); have HB2 := Lib.hid hb2; clear hb2; (try (have hl02 : w.heap.size < w2_.heap.size := by omega)))
          go_roundw
          case rel => refine ⟨_, _, _, _, _, _, _, _, _, _, _, _, _, _, _, _, _, _, _, _, _, _, _, ⟨ii, jj + 1, L, rfl, by go_num, by omega, HS2, Lib.hid ((HR.out.alloc _).below HB2.out), Lib.hid ((HC.out.below (bal (Below.refl _ _) _)).below HB2.out), Lib.hid (low_tr' (below_al HB.out hbwr _) HB2.out (by simp; omega))⟩, rfl⟩
          case measure => simp [intOf]; omega
        | false =>
          have HK2 := Lib.hid (HK.out (by rw [hv]; rfl))
          rw [hv] at HQ
          clear HK HS hv
          obtain ⟨u0, s0⟩ := Option.isSome_iff_exists.1 (HR.out.some (ii * 3) (by omega))
          have r0 := HR.out.frozen (ii * 3)
          obtain ⟨u1, s1⟩ := Option.isSome_iff_exists.1 (HR.out.some (ii * 3 + 1) (by omega))
          have r1 := HR.out.frozen (ii * 3 + 1)
          obtain ⟨u2, s2⟩ := Option.isSome_iff_exists.1 (HR.out.some (ii * 3 + 2) (by omega))
          have r2 := HR.out.frozen (ii * 3 + 2)
          go_wp2_with (go_at_call 148; (with_reducible refine (HQ.out _ (below_al HB.out hbwr _)).mono ?_); rintro e w2_ ⟨rfl, hb2⟩; obtain ⟨hcb2, hfb2, hlb2⟩ := bcell hb2; have hsz2 := hb2.size; (try simp at hsz2); have HB2 := Lib.hid hb2; clear hb2; (try (have hl02 : w.heap.size < w2_.heap.size := by omega)))
          have HR2 := (HR.out.alloc (.cells #[.int .i64 x, .int .i64 y, .int .i64 z] 23)).below HB2.out
          have HC2 := (HC.out.below (bal (Below.refl _ _) (.cells #[.int .i64 x, .int .i64 y, .int .i64 z] 23))).below HB2.out
          have HBB := low_tr' (below_al HB.out hbwr (.cells #[.int .i64 x, .int .i64 y, .int .i64 z] 23)) HB2.out (by simp; omega)
          have HLL := HM.out.len.trans HL.out
          go_roundw
          case rel => refine ⟨_, _, _, _, _, _, _, _, _, _, _, _, _, _, _, _, _, _, _, _, _, _, _, ⟨ii + 1, jj + 1, L.set ii (x, y, z), by go_num, by go_num, by omega, HK2, Lib.hid (((HR2.set _ _).set _ _).set _ _), Lib.hid (pts_set HR2 hnc HC2 HLL ii hii x y z), Lib.hid (((HBB.setCell hbg _).setCell hbg _).setCell hbg _)⟩, rfl⟩
          case measure => simp [intOf]; omega
      · have hjn' : jj = n := by omega
        subst hjn'
        have hcl : ∀ ty, (Builtin.clear_ #[52] ty #[.slice (some ⟨g, ii * 3, none⟩) (jj - ii) (cap - ii)]).run Try.prog wr = .ok (.tuple #[]) (wr.setCells g (ii * 3) (List.replicate ((jj - ii) * 3) (.int .i64 0))) :=
          fun ty => run_clear_pts wr _ _ ty Try.underlying52 Try.zeroValue23 g (ii * 3) _ _ (by omega) (fun j hj => HR.out.some _ (by omega)) (fun j hj => HR.out.frozen _)
        have hii : ii < jj := hlt'
        have hjc : jj ≤ cap := hnc
        go_wp2
        go_ret
        have hE := HM.out
        have hcnt := (show Moved (fun a => !f a) l ii l.length L by rw [HL.out]; exact HM.out)
        refine ⟨_, rfl, ?_, below_setCells g hbg _ _ _ HB.out⟩
        rw [← hcnt.cnt, ← hcnt.done]
        exact own_of_pts hbg (HR.out.sets _ _) hcm (by omega) (by rw [List.length_take]; have := hE.len; have := HL.out; omega) (pts_ahead HC.out (by omega) (hE.len.trans HL.out) _ (Nat.le_refl _))
end Go.Proofs.Ythkbhaaodegocaa
/- Plain words: sets of numbers modulo n; difference sets. -/
namespace Go.Proofs.Ythkbhaaodegocaa
set_option linter.unusedVariables false
set_option linter.unusedSimpArgs false
/-- The i-th number is a rest and greater than the one ahead. -/
def okI (n : Int) (l : List Int) (i : Nat) : Bool := decide (0 ≤ l.getD i 0 ∧ l.getD i 0 ≤ n - 1) && (i == 0 || decide (l.getD (i - 1) 0 < l.getD i 0))
def okB (n : Int) (l : List Int) : Bool := (List.range l.length).all (okI n l)
/-- A set of numbers modulo n. -/
def setB (n : Int) (l : List Int) : Bool := decide (2 ≤ n ∧ n ≤ 1000) && (decide (l.length ≤ 60) && okB n l)
theorem okB_all {n : Int} {l : List Int} (h : ∀ i, i < l.length → okI n l i = true) : okB n l = true := List.all_eq_true.2 fun i hi => h i (List.mem_range.1 hi)
theorem okB_bad {n : Int} {l : List Int} {i : Nat} (hi : i < l.length) (h : okI n l i = false) : okB n l = false := by
  cases e : okB n l with
  | false => rfl
  | true => have := List.all_eq_true.1 e i (List.mem_range.2 hi); rw [h] at this; cases this
theorem okB_at {n : Int} {l : List Int} (h : okB n l = true) {i : Nat} (hi : i < l.length) : 0 ≤ l.getD i 0 ∧ l.getD i 0 ≤ n - 1 := by
  have := List.all_eq_true.1 h i (List.mem_range.2 hi)
  unfold okI at this
  simp only [Bool.and_eq_true, decide_eq_true_eq] at this
  exact this.1
theorem setB_yes {n : Int} {l : List Int} (h : setB n l = true) : (2 ≤ n ∧ n ≤ 1000) ∧ l.length ≤ 60 ∧ okB n l = true := by
  unfold setB at h
  simpa using h
/-- One more at a place. -/
def bump (c : List Int) (i : Nat) : List Int := c.set i (c.getD i 0 + 1)
def dif (n : Int) (l : List Int) (i k : Nat) : Nat := ((l.getD i 0 - l.getD k 0) % n).toNat
def rowC (n : Int) (l : List Int) (i : Nat) (c : List Int) (k : Nat) : List Int := (List.range k).foldl (fun c k => bump c (dif n l i k)) c
def cntC (n : Int) (l : List Int) (i : Nat) : List Int := (List.range i).foldl (fun c i => rowC n l i c l.length) (List.replicate n.toNat 0)
theorem rowC_zero (n : Int) (l : List Int) (i : Nat) (c : List Int) : rowC n l i c 0 = c := rfl
theorem rowC_succ (n : Int) (l : List Int) (i : Nat) (c : List Int) (k : Nat) : rowC n l i c (k + 1) = bump (rowC n l i c k) (dif n l i k) := by
  unfold rowC; rw [List.range_succ, List.foldl_append]; rfl
theorem cntC_succ (n : Int) (l : List Int) (i : Nat) : cntC n l (i + 1) = rowC n l i (cntC n l i) l.length := by
  unfold cntC; rw [List.range_succ, List.foldl_append]; rfl
theorem bump_length (c : List Int) (i : Nat) : (bump c i).length = c.length := by simp [bump]
theorem rowC_length (n : Int) (l : List Int) (i : Nat) (c : List Int) (k : Nat) : (rowC n l i c k).length = c.length := by
  induction k with
  | zero => rfl
  | succ k ih => rw [rowC_succ, bump_length, ih]
theorem cntC_length (n : Int) (l : List Int) (i : Nat) : (cntC n l i).length = n.toNat := by
  induction i with
  | zero => simp [cntC]
  | succ i ih => rw [cntC_succ, rowC_length, ih]
def within0 (c : List Int) (B : Int) : Prop := ∀ j, 0 ≤ c.getD j 0 ∧ c.getD j 0 ≤ B
theorem bump_bd {c : List Int} {B : Int} (h : within0 c B) (i : Nat) : within0 (bump c i) (B + 1) := by
  intro j
  have hj := h j
  have hi := h i
  unfold bump
  by_cases e : i = j
  · subst e
    by_cases hl : i < c.length
    · simp [List.getD, hl] at hj ⊢; omega
    · simp [List.getD, Nat.le_of_not_lt hl] at hj ⊢; omega
  · simp only [List.getD, List.getElem?_set_ne e] at hj ⊢
    omega
theorem rowC_bd {n : Int} {l : List Int} {i : Nat} {c : List Int} {B : Int} (h : within0 c B) (k : Nat) : within0 (rowC n l i c k) (B + k) := by
  induction k with
  | zero => simpa [rowC_zero] using h
  | succ k ih => rw [rowC_succ]; have := bump_bd ih (dif n l i k); rw [show B + ((k + 1 : Nat) : Int) = B + k + 1 by omega]; exact this
theorem cntC_bd {n : Int} {l : List Int} (hl : l.length ≤ 60) (i : Nat) : within0 (cntC n l i) (60 * i) := by
  induction i with
  | zero =>
    intro j
    by_cases hj : j < n.toNat
    · simp [cntC, List.getD, hj]
    · have e : (List.replicate n.toNat (0 : Int))[j]? = none := List.getElem?_eq_none (by simp; omega)
      simp [cntC, List.getD, e]
  | succ i ih =>
    rw [cntC_succ]
    intro j
    have := rowC_bd (n := n) (l := l) (i := i) ih l.length j
    omega
/-- Whether each difference but 0 comes up once. -/
def onesB (c : List Int) : Bool := (List.range (c.length - 1)).all (fun d => c.getD (d + 1) 0 == 1)
theorem onesB_all {c : List Int} (h : ∀ d, d < c.length - 1 → (c.getD (d + 1) 0 == 1) = true) : onesB c = true := List.all_eq_true.2 fun d hd => h d (List.mem_range.1 hd)
theorem onesB_bad {c : List Int} {d : Nat} (hd : d < c.length - 1) (h : (c.getD (d + 1) 0 == 1) = false) : onesB c = false := by
  cases e : onesB c with
  | false => rfl
  | true => have := List.all_eq_true.1 e d (List.mem_range.2 hd); rw [h] at this; cases this
/-- What both programs answer. -/
def diffR (n : Int) (l : List Int) : Bool × Int := if setB n l = true then (onesB (cntC n l l.length), 0) else (false, 2)
end Go.Proofs.Ythkbhaaodegocaa
/- Contracts: the laws' own helpers on slices. -/
namespace Go.Proofs.Ythkbhaaodegocaa
open Go.RowKit
set_option linter.unusedVariables false
set_option linter.unusedSimpArgs false
/-- How much room the laws leave behind a list of n. -/
def roomN (n : Nat) : Nat := if n % 6 = 5 then 0 else if n % 3 = 0 then 1 else n
theorem roomBehind_any (n : Nat) (w : World) (hn : n ≤ 1000000) :
    Calls Try.prog 63 #[.int .i64 (n : Int)] w fun e w' => e = .returned (.int .i64 (roomN n : Int)) ∧ w = w' := by
  by_cases h6 : n % 6 = 5
  · have HR : Hid (roomN n = 0) := Lib.hid (by unfold roomN; rw [if_pos h6])
    go_enter Try.func63, Try.ntmps63
    go_wp2
    go_ret
    exact ⟨by first | rfl | (rw [HR.out]; rfl), rfl⟩
  · by_cases h3 : n % 3 = 0
    · have HR : Hid (roomN n = 1) := Lib.hid (by unfold roomN; rw [if_neg h6, if_pos h3])
      go_enter Try.func63, Try.ntmps63
      go_wp2
      go_ret
      exact ⟨by first | rfl | (rw [HR.out]; rfl), rfl⟩
    · have HR : Hid (roomN n = n) := Lib.hid (by unfold roomN; rw [if_neg h6, if_neg h3])
      go_enter Try.func63, Try.ntmps63
      go_wp2
      go_ret
      exact ⟨by first | rfl | (rw [HR.out]; rfl), rfl⟩
theorem szPointS_any (b : Option Addr) (n cap : Nat) (left : Int) (w : World) (hl : left ≤ 1000000 ∧ 0 ≤ left) (hn : n ≤ 9223372036854775807) :
    Calls Try.prog 44 #[.slice b n cap, .int .i64 left] w fun e w' => e = .returned (.int .i64 (if left < n then -1 else left - n)) ∧ w = w' := by
  by_cases h : left < n
  · have HR : Hid ((if left < (n : Int) then (-1 : Int) else left - n) = -1) := Lib.hid (if_pos h)
    go_enter Try.func44, Try.ntmps44
    go_wp2
    go_ret
    exact ⟨by first | rfl | (rw [HR.out]; rfl), rfl⟩
  · have HR : Hid ((if left < (n : Int) then (-1 : Int) else left - n) = left - n) := Lib.hid (if_neg h)
    go_enter Try.func44, Try.ntmps44
    go_wp2
    go_ret
    exact ⟨by first | rfl | (rw [HR.out]; rfl), rfl⟩
end Go.Proofs.Ythkbhaaodegocaa
/- Contracts: the laws' own lists of numbers: made with room behind, compared. -/
namespace Go.Proofs.Ythkbhaaodegocaa
open Go.RowKit
set_option linter.unusedVariables false
set_option linter.unusedSimpArgs false
def IntsAt (w : World) (b o n : Nat) (l : List Int) : Prop := ∀ i, i < n → w.cell? ⟨b, o + i, none⟩ = some (.int .i64 (l.getD i 0))
theorem IntsAt.below {w w1 : World} {b o n : Nat} {l : List Int} (h : IntsAt w b o n l) (hb : Below w.heap.size w w1) : IntsAt w1 b o n l := fun i hi => cell_below hb (h i hi)
/-- A block of room for numbers. -/
def RoomI (W : World) (g cap : Nat) (T : TypeId) : Prop := ∃ cur, W.heap[g]? = some (.cells cur T (0, 0)) ∧ cur.size = cap
theorem RoomI.set {W : World} {g cap : Nat} {T : TypeId} (h : RoomI W g cap T) (j : Nat) (v : Value) : RoomI (W.setCell ⟨g, j, none⟩ v) g cap T := by
  obtain ⟨cur, hb, hs⟩ := h
  exact ⟨cur.setIfInBounds j v, by simp [World.setCell, Array.getElem?_modify, hb], by simpa using hs⟩
theorem RoomI.frozen {W : World} {g cap : Nat} {T : TypeId} (h : RoomI W g cap T) (j : Nat) : W.frozen? ⟨g, j, none⟩ = false := by
  obtain ⟨cur, hb, hs⟩ := h
  exact frozen_of_row W g j _ _ hb
theorem RoomI.some {W : World} {g cap : Nat} {T : TypeId} (h : RoomI W g cap T) (j : Nat) (hj : j < cap) : (W.cell? ⟨g, j, none⟩).isSome = true := by
  obtain ⟨cur, hb, hs⟩ := h
  rw [cell_of_row W g j _ _ _ hb]
  simp [hs, hj]
theorem RoomI.below {W W' : World} {g cap : Nat} {T : TypeId} (h : RoomI W g cap T) (hb : Below W.heap.size W W') : RoomI W' g cap T := by
  obtain ⟨cur, h1, hs⟩ := h
  exact ⟨cur, by rw [hb.block _ (Array.getElem?_eq_some_iff.1 h1).1]; exact h1, hs⟩
theorem RoomI.lt {W : World} {g cap : Nat} {T : TypeId} (h : RoomI W g cap T) : g < W.heap.size := by
  obtain ⟨cur, h1, hs⟩ := h
  exact (Array.getElem?_eq_some_iff.1 h1).1
theorem ints_set {W : World} {g cap n : Nat} {T : TypeId} {L : List Int} (hr : RoomI W g cap T) (hn : n ≤ cap) (h : IntsAt W g 0 n L) (hl : L.length = n) (i : Nat) (hi : i < n) (x : Int) :
    IntsAt (W.setCell ⟨g, i, none⟩ (.int .i64 x)) g 0 n (L.set i x) := by
  obtain ⟨u0, s0⟩ := Option.isSome_iff_exists.1 (hr.some i (by omega))
  intro j hj
  have c0 := h j hj
  simp only [Nat.zero_add] at c0 ⊢
  by_cases e : j = i
  · subst e
    have hd : (L.set j x).getD j 0 = x := by simp [List.getD, hl, hj]
    rw [hd, World.cell?_setCell_same _ _ _ s0]
  · have hd : (L.set i x).getD j 0 = L.getD j 0 := by simp [List.getD, List.getElem?_set_ne (Ne.symm e)]
    rw [hd, World.cell?_setCell_other _ _ _ _ (fun h => e (by cases h; rfl))]; exact c0
theorem ints_other {W : World} {b o n : Nat} {l : List Int} (h : IntsAt W b o n l) {g i : Nat} (hg : b ≠ g) (v : Value) : IntsAt (W.setCell ⟨g, i, none⟩ v) b o n l := fun j hj => by
  rw [World.cell?_setCell_other _ _ _ _ (fun h => hg (by cases h; rfl))]; exact h j hj
theorem madeI {m j : Nat} (h : j < m) : (madeCells #[.int .i64 0] m)[j]? = some (.int .i64 0) := by simp [madeCells, h, Nat.mod_one]
/-- 'make' of m numbers: a new block, all 0. -/
theorem wpList_make_ints {P : Program} (w : World) {ops : Array Oper} {rest : List Oper} {o : Oper} {a : Act} {Q : Exit → Act → World → Prop}
    (hg : o.guard = none) (l c : Operand) (t : TypeId) (hop : o.op = Op.makeSlice t l c)
    (e : TypeId) (i : TypeInfo) (ht : P.underlying t = some (.slice e)) (hi : P.info? e = some i) (hz : i.zero = some (.int .i64 0)) (hs : i.size = 1)
    (kl kc : IntKind) (m : Nat) (C : Int) (hC : C = (m : Int)) (hl : a.eval l = .int kl C) (hc : a.eval c = .int kc C) (hbytes : i.bytes * m ≤ 281474976710656) (h63 : m ≤ 9223372036854775807)
    (hK : ∀ W', Below w.heap.size w W' → RoomI W' w.heap.size m e → IntsAt W' w.heap.size 0 m (List.replicate m 0) → w.heap.size < W'.heap.size → wpList P ops Q rest (a.put o.dst (.slice (some ⟨w.heap.size, 0, none⟩) m m)) W') :
    wpList P ops Q (o :: rest) a w := by
  subst hC
  refine wpList_plain hg fun K hK' => ?_
  have hb' : (i.bytes : Int) * (m : Int) ≤ 281474976710656 := by
    have h : ((i.bytes * m : Nat) : Int) ≤ 281474976710656 := by omega
    rwa [Int.natCast_mul] at h
  have hr := run_make (P := P) w t e i _ ht hi hz kl kc m m (by omega) (Int.le_refl _) hb' (by omega)
  have hcl : (Value.int .i64 0).cells = #[.int .i64 0] := by rfl
  rw [hcl, hs, Int.toNat_natCast, Nat.mul_one] at hr
  unfold Oper.wp
  simp [execOp, hop, hl, hc, hr, Result.andThen]
  refine hK' _ _ (hK _ ((Below.refl _ _).alloc (Nat.le_refl _) _) ⟨_, heap_alloc_new _ _, by simp [madeCells]⟩ (fun j hj => ?_) (by simp))
  have hd : (List.replicate m (0 : Int)).getD j 0 = 0 := by simp [List.getD, hj]
  rw [hd, Nat.zero_add, World.cell?_alloc_at _ _ _ _ rfl]
  exact madeI hj
theorem infoI : (Try.prog.info? 2).map (fun i => (i.zero, i.size, i.bytes)) = some (some (.int .i64 0), 1, 8) := by kernel_rfl
def fillI : Int := -7000000000000000101
def withRoomI (l : List Int) : List Int := l ++ List.replicate (roomN l.length) fillI
structure LaidI (w : World) (l : List Int) (e : Ending) (w' : World) : Prop where
  out : ∃ g, e = .returned (.slice (some ⟨g, 0, none⟩) l.length (l.length + roomN l.length)) ∧ w.heap.size ≤ g ∧ RoomI w' g (l.length + roomN l.length) 2 ∧ IntsAt w' g 0 (l.length + roomN l.length) (withRoomI l) ∧ Below w.heap.size w w'
theorem roomN_le (n : Nat) : roomN n ≤ n + 1 := by
  unfold roomN
  split
  · omega
  · split <;> omega
theorem take_setI {L l : List Int} {k : Nat} {a : Int} (h : L.take k = l.take k) (hk : k < L.length) (hk' : k < l.length) (ha : l.getD k 0 = a) : (L.set k a).take (k + 1) = l.take (k + 1) := by
  rw [take_snoc' _ 0 k (by simpa using hk), take_snoc' l 0 k hk', List.take_set_of_le (Nat.le_refl _), h, ha]
  congr 1
  simp [List.getD, hk]
theorem withRoomI_length (l : List Int) : (withRoomI l).length = l.length + roomN l.length := by simp [withRoomI]
theorem withRoomI_take (l : List Int) : (withRoomI l).take l.length = l := by simp [withRoomI]
theorem withRoomI_fill (l : List Int) (k : Nat) (h : l.length ≤ k) (h2 : k < l.length + roomN l.length) : (withRoomI l).getD k 0 = fillI := by
  have hj : k - l.length < roomN l.length := by omega
  simp [withRoomI, List.getD, List.getElem?_append_right h, hj]
theorem withRoomI_at (l : List Int) (k : Nat) (h : k < l.length) : (withRoomI l).getD k 0 = l.getD k 0 := by
  simp [withRoomI, List.getD, List.getElem?_append_left h]
set_option maxHeartbeats 2000000 in
theorem toInt64S_any (b : Option Addr) (n cap : Nat) (bare : Bool) (l : List Int) (w : World) (hl : l.length = n) (hn : n ≤ 1000000) (hb : bare = false ∨ 0 < n)
    (hc : 0 < n → ∃ g off, b = some ⟨g, off, none⟩ ∧ IntsAt w g off n l) :
    Calls Try.prog 19 #[.slice b n cap, .bool bare] w (LaidI w l) := by
  obtain ⟨i0, hi, hz0, hz1, hz2⟩ := info_parts infoI
  have HR := Lib.hid (fun (W : World) => roomBehind_any n W hn)
  have HL := Lib.hid hl
  have HC := Lib.hid hc
  have HI0 := Lib.hid hi; have HZ0 := Lib.hid hz0; have HZ1 := Lib.hid hz1; have HZ2 := Lib.hid hz2
  have hr0 := roomN_le n
  have HT := Lib.hid (withRoomI_length l)
  have HF := Lib.hid (withRoomI_fill l)
  have HA := Lib.hid (withRoomI_at l)
  rw [hl] at HT HF HA
  have HG : Hid (∀ L : List Int, L.length = n + roomN n → L.take (n + roomN n) = (withRoomI l).take (n + roomN n) → L = withRoomI l) := Lib.hid (fun L h1 h2 => by
    rw [List.take_of_length_le (by omega), List.take_of_length_le (by rw [HT.out]; omega)] at h2; exact h2)
  clear hi hz0 hz1 hz2 hl hc
  have fin : ∀ e w', (∃ g, e = .returned (.slice (some ⟨g, 0, none⟩) n (n + roomN n)) ∧ w.heap.size ≤ g ∧ RoomI w' g (n + roomN n) 2 ∧ IntsAt w' g 0 (n + roomN n) (withRoomI l) ∧ Below w.heap.size w w') → LaidI w l e w' := by
    intro e w' h
    refine ⟨?_⟩
    rw [HL.out]; exact h
  have FIN := Lib.hid fin
  clear fin
  generalize hM : withRoomI l = M at *
  generalize hr : roomN n = r at *
  generalize hm : n + r = m at *
  have hnm : n ≤ m := by omega
  have hm2 : m ≤ 2 * n + 1 := by omega
  have hcond : (n : Int) = 0 → bare = false := by
    intro h
    rcases hb with h2 | h2
    · exact h2
    · omega
  clear hr hb hM
  have HMm := hm
  by_cases h0 : bare = true ∧ n = 0
  · exfalso
    have := hcond (by omega)
    rw [h0.1] at this; cases this
  clear hcond
  cases bare with
  | false =>
    clear h0
    go_enter Try.func19, Try.ntmps19
    go_wp2_with (first
      | (go_at_call 63; refine (HR.out _).mono ?_; rintro e w' ⟨rfl, rfl⟩)
      | (refine wpList_make_ints _ rfl _ _ 34 rfl 2 i0 Try.underlying34 HI0.out HZ0.out HZ1.out .i64 .i64 m _ (by omega) rfl rfl (by rw [HZ2.out]; omega) (by omega) ?_; intro w1 hb1 hr1 hp1 hl1; have HB1 := Lib.hid hb1; have HR1 := Lib.hid hr1; have HP1 := Lib.hid hp1; clear hb1 hr1 hp1))
    go_loopw [6] (fun i wr => ∃ (k : Nat) (L : List Int), k ≤ n ∧ i = .int .i64 k ∧ Hid (L.length = m ∧ L.take k = M.take k) ∧ Hid (RoomI wr w.heap.size m 2) ∧ Hid (IntsAt wr w.heap.size 0 m L) ∧ Hid (Below w.heap.size w wr)) (fun i wr => n - (intOf i).toNat)
    case atStart => exact ⟨0, _, Nat.zero_le _, rfl, Lib.hid ⟨by simp, by simp⟩, HR1, HP1, HB1⟩
    case round =>
      obtain ⟨k, L, hk, rfl, HL1, HRo, HPt, HB⟩ := hrel
      by_cases hlt : k < n
      · obtain ⟨g, off, rfl, hpt⟩ := HC.out (by omega)
        have c0 := hpt k hlt
        have hgl : g < w.heap.size := World.block_lt_of_cell? w _ c0
        have c0' : wr.cell? ⟨g, off + k, none⟩ = some (.int .i64 (l.getD k 0)) := (HB.out.cell hgl).trans c0
        have HS := Lib.hid (take_setI HL1.out.2 (by have := HL1.out.1; omega) (by have := HT.out; omega) (HA.out k hlt))
        generalize l.getD k 0 = x at *
        obtain ⟨u0, s0⟩ := Option.isSome_iff_exists.1 (HRo.out.some k (by omega))
        have f0 := HRo.out.frozen k
        have hwl := HRo.out.lt
        clear c0 hpt
        go_wp2
        go_roundw
        case rel => exact ⟨k + 1, L.set k x, by omega, by go_num, Lib.hid ⟨by rw [List.length_set]; exact HL1.out.1, HS.out⟩, Lib.hid (HRo.out.set _ _), Lib.hid (ints_set HRo.out (Nat.le_refl _) HPt.out HL1.out.1 k (by omega) x), Lib.hid (HB.out.setCell (Nat.le_refl _) _)⟩
        case measure => simp [intOf]; omega
      · have hkn : k = n := by omega
        subst hkn
        go_wp2
        go_loopw [7] (fun i wr => ∃ (j : Nat) (L : List Int), k ≤ j ∧ j ≤ m ∧ i = .int .i64 j ∧ Hid (L.length = m ∧ L.take j = M.take j) ∧ Hid (RoomI wr w.heap.size m 2) ∧ Hid (IntsAt wr w.heap.size 0 m L) ∧ Hid (Below w.heap.size w wr)) (fun i wr => m - (intOf i).toNat)
        case atStart => exact ⟨k, L, Nat.le_refl _, by omega, rfl, HL1, HRo, HPt, HB⟩
        case round =>
          clear HL1 HRo HPt HB hlt hk
          obtain ⟨j, L, hkj, hj, rfl, HL1, HRo, HPt, HB⟩ := hrel
          by_cases hlt : j < m
          · have HS := Lib.hid (take_setI HL1.out.2 (by have := HL1.out.1; omega) (by have := HT.out; omega) (HF.out j hkj hlt))
            obtain ⟨u0, s0⟩ := Option.isSome_iff_exists.1 (HRo.out.some j (by omega))
            have f0 := HRo.out.frozen j
            have hwl := HRo.out.lt
            go_wp2
            go_roundw
            case rel => exact ⟨j + 1, L.set j fillI, by omega, by omega, by go_num, Lib.hid ⟨by rw [List.length_set]; exact HL1.out.1, HS.out⟩, Lib.hid (HRo.out.set _ _), Lib.hid (ints_set HRo.out (Nat.le_refl _) HPt.out HL1.out.1 j (by omega) fillI), Lib.hid (HB.out.setCell (Nat.le_refl _) _)⟩
            case measure => simp [intOf]; omega
          · have hjn : j = m := by omega
            subst hjn
            go_wp2
            go_ret
            have hE := HG.out L HL1.out.1 HL1.out.2
            exact FIN.out _ _ ⟨w.heap.size, rfl, Nat.le_refl _, HRo.out, by rw [← hE]; exact HPt.out, HB.out⟩
  | true =>
    have hn0 : 0 < n := by
      rcases Nat.eq_zero_or_pos n with h | h
      · exact (h0 ⟨rfl, h⟩).elim
      · exact h
    have hnz : ((n : Int) == 0) = false := by simp; omega
    clear h0
    go_enter Try.func19, Try.ntmps19
    go_wp2_with (first
      | (go_at_call 63; refine (HR.out _).mono ?_; rintro e w' ⟨rfl, rfl⟩)
      | (refine wpList_make_ints _ rfl _ _ 34 rfl 2 i0 Try.underlying34 HI0.out HZ0.out HZ1.out .i64 .i64 m _ (by omega) rfl rfl (by rw [HZ2.out]; omega) (by omega) ?_; intro w1 hb1 hr1 hp1 hl1; have HB1 := Lib.hid hb1; have HR1 := Lib.hid hr1; have HP1 := Lib.hid hp1; clear hb1 hr1 hp1))
    go_loopw [6] (fun i wr => ∃ (k : Nat) (L : List Int), k ≤ n ∧ i = .int .i64 k ∧ Hid (L.length = m ∧ L.take k = M.take k) ∧ Hid (RoomI wr w.heap.size m 2) ∧ Hid (IntsAt wr w.heap.size 0 m L) ∧ Hid (Below w.heap.size w wr)) (fun i wr => n - (intOf i).toNat)
    case atStart => exact ⟨0, _, Nat.zero_le _, rfl, Lib.hid ⟨by simp, by simp⟩, HR1, HP1, HB1⟩
    case round =>
      obtain ⟨k, L, hk, rfl, HL1, HRo, HPt, HB⟩ := hrel
      by_cases hlt : k < n
      · obtain ⟨g, off, rfl, hpt⟩ := HC.out (by omega)
        have c0 := hpt k hlt
        have hgl : g < w.heap.size := World.block_lt_of_cell? w _ c0
        have c0' : wr.cell? ⟨g, off + k, none⟩ = some (.int .i64 (l.getD k 0)) := (HB.out.cell hgl).trans c0
        have HS := Lib.hid (take_setI HL1.out.2 (by have := HL1.out.1; omega) (by have := HT.out; omega) (HA.out k hlt))
        generalize l.getD k 0 = x at *
        obtain ⟨u0, s0⟩ := Option.isSome_iff_exists.1 (HRo.out.some k (by omega))
        have f0 := HRo.out.frozen k
        have hwl := HRo.out.lt
        clear c0 hpt
        go_wp2
        go_roundw
        case rel => exact ⟨k + 1, L.set k x, by omega, by go_num, Lib.hid ⟨by rw [List.length_set]; exact HL1.out.1, HS.out⟩, Lib.hid (HRo.out.set _ _), Lib.hid (ints_set HRo.out (Nat.le_refl _) HPt.out HL1.out.1 k (by omega) x), Lib.hid (HB.out.setCell (Nat.le_refl _) _)⟩
        case measure => simp [intOf]; omega
      · have hkn : k = n := by omega
        subst hkn
        go_wp2
        go_loopw [7] (fun i wr => ∃ (j : Nat) (L : List Int), k ≤ j ∧ j ≤ m ∧ i = .int .i64 j ∧ Hid (L.length = m ∧ L.take j = M.take j) ∧ Hid (RoomI wr w.heap.size m 2) ∧ Hid (IntsAt wr w.heap.size 0 m L) ∧ Hid (Below w.heap.size w wr)) (fun i wr => m - (intOf i).toNat)
        case atStart => exact ⟨k, L, Nat.le_refl _, by omega, rfl, HL1, HRo, HPt, HB⟩
        case round =>
          clear HL1 HRo HPt HB hlt hk
          obtain ⟨j, L, hkj, hj, rfl, HL1, HRo, HPt, HB⟩ := hrel
          by_cases hlt : j < m
          · have HS := Lib.hid (take_setI HL1.out.2 (by have := HL1.out.1; omega) (by have := HT.out; omega) (HF.out j hkj hlt))
            obtain ⟨u0, s0⟩ := Option.isSome_iff_exists.1 (HRo.out.some j (by omega))
            have f0 := HRo.out.frozen j
            have hwl := HRo.out.lt
            go_wp2
            go_roundw
            case rel => exact ⟨j + 1, L.set j fillI, by omega, by omega, by go_num, Lib.hid ⟨by rw [List.length_set]; exact HL1.out.1, HS.out⟩, Lib.hid (HRo.out.set _ _), Lib.hid (ints_set HRo.out (Nat.le_refl _) HPt.out HL1.out.1 j (by omega) fillI), Lib.hid (HB.out.setCell (Nat.le_refl _) _)⟩
            case measure => simp [intOf]; omega
          · have hjn : j = m := by omega
            subst hjn
            go_wp2
            go_ret
            have hE := HG.out L HL1.out.1 HL1.out.2
            exact FIN.out _ _ ⟨w.heap.size, rfl, Nat.le_refl _, HRo.out, by rw [← hE]; exact HPt.out, HB.out⟩
theorem toInt64S_nil (cap : Nat) (b : Option Addr) (w : World) : Calls Try.prog 19 #[.slice b 0 cap, .bool true] w fun e w' => e = .returned (.slice none 0 0) ∧ w = w' := by
  go_enter Try.func19, Try.ntmps19
  go_wp2
  go_ret
  exact ⟨rfl, rfl⟩
theorem eqInt64S_same (g g2 n cap cap2 : Nat) (l : List Int) (w : World) (hn : n ≤ 4611686018427387904) (h1 : IntsAt w g 0 n l) (h2 : IntsAt w g2 0 n l) :
    Calls Try.prog 37 #[.slice (some ⟨g, 0, none⟩) n cap, .slice (some ⟨g2, 0, none⟩) n cap2] w (Ret w (.bool true)) := by
  have H1 := Lib.hid h1
  have H2 := Lib.hid h2
  clear h1 h2
  go_enter Try.func37, Try.ntmps37
  go_wp2
  go_loopw [5] (fun i wr => ∃ k : Nat, k ≤ n ∧ i = .int .i64 k ∧ Hid (Below w.heap.size w wr)) (fun i wr => n - (intOf i).toNat)
  case atStart => exact ⟨0, Nat.zero_le _, rfl, Lib.hid (Below.refl _ _)⟩
  case round =>
    obtain ⟨k, hk, rfl, HB⟩ := hrel
    by_cases hlt : k < n
    · have c1 := (H1.out.below HB.out) k hlt
      have c2 := (H2.out.below HB.out) k hlt
      simp only [Nat.zero_add] at c1 c2
      generalize l.getD k 0 = x at *
      go_wp2
      go_quiet (fail)
      go_wp2
      go_roundw
      case rel => exact ⟨k + 1, by omega, by go_num, Lib.hid (by repeat (first | exact Below.refl _ _ | refine bset ?_ _ _ (by omega) _ | refine bal ?_ _ | refine bdrN ?_ _ | refine bdr ?_ | refine below_tr' ?_ HB.out))⟩
      case measure => simp [intOf]; omega
    · go_wp2
      go_ret
      exact ⟨rfl, HB.out⟩
end Go.Proofs.Ythkbhaaodegocaa
/- Contracts: the laws' own lists of points: made with room behind, compared. (Printed by geng1.py, a program of this session.) -/
namespace Go.Proofs.Ythkbhaaodegocaa
open Go.RowKit
set_option linter.unusedVariables false
set_option linter.unusedSimpArgs false
theorem made0 {m j : Nat} (h : j < m * 3) : (madeCells #[.int .i64 0, .int .i64 0, .int .i64 0] (m * 3))[j]? = some (.int .i64 0) := by
  have : j % 3 = 0 ∨ j % 3 = 1 ∨ j % 3 = 2 := by omega
  rcases this with e | e | e <;> simp [madeCells, h, e]
/-- 'make' of m points: a new block, all 0. -/
theorem wpList_make_pts {P : Program} (w : World) {ops : Array Oper} {rest : List Oper} {o : Oper} {a : Act} {Q : Exit → Act → World → Prop}
    (hg : o.guard = none) (l c : Operand) (t : TypeId) (hop : o.op = Op.makeSlice t l c)
    (e : TypeId) (i : TypeInfo) (ht : P.underlying t = some (.slice e)) (hi : P.info? e = some i) (hz : i.zero = some (.agg #[.int .i64 0, .int .i64 0, .int .i64 0])) (hs : i.size = 3)
    (kl kc : IntKind) (m : Nat) (C : Int) (hC : C = (m : Int)) (hl : a.eval l = .int kl C) (hc : a.eval c = .int kc C) (hbytes : i.bytes * m ≤ 281474976710656) (h63 : m ≤ 9223372036854775807)
    (hK : ∀ W', Below w.heap.size w W' → RoomP W' w.heap.size m e → PtsAt W' w.heap.size 0 m (List.replicate m (0, 0, 0)) → w.heap.size < W'.heap.size → wpList P ops Q rest (a.put o.dst (.slice (some ⟨w.heap.size, 0, none⟩) m m)) W') :
    wpList P ops Q (o :: rest) a w := by
  subst hC
  refine wpList_plain hg fun K hK' => ?_
  have hb' : (i.bytes : Int) * (m : Int) ≤ 281474976710656 := by
    have h : ((i.bytes * m : Nat) : Int) ≤ 281474976710656 := by omega
    rwa [Int.natCast_mul] at h
  have hr := run_make (P := P) w t e i _ ht hi hz kl kc m m (by omega) (Int.le_refl _) hb' (by omega)
  have hcl : (Value.agg #[.int .i64 0, .int .i64 0, .int .i64 0]).cells = #[.int .i64 0, .int .i64 0, .int .i64 0] := by rfl
  rw [hcl, hs, Int.toNat_natCast] at hr
  unfold Oper.wp
  simp [execOp, hop, hl, hc, hr, Result.andThen]
  refine hK' _ _ (hK _ ((Below.refl _ _).alloc (Nat.le_refl _) _) ⟨_, heap_alloc_new _ _, by simp [madeCells]⟩ (fun j hj => ?_) (by simp))
  have hd : (List.replicate m ((0, 0, 0) : Pt)).getD j (0, 0, 0) = (0, 0, 0) := by simp [List.getD, hj]
  rw [hd]
  simp only [Nat.zero_add]
  refine ⟨?_, ?_, ?_⟩
  · rw [World.cell?_alloc_at _ _ _ _ rfl]; exact made0 (by omega)
  · rw [World.cell?_alloc_at _ _ _ _ rfl]; exact made0 (by omega)
  · rw [World.cell?_alloc_at _ _ _ _ rfl]; exact made0 (by omega)
def fillP : Pt := (-7000000000000000101, 0, 0)
/-- What the laws lay for a list: a new block with the list and room behind it. -/
def withRoomP (l : List Pt) : List Pt := l ++ List.replicate (roomN l.length) fillP
structure LaidP (T : TypeId) (w : World) (l : List Pt) (e : Ending) (w' : World) : Prop where
  out : ∃ g, e = .returned (.slice (some ⟨g, 0, none⟩) l.length (l.length + roomN l.length)) ∧ w.heap.size ≤ g ∧ RoomP w' g (l.length + roomN l.length) T ∧ PtsAt w' g 0 (l.length + roomN l.length) (withRoomP l) ∧ Below w.heap.size w w'
theorem take_setP {L l : List Pt} {k : Nat} {a : Pt} (h : L.take k = l.take k) (hk : k < L.length) (hk' : k < l.length) (ha : l.getD k (0, 0, 0) = a) : (L.set k a).take (k + 1) = l.take (k + 1) := by
  rw [take_snoc' _ (0, 0, 0) k (by simpa using hk), take_snoc' l (0, 0, 0) k hk', List.take_set_of_le (Nat.le_refl _), h, ha]
  congr 1
  simp [List.getD, hk]
theorem withRoomP_length (l : List Pt) : (withRoomP l).length = l.length + roomN l.length := by simp [withRoomP]
theorem withRoomP_take (l : List Pt) : (withRoomP l).take l.length = l := by simp [withRoomP]
theorem withRoomP_fill (l : List Pt) (k : Nat) (h : l.length ≤ k) (h2 : k < l.length + roomN l.length) : (withRoomP l).getD k (0, 0, 0) = fillP := by
  have hj : k - l.length < roomN l.length := by omega
  simp [withRoomP, List.getD, List.getElem?_append_right h, hj]
theorem withRoomP_at (l : List Pt) (k : Nat) (h : k < l.length) : (withRoomP l).getD k (0, 0, 0) = l.getD k (0, 0, 0) := by
  simp [withRoomP, List.getD, List.getElem?_append_left h]
theorem pts_take {w : World} {b o n m : Nat} {l : List Pt} (h : PtsAt w b o n l) (hm : m ≤ n) : PtsAt w b o m (l.take m) := fun i hi => by
  have := h i (by omega)
  have hd : (l.take m).getD i (0, 0, 0) = l.getD i (0, 0, 0) := by simp [List.getD, List.getElem?_take_of_lt hi]
  rw [hd]; exact this
set_option maxHeartbeats 2000000 in
theorem toPointS_any (b : Option Addr) (n cap : Nat) (bare : Bool) (l : List Pt) (w : World) (hl : l.length = n) (hn : n ≤ 1000000) (hb : bare = false ∨ 0 < n)
    (hc : 0 < n → ∃ g off, b = some ⟨g, off, none⟩ ∧ PtsAt w g off n l) :
    Calls Try.prog 46 #[.slice b n cap, .bool bare] w (LaidP 23 w l) := by
  obtain ⟨i0, hi, hz0, hz1, hz2⟩ := info_parts (show (Try.prog.info? 23).map (fun i => (i.zero, i.size, i.bytes)) = some (some (.agg #[.int .i64 0, .int .i64 0, .int .i64 0]), 3, 24) by kernel_rfl)
  have HR := Lib.hid (fun (W : World) => roomBehind_any n W hn)
  have HL := Lib.hid hl
  have HC := Lib.hid hc
  have HI0 := Lib.hid hi; have HZ0 := Lib.hid hz0; have HZ1 := Lib.hid hz1; have HZ2 := Lib.hid hz2
  have hr0 := roomN_le n
  have HT := Lib.hid (withRoomP_length l)
  have HF := Lib.hid (withRoomP_fill l)
  have HA := Lib.hid (withRoomP_at l)
  rw [hl] at HT HF HA
  have HG : Hid (∀ L : List Pt, L.length = n + roomN n → L.take (n + roomN n) = (withRoomP l).take (n + roomN n) → L = withRoomP l) := Lib.hid (fun L h1 h2 => by
    rw [List.take_of_length_le (by omega), List.take_of_length_le (by rw [HT.out]; omega)] at h2; exact h2)
  clear hi hz0 hz1 hz2 hl hc
  have fin : ∀ e w', (∃ g, e = .returned (.slice (some ⟨g, 0, none⟩) n (n + roomN n)) ∧ w.heap.size ≤ g ∧ RoomP w' g (n + roomN n) 23 ∧ PtsAt w' g 0 (n + roomN n) (withRoomP l) ∧ Below w.heap.size w w') → LaidP 23 w l e w' := by
    intro e w' h
    refine ⟨?_⟩
    rw [HL.out]; exact h
  have FIN := Lib.hid fin
  clear fin
  generalize hM : withRoomP l = M at *
  generalize hr : roomN n = r at *
  generalize hm : n + r = m at *
  have hnm : n ≤ m := by omega
  have hm2 : m ≤ 2 * n + 1 := by omega
  have hcond : (n : Int) = 0 → bare = false := by
    intro h
    rcases hb with h2 | h2
    · exact h2
    · omega
  clear hr hb hM
  have HMm := hm
  by_cases h0 : bare = true ∧ n = 0
  · exfalso
    have := hcond (by omega)
    rw [h0.1] at this; cases this
  clear hcond
  cases bare with
  | false =>
    clear h0
    go_enter Try.func46, Try.ntmps46
    go_wp2_with (first
      | (go_at_call 63; refine (HR.out _).mono ?_; rintro e w' ⟨rfl, rfl⟩)
      | (refine wpList_make_pts _ rfl _ _ 52 rfl 23 i0 Try.underlying52 HI0.out HZ0.out HZ1.out .i64 .i64 m _ (by omega) rfl rfl (by rw [HZ2.out]; omega) (by omega) ?_; intro w1 hb1 hr1 hp1 hl1; have HB1 := Lib.hid hb1; have HR1 := Lib.hid hr1; have HP1 := Lib.hid hp1; clear hb1 hr1 hp1))
    go_loopw [6] (fun i wr => ∃ (k : Nat) (L : List Pt), k ≤ n ∧ i = .int .i64 k ∧ Hid (L.length = m ∧ L.take k = M.take k) ∧ Hid (RoomP wr w.heap.size m 23) ∧ Hid (PtsAt wr w.heap.size 0 m L) ∧ Hid (Below w.heap.size w wr)) (fun i wr => n - (intOf i).toNat)
    case atStart => exact ⟨0, _, Nat.zero_le _, rfl, Lib.hid ⟨by simp, by simp⟩, HR1, HP1, HB1⟩
    case round =>
      obtain ⟨k, L, hk, rfl, HL1, HRo, HPt, HB⟩ := hrel
      by_cases hlt : k < n
      · obtain ⟨g, off, rfl, hpt⟩ := HC.out (by omega)
        obtain ⟨c0, c1, c2⟩ := hpt k hlt
        have hgl : g < w.heap.size := World.block_lt_of_cell? w _ c0
        have d0 : wr.cell? ⟨g, off + k * 3, none⟩ = some (.int .i64 (l.getD k (0, 0, 0)).1) := (HB.out.cell hgl).trans c0
        have d1 : wr.cell? ⟨g, off + k * 3 + 1, none⟩ = some (.int .i64 (l.getD k (0, 0, 0)).2.1) := (HB.out.cell hgl).trans c1
        have d2 : wr.cell? ⟨g, off + k * 3 + 2, none⟩ = some (.int .i64 (l.getD k (0, 0, 0)).2.2) := (HB.out.cell hgl).trans c2
        have HS := Lib.hid (take_setP HL1.out.2 (by have := HL1.out.1; omega) (by have := HT.out; omega) (HA.out k hlt))
        clear c0 c1 c2 hpt
        generalize l.getD k (0, 0, 0) = a at *
        obtain ⟨x, y, z⟩ := a
        dsimp only at d0 d1 d2
        obtain ⟨u0, s0⟩ := Option.isSome_iff_exists.1 (HRo.out.some (k * 3) (by omega))
        have r0 := HRo.out.frozen (k * 3)
        obtain ⟨u1, s1⟩ := Option.isSome_iff_exists.1 (HRo.out.some (k * 3 + 1) (by omega))
        have r1 := HRo.out.frozen (k * 3 + 1)
        obtain ⟨u2, s2⟩ := Option.isSome_iff_exists.1 (HRo.out.some (k * 3 + 2) (by omega))
        have r2 := HRo.out.frozen (k * 3 + 2)
        have hwl := HRo.out.lt
        go_wp2_with (go_at_call 41; (with_reducible refine (toPoint_any x y z _).mono ?_); rintro e w2_ ⟨rfl, hb2⟩; obtain ⟨hcb2, hfb2, hlb2⟩ := bcell hb2; have hsz2 := hb2.size; (try simp at hsz2); have HB2 := Lib.hid hb2; clear hb2; (try (have hl02 : w.heap.size < w2_.heap.size := by omega)))
        have HR2 := HRo.out.below HB2.out
        have HC2 := HPt.out.below HB2.out
        have HBB := low_tr' HB.out HB2.out (by omega)
        go_roundw
        case rel => exact ⟨k + 1, L.set k (x, y, z), by omega, by go_num, Lib.hid ⟨by rw [List.length_set]; exact HL1.out.1, HS.out⟩, Lib.hid (((HR2.set _ _).set _ _).set _ _), Lib.hid (pts_set HR2 (Nat.le_refl _) HC2 HL1.out.1 k (by omega) x y z), Lib.hid (((HBB.setCell (Nat.le_refl _) _).setCell (Nat.le_refl _) _).setCell (Nat.le_refl _) _)⟩
        case measure => simp [intOf]; omega
      · have hkn : k = n := by omega
        subst hkn
        go_wp2
        go_loopw [7] (fun i wr => ∃ (j : Nat) (L : List Pt), k ≤ j ∧ j ≤ m ∧ i = .int .i64 j ∧ Hid (L.length = m ∧ L.take j = M.take j) ∧ Hid (RoomP wr w.heap.size m 23) ∧ Hid (PtsAt wr w.heap.size 0 m L) ∧ Hid (Below w.heap.size w wr)) (fun i wr => m - (intOf i).toNat)
        case atStart => exact ⟨k, L, Nat.le_refl _, by omega, rfl, HL1, HRo, HPt, HB⟩
        case round =>
          clear HL1 HRo HPt HB hlt hk
          obtain ⟨j, L, hkj, hj, rfl, HL1, HRo, HPt, HB⟩ := hrel
          by_cases hlt : j < m
          · have HS := Lib.hid (take_setP HL1.out.2 (by have := HL1.out.1; omega) (by have := HT.out; omega) (HF.out j hkj hlt))
            obtain ⟨u0, s0⟩ := Option.isSome_iff_exists.1 (HRo.out.some (j * 3) (by omega))
            have r0 := HRo.out.frozen (j * 3)
            obtain ⟨u1, s1⟩ := Option.isSome_iff_exists.1 (HRo.out.some (j * 3 + 1) (by omega))
            have r1 := HRo.out.frozen (j * 3 + 1)
            obtain ⟨u2, s2⟩ := Option.isSome_iff_exists.1 (HRo.out.some (j * 3 + 2) (by omega))
            have r2 := HRo.out.frozen (j * 3 + 2)
            have hwl := HRo.out.lt
            go_wp2
            go_roundw
            case rel => exact ⟨j + 1, L.set j fillP, by omega, by omega, by go_num, Lib.hid ⟨by rw [List.length_set]; exact HL1.out.1, HS.out⟩, Lib.hid (((HRo.out.set _ _).set _ _).set _ _), Lib.hid (pts_set HRo.out (Nat.le_refl _) HPt.out HL1.out.1 j (by omega) _ _ _), Lib.hid (((HB.out.setCell (Nat.le_refl _) _).setCell (Nat.le_refl _) _).setCell (Nat.le_refl _) _)⟩
            case measure => simp [intOf]; omega
          · have hjn : j = m := by omega
            subst hjn
            go_wp2
            go_ret
            have hE := HG.out L HL1.out.1 HL1.out.2
            exact FIN.out _ _ ⟨w.heap.size, rfl, Nat.le_refl _, HRo.out, by rw [← hE]; exact HPt.out, HB.out⟩
  | true =>
    have hn0 : 0 < n := by
      rcases Nat.eq_zero_or_pos n with h | h
      · exact (h0 ⟨rfl, h⟩).elim
      · exact h
    have hnz : ((n : Int) == 0) = false := by simp; omega
    clear h0
    go_enter Try.func46, Try.ntmps46
    go_wp2_with (first
      | (go_at_call 63; refine (HR.out _).mono ?_; rintro e w' ⟨rfl, rfl⟩)
      | (refine wpList_make_pts _ rfl _ _ 52 rfl 23 i0 Try.underlying52 HI0.out HZ0.out HZ1.out .i64 .i64 m _ (by omega) rfl rfl (by rw [HZ2.out]; omega) (by omega) ?_; intro w1 hb1 hr1 hp1 hl1; have HB1 := Lib.hid hb1; have HR1 := Lib.hid hr1; have HP1 := Lib.hid hp1; clear hb1 hr1 hp1))
    go_loopw [6] (fun i wr => ∃ (k : Nat) (L : List Pt), k ≤ n ∧ i = .int .i64 k ∧ Hid (L.length = m ∧ L.take k = M.take k) ∧ Hid (RoomP wr w.heap.size m 23) ∧ Hid (PtsAt wr w.heap.size 0 m L) ∧ Hid (Below w.heap.size w wr)) (fun i wr => n - (intOf i).toNat)
    case atStart => exact ⟨0, _, Nat.zero_le _, rfl, Lib.hid ⟨by simp, by simp⟩, HR1, HP1, HB1⟩
    case round =>
      obtain ⟨k, L, hk, rfl, HL1, HRo, HPt, HB⟩ := hrel
      by_cases hlt : k < n
      · obtain ⟨g, off, rfl, hpt⟩ := HC.out (by omega)
        obtain ⟨c0, c1, c2⟩ := hpt k hlt
        have hgl : g < w.heap.size := World.block_lt_of_cell? w _ c0
        have d0 : wr.cell? ⟨g, off + k * 3, none⟩ = some (.int .i64 (l.getD k (0, 0, 0)).1) := (HB.out.cell hgl).trans c0
        have d1 : wr.cell? ⟨g, off + k * 3 + 1, none⟩ = some (.int .i64 (l.getD k (0, 0, 0)).2.1) := (HB.out.cell hgl).trans c1
        have d2 : wr.cell? ⟨g, off + k * 3 + 2, none⟩ = some (.int .i64 (l.getD k (0, 0, 0)).2.2) := (HB.out.cell hgl).trans c2
        have HS := Lib.hid (take_setP HL1.out.2 (by have := HL1.out.1; omega) (by have := HT.out; omega) (HA.out k hlt))
        clear c0 c1 c2 hpt
        generalize l.getD k (0, 0, 0) = a at *
        obtain ⟨x, y, z⟩ := a
        dsimp only at d0 d1 d2
        obtain ⟨u0, s0⟩ := Option.isSome_iff_exists.1 (HRo.out.some (k * 3) (by omega))
        have r0 := HRo.out.frozen (k * 3)
        obtain ⟨u1, s1⟩ := Option.isSome_iff_exists.1 (HRo.out.some (k * 3 + 1) (by omega))
        have r1 := HRo.out.frozen (k * 3 + 1)
        obtain ⟨u2, s2⟩ := Option.isSome_iff_exists.1 (HRo.out.some (k * 3 + 2) (by omega))
        have r2 := HRo.out.frozen (k * 3 + 2)
        have hwl := HRo.out.lt
        go_wp2_with (go_at_call 41; (with_reducible refine (toPoint_any x y z _).mono ?_); rintro e w2_ ⟨rfl, hb2⟩; obtain ⟨hcb2, hfb2, hlb2⟩ := bcell hb2; have hsz2 := hb2.size; (try simp at hsz2); have HB2 := Lib.hid hb2; clear hb2; (try (have hl02 : w.heap.size < w2_.heap.size := by omega)))
        have HR2 := HRo.out.below HB2.out
        have HC2 := HPt.out.below HB2.out
        have HBB := low_tr' HB.out HB2.out (by omega)
        go_roundw
        case rel => exact ⟨k + 1, L.set k (x, y, z), by omega, by go_num, Lib.hid ⟨by rw [List.length_set]; exact HL1.out.1, HS.out⟩, Lib.hid (((HR2.set _ _).set _ _).set _ _), Lib.hid (pts_set HR2 (Nat.le_refl _) HC2 HL1.out.1 k (by omega) x y z), Lib.hid (((HBB.setCell (Nat.le_refl _) _).setCell (Nat.le_refl _) _).setCell (Nat.le_refl _) _)⟩
        case measure => simp [intOf]; omega
      · have hkn : k = n := by omega
        subst hkn
        go_wp2
        go_loopw [7] (fun i wr => ∃ (j : Nat) (L : List Pt), k ≤ j ∧ j ≤ m ∧ i = .int .i64 j ∧ Hid (L.length = m ∧ L.take j = M.take j) ∧ Hid (RoomP wr w.heap.size m 23) ∧ Hid (PtsAt wr w.heap.size 0 m L) ∧ Hid (Below w.heap.size w wr)) (fun i wr => m - (intOf i).toNat)
        case atStart => exact ⟨k, L, Nat.le_refl _, by omega, rfl, HL1, HRo, HPt, HB⟩
        case round =>
          clear HL1 HRo HPt HB hlt hk
          obtain ⟨j, L, hkj, hj, rfl, HL1, HRo, HPt, HB⟩ := hrel
          by_cases hlt : j < m
          · have HS := Lib.hid (take_setP HL1.out.2 (by have := HL1.out.1; omega) (by have := HT.out; omega) (HF.out j hkj hlt))
            obtain ⟨u0, s0⟩ := Option.isSome_iff_exists.1 (HRo.out.some (j * 3) (by omega))
            have r0 := HRo.out.frozen (j * 3)
            obtain ⟨u1, s1⟩ := Option.isSome_iff_exists.1 (HRo.out.some (j * 3 + 1) (by omega))
            have r1 := HRo.out.frozen (j * 3 + 1)
            obtain ⟨u2, s2⟩ := Option.isSome_iff_exists.1 (HRo.out.some (j * 3 + 2) (by omega))
            have r2 := HRo.out.frozen (j * 3 + 2)
            have hwl := HRo.out.lt
            go_wp2
            go_roundw
            case rel => exact ⟨j + 1, L.set j fillP, by omega, by omega, by go_num, Lib.hid ⟨by rw [List.length_set]; exact HL1.out.1, HS.out⟩, Lib.hid (((HRo.out.set _ _).set _ _).set _ _), Lib.hid (pts_set HRo.out (Nat.le_refl _) HPt.out HL1.out.1 j (by omega) _ _ _), Lib.hid (((HB.out.setCell (Nat.le_refl _) _).setCell (Nat.le_refl _) _).setCell (Nat.le_refl _) _)⟩
            case measure => simp [intOf]; omega
          · have hjn : j = m := by omega
            subst hjn
            go_wp2
            go_ret
            have hE := HG.out L HL1.out.1 HL1.out.2
            exact FIN.out _ _ ⟨w.heap.size, rfl, Nat.le_refl _, HRo.out, by rw [← hE]; exact HPt.out, HB.out⟩
theorem toPointS_nil (cap : Nat) (b : Option Addr) (w : World) : Calls Try.prog 46 #[.slice b 0 cap, .bool true] w fun e w' => e = .returned (.slice none 0 0) ∧ w = w' := by
  go_enter Try.func46, Try.ntmps46
  go_wp2
  go_ret
  exact ⟨rfl, rfl⟩
end Go.Proofs.Ythkbhaaodegocaa
/- Contracts: the laws' own lists of points: compared, intact. (Printed by geng1.py, a program of this session.) -/
namespace Go.Proofs.Ythkbhaaodegocaa
open Go.RowKit
set_option linter.unusedVariables false
set_option linter.unusedSimpArgs false
/-- A list of points in memory, somewhere; it may be empty. -/
def ListP (w : World) (b : Option Addr) (n : Nat) (l : List Pt) : Prop := l.length = n ∧ (0 < n → ∃ g off, b = some ⟨g, off, none⟩ ∧ PtsAt w g off n l)
theorem ListP.below {w w1 : World} {b : Option Addr} {n : Nat} {l : List Pt} (h : ListP w b n l) (hb : Below w.heap.size w w1) : ListP w1 b n l :=
  ⟨h.1, fun hn => by obtain ⟨g, off, e, hp⟩ := h.2 hn; exact ⟨g, off, e, hp.below hb⟩⟩
theorem listP_mk {w : World} {g off n : Nat} {l : List Pt} (hl : l.length = n) (h : PtsAt w g off n l) : ListP w (some ⟨g, off, none⟩) n l := ⟨hl, fun _ => ⟨g, off, rfl, h⟩⟩
theorem listP_nil {w : World} {b : Option Addr} : ListP w b 0 [] := ⟨rfl, fun h => absurd h (Nat.lt_irrefl _)⟩
theorem eqPointS_same (b b2 : Option Addr) (n cap cap2 : Nat) (l : List Pt) (w : World) (hn : n ≤ 4611686018427387904) (h1 : ListP w b n l) (h2 : ListP w b2 n l) :
    Calls Try.prog 32 #[.slice b n cap, .slice b2 n cap2] w (Ret w (.bool true)) := by
  have H1 := Lib.hid h1
  have H2 := Lib.hid h2
  clear h1 h2
  go_enter Try.func32, Try.ntmps32
  go_wp2
  go_loopw [5] (fun i wr => ∃ k : Nat, k ≤ n ∧ i = .int .i64 k ∧ Hid (Below w.heap.size w wr)) (fun i wr => n - (intOf i).toNat)
  case atStart => exact ⟨0, Nat.zero_le _, rfl, Lib.hid (Below.refl _ _)⟩
  case round =>
    obtain ⟨k, hk, rfl, HB⟩ := hrel
    by_cases hlt : k < n
    · obtain ⟨g1, o1, rfl, hp1⟩ := H1.out.2 (by omega)
      obtain ⟨g2, o2, rfl, hp2⟩ := H2.out.2 (by omega)
      obtain ⟨c0, c1, c2⟩ := hp1 k hlt
      obtain ⟨e0, e1, e2⟩ := hp2 k hlt
      clear hp1 hp2 H1 H2
      generalize l.getD k (0, 0, 0) = a at *
      obtain ⟨x, y, z⟩ := a
      go_wp2
      refine region_calm [(17, .slice (some ⟨g1, o1, none⟩) n cap), (18, .int .i64 k), (19, .pointer (some ⟨g1, o1 + k * 3, none⟩)), (20, ptV x y z), (21, .slice (some ⟨g2, o2, none⟩) n cap2), (22, .int .i64 k), (23, .pointer (some ⟨g2, o2 + k * 3, none⟩)), (24, ptV x y z), (25, .bool true), (26, .bool false)] (by kernel_rfl) (by kernel_rfl) (by kernel_rfl) (fun aE hpe => ?_)
      simp only [puts, Act.put, List.setIfInBounds_toArray, List.set_cons_zero, List.set_cons_succ] at hpe
      subst hpe
      refine ⟨⟨.inr (.inr ?_), .inr (.inr ?_), .inr (.inr ?_), .inr (.inr ?_), .inr (.inr ?_), .inr (.inr ?_), .inr (.inr ?_), .inr (.inr ?_), .inr (.inr ?_), .inr (.inr ?_), trivial⟩, ?_⟩
      · exact Calm.mk 17 (.slice (some ⟨g1, o1, none⟩) n cap) rfl rfl (fun W _ => calm_move (.tmp 0) rfl rfl)
      · exact Calm.mk 18 (.int .i64 k) rfl rfl (fun W _ => calm_move (.tmp 5) rfl rfl)
      · exact Calm.mk 19 (.pointer (some ⟨g1, o1 + k * 3, none⟩)) rfl rfl (fun W _ => calm_run (by simp [execOp, Act.eval, go_sem, hlt]))
      · exact Calm.mk 20 (ptV x y z) rfl rfl (fun W hW => calm_loadPt 23 (.tmp 19) rfl rfl (cell_below hW (cell_below HB.out c0)) (cell_below hW (cell_below HB.out c1)) (cell_below hW (cell_below HB.out c2)) Try.sizeOf23 Try.isAgg23)
      · exact Calm.mk 21 (.slice (some ⟨g2, o2, none⟩) n cap2) rfl rfl (fun W _ => calm_move (.tmp 1) rfl rfl)
      · exact Calm.mk 22 (.int .i64 k) rfl rfl (fun W _ => calm_move (.tmp 5) rfl rfl)
      · exact Calm.mk 23 (.pointer (some ⟨g2, o2 + k * 3, none⟩)) rfl rfl (fun W _ => calm_run (by simp [execOp, Act.eval, go_sem, hlt]))
      · exact Calm.mk 24 (ptV x y z) rfl rfl (fun W hW => calm_loadPt 23 (.tmp 23) rfl rfl (cell_below hW (cell_below HB.out e0)) (cell_below hW (cell_below HB.out e1)) (cell_below hW (cell_below HB.out e2)) Try.sizeOf23 Try.isAgg23)
      · exact Calm.mk 25 (.bool true) rfl rfl (fun W hW => calm_call 43 _ #[ptV x y z, ptV x y z] rfl rfl rfl (by simp [Act.eval]) (Try.call43 _ _) (eqPoint_same x y z W))
      · exact Calm.mk 26 (.bool false) rfl rfl (fun W hW => calm_run (by simp [execOp, Act.eval, go_sem]))
      intro W2 hW2
      have HB2 := Lib.hid (low_tr' HB.out hW2 HB.out.size)
      clear HB hW2
      go_wp2
      go_roundw
      case rel => exact ⟨k + 1, by omega, by go_num, HB2⟩
      case measure => simp [intOf]; omega
    · go_wp2
      go_ret
      exact ⟨rfl, HB.out⟩
theorem intactPointS_same (g g2 n : Nat) (l : List Pt) (w : World) (hn : n ≤ 1000000) (hl : l.length = n + roomN n) (h1 : PtsAt w g 0 (n + roomN n) l) (h2 : PtsAt w g2 0 (n + roomN n) l) :
    Calls Try.prog 48 #[.slice (some ⟨g, 0, none⟩) n (n + roomN n), .slice (some ⟨g2, 0, none⟩) n (n + roomN n)] w (Ret w (.bool true)) := by
  have hr0 := roomN_le n
  have HR := Lib.hid (fun (W : World) => roomBehind_any n W hn)
  have HE := Lib.hid (fun (W : World) (hW : Below w.heap.size w W) => eqPointS_same (some ⟨g, 0, none⟩) (some ⟨g2, 0, none⟩) (n + roomN n) (n + roomN n) (n + roomN n) l W (by omega) (listP_mk hl (h1.below hW)) (listP_mk hl (h2.below hW)))
  clear h1 h2 hl
  generalize roomN n = r at *
  generalize hm : n + r = m at *
  have hnm : n ≤ m := by omega
  have hm2 : m ≤ 2 * n + 1 := by omega
  have hmz : (n : Int) + (r : Int) = m := by omega
  go_enter Try.func48, Try.ntmps48
  go_wp2_with (go_at_call 63; refine (HR.out _).mono ?_; rintro e w' ⟨rfl, rfl⟩)
  refine region_calmG [(12, .slice (some ⟨g, 0, none⟩) n m), (13, .int .i64 n), (14, .slice (some ⟨g2, 0, none⟩) n m), (15, .int .i64 n), (16, .bool true), (17, .bool true), (18, .slice (some ⟨g, 0, none⟩) n m), (19, .int .i64 m), (20, .slice (some ⟨g, 0, none⟩) m m), (21, .slice (some ⟨g2, 0, none⟩) n m), (22, .int .i64 m), (23, .slice (some ⟨g2, 0, none⟩) m m), (24, .bool true), (25, .bool true), (4, .bool true)] (by kernel_rfl) (by kernel_rfl) (by kernel_rfl) (fun aE hpe => ?_)
  simp only [puts, Act.put, List.setIfInBounds_toArray, List.set_cons_zero, List.set_cons_succ] at hpe
  subst hpe
  refine ⟨⟨.inr (.inr ?_), .inr (.inr ?_), .inr (.inr ?_), .inr (.inr ?_), .inr (.inr ?_), .inr (.inr ?_), .inr (.inr ?_), .inr (.inr ?_), .inr (.inr ?_), .inr (.inr ?_), .inr (.inr ?_), .inr (.inr ?_), .inr (.inr ?_), .inr (.inr ?_), .inr (.inr ?_), trivial⟩, ?_⟩
  · exact CalmG.mk 12 (.slice (some ⟨g, 0, none⟩) n m) rfl rfl rfl (fun W _ => calm_move (.tmp 0) rfl rfl)
  · exact CalmG.mk 13 (.int .i64 n) rfl rfl rfl (fun W _ => calm_run (by simp [execOp, Act.eval, go_sem]))
  · exact CalmG.mk 14 (.slice (some ⟨g2, 0, none⟩) n m) rfl rfl rfl (fun W _ => calm_move (.tmp 1) rfl rfl)
  · exact CalmG.mk 15 (.int .i64 n) rfl rfl rfl (fun W _ => calm_run (by simp [execOp, Act.eval, go_sem]))
  · exact CalmG.mk 16 (.bool true) rfl rfl rfl (fun W _ => calm_run (by simp [execOp, Act.eval, go_sem]))
  · exact CalmG.mk 17 (.bool true) rfl rfl rfl (fun W _ => calm_move (.tmp 16) rfl rfl)
  · exact CalmG.mk 18 (.slice (some ⟨g, 0, none⟩) n m) rfl rfl rfl (fun W _ => calm_move (.tmp 0) rfl rfl)
  · exact CalmG.mk 19 (.int .i64 m) rfl rfl rfl (fun W _ => calm_move (.tmp 5) rfl (by show Value.int .i64 _ = _; first | rfl | rw [hmz]))
  · exact CalmG.mk 20 (.slice (some ⟨g, 0, none⟩) m m) rfl rfl rfl (fun W _ => calm_run (by simp [execOp, Act.eval, go_sem]))
  · exact CalmG.mk 21 (.slice (some ⟨g2, 0, none⟩) n m) rfl rfl rfl (fun W _ => calm_move (.tmp 1) rfl rfl)
  · exact CalmG.mk 22 (.int .i64 m) rfl rfl rfl (fun W _ => calm_move (.tmp 5) rfl (by show Value.int .i64 _ = _; first | rfl | rw [hmz]))
  · exact CalmG.mk 23 (.slice (some ⟨g2, 0, none⟩) m m) rfl rfl rfl (fun W _ => calm_run (by simp [execOp, Act.eval, go_sem]))
  · exact CalmG.mk 24 (.bool true) rfl rfl rfl (fun W hW => calm_call 32 _ #[.slice (some ⟨g, 0, none⟩) m m, .slice (some ⟨g2, 0, none⟩) m m] rfl rfl rfl (by simp [Act.eval]) (Try.call32 _ _) (HE.out W hW))
  · exact CalmG.mk 25 (.bool true) rfl rfl rfl (fun W hW => calm_run (by simp [execOp, Act.eval, go_sem]))
  · exact CalmG.mk 4 (.bool true) rfl rfl rfl (fun W hW => calm_assign (.tmp 25) rfl rfl)
  intro W2 hW2
  have HB := Lib.hid hW2
  go_wp2
  go_ret
  exact ⟨rfl, HB.out⟩
end Go.Proofs.Ythkbhaaodegocaa
