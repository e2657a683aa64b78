/- Texts of the claim, in build order: K5, RegT, G4, Y4. No condition. -/
import Derived.Test.YtidbikjdigemnaaZDegreesOfFigure8
/- Contracts: the laws' own figures: laid, weighed, intact. (Printed by genk5.py, a program of this session.) -/
namespace Go.Proofs.Ytidbikjdigemnaa
open Go.RowKit
set_option linter.unusedVariables false
set_option linter.unusedSimpArgs false
structure LaidF (w : World) (n1 n2 : Nat) (l1 l2 : List Pt) (e : Ending) (w' : World) : Prop where
  out : ∃ g1 g2, e = .returned (figV (some ⟨g1, 0, none⟩) n1 (n1 + roomN n1) (some ⟨g2, 0, none⟩) n2 (n2 + roomN n2)) ∧ PtsAt w' g1 0 (n1 + roomN n1) (withRoomP l1) ∧ PtsAt w' g2 0 (n2 + roomN n2) (withRoomP l2) ∧ Below w.heap.size w w'
structure LaidFB (w : World) (n1 n2 : Nat) (l1 l2 : List Pt) (e : Ending) (w' : World) : Prop where
  out : ∃ b1 c1 b2 c2, e = .returned (figV b1 n1 c1 b2 n2 c2) ∧ ListP w' b1 n1 l1 ∧ ListP w' b2 n2 l2 ∧ Below w.heap.size w w'
theorem pts_setCell_other {w : World} {b o n : Nat} {l : List Pt} (h : PtsAt w b o n l) {g i : Nat} (hg : b ≠ g) (v : Value) : PtsAt (w.setCell ⟨g, i, none⟩ v) b o n l := fun j hj => by
  obtain ⟨h0, h1, h2⟩ := h j hj
  refine ⟨?_, ?_, ?_⟩
  · rw [World.cell?_setCell_other _ _ _ _ (fun h => hg (by cases h; rfl))]; exact h0
  · rw [World.cell?_setCell_other _ _ _ _ (fun h => hg (by cases h; rfl))]; exact h1
  · rw [World.cell?_setCell_other _ _ _ _ (fun h => hg (by cases h; rfl))]; exact h2
theorem list_setCell_other {w : World} {b : Option Addr} {n : Nat} {l : List Pt} (h : ListP w b n l) {g i : Nat} (hg : ∀ a o, b = some ⟨a, o, none⟩ → a ≠ g) (v : Value) : ListP (w.setCell ⟨g, i, none⟩ v) b n l :=
  ⟨h.1, fun hn => by obtain ⟨a, o, e, hp⟩ := h.2 hn; exact ⟨a, o, e, pts_setCell_other hp (hg a o e) v⟩⟩
set_option maxHeartbeats 1000000 in
theorem toFigure_R (b1 : Option Addr) (n1 c1 : Nat) (b2 : Option Addr) (n2 c2 : Nat) (l1 l2 : List Pt) (w : World) (hn1 : n1 ≤ 1000000) (hn2 : n2 ≤ 1000000) (h1 : ListP w b1 n1 l1) (h2 : ListP w b2 n2 l2) :
    Calls Try.prog 8 #[figV b1 n1 c1 b2 n2 c2, .bool false] w (LaidF w n1 n2 l1 l2) := by
  have HA := Lib.hid (fun (W : World) (hW : Below w.heap.size w W) => toPointS_R b1 n1 c1 l1 W hn1 (h1.below hW))
  have HL := Lib.hid (fun (W : World) (hW : Below w.heap.size w W) => toLineS_R b2 n2 c2 l2 W hn2 (h2.below hW))
  clear h1 h2
  go_enter Try.func8, Try.ntmps8
  go_wp2_with (first
    | (go_at_call 27; (with_reducible refine (HA.out _ (by repeat (first | exact Below.refl _ _ | refine bset ?_ _ _ (by omega) _ | refine bal ?_ _ | refine bdrN ?_ _ | refine bdr ?_))).mono ?_); rintro e w1_ ⟨g1, rfl, hg1, hgl1, hr1, hp1, hb1⟩; obtain ⟨hcb1, hfb1, hlb1⟩ := bcell hb1; have hsz1 := hb1.size; (try simp at hsz1); (try simp at hg1); have HB1 := Lib.hid hb1; have HP1 := Lib.hid hp1; clear hb1 hp1 hr1; have hl01 : w.heap.size < w1_.heap.size := (by omega); have hl11 : w.heap.size + 1 < w1_.heap.size := (by omega); have hl21 : w.heap.size + 1 + 1 < w1_.heap.size := (by omega))
    | (go_at_call 28; (with_reducible refine (HL.out _ (by repeat (first | exact Below.refl _ _ | refine bset ?_ _ _ (by omega) _ | refine bal ?_ _ | refine bdrN ?_ _ | refine bdr ?_ | refine below_tr' ?_ HB1.out))).mono ?_); rintro e w2_ ⟨g2, rfl, hg2, hgl2, hr2, hp2, hb2⟩; obtain ⟨hcb2, hfb2, hlb2⟩ := bcell hb2; have hsz2 := hb2.size; (try simp at hsz2); (try simp at hg2); have HB2 := Lib.hid hb2; have HP2 := Lib.hid hp2; clear hb2 hp2 hr2; have hl02 : w.heap.size < w2_.heap.size := (by omega); have hl12 : w.heap.size + 1 < w2_.heap.size := (by omega); have hl22 : w.heap.size + 1 + 1 < w2_.heap.size := (by omega)))
  refine bodyPost_ret (v := figV (some ⟨g1, 0, none⟩) n1 (n1 + roomN n1) (some ⟨g2, 0, none⟩) n2 (n2 + roomN n2)) (by simp [results, Try.results8, go_sem, hcb2, hcb1, hl02, hl12, hl22, hl01, hl11, hl21]) rfl ⟨⟨g1, g2, rfl, ?_, ?_, (by repeat (first | exact Below.refl _ _ | refine bset ?_ _ _ (by omega) _ | refine bal ?_ _ | refine bdrN ?_ _ | refine bdr ?_ | refine below_tr' ?_ HB2.out | refine below_tr' ?_ HB1.out))⟩⟩
  · exact pts_setCell_other (pts_setCell_other (pts_setCell_other ((pts_setCell_other HP1.out (by omega) _).below HB2.out) (by omega) _) (by omega) _) (by omega) _
  · exact pts_setCell_other (pts_setCell_other (pts_setCell_other HP2.out (by omega) _) (by omega) _) (by omega) _
set_option maxHeartbeats 1000000 in
theorem toFigure_B (b1 : Option Addr) (n1 c1 : Nat) (b2 : Option Addr) (n2 c2 : Nat) (l1 l2 : List Pt) (w : World) (hn1 : n1 ≤ 1000000) (hn2 : n2 ≤ 1000000) (h1 : ListP w b1 n1 l1) (h2 : ListP w b2 n2 l2) :
    Calls Try.prog 8 #[figV b1 n1 c1 b2 n2 c2, .bool true] w (LaidFB w n1 n2 l1 l2) := by
  have HA := Lib.hid (fun (W : World) (hW : Below w.heap.size w W) => toPointS_B b1 n1 c1 l1 W hn1 (h1.below hW))
  have HL := Lib.hid (fun (W : World) (hW : Below w.heap.size w W) => toLineS_B b2 n2 c2 l2 W hn2 (h2.below hW))
  clear h1 h2
  go_enter Try.func8, Try.ntmps8
  go_wp2_with (first
    | (go_at_call 27; (with_reducible refine (HA.out _ (by repeat (first | exact Below.refl _ _ | refine bset ?_ _ _ (by omega) _ | refine bal ?_ _ | refine bdrN ?_ _ | refine bdr ?_))).mono ?_); rintro e w1_ ⟨B1, C1, rfl, hp1, hg1, hb1⟩; obtain ⟨hcb1, hfb1, hlb1⟩ := bcell hb1; have hsz1 := hb1.size; (try simp at hsz1); have HB1 := Lib.hid hb1; have HP1 := Lib.hid hp1; clear hb1 hp1; have hl01 : w.heap.size < w1_.heap.size := (by omega); have hl11 : w.heap.size + 1 < w1_.heap.size := (by omega); have hl21 : w.heap.size + 1 + 1 < w1_.heap.size := (by omega))
    | (go_at_call 28; (with_reducible refine (HL.out _ (by repeat (first | exact Below.refl _ _ | refine bset ?_ _ _ (by omega) _ | refine bal ?_ _ | refine bdrN ?_ _ | refine bdr ?_ | refine below_tr' ?_ HB1.out))).mono ?_); rintro e w2_ ⟨B2, C2, rfl, hp2, hg2, hb2⟩; obtain ⟨hcb2, hfb2, hlb2⟩ := bcell hb2; have hsz2 := hb2.size; (try simp at hsz2); have HB2 := Lib.hid hb2; have HP2 := Lib.hid hp2; clear hb2 hp2; have hl02 : w.heap.size < w2_.heap.size := (by omega); have hl12 : w.heap.size + 1 < w2_.heap.size := (by omega); have hl22 : w.heap.size + 1 + 1 < w2_.heap.size := (by omega)))
  refine bodyPost_ret (v := figV B1 n1 C1 B2 n2 C2) (by simp [results, Try.results8, go_sem, hcb2, hcb1, hl02, hl12, hl22, hl01, hl11, hl21]) rfl ⟨⟨B1, C1, B2, C2, rfl, ?_, ?_, (by repeat (first | exact Below.refl _ _ | refine bset ?_ _ _ (by omega) _ | refine bal ?_ _ | refine bdrN ?_ _ | refine bdr ?_ | refine below_tr' ?_ HB2.out | refine below_tr' ?_ HB1.out))⟩⟩
  · have f1 := fun a o e => (by have := hg1 a o e; simp at this; omega : w.heap.size + 1 + 1 < a)
    exact list_setCell_other (list_setCell_other (list_setCell_other ((list_setCell_other HP1.out (fun a o e => by have := f1 a o e; omega) _).below HB2.out) (fun a o e => by have := f1 a o e; omega) _) (fun a o e => by have := f1 a o e; omega) _) (fun a o e => by have := f1 a o e; omega) _
  · have f1 := fun a o e => (by have := hg2 a o e; simp at this; omega : w.heap.size + 1 + 1 < a)
    exact list_setCell_other (list_setCell_other (list_setCell_other HP2.out (fun a o e => by have := f1 a o e; omega) _) (fun a o e => by have := f1 a o e; omega) _) (fun a o e => by have := f1 a o e; omega) _
theorem szFigure_any (b1 : Option Addr) (n1 c1 : Nat) (b2 : Option Addr) (n2 c2 : Nat) (w : World) (hn1 : n1 ≤ 9223372036854775807) (hn2 : n2 ≤ 9223372036854775807) :
    Calls Try.prog 6 #[figV b1 n1 c1 b2 n2 c2, .int .i64 1000000] w (Ret w (.int .i64 (if n1 + n2 ≤ 1000000 then 1000000 - n1 - n2 else -1))) := by
  have HA := Lib.hid (fun (W : World) => szPointS_any b1 n1 c1 1000000 W (by omega) hn1)
  by_cases h1 : n1 ≤ 1000000
  · have h1z : ¬ (1000000 : Int) < (n1 : Int) := by omega
    rw [if_neg h1z] at HA
    have HL := Lib.hid (fun (W : World) => szLineS_any b2 n2 c2 (1000000 - (n1 : Int)) W (by omega) hn2)
    by_cases h2 : n1 + n2 ≤ 1000000
    · have h2z : ¬ (1000000 - (n1 : Int)) < (n2 : Int) := by omega
      rw [if_neg h2z] at HL
      rw [if_pos h2]
      generalize hq : (1000000 : Int) - (n1 : Int) = q at *
      generalize hs : q - (n2 : Int) = t at *
      have hq0 : 0 ≤ q := by omega
      have ht0 : 0 ≤ t := by omega
      go_enter Try.func6, Try.ntmps6
      go_wp2_with (first
        | (go_at_call 24; refine (HA.out _).mono ?_; rintro e w' ⟨rfl, rfl⟩)
        | (go_at_call 25; refine (HL.out _).mono ?_; rintro e w' ⟨rfl, rfl⟩))
      go_ret
      exact ⟨rfl, (by repeat (first | exact Below.refl _ _ | refine bset ?_ _ _ (by omega) _ | refine bal ?_ _ | refine bdrN ?_ _ | refine bdr ?_))⟩
    · have h2z : (1000000 - (n1 : Int)) < (n2 : Int) := by omega
      rw [if_pos h2z] at HL
      rw [if_neg h2]
      generalize hq : (1000000 : Int) - (n1 : Int) = q at *
      have hq0 : 0 ≤ q := by omega
      go_enter Try.func6, Try.ntmps6
      go_wp2_with (first
        | (go_at_call 24; refine (HA.out _).mono ?_; rintro e w' ⟨rfl, rfl⟩)
        | (go_at_call 25; refine (HL.out _).mono ?_; rintro e w' ⟨rfl, rfl⟩))
      go_ret
      exact ⟨rfl, (by repeat (first | exact Below.refl _ _ | refine bset ?_ _ _ (by omega) _ | refine bal ?_ _ | refine bdrN ?_ _ | refine bdr ?_))⟩
  · have h1z : (1000000 : Int) < (n1 : Int) := by omega
    rw [if_pos h1z] at HA
    rw [if_neg (by omega : ¬ n1 + n2 ≤ 1000000)]
    go_enter Try.func6, Try.ntmps6
    go_wp2_with (go_at_call 24; refine (HA.out _).mono ?_; rintro e w' ⟨rfl, rfl⟩)
    go_ret
    exact ⟨rfl, (by repeat (first | exact Below.refl _ _ | refine bset ?_ _ _ (by omega) _ | refine bal ?_ _ | refine bdrN ?_ _ | refine bdr ?_))⟩
theorem intactFigure_same (g1 g2 k1 k2 n1 n2 : Nat) (l1 l2 : List Pt) (w : World) (hn1 : n1 ≤ 1000000) (hn2 : n2 ≤ 1000000) (hl1 : l1.length = n1) (hl2 : l2.length = n2)
    (h1 : PtsAt w g1 0 (n1 + roomN n1) (withRoomP l1)) (h2 : PtsAt w g2 0 (n2 + roomN n2) (withRoomP l2)) (h3 : PtsAt w k1 0 (n1 + roomN n1) (withRoomP l1)) (h4 : PtsAt w k2 0 (n2 + roomN n2) (withRoomP l2)) :
    Calls Try.prog 11 #[figV (some ⟨g1, 0, none⟩) n1 (n1 + roomN n1) (some ⟨g2, 0, none⟩) n2 (n2 + roomN n2), figV (some ⟨k1, 0, none⟩) n1 (n1 + roomN n1) (some ⟨k2, 0, none⟩) n2 (n2 + roomN n2)] w (Ret w (.bool true)) := by
  have HA := Lib.hid (fun (W : World) (hW : Below w.heap.size w W) => intactPointS_same g1 k1 n1 (withRoomP l1) W hn1 (by rw [withRoomP_length, hl1]) (h1.below hW) (h3.below hW))
  have HL := Lib.hid (fun (W : World) (hW : Below w.heap.size w W) => intactLineS_same g2 k2 n2 (withRoomP l2) W hn2 (by rw [withRoomP_length, hl2]) (h2.below hW) (h4.below hW))
  clear h1 h2 h3 h4 hl1 hl2
  generalize n1 + roomN n1 = m1 at *
  generalize n2 + roomN n2 = m2 at *
  go_enter Try.func11, Try.ntmps11
  go_wp2_with (first
    | (go_at_call 32; (with_reducible refine (HA.out _ (by repeat (first | exact Below.refl _ _ | refine bset ?_ _ _ (by omega) _ | refine bal ?_ _ | refine bdrN ?_ _ | refine bdr ?_))).mono ?_); rintro e w1_ ⟨rfl, hb1⟩; obtain ⟨hcb1, hfb1, hlb1⟩ := bcell hb1; have hsz1 := hb1.size; (try simp at hsz1); have HB1 := Lib.hid hb1; clear hb1; (try (have hl01 : w.heap.size < w1_.heap.size := by omega)); (try (have hl11 : w.heap.size + 1 < w1_.heap.size := by omega)))
    | (go_at_call 33; (with_reducible refine (HL.out _ (by repeat (first | exact Below.refl _ _ | refine bset ?_ _ _ (by omega) _ | refine bal ?_ _ | refine bdrN ?_ _ | refine bdr ?_ | refine below_tr' ?_ HB1.out))).mono ?_); rintro e w2_ ⟨rfl, hb2⟩; obtain ⟨hcb2, hfb2, hlb2⟩ := bcell hb2; have hsz2 := hb2.size; (try simp at hsz2); have HB2 := Lib.hid hb2; clear hb2; (try (have hl02 : w.heap.size < w2_.heap.size := by omega)); (try (have hl12 : w.heap.size + 1 < w2_.heap.size := by omega))))
  go_ret
  exact ⟨rfl, (by repeat (first | exact Below.refl _ _ | refine bset ?_ _ _ (by omega) _ | refine bal ?_ _ | refine bdrN ?_ _ | refine bdr ?_ | refine below_tr' ?_ HB2.out | refine below_tr' ?_ HB1.out))⟩
end Go.Proofs.Ytidbikjdigemnaa
/- A region that draws its order and stores once into a block that is there: all other blocks are as they were. -/
namespace Go.Proofs.Ytidbikjdigemnaa
open Go.RowKit
set_option linter.unusedVariables false
set_option linter.unusedSimpArgs false
/-- All blocks but one are as they were. -/
structure Save (g0 : Nat) (w W : World) : Prop where
  os : W.os = w.os
  tape : W.tape = w.tape
  output : W.output = w.output
  size : w.heap.size ≤ W.heap.size
  block : ∀ k, k < w.heap.size → k ≠ g0 → W.heap[k]? = w.heap[k]?
theorem Save.tr {g0 : Nat} {w W W' : World} (h : Save g0 w W) (hb : Below W.heap.size W W') : Save g0 w W' :=
  ⟨hb.os.trans h.os, hb.tape.trans h.tape, hb.output.trans h.output, Nat.le_trans h.size hb.size, fun k hk hne => (hb.block k (Nat.lt_of_lt_of_le hk h.size)).trans (h.block k hk hne)⟩
theorem Save.setRow {g0 : Nat} {w W : World} (h : Save g0 w W) (cs : Array Value) : Save g0 w (W.setRow g0 cs) :=
  ⟨h.os, h.tape, h.output, by simpa [World.setRow] using h.size, fun k hk hne => (setRow_other W g0 k cs hne).trans (h.block k hk hne)⟩
theorem Save.below {g0 b : Nat} {w W W' : World} (h : Save g0 W W') (hb : Below b w W) (hg : b ≤ g0) (hs : b ≤ W.heap.size) : Below b w W' :=
  ⟨h.os.trans hb.os, h.tape.trans hb.tape, h.output.trans hb.output, Nat.le_trans hb.size h.size, fun k hk => (h.block k (by omega) (by omega)).trans (hb.block k hk)⟩
structure RInvT (l : List Oper) (a0 aE : Act) (w0 : World) (g0 s n : Nat) (T : TypeId) (U : Array Value) (listed : Array Bool) (a : Act) (w : World) : Prop where
  df : a.defers = aE.defers
  sz : a.tmps.size = aE.tmps.size
  len : listed.size = l.length
  fr1 : ∀ (j : Nat) (o : Oper) (t : Nat), l[j]? = some o → o.dst = some t → listed.getD j false = true → a.tmps.getD t undef = aE.tmps.getD t undef
  fr0 : ∀ t : Nat, (∀ (j : Nat) (o : Oper), l[j]? = some o → o.dst = some t → listed.getD j false = false) → a.tmps.getD t undef = a0.tmps.getD t undef
  bl : Save g0 w0 w
  box : ∃ cs, w.heap[g0]? = some (.cells cs T (0, 0)) ∧ cs.size = n ∧ (listed.getD s false = true → cs = U)
section
variable {P : Program} {Q : Exit → Act → World → Prop} {l : List Oper} {a0 : Act} {w : World} {vs : List (Nat × Value)} {g0 s n : Nat} {T : TypeId} {U : Array Value} {os : Oper}
theorem wp_region_storeT {id : Nat} (hm : P.follows .mixedOrders = true) (hsi : l[s]? = some os) (h0 : ∃ cs, w.heap[g0]? = some (.cells cs T (0, 0)) ∧ cs.size = n) (hU : U.size = n)
    (hst : ∀ (ρ : Operand → Value) (W : World) (cs : Array Value), (∀ t ∈ readsOf os, ρ (.tmp t) = (puts a0 vs).tmps.getD t undef) → W.heap[g0]? = some (.cells cs T (0, 0)) → cs.size = n → (execOp ρ os).run P W = .ok .skip (W.setRow g0 U)) 
    (chk : storeChk l s a0.tmps.size = true) (hkeys : vs.all (fun kv => l.any (·.dst == some kv.1)) = true)
    (hop : ∀ (i : Nat) (o : Oper) (t : Nat), l[i]? = some o → i ≠ s → o.dst = some t → (Region.wanted o (yielded l.toArray (puts a0 vs).tmps) = true ∧ ∀ W, Save g0 w W → calmAt P o (puts a0 vs).eval W ((puts a0 vs).tmps.getD t undef)) ∨ (Region.wanted o (yielded l.toArray (puts a0 vs).tmps) = false ∧ (puts a0 vs).tmps.getD t undef = undef))
    (hQ : ∀ W, Save g0 w W → W.heap[g0]? = some (.cells U T (0, 0)) → Q .normal (puts a0 vs) W) :
    (Code.region id l.toArray true).wp P Q a0 w := by
  have hE : ∀ t, (∀ (j : Nat) (o : Oper), l[j]? = some o → o.dst ≠ some t) → a0.tmps.getD t undef = (puts a0 vs).tmps.getD t undef := by
    intro t hno
    refine (puts_other t vs a0 (fun kv hkv e => ?_)).symm
    have := List.all_eq_true.1 hkeys kv hkv
    obtain ⟨o, ho, hod⟩ := List.any_eq_true.1 this
    obtain ⟨j, hj⟩ := List.getElem?_of_mem ho
    exact hno j o hj (by rw [← e]; simpa using hod)
  have hEs : (puts a0 vs).tmps.size = a0.tmps.size := puts_size _ _
  have hEd : (puts a0 vs).defers = a0.defers := puts_defers _ _
  generalize puts a0 vs = aE at *
  refine wp_region_any hm ?_
  have key : ∀ (fuel : Nat) (listed : Array Bool) (a : Act) (W : World), RInvT l a0 aE w g0 s n T U listed a W →
      (List.range l.length).countP (fun i => !listed.getD i true) ≤ fuel → wpAny P .any l.toArray Q fuel listed a W := by
    intro fuel
    have fin : ∀ (listed : Array Bool) (a : Act) (W : World), RInvT l a0 aE w g0 s n T U listed a W → Region.ready .any l.toArray listed = [] → Q .normal a W := by
      intro listed a W hI hr
      have hall := ready_allS chk hI.len hr
      have ea : a = aE := by
        refine act_ext _ _ hI.df hI.sz (fun t ht => ?_)
        · by_cases hw : ∃ (j : Nat) (o : Oper), l[j]? = some o ∧ o.dst = some t
          · obtain ⟨j, o, hj, ho⟩ := hw
            exact hI.fr1 j o t hj ho (hall j (List.getElem?_eq_some_iff.1 hj).1)
          · rw [hI.fr0 t (fun j o hj ho => (hw ⟨j, o, hj, ho⟩).elim)]
            exact hE t (fun j o hj ho => hw ⟨j, o, hj, ho⟩)
      obtain ⟨cs, hcs, _, he⟩ := hI.box
      have e := he (hall s (List.getElem?_eq_some_iff.1 hsi).1)
      subst e
      rw [ea]
      exact hQ W hI.bl hcs
    -- what an operation that may come up reads is at hand
    have look : ∀ (listed : Array Bool) (a : Act) (W : World), RInvT l a0 aE w g0 s n T U listed a W → ∀ (i : Nat) (o : Oper), l[i]? = some o →
        (∀ e ∈ o.after, Region.binds .any e = true → listed.getD e.on false = true) → ∀ t ∈ readsOf o, a.tmps.getD t undef = aE.tmps.getD t undef := by
      intro listed a W hI i o hi hall t ht
      have h := (storeChk_at chk hi).2.2.2.2.1 t ht
      · by_cases hw : ∃ (j : Nat) (oj : Oper), l[j]? = some oj ∧ oj.dst = some t
        · obtain ⟨j, oj, hj, hjd⟩ := hw
          obtain ⟨e, he, hb, hon⟩ := bindsTo_spec (h j oj hj hjd)
          exact hI.fr1 j oj t hj hjd (by rw [← hon]; exact hall e he hb)
        · rw [hI.fr0 t (fun j oj hj ho => (hw ⟨j, oj, hj, ho⟩).elim)]
          exact hE t (fun j oj hj ho => hw ⟨j, oj, hj, ho⟩)
    induction fuel with
    | zero =>
      intro listed a W hI hc
      have hr : Region.ready .any l.toArray listed = [] := by
        rw [List.eq_nil_iff_forall_not_mem]
        intro i hi
        obtain ⟨h0, o, ho, _⟩ := mem_ready.1 hi
        have hil : i < l.length := by simpa using (Array.getElem?_eq_some_iff.1 ho).1
        have : 0 < (List.range l.length).countP (fun i => !listed.getD i true) := List.countP_pos_iff.2 ⟨i, List.mem_range.2 hil, by rw [h0]; rfl⟩
        omega
      exact ⟨hr, fin listed a W hI hr⟩
    | succ fuel ih =>
      intro listed a W hI hc
      refine ⟨fin listed a W hI, fun i hi => ?_⟩
      obtain ⟨h0, o, ho, hall⟩ := mem_ready.1 hi
      have hio : l[i]? = some o := by simpa using ho
      have hil : i < l.length := (List.getElem?_eq_some_iff.1 hio).1
      have hil' : i < listed.size := by rw [hI.len]; exact hil
      have hi0 : listed.getD i false = false := by simpa [hil'] using h0
      have hC := storeChk_at chk hio
      have hwe : Region.wanted o (yielded l.toArray a.tmps) = Region.wanted o (yielded l.toArray aE.tmps) := by
        unfold Region.wanted
        cases hg : o.guard with
        | none => rfl
        | some kb =>
          obtain ⟨k, b⟩ := kb
          obtain ⟨e, he, hb, hon⟩ := bindsTo_spec (hC.1 k b hg).2
          have : yielded l.toArray a.tmps k = yielded l.toArray aE.tmps k := yielded_congr hI.sz (fun ok tk hk hd => hI.fr1 k ok tk (by simpa using hk) hd (by rw [← hon]; exact hall e he hb))
          simp only [this]
      have hcnt : (List.range l.length).countP (fun j => !(listed.setIfInBounds i true).getD j true) ≤ fuel := by
        have := count_lt (fun j => !listed.getD j true) (fun j => !(listed.setIfInBounds i true).getD j true) (fun j hj => by
            by_cases e : i = j
            · subst e; simp [hil'] at hj
            · rw [getD_set_ne true e] at hj; exact hj) i (by rw [h0]; rfl) (by simp [hil']) (List.range l.length) (List.mem_range.2 hil)
        omega
      by_cases his : i = s
      · -- the store
        subst his
        have eo : o = os := by rw [hsi] at hio; exact (Option.some.inj hio).symm
        subst eo
        have hdst := hC.2.2.2.2.2 rfl
        obtain ⟨cs, hcs, hn, _⟩ := hI.box
        have hrun := hst a.eval W cs (fun t ht => look listed a W hI i o hio hall t ht) hcs hn
        have hgu : o.guard = none := by
          cases hg : o.guard with
          | none => rfl
          | some kb => exact ((hC.1 kb.1 kb.2 hg).1 rfl).elim
        have hw : Region.wanted o (yielded l.toArray a.tmps) = true := by unfold Region.wanted; rw [hgu]
        unfold wpOp
        simp only [ho, hw, if_true]
        refine .inl ?_
        unfold Oper.wp
        rw [hrun]
        simp only [Oper.upon, hdst]
        have hp : a.put none undef = a := rfl
        rw [hp]
        refine ih _ _ _ ⟨hI.df, hI.sz, by simpa using hI.len, ?_, ?_, hI.bl.setRow _, ?_⟩ hcnt
        · intro j oj t hj hjd hl
          rw [getD_set _ _ _ hil'] at hl
          by_cases e : i = j
          · subst e; rw [hio] at hj; obtain rfl := Option.some.inj hj; rw [hdst] at hjd; cases hjd
          · rw [if_neg e] at hl; exact hI.fr1 j oj t hj hjd hl
        · intro t hno
          refine hI.fr0 t (fun j oj hj hjd => ?_)
          have := hno j oj hj hjd
          rw [getD_set _ _ _ hil'] at this
          by_cases e : i = j
          · rw [if_pos e] at this; cases this
          · rw [if_neg e] at this; exact this
        · exact ⟨U, setRow_heap W g0 cs U T (0, 0) hcs, hU, fun _ => rfl⟩
      · obtain ⟨t, hdst, htN⟩ := hC.2.2.2.1 his
        have step : ∀ W', Save g0 w W' → (∃ cs, W'.heap[g0]? = some (.cells cs T (0, 0)) ∧ cs.size = n ∧ (listed.getD s false = true → cs = U)) → wpAny P .any l.toArray Q fuel (listed.setIfInBounds i true) (a.put (some t) (aE.tmps.getD t undef)) W' := by
          intro W' hW' hbox
          refine ih _ _ _ ⟨by rw [put_defers]; exact hI.df, by rw [put_size]; exact hI.sz, by simpa using hI.len, ?_, ?_, hW', by rw [getD_set _ _ _ hil', if_neg his]; exact hbox⟩ hcnt
          · intro j oj u hj hjd hl
            by_cases htu : t = u
            · subst htu; rw [put_get_same _ _ _ (by rw [hI.sz, hEs]; exact htN)]
            · rw [put_get_ne _ _ _ _ htu]
              rw [getD_set _ _ _ hil'] at hl
              by_cases e : i = j
              · subst e; rw [hio] at hj; obtain rfl := Option.some.inj hj; rw [hdst] at hjd; exact (htu (Option.some.inj hjd)).elim
              · rw [if_neg e] at hl; exact hI.fr1 j oj u hj hjd hl
          · intro u hno
            have htu : t ≠ u := fun e => by
              subst e
              have := hno i o hio hdst
              rw [getD_set _ _ _ hil', if_pos rfl] at this; cases this
            rw [put_get_ne _ _ _ _ htu]
            refine hI.fr0 u (fun j oj hj hjd => ?_)
            have := hno j oj hj hjd
            rw [getD_set _ _ _ hil'] at this
            by_cases e : i = j
            · rw [if_pos e] at this; cases this
            · rw [if_neg e] at this; exact this
        unfold wpOp
        simp only [ho]
        rcases hop i o t hio his hdst with ⟨hw, hcalm⟩ | ⟨hw, hun⟩
        · rw [hwe, hw]
          simp only [if_true]
          refine .inl ?_
          have heq : execOp aE.eval o = execOp a.eval o := execOp_congr o hC.2.1 (fun x hx => by
              cases x with
              | tmp u =>
                have hu : u ∈ readsOf o := List.mem_filterMap.2 ⟨.tmp u, by simpa using hx, rfl⟩
                exact (look listed a W hI i o hio hall u hu).symm
              | _ => rfl)
          have hcalm' : calmAt P o a.eval W (aE.tmps.getD t undef) := by
              refine ⟨?_⟩; have hh := (hcalm W hI.bl).out; unfold calmRun at hh ⊢; rw [← heq]; exact hh
          refine wp_of_calm hcalm' (fun W' hb => ?_)
          rw [hdst]
          exact step W' (hI.bl.tr hb) (by obtain ⟨cs, hcs, hr⟩ := hI.box; exact ⟨cs, by rw [hb.block _ (Array.getElem?_eq_some_iff.1 hcs).1]; exact hcs, hr⟩)
        · rw [hwe, hw]
          simp only [Bool.false_eq_true, if_false, hdst]
          rw [hun] at step
          exact step W hI.bl hI.box
  refine key _ _ _ _ ⟨by rw [hEd], hEs.symm, by simp, ?_, ?_, ⟨rfl, rfl, rfl, Nat.le_refl _, fun _ _ _ => rfl⟩, by obtain ⟨cs, h1, h2⟩ := h0; exact ⟨cs, h1, h2, fun h => by rw [rep_false] at h; cases h⟩⟩ ?_
  · intro j o t hj hjd hl; rw [rep_false] at hl; cases hl
  · intro t _; rfl
  · exact Nat.le_trans List.countP_le_length (by simp)
/-- What the law asks of one operation that is not the store. -/
def CalmT (P : Program) (aE : Act) (w : World) (g0 : Nat) (l : List Oper) (o : Oper) : Prop := ∀ t, o.dst = some t →
  (Region.wanted o (yielded l.toArray aE.tmps) = true ∧ ∀ W, Save g0 w W → calmAt P o aE.eval W (aE.tmps.getD t undef)) ∨ (Region.wanted o (yielded l.toArray aE.tmps) = false ∧ aE.tmps.getD t undef = undef)
theorem CalmT.mk {P : Program} {aE : Act} {w : World} {g0 : Nat} {l : List Oper} {o : Oper} (t : Nat) (v : Value) (hd : o.dst = some t) (hv : aE.tmps.getD t undef = v) (hw : Region.wanted o (yielded l.toArray aE.tmps) = true) (h : ∀ W, Save g0 w W → calmAt P o aE.eval W v) : CalmT P aE w g0 l o := by
  intro t' hd'
  rw [hd] at hd'
  obtain rfl := Option.some.inj hd'
  exact .inl ⟨hw, fun W hW => by rw [hv]; exact h W hW⟩
theorem region_storeT {id : Nat} (g0 s n : Nat) (T : TypeId) (U : Array Value) (vs : List (Nat × Value)) (hm : P.follows .mixedOrders = true) (hsi : l[s]? = some os)
    (chk : storeChk l s a0.tmps.size = true) (hkeys : vs.all (fun kv => l.any (·.dst == some kv.1)) = true) (h0 : ∃ cs, w.heap[g0]? = some (.cells cs T (0, 0)) ∧ cs.size = n) (hU : U.size = n)
    (H : ∀ aE, puts a0 vs = aE → (∀ (ρ : Operand → Value) (W : World) (cs : Array Value), (∀ t ∈ readsOf os, ρ (.tmp t) = aE.tmps.getD t undef) → W.heap[g0]? = some (.cells cs T (0, 0)) → cs.size = n → (execOp ρ os).run P W = .ok .skip (W.setRow g0 U)) ∧
      AllBut (CalmT P aE w g0 l) s s 0 l ∧ ∀ W, Save g0 w W → W.heap[g0]? = some (.cells U T (0, 0)) → Q .normal aE W) :
    (Code.region id l.toArray true).wp P Q a0 w := by
  obtain ⟨h1, h2, h3⟩ := H _ rfl
  refine wp_region_storeT hm hsi h0 hU h1 chk hkeys (fun i o t hi his hd => ?_) h3
  exact AllBut.spec l 0 h2 i o hi (by omega) (by omega) t hd
end
end Go.Proofs.Ytidbikjdigemnaa
/- Contracts: the laws' marks on lists of points (and lines). (Printed by geng4.py, a program of this session.) -/
namespace Go.Proofs.Ytidbikjdigemnaa
open Go.RowKit
set_option linter.unusedVariables false
set_option linter.unusedSimpArgs false
def markP (k i : Nat) : Pt := (((k + 3 * i : Nat) : Int), ((k + 3 * i + 1 : Nat) : Int), ((k + 3 * i + 2 : Nat) : Int))
def markL (k n : Nat) : List Pt := (List.range n).map (markP k)
theorem markL_at (k n i : Nat) (h : i < n) : (markL k n).getD i (0, 0, 0) = markP k i := by simp [markL, List.getD, h]
theorem markL_length (k n : Nat) : (markL k n).length = n := by simp [markL]
theorem ret_num {a b : Int} (h : a = b) : Value.int .i64 a = Value.int .i64 b := by rw [h]
theorem mark_eq (k i : Nat) : markP k i = ((k : Int) + 3 * (i : Int), (k : Int) + 3 * (i : Int) + 1, (k : Int) + 3 * (i : Int) + 1 + 1) := by
  unfold markP
  refine Prod.ext ?_ (Prod.ext ?_ ?_) <;> simp <;> omega
theorem pts_grow {W : World} {g cap i : Nat} {T : TypeId} {M : List Pt} {x y z : Int} (hr : RoomP W g cap T) (hi : i < cap) (h : PtsAt W g 0 i M) (hM : M.getD i (0, 0, 0) = (x, y, z)) :
    PtsAt (((W.setCell ⟨g, i * 3, none⟩ (.int .i64 x)).setCell ⟨g, i * 3 + 1, none⟩ (.int .i64 y)).setCell ⟨g, i * 3 + 2, none⟩ (.int .i64 z)) g 0 (i + 1) M := by
  have ne : ∀ a b : Nat, a ≠ b → (⟨g, a, none⟩ : Addr) ≠ ⟨g, b, none⟩ := fun a b h e => h (by cases e; rfl)
  obtain ⟨u0, s0⟩ := Option.isSome_iff_exists.1 (hr.some (i * 3) (by omega))
  obtain ⟨u1, s1⟩ := Option.isSome_iff_exists.1 (hr.some (i * 3 + 1) (by omega))
  obtain ⟨u2, s2⟩ := Option.isSome_iff_exists.1 (hr.some (i * 3 + 2) (by omega))
  intro j hj
  simp only [Nat.zero_add]
  by_cases e : j = i
  · subst e
    rw [hM]
    refine ⟨?_, ?_, ?_⟩
    · rw [World.cell?_setCell_other _ _ _ _ (ne _ _ (by omega)), World.cell?_setCell_other _ _ _ _ (ne _ _ (by omega)), World.cell?_setCell_same _ _ _ s0]
    · rw [World.cell?_setCell_other _ _ _ _ (ne _ _ (by omega)), World.cell?_setCell_same (u := u1) _ _ _ (by rw [World.cell?_setCell_other _ _ _ _ (ne _ _ (by omega))]; exact s1)]
    · rw [World.cell?_setCell_same (u := u2) _ _ _ (by rw [World.cell?_setCell_other _ _ _ _ (ne _ _ (by omega)), World.cell?_setCell_other _ _ _ _ (ne _ _ (by omega))]; exact s2)]
  · obtain ⟨c0, c1, c2⟩ := h j (by omega)
    simp only [Nat.zero_add] at c0 c1 c2
    refine ⟨?_, ?_, ?_⟩
    · rw [World.cell?_setCell_other _ _ _ _ (ne _ _ (by omega)), World.cell?_setCell_other _ _ _ _ (ne _ _ (by omega)), World.cell?_setCell_other _ _ _ _ (ne _ _ (by omega))]; exact c0
    · rw [World.cell?_setCell_other _ _ _ _ (ne _ _ (by omega)), World.cell?_setCell_other _ _ _ _ (ne _ _ (by omega)), World.cell?_setCell_other _ _ _ _ (ne _ _ (by omega))]; exact c1
    · rw [World.cell?_setCell_other _ _ _ _ (ne _ _ (by omega)), World.cell?_setCell_other _ _ _ _ (ne _ _ (by omega)), World.cell?_setCell_other _ _ _ _ (ne _ _ (by omega))]; exact c2
theorem Save.refl (g : Nat) (w : World) : Save g w w := ⟨rfl, rfl, rfl, Nat.le_refl _, fun _ _ _ => rfl⟩
theorem Save.setCell {g0 : Nat} {w W : World} (h : Save g0 w W) (i : Nat) (v : Value) : Save g0 w (W.setCell ⟨g0, i, none⟩ v) :=
  ⟨h.os, h.tape, h.output, by simpa [World.setCell] using h.size, fun k hk hne => by
    have : (W.setCell ⟨g0, i, none⟩ v).heap[k]? = W.heap[k]? := by simp [World.setCell, Array.getElem?_modify, Ne.symm hne]
    rw [this]; exact h.block k hk hne⟩
/-- What marks leave. -/
structure MarkPost (g n k cap : Nat) (T : TypeId) (w : World) (e : Ending) (w' : World) : Prop where
  out : e = .returned (.int .i64 ((k + 3 * n : Nat) : Int)) ∧ Save g w w' ∧ RoomP w' g cap T ∧ PtsAt w' g 0 n (markL k n)
set_option maxHeartbeats 1000000 in
theorem markPointS_any (g n c k cap : Nat) (T : TypeId) (w : World) (hr : RoomP w g cap T) (hn : n ≤ cap) (hn1 : n ≤ 1000000) (hk : k ≤ 10000000) :
    Calls Try.prog 34 #[.slice (some ⟨g, 0, none⟩) n c, .int .i64 (k : Int)] w (MarkPost g n k cap T w) := by
  have HR0 := Lib.hid hr
  clear hr
  go_enter Try.func34, Try.ntmps34
  go_wp2
  go_loopw [1, 5, 6] (fun q i jj wr => ∃ ii : Nat, ii ≤ n ∧ i = .int .i64 ii ∧ q = .int .i64 ((k + 3 * ii : Nat) : Int) ∧ Hid (Save g w wr) ∧ Hid (RoomP wr g cap T) ∧ Hid (PtsAt wr g 0 ii (markL k n))) (fun _ i _ wr => n - (intOf i).toNat)
  case atStart => exact ⟨0, Nat.zero_le _, rfl, rfl, Lib.hid (Save.refl _ _), HR0, Lib.hid (fun j hj => absurd hj (by omega))⟩
  case round =>
    obtain ⟨ii, hi, rfl, rfl, HS, HR, HP⟩ := hrel
    by_cases hlt : ii < n
    · obtain ⟨u0, s0⟩ := Option.isSome_iff_exists.1 (HR.out.some (ii * 3) (by omega))
      have r0 := HR.out.frozen (ii * 3)
      obtain ⟨u1, s1⟩ := Option.isSome_iff_exists.1 (HR.out.some (ii * 3 + 1) (by omega))
      have r1 := HR.out.frozen (ii * 3 + 1)
      obtain ⟨u2, s2⟩ := Option.isSome_iff_exists.1 (HR.out.some (ii * 3 + 2) (by omega))
      have r2 := HR.out.frozen (ii * 3 + 2)
      go_wp2
      refine wp_loop_rounds 4 ?_
      iterate 4 (rw [rounds_succ]; go_wp2)
      go_roundw
      case rel => exact ⟨ii + 1, by omega, by go_num, ret_num (by omega), Lib.hid (((HS.out.setCell _ _).setCell _ _).setCell _ _), Lib.hid (((HR.out.set _ _).set _ _).set _ _), Lib.hid (pts_grow HR.out (by omega) HP.out (by rw [markL_at _ _ _ hlt]; exact mark_eq k ii))⟩
      case measure => simp [intOf]; omega
    · have : ii = n := by omega
      subst this
      go_wp2
      go_ret
      exact ⟨rfl, HS.out, HR.out, HP.out⟩
theorem heldPointS_any (g n c k : Nat) (w : World) (hn1 : n ≤ 1000000) (hk : k ≤ 10000000) (hp : PtsAt w g 0 n (markL k n)) :
    Calls Try.prog 36 #[.slice (some ⟨g, 0, none⟩) n c, .int .i64 (k : Int)] w (Ret w (.int .i64 ((k + 3 * n : Nat) : Int))) := by
  have HP := Lib.hid hp
  clear hp
  go_enter Try.func36, Try.ntmps36
  go_wp2
  go_loopw [1, 5, 6] (fun q i jj wr => ∃ ii : Nat, ii ≤ n ∧ i = .int .i64 ii ∧ q = .int .i64 ((k + 3 * ii : Nat) : Int) ∧ Hid (Below w.heap.size w wr)) (fun _ i _ wr => n - (intOf i).toNat)
  case atStart => exact ⟨0, Nat.zero_le _, rfl, rfl, Lib.hid (Below.refl _ _)⟩
  case round =>
    obtain ⟨ii, hi, rfl, rfl, HB⟩ := hrel
    by_cases hlt : ii < n
    · obtain ⟨c0, c1, c2⟩ := (HP.out.below HB.out) ii hlt
      rw [markL_at _ _ _ hlt, mark_eq] at c0 c1 c2
      simp only [Nat.zero_add] at c0 c1 c2
      go_wp2
      refine wp_loop_rounds 4 ?_
      iterate 4 (rw [rounds_succ]; go_wp2)
      go_roundw
      case rel => exact ⟨ii + 1, by omega, by go_num, ret_num (by omega), HB⟩
      case measure => simp [intOf]; omega
    · have : ii = n := by omega
      subst this
      go_wp2
      go_ret
      exact ⟨rfl, HB.out⟩
theorem markPointS_nil (b : Option Addr) (c : Nat) (k : Int) (w : World) : Calls Try.prog 34 #[.slice b 0 c, .int .i64 k] w fun e w' => e = .returned (.int .i64 k) ∧ w = w' := by
  go_enter Try.func34, Try.ntmps34
  go_wp2
  refine wp_loop_rounds 1 ?_
  rw [rounds_succ]; go_wp2
  go_ret
  exact ⟨rfl, rfl⟩
theorem heldPointS_nil (b : Option Addr) (c : Nat) (k : Int) (w : World) : Calls Try.prog 36 #[.slice b 0 c, .int .i64 k] w fun e w' => e = .returned (.int .i64 k) ∧ w = w' := by
  go_enter Try.func36, Try.ntmps36
  go_wp2
  refine wp_loop_rounds 1 ?_
  rw [rounds_succ]; go_wp2
  go_ret
  exact ⟨rfl, rfl⟩
set_option maxHeartbeats 1000000 in
theorem markLineS_any (g n c k cap : Nat) (T : TypeId) (w : World) (hr : RoomP w g cap T) (hn : n ≤ cap) (hn1 : n ≤ 1000000) (hk : k ≤ 10000000) :
    Calls Try.prog 35 #[.slice (some ⟨g, 0, none⟩) n c, .int .i64 (k : Int)] w (MarkPost g n k cap T w) := by
  have HR0 := Lib.hid hr
  clear hr
  go_enter Try.func35, Try.ntmps35
  go_wp2
  go_loopw [1, 5, 6] (fun q i jj wr => ∃ ii : Nat, ii ≤ n ∧ i = .int .i64 ii ∧ q = .int .i64 ((k + 3 * ii : Nat) : Int) ∧ Hid (Save g w wr) ∧ Hid (RoomP wr g cap T) ∧ Hid (PtsAt wr g 0 ii (markL k n))) (fun _ i _ wr => n - (intOf i).toNat)
  case atStart => exact ⟨0, Nat.zero_le _, rfl, rfl, Lib.hid (Save.refl _ _), HR0, Lib.hid (fun j hj => absurd hj (by omega))⟩
  case round =>
    obtain ⟨ii, hi, rfl, rfl, HS, HR, HP⟩ := hrel
    by_cases hlt : ii < n
    · obtain ⟨u0, s0⟩ := Option.isSome_iff_exists.1 (HR.out.some (ii * 3) (by omega))
      have r0 := HR.out.frozen (ii * 3)
      obtain ⟨u1, s1⟩ := Option.isSome_iff_exists.1 (HR.out.some (ii * 3 + 1) (by omega))
      have r1 := HR.out.frozen (ii * 3 + 1)
      obtain ⟨u2, s2⟩ := Option.isSome_iff_exists.1 (HR.out.some (ii * 3 + 2) (by omega))
      have r2 := HR.out.frozen (ii * 3 + 2)
      go_wp2
      refine wp_loop_rounds 4 ?_
      iterate 4 (rw [rounds_succ]; go_wp2)
      go_roundw
      case rel => exact ⟨ii + 1, by omega, by go_num, ret_num (by omega), Lib.hid (((HS.out.setCell _ _).setCell _ _).setCell _ _), Lib.hid (((HR.out.set _ _).set _ _).set _ _), Lib.hid (pts_grow HR.out (by omega) HP.out (by rw [markL_at _ _ _ hlt]; exact mark_eq k ii))⟩
      case measure => simp [intOf]; omega
    · have : ii = n := by omega
      subst this
      go_wp2
      go_ret
      exact ⟨rfl, HS.out, HR.out, HP.out⟩
theorem heldLineS_any (g n c k : Nat) (w : World) (hn1 : n ≤ 1000000) (hk : k ≤ 10000000) (hp : PtsAt w g 0 n (markL k n)) :
    Calls Try.prog 37 #[.slice (some ⟨g, 0, none⟩) n c, .int .i64 (k : Int)] w (Ret w (.int .i64 ((k + 3 * n : Nat) : Int))) := by
  have HP := Lib.hid hp
  clear hp
  go_enter Try.func37, Try.ntmps37
  go_wp2
  go_loopw [1, 5, 6] (fun q i jj wr => ∃ ii : Nat, ii ≤ n ∧ i = .int .i64 ii ∧ q = .int .i64 ((k + 3 * ii : Nat) : Int) ∧ Hid (Below w.heap.size w wr)) (fun _ i _ wr => n - (intOf i).toNat)
  case atStart => exact ⟨0, Nat.zero_le _, rfl, rfl, Lib.hid (Below.refl _ _)⟩
  case round =>
    obtain ⟨ii, hi, rfl, rfl, HB⟩ := hrel
    by_cases hlt : ii < n
    · obtain ⟨c0, c1, c2⟩ := (HP.out.below HB.out) ii hlt
      rw [markL_at _ _ _ hlt, mark_eq] at c0 c1 c2
      simp only [Nat.zero_add] at c0 c1 c2
      go_wp2
      refine wp_loop_rounds 4 ?_
      iterate 4 (rw [rounds_succ]; go_wp2)
      go_roundw
      case rel => exact ⟨ii + 1, by omega, by go_num, ret_num (by omega), HB⟩
      case measure => simp [intOf]; omega
    · have : ii = n := by omega
      subst this
      go_wp2
      go_ret
      exact ⟨rfl, HB.out⟩
theorem markLineS_nil (b : Option Addr) (c : Nat) (k : Int) (w : World) : Calls Try.prog 35 #[.slice b 0 c, .int .i64 k] w fun e w' => e = .returned (.int .i64 k) ∧ w = w' := by
  go_enter Try.func35, Try.ntmps35
  go_wp2
  refine wp_loop_rounds 1 ?_
  rw [rounds_succ]; go_wp2
  go_ret
  exact ⟨rfl, rfl⟩
theorem heldLineS_nil (b : Option Addr) (c : Nat) (k : Int) (w : World) : Calls Try.prog 37 #[.slice b 0 c, .int .i64 k] w fun e w' => e = .returned (.int .i64 k) ∧ w = w' := by
  go_enter Try.func37, Try.ntmps37
  go_wp2
  refine wp_loop_rounds 1 ?_
  rw [rounds_succ]; go_wp2
  go_ret
  exact ⟨rfl, rfl⟩
end Go.Proofs.Ytidbikjdigemnaa
/- Contracts: the laws' figures, marked, held and compared; figures laid with room. -/
namespace Go.Proofs.Ytidbikjdigemnaa
open Go.RowKit
set_option linter.unusedVariables false
set_option linter.unusedSimpArgs false
structure LaidF2 (w : World) (n1 n2 : Nat) (l1 l2 : List Pt) (e : Ending) (w' : World) : Prop where
  out : ∃ g1 g2, e = .returned (figV (some ⟨g1, 0, none⟩) n1 (n1 + roomN n1) (some ⟨g2, 0, none⟩) n2 (n2 + roomN n2)) ∧ w.heap.size ≤ g1 ∧ g1 < g2 ∧ g2 < w'.heap.size ∧ RoomP w' g1 (n1 + roomN n1) 49 ∧ RoomP w' g2 (n2 + roomN n2) 50 ∧ PtsAt w' g1 0 (n1 + roomN n1) (withRoomP l1) ∧ PtsAt w' g2 0 (n2 + roomN n2) (withRoomP l2) ∧ Below w.heap.size w w'
theorem room_other {w : World} {g cap : Nat} {T : TypeId} (h : RoomP w g cap T) {k i : Nat} (hg : g ≠ k) (v : Value) : RoomP (w.setCell ⟨k, i, none⟩ v) g cap T := by
  obtain ⟨cur, h1, h2⟩ := h
  exact ⟨cur, (Below.heap_setCell _ _ _ _ (by show g ≠ k; omega)).trans h1, h2⟩
set_option maxHeartbeats 1000000 in
theorem toFigure_R2 (b1 : Option Addr) (n1 c1 : Nat) (b2 : Option Addr) (n2 c2 : Nat) (l1 l2 : List Pt) (w : World) (hn1 : n1 ≤ 1000000) (hn2 : n2 ≤ 1000000) (h1 : ListP w b1 n1 l1) (h2 : ListP w b2 n2 l2) :
    Calls Try.prog 8 #[figV b1 n1 c1 b2 n2 c2, .bool false] w (LaidF2 w n1 n2 l1 l2) := by
  have HA := Lib.hid (fun (W : World) (hW : Below w.heap.size w W) => toPointS_R b1 n1 c1 l1 W hn1 (h1.below hW))
  have HL := Lib.hid (fun (W : World) (hW : Below w.heap.size w W) => toLineS_R b2 n2 c2 l2 W hn2 (h2.below hW))
  clear h1 h2
  go_enter Try.func8, Try.ntmps8
  go_wp2_with (first
    | (go_at_call 27; (with_reducible refine (HA.out _ (by repeat (first | exact Below.refl _ _ | refine bset ?_ _ _ (by omega) _ | refine bal ?_ _ | refine bdrN ?_ _ | refine bdr ?_))).mono ?_); rintro e w1_ ⟨g1, rfl, hg1, hgl1, hr1, hp1, hb1⟩; obtain ⟨hcb1, hfb1, hlb1⟩ := bcell hb1; have hsz1 := hb1.size; (try simp at hsz1); (try simp at hg1); have HB1 := Lib.hid hb1; have HP1 := Lib.hid hp1; have HR1 := Lib.hid hr1; clear hb1 hp1 hr1; have hl01 : w.heap.size < w1_.heap.size := (by omega); have hl11 : w.heap.size + 1 < w1_.heap.size := (by omega); have hl21 : w.heap.size + 1 + 1 < w1_.heap.size := (by omega))
    | (go_at_call 28; (with_reducible refine (HL.out _ (by repeat (first | exact Below.refl _ _ | refine bset ?_ _ _ (by omega) _ | refine bal ?_ _ | refine bdrN ?_ _ | refine bdr ?_ | refine below_tr' ?_ HB1.out))).mono ?_); rintro e w2_ ⟨g2, rfl, hg2, hgl2, hr2, hp2, hb2⟩; obtain ⟨hcb2, hfb2, hlb2⟩ := bcell hb2; have hsz2 := hb2.size; (try simp at hsz2); (try simp at hg2); have HB2 := Lib.hid hb2; have HP2 := Lib.hid hp2; have HR2 := Lib.hid hr2; clear hb2 hp2 hr2; have hl02 : w.heap.size < w2_.heap.size := (by omega); have hl12 : w.heap.size + 1 < w2_.heap.size := (by omega); have hl22 : w.heap.size + 1 + 1 < w2_.heap.size := (by omega)))
  refine bodyPost_ret (v := figV (some ⟨g1, 0, none⟩) n1 (n1 + roomN n1) (some ⟨g2, 0, none⟩) n2 (n2 + roomN n2)) (by simp [results, Try.results8, go_sem, hcb2, hcb1, hl02, hl12, hl22, hl01, hl11, hl21]) rfl ⟨⟨g1, g2, rfl, by omega, by omega, by simp; omega, ?_, ?_, ?_, ?_, (by repeat (first | exact Below.refl _ _ | refine bset ?_ _ _ (by omega) _ | refine bal ?_ _ | refine bdrN ?_ _ | refine bdr ?_ | refine below_tr' ?_ HB2.out | refine below_tr' ?_ HB1.out))⟩⟩
  · exact room_other (room_other (room_other ((room_other HR1.out (by omega) _).below HB2.out) (by omega) _) (by omega) _) (by omega) _
  · exact room_other (room_other (room_other HR2.out (by omega) _) (by omega) _) (by omega) _
  · exact pts_setCell_other (pts_setCell_other (pts_setCell_other ((pts_setCell_other HP1.out (by omega) _).below HB2.out) (by omega) _) (by omega) _) (by omega) _
  · exact pts_setCell_other (pts_setCell_other (pts_setCell_other HP2.out (by omega) _) (by omega) _) (by omega) _
/-- All blocks but the list's are as they were. -/
structure SaveB (b : Option Addr) (w W : World) : Prop where
  os : W.os = w.os
  tape : W.tape = w.tape
  output : W.output = w.output
  size : w.heap.size ≤ W.heap.size
  block : ∀ k, k < w.heap.size → (∀ a, b = some a → a.block ≠ k) → W.heap[k]? = w.heap[k]?
theorem SaveB.below {b : Option Addr} {B : Nat} {w W W' : World} (h : SaveB b W W') (hb : Below B w W) (hg : ∀ a, b = some a → B ≤ a.block) (hs : B ≤ W.heap.size) : Below B w W' :=
  ⟨h.os.trans hb.os, h.tape.trans hb.tape, h.output.trans hb.output, Nat.le_trans hb.size h.size, fun k hk => (h.block k (by omega) (fun a ha => by have := hg a ha; omega)).trans (hb.block k hk)⟩
theorem pts_saveB {w W : World} {b : Option Addr} {g o n : Nat} {l : List Pt} (h : PtsAt w g o n l) (hs : SaveB b w W) (hne : ∀ a, b = some a → a.block ≠ g) (hlt : g < w.heap.size) : PtsAt W g o n l := by
  have hc : ∀ i, W.cell? ⟨g, i, none⟩ = w.cell? ⟨g, i, none⟩ := fun i => by
    unfold World.cell?
    rw [hs.block g hlt hne]
  intro i hi
  rw [hc, hc, hc]
  exact h i hi
/-- Where a list lies. -/
def Lies (b : Option Addr) (lo hi : Nat) : Prop := ∀ a, b = some a → lo ≤ a.block ∧ a.block < hi
theorem list_saveB {w W : World} {b b' : Option Addr} {n lo hi : Nat} {l : List Pt} (h : ListP w b' n l) (hs : SaveB b w W) (hl : Lies b' lo hi) (hw : hi ≤ w.heap.size) (hne : ∀ a, b = some a → a.block < lo ∨ hi ≤ a.block) : ListP W b' n l :=
  ⟨h.1, fun hn => by
    obtain ⟨g, o, rfl, hp⟩ := h.2 hn
    obtain ⟨h1, h2⟩ := hl _ rfl
    simp only at h1 h2
    exact ⟨g, o, rfl, pts_saveB hp hs (fun a ha => by have := hne a ha; omega) (by omega)⟩⟩
/-- No list, or room at an address. -/
def MkL (W : World) (b : Option Addr) (n : Nat) (T : TypeId) : Prop := (b = none ∧ n = 0) ∨ ∃ g cap, b = some ⟨g, 0, none⟩ ∧ n ≤ cap ∧ RoomP W g cap T
theorem MkL.saveB {w W : World} {b b' : Option Addr} {n lo hi : Nat} {T : TypeId} (h : MkL w b' n T) (hs : SaveB b w W) (hl : Lies b' lo hi) (hw : hi ≤ w.heap.size) (hne : ∀ a, b = some a → a.block < lo ∨ hi ≤ a.block) : MkL W b' n T := by
  rcases h with h0 | ⟨g, cap, rfl, hc, cur, h1, h2⟩
  · exact .inl h0
  · obtain ⟨k1, k2⟩ := hl _ rfl
    simp only at k1 k2
    exact .inr ⟨g, cap, rfl, hc, cur, (hs.block g (by omega) (fun a ha => by have := hne a ha; omega)).trans h1, h2⟩
theorem MkL.below {w W : World} {b : Option Addr} {n : Nat} {T : TypeId} (h : MkL w b n T) (hb : Below w.heap.size w W) : MkL W b n T := by
  rcases h with h0 | ⟨g, cap, e, hc, hr⟩
  · exact .inl h0
  · exact .inr ⟨g, cap, e, hc, hr.below hb⟩
/-- Marked from k on. -/
def Mkd (W : World) (b : Option Addr) (n k : Nat) : Prop := (b = none ∧ n = 0) ∨ ∃ g, b = some ⟨g, 0, none⟩ ∧ PtsAt W g 0 n (markL k n)
theorem Mkd.below {w W : World} {b : Option Addr} {n k : Nat} (h : Mkd w b n k) (hb : Below w.heap.size w W) : Mkd W b n k := by
  rcases h with h0 | ⟨g, e, hp⟩
  · exact .inl h0
  · exact .inr ⟨g, e, hp.below hb⟩
theorem Mkd.saveB {w W : World} {b b' : Option Addr} {n k lo hi : Nat} (h : Mkd w b' n k) (hs : SaveB b w W) (hl : Lies b' lo hi) (hw : hi ≤ w.heap.size) (hne : ∀ a, b = some a → a.block < lo ∨ hi ≤ a.block) : Mkd W b' n k := by
  rcases h with h0 | ⟨g, rfl, hp⟩
  · exact .inl h0
  · obtain ⟨k1, k2⟩ := hl _ rfl
    simp only at k1 k2
    exact .inr ⟨g, rfl, pts_saveB hp hs (fun a ha => by have := hne a ha; omega) (by omega)⟩
theorem saveB_of {g : Nat} {w W : World} (h : Save g w W) : SaveB (some ⟨g, 0, none⟩) w W :=
  ⟨h.os, h.tape, h.output, h.size, fun k hk hne => h.block k hk (fun e => hne _ rfl e.symm)⟩
theorem saveB_refl (b : Option Addr) (w : World) : SaveB b w w := ⟨rfl, rfl, rfl, Nat.le_refl _, fun _ _ _ => rfl⟩
theorem markPointS_gen (b : Option Addr) (n c k : Nat) (T : TypeId) (w : World) (h : MkL w b n T) (hn : n ≤ 1000000) (hk : k ≤ 10000000) :
    Calls Try.prog 34 #[.slice b n c, .int .i64 (k : Int)] w (fun e w' => e = .returned (.int .i64 ((k + 3 * n : Nat) : Int)) ∧ SaveB b w w' ∧ Mkd w' b n k) := by
  rcases h with ⟨rfl, rfl⟩ | ⟨g, cap, rfl, hc, hr⟩
  · exact (markPointS_nil none c k w).mono fun e w' ⟨h1, h2⟩ => ⟨h1, h2 ▸ saveB_refl _ _, .inl ⟨rfl, rfl⟩⟩
  · exact (markPointS_any g n c k cap T w hr hc hn hk).mono fun e w' ⟨h1, h2, _, h4⟩ => ⟨h1, saveB_of h2, .inr ⟨g, rfl, h4⟩⟩
theorem markLineS_gen (b : Option Addr) (n c k : Nat) (T : TypeId) (w : World) (h : MkL w b n T) (hn : n ≤ 1000000) (hk : k ≤ 10000000) :
    Calls Try.prog 35 #[.slice b n c, .int .i64 (k : Int)] w (fun e w' => e = .returned (.int .i64 ((k + 3 * n : Nat) : Int)) ∧ SaveB b w w' ∧ Mkd w' b n k) := by
  rcases h with ⟨rfl, rfl⟩ | ⟨g, cap, rfl, hc, hr⟩
  · exact (markLineS_nil none c k w).mono fun e w' ⟨h1, h2⟩ => ⟨h1, h2 ▸ saveB_refl _ _, .inl ⟨rfl, rfl⟩⟩
  · exact (markLineS_any g n c k cap T w hr hc hn hk).mono fun e w' ⟨h1, h2, _, h4⟩ => ⟨h1, saveB_of h2, .inr ⟨g, rfl, h4⟩⟩
theorem heldPointS_gen (b : Option Addr) (n c k : Nat) (w : World) (h : Mkd w b n k) (hn : n ≤ 1000000) (hk : k ≤ 10000000) :
    Calls Try.prog 36 #[.slice b n c, .int .i64 (k : Int)] w (Ret w (.int .i64 ((k + 3 * n : Nat) : Int))) := by
  rcases h with ⟨rfl, rfl⟩ | ⟨g, rfl, hp⟩
  · exact (heldPointS_nil none c k w).mono fun e w' ⟨h1, h2⟩ => ⟨h1, h2 ▸ Below.refl _ _⟩
  · exact heldPointS_any g n c k w hn hk hp
theorem heldLineS_gen (b : Option Addr) (n c k : Nat) (w : World) (h : Mkd w b n k) (hn : n ≤ 1000000) (hk : k ≤ 10000000) :
    Calls Try.prog 37 #[.slice b n c, .int .i64 (k : Int)] w (Ret w (.int .i64 ((k + 3 * n : Nat) : Int))) := by
  rcases h with ⟨rfl, rfl⟩ | ⟨g, rfl, hp⟩
  · exact (heldLineS_nil none c k w).mono fun e w' ⟨h1, h2⟩ => ⟨h1, h2 ▸ Below.refl _ _⟩
  · exact heldLineS_any g n c k w hn hk hp
/-- What marks on a figure leave: both lists marked, all else as it was. -/
structure MarkF (b1 : Option Addr) (n1 : Nat) (b2 : Option Addr) (n2 : Nat) (M : Int) (w : World) (e : Ending) (w' : World) : Prop where
  out : ∃ wm wn, e = .returned (.int .i64 M) ∧ Below w.heap.size w wm ∧ SaveB b1 wm wn ∧ SaveB b2 wn w' ∧ Mkd w' b1 n1 101 ∧ Mkd w' b2 n2 (101 + 3 * n1)
def markN (n1 n2 : Nat) : Int := ((101 + 3 * n1 + 3 * n2 : Nat) : Int)
set_option maxHeartbeats 2000000 in
theorem markFigure_any (b1 : Option Addr) (n1 c1 : Nat) (b2 : Option Addr) (n2 c2 : Nat) (T1 T2 : TypeId) (w : World) (hn1 : n1 ≤ 1000000) (hn2 : n2 ≤ 1000000) (h1 : MkL w b1 n1 T1) (h2 : MkL w b2 n2 T2)
    (lo1 hi1 lo2 hi2 : Nat) (e1 : Lies b1 lo1 hi1) (e2 : Lies b2 lo2 hi2) (m1 : hi1 ≤ w.heap.size) (m2 : hi2 ≤ w.heap.size) (hd : hi1 ≤ lo2 ∨ hi2 ≤ lo1) :
    Calls Try.prog 12 #[figV b1 n1 c1 b2 n2 c2, .int .i64 101] w (MarkF b1 n1 b2 n2 (markN n1 n2) w) := by
  have HP : Hid (∀ (W : World), MkL W b1 n1 T1 → Calls Try.prog 34 #[.slice b1 n1 c1, .int .i64 101] W (fun e w' => e = .returned (.int .i64 ((101 + 3 * n1 : Nat) : Int)) ∧ SaveB b1 W w' ∧ Mkd w' b1 n1 101)) := Lib.hid (fun W h => markPointS_gen b1 n1 c1 101 T1 W h hn1 (by omega))
  have HL : Hid (∀ (W : World), MkL W b2 n2 T2 → Calls Try.prog 35 #[.slice b2 n2 c2, .int .i64 ((101 + 3 * n1 : Nat) : Int)] W (fun e w' => e = .returned (.int .i64 (markN n1 n2)) ∧ SaveB b2 W w' ∧ Mkd w' b2 n2 (101 + 3 * n1))) := Lib.hid (fun W h => markLineS_gen b2 n2 c2 (101 + 3 * n1) T2 W h hn2 (by omega))
  have H1 := Lib.hid h1
  have H2 := Lib.hid h2
  have E1 := Lib.hid e1
  have E2 := Lib.hid e2
  have KM : Hid (∀ W W', SaveB b1 W W' → w.heap.size ≤ W.heap.size → MkL W b2 n2 T2 → MkL W' b2 n2 T2) := Lib.hid (fun W W' hs hw h => h.saveB hs e2 (Nat.le_trans m2 hw) (fun a ha => by have := e1 a ha; omega))
  have KD : Hid (∀ W W', SaveB b2 W W' → w.heap.size ≤ W.heap.size → Mkd W b1 n1 101 → Mkd W' b1 n1 101) := Lib.hid (fun W W' hs hw h => h.saveB hs e1 (Nat.le_trans m1 hw) (fun a ha => by have := e2 a ha; omega))
  have KB : Hid (∀ a, b1 = some a → a.block < w.heap.size) := Lib.hid (fun a ha => by have := e1 a ha; omega)
  generalize ((101 + 3 * n1 : Nat) : Int) = M1 at *
  generalize markN n1 n2 = M at *
  clear h1 h2 e1 e2 m1 m2 hd
  go_enter Try.func12, Try.ntmps12
  have x0 : (w.alloc (.cells #[.slice b1 n1 c1, .slice b2 n2 c2] 29)).cell? ⟨w.heap.size, 0, none⟩ = some (.slice b1 n1 c1) := rowV (heap_alloc_new _ _) rfl
  go_wp2_with (go_at_call 34; refine (HP.out _ (H1.out.below (bal (Below.refl _ _) _))).mono ?_; rintro e w1_ ⟨rfl, hs, hm⟩; have HS1 := Lib.hid hs; have HM1 := Lib.hid hm; clear hs hm; have k1 := (HS1.out.block w.heap.size (by simp) (fun a ha => by have := KB.out a ha; omega)).trans (heap_alloc_new _ _); have x1 : w1_.cell? ⟨w.heap.size, 1, none⟩ = some (.slice b2 n2 c2) := rowV k1 rfl)
  have s1 := HS1.out.size
  simp at s1
  go_wp2_with (go_at_call 35; refine (HL.out _ (KM.out _ _ HS1.out (by simp) (H2.out.below (bal (Below.refl _ _) _)))).mono ?_; rintro e w2_ ⟨rfl, hs, hm⟩; have HS2 := Lib.hid hs; have HM2 := Lib.hid hm; clear hs hm)
  go_ret
  exact ⟨_, w1_, rfl, bal (Below.refl _ _) _, HS1.out, HS2.out, KD.out _ _ HS2.out (by omega) HM1.out, HM2.out⟩
set_option maxHeartbeats 2000000 in
theorem heldFigure_any (b1 : Option Addr) (n1 c1 : Nat) (b2 : Option Addr) (n2 c2 : Nat) (w : World) (hn1 : n1 ≤ 1000000) (hn2 : n2 ≤ 1000000) (h1 : Mkd w b1 n1 101) (h2 : Mkd w b2 n2 (101 + 3 * n1)) :
    Calls Try.prog 13 #[figV b1 n1 c1 b2 n2 c2, .int .i64 101] w (Ret w (.int .i64 (markN n1 n2))) := by
  have HP : Hid (∀ (W : World), Mkd W b1 n1 101 → Calls Try.prog 36 #[.slice b1 n1 c1, .int .i64 101] W (Ret W (.int .i64 ((101 + 3 * n1 : Nat) : Int)))) := Lib.hid (fun W h => heldPointS_gen b1 n1 c1 101 W h hn1 (by omega))
  have HL : Hid (∀ (W : World), Mkd W b2 n2 (101 + 3 * n1) → Calls Try.prog 37 #[.slice b2 n2 c2, .int .i64 ((101 + 3 * n1 : Nat) : Int)] W (Ret W (.int .i64 (markN n1 n2)))) := Lib.hid (fun W h => heldLineS_gen b2 n2 c2 (101 + 3 * n1) W h hn2 (by omega))
  have hm1 : ¬ ((101 + 3 * n1 : Nat) : Int) < 0 := by omega
  have hm2 : ¬ markN n1 n2 < 0 := by unfold markN; omega
  have H1 := Lib.hid h1
  have H2 := Lib.hid h2
  generalize ((101 + 3 * n1 : Nat) : Int) = M1 at *
  generalize markN n1 n2 = M at *
  clear h1 h2
  go_enter Try.func13, Try.ntmps13
  go_wp2_with (first
    | (go_at_call 36; (with_reducible refine (HP.out _ (H1.out.below (bal (Below.refl _ _) _))).mono ?_); rintro e w1_ ⟨rfl, hb1⟩; obtain ⟨hcb1, hfb1, hlb1⟩ := bcell hb1; have hsz1 := hb1.size; (try simp at hsz1); have HB1 := Lib.hid hb1; clear hb1; (try (have hl01 : w.heap.size < w1_.heap.size := by omega)))
    | (go_at_call 37; (with_reducible refine (HL.out _ ((H2.out.below (bal (Below.refl _ _) _)).below HB1.out)).mono ?_); rintro e w2_ ⟨rfl, hb2⟩; obtain ⟨hcb2, hfb2, hlb2⟩ := bcell hb2; have hsz2 := hb2.size; (try simp at hsz2); have HB2 := Lib.hid hb2; clear hb2; (try (have hl02 : w.heap.size < w2_.heap.size := by omega))))
  go_ret
  exact ⟨rfl, (by repeat (first | exact Below.refl _ _ | refine bset ?_ _ _ (by omega) _ | refine bal ?_ _ | refine bdrN ?_ _ | refine bdr ?_ | refine below_tr' ?_ HB2.out | refine below_tr' ?_ HB1.out))⟩
set_option maxHeartbeats 2000000 in
theorem eqFigure_same (a1 : Option Addr) (d1 : Nat) (a2 : Option Addr) (d2 : Nat) (b1 : Option Addr) (c1 : Nat) (b2 : Option Addr) (c2 n1 n2 : Nat) (l1 l2 : List Pt) (w : World) (hn1 : n1 ≤ 1000000) (hn2 : n2 ≤ 1000000)
    (h1 : ListP w a1 n1 l1) (h2 : ListP w a2 n2 l2) (h3 : ListP w b1 n1 l1) (h4 : ListP w b2 n2 l2) :
    Calls Try.prog 10 #[figV a1 n1 d1 a2 n2 d2, figV b1 n1 c1 b2 n2 c2] w (Ret w (.bool true)) := by
  have HP := Lib.hid (fun (W : World) (hW : Below w.heap.size w W) => eqPointS_same a1 b1 n1 d1 c1 l1 W (by omega) (h1.below hW) (h3.below hW))
  have HL := Lib.hid (fun (W : World) (hW : Below w.heap.size w W) => eqLineS_same a2 b2 n2 d2 c2 l2 W (by omega) (h2.below hW) (h4.below hW))
  clear h1 h2 h3 h4
  go_enter Try.func10, Try.ntmps10
  go_wp2_with (first
    | (go_at_call 30; (with_reducible refine (HP.out _ (by repeat (first | exact Below.refl _ _ | refine bset ?_ _ _ (by omega) _ | refine bal ?_ _ | refine bdrN ?_ _ | refine bdr ?_))).mono ?_); rintro e w1_ ⟨rfl, hb1⟩; obtain ⟨hcb1, hfb1, hlb1⟩ := bcell hb1; have hsz1 := hb1.size; (try simp at hsz1); have HB1 := Lib.hid hb1; clear hb1; (try (have hl01 : w.heap.size < w1_.heap.size := by omega)); (try (have hl11 : w.heap.size + 1 < w1_.heap.size := by omega)))
    | (go_at_call 31; (with_reducible refine (HL.out _ (by repeat (first | exact Below.refl _ _ | refine bset ?_ _ _ (by omega) _ | refine bal ?_ _ | refine bdrN ?_ _ | refine bdr ?_ | refine below_tr' ?_ HB1.out))).mono ?_); rintro e w2_ ⟨rfl, hb2⟩; obtain ⟨hcb2, hfb2, hlb2⟩ := bcell hb2; have hsz2 := hb2.size; (try simp at hsz2); have HB2 := Lib.hid hb2; clear hb2; (try (have hl02 : w.heap.size < w2_.heap.size := by omega)); (try (have hl12 : w.heap.size + 1 < w2_.heap.size := by omega))))
  go_ret
  exact ⟨rfl, (by repeat (first | exact Below.refl _ _ | refine bset ?_ _ _ (by omega) _ | refine bal ?_ _ | refine bdrN ?_ _ | refine bdr ?_ | refine below_tr' ?_ HB2.out | refine below_tr' ?_ HB1.out))⟩
theorem own_all {W : World} {base : Nat} {T : TypeId} {v : Value} {l : List Pt} {n : Nat} (h : W.ownsRow base T 3 v n (ptCs l)) (hl : l.length = n) :
    ∃ b c, v = .slice b n c ∧ ListP W b n l ∧ Lies b base W.heap.size ∧ MkL W b n T := by
  rcases Nat.eq_zero_or_pos n with h0 | h0
  · subst h0
    obtain rfl := List.length_eq_zero_iff.1 hl
    rcases h.2 with ⟨rfl, _⟩ | ⟨g, cap, cur, rfl, hb, hg, hle, _, hsz, htk⟩
    · exact ⟨none, 0, rfl, listP_nil, (fun a ha => by cases ha), .inl ⟨rfl, rfl⟩⟩
    · exact ⟨_, _, rfl, listP_nil, (fun a ha => by cases ha; exact ⟨hb, (Array.getElem?_eq_some_iff.1 hg).1⟩), .inr ⟨g, cap, rfl, hle, cur, hg, hsz⟩⟩
  · obtain ⟨g, cap, e, hb, hg, hp⟩ := ownPts h hl h0
    subst e
    rcases h.2 with ⟨e, _⟩ | ⟨g', cap', cur, e, hb', hg', hle, _, hsz, htk⟩
    · cases e
    · cases e
      exact ⟨_, _, rfl, listP_mk hl hp, (fun a ha => by cases ha; exact ⟨hb, hg⟩), .inr ⟨g, cap, rfl, hle, cur, hg', hsz⟩⟩
end Go.Proofs.Ytidbikjdigemnaa
