/- Texts of the claim, in build order: RegT, G4, S7, T4, T5, LP1, GO6. No condition. -/
import Derived.Test.YtoagfpdicpcjnaaZGroupOrder11
/- A region that draws its order and stores once into a block that is there: all other blocks are as they were. -/
namespace Go.Proofs.Ytoagfpdicpcjnaa
open Go.RowKit
set_option linter.unusedVariables false
set_option linter.unusedSimpArgs false
/-- All blocks but one are as they were. -/
structure Save (g0 : Nat) (w W : World) : Prop where
  os : W.os = w.os
  tape : W.tape = w.tape
  output : W.output = w.output
  size : w.heap.size ≤ W.heap.size
  block : ∀ k, k < w.heap.size → k ≠ g0 → W.heap[k]? = w.heap[k]?
theorem Save.tr {g0 : Nat} {w W W' : World} (h : Save g0 w W) (hb : Below W.heap.size W W') : Save g0 w W' :=
  ⟨hb.os.trans h.os, hb.tape.trans h.tape, hb.output.trans h.output, Nat.le_trans h.size hb.size, fun k hk hne => (hb.block k (Nat.lt_of_lt_of_le hk h.size)).trans (h.block k hk hne)⟩
theorem Save.setRow {g0 : Nat} {w W : World} (h : Save g0 w W) (cs : Array Value) : Save g0 w (W.setRow g0 cs) :=
  ⟨h.os, h.tape, h.output, by simpa [World.setRow] using h.size, fun k hk hne => (setRow_other W g0 k cs hne).trans (h.block k hk hne)⟩
theorem Save.below {g0 b : Nat} {w W W' : World} (h : Save g0 W W') (hb : Below b w W) (hg : b ≤ g0) (hs : b ≤ W.heap.size) : Below b w W' :=
  ⟨h.os.trans hb.os, h.tape.trans hb.tape, h.output.trans hb.output, Nat.le_trans hb.size h.size, fun k hk => (h.block k (by omega) (by omega)).trans (hb.block k hk)⟩
structure RInvT (l : List Oper) (a0 aE : Act) (w0 : World) (g0 s n : Nat) (T : TypeId) (U : Array Value) (listed : Array Bool) (a : Act) (w : World) : Prop where
  df : a.defers = aE.defers
  sz : a.tmps.size = aE.tmps.size
  len : listed.size = l.length
  fr1 : ∀ (j : Nat) (o : Oper) (t : Nat), l[j]? = some o → o.dst = some t → listed.getD j false = true → a.tmps.getD t undef = aE.tmps.getD t undef
  fr0 : ∀ t : Nat, (∀ (j : Nat) (o : Oper), l[j]? = some o → o.dst = some t → listed.getD j false = false) → a.tmps.getD t undef = a0.tmps.getD t undef
  bl : Save g0 w0 w
  box : ∃ cs, w.heap[g0]? = some (.cells cs T (0, 0)) ∧ cs.size = n ∧ (listed.getD s false = true → cs = U)
section
variable {P : Program} {Q : Exit → Act → World → Prop} {l : List Oper} {a0 : Act} {w : World} {vs : List (Nat × Value)} {g0 s n : Nat} {T : TypeId} {U : Array Value} {os : Oper}
theorem wp_region_storeT {id : Nat} (hm : P.follows .mixedOrders = true) (hsi : l[s]? = some os) (h0 : ∃ cs, w.heap[g0]? = some (.cells cs T (0, 0)) ∧ cs.size = n) (hU : U.size = n)
    (hst : ∀ (ρ : Operand → Value) (W : World) (cs : Array Value), (∀ t ∈ readsOf os, ρ (.tmp t) = (puts a0 vs).tmps.getD t undef) → W.heap[g0]? = some (.cells cs T (0, 0)) → cs.size = n → (execOp ρ os).run P W = .ok .skip (W.setRow g0 U)) 
    (chk : storeChk l s a0.tmps.size = true) (hkeys : vs.all (fun kv => l.any (·.dst == some kv.1)) = true)
    (hop : ∀ (i : Nat) (o : Oper) (t : Nat), l[i]? = some o → i ≠ s → o.dst = some t → (Region.wanted o (yielded l.toArray (puts a0 vs).tmps) = true ∧ ∀ W, Save g0 w W → calmAt P o (puts a0 vs).eval W ((puts a0 vs).tmps.getD t undef)) ∨ (Region.wanted o (yielded l.toArray (puts a0 vs).tmps) = false ∧ (puts a0 vs).tmps.getD t undef = undef))
    (hQ : ∀ W, Save g0 w W → W.heap[g0]? = some (.cells U T (0, 0)) → Q .normal (puts a0 vs) W) :
    (Code.region id l.toArray true).wp P Q a0 w := by
  have hE : ∀ t, (∀ (j : Nat) (o : Oper), l[j]? = some o → o.dst ≠ some t) → a0.tmps.getD t undef = (puts a0 vs).tmps.getD t undef := by
    intro t hno
    refine (puts_other t vs a0 (fun kv hkv e => ?_)).symm
    have := List.all_eq_true.1 hkeys kv hkv
    obtain ⟨o, ho, hod⟩ := List.any_eq_true.1 this
    obtain ⟨j, hj⟩ := List.getElem?_of_mem ho
    exact hno j o hj (by rw [← e]; simpa using hod)
  have hEs : (puts a0 vs).tmps.size = a0.tmps.size := puts_size _ _
  have hEd : (puts a0 vs).defers = a0.defers := puts_defers _ _
  generalize puts a0 vs = aE at *
  refine wp_region_any hm ?_
  have key : ∀ (fuel : Nat) (listed : Array Bool) (a : Act) (W : World), RInvT l a0 aE w g0 s n T U listed a W →
      (List.range l.length).countP (fun i => !listed.getD i true) ≤ fuel → wpAny P .any l.toArray Q fuel listed a W := by
    intro fuel
    have fin : ∀ (listed : Array Bool) (a : Act) (W : World), RInvT l a0 aE w g0 s n T U listed a W → Region.ready .any l.toArray listed = [] → Q .normal a W := by
      intro listed a W hI hr
      have hall := ready_allS chk hI.len hr
      have ea : a = aE := by
        refine act_ext _ _ hI.df hI.sz (fun t ht => ?_)
        · by_cases hw : ∃ (j : Nat) (o : Oper), l[j]? = some o ∧ o.dst = some t
          · obtain ⟨j, o, hj, ho⟩ := hw
            exact hI.fr1 j o t hj ho (hall j (List.getElem?_eq_some_iff.1 hj).1)
          · rw [hI.fr0 t (fun j o hj ho => (hw ⟨j, o, hj, ho⟩).elim)]
            exact hE t (fun j o hj ho => hw ⟨j, o, hj, ho⟩)
      obtain ⟨cs, hcs, _, he⟩ := hI.box
      have e := he (hall s (List.getElem?_eq_some_iff.1 hsi).1)
      subst e
      rw [ea]
      exact hQ W hI.bl hcs
    -- what an operation that may come up reads is at hand
    have look : ∀ (listed : Array Bool) (a : Act) (W : World), RInvT l a0 aE w g0 s n T U listed a W → ∀ (i : Nat) (o : Oper), l[i]? = some o →
        (∀ e ∈ o.after, Region.binds .any e = true → listed.getD e.on false = true) → ∀ t ∈ readsOf o, a.tmps.getD t undef = aE.tmps.getD t undef := by
      intro listed a W hI i o hi hall t ht
      have h := (storeChk_at chk hi).2.2.2.2.1 t ht
      · by_cases hw : ∃ (j : Nat) (oj : Oper), l[j]? = some oj ∧ oj.dst = some t
        · obtain ⟨j, oj, hj, hjd⟩ := hw
          obtain ⟨e, he, hb, hon⟩ := bindsTo_spec (h j oj hj hjd)
          exact hI.fr1 j oj t hj hjd (by rw [← hon]; exact hall e he hb)
        · rw [hI.fr0 t (fun j oj hj ho => (hw ⟨j, oj, hj, ho⟩).elim)]
          exact hE t (fun j oj hj ho => hw ⟨j, oj, hj, ho⟩)
    induction fuel with
    | zero =>
      intro listed a W hI hc
      have hr : Region.ready .any l.toArray listed = [] := by
        rw [List.eq_nil_iff_forall_not_mem]
        intro i hi
        obtain ⟨h0, o, ho, _⟩ := mem_ready.1 hi
        have hil : i < l.length := by simpa using (Array.getElem?_eq_some_iff.1 ho).1
        have : 0 < (List.range l.length).countP (fun i => !listed.getD i true) := List.countP_pos_iff.2 ⟨i, List.mem_range.2 hil, by rw [h0]; rfl⟩
        omega
      exact ⟨hr, fin listed a W hI hr⟩
    | succ fuel ih =>
      intro listed a W hI hc
      refine ⟨fin listed a W hI, fun i hi => ?_⟩
      obtain ⟨h0, o, ho, hall⟩ := mem_ready.1 hi
      have hio : l[i]? = some o := by simpa using ho
      have hil : i < l.length := (List.getElem?_eq_some_iff.1 hio).1
      have hil' : i < listed.size := by rw [hI.len]; exact hil
      have hi0 : listed.getD i false = false := by simpa [hil'] using h0
      have hC := storeChk_at chk hio
      have hwe : Region.wanted o (yielded l.toArray a.tmps) = Region.wanted o (yielded l.toArray aE.tmps) := by
        unfold Region.wanted
        cases hg : o.guard with
        | none => rfl
        | some kb =>
          obtain ⟨k, b⟩ := kb
          obtain ⟨e, he, hb, hon⟩ := bindsTo_spec (hC.1 k b hg).2
          have : yielded l.toArray a.tmps k = yielded l.toArray aE.tmps k := yielded_congr hI.sz (fun ok tk hk hd => hI.fr1 k ok tk (by simpa using hk) hd (by rw [← hon]; exact hall e he hb))
          simp only [this]
      have hcnt : (List.range l.length).countP (fun j => !(listed.setIfInBounds i true).getD j true) ≤ fuel := by
        have := count_lt (fun j => !listed.getD j true) (fun j => !(listed.setIfInBounds i true).getD j true) (fun j hj => by
            by_cases e : i = j
            · subst e; simp [hil'] at hj
            · rw [getD_set_ne true e] at hj; exact hj) i (by rw [h0]; rfl) (by simp [hil']) (List.range l.length) (List.mem_range.2 hil)
        omega
      by_cases his : i = s
      · -- the store
        subst his
        have eo : o = os := by rw [hsi] at hio; exact (Option.some.inj hio).symm
        subst eo
        have hdst := hC.2.2.2.2.2 rfl
        obtain ⟨cs, hcs, hn, _⟩ := hI.box
        have hrun := hst a.eval W cs (fun t ht => look listed a W hI i o hio hall t ht) hcs hn
        have hgu : o.guard = none := by
          cases hg : o.guard with
          | none => rfl
          | some kb => exact ((hC.1 kb.1 kb.2 hg).1 rfl).elim
        have hw : Region.wanted o (yielded l.toArray a.tmps) = true := by unfold Region.wanted; rw [hgu]
        unfold wpOp
        simp only [ho, hw, if_true]
        refine .inl ?_
        unfold Oper.wp
        rw [hrun]
        simp only [Oper.upon, hdst]
        have hp : a.put none undef = a := rfl
        rw [hp]
        refine ih _ _ _ ⟨hI.df, hI.sz, by simpa using hI.len, ?_, ?_, hI.bl.setRow _, ?_⟩ hcnt
        · intro j oj t hj hjd hl
          rw [getD_set _ _ _ hil'] at hl
          by_cases e : i = j
          · subst e; rw [hio] at hj; obtain rfl := Option.some.inj hj; rw [hdst] at hjd; cases hjd
          · rw [if_neg e] at hl; exact hI.fr1 j oj t hj hjd hl
        · intro t hno
          refine hI.fr0 t (fun j oj hj hjd => ?_)
          have := hno j oj hj hjd
          rw [getD_set _ _ _ hil'] at this
          by_cases e : i = j
          · rw [if_pos e] at this; cases this
          · rw [if_neg e] at this; exact this
        · exact ⟨U, setRow_heap W g0 cs U T (0, 0) hcs, hU, fun _ => rfl⟩
      · obtain ⟨t, hdst, htN⟩ := hC.2.2.2.1 his
        have step : ∀ W', Save g0 w W' → (∃ cs, W'.heap[g0]? = some (.cells cs T (0, 0)) ∧ cs.size = n ∧ (listed.getD s false = true → cs = U)) → wpAny P .any l.toArray Q fuel (listed.setIfInBounds i true) (a.put (some t) (aE.tmps.getD t undef)) W' := by
          intro W' hW' hbox
          refine ih _ _ _ ⟨by rw [put_defers]; exact hI.df, by rw [put_size]; exact hI.sz, by simpa using hI.len, ?_, ?_, hW', by rw [getD_set _ _ _ hil', if_neg his]; exact hbox⟩ hcnt
          · intro j oj u hj hjd hl
            by_cases htu : t = u
            · subst htu; rw [put_get_same _ _ _ (by rw [hI.sz, hEs]; exact htN)]
            · rw [put_get_ne _ _ _ _ htu]
              rw [getD_set _ _ _ hil'] at hl
              by_cases e : i = j
              · subst e; rw [hio] at hj; obtain rfl := Option.some.inj hj; rw [hdst] at hjd; exact (htu (Option.some.inj hjd)).elim
              · rw [if_neg e] at hl; exact hI.fr1 j oj u hj hjd hl
          · intro u hno
            have htu : t ≠ u := fun e => by
              subst e
              have := hno i o hio hdst
              rw [getD_set _ _ _ hil', if_pos rfl] at this; cases this
            rw [put_get_ne _ _ _ _ htu]
            refine hI.fr0 u (fun j oj hj hjd => ?_)
            have := hno j oj hj hjd
            rw [getD_set _ _ _ hil'] at this
            by_cases e : i = j
            · rw [if_pos e] at this; cases this
            · rw [if_neg e] at this; exact this
        unfold wpOp
        simp only [ho]
        rcases hop i o t hio his hdst with ⟨hw, hcalm⟩ | ⟨hw, hun⟩
        · rw [hwe, hw]
          simp only [if_true]
          refine .inl ?_
          have heq : execOp aE.eval o = execOp a.eval o := execOp_congr o hC.2.1 (fun x hx => by
              cases x with
              | tmp u =>
                have hu : u ∈ readsOf o := List.mem_filterMap.2 ⟨.tmp u, by simpa using hx, rfl⟩
                exact (look listed a W hI i o hio hall u hu).symm
              | _ => rfl)
          have hcalm' : calmAt P o a.eval W (aE.tmps.getD t undef) := by
              refine ⟨?_⟩; have hh := (hcalm W hI.bl).out; unfold calmRun at hh ⊢; rw [← heq]; exact hh
          refine wp_of_calm hcalm' (fun W' hb => ?_)
          rw [hdst]
          exact step W' (hI.bl.tr hb) (by obtain ⟨cs, hcs, hr⟩ := hI.box; exact ⟨cs, by rw [hb.block _ (Array.getElem?_eq_some_iff.1 hcs).1]; exact hcs, hr⟩)
        · rw [hwe, hw]
          simp only [Bool.false_eq_true, if_false, hdst]
          rw [hun] at step
          exact step W hI.bl hI.box
  refine key _ _ _ _ ⟨by rw [hEd], hEs.symm, by simp, ?_, ?_, ⟨rfl, rfl, rfl, Nat.le_refl _, fun _ _ _ => rfl⟩, by obtain ⟨cs, h1, h2⟩ := h0; exact ⟨cs, h1, h2, fun h => by rw [rep_false] at h; cases h⟩⟩ ?_
  · intro j o t hj hjd hl; rw [rep_false] at hl; cases hl
  · intro t _; rfl
  · exact Nat.le_trans List.countP_le_length (by simp)
/-- What the law asks of one operation that is not the store. -/
def CalmT (P : Program) (aE : Act) (w : World) (g0 : Nat) (l : List Oper) (o : Oper) : Prop := ∀ t, o.dst = some t →
  (Region.wanted o (yielded l.toArray aE.tmps) = true ∧ ∀ W, Save g0 w W → calmAt P o aE.eval W (aE.tmps.getD t undef)) ∨ (Region.wanted o (yielded l.toArray aE.tmps) = false ∧ aE.tmps.getD t undef = undef)
theorem CalmT.mk {P : Program} {aE : Act} {w : World} {g0 : Nat} {l : List Oper} {o : Oper} (t : Nat) (v : Value) (hd : o.dst = some t) (hv : aE.tmps.getD t undef = v) (hw : Region.wanted o (yielded l.toArray aE.tmps) = true) (h : ∀ W, Save g0 w W → calmAt P o aE.eval W v) : CalmT P aE w g0 l o := by
  intro t' hd'
  rw [hd] at hd'
  obtain rfl := Option.some.inj hd'
  exact .inl ⟨hw, fun W hW => by rw [hv]; exact h W hW⟩
theorem region_storeT {id : Nat} (g0 s n : Nat) (T : TypeId) (U : Array Value) (vs : List (Nat × Value)) (hm : P.follows .mixedOrders = true) (hsi : l[s]? = some os)
    (chk : storeChk l s a0.tmps.size = true) (hkeys : vs.all (fun kv => l.any (·.dst == some kv.1)) = true) (h0 : ∃ cs, w.heap[g0]? = some (.cells cs T (0, 0)) ∧ cs.size = n) (hU : U.size = n)
    (H : ∀ aE, puts a0 vs = aE → (∀ (ρ : Operand → Value) (W : World) (cs : Array Value), (∀ t ∈ readsOf os, ρ (.tmp t) = aE.tmps.getD t undef) → W.heap[g0]? = some (.cells cs T (0, 0)) → cs.size = n → (execOp ρ os).run P W = .ok .skip (W.setRow g0 U)) ∧
      AllBut (CalmT P aE w g0 l) s s 0 l ∧ ∀ W, Save g0 w W → W.heap[g0]? = some (.cells U T (0, 0)) → Q .normal aE W) :
    (Code.region id l.toArray true).wp P Q a0 w := by
  obtain ⟨h1, h2, h3⟩ := H _ rfl
  refine wp_region_storeT hm hsi h0 hU h1 chk hkeys (fun i o t hi his hd => ?_) h3
  exact AllBut.spec l 0 h2 i o hi (by omega) (by omega) t hd
end
end Go.Proofs.Ytoagfpdicpcjnaa
/- Contracts: the laws' marks on lists of points (and lines). (Printed by geng4.py, a program of this session.) -/
namespace Go.Proofs.Ytoagfpdicpcjnaa
open Go.RowKit
set_option linter.unusedVariables false
set_option linter.unusedSimpArgs false
def markP (k i : Nat) : Pt := (((k + 3 * i : Nat) : Int), ((k + 3 * i + 1 : Nat) : Int), ((k + 3 * i + 2 : Nat) : Int))
def markL (k n : Nat) : List Pt := (List.range n).map (markP k)
theorem markL_at (k n i : Nat) (h : i < n) : (markL k n).getD i (0, 0, 0) = markP k i := by simp [markL, List.getD, h]
theorem markL_length (k n : Nat) : (markL k n).length = n := by simp [markL]
theorem ret_num {a b : Int} (h : a = b) : Value.int .i64 a = Value.int .i64 b := by rw [h]
theorem mark_eq (k i : Nat) : markP k i = ((k : Int) + 3 * (i : Int), (k : Int) + 3 * (i : Int) + 1, (k : Int) + 3 * (i : Int) + 1 + 1) := by
  unfold markP
  refine Prod.ext ?_ (Prod.ext ?_ ?_) <;> simp <;> omega
theorem pts_grow {W : World} {g cap i : Nat} {T : TypeId} {M : List Pt} {x y z : Int} (hr : RoomP W g cap T) (hi : i < cap) (h : PtsAt W g 0 i M) (hM : M.getD i (0, 0, 0) = (x, y, z)) :
    PtsAt (((W.setCell ⟨g, i * 3, none⟩ (.int .i64 x)).setCell ⟨g, i * 3 + 1, none⟩ (.int .i64 y)).setCell ⟨g, i * 3 + 2, none⟩ (.int .i64 z)) g 0 (i + 1) M := by
  have ne : ∀ a b : Nat, a ≠ b → (⟨g, a, none⟩ : Addr) ≠ ⟨g, b, none⟩ := fun a b h e => h (by cases e; rfl)
  obtain ⟨u0, s0⟩ := Option.isSome_iff_exists.1 (hr.some (i * 3) (by omega))
  obtain ⟨u1, s1⟩ := Option.isSome_iff_exists.1 (hr.some (i * 3 + 1) (by omega))
  obtain ⟨u2, s2⟩ := Option.isSome_iff_exists.1 (hr.some (i * 3 + 2) (by omega))
  intro j hj
  simp only [Nat.zero_add]
  by_cases e : j = i
  · subst e
    rw [hM]
    refine ⟨?_, ?_, ?_⟩
    · rw [World.cell?_setCell_other _ _ _ _ (ne _ _ (by omega)), World.cell?_setCell_other _ _ _ _ (ne _ _ (by omega)), World.cell?_setCell_same _ _ _ s0]
    · rw [World.cell?_setCell_other _ _ _ _ (ne _ _ (by omega)), World.cell?_setCell_same (u := u1) _ _ _ (by rw [World.cell?_setCell_other _ _ _ _ (ne _ _ (by omega))]; exact s1)]
    · rw [World.cell?_setCell_same (u := u2) _ _ _ (by rw [World.cell?_setCell_other _ _ _ _ (ne _ _ (by omega)), World.cell?_setCell_other _ _ _ _ (ne _ _ (by omega))]; exact s2)]
  · obtain ⟨c0, c1, c2⟩ := h j (by omega)
    simp only [Nat.zero_add] at c0 c1 c2
    refine ⟨?_, ?_, ?_⟩
    · rw [World.cell?_setCell_other _ _ _ _ (ne _ _ (by omega)), World.cell?_setCell_other _ _ _ _ (ne _ _ (by omega)), World.cell?_setCell_other _ _ _ _ (ne _ _ (by omega))]; exact c0
    · rw [World.cell?_setCell_other _ _ _ _ (ne _ _ (by omega)), World.cell?_setCell_other _ _ _ _ (ne _ _ (by omega)), World.cell?_setCell_other _ _ _ _ (ne _ _ (by omega))]; exact c1
    · rw [World.cell?_setCell_other _ _ _ _ (ne _ _ (by omega)), World.cell?_setCell_other _ _ _ _ (ne _ _ (by omega)), World.cell?_setCell_other _ _ _ _ (ne _ _ (by omega))]; exact c2
theorem Save.refl (g : Nat) (w : World) : Save g w w := ⟨rfl, rfl, rfl, Nat.le_refl _, fun _ _ _ => rfl⟩
theorem Save.setCell {g0 : Nat} {w W : World} (h : Save g0 w W) (i : Nat) (v : Value) : Save g0 w (W.setCell ⟨g0, i, none⟩ v) :=
  ⟨h.os, h.tape, h.output, by simpa [World.setCell] using h.size, fun k hk hne => by
    have : (W.setCell ⟨g0, i, none⟩ v).heap[k]? = W.heap[k]? := by simp [World.setCell, Array.getElem?_modify, Ne.symm hne]
    rw [this]; exact h.block k hk hne⟩
/-- What marks leave. -/
structure MarkPost (g n k cap : Nat) (T : TypeId) (w : World) (e : Ending) (w' : World) : Prop where
  out : e = .returned (.int .i64 ((k + 3 * n : Nat) : Int)) ∧ Save g w w' ∧ RoomP w' g cap T ∧ PtsAt w' g 0 n (markL k n)
set_option maxHeartbeats 1000000 in
theorem markPointS_any (g n c k cap : Nat) (T : TypeId) (w : World) (hr : RoomP w g cap T) (hn : n ≤ cap) (hn1 : n ≤ 1000000) (hk : k ≤ 10000000) :
    Calls Try.prog 35 #[.slice (some ⟨g, 0, none⟩) n c, .int .i64 (k : Int)] w (MarkPost g n k cap T w) := by
  have HR0 := Lib.hid hr
  clear hr
  go_enter Try.func35, Try.ntmps35
  go_wp2
  go_loopw [1, 5, 6] (fun q i jj wr => ∃ ii : Nat, ii ≤ n ∧ i = .int .i64 ii ∧ q = .int .i64 ((k + 3 * ii : Nat) : Int) ∧ Hid (Save g w wr) ∧ Hid (RoomP wr g cap T) ∧ Hid (PtsAt wr g 0 ii (markL k n))) (fun _ i _ wr => n - (intOf i).toNat)
  case atStart => exact ⟨0, Nat.zero_le _, rfl, rfl, Lib.hid (Save.refl _ _), HR0, Lib.hid (fun j hj => absurd hj (by omega))⟩
  case round =>
    obtain ⟨ii, hi, rfl, rfl, HS, HR, HP⟩ := hrel
    by_cases hlt : ii < n
    · obtain ⟨u0, s0⟩ := Option.isSome_iff_exists.1 (HR.out.some (ii * 3) (by omega))
      have r0 := HR.out.frozen (ii * 3)
      obtain ⟨u1, s1⟩ := Option.isSome_iff_exists.1 (HR.out.some (ii * 3 + 1) (by omega))
      have r1 := HR.out.frozen (ii * 3 + 1)
      obtain ⟨u2, s2⟩ := Option.isSome_iff_exists.1 (HR.out.some (ii * 3 + 2) (by omega))
      have r2 := HR.out.frozen (ii * 3 + 2)
      go_wp2
      refine wp_loop_rounds 4 ?_
      iterate 4 (rw [rounds_succ]; go_wp2)
      go_roundw
      case rel => exact ⟨ii + 1, by omega, by go_num, ret_num (by omega), Lib.hid (((HS.out.setCell _ _).setCell _ _).setCell _ _), Lib.hid (((HR.out.set _ _).set _ _).set _ _), Lib.hid (pts_grow HR.out (by omega) HP.out (by rw [markL_at _ _ _ hlt]; exact mark_eq k ii))⟩
      case measure => simp [intOf]; omega
    · have : ii = n := by omega
      subst this
      go_wp2
      go_ret
      exact ⟨rfl, HS.out, HR.out, HP.out⟩
theorem heldPointS_any (g n c k : Nat) (w : World) (hn1 : n ≤ 1000000) (hk : k ≤ 10000000) (hp : PtsAt w g 0 n (markL k n)) :
    Calls Try.prog 36 #[.slice (some ⟨g, 0, none⟩) n c, .int .i64 (k : Int)] w (Ret w (.int .i64 ((k + 3 * n : Nat) : Int))) := by
  have HP := Lib.hid hp
  clear hp
  go_enter Try.func36, Try.ntmps36
  go_wp2
  go_loopw [1, 5, 6] (fun q i jj wr => ∃ ii : Nat, ii ≤ n ∧ i = .int .i64 ii ∧ q = .int .i64 ((k + 3 * ii : Nat) : Int) ∧ Hid (Below w.heap.size w wr)) (fun _ i _ wr => n - (intOf i).toNat)
  case atStart => exact ⟨0, Nat.zero_le _, rfl, rfl, Lib.hid (Below.refl _ _)⟩
  case round =>
    obtain ⟨ii, hi, rfl, rfl, HB⟩ := hrel
    by_cases hlt : ii < n
    · obtain ⟨c0, c1, c2⟩ := (HP.out.below HB.out) ii hlt
      rw [markL_at _ _ _ hlt, mark_eq] at c0 c1 c2
      simp only [Nat.zero_add] at c0 c1 c2
      go_wp2
      refine wp_loop_rounds 4 ?_
      iterate 4 (rw [rounds_succ]; go_wp2)
      go_roundw
      case rel => exact ⟨ii + 1, by omega, by go_num, ret_num (by omega), HB⟩
      case measure => simp [intOf]; omega
    · have : ii = n := by omega
      subst this
      go_wp2
      go_ret
      exact ⟨rfl, HB.out⟩
theorem markPointS_nil (b : Option Addr) (c : Nat) (k : Int) (w : World) : Calls Try.prog 35 #[.slice b 0 c, .int .i64 k] w fun e w' => e = .returned (.int .i64 k) ∧ w = w' := by
  go_enter Try.func35, Try.ntmps35
  go_wp2
  refine wp_loop_rounds 1 ?_
  rw [rounds_succ]; go_wp2
  go_ret
  exact ⟨rfl, rfl⟩
theorem heldPointS_nil (b : Option Addr) (c : Nat) (k : Int) (w : World) : Calls Try.prog 36 #[.slice b 0 c, .int .i64 k] w fun e w' => e = .returned (.int .i64 k) ∧ w = w' := by
  go_enter Try.func36, Try.ntmps36
  go_wp2
  refine wp_loop_rounds 1 ?_
  rw [rounds_succ]; go_wp2
  go_ret
  exact ⟨rfl, rfl⟩
end Go.Proofs.Ytoagfpdicpcjnaa
/- Contracts: the Singer map, as the reference finds it; SingerMap. (Printed by gens7.py, a program of this session.) -/
namespace Go.Proofs.Ytoagfpdicpcjnaa
open Go.RowKit
set_option linter.unusedVariables false
set_option linter.unusedSimpArgs false
/-- What SingerMap returns. -/
def singM (n : Nat) : Value := .agg (cellsM9 (compM n (firstC n)))
end Go.Proofs.Ytoagfpdicpcjnaa
/- Contracts: the Singer order of a prime; SingerOrder, the program's and the reference's. -/
namespace Go.Proofs.Ytoagfpdicpcjnaa
open Go.RowKit
set_option linter.unusedVariables false
set_option linter.unusedSimpArgs false
/-- A new list of points, and no error. -/
structure PtsPost2 (w : World) (l : List Pt) (e : Ending) (w' : World) : Prop where
  out : ∃ v, e = .returned (.tuple #[v, .int .i64 0]) ∧ w'.ownsRow w.heap.size 33 3 v l.length (ptCs l) ∧ Below w.heap.size w w'
end Go.Proofs.Ytoagfpdicpcjnaa
/- The law FnExactSingerOrder, walked. -/
namespace Go.Proofs.Ytoagfpdicpcjnaa
open Go.RowKit
set_option linter.unusedVariables false
set_option linter.unusedSimpArgs false
theorem own_room {W : World} {base : Nat} {T : TypeId} {v : Value} {l : List Pt} {n : Nat} (h : W.ownsRow base T 3 v n (ptCs l)) (hl : l.length = n) (hn : 0 < n) :
    ∃ g cap, v = .slice (some ⟨g, 0, none⟩) n cap ∧ base ≤ g ∧ g < W.heap.size ∧ n ≤ cap ∧ RoomP W g cap T ∧ PtsAt W g 0 n l := by
  obtain ⟨g, cap, e, hb, hg, hp⟩ := ownPts h hl hn
  rcases h.2 with ⟨_, h0⟩ | ⟨g', cap', cur, e', hb', hg', hle, _, hsz, htk⟩
  · omega
  · rw [e] at e'
    cases e'
    exact ⟨g, cap, e, hb, hg, hle, ⟨cur, hg', hsz⟩, hp⟩
theorem PtsAt.save {w W : World} {g0 b o n : Nat} {l : List Pt} (h : PtsAt w b o n l) (hs : Save g0 w W) (hne : b ≠ g0) (hlt : b < w.heap.size) : PtsAt W b o n l := by
  have hc : ∀ i, W.cell? ⟨b, i, none⟩ = w.cell? ⟨b, i, none⟩ := fun i => by
    unfold World.cell?
    rw [hs.block b hlt hne]
  intro i hi
  rw [hc, hc, hc]
  exact h i hi
theorem mark_101 (g Q c cap : Nat) (T : TypeId) (W : World) (hr : RoomP W g cap T) (hn : Q ≤ cap) (hQ : Q ≤ 1000000) (M : Int) (hM : ((101 + 3 * Q : Nat) : Int) = M) :
    Calls Try.prog 35 #[.slice (some ⟨g, 0, none⟩) Q c, .int .i64 101] W (fun e w' => e = .returned (.int .i64 M) ∧ Save g W w' ∧ PtsAt w' g 0 Q (markL 101 Q)) := by
  have h := markPointS_any g Q c 101 cap T W hr hn hQ (by omega)
  rw [← hM]
  exact h.mono fun e w' ⟨h1, h2, _, h4⟩ => ⟨h1, h2, h4⟩
theorem held_101 (g Q c : Nat) (W : World) (hQ : Q ≤ 1000000) (hp : PtsAt W g 0 Q (markL 101 Q)) (M : Int) (hM : ((101 + 3 * Q : Nat) : Int) = M) :
    Calls Try.prog 36 #[.slice (some ⟨g, 0, none⟩) Q c, .int .i64 101] W (Ret W (.int .i64 M)) := by
  rw [← hM]
  exact heldPointS_any g Q c 101 W hQ (by omega) hp
end Go.Proofs.Ytoagfpdicpcjnaa
/- Laws with a list of points in and a list of points out: what their helpers do, in facts that a search finds. -/
namespace Go.Proofs.Ytoagfpdicpcjnaa
open Go.RowKit
set_option linter.unusedVariables false
set_option linter.unusedSimpArgs false
/-- All blocks but one are as they were. -/
structure SaveP (g : Nat) (w W : World) : Prop where
  out : Save g w W
/-- A block of points that can be written. -/
structure RoomPK (W : World) (g cap : Nat) (T : TypeId) : Prop where
  out : RoomP W g cap T
theorem save_cell {w W : World} {g b o : Nat} {v : Value} (hs : Save g w W) (hne : b ≠ g) (h : w.cell? ⟨b, o, none⟩ = some v) : W.cell? ⟨b, o, none⟩ = some v := by
  have hlt : b < w.heap.size := World.block_lt_of_cell? w _ h
  rw [← h]
  unfold World.cell?
  rw [hs.block b hlt hne]
theorem PtsK.saveP {w W : World} {g b o n : Nat} {L : List Pt} (hs : SaveP g w W) (hne : b ≠ g) (h : PtsK w b o n L) : PtsK W b o n L := ⟨fun i hi => ⟨save_cell hs.out hne (h.out i hi).1, save_cell hs.out hne (h.out i hi).2.1, save_cell hs.out hne (h.out i hi).2.2⟩⟩
theorem RoomPK.lt {W : World} {g cap : Nat} {T : TypeId} (h : RoomPK W g cap T) : g < W.heap.size := by
  obtain ⟨cur, h1, -⟩ := h.out
  exact (Array.getElem?_eq_some_iff.1 h1).1
theorem RoomPK.link {w W : World} {g cap : Nat} {T : TypeId} (l : Link w W) (h : RoomPK w g cap T) : RoomPK W g cap T := by
  obtain ⟨cur, h1, h2⟩ := h.out
  exact ⟨⟨cur, by rw [l.out.block _ (Array.getElem?_eq_some_iff.1 h1).1]; exact h1, h2⟩⟩
theorem RoomPK.saveP {w W : World} {g b cap : Nat} {T : TypeId} (hs : SaveP g w W) (hne : b ≠ g) (h : RoomPK w b cap T) : RoomPK W b cap T := by
  obtain ⟨cur, h1, h2⟩ := h.out
  exact ⟨⟨cur, by rw [hs.out.block b (Array.getElem?_eq_some_iff.1 h1).1 hne]; exact h1, h2⟩⟩
theorem LowK.saveP {w w1 W : World} {g : Nat} (hs : SaveP g w1 W) (hg : w.heap.size ≤ g) (h : LowK w w1) : LowK w W := ⟨hs.out.below h.out hg h.out.size⟩
theorem fP {W : World} {b o n : Nat} {L : List Pt} (h : PtsK W b o n L := by repeat (first | with_reducible assumption | (apply PtsK.link; (· with_reducible assumption)) | (apply PtsK.saveP; (· with_reducible assumption); (· omega)))) : PtsK W b o n L := h
theorem fQ {W : World} {g cap : Nat} {T : TypeId} (h : RoomPK W g cap T := by repeat (first | with_reducible assumption | (apply RoomPK.link; (· with_reducible assumption)) | (apply RoomPK.saveP; (· with_reducible assumption); (· omega)))) : RoomPK W g cap T := h
theorem fLP {w W : World} (h : LowK w W := by repeat (first | with_reducible assumption | with_reducible exact LowK.refl _ | (apply LowK.link; (· with_reducible assumption)) | (apply LowK.saveP; (· with_reducible assumption); (· omega)))) : LowK w W := h
/-- A copy of an argument. -/
structure CopyP (w : World) (k : Nat) (l : List Pt) (e : Ending) (w' : World) : Prop where
  out : ∃ g, e = .returned (.slice (some ⟨g, 0, none⟩) k (k + roomN k)) ∧ w.heap.size ≤ g ∧ g < w'.heap.size ∧ RoomPK w' g (k + roomN k) 33 ∧ PtsK w' g 0 (k + roomN k) (withRoomP l) ∧ PtsK w' g 0 k l ∧ Link w w'
theorem eqP_K (g g2 n c c2 : Nat) (L : List Pt) (w : World) (hn : n ≤ 1000000) (hL : L.length = n) (h1 : PtsK w g 0 n L) (h2 : PtsK w g2 0 n L) :
    Calls Try.prog 34 #[.slice (some ⟨g, 0, none⟩) n c, .slice (some ⟨g2, 0, none⟩) n c2] w (Ret w (.bool true)) :=
  eqPointS_same (some ⟨g, 0, none⟩) (some ⟨g2, 0, none⟩) n c c2 L w (by omega) (listP_mk hL h1.out) (listP_mk hL h2.out)
theorem eqPZ_K (c c2 : Nat) (w : World) : Calls Try.prog 34 #[.slice none 0 c, .slice none 0 c2] w (Ret w (.bool true)) :=
  eqPointS_same none none 0 c c2 [] w (by omega) ⟨rfl, fun h => absurd h (Nat.lt_irrefl _)⟩ ⟨rfl, fun h => absurd h (Nat.lt_irrefl _)⟩
structure MarkP (g n : Nat) (M : Int) (w : World) (e : Ending) (w' : World) : Prop where
  out : e = .returned (.int .i64 M) ∧ SaveP g w w' ∧ w.heap.size ≤ w'.heap.size ∧ PtsK w' g 0 n (markL 101 n)
theorem markP_K (g n c cap : Nat) (T : TypeId) (w : World) (hr : RoomPK w g cap T) (hn : n ≤ cap) (h1 : n ≤ 1000000) (M : Int) (hM : ((101 + 3 * n : Nat) : Int) = M) :
    Calls Try.prog 35 #[.slice (some ⟨g, 0, none⟩) n c, .int .i64 101] w (MarkP g n M w) :=
  (mark_101 g n c cap T w hr.out hn h1 M hM).mono fun e w' ⟨h1, h2, h3⟩ => ⟨h1, ⟨h2⟩, h2.size, ⟨h3⟩⟩
theorem heldP_K (g n c : Nat) (w : World) (h1 : n ≤ 1000000) (hp : PtsK w g 0 n (markL 101 n)) (M : Int) (hM : ((101 + 3 * n : Nat) : Int) = M) :
    Calls Try.prog 36 #[.slice (some ⟨g, 0, none⟩) n c, .int .i64 101] w (Ret w (.int .i64 M)) := held_101 g n c w h1 hp.out M hM
theorem markPZ_K (b : Option Addr) (k c : Nat) (q : Int) (w : World) (h : k = 0) : Calls Try.prog 35 #[.slice b k c, .int .i64 q] w fun e w' => e = .returned (.int .i64 q) ∧ w = w' := by
  subst h; exact markPointS_nil b c q w
/-- A new list of points, not empty, and no error. -/
structure MadeP (w : World) (n : Nat) (R : List Pt) (e : Ending) (w' : World) : Prop where
  out : ∃ g c, e = .returned (.tuple #[.slice (some ⟨g, 0, none⟩) n c, .int .i64 0]) ∧ w.heap.size ≤ g ∧ g < w'.heap.size ∧ n ≤ c ∧ RoomPK w' g c 33 ∧ PtsK w' g 0 n R ∧ Link w w'
theorem ListC.at {W : World} {g n c : Nat} {l : List Pt} (hl : l.length = n) (h : PtsK W g 0 n l) : ListC W (some ⟨g, 0, none⟩) n c l := ⟨hl, .inr ⟨g, rfl, h.out⟩⟩
theorem ListC.nil {W : World} {l : List Pt} {n : Nat} (h : n = 0) (hl : l.length = n) : ListC W none n 0 l := ⟨hl, .inl ⟨rfl, h, rfl⟩⟩
theorem OwnK.made {w W : World} {v : Value} {n : Nat} {l : List Pt} (h : OwnK W w.heap.size 33 3 v n (ptCs l)) (hl : l.length = n) (hn : 0 < n) (hL : LowK w W) : MadeP w n l (.returned (.tuple #[v, .int .i64 0])) W := by
  have h0 := h
  rcases h.out.2 with ⟨_, h0⟩ | ⟨g, cap, cur, rfl, hb, hg, hle, _, hsz, htk⟩
  · omega
  · obtain ⟨g2, cap2, e2, -, -, hP⟩ := h.pts hl hn
    cases e2
    exact ⟨⟨_, _, rfl, hb, (Array.getElem?_eq_some_iff.1 hg).1, hle, ⟨cur, hg, hsz⟩, hP, LowK.lnk hL⟩⟩
end Go.Proofs.Ytoagfpdicpcjnaa
/- The law FnExactGroupOrder: walked, from what the two sides do. -- maps -/
namespace Go.Proofs.Ytoagfpdicpcjnaa
open Go.RowKit
set_option linter.unusedVariables false
set_option linter.unusedSimpArgs false
theorem okM_inM {p : Int} {t : M9} (h : okM p t = true) : InM t := by
  unfold okM mapB at h
  simp only [Bool.and_eq_true] at h
  obtain ⟨hp, hn, -⟩ := h
  obtain ⟨-, h2⟩ := prB_bd hp
  intro x hx
  have := nums_at hn (x := x) hx
  exact ⟨this.1, by omega⟩
theorem codeML_ok {p : Int} {n : Nat} {v : Bool} (h : codeML p n v = 0) : prB p = true ∧ n ≤ 8 ∧ v = true := by
  unfold codeML codeOf at h
  rcases hp : prB p with _ | _
  · simp [hp] at h
  · rcases v with _ | _
    · simp [hp] at h
    · simp [hp] at h
      exact ⟨rfl, by omega, rfl⟩
theorem ListM.nil {W : World} {l : List M9} {n : Nat} (h : n = 0) (hl : l.length = n) : ListM W none n l := ⟨hl, fun h2 => by omega⟩
theorem ListM.at {W : World} {g n : Nat} {l : List M9} (hl : l.length = n) (h : MapsK W g 0 n l) : ListM W (some ⟨g, 0, none⟩) n l := ⟨hl, fun _ => ⟨g, 0, rfl, h⟩⟩
theorem toMapS_zero (b : Option Addr) (k cap : Nat) (w : World) (h : k = 0) : Calls Try.prog 8 #[.slice b k cap, .bool true] w fun e w' => e = .returned (.slice none 0 0) ∧ w = w' := by
  subst h
  go_enter Try.func8, Try.ntmps8
  go_wp2
  go_ret
  exact ⟨rfl, rfl⟩
theorem fMp {W : World} {b o n : Nat} {L : List M9} (h : MapsK W b o n L := by repeat (first | with_reducible assumption | (apply MapsK.link; (· with_reducible assumption)))) : MapsK W b o n L := h
theorem fLM {w : World} {b : Option Addr} {n : Nat} {L : List M9} (h : ListM w b n L := by repeat (first | with_reducible assumption | (apply ListM.link; (· with_reducible assumption)))) : ListM w b n L := h
set_option maxHeartbeats 4000000 in
theorem FnExactGroupOrder_big (p : Int) (b : Option Addr) (k cap : Nat) (w : World) (hk : 1000000 < k) (hk2 : k ≤ 9223372036854775807) :
    Calls Try.prog 3 #[.int .i64 p, .slice b k cap] w (Ret w (.bool true)) := by
  have HZ := Lib.hid (fun (W : World) => szMapS_any b k cap 1000000 W (by omega) hk2)
  rw [if_pos (by omega)] at HZ
  go_enter Try.func3, Try.ntmps3
  go_wp2_with (go_at_call 6; refine (HZ.out _).mono ?_; rintro e w' ⟨rfl, rfl⟩)
  go_ret
  exact ⟨rfl, Below.refl _ _⟩
set_option maxRecDepth 20000 in
set_option maxHeartbeats 8000000 in
theorem FnExactGroupOrder_pos (p : Int) (b : Option Addr) (k cap : Nat) (l : List M9) (w : World) (hl : l.length = k) (hk : k ≤ 1000000) (hc : ListM w b k l) (h0 : 0 < k) (r e : Int)
    (HS0 : ∀ (W : World) (b : Option Addr) (c : Nat), ListM W b k l → Calls Try.prog 7 #[.int .i64 p, .slice b k c] W (Ret W (.tuple #[.int .i64 r, .int .i64 e]))) (HI1 : ∀ (W : World) (b : Option Addr) (c : Nat), ListM W b k l → Calls Try.prog 9 #[.int .i64 p, .slice b k c] W (Ret W (.tuple #[.int .i64 r, .int .i64 e]))) :
    Calls Try.prog 3 #[.int .i64 p, .slice b k cap] w (Ret w (.bool true)) := by
  have hz1 : ¬ (1000000 - (k : Int)) < 0 := by omega
  have hk0 : ((k : Int) == 0) = false := beqf (by omega)
  have HS := Lib.hid HS0
  have HI := Lib.hid HI1
  have HL := Lib.hid hl
  have H0 := Lib.hid h0
  have hz : ¬ (1000000 : Int) < (k : Int) := by omega
  clear hl HS0 HI1
  go_enter Try.func3, Try.ntmps3
  go_wp2_with (first
    | (go_at_call 6; (with_reducible refine (szM_K _ k _ _ hk).mono ?_); rintro e w' ⟨rfl, rfl⟩)
    | (go_at_call 8; (with_reducible refine (copyM_K b k cap _ l _ hk (.inr h0) fLM).mono ?_); rintro e w' ⟨g, rfl, hg1, hg2, hR, hI, hl'⟩; have hs := hl'.out.size)
    | (go_at_call 7; (with_reducible refine (HS.out _ _ _ (ListM.at HL.out fMp)).mono ?_); rintro e w' ⟨rfl, hb⟩; have hl' := Link.mk hb; have hs := hb.size; clear hb)
    | (go_at_call 9; (with_reducible refine (HI.out _ _ _ (ListM.at HL.out fMp)).mono ?_); rintro e w' ⟨rfl, hb⟩; have hl' := Link.mk hb; have hs := hb.size; clear hb)
    | (go_at_call 10; (with_reducible refine (intactM_K _ _ k l _ hk fMp fMp).mono ?_); rintro e w' ⟨rfl, hb⟩; have hl' := Link.mk hb; have hs := hb.size; clear hb))
  go_ret
  exact ⟨rfl, LowK.out fLP⟩
set_option maxRecDepth 20000 in
set_option maxHeartbeats 8000000 in
theorem FnExactGroupOrder_zero (p : Int) (b : Option Addr) (k cap : Nat) (l : List M9) (w : World) (hl : l.length = k) (hk : k ≤ 1000000) (hc : ListM w b k l) (h0 : k = 0) (r e : Int)
    (HS0 : ∀ (W : World) (b : Option Addr) (c : Nat), ListM W b k l → Calls Try.prog 7 #[.int .i64 p, .slice b k c] W (Ret W (.tuple #[.int .i64 r, .int .i64 e]))) (HI1 : ∀ (W : World) (b : Option Addr) (c : Nat), ListM W b k l → Calls Try.prog 9 #[.int .i64 p, .slice b k c] W (Ret W (.tuple #[.int .i64 r, .int .i64 e]))) :
    Calls Try.prog 3 #[.int .i64 p, .slice b k cap] w (Ret w (.bool true)) := by
  have hz1 : ¬ (1000000 - (k : Int)) < 0 := by omega
  have hk0 : ((k : Int) == 0) = true := by simp [h0]
  have HS := Lib.hid HS0
  have HI := Lib.hid HI1
  have HI0 : Hid (∀ W : World, Calls Try.prog 9 #[.int .i64 p, .slice none 0 0] W (Ret W (.tuple #[.int .i64 r, .int .i64 e]))) := Lib.hid (fun W => by have := HI1 W none 0 (ListM.nil h0 hl); rw [h0] at this; exact this)
  have HL := Lib.hid hl
  have H0 := Lib.hid h0
  have hz : ¬ (1000000 : Int) < (k : Int) := by omega
  clear hl HS0 HI1 h0
  go_enter Try.func3, Try.ntmps3
  go_wp2_with (first
    | (go_at_call 6; (with_reducible refine (szM_K _ k _ _ hk).mono ?_); rintro e w' ⟨rfl, rfl⟩)
    | (go_at_call 8; (with_reducible refine (copyM_K b k cap false l _ hk (.inl rfl) fLM).mono ?_); rintro e w' ⟨g, rfl, hg1, hg2, hR, hI, hl'⟩; have hs := hl'.out.size)
    | (go_at_call 8; (with_reducible refine (toMapS_zero b k cap _ H0.out).mono ?_); rintro e w' ⟨rfl, rfl⟩)
    | (go_at_call 7; (with_reducible refine (HS.out _ _ _ (ListM.at HL.out fMp)).mono ?_); rintro e w' ⟨rfl, hb⟩; have hl' := Link.mk hb; have hs := hb.size; clear hb)
    | (go_at_call 9; (with_reducible refine (HI.out _ _ _ (ListM.at HL.out fMp)).mono ?_); rintro e w' ⟨rfl, hb⟩; have hl' := Link.mk hb; have hs := hb.size; clear hb)
    | (go_at_call 9; (with_reducible refine (HI0.out _).mono ?_); rintro e w' ⟨rfl, hb⟩; have hl' := Link.mk hb; have hs := hb.size; clear hb)
    | (go_at_call 10; (with_reducible refine (intactM_K _ _ k l _ hk fMp fMp).mono ?_); rintro e w' ⟨rfl, hb⟩; have hl' := Link.mk hb; have hs := hb.size; clear hb))
  go_ret
  exact ⟨rfl, LowK.out fLP⟩
theorem FnExactGroupOrder_walk (p : Int) (b : Option Addr) (k cap : Nat) (l : List M9) (w : World) (hk2 : k ≤ 9223372036854775807) (hc : ListM w b k l) :
    Calls Try.prog 3 #[.int .i64 p, .slice b k cap] w (Ret w (.bool true)) := by
  by_cases hk : k ≤ 1000000
  · have hl := hc.out.1
    obtain ⟨r, e, HS, HI⟩ : ∃ r e : Int, (∀ (W : World) (b : Option Addr) (c : Nat), ListM W b k l → Calls Try.prog 7 #[.int .i64 p, .slice b k c] W (Ret W (.tuple #[.int .i64 r, .int .i64 e]))) ∧ (∀ (W : World) (b : Option Addr) (c : Nat), ListM W b k l → Calls Try.prog 9 #[.int .i64 p, .slice b k c] W (Ret W (.tuple #[.int .i64 r, .int .i64 e]))) := by
      obtain ⟨cd, hcd⟩ : ∃ cd, codeML p k (oksM p l && ptsB p []) = cd := ⟨_, rfl⟩
      by_cases h0 : cd = 0
      · subst h0
        obtain ⟨hp, h8, hv⟩ := codeML_ok hcd
        rw [Bool.and_eq_true] at hv
        have hin : ∀ m ∈ l, InM m := fun m hm => okM_inM (List.all_eq_true.1 hv.1 m hm)
        obtain ⟨r, e, hr⟩ : ∃ r e : Int, OutA p l r e := by
          rcases outcome p l with ⟨K, h1, h2⟩ | ⟨I, h1, h2, h3⟩
          · exact ⟨K, 0, .inl ⟨K, h1, h2, rfl, rfl⟩⟩
          · exact ⟨0, 3, .inr ⟨I, h1, h2, h3, rfl, rfl⟩⟩
        exact ⟨r, e, fun W b c h => GroupOrder_spec_core p b k c l W hp h8 h hin hcd r e hr, fun W b c h => GroupOrder_impl_core p b k c l W hp h8 h hin hcd r e hr⟩
      · exact ⟨0, cd, fun W b c h => GroupOrder_spec_code p b k c l W hk h hcd h0, fun W b c h => GroupOrder_impl_code p b k c l W hk h hcd h0⟩
    rcases Nat.eq_zero_or_pos k with h0 | h0
    · exact FnExactGroupOrder_zero p b k cap l w hl hk hc h0 r e HS HI
    · exact FnExactGroupOrder_pos p b k cap l w hl hk hc h0 r e HS HI
  · exact FnExactGroupOrder_big p b k cap w (by omega) hk2
end Go.Proofs.Ytoagfpdicpcjnaa
