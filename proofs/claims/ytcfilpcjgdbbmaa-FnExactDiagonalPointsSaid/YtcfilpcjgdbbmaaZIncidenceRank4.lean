/- Texts of the claim, in build order: RegS, B1, C1, C2, C3, C4, C5, C6, C7, C8, C9, D1, F1, F2, H0, E1, H1, G1. No condition. -/
import Derived.Laws.IdiomCopy
import Derived.Laws.MakeOwn
import Derived.Test.YtcfilpcjgdbbmaaZIncidenceRank3
/- A region that draws its order, holds guarded operations, and stores once into a block that is there (a result's cell). -/
namespace Go.Proofs.Ytcfilpcjgdbbmaa
open Go.RowKit
set_option linter.unusedVariables false
set_option linter.unusedSimpArgs false
def storeChk (l : List Oper) (s N : Nat) : Bool :=
  (List.range l.length).all fun i => match l[i]? with
    | none => true
    | some o => (match o.guard with | none => true | some (k, _) => i != s && bindsTo o k) && notSelect o && (o.after.all fun e => !Region.binds .any e || e.on < i) &&
      (match o.dst with | some t => i != s && decide (t < N) | none => i == s) &&
      ((readsOf o).all fun t => (List.range l.length).all fun j => match l[j]? with
          | none => true
          | some oj => !(oj.dst == some t) || bindsTo o j)
theorem storeChk_at {l : List Oper} {s N : Nat} (chk : storeChk l s N = true) {i : Nat} {o : Oper} (hi : l[i]? = some o) :
    (∀ k b, o.guard = some (k, b) → i ≠ s ∧ bindsTo o k = true) ∧ (∀ cs b, o.op ≠ .select cs b) ∧ (∀ e ∈ o.after, Region.binds .any e = true → e.on < i) ∧
    (i ≠ s → ∃ t, o.dst = some t ∧ t < N) ∧ (∀ t ∈ readsOf o, ∀ j oj, l[j]? = some oj → oj.dst = some t → bindsTo o j = true) ∧ (i = s → o.dst = none) := by
  unfold storeChk at chk
  have hlt : i < l.length := (List.getElem?_eq_some_iff.1 hi).1
  have h := List.all_eq_true.1 chk i (List.mem_range.2 hlt)
  simp only [hi, Bool.and_eq_true] at h
  obtain ⟨⟨⟨⟨hg, hns⟩, haf⟩, hd⟩, hr⟩ := h
  refine ⟨?_, ?_, ?_, ?_, ?_, ?_⟩
  · intro k b e; rw [e] at hg; simpa using hg
  · intro cs b e; rw [notSelect, e] at hns; cases hns
  · intro e he hb
    have := (Array.all_eq_true_iff_forall_mem.1 haf) e he
    simpa [hb] using this
  · intro his
    cases hdd : o.dst with
    | none => rw [hdd] at hd; exact (his (by simpa using hd)).elim
    | some t => rw [hdd] at hd; simp only [Bool.and_eq_true, decide_eq_true_eq] at hd; exact ⟨t, rfl, hd.2⟩
  · intro t ht j oj hj hjd
    have h2 := List.all_eq_true.1 hr t ht
    have hjl : j < l.length := (List.getElem?_eq_some_iff.1 hj).1
    have := List.all_eq_true.1 h2 j (List.mem_range.2 hjl)
    simpa [hj, hjd] using this
  · intro his
    cases hdd : o.dst with
    | none => rfl
    | some t => rw [hdd] at hd; simp [his] at hd
theorem ready_allS {l : List Oper} {s N : Nat} (chk : storeChk l s N = true) {listed : Array Bool} (hlen : listed.size = l.length)
    (h : Region.ready .any l.toArray listed = []) : ∀ i, i < l.length → listed.getD i false = true := by
  intro i
  induction i using Nat.strongRecOn with
  | _ i ih =>
    intro hi
    cases hb : listed.getD i false with
    | true => rfl
    | false =>
      exfalso
      have ho : l[i]? = some l[i] := List.getElem?_eq_getElem hi
      have hmem : i ∈ Region.ready .any l.toArray listed := by
        rw [mem_ready]
        refine ⟨?_, l[i], by simp, fun e he hbd => ?_⟩
        · have : i < listed.size := by omega
          simp [this] at hb ⊢; exact hb
        · exact ih e.on ((storeChk_at chk ho).2.2.1 e he hbd) (by have := (storeChk_at chk ho).2.2.1 e he hbd; omega)
      rw [h] at hmem; cases hmem
structure RInvS (l : List Oper) (a0 aE : Act) (w0 : World) (B g0 s n : Nat) (T : TypeId) (U : Array Value) (listed : Array Bool) (a : Act) (w : World) : Prop where
  df : a.defers = aE.defers
  sz : a.tmps.size = aE.tmps.size
  len : listed.size = l.length
  fr1 : ∀ (j : Nat) (o : Oper) (t : Nat), l[j]? = some o → o.dst = some t → listed.getD j false = true → a.tmps.getD t undef = aE.tmps.getD t undef
  fr0 : ∀ t : Nat, (∀ (j : Nat) (o : Oper), l[j]? = some o → o.dst = some t → listed.getD j false = false) → a.tmps.getD t undef = a0.tmps.getD t undef
  bl : Below B w0 w
  big : B ≤ w.heap.size
  box : ∃ cs, w.heap[g0]? = some (.cells cs T (0, 0)) ∧ cs.size = n ∧ (listed.getD s false = true → cs = U)
section
variable {P : Program} {Q : Exit → Act → World → Prop} {l : List Oper} {a0 : Act} {w : World} {vs : List (Nat × Value)} {B g0 s n : Nat} {T : TypeId} {U : Array Value} {os : Oper}
theorem wp_region_storeG {id : Nat} (hm : P.follows .mixedOrders = true) (hsi : l[s]? = some os) (hBg : B ≤ g0) (hBw : B ≤ w.heap.size) (h0 : ∃ cs, w.heap[g0]? = some (.cells cs T (0, 0)) ∧ cs.size = n) (hU : U.size = n)
    (hst : ∀ (ρ : Operand → Value) (W : World) (cs : Array Value), (∀ t ∈ readsOf os, ρ (.tmp t) = (puts a0 vs).tmps.getD t undef) → W.heap[g0]? = some (.cells cs T (0, 0)) → cs.size = n → (execOp ρ os).run P W = .ok .skip (W.setRow g0 U)) 
    (chk : storeChk l s a0.tmps.size = true) (hkeys : vs.all (fun kv => l.any (·.dst == some kv.1)) = true)
    (hop : ∀ (i : Nat) (o : Oper) (t : Nat), l[i]? = some o → i ≠ s → o.dst = some t → (Region.wanted o (yielded l.toArray (puts a0 vs).tmps) = true ∧ ∀ W, Below B w W → calmAt P o (puts a0 vs).eval W ((puts a0 vs).tmps.getD t undef)) ∨ (Region.wanted o (yielded l.toArray (puts a0 vs).tmps) = false ∧ (puts a0 vs).tmps.getD t undef = undef))
    (hQ : ∀ W, Below B w W → W.heap[g0]? = some (.cells U T (0, 0)) → Q .normal (puts a0 vs) W) :
    (Code.region id l.toArray true).wp P Q a0 w := by
  have hE : ∀ t, (∀ (j : Nat) (o : Oper), l[j]? = some o → o.dst ≠ some t) → a0.tmps.getD t undef = (puts a0 vs).tmps.getD t undef := by
    intro t hno
    refine (puts_other t vs a0 (fun kv hkv e => ?_)).symm
    have := List.all_eq_true.1 hkeys kv hkv
    obtain ⟨o, ho, hod⟩ := List.any_eq_true.1 this
    obtain ⟨j, hj⟩ := List.getElem?_of_mem ho
    exact hno j o hj (by rw [← e]; simpa using hod)
  have hEs : (puts a0 vs).tmps.size = a0.tmps.size := puts_size _ _
  have hEd : (puts a0 vs).defers = a0.defers := puts_defers _ _
  generalize puts a0 vs = aE at *
  refine wp_region_any hm ?_
  have key : ∀ (fuel : Nat) (listed : Array Bool) (a : Act) (W : World), RInvS l a0 aE w B g0 s n T U listed a W →
      (List.range l.length).countP (fun i => !listed.getD i true) ≤ fuel → wpAny P .any l.toArray Q fuel listed a W := by
    intro fuel
    have fin : ∀ (listed : Array Bool) (a : Act) (W : World), RInvS l a0 aE w B g0 s n T U listed a W → Region.ready .any l.toArray listed = [] → Q .normal a W := by
      intro listed a W hI hr
      have hall := ready_allS chk hI.len hr
      have ea : a = aE := by
        refine act_ext _ _ hI.df hI.sz (fun t ht => ?_)
        · by_cases hw : ∃ (j : Nat) (o : Oper), l[j]? = some o ∧ o.dst = some t
          · obtain ⟨j, o, hj, ho⟩ := hw
            exact hI.fr1 j o t hj ho (hall j (List.getElem?_eq_some_iff.1 hj).1)
          · rw [hI.fr0 t (fun j o hj ho => (hw ⟨j, o, hj, ho⟩).elim)]
            exact hE t (fun j o hj ho => hw ⟨j, o, hj, ho⟩)
      obtain ⟨cs, hcs, _, he⟩ := hI.box
      have e := he (hall s (List.getElem?_eq_some_iff.1 hsi).1)
      subst e
      rw [ea]
      exact hQ W hI.bl hcs
    -- what an operation that may come up reads is at hand
    have look : ∀ (listed : Array Bool) (a : Act) (W : World), RInvS l a0 aE w B g0 s n T U listed a W → ∀ (i : Nat) (o : Oper), l[i]? = some o →
        (∀ e ∈ o.after, Region.binds .any e = true → listed.getD e.on false = true) → ∀ t ∈ readsOf o, a.tmps.getD t undef = aE.tmps.getD t undef := by
      intro listed a W hI i o hi hall t ht
      have h := (storeChk_at chk hi).2.2.2.2.1 t ht
      · by_cases hw : ∃ (j : Nat) (oj : Oper), l[j]? = some oj ∧ oj.dst = some t
        · obtain ⟨j, oj, hj, hjd⟩ := hw
          obtain ⟨e, he, hb, hon⟩ := bindsTo_spec (h j oj hj hjd)
          exact hI.fr1 j oj t hj hjd (by rw [← hon]; exact hall e he hb)
        · rw [hI.fr0 t (fun j oj hj ho => (hw ⟨j, oj, hj, ho⟩).elim)]
          exact hE t (fun j oj hj ho => hw ⟨j, oj, hj, ho⟩)
    induction fuel with
    | zero =>
      intro listed a W hI hc
      have hr : Region.ready .any l.toArray listed = [] := by
        rw [List.eq_nil_iff_forall_not_mem]
        intro i hi
        obtain ⟨h0, o, ho, _⟩ := mem_ready.1 hi
        have hil : i < l.length := by simpa using (Array.getElem?_eq_some_iff.1 ho).1
        have : 0 < (List.range l.length).countP (fun i => !listed.getD i true) := List.countP_pos_iff.2 ⟨i, List.mem_range.2 hil, by rw [h0]; rfl⟩
        omega
      exact ⟨hr, fin listed a W hI hr⟩
    | succ fuel ih =>
      intro listed a W hI hc
      refine ⟨fin listed a W hI, fun i hi => ?_⟩
      obtain ⟨h0, o, ho, hall⟩ := mem_ready.1 hi
      have hio : l[i]? = some o := by simpa using ho
      have hil : i < l.length := (List.getElem?_eq_some_iff.1 hio).1
      have hil' : i < listed.size := by rw [hI.len]; exact hil
      have hi0 : listed.getD i false = false := by simpa [hil'] using h0
      have hC := storeChk_at chk hio
      have hwe : Region.wanted o (yielded l.toArray a.tmps) = Region.wanted o (yielded l.toArray aE.tmps) := by
        unfold Region.wanted
        cases hg : o.guard with
        | none => rfl
        | some kb =>
          obtain ⟨k, b⟩ := kb
          obtain ⟨e, he, hb, hon⟩ := bindsTo_spec (hC.1 k b hg).2
          have : yielded l.toArray a.tmps k = yielded l.toArray aE.tmps k := yielded_congr hI.sz (fun ok tk hk hd => hI.fr1 k ok tk (by simpa using hk) hd (by rw [← hon]; exact hall e he hb))
          simp only [this]
      have hcnt : (List.range l.length).countP (fun j => !(listed.setIfInBounds i true).getD j true) ≤ fuel := by
        have := count_lt (fun j => !listed.getD j true) (fun j => !(listed.setIfInBounds i true).getD j true) (fun j hj => by
            by_cases e : i = j
            · subst e; simp [hil'] at hj
            · rw [getD_set_ne true e] at hj; exact hj) i (by rw [h0]; rfl) (by simp [hil']) (List.range l.length) (List.mem_range.2 hil)
        omega
      by_cases his : i = s
      · -- the store
        subst his
        have eo : o = os := by rw [hsi] at hio; exact (Option.some.inj hio).symm
        subst eo
        have hdst := hC.2.2.2.2.2 rfl
        obtain ⟨cs, hcs, hn, _⟩ := hI.box
        have hrun := hst a.eval W cs (fun t ht => look listed a W hI i o hio hall t ht) hcs hn
        have hgu : o.guard = none := by
          cases hg : o.guard with
          | none => rfl
          | some kb => exact ((hC.1 kb.1 kb.2 hg).1 rfl).elim
        have hw : Region.wanted o (yielded l.toArray a.tmps) = true := by unfold Region.wanted; rw [hgu]
        unfold wpOp
        simp only [ho, hw, if_true]
        refine .inl ?_
        unfold Oper.wp
        rw [hrun]
        simp only [Oper.upon, hdst]
        have hp : a.put none undef = a := rfl
        rw [hp]
        refine ih _ _ _ ⟨hI.df, hI.sz, by simpa using hI.len, ?_, ?_, below_setRow hI.bl hBg _, by simpa [World.setRow] using hI.big, ?_⟩ hcnt
        · intro j oj t hj hjd hl
          rw [getD_set _ _ _ hil'] at hl
          by_cases e : i = j
          · subst e; rw [hio] at hj; obtain rfl := Option.some.inj hj; rw [hdst] at hjd; cases hjd
          · rw [if_neg e] at hl; exact hI.fr1 j oj t hj hjd hl
        · intro t hno
          refine hI.fr0 t (fun j oj hj hjd => ?_)
          have := hno j oj hj hjd
          rw [getD_set _ _ _ hil'] at this
          by_cases e : i = j
          · rw [if_pos e] at this; cases this
          · rw [if_neg e] at this; exact this
        · exact ⟨U, setRow_heap W g0 cs U T (0, 0) hcs, hU, fun _ => rfl⟩
      · obtain ⟨t, hdst, htN⟩ := hC.2.2.2.1 his
        have step : ∀ W', Below B w W' → B ≤ W'.heap.size → (∃ cs, W'.heap[g0]? = some (.cells cs T (0, 0)) ∧ cs.size = n ∧ (listed.getD s false = true → cs = U)) → wpAny P .any l.toArray Q fuel (listed.setIfInBounds i true) (a.put (some t) (aE.tmps.getD t undef)) W' := by
          intro W' hW' hbig hbox
          refine ih _ _ _ ⟨by rw [put_defers]; exact hI.df, by rw [put_size]; exact hI.sz, by simpa using hI.len, ?_, ?_, hW', hbig, by rw [getD_set _ _ _ hil', if_neg his]; exact hbox⟩ hcnt
          · intro j oj u hj hjd hl
            by_cases htu : t = u
            · subst htu; rw [put_get_same _ _ _ (by rw [hI.sz, hEs]; exact htN)]
            · rw [put_get_ne _ _ _ _ htu]
              rw [getD_set _ _ _ hil'] at hl
              by_cases e : i = j
              · subst e; rw [hio] at hj; obtain rfl := Option.some.inj hj; rw [hdst] at hjd; exact (htu (Option.some.inj hjd)).elim
              · rw [if_neg e] at hl; exact hI.fr1 j oj u hj hjd hl
          · intro u hno
            have htu : t ≠ u := fun e => by
              subst e
              have := hno i o hio hdst
              rw [getD_set _ _ _ hil', if_pos rfl] at this; cases this
            rw [put_get_ne _ _ _ _ htu]
            refine hI.fr0 u (fun j oj hj hjd => ?_)
            have := hno j oj hj hjd
            rw [getD_set _ _ _ hil'] at this
            by_cases e : i = j
            · rw [if_pos e] at this; cases this
            · rw [if_neg e] at this; exact this
        unfold wpOp
        simp only [ho]
        rcases hop i o t hio his hdst with ⟨hw, hcalm⟩ | ⟨hw, hun⟩
        · rw [hwe, hw]
          simp only [if_true]
          refine .inl ?_
          have heq : execOp aE.eval o = execOp a.eval o := execOp_congr o hC.2.1 (fun x hx => by
              cases x with
              | tmp u =>
                have hu : u ∈ readsOf o := List.mem_filterMap.2 ⟨.tmp u, by simpa using hx, rfl⟩
                exact (look listed a W hI i o hio hall u hu).symm
              | _ => rfl)
          have hcalm' : calmAt P o a.eval W (aE.tmps.getD t undef) := by
              refine ⟨?_⟩; have hh := (hcalm W hI.bl).out; unfold calmRun at hh ⊢; rw [← heq]; exact hh
          refine wp_of_calm hcalm' (fun W' hb => ?_)
          rw [hdst]
          exact step W' (below_tr hI.bl hI.big hb) (Nat.le_trans hI.big hb.size) (by obtain ⟨cs, hcs, hr⟩ := hI.box; exact ⟨cs, by rw [hb.block _ (Array.getElem?_eq_some_iff.1 hcs).1]; exact hcs, hr⟩)
        · rw [hwe, hw]
          simp only [Bool.false_eq_true, if_false, hdst]
          rw [hun] at step
          exact step W hI.bl hI.big hI.box
  refine key _ _ _ _ ⟨by rw [hEd], hEs.symm, by simp, ?_, ?_, ⟨rfl, rfl, rfl, Nat.le_refl _, fun _ _ => rfl⟩, hBw, by obtain ⟨cs, h1, h2⟩ := h0; exact ⟨cs, h1, h2, fun h => by rw [rep_false] at h; cases h⟩⟩ ?_
  · intro j o t hj hjd hl; rw [rep_false] at hl; cases hl
  · intro t _; rfl
  · exact Nat.le_trans List.countP_le_length (by simp)
/-- What the law asks of one operation that is not the store. -/
def CalmS (P : Program) (aE : Act) (w : World) (B : Nat) (l : List Oper) (o : Oper) : Prop := ∀ t, o.dst = some t →
  (Region.wanted o (yielded l.toArray aE.tmps) = true ∧ ∀ W, Below B w W → calmAt P o aE.eval W (aE.tmps.getD t undef)) ∨ (Region.wanted o (yielded l.toArray aE.tmps) = false ∧ aE.tmps.getD t undef = undef)
theorem CalmS.mk {P : Program} {aE : Act} {w : World} {B : Nat} {l : List Oper} {o : Oper} (t : Nat) (v : Value) (hd : o.dst = some t) (hv : aE.tmps.getD t undef = v) (hw : Region.wanted o (yielded l.toArray aE.tmps) = true) (h : ∀ W, Below B w W → calmAt P o aE.eval W v) : CalmS P aE w B l o := by
  intro t' hd'
  rw [hd] at hd'
  obtain rfl := Option.some.inj hd'
  exact .inl ⟨hw, fun W hW => by rw [hv]; exact h W hW⟩
theorem region_store {id : Nat} (B g0 s n : Nat) (T : TypeId) (U : Array Value) (vs : List (Nat × Value)) (hm : P.follows .mixedOrders = true) (hsi : l[s]? = some os)
    (chk : storeChk l s a0.tmps.size = true) (hkeys : vs.all (fun kv => l.any (·.dst == some kv.1)) = true) (hBg : B ≤ g0) (hBw : B ≤ w.heap.size) (h0 : ∃ cs, w.heap[g0]? = some (.cells cs T (0, 0)) ∧ cs.size = n) (hU : U.size = n)
    (H : ∀ aE, puts a0 vs = aE → (∀ (ρ : Operand → Value) (W : World) (cs : Array Value), (∀ t ∈ readsOf os, ρ (.tmp t) = aE.tmps.getD t undef) → W.heap[g0]? = some (.cells cs T (0, 0)) → cs.size = n → (execOp ρ os).run P W = .ok .skip (W.setRow g0 U)) ∧
      AllBut (CalmS P aE w B l) s s 0 l ∧ ∀ W, Below B w W → W.heap[g0]? = some (.cells U T (0, 0)) → Q .normal aE W) :
    (Code.region id l.toArray true).wp P Q a0 w := by
  obtain ⟨h1, h2, h3⟩ := H _ rfl
  refine wp_region_storeG hm hsi hBg hBw h0 hU h1 chk hkeys (fun i o t hi his hd => ?_) h3
  exact AllBut.spec l 0 h2 i o hi (by omega) (by omega) t hd
end
end Go.Proofs.Ytcfilpcjgdbbmaa
/- Contracts: joins; what is made of three numbers. -/
namespace Go.Proofs.Ytcfilpcjgdbbmaa
open Go.RowKit
set_option linter.unusedVariables false
set_option linter.unusedSimpArgs false
theorem nz3 {p x y z : Int} (h : nzB p [x, y, z] = false) : x % p = 0 ∧ y % p = 0 ∧ z % p = 0 := by
  unfold nzB zerosB at h
  simp at h
  exact h
theorem made_fst (p x y z : Int) : (made p x y z).1 = nrm3 p x y z := by
  unfold made
  cases h : nzB p [x, y, z] with
  | true => rfl
  | false =>
    obtain ⟨a, b, c⟩ := nz3 h
    unfold nrm3
    rw [a, b, c]
    simp
theorem crsN_in' {p : Int} {a b : Pt} (hp : prB p = true) : In13 ((crsN p a b).1, (crsN p a b).2.1, (crsN p a b).2.2) := by
  obtain ⟨h1, h2⟩ := prB_bd hp
  have k : ∀ x : Int, 0 ≤ x % p ∧ x % p ≤ 12 := fun x => ⟨Int.emod_nonneg _ (by omega), by have := Int.emod_lt_of_pos x (show 0 < p by omega); omega⟩
  exact ⟨k _, k _, k _⟩
theorem in13' {p x y z : Int} (h : ptB p x y z = true) : In13 (x, y, z) := by
  obtain ⟨hp, f1, f2, f3, _⟩ := pt_facts h
  obtain ⟨h1, h2⟩ := prB_bd hp
  exact ⟨⟨by simp only; omega, by simp only; omega⟩, ⟨by simp only; omega, by simp only; omega⟩, by simp only; omega, by simp only; omega⟩
theorem in13_far : In13 (1, 0, 0) := ⟨⟨by decide, by decide⟩, ⟨by decide, by decide⟩, by decide, by decide⟩
/-- Whether two points have a line, two lines a point. -/
def okC (p : Int) (a b : Pt) : Bool := (madeC p a b).2
theorem l01Meet_crs (p a0 a1 a2 b0 b1 b2 : Int) (w : World) (hp : prB p = true) (ha : In13 (a0, a1, a2)) (hb : In13 (b0, b1, b2)) :
    Calls Try.prog 31 #[.int .i64 p, ptV a0 a1 a2, ptV b0 b1 b2] w (Ret w (.tuple #[ptV (crsN p (a0, a1, a2) (b0, b1, b2)).1 (crsN p (a0, a1, a2) (b0, b1, b2)).2.1 (crsN p (a0, a1, a2) (b0, b1, b2)).2.2, .bool (okC p (a0, a1, a2) (b0, b1, b2))])) := by
  have h := l01Meet_any p a0 a1 a2 b0 b1 b2 w hp ha hb
  have e : (madeC p (a0, a1, a2) (b0, b1, b2)).1 = crsN p (a0, a1, a2) (b0, b1, b2) := made_fst _ _ _ _
  rw [e] at h
  exact h
theorem l01Join_any (p a0 a1 a2 b0 b1 b2 : Int) (w : World) (hp : prB p = true) (ha : In13 (a0, a1, a2)) (hb : In13 (b0, b1, b2)) :
    Calls Try.prog 30 #[.int .i64 p, ptV a0 a1 a2, ptV b0 b1 b2] w (Ret w (.tuple #[ptV (madeC p (a0, a1, a2) (b0, b1, b2)).1.1 (madeC p (a0, a1, a2) (b0, b1, b2)).1.2.1 (madeC p (a0, a1, a2) (b0, b1, b2)).1.2.2, .bool (madeC p (a0, a1, a2) (b0, b1, b2)).2])) := by
  have HC := Lib.hid (fun (W : World) => l01Cross_any p a0 a1 a2 b0 b1 b2 W hp ha hb)
  generalize madeC p (a0, a1, a2) (b0, b1, b2) = r at *
  obtain ⟨⟨u0, u1, u2⟩, c⟩ := r
  clear hp ha hb
  go_enter Try.func30, Try.ntmps30
  go_wp2_with (go_at_call 50; refine (HC.out _).mono ?_; rintro e w_ ⟨rfl, hb⟩; obtain ⟨hcb, hfb, hlb⟩ := bcell hb; have hsz := hb.size; try simp at hsz; have HB := Lib.hid hb; clear hb; try (have hl0 : w.heap.size < w_.heap.size := by omega); try (have hl1 : w.heap.size + 1 < w_.heap.size := by omega); try (have hl2 : w.heap.size + 1 + 1 < w_.heap.size := by omega))
  exact bodyPost_ret (v := .tuple #[ptV u0 u1 u2, .bool c]) (by simp [results, Try.results30, go_sem, hcb, hl0, hl1, hl2]) rfl ⟨rfl, (by repeat (first | exact Below.refl _ _ | refine bset ?_ _ _ (by omega) _ | refine bal ?_ _ | refine bdrN ?_ _ | refine bdr ?_ | refine below_tr' ?_ HB.out))⟩
theorem l01Join_crs (p a0 a1 a2 b0 b1 b2 : Int) (w : World) (hp : prB p = true) (ha : In13 (a0, a1, a2)) (hb : In13 (b0, b1, b2)) :
    Calls Try.prog 30 #[.int .i64 p, ptV a0 a1 a2, ptV b0 b1 b2] w (Ret w (.tuple #[ptV (crsN p (a0, a1, a2) (b0, b1, b2)).1 (crsN p (a0, a1, a2) (b0, b1, b2)).2.1 (crsN p (a0, a1, a2) (b0, b1, b2)).2.2, .bool (okC p (a0, a1, a2) (b0, b1, b2))])) := by
  have h := l01Join_any p a0 a1 a2 b0 b1 b2 w hp ha hb
  have e : (madeC p (a0, a1, a2) (b0, b1, b2)).1 = crsN p (a0, a1, a2) (b0, b1, b2) := made_fst _ _ _ _
  rw [e] at h
  exact h
theorem join_any (p a0 a1 a2 b0 b1 b2 : Int) (w : World) (hp : prB p = true) (ha : In13 (a0, a1, a2)) (hb : In13 (b0, b1, b2)) :
    Calls Try.prog 38 #[.int .i64 p, ptV a0 a1 a2, ptV b0 b1 b2] w (Ret w (ptV (crsN p (a0, a1, a2) (b0, b1, b2)).1 (crsN p (a0, a1, a2) (b0, b1, b2)).2.1 (crsN p (a0, a1, a2) (b0, b1, b2)).2.2)) := by
  have HC := Lib.hid (fun (W : World) => cross_any p a0 a1 a2 b0 b1 b2 W hp ha hb)
  generalize crsN p (a0, a1, a2) (b0, b1, b2) = r at *
  obtain ⟨u0, u1, u2⟩ := r
  clear hp ha hb
  go_enter Try.func38, Try.ntmps38
  go_wp2_with (go_at_call 56; refine (HC.out _).mono ?_; rintro e w_ ⟨rfl, hb⟩; obtain ⟨hcb, hfb, hlb⟩ := bcell hb; have hsz := hb.size; try simp at hsz; have HB := Lib.hid hb; clear hb; try (have hl0 : w.heap.size < w_.heap.size := by omega); try (have hl1 : w.heap.size + 1 < w_.heap.size := by omega); try (have hl2 : w.heap.size + 1 + 1 < w_.heap.size := by omega))
  exact bodyPost_ret (v := ptV u0 u1 u2) (by simp [results, Try.results38, go_sem, hcb, hl0, hl1, hl2]) rfl ⟨rfl, (by repeat (first | exact Below.refl _ _ | refine bset ?_ _ _ (by omega) _ | refine bal ?_ _ | refine bdrN ?_ _ | refine bdr ?_ | refine below_tr' ?_ HB.out))⟩
end Go.Proofs.Ytcfilpcjgdbbmaa
/- Contracts: points on lines, determinants, three points of a line. -/
namespace Go.Proofs.Ytcfilpcjgdbbmaa
open Go.RowKit
set_option linter.unusedVariables false
set_option linter.unusedSimpArgs false
theorem mul_sb {a d : Int} (h0 : 0 ≤ a) (h1 : a ≤ 12) (g0 : -144 ≤ d) (g1 : d ≤ 144) : -1728 ≤ a * d ∧ a * d ≤ 1728 := by
  have u1 := Int.mul_le_mul_of_nonneg_left g1 h0
  have u2 := Int.mul_le_mul_of_nonneg_left g0 h0
  omega
/-- Whole numbers' determinant of three points. -/
def detZ (a b c : Pt) : Int := a.1 * (b.2.1 * c.2.2 - b.2.2 * c.2.1) + a.2.1 * (b.2.2 * c.1 - b.1 * c.2.2) + a.2.2 * (b.1 * c.2.1 - b.2.1 * c.1)
theorem l01On_any (p a0 a1 a2 b0 b1 b2 : Int) (w : World) (hp : prB p = true) (ha : In13 (a0, a1, a2)) (hb : In13 (b0, b1, b2)) :
    Calls Try.prog 21 #[.int .i64 p, ptV a0 a1 a2, ptV b0 b1 b2] w (Ret w (.bool (onB p (a0, a1, a2) (b0, b1, b2)))) := by
  obtain ⟨⟨p0, p1⟩, ⟨p2, p3⟩, ⟨p4, p5⟩⟩ := ha
  obtain ⟨⟨q0, q1⟩, ⟨q2, q3⟩, ⟨q4, q5⟩⟩ := hb
  simp only at p0 p1 p2 p3 p4 p5 q0 q1 q2 q3 q4 q5
  obtain ⟨m1, n1⟩ := mul_bd p0 p1 q0 q1
  obtain ⟨m2, n2⟩ := mul_bd p2 p3 q2 q3
  obtain ⟨m3, n3⟩ := mul_bd p4 p5 q4 q5
  obtain ⟨h1, h2⟩ := prB_bd hp
  have hpz : (p == 0) = false := beqf (by omega)
  have HE : Hid (onB p (a0, a1, a2) (b0, b1, b2) = ((a0 * b0 + a1 * b1 + a2 * b2) % p == 0)) := Lib.hid rfl
  clear hp
  go_enter Try.func21, Try.ntmps21
  go_wp2
  go_ret
  exact ⟨ret_bool HE.out.symm, (by repeat (first | exact Below.refl _ _ | refine bset ?_ _ _ (by omega) _ | refine bal ?_ _ | refine bdrN ?_ _ | refine bdr ?_))⟩
set_option maxHeartbeats 1000000 in
theorem l01Det_any (p a0 a1 a2 b0 b1 b2 c0 c1 c2 : Int) (w : World) (hp : prB p = true) (ha : In13 (a0, a1, a2)) (hb : In13 (b0, b1, b2)) (hc : In13 (c0, c1, c2)) :
    Calls Try.prog 41 #[.int .i64 p, ptV a0 a1 a2, ptV b0 b1 b2, ptV c0 c1 c2] w (Ret w (.int .i64 (detZ (a0, a1, a2) (b0, b1, b2) (c0, c1, c2) % p))) := by
  obtain ⟨⟨⟨m1, n1⟩, m2, n2⟩, ⟨⟨m3, n3⟩, m4, n4⟩, ⟨m5, n5⟩, m6, n6⟩ := crs_bd (p := p) hb hc
  obtain ⟨⟨p0, p1⟩, ⟨p2, p3⟩, ⟨p4, p5⟩⟩ := ha
  simp only at p0 p1 p2 p3 p4 p5
  obtain ⟨s1, t1⟩ := mul_sb (d := b1 * c2 - b2 * c1) p0 p1 (by omega) (by omega)
  obtain ⟨s2, t2⟩ := mul_sb (d := b2 * c0 - b0 * c2) p2 p3 (by omega) (by omega)
  obtain ⟨s3, t3⟩ := mul_sb (d := b0 * c1 - b1 * c0) p4 p5 (by omega) (by omega)
  have HM := Lib.hid (fun (W : World) => l01Mod_any p (a0 * (b1 * c2 - b2 * c1) + a1 * (b2 * c0 - b0 * c2) + a2 * (b0 * c1 - b1 * c0)) W (by have := prB_bd hp; omega) (by have := prB_bd hp; omega) (by omega) (by omega))
  have HE : Hid (detZ (a0, a1, a2) (b0, b1, b2) (c0, c1, c2) = a0 * (b1 * c2 - b2 * c1) + a1 * (b2 * c0 - b0 * c2) + a2 * (b0 * c1 - b1 * c0)) := Lib.hid rfl
  clear hp hb hc
  rw [HE.out]
  go_enter Try.func41, Try.ntmps41
  go_wp2_with (go_at_call 23; (with_reducible refine (HM.out _).mono ?_); rintro e w' ⟨rfl, rfl⟩)
  go_ret
  exact ⟨rfl, (by repeat (first | exact Below.refl _ _ | refine bset ?_ _ _ (by omega) _ | refine bal ?_ _ | refine bdrN ?_ _ | refine bdr ?_))⟩
set_option maxHeartbeats 1000000 in
theorem determinant_any (p a0 a1 a2 b0 b1 b2 c0 c1 c2 : Int) (w : World) (hp : prB p = true) (ha : In13 (a0, a1, a2)) (hb : In13 (b0, b1, b2)) (hc : In13 (c0, c1, c2)) :
    Calls Try.prog 46 #[.int .i64 p, ptV a0 a1 a2, ptV b0 b1 b2, ptV c0 c1 c2] w (Ret w (.int .i64 (detZ (a0, a1, a2) (b0, b1, b2) (c0, c1, c2) % p))) := by
  obtain ⟨⟨⟨m1, n1⟩, m2, n2⟩, ⟨⟨m3, n3⟩, m4, n4⟩, ⟨m5, n5⟩, m6, n6⟩ := crs_bd (p := p) hb hc
  obtain ⟨⟨p0, p1⟩, ⟨p2, p3⟩, ⟨p4, p5⟩⟩ := ha
  simp only at p0 p1 p2 p3 p4 p5
  obtain ⟨s1, t1⟩ := mul_sb (d := b1 * c2 - b2 * c1) p0 p1 (by omega) (by omega)
  obtain ⟨s2, t2⟩ := mul_sb (d := b0 * c2 - b2 * c0) p2 p3 (by omega) (by omega)
  obtain ⟨s3, t3⟩ := mul_sb (d := b0 * c1 - b1 * c0) p4 p5 (by omega) (by omega)
  have HE : Hid (detZ (a0, a1, a2) (b0, b1, b2) (c0, c1, c2) = a0 * (b1 * c2 - b2 * c1) - a1 * (b0 * c2 - b2 * c0) + a2 * (b0 * c1 - b1 * c0)) := Lib.hid (by
    show a0 * (b1 * c2 - b2 * c1) + a1 * (b2 * c0 - b0 * c2) + a2 * (b0 * c1 - b1 * c0) = _
    rw [show b2 * c0 - b0 * c2 = -(b0 * c2 - b2 * c0) by omega, Int.mul_neg]
    omega)
  have hpb := prB_bd hp
  rw [HE.out]
  have HM := Lib.hid (fun (W : World) => mod_any (a0 * (b1 * c2 - b2 * c1) - a1 * (b0 * c2 - b2 * c0) + a2 * (b0 * c1 - b1 * c0)) p W (by omega) (by omega) (by omega) (by omega))
  clear hp hb hc
  go_enter Try.func46, Try.ntmps46
  go_wp2_with (go_at_call 48; (with_reducible refine (HM.out _).mono ?_); rintro e w' ⟨rfl, rfl⟩)
  go_ret
  exact ⟨rfl, (by repeat (first | exact Below.refl _ _ | refine bset ?_ _ _ (by omega) _ | refine bal ?_ _ | refine bdrN ?_ _ | refine bdr ?_))⟩
theorem collinear_any (p a0 a1 a2 b0 b1 b2 c0 c1 c2 : Int) (w : World) (hp : prB p = true) (ha : In13 (a0, a1, a2)) (hb : In13 (b0, b1, b2)) (hc : In13 (c0, c1, c2)) :
    Calls Try.prog 44 #[.int .i64 p, ptV a0 a1 a2, ptV b0 b1 b2, ptV c0 c1 c2] w (Ret w (.bool (detZ (a0, a1, a2) (b0, b1, b2) (c0, c1, c2) % p == 0))) := by
  have HC := Lib.hid (fun (W : World) => determinant_any p a0 a1 a2 b0 b1 b2 c0 c1 c2 W hp ha hb hc)
  generalize detZ (a0, a1, a2) (b0, b1, b2) (c0, c1, c2) % p = d at *
  clear hp ha hb hc
  go_enter Try.func44, Try.ntmps44
  go_wp2_with (go_at_call 46; (with_reducible refine (HC.out _).mono ?_); rintro e w1_ ⟨rfl, hb1⟩; obtain ⟨hcb1, hfb1, hlb1⟩ := bcell hb1; have hsz1 := hb1.size; (try simp at hsz1); have HB1 := Lib.hid hb1; clear hb1; (try (have hl01 : w.heap.size < w1_.heap.size := by omega)); (try (have hl11 : w.heap.size + 1 < w1_.heap.size := by omega)); (try (have hl21 : w.heap.size + 1 + 1 < w1_.heap.size := by omega)))
  go_ret
  exact ⟨ret_bool rfl, (by repeat (first | exact Below.refl _ _ | refine bset ?_ _ _ (by omega) _ | refine bal ?_ _ | refine bdrN ?_ _ | refine bdr ?_ | refine below_tr' ?_ HB1.out))⟩
end Go.Proofs.Ytcfilpcjgdbbmaa
/- Contracts: three points of a line. -/
namespace Go.Proofs.Ytcfilpcjgdbbmaa
open Go.RowKit
set_option linter.unusedVariables false
set_option linter.unusedSimpArgs false
/-- Three different points of one line. -/
def threeB (p : Int) (a b c : Pt) : Bool := !eqP a b && (!eqP a c && (!eqP b c && detZ a b c % p == 0))
end Go.Proofs.Ytcfilpcjgdbbmaa
/- Contracts: all points of a plane. -/
namespace Go.Proofs.Ytcfilpcjgdbbmaa
open Go.RowKit
set_option linter.unusedVariables false
set_option linter.unusedSimpArgs false
def ptC (a : Pt) : List Value := [.int .i64 a.1, .int .i64 a.2.1, .int .i64 a.2.2]
def ptCs (l : List Pt) : List Value := l.flatMap ptC
theorem ptCs_snoc (l : List Pt) (a : Pt) : ptCs (l ++ [a]) = ptCs l ++ ptC a := by simp [ptCs]
/-- The points with first number 0 up to the k-th; those with first number 1. -/
def pA (k : Nat) : List Pt := (0, 0, 1) :: (List.range k).map (fun z : Nat => (0, 1, (z : Int)))
def pR (n y : Nat) : List Pt := (List.range n).map (fun z : Nat => (1, (y : Int), (z : Int)))
def pB (n y : Nat) : List Pt := pA n ++ (List.range y).flatMap (pR n)
def allP (n : Nat) : List Pt := pB n n
theorem pA_succ (k : Nat) : pA (k + 1) = pA k ++ [(0, 1, (k : Int))] := by simp [pA, List.range_succ]
theorem pR_succ (n y : Nat) : pR (n + 1) y = pR n y ++ [(1, (y : Int), (n : Int))] := by simp [pR, List.range_succ]
theorem pB_succ (n y : Nat) : pB n (y + 1) = pB n y ++ pR n y := by simp [pB, List.range_succ]
theorem pA_length (k : Nat) : (pA k).length = k + 1 := by simp [pA]
theorem pR_length (n y : Nat) : (pR n y).length = n := by simp [pR]
theorem pB_length (n y : Nat) : (pB n y).length = n + 1 + y * n := by
  induction y with
  | zero => simp [pB, pA_length]
  | succ y ih => rw [pB_succ, List.length_append, ih, pR_length, Nat.succ_mul]; omega
/-- A new list of points. -/
structure PtsPost (w : World) (l : List Pt) (e : Ending) (w' : World) : Prop where
  out : ∃ v, e = .returned v ∧ w'.ownsRow w.heap.size 45 3 v l.length (ptCs l) ∧ Below w.heap.size w w'
theorem infoPo : (Try.prog.info? 45).map (fun i => (i.zero, i.size, i.bytes)) = some (some (.agg #[.int .i64 0, .int .i64 0, .int .i64 0]), 3, 24) := by kernel_rfl
theorem newP (wr : World) (x y z : Value) (T : TypeId) : ∀ (j : Nat) (u : Value), [x, y, z][j]? = some u → (wr.alloc (.cells #[x, y, z] T)).cell? ((⟨wr.heap.size, 0, none⟩ : Addr).add j) = some u := by
  intro j u hj
  have e : (wr.alloc (.cells #[x, y, z] T)).cell? ((⟨wr.heap.size, 0, none⟩ : Addr).add j) = #[x, y, z][j]? := by
    have hadd : (⟨wr.heap.size, 0, none⟩ : Addr).add j = ⟨wr.heap.size, j, none⟩ := by unfold Addr.add; split <;> simp_all
    rw [hadd, World.cell?_alloc_at _ _ _ _ rfl]
  rw [e]; simpa using hj
theorem oneP (x y z : Int) : ∀ u ∈ [Value.int .i64 x, .int .i64 y, .int .i64 z], u.oneCell' = true := by
  intro u hu
  simp only [List.mem_cons, List.not_mem_nil, or_false] at hu
  rcases hu with rfl | rfl | rfl <;> rfl
set_option maxHeartbeats 1600000 in
theorem l01Points_any (n : Nat) (w : World) (hn : 3 ≤ n ∧ n ≤ 13) :
    Calls Try.prog 20 #[.int .i64 (n : Int)] w (PtsPost w (allP n)) := by
  obtain ⟨n3, n13⟩ := hn
  obtain ⟨i0, hi, hz0, hz1, hz2⟩ := info_parts infoPo
  have HI0 := Lib.hid hi; have HZ0 := Lib.hid hz0; have HZ1 := Lib.hid hz1; have HZ2 := Lib.hid hz2
  clear hi hz0 hz1 hz2
  go_enter Try.func20, Try.ntmps20
  go_wp2
  go_loopw [3, 4] (fun v i wr => ∃ k : Nat, k ≤ n ∧ i = .int .i64 k ∧ Hid (wr.ownsRow w.heap.size 45 3 v (k + 1) (ptCs (pA k))) ∧ Hid (Below w.heap.size w wr)) (fun _ i wr => n - (intOf i).toNat)
  case atStart =>
    refine ⟨0, Nat.zero_le _, rfl, Lib.hid ?_, Lib.hid (by repeat (first | exact Below.refl _ _ | refine bset ?_ _ _ (by omega) _ | refine bal ?_ _ | refine bdrN ?_ _ | refine bdr ?_))⟩
    refine ⟨rfl, .inr ⟨w.heap.size, 1, #[.int .i64 0, .int .i64 0, .int .i64 1], rfl, Nat.le_refl _, heap_alloc_new _ _, Nat.le_refl _, by unfold maxLen; omega, rfl, rfl⟩⟩
  case round =>
    obtain ⟨k, hk, rfl, HO, HB⟩ := hrel
    by_cases hlt : k < n
    · have HN := Lib.hid (pA_succ k)
      go_wp2_with (at_builtin; refine wpList_append_own _ rfl _ _ 27 rfl w.heap.size 45 i0 (.agg #[.int .i64 0, .int .i64 0, .int .i64 0]) 3 24 Try.underlying27 HI0.out HZ0.out HZ1.out HZ2.out rfl (by decide) _ _ _ rfl (HO.out.alloc _) ⟨wr.heap.size, 0, none⟩ 1 1 [.int .i64 0, .int .i64 1, .int .i64 (k : Int)] rfl rfl (newP _ _ _ _ _) (oneP _ _ _) (by unfold maxLen; omega) (by omega) (by have := HB.out.size; simp; omega) ?_; intro v2 w2 hown hgrow _; have HO2 := Lib.hid hown; have HG := Lib.hid hgrow; clear hown hgrow)
      go_roundw
      case rel => exact ⟨k + 1, by omega, by go_num, Lib.hid (by rw [HN.out, ptCs_snoc]; exact HO2.out), Lib.hid ((bal HB.out _).grown HG.out (by have := HB.out.size; simp; omega) (fun k' hk' => own_base' HO.out k' hk'))⟩
      case measure => simp [intOf]; omega
    · have hkn : k = n := by omega
      subst hkn
      clear hlt hk
      go_wp2
      go_loopw [3, 5, 6] (fun v i z wr => ∃ j : Nat, j ≤ k ∧ i = .int .i64 j ∧ Hid (wr.ownsRow w.heap.size 45 3 v (k + 1 + j * k) (ptCs (pB k j))) ∧ Hid (Below w.heap.size w wr)) (fun _ i _ wr => k - (intOf i).toNat)
      case atStart =>
        exact ⟨0, Nat.zero_le _, rfl, Lib.hid (by have h := HO.out; simpa [pB] using h), HB⟩
      case round =>
        clear HO HB
        obtain ⟨j, hj, rfl, HO, HB⟩ := hrel
        by_cases hlt : j < k
        · have hjk : j * k ≤ 169 := Nat.mul_le_mul (show j ≤ 13 by omega) n13
          generalize hJ : j * k = J at *
          go_wp2
          go_loopw [3, 6] (fun v i wr => ∃ m : Nat, m ≤ k ∧ i = .int .i64 m ∧ Hid (wr.ownsRow w.heap.size 45 3 v (k + 1 + J + m) (ptCs (pB k j ++ pR m j))) ∧ Hid (Below w.heap.size w wr)) (fun _ i wr => k - (intOf i).toNat)
          case atStart =>
            exact ⟨0, Nat.zero_le _, rfl, Lib.hid (by have h := HO.out; simpa [pR] using h), HB⟩
          case round =>
            clear HO HB
            obtain ⟨m, hm, rfl, HO, HB⟩ := hrel
            by_cases hlm : m < k
            · have HN := Lib.hid (show pB k j ++ pR (m + 1) j = (pB k j ++ pR m j) ++ [(1, (j : Int), (m : Int))] by rw [pR_succ, List.append_assoc])
              go_wp2_with (at_builtin; refine wpList_append_own _ rfl _ _ 27 rfl w.heap.size 45 i0 (.agg #[.int .i64 0, .int .i64 0, .int .i64 0]) 3 24 Try.underlying27 HI0.out HZ0.out HZ1.out HZ2.out rfl (by decide) _ _ _ rfl (HO.out.alloc _) ⟨wr.heap.size, 0, none⟩ 1 1 [.int .i64 1, .int .i64 (j : Int), .int .i64 (m : Int)] rfl rfl (newP _ _ _ _ _) (oneP _ _ _) (by unfold maxLen; omega) (by omega) (by have := HB.out.size; simp; omega) ?_; intro v2 w2 hown hgrow _; have HO2 := Lib.hid hown; have HG := Lib.hid hgrow; clear hown hgrow)
              go_roundw
              case rel => exact ⟨m + 1, by omega, by go_num, Lib.hid (by rw [HN.out, ptCs_snoc]; exact HO2.out), Lib.hid ((bal HB.out _).grown HG.out (by have := HB.out.size; simp; omega) (fun k' hk' => own_base' HO.out k' hk'))⟩
              case measure => simp [intOf]; omega
            · have hmk : m = k := by omega
              subst hmk
              go_wp2
              go_roundw
              case rel => exact ⟨j + 1, by omega, by go_num, Lib.hid (by have h := HO.out; rw [pB_succ, Nat.succ_mul, hJ, show m + 1 + (J + m) = m + 1 + J + m by omega]; exact h), HB⟩
              case measure => simp [intOf]; omega
        · have hjk : j = k := by omega
          subst hjk
          go_wp2
          go_ret
          exact ⟨_, rfl, by have h := HO.out; rw [show allP j = pB j j from rfl, pB_length]; exact h, HB.out⟩
end Go.Proofs.Ytcfilpcjgdbbmaa
/- Contracts: all points of a plane: the program. -/
namespace Go.Proofs.Ytcfilpcjgdbbmaa
open Go.RowKit
set_option linter.unusedVariables false
set_option linter.unusedSimpArgs false
set_option maxHeartbeats 1600000 in
theorem allPoints_any (n : Nat) (w : World) (hn : 3 ≤ n ∧ n ≤ 13) :
    Calls Try.prog 25 #[.int .i64 (n : Int)] w (PtsPost w (allP n)) := by
  obtain ⟨n3, n13⟩ := hn
  obtain ⟨i0, hi, hz0, hz1, hz2⟩ := info_parts infoPo
  have HI0 := Lib.hid hi; have HZ0 := Lib.hid hz0; have HZ1 := Lib.hid hz1; have HZ2 := Lib.hid hz2
  clear hi hz0 hz1 hz2
  go_enter Try.func25, Try.ntmps25
  go_wp2
  go_loopw [3, 10] (fun v i wr => ∃ k : Nat, k ≤ n ∧ i = .int .i64 k ∧ Hid (wr.ownsRow w.heap.size 45 3 v (k + 1) (ptCs (pA k))) ∧ Hid (Below w.heap.size w wr)) (fun _ i wr => n - (intOf i).toNat)
  case atStart =>
    refine ⟨0, Nat.zero_le _, rfl, Lib.hid ?_, Lib.hid (by repeat (first | exact Below.refl _ _ | refine bset ?_ _ _ (by omega) _ | refine bal ?_ _ | refine bdrN ?_ _ | refine bdr ?_))⟩
    refine ⟨rfl, .inr ⟨w.heap.size, 1, #[.int .i64 0, .int .i64 0, .int .i64 1], rfl, Nat.le_refl _, heap_alloc_new _ _, Nat.le_refl _, by unfold maxLen; omega, rfl, rfl⟩⟩
  case round =>
    obtain ⟨k, hk, rfl, HO, HB⟩ := hrel
    by_cases hlt : k < n
    · have HN := Lib.hid (pA_succ k)
      go_wp2_with (at_builtin; refine wpList_append_own _ rfl _ _ 27 rfl w.heap.size 45 i0 (.agg #[.int .i64 0, .int .i64 0, .int .i64 0]) 3 24 Try.underlying27 HI0.out HZ0.out HZ1.out HZ2.out rfl (by decide) _ _ _ rfl (HO.out.alloc _) ⟨wr.heap.size, 0, none⟩ 1 1 [.int .i64 0, .int .i64 1, .int .i64 (k : Int)] rfl rfl (newP _ _ _ _ _) (oneP _ _ _) (by unfold maxLen; omega) (by omega) (by have := HB.out.size; simp; omega) ?_; intro v2 w2 hown hgrow _; have HO2 := Lib.hid hown; have HG := Lib.hid hgrow; clear hown hgrow)
      go_roundw
      case rel => exact ⟨k + 1, by omega, by go_num, Lib.hid (by rw [HN.out, ptCs_snoc]; exact HO2.out), Lib.hid ((bal HB.out _).grown HG.out (by have := HB.out.size; simp; omega) (fun k' hk' => own_base' HO.out k' hk'))⟩
      case measure => simp [intOf]; omega
    · have hkn : k = n := by omega
      subst hkn
      clear hlt hk
      go_wp2
      go_loopw [3, 20] (fun v i wr => ∃ j : Nat, j ≤ k ∧ i = .int .i64 j ∧ Hid (wr.ownsRow w.heap.size 45 3 v (k + 1 + j * k) (ptCs (pB k j))) ∧ Hid (Below w.heap.size w wr)) (fun _ i wr => k - (intOf i).toNat)
      case atStart =>
        exact ⟨0, Nat.zero_le _, rfl, Lib.hid (by have h := HO.out; simpa [pB] using h), HB⟩
      case round =>
        clear HO HB
        obtain ⟨j, hj, rfl, HO, HB⟩ := hrel
        by_cases hlt : j < k
        · have hjk : j * k ≤ 169 := Nat.mul_le_mul (show j ≤ 13 by omega) n13
          generalize hJ : j * k = J at *
          go_wp2
          go_loopw [3, 24] (fun v i wr => ∃ m : Nat, m ≤ k ∧ i = .int .i64 m ∧ Hid (wr.ownsRow w.heap.size 45 3 v (k + 1 + J + m) (ptCs (pB k j ++ pR m j))) ∧ Hid (Below w.heap.size w wr)) (fun _ i wr => k - (intOf i).toNat)
          case atStart =>
            exact ⟨0, Nat.zero_le _, rfl, Lib.hid (by have h := HO.out; simpa [pR] using h), HB⟩
          case round =>
            clear HO HB
            obtain ⟨m, hm, rfl, HO, HB⟩ := hrel
            by_cases hlm : m < k
            · have HN := Lib.hid (show pB k j ++ pR (m + 1) j = (pB k j ++ pR m j) ++ [(1, (j : Int), (m : Int))] by rw [pR_succ, List.append_assoc])
              go_wp2_with (at_builtin; refine wpList_append_own _ rfl _ _ 27 rfl w.heap.size 45 i0 (.agg #[.int .i64 0, .int .i64 0, .int .i64 0]) 3 24 Try.underlying27 HI0.out HZ0.out HZ1.out HZ2.out rfl (by decide) _ _ _ rfl (HO.out.alloc _) ⟨wr.heap.size, 0, none⟩ 1 1 [.int .i64 1, .int .i64 (j : Int), .int .i64 (m : Int)] rfl rfl (newP _ _ _ _ _) (oneP _ _ _) (by unfold maxLen; omega) (by omega) (by have := HB.out.size; simp; omega) ?_; intro v2 w2 hown hgrow _; have HO2 := Lib.hid hown; have HG := Lib.hid hgrow; clear hown hgrow)
              go_roundw
              case rel => exact ⟨m + 1, by omega, by go_num, Lib.hid (by rw [HN.out, ptCs_snoc]; exact HO2.out), Lib.hid ((bal HB.out _).grown HG.out (by have := HB.out.size; simp; omega) (fun k' hk' => own_base' HO.out k' hk'))⟩
              case measure => simp [intOf]; omega
            · have hmk : m = k := by omega
              subst hmk
              go_wp2
              go_roundw
              case rel => exact ⟨j + 1, by omega, by go_num, Lib.hid (by have h := HO.out; rw [pB_succ, Nat.succ_mul, hJ, show m + 1 + (J + m) = m + 1 + J + m by omega]; exact h), HB⟩
              case measure => simp [intOf]; omega
        · have hjk : j = k := by omega
          subst hjk
          go_wp2
          go_ret
          exact ⟨_, rfl, by have h := HO.out; rw [show allP j = pB j j from rfl, pB_length]; exact h, HB.out⟩
end Go.Proofs.Ytcfilpcjgdbbmaa
/- Lists of points: owned, read, filtered. -/
namespace Go.Proofs.Ytcfilpcjgdbbmaa
open Go.RowKit
set_option linter.unusedVariables false
set_option linter.unusedSimpArgs false
theorem ptCs_at : ∀ (l : List Pt) (i : Nat), i < l.length → (ptCs l)[i * 3]? = some (.int .i64 (l.getD i (0, 0, 0)).1) ∧ (ptCs l)[i * 3 + 1]? = some (.int .i64 (l.getD i (0, 0, 0)).2.1) ∧ (ptCs l)[i * 3 + 2]? = some (.int .i64 (l.getD i (0, 0, 0)).2.2)
  | [], i, h => by simp at h
  | a :: l, 0, _ => by simp [ptCs, ptC]
  | a :: l, i + 1, h => by
    have ih := ptCs_at l i (by simpa using h)
    have e : ∀ k, (ptCs (a :: l))[(i + 1) * 3 + k]? = (ptCs l)[i * 3 + k]? := by
      intro k
      have : ptCs (a :: l) = [.int .i64 a.1, .int .i64 a.2.1, .int .i64 a.2.2] ++ ptCs l := rfl
      rw [this, List.getElem?_append_right (by simp; omega)]
      congr 1
      simp; omega
    have e0 := e 0
    rw [Nat.add_zero, Nat.add_zero] at e0
    rw [e0, e 1, e 2]
    simpa using ih
theorem ptCs_length (l : List Pt) : (ptCs l).length = l.length * 3 := by
  induction l with
  | nil => rfl
  | cons a l ih =>
    have : ptCs (a :: l) = [.int .i64 a.1, .int .i64 a.2.1, .int .i64 a.2.2] ++ ptCs l := rfl
    rw [this, List.length_append, ih]; simp; omega
/-- An owned list of points, laid open. -/
theorem ownPts {W : World} {base : Nat} {T : TypeId} {v : Value} {l : List Pt} {n : Nat} (h : W.ownsRow base T 3 v n (ptCs l)) (hl : l.length = n) (hn : 0 < n) :
    ∃ g cap, v = .slice (some ⟨g, 0, none⟩) n cap ∧ base ≤ g ∧ g < W.heap.size ∧ PtsAt W g 0 n l := by
  rcases h.2 with ⟨_, h0⟩ | ⟨g, cap, cur, rfl, hb, hg, hle, _, hsz, htk⟩
  · exfalso
    have := ptCs_length l
    omega
  · refine ⟨g, cap, rfl, hb, (Array.getElem?_eq_some_iff.1 hg).1, fun i hi => ?_⟩
    obtain ⟨h1, h2, h3⟩ := ptCs_at l i (by omega)
    have hat : ∀ j, j < n * 3 → cur[j]? = (ptCs l)[j]? := by
      intro j hj
      rw [← htk, List.getElem?_take_of_lt (by omega)]; simp
    refine ⟨?_, ?_, ?_⟩
    · rw [cell_of_row W g _ _ _ _ hg, hat _ (by omega), Nat.zero_add]; exact h1
    · rw [cell_of_row W g _ _ _ _ hg, hat _ (by omega), Nat.zero_add]; exact h2
    · rw [cell_of_row W g _ _ _ _ hg, hat _ (by omega), Nat.zero_add]; exact h3
theorem own_low {W : World} {b b' : Nat} {T : TypeId} {size n : Nat} {v : Value} {xs : List Value} (h : W.ownsRow b T size v n xs) (hb : b' ≤ b) : W.ownsRow b' T size v n xs := by
  refine ⟨h.1, ?_⟩
  rcases h.2 with h0 | ⟨g, cap, cur, h1, h2, h3⟩
  · exact .inl h0
  · exact .inr ⟨g, cap, cur, h1, Nat.le_trans hb h2, h3⟩
/-- A point is loaded from anywhere in a block. -/
theorem calm_loadPt {P : Program} {o : Oper} {ρ : Operand → Value} {W : World} {g off : Nat} {x y z : Int} (ty : TypeId) (q : Operand) (ho : o.op = .load ty q) (hx : ρ q = .pointer (some ⟨g, off, none⟩))
    (h0 : W.cell? ⟨g, off, none⟩ = some (.int .i64 x)) (h1 : W.cell? ⟨g, off + 1, none⟩ = some (.int .i64 y)) (h2 : W.cell? ⟨g, off + 2, none⟩ = some (.int .i64 z)) (hs : ∀ W, (sizeOf ty).run P W = .ok 3 W) (ha : ∀ W, (isAgg ty).run P W = .ok true W) : calmAt P o ρ W (ptV x y z) := by
  have hl : (loadCells ⟨g, off, none⟩ 3).run P W = .ok #[.int .i64 x, .int .i64 y, .int .i64 z] W :=
    run_loadCells_list (P := P) W ⟨g, off, none⟩ [.int .i64 x, .int .i64 y, .int .i64 z] (fun j v hv => by
      have hadd : ∀ j, (⟨g, off, none⟩ : Addr).add j = ⟨g, off + j, none⟩ := by intro j; unfold Addr.add; split <;> simp_all
      rw [hadd]
      match j, hv with
      | 0, hv => simpa using h0.trans (by simpa using hv)
      | 1, hv => exact h1.trans (by simpa using hv)
      | 2, hv => exact h2.trans (by simpa using hv)
      | j + 3, hv => simp at hv)
  have hv : (loadVar ty ⟨g, off, none⟩).run P W = .ok (ptV x y z) W := by
    unfold loadVar
    rw [Sem.run_bind, ha]
    simp only [Result.andThen_ok, if_true]
    rw [Sem.run_bind, hs]
    simp only [Result.andThen_ok]
    rw [Sem.run_bind, hl]
    rfl
  refine ⟨?_⟩
  unfold calmRun execOp
  simp only [ho, hx, Instr.loadAt, Instr.sureAddr, Sem.run_bind, Sem.run_pure, Result.andThen_ok, hv, and_self]
end Go.Proofs.Ytcfilpcjgdbbmaa
/- Contracts: the points on a line, in the reference. -/
namespace Go.Proofs.Ytcfilpcjgdbbmaa
open Go.RowKit
set_option linter.unusedVariables false
set_option linter.unusedSimpArgs false
theorem allP_in {n : Nat} (hn : n ≤ 13) : ∀ a ∈ allP n, In13 a := by
  intro a ha
  simp only [allP, pB, pA, pR, List.mem_append, List.mem_cons, List.mem_map, List.mem_range, List.mem_flatMap] at ha
  have k : ∀ x y z : Int, 0 ≤ x → x ≤ 12 → 0 ≤ y → y ≤ 12 → 0 ≤ z → z ≤ 12 → In13 (x, y, z) := fun x y z a b c d e f => ⟨⟨a, b⟩, ⟨c, d⟩, e, f⟩
  rcases ha with (rfl | ⟨z, hz, rfl⟩) | ⟨y, hy, z, hz, rfl⟩
  · exact k _ _ _ (by omega) (by omega) (by omega) (by omega) (by omega) (by omega)
  · exact k _ _ _ (by omega) (by omega) (by omega) (by omega) (by omega) (by omega)
  · exact k _ _ _ (by omega) (by omega) (by omega) (by omega) (by omega) (by omega)
theorem allP_length (n : Nat) : (allP n).length = n + 1 + n * n := pB_length n n
theorem filter_snoc {α : Type} (f : α → Bool) (l : List α) (d : α) (k : Nat) (h : k < l.length) : (l.take (k + 1)).filter f = (l.take k).filter f ++ (if f (l.getD k d) then [l.getD k d] else []) := by
  rw [take_snoc' l d k h, List.filter_append, List.filter_cons, List.filter_nil]
theorem low_tr' {b B : Nat} {w W W' : World} (h : Below b w W) (k : Below B W W') (hb : b ≤ B) : Below b w W' :=
  ⟨k.os.trans h.os, k.tape.trans h.tape, k.output.trans h.output, Nat.le_trans h.size k.size, fun n hn => (k.block n (Nat.lt_of_lt_of_le hn hb)).trans (h.block n hn)⟩
theorem own_below {W W' : World} {b : Nat} {T : TypeId} {size n : Nat} {v : Value} {xs : List Value} (h : W.ownsRow b T size v n xs) (hb : Below W.heap.size W W') : W'.ownsRow b T size v n xs := by
  refine ⟨h.1, ?_⟩
  rcases h.2 with h0 | ⟨g, cap, cur, h1, h2, hg, h3⟩
  · exact .inl h0
  · exact .inr ⟨g, cap, cur, h1, h2, by rw [hb.block _ (Array.getElem?_eq_some_iff.1 hg).1]; exact hg, h3⟩
theorem hn_at' (w : World) (o : Obj) (n : Nat) (h : n = w.heap.size) : (w.alloc o).heap[n]? = some o := by subst h; exact heap_alloc_new w o
end Go.Proofs.Ytcfilpcjgdbbmaa
/- Contracts: slices.IndexFunc over points. -/
namespace Go.Proofs.Ytcfilpcjgdbbmaa
open Go.RowKit
set_option linter.unusedVariables false
set_option linter.unusedSimpArgs false
/-- The first place at which f holds; -1 if there is none. -/
def idxZ (f : Pt → Bool) (l : List Pt) : Int := match l.findIdx? f with | some i => (i : Int) | none => -1
theorem idx_at {f : Pt → Bool} {l : List Pt} {k : Nat} (h : (l.take k).any f = false) (hk : k < l.length) (hf : f (l.getD k (0, 0, 0)) = true) : idxZ f l = k := by
  unfold idxZ
  have : l.findIdx? f = some k := by
    rw [List.findIdx?_eq_some_iff_getElem]
    refine ⟨hk, by simpa [List.getD, hk] using hf, fun j hj => ?_⟩
    have := List.any_eq_false.1 h l[j] (by rw [List.mem_take_iff_getElem]; exact ⟨j, by omega, rfl⟩)
    simpa using this
  rw [this]
theorem idx_none {f : Pt → Bool} {l : List Pt} (h : l.any f = false) : idxZ f l = -1 := by
  unfold idxZ
  have : l.findIdx? f = none := by
    rw [List.findIdx?_eq_none_iff]
    intro x hx
    have := List.any_eq_false.1 h x hx
    simpa using this
  rw [this]
theorem any_snoc {f : Pt → Bool} {l : List Pt} {k : Nat} (hk : k < l.length) (h : (l.take k).any f = false) (hf : f (l.getD k (0, 0, 0)) = false) : (l.take (k + 1)).any f = false := by
  rw [take_snoc' l (0, 0, 0) k hk, List.any_append, h, List.any_cons, hf]; rfl
end Go.Proofs.Ytcfilpcjgdbbmaa
/- Plain words: points on and off a line. -/
namespace Go.Proofs.Ytcfilpcjgdbbmaa
set_option linter.unusedVariables false
set_option linter.unusedSimpArgs false
def planeChk (n : Nat) : Bool := (allP n).all (fun m => decide (4 ≤ ((allP n).filter (fun a => onB (n : Int) a m)).length) && (allP n).any (fun a => !onB (n : Int) a m))
theorem planeChk3 : planeChk 3 = true := by decide +kernel
theorem planeChk5 : planeChk 5 = true := by decide +kernel
theorem planeChk7 : planeChk 7 = true := by decide +kernel
theorem planeChk11 : planeChk 11 = true := by decide +kernel
theorem planeChk13 : planeChk 13 = true := by decide +kernel
theorem planeChk_of {n : Nat} (hp : prB (n : Int) = true) : planeChk n = true := by
  have h := prB_cases hp
  have : n = 3 ∨ n = 5 ∨ n = 7 ∨ n = 11 ∨ n = 13 := by omega
  rcases this with rfl | rfl | rfl | rfl | rfl
  · exact planeChk3
  · exact planeChk5
  · exact planeChk7
  · exact planeChk11
  · exact planeChk13
/-- A normal point is in the list of all. -/
theorem mem_allP {n : Nat} {x y z : Int} (h : ptB (n : Int) x y z = true) : (x, y, z) ∈ allP n := by
  obtain ⟨hp, h1, h2, h3, h4⟩ := pt_facts h
  simp only [allP, pB, pA, pR, List.mem_append, List.mem_cons, List.mem_map, List.mem_range, List.mem_flatMap]
  rcases h4 with rfl | ⟨rfl, rfl⟩ | ⟨rfl, rfl, rfl⟩
  · exact .inr ⟨y.toNat, by omega, z.toNat, by omega, by rw [Int.toNat_of_nonneg h2.1, Int.toNat_of_nonneg h3.1]⟩
  · exact .inl (.inr ⟨z.toNat, by omega, by rw [Int.toNat_of_nonneg h3.1]⟩)
  · exact .inl (.inl rfl)
/-- Each normal line has at least four points, and a point is off it. -/
theorem line_facts {n : Nat} {x y z : Int} (h : ptB (n : Int) x y z = true) :
    4 ≤ ((allP n).filter (fun a => onB (n : Int) a (x, y, z))).length ∧ ∃ a ∈ allP n, onB (n : Int) a (x, y, z) = false := by
  have hk := List.all_eq_true.1 (planeChk_of (pt_facts h).1) _ (mem_allP h)
  simp only [Bool.and_eq_true, decide_eq_true_eq, List.any_eq_true, Bool.not_eq_true'] at hk
  exact hk
end Go.Proofs.Ytcfilpcjgdbbmaa
/- Plain words: what is made normal is normal; lines of two points. -/
namespace Go.Proofs.Ytcfilpcjgdbbmaa
set_option linter.unusedVariables false
set_option linter.unusedSimpArgs false
theorem firstNZ_cons (a : Int) (l : List Int) : firstNZ (a :: l) = if a = 0 then firstNZ l else a := by
  unfold firstNZ
  rw [List.find?_cons]
  by_cases h : a = 0
  · have : (a != 0) = false := by simp [h]
    rw [this, if_pos h]
  · have : (a != 0) = true := by simp [h]
    rw [this, if_neg h]; rfl
/-- Three numbers, not all 0 modulo p, made normal: a point. -/
theorem nrm3_pt {p x y z : Int} (hp : prB p = true) (h : nzB p [x, y, z] = true) : ptB p (nrm3 p x y z).1 (nrm3 p x y z).2.1 (nrm3 p x y z).2.2 = true := by
  have hb := prB_bd hp
  have hx0 := Int.emod_nonneg x (show p ≠ 0 by omega)
  have hx1 := Int.emod_lt_of_pos x (show 0 < p by omega)
  have hy0 := Int.emod_nonneg y (show p ≠ 0 by omega)
  have hy1 := Int.emod_lt_of_pos y (show 0 < p by omega)
  have hz0 := Int.emod_nonneg z (show p ≠ 0 by omega)
  have hz1 := Int.emod_lt_of_pos z (show 0 < p by omega)
  have hn : ¬ (x % p = 0 ∧ y % p = 0 ∧ z % p = 0) := by
    intro ⟨a, b, c⟩
    simp [nzB, zerosB] at h
    omega
  have hf : facL p [x, y, z] = invP p (firstNZ [x % p, y % p, z % p]) := rfl
  unfold nrm3
  rw [hf]
  clear h hf
  have bd : ∀ t : Int, 0 ≤ t % p ∧ t % p ≤ p - 1 := fun t => ⟨Int.emod_nonneg _ (by omega), by have := Int.emod_lt_of_pos t (show 0 < p by omega); omega⟩
  have mk : ∀ a b c : Int, (0 ≤ a ∧ a ≤ p - 1) → (0 ≤ b ∧ b ≤ p - 1) → (0 ≤ c ∧ c ≤ p - 1) → (a = 1 ∨ (a = 0 ∧ b = 1) ∨ (a = 0 ∧ b = 0 ∧ c = 1)) → ptB p a b c = true := by
    intro a b c ha hb hc hd
    unfold ptB normB numsB
    simp only [hp, Bool.true_and, Bool.and_eq_true, List.all_cons, List.all_nil, Bool.and_true, numB_iff]
    refine ⟨?_, ha, hb, hc⟩
    rcases hd with rfl | ⟨rfl, rfl⟩ | ⟨rfl, rfl, rfl⟩ <;> rfl
  generalize x % p = a at *
  generalize y % p = b at *
  generalize z % p = c at *
  refine mk _ _ _ (bd _) (bd _) (bd _) ?_
  by_cases ha : a = 0
  · by_cases hb' : b = 0
    · have hc : c ≠ 0 := fun e => hn ⟨ha, hb', e⟩
      have e : firstNZ [a, b, c] = c := by rw [firstNZ_cons, if_pos ha, firstNZ_cons, if_pos hb', firstNZ_cons, if_neg hc]
      have hs := (invP_spec (p := p) (n := c) hp (by omega) (by omega)).2.2.1
      rw [e]; subst ha; subst hb'
      exact .inr (.inr ⟨by simp, by simp, hs⟩)
    · have e : firstNZ [a, b, c] = b := by rw [firstNZ_cons, if_pos ha, firstNZ_cons, if_neg hb']
      have hs := (invP_spec (p := p) (n := b) hp (by omega) (by omega)).2.2.1
      rw [e]; subst ha
      exact .inr (.inl ⟨by simp, hs⟩)
  · have e : firstNZ [a, b, c] = a := by rw [firstNZ_cons, if_neg ha]
    have hs := (invP_spec (p := p) (n := a) hp (by omega) (by omega)).2.2.1
    rw [e]
    exact .inl hs
end Go.Proofs.Ytcfilpcjgdbbmaa
/- Plain words: two different points have a line. -/
namespace Go.Proofs.Ytcfilpcjgdbbmaa
set_option linter.unusedVariables false
set_option linter.unusedSimpArgs false
def crsNz (p : Int) (a b : Pt) : Bool := (crs a b).1 % p != 0 || ((crs a b).2.1 % p != 0 || (crs a b).2.2 % p != 0)
def crsChk (n : Nat) : Bool := (allP n).all (fun a => (allP n).all (fun b => eqP a b || crsNz (n : Int) a b))
theorem crsChk3 : crsChk 3 = true := by decide +kernel
theorem crsChk5 : crsChk 5 = true := by decide +kernel
theorem crsChk7 : crsChk 7 = true := by decide +kernel
theorem crsChk11 : crsChk 11 = true := by decide +kernel
theorem crsChk13 : crsChk 13 = true := by decide +kernel
theorem crsChk_of {n : Nat} (hp : prB (n : Int) = true) : crsChk n = true := by
  have h := prB_cases hp
  have : n = 3 ∨ n = 5 ∨ n = 7 ∨ n = 11 ∨ n = 13 := by omega
  rcases this with rfl | rfl | rfl | rfl | rfl
  · exact crsChk3
  · exact crsChk5
  · exact crsChk7
  · exact crsChk11
  · exact crsChk13
/-- Two different normal points have one normal line. -/
theorem crsN_pt {n : Nat} {a b : Pt} (ha : ptB (n : Int) a.1 a.2.1 a.2.2 = true) (hb : ptB (n : Int) b.1 b.2.1 b.2.2 = true) (h : eqP a b = false) :
    ptB (n : Int) (crsN n a b).1 (crsN n a b).2.1 (crsN n a b).2.2 = true := by
  have hp := (pt_facts ha).1
  have h1 := List.all_eq_true.1 (List.all_eq_true.1 (crsChk_of hp) _ (mem_allP ha)) _ (mem_allP hb)
  have h2 : crsNz (n : Int) a b = true := by
    rw [Bool.or_eq_true] at h1
    rcases h1 with h1 | h1
    · exact absurd (h1.symm.trans h) (by decide)
    · exact h1
  refine nrm3_pt hp ?_
  unfold nzB zerosB
  unfold crsNz at h2
  simp at h2 ⊢
  omega
end Go.Proofs.Ytcfilpcjgdbbmaa
/- Lists of points that are written to in place. -/
namespace Go.Proofs.Ytcfilpcjgdbbmaa
open Go.RowKit
set_option linter.unusedVariables false
set_option linter.unusedSimpArgs false
/-- A block of room for points. -/
def RoomP (W : World) (g cap : Nat) (T : TypeId) : Prop := ∃ cur, W.heap[g]? = some (.cells cur T (0, 0)) ∧ cur.size = cap * 3
theorem RoomP.set {W : World} {g cap : Nat} {T : TypeId} (h : RoomP W g cap T) (j : Nat) (v : Value) : RoomP (W.setCell ⟨g, j, none⟩ v) g cap T := by
  obtain ⟨cur, hb, hs⟩ := h
  exact ⟨cur.setIfInBounds j v, by simp [World.setCell, Array.getElem?_modify, hb], by simpa using hs⟩
theorem RoomP.sets {g cap : Nat} {T : TypeId} : ∀ (vs : List Value) (o : Nat) {W : World} (h : RoomP W g cap T), RoomP (W.setCells g o vs) g cap T
  | [], _, _, h => h
  | v :: r, o, _, h => RoomP.sets r (o + 1) (h.set o v)
theorem RoomP.frozen {W : World} {g cap : Nat} {T : TypeId} (h : RoomP W g cap T) (j : Nat) : W.frozen? ⟨g, j, none⟩ = false := by
  obtain ⟨cur, hb, hs⟩ := h
  exact frozen_of_row W g j _ _ hb
theorem RoomP.some {W : World} {g cap : Nat} {T : TypeId} (h : RoomP W g cap T) (j : Nat) (hj : j < cap * 3) : (W.cell? ⟨g, j, none⟩).isSome = true := by
  obtain ⟨cur, hb, hs⟩ := h
  rw [cell_of_row W g j _ _ _ hb]
  simp [hs, hj]
theorem RoomP.below {W W' : World} {g cap : Nat} {T : TypeId} (h : RoomP W g cap T) (hb : Below W.heap.size W W') : RoomP W' g cap T := by
  obtain ⟨cur, h1, hs⟩ := h
  exact ⟨cur, by rw [hb.block _ (Array.getElem?_eq_some_iff.1 h1).1]; exact h1, hs⟩
theorem RoomP.lt {W : World} {g cap : Nat} {T : TypeId} (h : RoomP W g cap T) : g < W.heap.size := by
  obtain ⟨cur, h1, hs⟩ := h
  exact (Array.getElem?_eq_some_iff.1 h1).1
theorem roomP_own {W : World} {base : Nat} {T : TypeId} {g cap n : Nat} {xs : List Value} {b : Option Addr} (hb : b = some ⟨g, 0, none⟩) (h : W.ownsRow base T 3 (.slice b n cap) n xs) : RoomP W g cap T ∧ n ≤ cap ∧ cap ≤ maxLen := by
  subst hb
  rcases h.2 with ⟨h0, _⟩ | ⟨g', cap', cur, h1, _, hg, hle, hm, hsz, _⟩
  · cases h0
  · cases h1; exact ⟨⟨cur, hg, hsz⟩, hle, hm⟩
/-- Three stores set a point. -/
theorem pts_set {W : World} {g cap n : Nat} {T : TypeId} {L : List Pt} (hr : RoomP W g cap T) (hn : n ≤ cap) (h : PtsAt W g 0 n L) (hl : L.length = n) (i : Nat) (hi : i < n) (x y z : Int) :
    PtsAt (((W.setCell ⟨g, i * 3, none⟩ (.int .i64 x)).setCell ⟨g, i * 3 + 1, none⟩ (.int .i64 y)).setCell ⟨g, i * 3 + 2, none⟩ (.int .i64 z)) g 0 n (L.set i (x, y, z)) := by
  have ne : ∀ a b : Nat, a ≠ b → (⟨g, a, none⟩ : Addr) ≠ ⟨g, b, none⟩ := fun a b h e => h (by cases e; rfl)
  have s0 := Option.isSome_iff_exists.1 (hr.some (i * 3) (by omega))
  have s1 := Option.isSome_iff_exists.1 (hr.some (i * 3 + 1) (by omega))
  have s2 := Option.isSome_iff_exists.1 (hr.some (i * 3 + 2) (by omega))
  obtain ⟨u0, s0⟩ := s0
  obtain ⟨u1, s1⟩ := s1
  obtain ⟨u2, s2⟩ := s2
  intro j hj
  obtain ⟨c0, c1, c2⟩ := h j hj
  simp only [Nat.zero_add] at c0 c1 c2 ⊢
  by_cases e : j = i
  · subst e
    have hd : (L.set j (x, y, z)).getD j (0, 0, 0) = (x, y, z) := by simp [List.getD, hl, hj]
    rw [hd]
    refine ⟨?_, ?_, ?_⟩
    · rw [World.cell?_setCell_other _ _ _ _ (ne _ _ (by omega)), World.cell?_setCell_other _ _ _ _ (ne _ _ (by omega)), World.cell?_setCell_same _ _ _ s0]
    · rw [World.cell?_setCell_other _ _ _ _ (ne _ _ (by omega)), World.cell?_setCell_same (u := u1) _ _ _ (by rw [World.cell?_setCell_other _ _ _ _ (ne _ _ (by omega))]; exact s1)]
    · rw [World.cell?_setCell_same (u := u2) _ _ _ (by rw [World.cell?_setCell_other _ _ _ _ (ne _ _ (by omega)), World.cell?_setCell_other _ _ _ _ (ne _ _ (by omega))]; exact s2)]
  · have hd : (L.set i (x, y, z)).getD j (0, 0, 0) = L.getD j (0, 0, 0) := by simp [List.getD, List.getElem?_set_ne (Ne.symm e)]
    rw [hd]
    refine ⟨?_, ?_, ?_⟩
    · rw [World.cell?_setCell_other _ _ _ _ (ne _ _ (by omega)), World.cell?_setCell_other _ _ _ _ (ne _ _ (by omega)), World.cell?_setCell_other _ _ _ _ (ne _ _ (by omega))]; exact c0
    · rw [World.cell?_setCell_other _ _ _ _ (ne _ _ (by omega)), World.cell?_setCell_other _ _ _ _ (ne _ _ (by omega)), World.cell?_setCell_other _ _ _ _ (ne _ _ (by omega))]; exact c1
    · rw [World.cell?_setCell_other _ _ _ _ (ne _ _ (by omega)), World.cell?_setCell_other _ _ _ _ (ne _ _ (by omega)), World.cell?_setCell_other _ _ _ _ (ne _ _ (by omega))]; exact c2
/-- Points at hand and room: an owned list. -/
theorem own_of_pts {W : World} {base g cap n : Nat} {T : TypeId} {L : List Pt} (hb : base ≤ g) (hr : RoomP W g cap T) (hm : cap ≤ maxLen) (hn : n ≤ cap) (hl : L.length = n) (h : PtsAt W g 0 n L) :
    W.ownsRow base T 3 (.slice (some ⟨g, 0, none⟩) n cap) n (ptCs L) := by
  obtain ⟨cur, hg, hsz⟩ := hr
  refine ⟨by rw [ptCs_length, hl], .inr ⟨g, cap, cur, rfl, hb, hg, hn, hm, hsz, ?_⟩⟩
  apply List.ext_getElem?
  intro j
  by_cases hj : j < n * 3
  · rw [List.getElem?_take_of_lt hj]
    have hq : j / 3 < n := by omega
    obtain ⟨c0, c1, c2⟩ := h (j / 3) hq
    obtain ⟨d0, d1, d2⟩ := ptCs_at L (j / 3) (by omega)
    rw [cell_of_row W g _ _ _ _ hg, Nat.zero_add] at c0 c1 c2
    have hc : ∀ k : Nat, cur.toList[k]? = cur[k]? := by intro k; simp
    rw [hc]
    have : j = j / 3 * 3 ∨ j = j / 3 * 3 + 1 ∨ j = j / 3 * 3 + 2 := by omega
    rcases this with e | e | e <;> rw [e]
    · rw [c0, d0]
    · rw [c1, d1]
    · rw [c2, d2]
  · rw [List.getElem?_eq_none (by rw [List.length_take]; omega), List.getElem?_eq_none (by rw [ptCs_length]; omega)]
/-- Points ahead of what is set. -/
theorem pts_ahead {W : World} {g n m o : Nat} {L : List Pt} (h : PtsAt W g 0 n L) (hm : m ≤ n) (hl : L.length = n) (vs : List Value) (ho : m * 3 ≤ o) : PtsAt (W.setCells g o vs) g 0 m (L.take m) := by
  intro j hj
  obtain ⟨c0, c1, c2⟩ := h j (by omega)
  have hd : (L.take m).getD j (0, 0, 0) = L.getD j (0, 0, 0) := by simp [List.getD, List.getElem?_take_of_lt hj]
  rw [hd]
  simp only [Nat.zero_add] at c0 c1 c2 ⊢
  refine ⟨?_, ?_, ?_⟩
  · rw [World.cell?_setCells_out _ _ _ _ _ (fun _ _ => .inl (by show j * 3 < o; omega))]; exact c0
  · rw [World.cell?_setCells_out _ _ _ _ _ (fun _ _ => .inl (by show j * 3 + 1 < o; omega))]; exact c1
  · rw [World.cell?_setCells_out _ _ _ _ _ (fun _ _ => .inl (by show j * 3 + 2 < o; omega))]; exact c2
/-- 'clear' of a list of points: its cells are set to 0. -/
theorem run_clear_pts {P : Program} (w : World) (t e ty : TypeId) (ht : P.underlying t = some (.slice e)) (hv : ∀ w, (zeroValue e).run P w = .ok (.agg #[.int .i64 0, .int .i64 0, .int .i64 0]) w) (b o n c : Nat) (hn : 0 < n)
    (hc : ∀ j, j < n * 3 → (w.cell? ⟨b, o + j, none⟩).isSome = true) (hf : ∀ j, j < n * 3 → w.frozen? ⟨b, o + j, none⟩ = false) :
    (Builtin.clear_ #[t] ty #[.slice (some ⟨b, o, none⟩) n c]).run P w = .ok (.tuple #[]) (w.setCells b o (List.replicate (n * 3) (.int .i64 0))) := by
  have hzc : (Builtin.zeroCells (Value.agg #[.int .i64 0, .int .i64 0, .int .i64 0]).cells n).toList = List.replicate (n * 3) (.int .i64 0) := by
    have hcl : (Value.agg #[.int .i64 0, .int .i64 0, .int .i64 0]).cells = #[.int .i64 0, .int .i64 0, .int .i64 0] := by rfl
    rw [hcl]
    simp only [Builtin.zeroCells]
    apply List.ext_getElem
    · simp
    · intro i h1 h2
      have : i % 3 = 0 ∨ i % 3 = 1 ∨ i % 3 = 2 := by omega
      rcases this with e | e | e <;> simp [e]
  have hst := run_storeCells_cells (P := P) b o (List.replicate (n * 3) (.int .i64 0)) 0 w (by simpa using hc) (by simpa using hf) (by intro v hv'; rw [List.eq_of_mem_replicate hv']; rfl)
  simp only [Nat.add_zero] at hst
  obtain ⟨m, rfl⟩ : ∃ m, n = m + 1 := ⟨n - 1, by omega⟩
  simp [Builtin.clear_, run_underlying ht, hv, hzc, hst]
/-- What has been moved down: the first i are those kept of the first j, from j on all is as it was. -/
structure Moved (f : Pt → Bool) (all : List Pt) (i j : Nat) (L : List Pt) : Prop where
  len : L.length = all.length
  lt : i < j
  head : L.take i = (all.take j).filter f
  rest : L.drop j = all.drop j
theorem Moved.at {f : Pt → Bool} {all L : List Pt} {i j : Nat} (h : Moved f all i j L) (hj : j < all.length) : L.getD j (0, 0, 0) = all.getD j (0, 0, 0) := by
  have h0 : (L.drop j)[0]? = (all.drop j)[0]? := by rw [h.rest]
  simp at h0
  simp [List.getD, h0]
theorem Moved.keep {f : Pt → Bool} {all L : List Pt} {i j : Nat} (h : Moved f all i j L) (hj : j < all.length) (hf : f (all.getD j (0, 0, 0)) = true) : Moved f all (i + 1) (j + 1) (L.set i (all.getD j (0, 0, 0))) where
  len := by rw [List.length_set]; exact h.len
  lt := by have := h.lt; omega
  head := by
    have hi : i < L.length := by have := h.lt; have := h.len; omega
    rw [take_snoc' _ (0, 0, 0) i (by simpa using hi), List.take_set_of_le (Nat.le_refl _), h.head, filter_snoc f all (0, 0, 0) j hj, if_pos hf]
    congr 1
    simp [List.getD, hi]
  rest := by
    rw [List.drop_set, if_pos (by have := h.lt; omega)]
    have := congrArg (List.drop 1) h.rest
    simpa [List.drop_drop] using this
theorem Moved.skip {f : Pt → Bool} {all L : List Pt} {i j : Nat} (h : Moved f all i j L) (hj : j < all.length) (hf : f (all.getD j (0, 0, 0)) = false) : Moved f all i (j + 1) L where
  len := h.len
  lt := by have := h.lt; omega
  head := by rw [h.head, filter_snoc f all (0, 0, 0) j hj, if_neg (by rw [hf]; decide), List.append_nil]
  rest := by
    have := congrArg (List.drop 1) h.rest
    simpa [List.drop_drop] using this
theorem Moved.start {f : Pt → Bool} {all : List Pt} {i : Nat} (hi : i < all.length) (h0 : ∀ a ∈ all.take i, f a = true) (hf : f (all.getD i (0, 0, 0)) = false) : Moved f all i (i + 1) all where
  len := rfl
  lt := by omega
  head := by rw [filter_snoc f all (0, 0, 0) i hi, if_neg (by rw [hf]; decide), List.append_nil, List.filter_eq_self.2 h0]
  rest := rfl
theorem Moved.done {f : Pt → Bool} {all L : List Pt} {i : Nat} (h : Moved f all i all.length L) : L.take i = all.filter f := by rw [h.head, List.take_length]
theorem Moved.cnt {f : Pt → Bool} {all L : List Pt} {i : Nat} (h : Moved f all i all.length L) : i = (all.filter f).length := by
  rw [← h.done, List.length_take, h.len]; have := h.lt; omega
/-- What IndexFunc tells. -/
theorem idxZ_cases (f : Pt → Bool) (l : List Pt) : (idxZ f l = -1 ∧ ∀ a ∈ l, f a = false) ∨ ∃ k, k < l.length ∧ idxZ f l = (k : Int) ∧ f (l.getD k (0, 0, 0)) = true ∧ ∀ a ∈ l.take k, f a = false := by
  unfold idxZ
  cases h : l.findIdx? f with
  | none => exact .inl ⟨rfl, fun a ha => by simpa using (List.findIdx?_eq_none_iff.1 h) a ha⟩
  | some k =>
    obtain ⟨hk, h1, h2⟩ := List.findIdx?_eq_some_iff_getElem.1 h
    refine .inr ⟨k, hk, rfl, by simpa [List.getD, hk] using h1, fun a ha => ?_⟩
    obtain ⟨j, hj, e⟩ := List.mem_take_iff_getElem.1 ha
    have := h2 j (by omega)
    rw [← e]; simpa using this
end Go.Proofs.Ytcfilpcjgdbbmaa
/- Contracts: slices.DeleteFunc over points. -/
namespace Go.Proofs.Ytcfilpcjgdbbmaa
open Go.RowKit
set_option linter.unusedVariables false
set_option linter.unusedSimpArgs false
theorem RoomP.alloc {W : World} {g cap : Nat} {T : TypeId} (h : RoomP W g cap T) (o : Obj) : RoomP (W.alloc o) g cap T := by
  have hl := h.lt
  obtain ⟨cur, h1, hs⟩ := h
  exact ⟨cur, by rw [heap_alloc_old]; exact h1; exact hl, hs⟩
/-- An owned list of points, again. -/
def OwnPost (b : Nat) (w : World) (l : List Pt) (e : Ending) (w' : World) : Prop :=
  ∃ v, e = .returned v ∧ w'.ownsRow b 45 3 v l.length (ptCs l) ∧ Below b w w'
end Go.Proofs.Ytcfilpcjgdbbmaa
/- Plain words: sets of numbers modulo n; difference sets. -/
namespace Go.Proofs.Ytcfilpcjgdbbmaa
set_option linter.unusedVariables false
set_option linter.unusedSimpArgs false
/-- The i-th number is a rest and greater than the one ahead. -/
def okI (n : Int) (l : List Int) (i : Nat) : Bool := decide (0 ≤ l.getD i 0 ∧ l.getD i 0 ≤ n - 1) && (i == 0 || decide (l.getD (i - 1) 0 < l.getD i 0))
def okB (n : Int) (l : List Int) : Bool := (List.range l.length).all (okI n l)
/-- A set of numbers modulo n. -/
def setB (n : Int) (l : List Int) : Bool := decide (2 ≤ n ∧ n ≤ 1000) && (decide (l.length ≤ 60) && okB n l)
theorem okB_all {n : Int} {l : List Int} (h : ∀ i, i < l.length → okI n l i = true) : okB n l = true := List.all_eq_true.2 fun i hi => h i (List.mem_range.1 hi)
theorem okB_bad {n : Int} {l : List Int} {i : Nat} (hi : i < l.length) (h : okI n l i = false) : okB n l = false := by
  cases e : okB n l with
  | false => rfl
  | true => have := List.all_eq_true.1 e i (List.mem_range.2 hi); rw [h] at this; cases this
theorem okB_at {n : Int} {l : List Int} (h : okB n l = true) {i : Nat} (hi : i < l.length) : 0 ≤ l.getD i 0 ∧ l.getD i 0 ≤ n - 1 := by
  have := List.all_eq_true.1 h i (List.mem_range.2 hi)
  unfold okI at this
  simp only [Bool.and_eq_true, decide_eq_true_eq] at this
  exact this.1
theorem setB_yes {n : Int} {l : List Int} (h : setB n l = true) : (2 ≤ n ∧ n ≤ 1000) ∧ l.length ≤ 60 ∧ okB n l = true := by
  unfold setB at h
  simpa using h
/-- One more at a place. -/
def bump (c : List Int) (i : Nat) : List Int := c.set i (c.getD i 0 + 1)
def dif (n : Int) (l : List Int) (i k : Nat) : Nat := ((l.getD i 0 - l.getD k 0) % n).toNat
def rowC (n : Int) (l : List Int) (i : Nat) (c : List Int) (k : Nat) : List Int := (List.range k).foldl (fun c k => bump c (dif n l i k)) c
def cntC (n : Int) (l : List Int) (i : Nat) : List Int := (List.range i).foldl (fun c i => rowC n l i c l.length) (List.replicate n.toNat 0)
theorem rowC_zero (n : Int) (l : List Int) (i : Nat) (c : List Int) : rowC n l i c 0 = c := rfl
theorem rowC_succ (n : Int) (l : List Int) (i : Nat) (c : List Int) (k : Nat) : rowC n l i c (k + 1) = bump (rowC n l i c k) (dif n l i k) := by
  unfold rowC; rw [List.range_succ, List.foldl_append]; rfl
theorem cntC_succ (n : Int) (l : List Int) (i : Nat) : cntC n l (i + 1) = rowC n l i (cntC n l i) l.length := by
  unfold cntC; rw [List.range_succ, List.foldl_append]; rfl
theorem bump_length (c : List Int) (i : Nat) : (bump c i).length = c.length := by simp [bump]
theorem rowC_length (n : Int) (l : List Int) (i : Nat) (c : List Int) (k : Nat) : (rowC n l i c k).length = c.length := by
  induction k with
  | zero => rfl
  | succ k ih => rw [rowC_succ, bump_length, ih]
theorem cntC_length (n : Int) (l : List Int) (i : Nat) : (cntC n l i).length = n.toNat := by
  induction i with
  | zero => simp [cntC]
  | succ i ih => rw [cntC_succ, rowC_length, ih]
def within0 (c : List Int) (B : Int) : Prop := ∀ j, 0 ≤ c.getD j 0 ∧ c.getD j 0 ≤ B
theorem bump_bd {c : List Int} {B : Int} (h : within0 c B) (i : Nat) : within0 (bump c i) (B + 1) := by
  intro j
  have hj := h j
  have hi := h i
  unfold bump
  by_cases e : i = j
  · subst e
    by_cases hl : i < c.length
    · simp [List.getD, hl] at hj ⊢; omega
    · simp [List.getD, Nat.le_of_not_lt hl] at hj ⊢; omega
  · simp only [List.getD, List.getElem?_set_ne e] at hj ⊢
    omega
theorem rowC_bd {n : Int} {l : List Int} {i : Nat} {c : List Int} {B : Int} (h : within0 c B) (k : Nat) : within0 (rowC n l i c k) (B + k) := by
  induction k with
  | zero => simpa [rowC_zero] using h
  | succ k ih => rw [rowC_succ]; have := bump_bd ih (dif n l i k); rw [show B + ((k + 1 : Nat) : Int) = B + k + 1 by omega]; exact this
theorem cntC_bd {n : Int} {l : List Int} (hl : l.length ≤ 60) (i : Nat) : within0 (cntC n l i) (60 * i) := by
  induction i with
  | zero =>
    intro j
    by_cases hj : j < n.toNat
    · simp [cntC, List.getD, hj]
    · have e : (List.replicate n.toNat (0 : Int))[j]? = none := List.getElem?_eq_none (by simp; omega)
      simp [cntC, List.getD, e]
  | succ i ih =>
    rw [cntC_succ]
    intro j
    have := rowC_bd (n := n) (l := l) (i := i) ih l.length j
    omega
/-- Whether each difference but 0 comes up once. -/
def onesB (c : List Int) : Bool := (List.range (c.length - 1)).all (fun d => c.getD (d + 1) 0 == 1)
theorem onesB_all {c : List Int} (h : ∀ d, d < c.length - 1 → (c.getD (d + 1) 0 == 1) = true) : onesB c = true := List.all_eq_true.2 fun d hd => h d (List.mem_range.1 hd)
theorem onesB_bad {c : List Int} {d : Nat} (hd : d < c.length - 1) (h : (c.getD (d + 1) 0 == 1) = false) : onesB c = false := by
  cases e : onesB c with
  | false => rfl
  | true => have := List.all_eq_true.1 e d (List.mem_range.2 hd); rw [h] at this; cases this
/-- What both programs answer. -/
def diffR (n : Int) (l : List Int) : Bool × Int := if setB n l = true then (onesB (cntC n l l.length), 0) else (false, 2)
end Go.Proofs.Ytcfilpcjgdbbmaa
/- Contracts: the laws' own helpers on slices. -/
namespace Go.Proofs.Ytcfilpcjgdbbmaa
open Go.RowKit
set_option linter.unusedVariables false
set_option linter.unusedSimpArgs false
/-- How much room the laws leave behind a list of n. -/
def roomN (n : Nat) : Nat := if n % 6 = 5 then 0 else if n % 3 = 0 then 1 else n
theorem roomBehind_any (n : Nat) (w : World) (hn : n ≤ 1000000) :
    Calls Try.prog 32 #[.int .i64 (n : Int)] w fun e w' => e = .returned (.int .i64 (roomN n : Int)) ∧ w = w' := by
  by_cases h6 : n % 6 = 5
  · have HR : Hid (roomN n = 0) := Lib.hid (by unfold roomN; rw [if_pos h6])
    go_enter Try.func32, Try.ntmps32
    go_wp2
    go_ret
    exact ⟨by first | rfl | (rw [HR.out]; rfl), rfl⟩
  · by_cases h3 : n % 3 = 0
    · have HR : Hid (roomN n = 1) := Lib.hid (by unfold roomN; rw [if_neg h6, if_pos h3])
      go_enter Try.func32, Try.ntmps32
      go_wp2
      go_ret
      exact ⟨by first | rfl | (rw [HR.out]; rfl), rfl⟩
    · have HR : Hid (roomN n = n) := Lib.hid (by unfold roomN; rw [if_neg h6, if_neg h3])
      go_enter Try.func32, Try.ntmps32
      go_wp2
      go_ret
      exact ⟨by first | rfl | (rw [HR.out]; rfl), rfl⟩
theorem szPointS_any (b : Option Addr) (n cap : Nat) (left : Int) (w : World) (hl : left ≤ 1000000 ∧ 0 ≤ left) (hn : n ≤ 9223372036854775807) :
    Calls Try.prog 8 #[.slice b n cap, .int .i64 left] w fun e w' => e = .returned (.int .i64 (if left < n then -1 else left - n)) ∧ w = w' := by
  by_cases h : left < n
  · have HR : Hid ((if left < (n : Int) then (-1 : Int) else left - n) = -1) := Lib.hid (if_pos h)
    go_enter Try.func8, Try.ntmps8
    go_wp2
    go_ret
    exact ⟨by first | rfl | (rw [HR.out]; rfl), rfl⟩
  · have HR : Hid ((if left < (n : Int) then (-1 : Int) else left - n) = left - n) := Lib.hid (if_neg h)
    go_enter Try.func8, Try.ntmps8
    go_wp2
    go_ret
    exact ⟨by first | rfl | (rw [HR.out]; rfl), rfl⟩
end Go.Proofs.Ytcfilpcjgdbbmaa
/- Contracts: the laws' own lists of numbers: made with room behind, compared. -/
namespace Go.Proofs.Ytcfilpcjgdbbmaa
open Go.RowKit
set_option linter.unusedVariables false
set_option linter.unusedSimpArgs false
def IntsAt (w : World) (b o n : Nat) (l : List Int) : Prop := ∀ i, i < n → w.cell? ⟨b, o + i, none⟩ = some (.int .i64 (l.getD i 0))
theorem IntsAt.below {w w1 : World} {b o n : Nat} {l : List Int} (h : IntsAt w b o n l) (hb : Below w.heap.size w w1) : IntsAt w1 b o n l := fun i hi => cell_below hb (h i hi)
/-- A block of room for numbers. -/
def RoomI (W : World) (g cap : Nat) (T : TypeId) : Prop := ∃ cur, W.heap[g]? = some (.cells cur T (0, 0)) ∧ cur.size = cap
theorem RoomI.set {W : World} {g cap : Nat} {T : TypeId} (h : RoomI W g cap T) (j : Nat) (v : Value) : RoomI (W.setCell ⟨g, j, none⟩ v) g cap T := by
  obtain ⟨cur, hb, hs⟩ := h
  exact ⟨cur.setIfInBounds j v, by simp [World.setCell, Array.getElem?_modify, hb], by simpa using hs⟩
theorem RoomI.frozen {W : World} {g cap : Nat} {T : TypeId} (h : RoomI W g cap T) (j : Nat) : W.frozen? ⟨g, j, none⟩ = false := by
  obtain ⟨cur, hb, hs⟩ := h
  exact frozen_of_row W g j _ _ hb
theorem RoomI.some {W : World} {g cap : Nat} {T : TypeId} (h : RoomI W g cap T) (j : Nat) (hj : j < cap) : (W.cell? ⟨g, j, none⟩).isSome = true := by
  obtain ⟨cur, hb, hs⟩ := h
  rw [cell_of_row W g j _ _ _ hb]
  simp [hs, hj]
theorem RoomI.below {W W' : World} {g cap : Nat} {T : TypeId} (h : RoomI W g cap T) (hb : Below W.heap.size W W') : RoomI W' g cap T := by
  obtain ⟨cur, h1, hs⟩ := h
  exact ⟨cur, by rw [hb.block _ (Array.getElem?_eq_some_iff.1 h1).1]; exact h1, hs⟩
theorem RoomI.lt {W : World} {g cap : Nat} {T : TypeId} (h : RoomI W g cap T) : g < W.heap.size := by
  obtain ⟨cur, h1, hs⟩ := h
  exact (Array.getElem?_eq_some_iff.1 h1).1
theorem ints_set {W : World} {g cap n : Nat} {T : TypeId} {L : List Int} (hr : RoomI W g cap T) (hn : n ≤ cap) (h : IntsAt W g 0 n L) (hl : L.length = n) (i : Nat) (hi : i < n) (x : Int) :
    IntsAt (W.setCell ⟨g, i, none⟩ (.int .i64 x)) g 0 n (L.set i x) := by
  obtain ⟨u0, s0⟩ := Option.isSome_iff_exists.1 (hr.some i (by omega))
  intro j hj
  have c0 := h j hj
  simp only [Nat.zero_add] at c0 ⊢
  by_cases e : j = i
  · subst e
    have hd : (L.set j x).getD j 0 = x := by simp [List.getD, hl, hj]
    rw [hd, World.cell?_setCell_same _ _ _ s0]
  · have hd : (L.set i x).getD j 0 = L.getD j 0 := by simp [List.getD, List.getElem?_set_ne (Ne.symm e)]
    rw [hd, World.cell?_setCell_other _ _ _ _ (fun h => e (by cases h; rfl))]; exact c0
theorem ints_other {W : World} {b o n : Nat} {l : List Int} (h : IntsAt W b o n l) {g i : Nat} (hg : b ≠ g) (v : Value) : IntsAt (W.setCell ⟨g, i, none⟩ v) b o n l := fun j hj => by
  rw [World.cell?_setCell_other _ _ _ _ (fun h => hg (by cases h; rfl))]; exact h j hj
theorem madeI {m j : Nat} (h : j < m) : (madeCells #[.int .i64 0] m)[j]? = some (.int .i64 0) := by simp [madeCells, h, Nat.mod_one]
/-- 'make' of m numbers: a new block, all 0. -/
theorem wpList_make_ints {P : Program} (w : World) {ops : Array Oper} {rest : List Oper} {o : Oper} {a : Act} {Q : Exit → Act → World → Prop}
    (hg : o.guard = none) (l c : Operand) (t : TypeId) (hop : o.op = Op.makeSlice t l c)
    (e : TypeId) (i : TypeInfo) (ht : P.underlying t = some (.slice e)) (hi : P.info? e = some i) (hz : i.zero = some (.int .i64 0)) (hs : i.size = 1)
    (kl kc : IntKind) (m : Nat) (C : Int) (hC : C = (m : Int)) (hl : a.eval l = .int kl C) (hc : a.eval c = .int kc C) (hbytes : i.bytes * m ≤ 281474976710656) (h63 : m ≤ 9223372036854775807)
    (hK : ∀ W', Below w.heap.size w W' → RoomI W' w.heap.size m e → IntsAt W' w.heap.size 0 m (List.replicate m 0) → w.heap.size < W'.heap.size → wpList P ops Q rest (a.put o.dst (.slice (some ⟨w.heap.size, 0, none⟩) m m)) W') :
    wpList P ops Q (o :: rest) a w := by
  subst hC
  refine wpList_plain hg fun K hK' => ?_
  have hb' : (i.bytes : Int) * (m : Int) ≤ 281474976710656 := by
    have h : ((i.bytes * m : Nat) : Int) ≤ 281474976710656 := by omega
    rwa [Int.natCast_mul] at h
  have hr := run_make (P := P) w t e i _ ht hi hz kl kc m m (by omega) (Int.le_refl _) hb' (by omega)
  have hcl : (Value.int .i64 0).cells = #[.int .i64 0] := by rfl
  rw [hcl, hs, Int.toNat_natCast, Nat.mul_one] at hr
  unfold Oper.wp
  simp [execOp, hop, hl, hc, hr, Result.andThen]
  refine hK' _ _ (hK _ ((Below.refl _ _).alloc (Nat.le_refl _) _) ⟨_, heap_alloc_new _ _, by simp [madeCells]⟩ (fun j hj => ?_) (by simp))
  have hd : (List.replicate m (0 : Int)).getD j 0 = 0 := by simp [List.getD, hj]
  rw [hd, Nat.zero_add, World.cell?_alloc_at _ _ _ _ rfl]
  exact madeI hj
theorem infoI : (Try.prog.info? 2).map (fun i => (i.zero, i.size, i.bytes)) = some (some (.int .i64 0), 1, 8) := by kernel_rfl
def fillI : Int := -7000000000000000101
def withRoomI (l : List Int) : List Int := l ++ List.replicate (roomN l.length) fillI
structure LaidI (w : World) (l : List Int) (e : Ending) (w' : World) : Prop where
  out : ∃ g, e = .returned (.slice (some ⟨g, 0, none⟩) l.length (l.length + roomN l.length)) ∧ w.heap.size ≤ g ∧ RoomI w' g (l.length + roomN l.length) 2 ∧ IntsAt w' g 0 (l.length + roomN l.length) (withRoomI l) ∧ Below w.heap.size w w'
theorem roomN_le (n : Nat) : roomN n ≤ n + 1 := by
  unfold roomN
  split
  · omega
  · split <;> omega
theorem take_setI {L l : List Int} {k : Nat} {a : Int} (h : L.take k = l.take k) (hk : k < L.length) (hk' : k < l.length) (ha : l.getD k 0 = a) : (L.set k a).take (k + 1) = l.take (k + 1) := by
  rw [take_snoc' _ 0 k (by simpa using hk), take_snoc' l 0 k hk', List.take_set_of_le (Nat.le_refl _), h, ha]
  congr 1
  simp [List.getD, hk]
theorem withRoomI_length (l : List Int) : (withRoomI l).length = l.length + roomN l.length := by simp [withRoomI]
theorem withRoomI_take (l : List Int) : (withRoomI l).take l.length = l := by simp [withRoomI]
theorem withRoomI_fill (l : List Int) (k : Nat) (h : l.length ≤ k) (h2 : k < l.length + roomN l.length) : (withRoomI l).getD k 0 = fillI := by
  have hj : k - l.length < roomN l.length := by omega
  simp [withRoomI, List.getD, List.getElem?_append_right h, hj]
theorem withRoomI_at (l : List Int) (k : Nat) (h : k < l.length) : (withRoomI l).getD k 0 = l.getD k 0 := by
  simp [withRoomI, List.getD, List.getElem?_append_left h]
end Go.Proofs.Ytcfilpcjgdbbmaa
/- Contracts: the laws' own lists of points: made with room behind, compared. (Printed by geng1.py, a program of this session.) -/
namespace Go.Proofs.Ytcfilpcjgdbbmaa
open Go.RowKit
set_option linter.unusedVariables false
set_option linter.unusedSimpArgs false
theorem made0 {m j : Nat} (h : j < m * 3) : (madeCells #[.int .i64 0, .int .i64 0, .int .i64 0] (m * 3))[j]? = some (.int .i64 0) := by
  have : j % 3 = 0 ∨ j % 3 = 1 ∨ j % 3 = 2 := by omega
  rcases this with e | e | e <;> simp [madeCells, h, e]
/-- 'make' of m points: a new block, all 0. -/
theorem wpList_make_pts {P : Program} (w : World) {ops : Array Oper} {rest : List Oper} {o : Oper} {a : Act} {Q : Exit → Act → World → Prop}
    (hg : o.guard = none) (l c : Operand) (t : TypeId) (hop : o.op = Op.makeSlice t l c)
    (e : TypeId) (i : TypeInfo) (ht : P.underlying t = some (.slice e)) (hi : P.info? e = some i) (hz : i.zero = some (.agg #[.int .i64 0, .int .i64 0, .int .i64 0])) (hs : i.size = 3)
    (kl kc : IntKind) (m : Nat) (C : Int) (hC : C = (m : Int)) (hl : a.eval l = .int kl C) (hc : a.eval c = .int kc C) (hbytes : i.bytes * m ≤ 281474976710656) (h63 : m ≤ 9223372036854775807)
    (hK : ∀ W', Below w.heap.size w W' → RoomP W' w.heap.size m e → PtsAt W' w.heap.size 0 m (List.replicate m (0, 0, 0)) → w.heap.size < W'.heap.size → wpList P ops Q rest (a.put o.dst (.slice (some ⟨w.heap.size, 0, none⟩) m m)) W') :
    wpList P ops Q (o :: rest) a w := by
  subst hC
  refine wpList_plain hg fun K hK' => ?_
  have hb' : (i.bytes : Int) * (m : Int) ≤ 281474976710656 := by
    have h : ((i.bytes * m : Nat) : Int) ≤ 281474976710656 := by omega
    rwa [Int.natCast_mul] at h
  have hr := run_make (P := P) w t e i _ ht hi hz kl kc m m (by omega) (Int.le_refl _) hb' (by omega)
  have hcl : (Value.agg #[.int .i64 0, .int .i64 0, .int .i64 0]).cells = #[.int .i64 0, .int .i64 0, .int .i64 0] := by rfl
  rw [hcl, hs, Int.toNat_natCast] at hr
  unfold Oper.wp
  simp [execOp, hop, hl, hc, hr, Result.andThen]
  refine hK' _ _ (hK _ ((Below.refl _ _).alloc (Nat.le_refl _) _) ⟨_, heap_alloc_new _ _, by simp [madeCells]⟩ (fun j hj => ?_) (by simp))
  have hd : (List.replicate m ((0, 0, 0) : Pt)).getD j (0, 0, 0) = (0, 0, 0) := by simp [List.getD, hj]
  rw [hd]
  simp only [Nat.zero_add]
  refine ⟨?_, ?_, ?_⟩
  · rw [World.cell?_alloc_at _ _ _ _ rfl]; exact made0 (by omega)
  · rw [World.cell?_alloc_at _ _ _ _ rfl]; exact made0 (by omega)
  · rw [World.cell?_alloc_at _ _ _ _ rfl]; exact made0 (by omega)
def fillP : Pt := (-7000000000000000101, 0, 0)
/-- What the laws lay for a list: a new block with the list and room behind it. -/
def withRoomP (l : List Pt) : List Pt := l ++ List.replicate (roomN l.length) fillP
structure LaidP (T : TypeId) (w : World) (l : List Pt) (e : Ending) (w' : World) : Prop where
  out : ∃ g, e = .returned (.slice (some ⟨g, 0, none⟩) l.length (l.length + roomN l.length)) ∧ w.heap.size ≤ g ∧ RoomP w' g (l.length + roomN l.length) T ∧ PtsAt w' g 0 (l.length + roomN l.length) (withRoomP l) ∧ Below w.heap.size w w'
theorem take_setP {L l : List Pt} {k : Nat} {a : Pt} (h : L.take k = l.take k) (hk : k < L.length) (hk' : k < l.length) (ha : l.getD k (0, 0, 0) = a) : (L.set k a).take (k + 1) = l.take (k + 1) := by
  rw [take_snoc' _ (0, 0, 0) k (by simpa using hk), take_snoc' l (0, 0, 0) k hk', List.take_set_of_le (Nat.le_refl _), h, ha]
  congr 1
  simp [List.getD, hk]
theorem withRoomP_length (l : List Pt) : (withRoomP l).length = l.length + roomN l.length := by simp [withRoomP]
theorem withRoomP_take (l : List Pt) : (withRoomP l).take l.length = l := by simp [withRoomP]
theorem withRoomP_fill (l : List Pt) (k : Nat) (h : l.length ≤ k) (h2 : k < l.length + roomN l.length) : (withRoomP l).getD k (0, 0, 0) = fillP := by
  have hj : k - l.length < roomN l.length := by omega
  simp [withRoomP, List.getD, List.getElem?_append_right h, hj]
theorem withRoomP_at (l : List Pt) (k : Nat) (h : k < l.length) : (withRoomP l).getD k (0, 0, 0) = l.getD k (0, 0, 0) := by
  simp [withRoomP, List.getD, List.getElem?_append_left h]
theorem pts_take {w : World} {b o n m : Nat} {l : List Pt} (h : PtsAt w b o n l) (hm : m ≤ n) : PtsAt w b o m (l.take m) := fun i hi => by
  have := h i (by omega)
  have hd : (l.take m).getD i (0, 0, 0) = l.getD i (0, 0, 0) := by simp [List.getD, List.getElem?_take_of_lt hi]
  rw [hd]; exact this
set_option maxHeartbeats 2000000 in
theorem toPointS_any (b : Option Addr) (n cap : Nat) (bare : Bool) (l : List Pt) (w : World) (hl : l.length = n) (hn : n ≤ 1000000) (hb : bare = false ∨ 0 < n)
    (hc : 0 < n → ∃ g off, b = some ⟨g, off, none⟩ ∧ PtsAt w g off n l) :
    Calls Try.prog 10 #[.slice b n cap, .bool bare] w (LaidP 45 w l) := by
  obtain ⟨i0, hi, hz0, hz1, hz2⟩ := info_parts (show (Try.prog.info? 45).map (fun i => (i.zero, i.size, i.bytes)) = some (some (.agg #[.int .i64 0, .int .i64 0, .int .i64 0]), 3, 24) by kernel_rfl)
  have HR := Lib.hid (fun (W : World) => roomBehind_any n W hn)
  have HL := Lib.hid hl
  have HC := Lib.hid hc
  have HI0 := Lib.hid hi; have HZ0 := Lib.hid hz0; have HZ1 := Lib.hid hz1; have HZ2 := Lib.hid hz2
  have hr0 := roomN_le n
  have HT := Lib.hid (withRoomP_length l)
  have HF := Lib.hid (withRoomP_fill l)
  have HA := Lib.hid (withRoomP_at l)
  rw [hl] at HT HF HA
  have HG : Hid (∀ L : List Pt, L.length = n + roomN n → L.take (n + roomN n) = (withRoomP l).take (n + roomN n) → L = withRoomP l) := Lib.hid (fun L h1 h2 => by
    rw [List.take_of_length_le (by omega), List.take_of_length_le (by rw [HT.out]; omega)] at h2; exact h2)
  clear hi hz0 hz1 hz2 hl hc
  have fin : ∀ e w', (∃ g, e = .returned (.slice (some ⟨g, 0, none⟩) n (n + roomN n)) ∧ w.heap.size ≤ g ∧ RoomP w' g (n + roomN n) 45 ∧ PtsAt w' g 0 (n + roomN n) (withRoomP l) ∧ Below w.heap.size w w') → LaidP 45 w l e w' := by
    intro e w' h
    refine ⟨?_⟩
    rw [HL.out]; exact h
  have FIN := Lib.hid fin
  clear fin
  generalize hM : withRoomP l = M at *
  generalize hr : roomN n = r at *
  generalize hm : n + r = m at *
  have hnm : n ≤ m := by omega
  have hm2 : m ≤ 2 * n + 1 := by omega
  have hcond : (n : Int) = 0 → bare = false := by
    intro h
    rcases hb with h2 | h2
    · exact h2
    · omega
  clear hr hb hM
  have HMm := hm
  by_cases h0 : bare = true ∧ n = 0
  · exfalso
    have := hcond (by omega)
    rw [h0.1] at this; cases this
  clear hcond
  cases bare with
  | false =>
    clear h0
    go_enter Try.func10, Try.ntmps10
    go_wp2_with (first
      | (go_at_call 32; refine (HR.out _).mono ?_; rintro e w' ⟨rfl, rfl⟩)
      | (refine wpList_make_pts _ rfl _ _ 27 rfl 45 i0 Try.underlying27 HI0.out HZ0.out HZ1.out .i64 .i64 m _ (by omega) rfl rfl (by rw [HZ2.out]; omega) (by omega) ?_; intro w1 hb1 hr1 hp1 hl1; have HB1 := Lib.hid hb1; have HR1 := Lib.hid hr1; have HP1 := Lib.hid hp1; clear hb1 hr1 hp1))
    go_loopw [6] (fun i wr => ∃ (k : Nat) (L : List Pt), k ≤ n ∧ i = .int .i64 k ∧ Hid (L.length = m ∧ L.take k = M.take k) ∧ Hid (RoomP wr w.heap.size m 45) ∧ Hid (PtsAt wr w.heap.size 0 m L) ∧ Hid (Below w.heap.size w wr)) (fun i wr => n - (intOf i).toNat)
    case atStart => exact ⟨0, _, Nat.zero_le _, rfl, Lib.hid ⟨by simp, by simp⟩, HR1, HP1, HB1⟩
    case round =>
      obtain ⟨k, L, hk, rfl, HL1, HRo, HPt, HB⟩ := hrel
      by_cases hlt : k < n
      · obtain ⟨g, off, rfl, hpt⟩ := HC.out (by omega)
        obtain ⟨c0, c1, c2⟩ := hpt k hlt
        have hgl : g < w.heap.size := World.block_lt_of_cell? w _ c0
        have d0 : wr.cell? ⟨g, off + k * 3, none⟩ = some (.int .i64 (l.getD k (0, 0, 0)).1) := (HB.out.cell hgl).trans c0
        have d1 : wr.cell? ⟨g, off + k * 3 + 1, none⟩ = some (.int .i64 (l.getD k (0, 0, 0)).2.1) := (HB.out.cell hgl).trans c1
        have d2 : wr.cell? ⟨g, off + k * 3 + 2, none⟩ = some (.int .i64 (l.getD k (0, 0, 0)).2.2) := (HB.out.cell hgl).trans c2
        have HS := Lib.hid (take_setP HL1.out.2 (by have := HL1.out.1; omega) (by have := HT.out; omega) (HA.out k hlt))
        clear c0 c1 c2 hpt
        generalize l.getD k (0, 0, 0) = a at *
        obtain ⟨x, y, z⟩ := a
        dsimp only at d0 d1 d2
        obtain ⟨u0, s0⟩ := Option.isSome_iff_exists.1 (HRo.out.some (k * 3) (by omega))
        have r0 := HRo.out.frozen (k * 3)
        obtain ⟨u1, s1⟩ := Option.isSome_iff_exists.1 (HRo.out.some (k * 3 + 1) (by omega))
        have r1 := HRo.out.frozen (k * 3 + 1)
        obtain ⟨u2, s2⟩ := Option.isSome_iff_exists.1 (HRo.out.some (k * 3 + 2) (by omega))
        have r2 := HRo.out.frozen (k * 3 + 2)
        have hwl := HRo.out.lt
        go_wp2_with (go_at_call 33; (with_reducible refine (toPoint_any x y z _).mono ?_); rintro e w2_ ⟨rfl, hb2⟩; obtain ⟨hcb2, hfb2, hlb2⟩ := bcell hb2; have hsz2 := hb2.size; (try simp at hsz2); have HB2 := Lib.hid hb2; clear hb2; (try (have hl02 : w.heap.size < w2_.heap.size := by omega)))
        have HR2 := HRo.out.below HB2.out
        have HC2 := HPt.out.below HB2.out
        have HBB := low_tr' HB.out HB2.out (by omega)
        go_roundw
        case rel => exact ⟨k + 1, L.set k (x, y, z), by omega, by go_num, Lib.hid ⟨by rw [List.length_set]; exact HL1.out.1, HS.out⟩, Lib.hid (((HR2.set _ _).set _ _).set _ _), Lib.hid (pts_set HR2 (Nat.le_refl _) HC2 HL1.out.1 k (by omega) x y z), Lib.hid (((HBB.setCell (Nat.le_refl _) _).setCell (Nat.le_refl _) _).setCell (Nat.le_refl _) _)⟩
        case measure => simp [intOf]; omega
      · have hkn : k = n := by omega
        subst hkn
        go_wp2
        go_loopw [7] (fun i wr => ∃ (j : Nat) (L : List Pt), k ≤ j ∧ j ≤ m ∧ i = .int .i64 j ∧ Hid (L.length = m ∧ L.take j = M.take j) ∧ Hid (RoomP wr w.heap.size m 45) ∧ Hid (PtsAt wr w.heap.size 0 m L) ∧ Hid (Below w.heap.size w wr)) (fun i wr => m - (intOf i).toNat)
        case atStart => exact ⟨k, L, Nat.le_refl _, by omega, rfl, HL1, HRo, HPt, HB⟩
        case round =>
          clear HL1 HRo HPt HB hlt hk
          obtain ⟨j, L, hkj, hj, rfl, HL1, HRo, HPt, HB⟩ := hrel
          by_cases hlt : j < m
          · have HS := Lib.hid (take_setP HL1.out.2 (by have := HL1.out.1; omega) (by have := HT.out; omega) (HF.out j hkj hlt))
            obtain ⟨u0, s0⟩ := Option.isSome_iff_exists.1 (HRo.out.some (j * 3) (by omega))
            have r0 := HRo.out.frozen (j * 3)
            obtain ⟨u1, s1⟩ := Option.isSome_iff_exists.1 (HRo.out.some (j * 3 + 1) (by omega))
            have r1 := HRo.out.frozen (j * 3 + 1)
            obtain ⟨u2, s2⟩ := Option.isSome_iff_exists.1 (HRo.out.some (j * 3 + 2) (by omega))
            have r2 := HRo.out.frozen (j * 3 + 2)
            have hwl := HRo.out.lt
            go_wp2
            go_roundw
            case rel => exact ⟨j + 1, L.set j fillP, by omega, by omega, by go_num, Lib.hid ⟨by rw [List.length_set]; exact HL1.out.1, HS.out⟩, Lib.hid (((HRo.out.set _ _).set _ _).set _ _), Lib.hid (pts_set HRo.out (Nat.le_refl _) HPt.out HL1.out.1 j (by omega) _ _ _), Lib.hid (((HB.out.setCell (Nat.le_refl _) _).setCell (Nat.le_refl _) _).setCell (Nat.le_refl _) _)⟩
            case measure => simp [intOf]; omega
          · have hjn : j = m := by omega
            subst hjn
            go_wp2
            go_ret
            have hE := HG.out L HL1.out.1 HL1.out.2
            exact FIN.out _ _ ⟨w.heap.size, rfl, Nat.le_refl _, HRo.out, by rw [← hE]; exact HPt.out, HB.out⟩
  | true =>
    have hn0 : 0 < n := by
      rcases Nat.eq_zero_or_pos n with h | h
      · exact (h0 ⟨rfl, h⟩).elim
      · exact h
    have hnz : ((n : Int) == 0) = false := by simp; omega
    clear h0
    go_enter Try.func10, Try.ntmps10
    go_wp2_with (first
      | (go_at_call 32; refine (HR.out _).mono ?_; rintro e w' ⟨rfl, rfl⟩)
      | (refine wpList_make_pts _ rfl _ _ 27 rfl 45 i0 Try.underlying27 HI0.out HZ0.out HZ1.out .i64 .i64 m _ (by omega) rfl rfl (by rw [HZ2.out]; omega) (by omega) ?_; intro w1 hb1 hr1 hp1 hl1; have HB1 := Lib.hid hb1; have HR1 := Lib.hid hr1; have HP1 := Lib.hid hp1; clear hb1 hr1 hp1))
    go_loopw [6] (fun i wr => ∃ (k : Nat) (L : List Pt), k ≤ n ∧ i = .int .i64 k ∧ Hid (L.length = m ∧ L.take k = M.take k) ∧ Hid (RoomP wr w.heap.size m 45) ∧ Hid (PtsAt wr w.heap.size 0 m L) ∧ Hid (Below w.heap.size w wr)) (fun i wr => n - (intOf i).toNat)
    case atStart => exact ⟨0, _, Nat.zero_le _, rfl, Lib.hid ⟨by simp, by simp⟩, HR1, HP1, HB1⟩
    case round =>
      obtain ⟨k, L, hk, rfl, HL1, HRo, HPt, HB⟩ := hrel
      by_cases hlt : k < n
      · obtain ⟨g, off, rfl, hpt⟩ := HC.out (by omega)
        obtain ⟨c0, c1, c2⟩ := hpt k hlt
        have hgl : g < w.heap.size := World.block_lt_of_cell? w _ c0
        have d0 : wr.cell? ⟨g, off + k * 3, none⟩ = some (.int .i64 (l.getD k (0, 0, 0)).1) := (HB.out.cell hgl).trans c0
        have d1 : wr.cell? ⟨g, off + k * 3 + 1, none⟩ = some (.int .i64 (l.getD k (0, 0, 0)).2.1) := (HB.out.cell hgl).trans c1
        have d2 : wr.cell? ⟨g, off + k * 3 + 2, none⟩ = some (.int .i64 (l.getD k (0, 0, 0)).2.2) := (HB.out.cell hgl).trans c2
        have HS := Lib.hid (take_setP HL1.out.2 (by have := HL1.out.1; omega) (by have := HT.out; omega) (HA.out k hlt))
        clear c0 c1 c2 hpt
        generalize l.getD k (0, 0, 0) = a at *
        obtain ⟨x, y, z⟩ := a
        dsimp only at d0 d1 d2
        obtain ⟨u0, s0⟩ := Option.isSome_iff_exists.1 (HRo.out.some (k * 3) (by omega))
        have r0 := HRo.out.frozen (k * 3)
        obtain ⟨u1, s1⟩ := Option.isSome_iff_exists.1 (HRo.out.some (k * 3 + 1) (by omega))
        have r1 := HRo.out.frozen (k * 3 + 1)
        obtain ⟨u2, s2⟩ := Option.isSome_iff_exists.1 (HRo.out.some (k * 3 + 2) (by omega))
        have r2 := HRo.out.frozen (k * 3 + 2)
        have hwl := HRo.out.lt
        go_wp2_with (go_at_call 33; (with_reducible refine (toPoint_any x y z _).mono ?_); rintro e w2_ ⟨rfl, hb2⟩; obtain ⟨hcb2, hfb2, hlb2⟩ := bcell hb2; have hsz2 := hb2.size; (try simp at hsz2); have HB2 := Lib.hid hb2; clear hb2; (try (have hl02 : w.heap.size < w2_.heap.size := by omega)))
        have HR2 := HRo.out.below HB2.out
        have HC2 := HPt.out.below HB2.out
        have HBB := low_tr' HB.out HB2.out (by omega)
        go_roundw
        case rel => exact ⟨k + 1, L.set k (x, y, z), by omega, by go_num, Lib.hid ⟨by rw [List.length_set]; exact HL1.out.1, HS.out⟩, Lib.hid (((HR2.set _ _).set _ _).set _ _), Lib.hid (pts_set HR2 (Nat.le_refl _) HC2 HL1.out.1 k (by omega) x y z), Lib.hid (((HBB.setCell (Nat.le_refl _) _).setCell (Nat.le_refl _) _).setCell (Nat.le_refl _) _)⟩
        case measure => simp [intOf]; omega
      · have hkn : k = n := by omega
        subst hkn
        go_wp2
        go_loopw [7] (fun i wr => ∃ (j : Nat) (L : List Pt), k ≤ j ∧ j ≤ m ∧ i = .int .i64 j ∧ Hid (L.length = m ∧ L.take j = M.take j) ∧ Hid (RoomP wr w.heap.size m 45) ∧ Hid (PtsAt wr w.heap.size 0 m L) ∧ Hid (Below w.heap.size w wr)) (fun i wr => m - (intOf i).toNat)
        case atStart => exact ⟨k, L, Nat.le_refl _, by omega, rfl, HL1, HRo, HPt, HB⟩
        case round =>
          clear HL1 HRo HPt HB hlt hk
          obtain ⟨j, L, hkj, hj, rfl, HL1, HRo, HPt, HB⟩ := hrel
          by_cases hlt : j < m
          · have HS := Lib.hid (take_setP HL1.out.2 (by have := HL1.out.1; omega) (by have := HT.out; omega) (HF.out j hkj hlt))
            obtain ⟨u0, s0⟩ := Option.isSome_iff_exists.1 (HRo.out.some (j * 3) (by omega))
            have r0 := HRo.out.frozen (j * 3)
            obtain ⟨u1, s1⟩ := Option.isSome_iff_exists.1 (HRo.out.some (j * 3 + 1) (by omega))
            have r1 := HRo.out.frozen (j * 3 + 1)
            obtain ⟨u2, s2⟩ := Option.isSome_iff_exists.1 (HRo.out.some (j * 3 + 2) (by omega))
            have r2 := HRo.out.frozen (j * 3 + 2)
            have hwl := HRo.out.lt
            go_wp2
            go_roundw
            case rel => exact ⟨j + 1, L.set j fillP, by omega, by omega, by go_num, Lib.hid ⟨by rw [List.length_set]; exact HL1.out.1, HS.out⟩, Lib.hid (((HRo.out.set _ _).set _ _).set _ _), Lib.hid (pts_set HRo.out (Nat.le_refl _) HPt.out HL1.out.1 j (by omega) _ _ _), Lib.hid (((HB.out.setCell (Nat.le_refl _) _).setCell (Nat.le_refl _) _).setCell (Nat.le_refl _) _)⟩
            case measure => simp [intOf]; omega
          · have hjn : j = m := by omega
            subst hjn
            go_wp2
            go_ret
            have hE := HG.out L HL1.out.1 HL1.out.2
            exact FIN.out _ _ ⟨w.heap.size, rfl, Nat.le_refl _, HRo.out, by rw [← hE]; exact HPt.out, HB.out⟩
theorem toPointS_nil (cap : Nat) (b : Option Addr) (w : World) : Calls Try.prog 10 #[.slice b 0 cap, .bool true] w fun e w' => e = .returned (.slice none 0 0) ∧ w = w' := by
  go_enter Try.func10, Try.ntmps10
  go_wp2
  go_ret
  exact ⟨rfl, rfl⟩
end Go.Proofs.Ytcfilpcjgdbbmaa
