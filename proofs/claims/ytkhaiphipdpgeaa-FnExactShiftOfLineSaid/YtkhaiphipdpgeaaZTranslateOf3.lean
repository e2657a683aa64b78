/- Texts of the claim, in build order: RegS, B1, C1, C2, C3, C4, C5, C6, C7, C8, C9, D1, F1, F2, H0, E1, H1, G1, G2, G1L, G2L, K1, K2, K3, M1, G3, P2, F3, P1. No condition. -/
import Derived.Laws.IdiomCopy
import Derived.Laws.MakeOwn
import Derived.Lib.AppendZeros
import Derived.Laws.AppendOwnNone
import Derived.Test.YtkhaiphipdpgeaaZTranslateOf2
/- A region that draws its order, holds guarded operations, and stores once into a block that is there (a result's cell). -/
namespace Go.Proofs.Ytkhaiphipdpgeaa
open Go.RowKit
set_option linter.unusedVariables false
set_option linter.unusedSimpArgs false
def storeChk (l : List Oper) (s N : Nat) : Bool :=
  (List.range l.length).all fun i => match l[i]? with
    | none => true
    | some o => (match o.guard with | none => true | some (k, _) => i != s && bindsTo o k) && notSelect o && (o.after.all fun e => !Region.binds .any e || e.on < i) &&
      (match o.dst with | some t => i != s && decide (t < N) | none => i == s) &&
      ((readsOf o).all fun t => (List.range l.length).all fun j => match l[j]? with
          | none => true
          | some oj => !(oj.dst == some t) || bindsTo o j)
theorem storeChk_at {l : List Oper} {s N : Nat} (chk : storeChk l s N = true) {i : Nat} {o : Oper} (hi : l[i]? = some o) :
    (∀ k b, o.guard = some (k, b) → i ≠ s ∧ bindsTo o k = true) ∧ (∀ cs b, o.op ≠ .select cs b) ∧ (∀ e ∈ o.after, Region.binds .any e = true → e.on < i) ∧
    (i ≠ s → ∃ t, o.dst = some t ∧ t < N) ∧ (∀ t ∈ readsOf o, ∀ j oj, l[j]? = some oj → oj.dst = some t → bindsTo o j = true) ∧ (i = s → o.dst = none) := by
  unfold storeChk at chk
  have hlt : i < l.length := (List.getElem?_eq_some_iff.1 hi).1
  have h := List.all_eq_true.1 chk i (List.mem_range.2 hlt)
  simp only [hi, Bool.and_eq_true] at h
  obtain ⟨⟨⟨⟨hg, hns⟩, haf⟩, hd⟩, hr⟩ := h
  refine ⟨?_, ?_, ?_, ?_, ?_, ?_⟩
  · intro k b e; rw [e] at hg; simpa using hg
  · intro cs b e; rw [notSelect, e] at hns; cases hns
  · intro e he hb
    have := (Array.all_eq_true_iff_forall_mem.1 haf) e he
    simpa [hb] using this
  · intro his
    cases hdd : o.dst with
    | none => rw [hdd] at hd; exact (his (by simpa using hd)).elim
    | some t => rw [hdd] at hd; simp only [Bool.and_eq_true, decide_eq_true_eq] at hd; exact ⟨t, rfl, hd.2⟩
  · intro t ht j oj hj hjd
    have h2 := List.all_eq_true.1 hr t ht
    have hjl : j < l.length := (List.getElem?_eq_some_iff.1 hj).1
    have := List.all_eq_true.1 h2 j (List.mem_range.2 hjl)
    simpa [hj, hjd] using this
  · intro his
    cases hdd : o.dst with
    | none => rfl
    | some t => rw [hdd] at hd; simp [his] at hd
theorem ready_allS {l : List Oper} {s N : Nat} (chk : storeChk l s N = true) {listed : Array Bool} (hlen : listed.size = l.length)
    (h : Region.ready .any l.toArray listed = []) : ∀ i, i < l.length → listed.getD i false = true := by
  intro i
  induction i using Nat.strongRecOn with
  | _ i ih =>
    intro hi
    cases hb : listed.getD i false with
    | true => rfl
    | false =>
      exfalso
      have ho : l[i]? = some l[i] := List.getElem?_eq_getElem hi
      have hmem : i ∈ Region.ready .any l.toArray listed := by
        rw [mem_ready]
        refine ⟨?_, l[i], by simp, fun e he hbd => ?_⟩
        · have : i < listed.size := by omega
          simp [this] at hb ⊢; exact hb
        · exact ih e.on ((storeChk_at chk ho).2.2.1 e he hbd) (by have := (storeChk_at chk ho).2.2.1 e he hbd; omega)
      rw [h] at hmem; cases hmem
structure RInvS (l : List Oper) (a0 aE : Act) (w0 : World) (B g0 s n : Nat) (T : TypeId) (U : Array Value) (listed : Array Bool) (a : Act) (w : World) : Prop where
  df : a.defers = aE.defers
  sz : a.tmps.size = aE.tmps.size
  len : listed.size = l.length
  fr1 : ∀ (j : Nat) (o : Oper) (t : Nat), l[j]? = some o → o.dst = some t → listed.getD j false = true → a.tmps.getD t undef = aE.tmps.getD t undef
  fr0 : ∀ t : Nat, (∀ (j : Nat) (o : Oper), l[j]? = some o → o.dst = some t → listed.getD j false = false) → a.tmps.getD t undef = a0.tmps.getD t undef
  bl : Below B w0 w
  big : B ≤ w.heap.size
  box : ∃ cs, w.heap[g0]? = some (.cells cs T (0, 0)) ∧ cs.size = n ∧ (listed.getD s false = true → cs = U)
section
variable {P : Program} {Q : Exit → Act → World → Prop} {l : List Oper} {a0 : Act} {w : World} {vs : List (Nat × Value)} {B g0 s n : Nat} {T : TypeId} {U : Array Value} {os : Oper}
theorem wp_region_storeG {id : Nat} (hm : P.follows .mixedOrders = true) (hsi : l[s]? = some os) (hBg : B ≤ g0) (hBw : B ≤ w.heap.size) (h0 : ∃ cs, w.heap[g0]? = some (.cells cs T (0, 0)) ∧ cs.size = n) (hU : U.size = n)
    (hst : ∀ (ρ : Operand → Value) (W : World) (cs : Array Value), (∀ t ∈ readsOf os, ρ (.tmp t) = (puts a0 vs).tmps.getD t undef) → W.heap[g0]? = some (.cells cs T (0, 0)) → cs.size = n → (execOp ρ os).run P W = .ok .skip (W.setRow g0 U)) 
    (chk : storeChk l s a0.tmps.size = true) (hkeys : vs.all (fun kv => l.any (·.dst == some kv.1)) = true)
    (hop : ∀ (i : Nat) (o : Oper) (t : Nat), l[i]? = some o → i ≠ s → o.dst = some t → (Region.wanted o (yielded l.toArray (puts a0 vs).tmps) = true ∧ ∀ W, Below B w W → calmAt P o (puts a0 vs).eval W ((puts a0 vs).tmps.getD t undef)) ∨ (Region.wanted o (yielded l.toArray (puts a0 vs).tmps) = false ∧ (puts a0 vs).tmps.getD t undef = undef))
    (hQ : ∀ W, Below B w W → W.heap[g0]? = some (.cells U T (0, 0)) → Q .normal (puts a0 vs) W) :
    (Code.region id l.toArray true).wp P Q a0 w := by
  have hE : ∀ t, (∀ (j : Nat) (o : Oper), l[j]? = some o → o.dst ≠ some t) → a0.tmps.getD t undef = (puts a0 vs).tmps.getD t undef := by
    intro t hno
    refine (puts_other t vs a0 (fun kv hkv e => ?_)).symm
    have := List.all_eq_true.1 hkeys kv hkv
    obtain ⟨o, ho, hod⟩ := List.any_eq_true.1 this
    obtain ⟨j, hj⟩ := List.getElem?_of_mem ho
    exact hno j o hj (by rw [← e]; simpa using hod)
  have hEs : (puts a0 vs).tmps.size = a0.tmps.size := puts_size _ _
  have hEd : (puts a0 vs).defers = a0.defers := puts_defers _ _
  generalize puts a0 vs = aE at *
  refine wp_region_any hm ?_
  have key : ∀ (fuel : Nat) (listed : Array Bool) (a : Act) (W : World), RInvS l a0 aE w B g0 s n T U listed a W →
      (List.range l.length).countP (fun i => !listed.getD i true) ≤ fuel → wpAny P .any l.toArray Q fuel listed a W := by
    intro fuel
    have fin : ∀ (listed : Array Bool) (a : Act) (W : World), RInvS l a0 aE w B g0 s n T U listed a W → Region.ready .any l.toArray listed = [] → Q .normal a W := by
      intro listed a W hI hr
      have hall := ready_allS chk hI.len hr
      have ea : a = aE := by
        refine act_ext _ _ hI.df hI.sz (fun t ht => ?_)
        · by_cases hw : ∃ (j : Nat) (o : Oper), l[j]? = some o ∧ o.dst = some t
          · obtain ⟨j, o, hj, ho⟩ := hw
            exact hI.fr1 j o t hj ho (hall j (List.getElem?_eq_some_iff.1 hj).1)
          · rw [hI.fr0 t (fun j o hj ho => (hw ⟨j, o, hj, ho⟩).elim)]
            exact hE t (fun j o hj ho => hw ⟨j, o, hj, ho⟩)
      obtain ⟨cs, hcs, _, he⟩ := hI.box
      have e := he (hall s (List.getElem?_eq_some_iff.1 hsi).1)
      subst e
      rw [ea]
      exact hQ W hI.bl hcs
    -- what an operation that may come up reads is at hand
    have look : ∀ (listed : Array Bool) (a : Act) (W : World), RInvS l a0 aE w B g0 s n T U listed a W → ∀ (i : Nat) (o : Oper), l[i]? = some o →
        (∀ e ∈ o.after, Region.binds .any e = true → listed.getD e.on false = true) → ∀ t ∈ readsOf o, a.tmps.getD t undef = aE.tmps.getD t undef := by
      intro listed a W hI i o hi hall t ht
      have h := (storeChk_at chk hi).2.2.2.2.1 t ht
      · by_cases hw : ∃ (j : Nat) (oj : Oper), l[j]? = some oj ∧ oj.dst = some t
        · obtain ⟨j, oj, hj, hjd⟩ := hw
          obtain ⟨e, he, hb, hon⟩ := bindsTo_spec (h j oj hj hjd)
          exact hI.fr1 j oj t hj hjd (by rw [← hon]; exact hall e he hb)
        · rw [hI.fr0 t (fun j oj hj ho => (hw ⟨j, oj, hj, ho⟩).elim)]
          exact hE t (fun j oj hj ho => hw ⟨j, oj, hj, ho⟩)
    induction fuel with
    | zero =>
      intro listed a W hI hc
      have hr : Region.ready .any l.toArray listed = [] := by
        rw [List.eq_nil_iff_forall_not_mem]
        intro i hi
        obtain ⟨h0, o, ho, _⟩ := mem_ready.1 hi
        have hil : i < l.length := by simpa using (Array.getElem?_eq_some_iff.1 ho).1
        have : 0 < (List.range l.length).countP (fun i => !listed.getD i true) := List.countP_pos_iff.2 ⟨i, List.mem_range.2 hil, by rw [h0]; rfl⟩
        omega
      exact ⟨hr, fin listed a W hI hr⟩
    | succ fuel ih =>
      intro listed a W hI hc
      refine ⟨fin listed a W hI, fun i hi => ?_⟩
      obtain ⟨h0, o, ho, hall⟩ := mem_ready.1 hi
      have hio : l[i]? = some o := by simpa using ho
      have hil : i < l.length := (List.getElem?_eq_some_iff.1 hio).1
      have hil' : i < listed.size := by rw [hI.len]; exact hil
      have hi0 : listed.getD i false = false := by simpa [hil'] using h0
      have hC := storeChk_at chk hio
      have hwe : Region.wanted o (yielded l.toArray a.tmps) = Region.wanted o (yielded l.toArray aE.tmps) := by
        unfold Region.wanted
        cases hg : o.guard with
        | none => rfl
        | some kb =>
          obtain ⟨k, b⟩ := kb
          obtain ⟨e, he, hb, hon⟩ := bindsTo_spec (hC.1 k b hg).2
          have : yielded l.toArray a.tmps k = yielded l.toArray aE.tmps k := yielded_congr hI.sz (fun ok tk hk hd => hI.fr1 k ok tk (by simpa using hk) hd (by rw [← hon]; exact hall e he hb))
          simp only [this]
      have hcnt : (List.range l.length).countP (fun j => !(listed.setIfInBounds i true).getD j true) ≤ fuel := by
        have := count_lt (fun j => !listed.getD j true) (fun j => !(listed.setIfInBounds i true).getD j true) (fun j hj => by
            by_cases e : i = j
            · subst e; simp [hil'] at hj
            · rw [getD_set_ne true e] at hj; exact hj) i (by rw [h0]; rfl) (by simp [hil']) (List.range l.length) (List.mem_range.2 hil)
        omega
      by_cases his : i = s
      · -- the store
        subst his
        have eo : o = os := by rw [hsi] at hio; exact (Option.some.inj hio).symm
        subst eo
        have hdst := hC.2.2.2.2.2 rfl
        obtain ⟨cs, hcs, hn, _⟩ := hI.box
        have hrun := hst a.eval W cs (fun t ht => look listed a W hI i o hio hall t ht) hcs hn
        have hgu : o.guard = none := by
          cases hg : o.guard with
          | none => rfl
          | some kb => exact ((hC.1 kb.1 kb.2 hg).1 rfl).elim
        have hw : Region.wanted o (yielded l.toArray a.tmps) = true := by unfold Region.wanted; rw [hgu]
        unfold wpOp
        simp only [ho, hw, if_true]
        refine .inl ?_
        unfold Oper.wp
        rw [hrun]
        simp only [Oper.upon, hdst]
        have hp : a.put none undef = a := rfl
        rw [hp]
        refine ih _ _ _ ⟨hI.df, hI.sz, by simpa using hI.len, ?_, ?_, below_setRow hI.bl hBg _, by simpa [World.setRow] using hI.big, ?_⟩ hcnt
        · intro j oj t hj hjd hl
          rw [getD_set _ _ _ hil'] at hl
          by_cases e : i = j
          · subst e; rw [hio] at hj; obtain rfl := Option.some.inj hj; rw [hdst] at hjd; cases hjd
          · rw [if_neg e] at hl; exact hI.fr1 j oj t hj hjd hl
        · intro t hno
          refine hI.fr0 t (fun j oj hj hjd => ?_)
          have := hno j oj hj hjd
          rw [getD_set _ _ _ hil'] at this
          by_cases e : i = j
          · rw [if_pos e] at this; cases this
          · rw [if_neg e] at this; exact this
        · exact ⟨U, setRow_heap W g0 cs U T (0, 0) hcs, hU, fun _ => rfl⟩
      · obtain ⟨t, hdst, htN⟩ := hC.2.2.2.1 his
        have step : ∀ W', Below B w W' → B ≤ W'.heap.size → (∃ cs, W'.heap[g0]? = some (.cells cs T (0, 0)) ∧ cs.size = n ∧ (listed.getD s false = true → cs = U)) → wpAny P .any l.toArray Q fuel (listed.setIfInBounds i true) (a.put (some t) (aE.tmps.getD t undef)) W' := by
          intro W' hW' hbig hbox
          refine ih _ _ _ ⟨by rw [put_defers]; exact hI.df, by rw [put_size]; exact hI.sz, by simpa using hI.len, ?_, ?_, hW', hbig, by rw [getD_set _ _ _ hil', if_neg his]; exact hbox⟩ hcnt
          · intro j oj u hj hjd hl
            by_cases htu : t = u
            · subst htu; rw [put_get_same _ _ _ (by rw [hI.sz, hEs]; exact htN)]
            · rw [put_get_ne _ _ _ _ htu]
              rw [getD_set _ _ _ hil'] at hl
              by_cases e : i = j
              · subst e; rw [hio] at hj; obtain rfl := Option.some.inj hj; rw [hdst] at hjd; exact (htu (Option.some.inj hjd)).elim
              · rw [if_neg e] at hl; exact hI.fr1 j oj u hj hjd hl
          · intro u hno
            have htu : t ≠ u := fun e => by
              subst e
              have := hno i o hio hdst
              rw [getD_set _ _ _ hil', if_pos rfl] at this; cases this
            rw [put_get_ne _ _ _ _ htu]
            refine hI.fr0 u (fun j oj hj hjd => ?_)
            have := hno j oj hj hjd
            rw [getD_set _ _ _ hil'] at this
            by_cases e : i = j
            · rw [if_pos e] at this; cases this
            · rw [if_neg e] at this; exact this
        unfold wpOp
        simp only [ho]
        rcases hop i o t hio his hdst with ⟨hw, hcalm⟩ | ⟨hw, hun⟩
        · rw [hwe, hw]
          simp only [if_true]
          refine .inl ?_
          have heq : execOp aE.eval o = execOp a.eval o := execOp_congr o hC.2.1 (fun x hx => by
              cases x with
              | tmp u =>
                have hu : u ∈ readsOf o := List.mem_filterMap.2 ⟨.tmp u, by simpa using hx, rfl⟩
                exact (look listed a W hI i o hio hall u hu).symm
              | _ => rfl)
          have hcalm' : calmAt P o a.eval W (aE.tmps.getD t undef) := by
              refine ⟨?_⟩; have hh := (hcalm W hI.bl).out; unfold calmRun at hh ⊢; rw [← heq]; exact hh
          refine wp_of_calm hcalm' (fun W' hb => ?_)
          rw [hdst]
          exact step W' (below_tr hI.bl hI.big hb) (Nat.le_trans hI.big hb.size) (by obtain ⟨cs, hcs, hr⟩ := hI.box; exact ⟨cs, by rw [hb.block _ (Array.getElem?_eq_some_iff.1 hcs).1]; exact hcs, hr⟩)
        · rw [hwe, hw]
          simp only [Bool.false_eq_true, if_false, hdst]
          rw [hun] at step
          exact step W hI.bl hI.big hI.box
  refine key _ _ _ _ ⟨by rw [hEd], hEs.symm, by simp, ?_, ?_, ⟨rfl, rfl, rfl, Nat.le_refl _, fun _ _ => rfl⟩, hBw, by obtain ⟨cs, h1, h2⟩ := h0; exact ⟨cs, h1, h2, fun h => by rw [rep_false] at h; cases h⟩⟩ ?_
  · intro j o t hj hjd hl; rw [rep_false] at hl; cases hl
  · intro t _; rfl
  · exact Nat.le_trans List.countP_le_length (by simp)
/-- What the law asks of one operation that is not the store. -/
def CalmS (P : Program) (aE : Act) (w : World) (B : Nat) (l : List Oper) (o : Oper) : Prop := ∀ t, o.dst = some t →
  (Region.wanted o (yielded l.toArray aE.tmps) = true ∧ ∀ W, Below B w W → calmAt P o aE.eval W (aE.tmps.getD t undef)) ∨ (Region.wanted o (yielded l.toArray aE.tmps) = false ∧ aE.tmps.getD t undef = undef)
theorem CalmS.mk {P : Program} {aE : Act} {w : World} {B : Nat} {l : List Oper} {o : Oper} (t : Nat) (v : Value) (hd : o.dst = some t) (hv : aE.tmps.getD t undef = v) (hw : Region.wanted o (yielded l.toArray aE.tmps) = true) (h : ∀ W, Below B w W → calmAt P o aE.eval W v) : CalmS P aE w B l o := by
  intro t' hd'
  rw [hd] at hd'
  obtain rfl := Option.some.inj hd'
  exact .inl ⟨hw, fun W hW => by rw [hv]; exact h W hW⟩
theorem region_store {id : Nat} (B g0 s n : Nat) (T : TypeId) (U : Array Value) (vs : List (Nat × Value)) (hm : P.follows .mixedOrders = true) (hsi : l[s]? = some os)
    (chk : storeChk l s a0.tmps.size = true) (hkeys : vs.all (fun kv => l.any (·.dst == some kv.1)) = true) (hBg : B ≤ g0) (hBw : B ≤ w.heap.size) (h0 : ∃ cs, w.heap[g0]? = some (.cells cs T (0, 0)) ∧ cs.size = n) (hU : U.size = n)
    (H : ∀ aE, puts a0 vs = aE → (∀ (ρ : Operand → Value) (W : World) (cs : Array Value), (∀ t ∈ readsOf os, ρ (.tmp t) = aE.tmps.getD t undef) → W.heap[g0]? = some (.cells cs T (0, 0)) → cs.size = n → (execOp ρ os).run P W = .ok .skip (W.setRow g0 U)) ∧
      AllBut (CalmS P aE w B l) s s 0 l ∧ ∀ W, Below B w W → W.heap[g0]? = some (.cells U T (0, 0)) → Q .normal aE W) :
    (Code.region id l.toArray true).wp P Q a0 w := by
  obtain ⟨h1, h2, h3⟩ := H _ rfl
  refine wp_region_storeG hm hsi hBg hBw h0 hU h1 chk hkeys (fun i o t hi his hd => ?_) h3
  exact AllBut.spec l 0 h2 i o hi (by omega) (by omega) t hd
end
end Go.Proofs.Ytkhaiphipdpgeaa
/- Contracts: joins; what is made of three numbers. -/
namespace Go.Proofs.Ytkhaiphipdpgeaa
open Go.RowKit
set_option linter.unusedVariables false
set_option linter.unusedSimpArgs false
theorem nz3 {p x y z : Int} (h : nzB p [x, y, z] = false) : x % p = 0 ∧ y % p = 0 ∧ z % p = 0 := by
  unfold nzB zerosB at h
  simp at h
  exact h
theorem made_fst (p x y z : Int) : (made p x y z).1 = nrm3 p x y z := by
  unfold made
  cases h : nzB p [x, y, z] with
  | true => rfl
  | false =>
    obtain ⟨a, b, c⟩ := nz3 h
    unfold nrm3
    rw [a, b, c]
    simp
theorem crsN_in' {p : Int} {a b : Pt} (hp : prB p = true) : In13 ((crsN p a b).1, (crsN p a b).2.1, (crsN p a b).2.2) := by
  obtain ⟨h1, h2⟩ := prB_bd hp
  have k : ∀ x : Int, 0 ≤ x % p ∧ x % p ≤ 12 := fun x => ⟨Int.emod_nonneg _ (by omega), by have := Int.emod_lt_of_pos x (show 0 < p by omega); omega⟩
  exact ⟨k _, k _, k _⟩
theorem in13' {p x y z : Int} (h : ptB p x y z = true) : In13 (x, y, z) := by
  obtain ⟨hp, f1, f2, f3, _⟩ := pt_facts h
  obtain ⟨h1, h2⟩ := prB_bd hp
  exact ⟨⟨by simp only; omega, by simp only; omega⟩, ⟨by simp only; omega, by simp only; omega⟩, by simp only; omega, by simp only; omega⟩
theorem in13_far : In13 (1, 0, 0) := ⟨⟨by decide, by decide⟩, ⟨by decide, by decide⟩, by decide, by decide⟩
/-- Whether two points have a line, two lines a point. -/
def okC (p : Int) (a b : Pt) : Bool := (madeC p a b).2
theorem l01Join_any (p a0 a1 a2 b0 b1 b2 : Int) (w : World) (hp : prB p = true) (ha : In13 (a0, a1, a2)) (hb : In13 (b0, b1, b2)) :
    Calls Try.prog 37 #[.int .i64 p, ptV a0 a1 a2, ptV b0 b1 b2] w (Ret w (.tuple #[ptV (madeC p (a0, a1, a2) (b0, b1, b2)).1.1 (madeC p (a0, a1, a2) (b0, b1, b2)).1.2.1 (madeC p (a0, a1, a2) (b0, b1, b2)).1.2.2, .bool (madeC p (a0, a1, a2) (b0, b1, b2)).2])) := by
  have HC := Lib.hid (fun (W : World) => l01Cross_any p a0 a1 a2 b0 b1 b2 W hp ha hb)
  generalize madeC p (a0, a1, a2) (b0, b1, b2) = r at *
  obtain ⟨⟨u0, u1, u2⟩, c⟩ := r
  clear hp ha hb
  go_enter Try.func37, Try.ntmps37
  go_wp2_with (go_at_call 54; refine (HC.out _).mono ?_; rintro e w_ ⟨rfl, hb⟩; obtain ⟨hcb, hfb, hlb⟩ := bcell hb; have hsz := hb.size; try simp at hsz; have HB := Lib.hid hb; clear hb; try (have hl0 : w.heap.size < w_.heap.size := by omega); try (have hl1 : w.heap.size + 1 < w_.heap.size := by omega); try (have hl2 : w.heap.size + 1 + 1 < w_.heap.size := by omega))
  exact bodyPost_ret (v := .tuple #[ptV u0 u1 u2, .bool c]) (by simp [results, Try.results37, go_sem, hcb, hl0, hl1, hl2]) rfl ⟨rfl, (by repeat (first | exact Below.refl _ _ | refine bset ?_ _ _ (by omega) _ | refine bal ?_ _ | refine bdrN ?_ _ | refine bdr ?_ | refine below_tr' ?_ HB.out))⟩
theorem l01Join_crs (p a0 a1 a2 b0 b1 b2 : Int) (w : World) (hp : prB p = true) (ha : In13 (a0, a1, a2)) (hb : In13 (b0, b1, b2)) :
    Calls Try.prog 37 #[.int .i64 p, ptV a0 a1 a2, ptV b0 b1 b2] w (Ret w (.tuple #[ptV (crsN p (a0, a1, a2) (b0, b1, b2)).1 (crsN p (a0, a1, a2) (b0, b1, b2)).2.1 (crsN p (a0, a1, a2) (b0, b1, b2)).2.2, .bool (okC p (a0, a1, a2) (b0, b1, b2))])) := by
  have h := l01Join_any p a0 a1 a2 b0 b1 b2 w hp ha hb
  have e : (madeC p (a0, a1, a2) (b0, b1, b2)).1 = crsN p (a0, a1, a2) (b0, b1, b2) := made_fst _ _ _ _
  rw [e] at h
  exact h
theorem join_any (p a0 a1 a2 b0 b1 b2 : Int) (w : World) (hp : prB p = true) (ha : In13 (a0, a1, a2)) (hb : In13 (b0, b1, b2)) :
    Calls Try.prog 43 #[.int .i64 p, ptV a0 a1 a2, ptV b0 b1 b2] w (Ret w (ptV (crsN p (a0, a1, a2) (b0, b1, b2)).1 (crsN p (a0, a1, a2) (b0, b1, b2)).2.1 (crsN p (a0, a1, a2) (b0, b1, b2)).2.2)) := by
  have HC := Lib.hid (fun (W : World) => cross_any p a0 a1 a2 b0 b1 b2 W hp ha hb)
  generalize crsN p (a0, a1, a2) (b0, b1, b2) = r at *
  obtain ⟨u0, u1, u2⟩ := r
  clear hp ha hb
  go_enter Try.func43, Try.ntmps43
  go_wp2_with (go_at_call 58; refine (HC.out _).mono ?_; rintro e w_ ⟨rfl, hb⟩; obtain ⟨hcb, hfb, hlb⟩ := bcell hb; have hsz := hb.size; try simp at hsz; have HB := Lib.hid hb; clear hb; try (have hl0 : w.heap.size < w_.heap.size := by omega); try (have hl1 : w.heap.size + 1 < w_.heap.size := by omega); try (have hl2 : w.heap.size + 1 + 1 < w_.heap.size := by omega))
  exact bodyPost_ret (v := ptV u0 u1 u2) (by simp [results, Try.results43, go_sem, hcb, hl0, hl1, hl2]) rfl ⟨rfl, (by repeat (first | exact Below.refl _ _ | refine bset ?_ _ _ (by omega) _ | refine bal ?_ _ | refine bdrN ?_ _ | refine bdr ?_ | refine below_tr' ?_ HB.out))⟩
end Go.Proofs.Ytkhaiphipdpgeaa
/- Contracts: points on lines, determinants, three points of a line. -/
namespace Go.Proofs.Ytkhaiphipdpgeaa
open Go.RowKit
set_option linter.unusedVariables false
set_option linter.unusedSimpArgs false
theorem mul_sb {a d : Int} (h0 : 0 ≤ a) (h1 : a ≤ 12) (g0 : -144 ≤ d) (g1 : d ≤ 144) : -1728 ≤ a * d ∧ a * d ≤ 1728 := by
  have u1 := Int.mul_le_mul_of_nonneg_left g1 h0
  have u2 := Int.mul_le_mul_of_nonneg_left g0 h0
  omega
/-- Whole numbers' determinant of three points. -/
def detZ (a b c : Pt) : Int := a.1 * (b.2.1 * c.2.2 - b.2.2 * c.2.1) + a.2.1 * (b.2.2 * c.1 - b.1 * c.2.2) + a.2.2 * (b.1 * c.2.1 - b.2.1 * c.1)
theorem l01On_any (p a0 a1 a2 b0 b1 b2 : Int) (w : World) (hp : prB p = true) (ha : In13 (a0, a1, a2)) (hb : In13 (b0, b1, b2)) :
    Calls Try.prog 51 #[.int .i64 p, ptV a0 a1 a2, ptV b0 b1 b2] w (Ret w (.bool (onB p (a0, a1, a2) (b0, b1, b2)))) := by
  obtain ⟨⟨p0, p1⟩, ⟨p2, p3⟩, ⟨p4, p5⟩⟩ := ha
  obtain ⟨⟨q0, q1⟩, ⟨q2, q3⟩, ⟨q4, q5⟩⟩ := hb
  simp only at p0 p1 p2 p3 p4 p5 q0 q1 q2 q3 q4 q5
  obtain ⟨m1, n1⟩ := mul_bd p0 p1 q0 q1
  obtain ⟨m2, n2⟩ := mul_bd p2 p3 q2 q3
  obtain ⟨m3, n3⟩ := mul_bd p4 p5 q4 q5
  obtain ⟨h1, h2⟩ := prB_bd hp
  have hpz : (p == 0) = false := beqf (by omega)
  have HE : Hid (onB p (a0, a1, a2) (b0, b1, b2) = ((a0 * b0 + a1 * b1 + a2 * b2) % p == 0)) := Lib.hid rfl
  clear hp
  go_enter Try.func51, Try.ntmps51
  go_wp2
  go_ret
  exact ⟨ret_bool HE.out.symm, (by repeat (first | exact Below.refl _ _ | refine bset ?_ _ _ (by omega) _ | refine bal ?_ _ | refine bdrN ?_ _ | refine bdr ?_))⟩
set_option maxHeartbeats 1000000 in
theorem determinant_any (p a0 a1 a2 b0 b1 b2 c0 c1 c2 : Int) (w : World) (hp : prB p = true) (ha : In13 (a0, a1, a2)) (hb : In13 (b0, b1, b2)) (hc : In13 (c0, c1, c2)) :
    Calls Try.prog 90 #[.int .i64 p, ptV a0 a1 a2, ptV b0 b1 b2, ptV c0 c1 c2] w (Ret w (.int .i64 (detZ (a0, a1, a2) (b0, b1, b2) (c0, c1, c2) % p))) := by
  obtain ⟨⟨⟨m1, n1⟩, m2, n2⟩, ⟨⟨m3, n3⟩, m4, n4⟩, ⟨m5, n5⟩, m6, n6⟩ := crs_bd (p := p) hb hc
  obtain ⟨⟨p0, p1⟩, ⟨p2, p3⟩, ⟨p4, p5⟩⟩ := ha
  simp only at p0 p1 p2 p3 p4 p5
  obtain ⟨s1, t1⟩ := mul_sb (d := b1 * c2 - b2 * c1) p0 p1 (by omega) (by omega)
  obtain ⟨s2, t2⟩ := mul_sb (d := b0 * c2 - b2 * c0) p2 p3 (by omega) (by omega)
  obtain ⟨s3, t3⟩ := mul_sb (d := b0 * c1 - b1 * c0) p4 p5 (by omega) (by omega)
  have HE : Hid (detZ (a0, a1, a2) (b0, b1, b2) (c0, c1, c2) = a0 * (b1 * c2 - b2 * c1) - a1 * (b0 * c2 - b2 * c0) + a2 * (b0 * c1 - b1 * c0)) := Lib.hid (by
    show a0 * (b1 * c2 - b2 * c1) + a1 * (b2 * c0 - b0 * c2) + a2 * (b0 * c1 - b1 * c0) = _
    rw [show b2 * c0 - b0 * c2 = -(b0 * c2 - b2 * c0) by omega, Int.mul_neg]
    omega)
  have hpb := prB_bd hp
  rw [HE.out]
  have HM := Lib.hid (fun (W : World) => mod_any (a0 * (b1 * c2 - b2 * c1) - a1 * (b0 * c2 - b2 * c0) + a2 * (b0 * c1 - b1 * c0)) p W (by omega) (by omega) (by omega) (by omega))
  clear hp hb hc
  go_enter Try.func90, Try.ntmps90
  go_wp2_with (go_at_call 93; (with_reducible refine (HM.out _).mono ?_); rintro e w' ⟨rfl, rfl⟩)
  go_ret
  exact ⟨rfl, (by repeat (first | exact Below.refl _ _ | refine bset ?_ _ _ (by omega) _ | refine bal ?_ _ | refine bdrN ?_ _ | refine bdr ?_))⟩
end Go.Proofs.Ytkhaiphipdpgeaa
/- Contracts: three points of a line. -/
namespace Go.Proofs.Ytkhaiphipdpgeaa
open Go.RowKit
set_option linter.unusedVariables false
set_option linter.unusedSimpArgs false
/-- Three different points of one line. -/
def threeB (p : Int) (a b c : Pt) : Bool := !eqP a b && (!eqP a c && (!eqP b c && detZ a b c % p == 0))
end Go.Proofs.Ytkhaiphipdpgeaa
/- Contracts: all points of a plane. -/
namespace Go.Proofs.Ytkhaiphipdpgeaa
open Go.RowKit
set_option linter.unusedVariables false
set_option linter.unusedSimpArgs false
def ptC (a : Pt) : List Value := [.int .i64 a.1, .int .i64 a.2.1, .int .i64 a.2.2]
def ptCs (l : List Pt) : List Value := l.flatMap ptC
theorem ptCs_snoc (l : List Pt) (a : Pt) : ptCs (l ++ [a]) = ptCs l ++ ptC a := by simp [ptCs]
/-- The points with first number 0 up to the k-th; those with first number 1. -/
def pA (k : Nat) : List Pt := (0, 0, 1) :: (List.range k).map (fun z : Nat => (0, 1, (z : Int)))
def pR (n y : Nat) : List Pt := (List.range n).map (fun z : Nat => (1, (y : Int), (z : Int)))
def pB (n y : Nat) : List Pt := pA n ++ (List.range y).flatMap (pR n)
def allP (n : Nat) : List Pt := pB n n
theorem pA_succ (k : Nat) : pA (k + 1) = pA k ++ [(0, 1, (k : Int))] := by simp [pA, List.range_succ]
theorem pR_succ (n y : Nat) : pR (n + 1) y = pR n y ++ [(1, (y : Int), (n : Int))] := by simp [pR, List.range_succ]
theorem pB_succ (n y : Nat) : pB n (y + 1) = pB n y ++ pR n y := by simp [pB, List.range_succ]
theorem pA_length (k : Nat) : (pA k).length = k + 1 := by simp [pA]
theorem pR_length (n y : Nat) : (pR n y).length = n := by simp [pR]
theorem pB_length (n y : Nat) : (pB n y).length = n + 1 + y * n := by
  induction y with
  | zero => simp [pB, pA_length]
  | succ y ih => rw [pB_succ, List.length_append, ih, pR_length, Nat.succ_mul]; omega
/-- A new list of points. -/
structure PtsPost (w : World) (l : List Pt) (e : Ending) (w' : World) : Prop where
  out : ∃ v, e = .returned v ∧ w'.ownsRow w.heap.size 55 3 v l.length (ptCs l) ∧ Below w.heap.size w w'
theorem infoPo : (Try.prog.info? 55).map (fun i => (i.zero, i.size, i.bytes)) = some (some (.agg #[.int .i64 0, .int .i64 0, .int .i64 0]), 3, 24) := by kernel_rfl
theorem newP (wr : World) (x y z : Value) (T : TypeId) : ∀ (j : Nat) (u : Value), [x, y, z][j]? = some u → (wr.alloc (.cells #[x, y, z] T)).cell? ((⟨wr.heap.size, 0, none⟩ : Addr).add j) = some u := by
  intro j u hj
  have e : (wr.alloc (.cells #[x, y, z] T)).cell? ((⟨wr.heap.size, 0, none⟩ : Addr).add j) = #[x, y, z][j]? := by
    have hadd : (⟨wr.heap.size, 0, none⟩ : Addr).add j = ⟨wr.heap.size, j, none⟩ := by unfold Addr.add; split <;> simp_all
    rw [hadd, World.cell?_alloc_at _ _ _ _ rfl]
  rw [e]; simpa using hj
theorem oneP (x y z : Int) : ∀ u ∈ [Value.int .i64 x, .int .i64 y, .int .i64 z], u.oneCell' = true := by
  intro u hu
  simp only [List.mem_cons, List.not_mem_nil, or_false] at hu
  rcases hu with rfl | rfl | rfl <;> rfl
end Go.Proofs.Ytkhaiphipdpgeaa
/- Contracts: all points of a plane: the program. -/
namespace Go.Proofs.Ytkhaiphipdpgeaa
open Go.RowKit
set_option linter.unusedVariables false
set_option linter.unusedSimpArgs false
end Go.Proofs.Ytkhaiphipdpgeaa
/- Lists of points: owned, read, filtered. -/
namespace Go.Proofs.Ytkhaiphipdpgeaa
open Go.RowKit
set_option linter.unusedVariables false
set_option linter.unusedSimpArgs false
theorem ptCs_at : ∀ (l : List Pt) (i : Nat), i < l.length → (ptCs l)[i * 3]? = some (.int .i64 (l.getD i (0, 0, 0)).1) ∧ (ptCs l)[i * 3 + 1]? = some (.int .i64 (l.getD i (0, 0, 0)).2.1) ∧ (ptCs l)[i * 3 + 2]? = some (.int .i64 (l.getD i (0, 0, 0)).2.2)
  | [], i, h => by simp at h
  | a :: l, 0, _ => by simp [ptCs, ptC]
  | a :: l, i + 1, h => by
    have ih := ptCs_at l i (by simpa using h)
    have e : ∀ k, (ptCs (a :: l))[(i + 1) * 3 + k]? = (ptCs l)[i * 3 + k]? := by
      intro k
      have : ptCs (a :: l) = [.int .i64 a.1, .int .i64 a.2.1, .int .i64 a.2.2] ++ ptCs l := rfl
      rw [this, List.getElem?_append_right (by simp; omega)]
      congr 1
      simp; omega
    have e0 := e 0
    rw [Nat.add_zero, Nat.add_zero] at e0
    rw [e0, e 1, e 2]
    simpa using ih
theorem ptCs_length (l : List Pt) : (ptCs l).length = l.length * 3 := by
  induction l with
  | nil => rfl
  | cons a l ih =>
    have : ptCs (a :: l) = [.int .i64 a.1, .int .i64 a.2.1, .int .i64 a.2.2] ++ ptCs l := rfl
    rw [this, List.length_append, ih]; simp; omega
/-- An owned list of points, laid open. -/
theorem ownPts {W : World} {base : Nat} {T : TypeId} {v : Value} {l : List Pt} {n : Nat} (h : W.ownsRow base T 3 v n (ptCs l)) (hl : l.length = n) (hn : 0 < n) :
    ∃ g cap, v = .slice (some ⟨g, 0, none⟩) n cap ∧ base ≤ g ∧ g < W.heap.size ∧ PtsAt W g 0 n l := by
  rcases h.2 with ⟨_, h0⟩ | ⟨g, cap, cur, rfl, hb, hg, hle, _, hsz, htk⟩
  · exfalso
    have := ptCs_length l
    omega
  · refine ⟨g, cap, rfl, hb, (Array.getElem?_eq_some_iff.1 hg).1, fun i hi => ?_⟩
    obtain ⟨h1, h2, h3⟩ := ptCs_at l i (by omega)
    have hat : ∀ j, j < n * 3 → cur[j]? = (ptCs l)[j]? := by
      intro j hj
      rw [← htk, List.getElem?_take_of_lt (by omega)]; simp
    refine ⟨?_, ?_, ?_⟩
    · rw [cell_of_row W g _ _ _ _ hg, hat _ (by omega), Nat.zero_add]; exact h1
    · rw [cell_of_row W g _ _ _ _ hg, hat _ (by omega), Nat.zero_add]; exact h2
    · rw [cell_of_row W g _ _ _ _ hg, hat _ (by omega), Nat.zero_add]; exact h3
theorem own_low {W : World} {b b' : Nat} {T : TypeId} {size n : Nat} {v : Value} {xs : List Value} (h : W.ownsRow b T size v n xs) (hb : b' ≤ b) : W.ownsRow b' T size v n xs := by
  refine ⟨h.1, ?_⟩
  rcases h.2 with h0 | ⟨g, cap, cur, h1, h2, h3⟩
  · exact .inl h0
  · exact .inr ⟨g, cap, cur, h1, Nat.le_trans hb h2, h3⟩
/-- A point is loaded from anywhere in a block. -/
theorem calm_loadPt {P : Program} {o : Oper} {ρ : Operand → Value} {W : World} {g off : Nat} {x y z : Int} (ty : TypeId) (q : Operand) (ho : o.op = .load ty q) (hx : ρ q = .pointer (some ⟨g, off, none⟩))
    (h0 : W.cell? ⟨g, off, none⟩ = some (.int .i64 x)) (h1 : W.cell? ⟨g, off + 1, none⟩ = some (.int .i64 y)) (h2 : W.cell? ⟨g, off + 2, none⟩ = some (.int .i64 z)) (hs : ∀ W, (sizeOf ty).run P W = .ok 3 W) (ha : ∀ W, (isAgg ty).run P W = .ok true W) : calmAt P o ρ W (ptV x y z) := by
  have hl : (loadCells ⟨g, off, none⟩ 3).run P W = .ok #[.int .i64 x, .int .i64 y, .int .i64 z] W :=
    run_loadCells_list (P := P) W ⟨g, off, none⟩ [.int .i64 x, .int .i64 y, .int .i64 z] (fun j v hv => by
      have hadd : ∀ j, (⟨g, off, none⟩ : Addr).add j = ⟨g, off + j, none⟩ := by intro j; unfold Addr.add; split <;> simp_all
      rw [hadd]
      match j, hv with
      | 0, hv => simpa using h0.trans (by simpa using hv)
      | 1, hv => exact h1.trans (by simpa using hv)
      | 2, hv => exact h2.trans (by simpa using hv)
      | j + 3, hv => simp at hv)
  have hv : (loadVar ty ⟨g, off, none⟩).run P W = .ok (ptV x y z) W := by
    unfold loadVar
    rw [Sem.run_bind, ha]
    simp only [Result.andThen_ok, if_true]
    rw [Sem.run_bind, hs]
    simp only [Result.andThen_ok]
    rw [Sem.run_bind, hl]
    rfl
  refine ⟨?_⟩
  unfold calmRun execOp
  simp only [ho, hx, Instr.loadAt, Instr.sureAddr, Sem.run_bind, Sem.run_pure, Result.andThen_ok, hv, and_self]
end Go.Proofs.Ytkhaiphipdpgeaa
/- Contracts: the points on a line, in the reference. -/
namespace Go.Proofs.Ytkhaiphipdpgeaa
open Go.RowKit
set_option linter.unusedVariables false
set_option linter.unusedSimpArgs false
theorem allP_in {n : Nat} (hn : n ≤ 13) : ∀ a ∈ allP n, In13 a := by
  intro a ha
  simp only [allP, pB, pA, pR, List.mem_append, List.mem_cons, List.mem_map, List.mem_range, List.mem_flatMap] at ha
  have k : ∀ x y z : Int, 0 ≤ x → x ≤ 12 → 0 ≤ y → y ≤ 12 → 0 ≤ z → z ≤ 12 → In13 (x, y, z) := fun x y z a b c d e f => ⟨⟨a, b⟩, ⟨c, d⟩, e, f⟩
  rcases ha with (rfl | ⟨z, hz, rfl⟩) | ⟨y, hy, z, hz, rfl⟩
  · exact k _ _ _ (by omega) (by omega) (by omega) (by omega) (by omega) (by omega)
  · exact k _ _ _ (by omega) (by omega) (by omega) (by omega) (by omega) (by omega)
  · exact k _ _ _ (by omega) (by omega) (by omega) (by omega) (by omega) (by omega)
theorem allP_length (n : Nat) : (allP n).length = n + 1 + n * n := pB_length n n
theorem filter_snoc {α : Type} (f : α → Bool) (l : List α) (d : α) (k : Nat) (h : k < l.length) : (l.take (k + 1)).filter f = (l.take k).filter f ++ (if f (l.getD k d) then [l.getD k d] else []) := by
  rw [take_snoc' l d k h, List.filter_append, List.filter_cons, List.filter_nil]
theorem low_tr' {b B : Nat} {w W W' : World} (h : Below b w W) (k : Below B W W') (hb : b ≤ B) : Below b w W' :=
  ⟨k.os.trans h.os, k.tape.trans h.tape, k.output.trans h.output, Nat.le_trans h.size k.size, fun n hn => (k.block n (Nat.lt_of_lt_of_le hn hb)).trans (h.block n hn)⟩
theorem own_below {W W' : World} {b : Nat} {T : TypeId} {size n : Nat} {v : Value} {xs : List Value} (h : W.ownsRow b T size v n xs) (hb : Below W.heap.size W W') : W'.ownsRow b T size v n xs := by
  refine ⟨h.1, ?_⟩
  rcases h.2 with h0 | ⟨g, cap, cur, h1, h2, hg, h3⟩
  · exact .inl h0
  · exact .inr ⟨g, cap, cur, h1, h2, by rw [hb.block _ (Array.getElem?_eq_some_iff.1 hg).1]; exact hg, h3⟩
theorem hn_at' (w : World) (o : Obj) (n : Nat) (h : n = w.heap.size) : (w.alloc o).heap[n]? = some o := by subst h; exact heap_alloc_new w o
end Go.Proofs.Ytkhaiphipdpgeaa
/- Contracts: slices.IndexFunc over points. -/
namespace Go.Proofs.Ytkhaiphipdpgeaa
open Go.RowKit
set_option linter.unusedVariables false
set_option linter.unusedSimpArgs false
/-- The first place at which f holds; -1 if there is none. -/
def idxZ (f : Pt → Bool) (l : List Pt) : Int := match l.findIdx? f with | some i => (i : Int) | none => -1
theorem idx_at {f : Pt → Bool} {l : List Pt} {k : Nat} (h : (l.take k).any f = false) (hk : k < l.length) (hf : f (l.getD k (0, 0, 0)) = true) : idxZ f l = k := by
  unfold idxZ
  have : l.findIdx? f = some k := by
    rw [List.findIdx?_eq_some_iff_getElem]
    refine ⟨hk, by simpa [List.getD, hk] using hf, fun j hj => ?_⟩
    have := List.any_eq_false.1 h l[j] (by rw [List.mem_take_iff_getElem]; exact ⟨j, by omega, rfl⟩)
    simpa using this
  rw [this]
theorem idx_none {f : Pt → Bool} {l : List Pt} (h : l.any f = false) : idxZ f l = -1 := by
  unfold idxZ
  have : l.findIdx? f = none := by
    rw [List.findIdx?_eq_none_iff]
    intro x hx
    have := List.any_eq_false.1 h x hx
    simpa using this
  rw [this]
theorem any_snoc {f : Pt → Bool} {l : List Pt} {k : Nat} (hk : k < l.length) (h : (l.take k).any f = false) (hf : f (l.getD k (0, 0, 0)) = false) : (l.take (k + 1)).any f = false := by
  rw [take_snoc' l (0, 0, 0) k hk, List.any_append, h, List.any_cons, hf]; rfl
end Go.Proofs.Ytkhaiphipdpgeaa
/- Plain words: points on and off a line. -/
namespace Go.Proofs.Ytkhaiphipdpgeaa
set_option linter.unusedVariables false
set_option linter.unusedSimpArgs false
def planeChk (n : Nat) : Bool := (allP n).all (fun m => decide (4 ≤ ((allP n).filter (fun a => onB (n : Int) a m)).length) && (allP n).any (fun a => !onB (n : Int) a m))
theorem planeChk3 : planeChk 3 = true := by decide +kernel
theorem planeChk5 : planeChk 5 = true := by decide +kernel
theorem planeChk7 : planeChk 7 = true := by decide +kernel
theorem planeChk11 : planeChk 11 = true := by decide +kernel
theorem planeChk13 : planeChk 13 = true := by decide +kernel
theorem planeChk_of {n : Nat} (hp : prB (n : Int) = true) : planeChk n = true := by
  have h := prB_cases hp
  have : n = 3 ∨ n = 5 ∨ n = 7 ∨ n = 11 ∨ n = 13 := by omega
  rcases this with rfl | rfl | rfl | rfl | rfl
  · exact planeChk3
  · exact planeChk5
  · exact planeChk7
  · exact planeChk11
  · exact planeChk13
/-- A normal point is in the list of all. -/
theorem mem_allP {n : Nat} {x y z : Int} (h : ptB (n : Int) x y z = true) : (x, y, z) ∈ allP n := by
  obtain ⟨hp, h1, h2, h3, h4⟩ := pt_facts h
  simp only [allP, pB, pA, pR, List.mem_append, List.mem_cons, List.mem_map, List.mem_range, List.mem_flatMap]
  rcases h4 with rfl | ⟨rfl, rfl⟩ | ⟨rfl, rfl, rfl⟩
  · exact .inr ⟨y.toNat, by omega, z.toNat, by omega, by rw [Int.toNat_of_nonneg h2.1, Int.toNat_of_nonneg h3.1]⟩
  · exact .inl (.inr ⟨z.toNat, by omega, by rw [Int.toNat_of_nonneg h3.1]⟩)
  · exact .inl (.inl rfl)
/-- Each normal line has at least four points, and a point is off it. -/
theorem line_facts {n : Nat} {x y z : Int} (h : ptB (n : Int) x y z = true) :
    4 ≤ ((allP n).filter (fun a => onB (n : Int) a (x, y, z))).length ∧ ∃ a ∈ allP n, onB (n : Int) a (x, y, z) = false := by
  have hk := List.all_eq_true.1 (planeChk_of (pt_facts h).1) _ (mem_allP h)
  simp only [Bool.and_eq_true, decide_eq_true_eq, List.any_eq_true, Bool.not_eq_true'] at hk
  exact hk
end Go.Proofs.Ytkhaiphipdpgeaa
/- Plain words: what is made normal is normal; lines of two points. -/
namespace Go.Proofs.Ytkhaiphipdpgeaa
set_option linter.unusedVariables false
set_option linter.unusedSimpArgs false
theorem firstNZ_cons (a : Int) (l : List Int) : firstNZ (a :: l) = if a = 0 then firstNZ l else a := by
  unfold firstNZ
  rw [List.find?_cons]
  by_cases h : a = 0
  · have : (a != 0) = false := by simp [h]
    rw [this, if_pos h]
  · have : (a != 0) = true := by simp [h]
    rw [this, if_neg h]; rfl
/-- Three numbers, not all 0 modulo p, made normal: a point. -/
theorem nrm3_pt {p x y z : Int} (hp : prB p = true) (h : nzB p [x, y, z] = true) : ptB p (nrm3 p x y z).1 (nrm3 p x y z).2.1 (nrm3 p x y z).2.2 = true := by
  have hb := prB_bd hp
  have hx0 := Int.emod_nonneg x (show p ≠ 0 by omega)
  have hx1 := Int.emod_lt_of_pos x (show 0 < p by omega)
  have hy0 := Int.emod_nonneg y (show p ≠ 0 by omega)
  have hy1 := Int.emod_lt_of_pos y (show 0 < p by omega)
  have hz0 := Int.emod_nonneg z (show p ≠ 0 by omega)
  have hz1 := Int.emod_lt_of_pos z (show 0 < p by omega)
  have hn : ¬ (x % p = 0 ∧ y % p = 0 ∧ z % p = 0) := by
    intro ⟨a, b, c⟩
    simp [nzB, zerosB] at h
    omega
  have hf : facL p [x, y, z] = invP p (firstNZ [x % p, y % p, z % p]) := rfl
  unfold nrm3
  rw [hf]
  clear h hf
  have bd : ∀ t : Int, 0 ≤ t % p ∧ t % p ≤ p - 1 := fun t => ⟨Int.emod_nonneg _ (by omega), by have := Int.emod_lt_of_pos t (show 0 < p by omega); omega⟩
  have mk : ∀ a b c : Int, (0 ≤ a ∧ a ≤ p - 1) → (0 ≤ b ∧ b ≤ p - 1) → (0 ≤ c ∧ c ≤ p - 1) → (a = 1 ∨ (a = 0 ∧ b = 1) ∨ (a = 0 ∧ b = 0 ∧ c = 1)) → ptB p a b c = true := by
    intro a b c ha hb hc hd
    unfold ptB normB numsB
    simp only [hp, Bool.true_and, Bool.and_eq_true, List.all_cons, List.all_nil, Bool.and_true, numB_iff]
    refine ⟨?_, ha, hb, hc⟩
    rcases hd with rfl | ⟨rfl, rfl⟩ | ⟨rfl, rfl, rfl⟩ <;> rfl
  generalize x % p = a at *
  generalize y % p = b at *
  generalize z % p = c at *
  refine mk _ _ _ (bd _) (bd _) (bd _) ?_
  by_cases ha : a = 0
  · by_cases hb' : b = 0
    · have hc : c ≠ 0 := fun e => hn ⟨ha, hb', e⟩
      have e : firstNZ [a, b, c] = c := by rw [firstNZ_cons, if_pos ha, firstNZ_cons, if_pos hb', firstNZ_cons, if_neg hc]
      have hs := (invP_spec (p := p) (n := c) hp (by omega) (by omega)).2.2.1
      rw [e]; subst ha; subst hb'
      exact .inr (.inr ⟨by simp, by simp, hs⟩)
    · have e : firstNZ [a, b, c] = b := by rw [firstNZ_cons, if_pos ha, firstNZ_cons, if_neg hb']
      have hs := (invP_spec (p := p) (n := b) hp (by omega) (by omega)).2.2.1
      rw [e]; subst ha
      exact .inr (.inl ⟨by simp, hs⟩)
  · have e : firstNZ [a, b, c] = a := by rw [firstNZ_cons, if_neg ha]
    have hs := (invP_spec (p := p) (n := a) hp (by omega) (by omega)).2.2.1
    rw [e]
    exact .inl hs
end Go.Proofs.Ytkhaiphipdpgeaa
/- Plain words: two different points have a line. -/
namespace Go.Proofs.Ytkhaiphipdpgeaa
set_option linter.unusedVariables false
set_option linter.unusedSimpArgs false
def crsNz (p : Int) (a b : Pt) : Bool := (crs a b).1 % p != 0 || ((crs a b).2.1 % p != 0 || (crs a b).2.2 % p != 0)
def crsChk (n : Nat) : Bool := (allP n).all (fun a => (allP n).all (fun b => eqP a b || crsNz (n : Int) a b))
theorem crsChk3 : crsChk 3 = true := by decide +kernel
theorem crsChk5 : crsChk 5 = true := by decide +kernel
theorem crsChk7 : crsChk 7 = true := by decide +kernel
theorem crsChk11 : crsChk 11 = true := by decide +kernel
theorem crsChk13 : crsChk 13 = true := by decide +kernel
theorem crsChk_of {n : Nat} (hp : prB (n : Int) = true) : crsChk n = true := by
  have h := prB_cases hp
  have : n = 3 ∨ n = 5 ∨ n = 7 ∨ n = 11 ∨ n = 13 := by omega
  rcases this with rfl | rfl | rfl | rfl | rfl
  · exact crsChk3
  · exact crsChk5
  · exact crsChk7
  · exact crsChk11
  · exact crsChk13
/-- Two different normal points have one normal line. -/
theorem crsN_pt {n : Nat} {a b : Pt} (ha : ptB (n : Int) a.1 a.2.1 a.2.2 = true) (hb : ptB (n : Int) b.1 b.2.1 b.2.2 = true) (h : eqP a b = false) :
    ptB (n : Int) (crsN n a b).1 (crsN n a b).2.1 (crsN n a b).2.2 = true := by
  have hp := (pt_facts ha).1
  have h1 := List.all_eq_true.1 (List.all_eq_true.1 (crsChk_of hp) _ (mem_allP ha)) _ (mem_allP hb)
  have h2 : crsNz (n : Int) a b = true := by
    rw [Bool.or_eq_true] at h1
    rcases h1 with h1 | h1
    · exact absurd (h1.symm.trans h) (by decide)
    · exact h1
  refine nrm3_pt hp ?_
  unfold nzB zerosB
  unfold crsNz at h2
  simp at h2 ⊢
  omega
end Go.Proofs.Ytkhaiphipdpgeaa
/- Lists of points that are written to in place. -/
namespace Go.Proofs.Ytkhaiphipdpgeaa
open Go.RowKit
set_option linter.unusedVariables false
set_option linter.unusedSimpArgs false
/-- A block of room for points. -/
def RoomP (W : World) (g cap : Nat) (T : TypeId) : Prop := ∃ cur, W.heap[g]? = some (.cells cur T (0, 0)) ∧ cur.size = cap * 3
theorem RoomP.set {W : World} {g cap : Nat} {T : TypeId} (h : RoomP W g cap T) (j : Nat) (v : Value) : RoomP (W.setCell ⟨g, j, none⟩ v) g cap T := by
  obtain ⟨cur, hb, hs⟩ := h
  exact ⟨cur.setIfInBounds j v, by simp [World.setCell, Array.getElem?_modify, hb], by simpa using hs⟩
theorem RoomP.sets {g cap : Nat} {T : TypeId} : ∀ (vs : List Value) (o : Nat) {W : World} (h : RoomP W g cap T), RoomP (W.setCells g o vs) g cap T
  | [], _, _, h => h
  | v :: r, o, _, h => RoomP.sets r (o + 1) (h.set o v)
theorem RoomP.frozen {W : World} {g cap : Nat} {T : TypeId} (h : RoomP W g cap T) (j : Nat) : W.frozen? ⟨g, j, none⟩ = false := by
  obtain ⟨cur, hb, hs⟩ := h
  exact frozen_of_row W g j _ _ hb
theorem RoomP.some {W : World} {g cap : Nat} {T : TypeId} (h : RoomP W g cap T) (j : Nat) (hj : j < cap * 3) : (W.cell? ⟨g, j, none⟩).isSome = true := by
  obtain ⟨cur, hb, hs⟩ := h
  rw [cell_of_row W g j _ _ _ hb]
  simp [hs, hj]
theorem RoomP.below {W W' : World} {g cap : Nat} {T : TypeId} (h : RoomP W g cap T) (hb : Below W.heap.size W W') : RoomP W' g cap T := by
  obtain ⟨cur, h1, hs⟩ := h
  exact ⟨cur, by rw [hb.block _ (Array.getElem?_eq_some_iff.1 h1).1]; exact h1, hs⟩
theorem RoomP.lt {W : World} {g cap : Nat} {T : TypeId} (h : RoomP W g cap T) : g < W.heap.size := by
  obtain ⟨cur, h1, hs⟩ := h
  exact (Array.getElem?_eq_some_iff.1 h1).1
theorem roomP_own {W : World} {base : Nat} {T : TypeId} {g cap n : Nat} {xs : List Value} {b : Option Addr} (hb : b = some ⟨g, 0, none⟩) (h : W.ownsRow base T 3 (.slice b n cap) n xs) : RoomP W g cap T ∧ n ≤ cap ∧ cap ≤ maxLen := by
  subst hb
  rcases h.2 with ⟨h0, _⟩ | ⟨g', cap', cur, h1, _, hg, hle, hm, hsz, _⟩
  · cases h0
  · cases h1; exact ⟨⟨cur, hg, hsz⟩, hle, hm⟩
/-- Three stores set a point. -/
theorem pts_set {W : World} {g cap n : Nat} {T : TypeId} {L : List Pt} (hr : RoomP W g cap T) (hn : n ≤ cap) (h : PtsAt W g 0 n L) (hl : L.length = n) (i : Nat) (hi : i < n) (x y z : Int) :
    PtsAt (((W.setCell ⟨g, i * 3, none⟩ (.int .i64 x)).setCell ⟨g, i * 3 + 1, none⟩ (.int .i64 y)).setCell ⟨g, i * 3 + 2, none⟩ (.int .i64 z)) g 0 n (L.set i (x, y, z)) := by
  have ne : ∀ a b : Nat, a ≠ b → (⟨g, a, none⟩ : Addr) ≠ ⟨g, b, none⟩ := fun a b h e => h (by cases e; rfl)
  have s0 := Option.isSome_iff_exists.1 (hr.some (i * 3) (by omega))
  have s1 := Option.isSome_iff_exists.1 (hr.some (i * 3 + 1) (by omega))
  have s2 := Option.isSome_iff_exists.1 (hr.some (i * 3 + 2) (by omega))
  obtain ⟨u0, s0⟩ := s0
  obtain ⟨u1, s1⟩ := s1
  obtain ⟨u2, s2⟩ := s2
  intro j hj
  obtain ⟨c0, c1, c2⟩ := h j hj
  simp only [Nat.zero_add] at c0 c1 c2 ⊢
  by_cases e : j = i
  · subst e
    have hd : (L.set j (x, y, z)).getD j (0, 0, 0) = (x, y, z) := by simp [List.getD, hl, hj]
    rw [hd]
    refine ⟨?_, ?_, ?_⟩
    · rw [World.cell?_setCell_other _ _ _ _ (ne _ _ (by omega)), World.cell?_setCell_other _ _ _ _ (ne _ _ (by omega)), World.cell?_setCell_same _ _ _ s0]
    · rw [World.cell?_setCell_other _ _ _ _ (ne _ _ (by omega)), World.cell?_setCell_same (u := u1) _ _ _ (by rw [World.cell?_setCell_other _ _ _ _ (ne _ _ (by omega))]; exact s1)]
    · rw [World.cell?_setCell_same (u := u2) _ _ _ (by rw [World.cell?_setCell_other _ _ _ _ (ne _ _ (by omega)), World.cell?_setCell_other _ _ _ _ (ne _ _ (by omega))]; exact s2)]
  · have hd : (L.set i (x, y, z)).getD j (0, 0, 0) = L.getD j (0, 0, 0) := by simp [List.getD, List.getElem?_set_ne (Ne.symm e)]
    rw [hd]
    refine ⟨?_, ?_, ?_⟩
    · rw [World.cell?_setCell_other _ _ _ _ (ne _ _ (by omega)), World.cell?_setCell_other _ _ _ _ (ne _ _ (by omega)), World.cell?_setCell_other _ _ _ _ (ne _ _ (by omega))]; exact c0
    · rw [World.cell?_setCell_other _ _ _ _ (ne _ _ (by omega)), World.cell?_setCell_other _ _ _ _ (ne _ _ (by omega)), World.cell?_setCell_other _ _ _ _ (ne _ _ (by omega))]; exact c1
    · rw [World.cell?_setCell_other _ _ _ _ (ne _ _ (by omega)), World.cell?_setCell_other _ _ _ _ (ne _ _ (by omega)), World.cell?_setCell_other _ _ _ _ (ne _ _ (by omega))]; exact c2
/-- Points at hand and room: an owned list. -/
theorem own_of_pts {W : World} {base g cap n : Nat} {T : TypeId} {L : List Pt} (hb : base ≤ g) (hr : RoomP W g cap T) (hm : cap ≤ maxLen) (hn : n ≤ cap) (hl : L.length = n) (h : PtsAt W g 0 n L) :
    W.ownsRow base T 3 (.slice (some ⟨g, 0, none⟩) n cap) n (ptCs L) := by
  obtain ⟨cur, hg, hsz⟩ := hr
  refine ⟨by rw [ptCs_length, hl], .inr ⟨g, cap, cur, rfl, hb, hg, hn, hm, hsz, ?_⟩⟩
  apply List.ext_getElem?
  intro j
  by_cases hj : j < n * 3
  · rw [List.getElem?_take_of_lt hj]
    have hq : j / 3 < n := by omega
    obtain ⟨c0, c1, c2⟩ := h (j / 3) hq
    obtain ⟨d0, d1, d2⟩ := ptCs_at L (j / 3) (by omega)
    rw [cell_of_row W g _ _ _ _ hg, Nat.zero_add] at c0 c1 c2
    have hc : ∀ k : Nat, cur.toList[k]? = cur[k]? := by intro k; simp
    rw [hc]
    have : j = j / 3 * 3 ∨ j = j / 3 * 3 + 1 ∨ j = j / 3 * 3 + 2 := by omega
    rcases this with e | e | e <;> rw [e]
    · rw [c0, d0]
    · rw [c1, d1]
    · rw [c2, d2]
  · rw [List.getElem?_eq_none (by rw [List.length_take]; omega), List.getElem?_eq_none (by rw [ptCs_length]; omega)]
/-- Points ahead of what is set. -/
theorem pts_ahead {W : World} {g n m o : Nat} {L : List Pt} (h : PtsAt W g 0 n L) (hm : m ≤ n) (hl : L.length = n) (vs : List Value) (ho : m * 3 ≤ o) : PtsAt (W.setCells g o vs) g 0 m (L.take m) := by
  intro j hj
  obtain ⟨c0, c1, c2⟩ := h j (by omega)
  have hd : (L.take m).getD j (0, 0, 0) = L.getD j (0, 0, 0) := by simp [List.getD, List.getElem?_take_of_lt hj]
  rw [hd]
  simp only [Nat.zero_add] at c0 c1 c2 ⊢
  refine ⟨?_, ?_, ?_⟩
  · rw [World.cell?_setCells_out _ _ _ _ _ (fun _ _ => .inl (by show j * 3 < o; omega))]; exact c0
  · rw [World.cell?_setCells_out _ _ _ _ _ (fun _ _ => .inl (by show j * 3 + 1 < o; omega))]; exact c1
  · rw [World.cell?_setCells_out _ _ _ _ _ (fun _ _ => .inl (by show j * 3 + 2 < o; omega))]; exact c2
/-- 'clear' of a list of points: its cells are set to 0. -/
theorem run_clear_pts {P : Program} (w : World) (t e ty : TypeId) (ht : P.underlying t = some (.slice e)) (hv : ∀ w, (zeroValue e).run P w = .ok (.agg #[.int .i64 0, .int .i64 0, .int .i64 0]) w) (b o n c : Nat) (hn : 0 < n)
    (hc : ∀ j, j < n * 3 → (w.cell? ⟨b, o + j, none⟩).isSome = true) (hf : ∀ j, j < n * 3 → w.frozen? ⟨b, o + j, none⟩ = false) :
    (Builtin.clear_ #[t] ty #[.slice (some ⟨b, o, none⟩) n c]).run P w = .ok (.tuple #[]) (w.setCells b o (List.replicate (n * 3) (.int .i64 0))) := by
  have hzc : (Builtin.zeroCells (Value.agg #[.int .i64 0, .int .i64 0, .int .i64 0]).cells n).toList = List.replicate (n * 3) (.int .i64 0) := by
    have hcl : (Value.agg #[.int .i64 0, .int .i64 0, .int .i64 0]).cells = #[.int .i64 0, .int .i64 0, .int .i64 0] := by rfl
    rw [hcl]
    simp only [Builtin.zeroCells]
    apply List.ext_getElem
    · simp
    · intro i h1 h2
      have : i % 3 = 0 ∨ i % 3 = 1 ∨ i % 3 = 2 := by omega
      rcases this with e | e | e <;> simp [e]
  have hst := run_storeCells_cells (P := P) b o (List.replicate (n * 3) (.int .i64 0)) 0 w (by simpa using hc) (by simpa using hf) (by intro v hv'; rw [List.eq_of_mem_replicate hv']; rfl)
  simp only [Nat.add_zero] at hst
  obtain ⟨m, rfl⟩ : ∃ m, n = m + 1 := ⟨n - 1, by omega⟩
  simp [Builtin.clear_, run_underlying ht, hv, hzc, hst]
/-- What has been moved down: the first i are those kept of the first j, from j on all is as it was. -/
structure Moved (f : Pt → Bool) (all : List Pt) (i j : Nat) (L : List Pt) : Prop where
  len : L.length = all.length
  lt : i < j
  head : L.take i = (all.take j).filter f
  rest : L.drop j = all.drop j
theorem Moved.at {f : Pt → Bool} {all L : List Pt} {i j : Nat} (h : Moved f all i j L) (hj : j < all.length) : L.getD j (0, 0, 0) = all.getD j (0, 0, 0) := by
  have h0 : (L.drop j)[0]? = (all.drop j)[0]? := by rw [h.rest]
  simp at h0
  simp [List.getD, h0]
theorem Moved.keep {f : Pt → Bool} {all L : List Pt} {i j : Nat} (h : Moved f all i j L) (hj : j < all.length) (hf : f (all.getD j (0, 0, 0)) = true) : Moved f all (i + 1) (j + 1) (L.set i (all.getD j (0, 0, 0))) where
  len := by rw [List.length_set]; exact h.len
  lt := by have := h.lt; omega
  head := by
    have hi : i < L.length := by have := h.lt; have := h.len; omega
    rw [take_snoc' _ (0, 0, 0) i (by simpa using hi), List.take_set_of_le (Nat.le_refl _), h.head, filter_snoc f all (0, 0, 0) j hj, if_pos hf]
    congr 1
    simp [List.getD, hi]
  rest := by
    rw [List.drop_set, if_pos (by have := h.lt; omega)]
    have := congrArg (List.drop 1) h.rest
    simpa [List.drop_drop] using this
theorem Moved.skip {f : Pt → Bool} {all L : List Pt} {i j : Nat} (h : Moved f all i j L) (hj : j < all.length) (hf : f (all.getD j (0, 0, 0)) = false) : Moved f all i (j + 1) L where
  len := h.len
  lt := by have := h.lt; omega
  head := by rw [h.head, filter_snoc f all (0, 0, 0) j hj, if_neg (by rw [hf]; decide), List.append_nil]
  rest := by
    have := congrArg (List.drop 1) h.rest
    simpa [List.drop_drop] using this
theorem Moved.start {f : Pt → Bool} {all : List Pt} {i : Nat} (hi : i < all.length) (h0 : ∀ a ∈ all.take i, f a = true) (hf : f (all.getD i (0, 0, 0)) = false) : Moved f all i (i + 1) all where
  len := rfl
  lt := by omega
  head := by rw [filter_snoc f all (0, 0, 0) i hi, if_neg (by rw [hf]; decide), List.append_nil, List.filter_eq_self.2 h0]
  rest := rfl
theorem Moved.done {f : Pt → Bool} {all L : List Pt} {i : Nat} (h : Moved f all i all.length L) : L.take i = all.filter f := by rw [h.head, List.take_length]
theorem Moved.cnt {f : Pt → Bool} {all L : List Pt} {i : Nat} (h : Moved f all i all.length L) : i = (all.filter f).length := by
  rw [← h.done, List.length_take, h.len]; have := h.lt; omega
/-- What IndexFunc tells. -/
theorem idxZ_cases (f : Pt → Bool) (l : List Pt) : (idxZ f l = -1 ∧ ∀ a ∈ l, f a = false) ∨ ∃ k, k < l.length ∧ idxZ f l = (k : Int) ∧ f (l.getD k (0, 0, 0)) = true ∧ ∀ a ∈ l.take k, f a = false := by
  unfold idxZ
  cases h : l.findIdx? f with
  | none => exact .inl ⟨rfl, fun a ha => by simpa using (List.findIdx?_eq_none_iff.1 h) a ha⟩
  | some k =>
    obtain ⟨hk, h1, h2⟩ := List.findIdx?_eq_some_iff_getElem.1 h
    refine .inr ⟨k, hk, rfl, by simpa [List.getD, hk] using h1, fun a ha => ?_⟩
    obtain ⟨j, hj, e⟩ := List.mem_take_iff_getElem.1 ha
    have := h2 j (by omega)
    rw [← e]; simpa using this
end Go.Proofs.Ytkhaiphipdpgeaa
/- Contracts: slices.DeleteFunc over points. -/
namespace Go.Proofs.Ytkhaiphipdpgeaa
open Go.RowKit
set_option linter.unusedVariables false
set_option linter.unusedSimpArgs false
theorem RoomP.alloc {W : World} {g cap : Nat} {T : TypeId} (h : RoomP W g cap T) (o : Obj) : RoomP (W.alloc o) g cap T := by
  have hl := h.lt
  obtain ⟨cur, h1, hs⟩ := h
  exact ⟨cur, by rw [heap_alloc_old]; exact h1; exact hl, hs⟩
/-- An owned list of points, again. -/
def OwnPost (b : Nat) (w : World) (l : List Pt) (e : Ending) (w' : World) : Prop :=
  ∃ v, e = .returned v ∧ w'.ownsRow b 55 3 v l.length (ptCs l) ∧ Below b w w'
end Go.Proofs.Ytkhaiphipdpgeaa
/- Plain words: sets of numbers modulo n; difference sets. -/
namespace Go.Proofs.Ytkhaiphipdpgeaa
set_option linter.unusedVariables false
set_option linter.unusedSimpArgs false
/-- The i-th number is a rest and greater than the one ahead. -/
def okI (n : Int) (l : List Int) (i : Nat) : Bool := decide (0 ≤ l.getD i 0 ∧ l.getD i 0 ≤ n - 1) && (i == 0 || decide (l.getD (i - 1) 0 < l.getD i 0))
def okB (n : Int) (l : List Int) : Bool := (List.range l.length).all (okI n l)
/-- A set of numbers modulo n. -/
def setB (n : Int) (l : List Int) : Bool := decide (2 ≤ n ∧ n ≤ 1000) && (decide (l.length ≤ 60) && okB n l)
theorem okB_all {n : Int} {l : List Int} (h : ∀ i, i < l.length → okI n l i = true) : okB n l = true := List.all_eq_true.2 fun i hi => h i (List.mem_range.1 hi)
theorem okB_bad {n : Int} {l : List Int} {i : Nat} (hi : i < l.length) (h : okI n l i = false) : okB n l = false := by
  cases e : okB n l with
  | false => rfl
  | true => have := List.all_eq_true.1 e i (List.mem_range.2 hi); rw [h] at this; cases this
theorem okB_at {n : Int} {l : List Int} (h : okB n l = true) {i : Nat} (hi : i < l.length) : 0 ≤ l.getD i 0 ∧ l.getD i 0 ≤ n - 1 := by
  have := List.all_eq_true.1 h i (List.mem_range.2 hi)
  unfold okI at this
  simp only [Bool.and_eq_true, decide_eq_true_eq] at this
  exact this.1
theorem setB_yes {n : Int} {l : List Int} (h : setB n l = true) : (2 ≤ n ∧ n ≤ 1000) ∧ l.length ≤ 60 ∧ okB n l = true := by
  unfold setB at h
  simpa using h
/-- One more at a place. -/
def bump (c : List Int) (i : Nat) : List Int := c.set i (c.getD i 0 + 1)
def dif (n : Int) (l : List Int) (i k : Nat) : Nat := ((l.getD i 0 - l.getD k 0) % n).toNat
def rowC (n : Int) (l : List Int) (i : Nat) (c : List Int) (k : Nat) : List Int := (List.range k).foldl (fun c k => bump c (dif n l i k)) c
def cntC (n : Int) (l : List Int) (i : Nat) : List Int := (List.range i).foldl (fun c i => rowC n l i c l.length) (List.replicate n.toNat 0)
theorem rowC_zero (n : Int) (l : List Int) (i : Nat) (c : List Int) : rowC n l i c 0 = c := rfl
theorem rowC_succ (n : Int) (l : List Int) (i : Nat) (c : List Int) (k : Nat) : rowC n l i c (k + 1) = bump (rowC n l i c k) (dif n l i k) := by
  unfold rowC; rw [List.range_succ, List.foldl_append]; rfl
theorem cntC_succ (n : Int) (l : List Int) (i : Nat) : cntC n l (i + 1) = rowC n l i (cntC n l i) l.length := by
  unfold cntC; rw [List.range_succ, List.foldl_append]; rfl
theorem bump_length (c : List Int) (i : Nat) : (bump c i).length = c.length := by simp [bump]
theorem rowC_length (n : Int) (l : List Int) (i : Nat) (c : List Int) (k : Nat) : (rowC n l i c k).length = c.length := by
  induction k with
  | zero => rfl
  | succ k ih => rw [rowC_succ, bump_length, ih]
theorem cntC_length (n : Int) (l : List Int) (i : Nat) : (cntC n l i).length = n.toNat := by
  induction i with
  | zero => simp [cntC]
  | succ i ih => rw [cntC_succ, rowC_length, ih]
def within0 (c : List Int) (B : Int) : Prop := ∀ j, 0 ≤ c.getD j 0 ∧ c.getD j 0 ≤ B
theorem bump_bd {c : List Int} {B : Int} (h : within0 c B) (i : Nat) : within0 (bump c i) (B + 1) := by
  intro j
  have hj := h j
  have hi := h i
  unfold bump
  by_cases e : i = j
  · subst e
    by_cases hl : i < c.length
    · simp [List.getD, hl] at hj ⊢; omega
    · simp [List.getD, Nat.le_of_not_lt hl] at hj ⊢; omega
  · simp only [List.getD, List.getElem?_set_ne e] at hj ⊢
    omega
theorem rowC_bd {n : Int} {l : List Int} {i : Nat} {c : List Int} {B : Int} (h : within0 c B) (k : Nat) : within0 (rowC n l i c k) (B + k) := by
  induction k with
  | zero => simpa [rowC_zero] using h
  | succ k ih => rw [rowC_succ]; have := bump_bd ih (dif n l i k); rw [show B + ((k + 1 : Nat) : Int) = B + k + 1 by omega]; exact this
theorem cntC_bd {n : Int} {l : List Int} (hl : l.length ≤ 60) (i : Nat) : within0 (cntC n l i) (60 * i) := by
  induction i with
  | zero =>
    intro j
    by_cases hj : j < n.toNat
    · simp [cntC, List.getD, hj]
    · have e : (List.replicate n.toNat (0 : Int))[j]? = none := List.getElem?_eq_none (by simp; omega)
      simp [cntC, List.getD, e]
  | succ i ih =>
    rw [cntC_succ]
    intro j
    have := rowC_bd (n := n) (l := l) (i := i) ih l.length j
    omega
/-- Whether each difference but 0 comes up once. -/
def onesB (c : List Int) : Bool := (List.range (c.length - 1)).all (fun d => c.getD (d + 1) 0 == 1)
theorem onesB_all {c : List Int} (h : ∀ d, d < c.length - 1 → (c.getD (d + 1) 0 == 1) = true) : onesB c = true := List.all_eq_true.2 fun d hd => h d (List.mem_range.1 hd)
theorem onesB_bad {c : List Int} {d : Nat} (hd : d < c.length - 1) (h : (c.getD (d + 1) 0 == 1) = false) : onesB c = false := by
  cases e : onesB c with
  | false => rfl
  | true => have := List.all_eq_true.1 e d (List.mem_range.2 hd); rw [h] at this; cases this
/-- What both programs answer. -/
def diffR (n : Int) (l : List Int) : Bool × Int := if setB n l = true then (onesB (cntC n l l.length), 0) else (false, 2)
end Go.Proofs.Ytkhaiphipdpgeaa
/- Contracts: the laws' own helpers on slices. -/
namespace Go.Proofs.Ytkhaiphipdpgeaa
open Go.RowKit
set_option linter.unusedVariables false
set_option linter.unusedSimpArgs false
/-- How much room the laws leave behind a list of n. -/
def roomN (n : Nat) : Nat := if n % 6 = 5 then 0 else if n % 3 = 0 then 1 else n
theorem roomBehind_any (n : Nat) (w : World) (hn : n ≤ 1000000) :
    Calls Try.prog 28 #[.int .i64 (n : Int)] w fun e w' => e = .returned (.int .i64 (roomN n : Int)) ∧ w = w' := by
  by_cases h6 : n % 6 = 5
  · have HR : Hid (roomN n = 0) := Lib.hid (by unfold roomN; rw [if_pos h6])
    go_enter Try.func28, Try.ntmps28
    go_wp2
    go_ret
    exact ⟨by first | rfl | (rw [HR.out]; rfl), rfl⟩
  · by_cases h3 : n % 3 = 0
    · have HR : Hid (roomN n = 1) := Lib.hid (by unfold roomN; rw [if_neg h6, if_pos h3])
      go_enter Try.func28, Try.ntmps28
      go_wp2
      go_ret
      exact ⟨by first | rfl | (rw [HR.out]; rfl), rfl⟩
    · have HR : Hid (roomN n = n) := Lib.hid (by unfold roomN; rw [if_neg h6, if_neg h3])
      go_enter Try.func28, Try.ntmps28
      go_wp2
      go_ret
      exact ⟨by first | rfl | (rw [HR.out]; rfl), rfl⟩
end Go.Proofs.Ytkhaiphipdpgeaa
/- Contracts: the laws' own lists of numbers: made with room behind, compared. -/
namespace Go.Proofs.Ytkhaiphipdpgeaa
open Go.RowKit
set_option linter.unusedVariables false
set_option linter.unusedSimpArgs false
def IntsAt (w : World) (b o n : Nat) (l : List Int) : Prop := ∀ i, i < n → w.cell? ⟨b, o + i, none⟩ = some (.int .i64 (l.getD i 0))
theorem IntsAt.below {w w1 : World} {b o n : Nat} {l : List Int} (h : IntsAt w b o n l) (hb : Below w.heap.size w w1) : IntsAt w1 b o n l := fun i hi => cell_below hb (h i hi)
/-- A block of room for numbers. -/
def RoomI (W : World) (g cap : Nat) (T : TypeId) : Prop := ∃ cur, W.heap[g]? = some (.cells cur T (0, 0)) ∧ cur.size = cap
theorem RoomI.set {W : World} {g cap : Nat} {T : TypeId} (h : RoomI W g cap T) (j : Nat) (v : Value) : RoomI (W.setCell ⟨g, j, none⟩ v) g cap T := by
  obtain ⟨cur, hb, hs⟩ := h
  exact ⟨cur.setIfInBounds j v, by simp [World.setCell, Array.getElem?_modify, hb], by simpa using hs⟩
theorem RoomI.frozen {W : World} {g cap : Nat} {T : TypeId} (h : RoomI W g cap T) (j : Nat) : W.frozen? ⟨g, j, none⟩ = false := by
  obtain ⟨cur, hb, hs⟩ := h
  exact frozen_of_row W g j _ _ hb
theorem RoomI.some {W : World} {g cap : Nat} {T : TypeId} (h : RoomI W g cap T) (j : Nat) (hj : j < cap) : (W.cell? ⟨g, j, none⟩).isSome = true := by
  obtain ⟨cur, hb, hs⟩ := h
  rw [cell_of_row W g j _ _ _ hb]
  simp [hs, hj]
theorem RoomI.below {W W' : World} {g cap : Nat} {T : TypeId} (h : RoomI W g cap T) (hb : Below W.heap.size W W') : RoomI W' g cap T := by
  obtain ⟨cur, h1, hs⟩ := h
  exact ⟨cur, by rw [hb.block _ (Array.getElem?_eq_some_iff.1 h1).1]; exact h1, hs⟩
theorem RoomI.lt {W : World} {g cap : Nat} {T : TypeId} (h : RoomI W g cap T) : g < W.heap.size := by
  obtain ⟨cur, h1, hs⟩ := h
  exact (Array.getElem?_eq_some_iff.1 h1).1
theorem ints_set {W : World} {g cap n : Nat} {T : TypeId} {L : List Int} (hr : RoomI W g cap T) (hn : n ≤ cap) (h : IntsAt W g 0 n L) (hl : L.length = n) (i : Nat) (hi : i < n) (x : Int) :
    IntsAt (W.setCell ⟨g, i, none⟩ (.int .i64 x)) g 0 n (L.set i x) := by
  obtain ⟨u0, s0⟩ := Option.isSome_iff_exists.1 (hr.some i (by omega))
  intro j hj
  have c0 := h j hj
  simp only [Nat.zero_add] at c0 ⊢
  by_cases e : j = i
  · subst e
    have hd : (L.set j x).getD j 0 = x := by simp [List.getD, hl, hj]
    rw [hd, World.cell?_setCell_same _ _ _ s0]
  · have hd : (L.set i x).getD j 0 = L.getD j 0 := by simp [List.getD, List.getElem?_set_ne (Ne.symm e)]
    rw [hd, World.cell?_setCell_other _ _ _ _ (fun h => e (by cases h; rfl))]; exact c0
theorem ints_other {W : World} {b o n : Nat} {l : List Int} (h : IntsAt W b o n l) {g i : Nat} (hg : b ≠ g) (v : Value) : IntsAt (W.setCell ⟨g, i, none⟩ v) b o n l := fun j hj => by
  rw [World.cell?_setCell_other _ _ _ _ (fun h => hg (by cases h; rfl))]; exact h j hj
theorem madeI {m j : Nat} (h : j < m) : (madeCells #[.int .i64 0] m)[j]? = some (.int .i64 0) := by simp [madeCells, h, Nat.mod_one]
/-- 'make' of m numbers: a new block, all 0. -/
theorem wpList_make_ints {P : Program} (w : World) {ops : Array Oper} {rest : List Oper} {o : Oper} {a : Act} {Q : Exit → Act → World → Prop}
    (hg : o.guard = none) (l c : Operand) (t : TypeId) (hop : o.op = Op.makeSlice t l c)
    (e : TypeId) (i : TypeInfo) (ht : P.underlying t = some (.slice e)) (hi : P.info? e = some i) (hz : i.zero = some (.int .i64 0)) (hs : i.size = 1)
    (kl kc : IntKind) (m : Nat) (C : Int) (hC : C = (m : Int)) (hl : a.eval l = .int kl C) (hc : a.eval c = .int kc C) (hbytes : i.bytes * m ≤ 281474976710656) (h63 : m ≤ 9223372036854775807)
    (hK : ∀ W', Below w.heap.size w W' → RoomI W' w.heap.size m e → IntsAt W' w.heap.size 0 m (List.replicate m 0) → w.heap.size < W'.heap.size → wpList P ops Q rest (a.put o.dst (.slice (some ⟨w.heap.size, 0, none⟩) m m)) W') :
    wpList P ops Q (o :: rest) a w := by
  subst hC
  refine wpList_plain hg fun K hK' => ?_
  have hb' : (i.bytes : Int) * (m : Int) ≤ 281474976710656 := by
    have h : ((i.bytes * m : Nat) : Int) ≤ 281474976710656 := by omega
    rwa [Int.natCast_mul] at h
  have hr := run_make (P := P) w t e i _ ht hi hz kl kc m m (by omega) (Int.le_refl _) hb' (by omega)
  have hcl : (Value.int .i64 0).cells = #[.int .i64 0] := by rfl
  rw [hcl, hs, Int.toNat_natCast, Nat.mul_one] at hr
  unfold Oper.wp
  simp [execOp, hop, hl, hc, hr, Result.andThen]
  refine hK' _ _ (hK _ ((Below.refl _ _).alloc (Nat.le_refl _) _) ⟨_, heap_alloc_new _ _, by simp [madeCells]⟩ (fun j hj => ?_) (by simp))
  have hd : (List.replicate m (0 : Int)).getD j 0 = 0 := by simp [List.getD, hj]
  rw [hd, Nat.zero_add, World.cell?_alloc_at _ _ _ _ rfl]
  exact madeI hj
theorem infoI : (Try.prog.info? 2).map (fun i => (i.zero, i.size, i.bytes)) = some (some (.int .i64 0), 1, 8) := by kernel_rfl
def fillI : Int := -7000000000000000101
def withRoomI (l : List Int) : List Int := l ++ List.replicate (roomN l.length) fillI
structure LaidI (w : World) (l : List Int) (e : Ending) (w' : World) : Prop where
  out : ∃ g, e = .returned (.slice (some ⟨g, 0, none⟩) l.length (l.length + roomN l.length)) ∧ w.heap.size ≤ g ∧ RoomI w' g (l.length + roomN l.length) 2 ∧ IntsAt w' g 0 (l.length + roomN l.length) (withRoomI l) ∧ Below w.heap.size w w'
theorem roomN_le (n : Nat) : roomN n ≤ n + 1 := by
  unfold roomN
  split
  · omega
  · split <;> omega
theorem take_setI {L l : List Int} {k : Nat} {a : Int} (h : L.take k = l.take k) (hk : k < L.length) (hk' : k < l.length) (ha : l.getD k 0 = a) : (L.set k a).take (k + 1) = l.take (k + 1) := by
  rw [take_snoc' _ 0 k (by simpa using hk), take_snoc' l 0 k hk', List.take_set_of_le (Nat.le_refl _), h, ha]
  congr 1
  simp [List.getD, hk]
theorem withRoomI_length (l : List Int) : (withRoomI l).length = l.length + roomN l.length := by simp [withRoomI]
theorem withRoomI_take (l : List Int) : (withRoomI l).take l.length = l := by simp [withRoomI]
theorem withRoomI_fill (l : List Int) (k : Nat) (h : l.length ≤ k) (h2 : k < l.length + roomN l.length) : (withRoomI l).getD k 0 = fillI := by
  have hj : k - l.length < roomN l.length := by omega
  simp [withRoomI, List.getD, List.getElem?_append_right h, hj]
theorem withRoomI_at (l : List Int) (k : Nat) (h : k < l.length) : (withRoomI l).getD k 0 = l.getD k 0 := by
  simp [withRoomI, List.getD, List.getElem?_append_left h]
set_option maxHeartbeats 2000000 in
theorem toInt64S_any (b : Option Addr) (n cap : Nat) (bare : Bool) (l : List Int) (w : World) (hl : l.length = n) (hn : n ≤ 1000000) (hb : bare = false ∨ 0 < n)
    (hc : 0 < n → ∃ g off, b = some ⟨g, off, none⟩ ∧ IntsAt w g off n l) :
    Calls Try.prog 9 #[.slice b n cap, .bool bare] w (LaidI w l) := by
  obtain ⟨i0, hi, hz0, hz1, hz2⟩ := info_parts infoI
  have HR := Lib.hid (fun (W : World) => roomBehind_any n W hn)
  have HL := Lib.hid hl
  have HC := Lib.hid hc
  have HI0 := Lib.hid hi; have HZ0 := Lib.hid hz0; have HZ1 := Lib.hid hz1; have HZ2 := Lib.hid hz2
  have hr0 := roomN_le n
  have HT := Lib.hid (withRoomI_length l)
  have HF := Lib.hid (withRoomI_fill l)
  have HA := Lib.hid (withRoomI_at l)
  rw [hl] at HT HF HA
  have HG : Hid (∀ L : List Int, L.length = n + roomN n → L.take (n + roomN n) = (withRoomI l).take (n + roomN n) → L = withRoomI l) := Lib.hid (fun L h1 h2 => by
    rw [List.take_of_length_le (by omega), List.take_of_length_le (by rw [HT.out]; omega)] at h2; exact h2)
  clear hi hz0 hz1 hz2 hl hc
  have fin : ∀ e w', (∃ g, e = .returned (.slice (some ⟨g, 0, none⟩) n (n + roomN n)) ∧ w.heap.size ≤ g ∧ RoomI w' g (n + roomN n) 2 ∧ IntsAt w' g 0 (n + roomN n) (withRoomI l) ∧ Below w.heap.size w w') → LaidI w l e w' := by
    intro e w' h
    refine ⟨?_⟩
    rw [HL.out]; exact h
  have FIN := Lib.hid fin
  clear fin
  generalize hM : withRoomI l = M at *
  generalize hr : roomN n = r at *
  generalize hm : n + r = m at *
  have hnm : n ≤ m := by omega
  have hm2 : m ≤ 2 * n + 1 := by omega
  have hcond : (n : Int) = 0 → bare = false := by
    intro h
    rcases hb with h2 | h2
    · exact h2
    · omega
  clear hr hb hM
  have HMm := hm
  by_cases h0 : bare = true ∧ n = 0
  · exfalso
    have := hcond (by omega)
    rw [h0.1] at this; cases this
  clear hcond
  cases bare with
  | false =>
    clear h0
    go_enter Try.func9, Try.ntmps9
    go_wp2_with (first
      | (go_at_call 28; refine (HR.out _).mono ?_; rintro e w' ⟨rfl, rfl⟩)
      | (refine wpList_make_ints _ rfl _ _ 22 rfl 2 i0 Try.underlying22 HI0.out HZ0.out HZ1.out .i64 .i64 m _ (by omega) rfl rfl (by rw [HZ2.out]; omega) (by omega) ?_; intro w1 hb1 hr1 hp1 hl1; have HB1 := Lib.hid hb1; have HR1 := Lib.hid hr1; have HP1 := Lib.hid hp1; clear hb1 hr1 hp1))
    go_loopw [6] (fun i wr => ∃ (k : Nat) (L : List Int), k ≤ n ∧ i = .int .i64 k ∧ Hid (L.length = m ∧ L.take k = M.take k) ∧ Hid (RoomI wr w.heap.size m 2) ∧ Hid (IntsAt wr w.heap.size 0 m L) ∧ Hid (Below w.heap.size w wr)) (fun i wr => n - (intOf i).toNat)
    case atStart => exact ⟨0, _, Nat.zero_le _, rfl, Lib.hid ⟨by simp, by simp⟩, HR1, HP1, HB1⟩
    case round =>
      obtain ⟨k, L, hk, rfl, HL1, HRo, HPt, HB⟩ := hrel
      by_cases hlt : k < n
      · obtain ⟨g, off, rfl, hpt⟩ := HC.out (by omega)
        have c0 := hpt k hlt
        have hgl : g < w.heap.size := World.block_lt_of_cell? w _ c0
        have c0' : wr.cell? ⟨g, off + k, none⟩ = some (.int .i64 (l.getD k 0)) := (HB.out.cell hgl).trans c0
        have HS := Lib.hid (take_setI HL1.out.2 (by have := HL1.out.1; omega) (by have := HT.out; omega) (HA.out k hlt))
        generalize l.getD k 0 = x at *
        obtain ⟨u0, s0⟩ := Option.isSome_iff_exists.1 (HRo.out.some k (by omega))
        have f0 := HRo.out.frozen k
        have hwl := HRo.out.lt
        clear c0 hpt
        go_wp2
        go_roundw
        case rel => exact ⟨k + 1, L.set k x, by omega, by go_num, Lib.hid ⟨by rw [List.length_set]; exact HL1.out.1, HS.out⟩, Lib.hid (HRo.out.set _ _), Lib.hid (ints_set HRo.out (Nat.le_refl _) HPt.out HL1.out.1 k (by omega) x), Lib.hid (HB.out.setCell (Nat.le_refl _) _)⟩
        case measure => simp [intOf]; omega
      · have hkn : k = n := by omega
        subst hkn
        go_wp2
        go_loopw [7] (fun i wr => ∃ (j : Nat) (L : List Int), k ≤ j ∧ j ≤ m ∧ i = .int .i64 j ∧ Hid (L.length = m ∧ L.take j = M.take j) ∧ Hid (RoomI wr w.heap.size m 2) ∧ Hid (IntsAt wr w.heap.size 0 m L) ∧ Hid (Below w.heap.size w wr)) (fun i wr => m - (intOf i).toNat)
        case atStart => exact ⟨k, L, Nat.le_refl _, by omega, rfl, HL1, HRo, HPt, HB⟩
        case round =>
          clear HL1 HRo HPt HB hlt hk
          obtain ⟨j, L, hkj, hj, rfl, HL1, HRo, HPt, HB⟩ := hrel
          by_cases hlt : j < m
          · have HS := Lib.hid (take_setI HL1.out.2 (by have := HL1.out.1; omega) (by have := HT.out; omega) (HF.out j hkj hlt))
            obtain ⟨u0, s0⟩ := Option.isSome_iff_exists.1 (HRo.out.some j (by omega))
            have f0 := HRo.out.frozen j
            have hwl := HRo.out.lt
            go_wp2
            go_roundw
            case rel => exact ⟨j + 1, L.set j fillI, by omega, by omega, by go_num, Lib.hid ⟨by rw [List.length_set]; exact HL1.out.1, HS.out⟩, Lib.hid (HRo.out.set _ _), Lib.hid (ints_set HRo.out (Nat.le_refl _) HPt.out HL1.out.1 j (by omega) fillI), Lib.hid (HB.out.setCell (Nat.le_refl _) _)⟩
            case measure => simp [intOf]; omega
          · have hjn : j = m := by omega
            subst hjn
            go_wp2
            go_ret
            have hE := HG.out L HL1.out.1 HL1.out.2
            exact FIN.out _ _ ⟨w.heap.size, rfl, Nat.le_refl _, HRo.out, by rw [← hE]; exact HPt.out, HB.out⟩
  | true =>
    have hn0 : 0 < n := by
      rcases Nat.eq_zero_or_pos n with h | h
      · exact (h0 ⟨rfl, h⟩).elim
      · exact h
    have hnz : ((n : Int) == 0) = false := by simp; omega
    clear h0
    go_enter Try.func9, Try.ntmps9
    go_wp2_with (first
      | (go_at_call 28; refine (HR.out _).mono ?_; rintro e w' ⟨rfl, rfl⟩)
      | (refine wpList_make_ints _ rfl _ _ 22 rfl 2 i0 Try.underlying22 HI0.out HZ0.out HZ1.out .i64 .i64 m _ (by omega) rfl rfl (by rw [HZ2.out]; omega) (by omega) ?_; intro w1 hb1 hr1 hp1 hl1; have HB1 := Lib.hid hb1; have HR1 := Lib.hid hr1; have HP1 := Lib.hid hp1; clear hb1 hr1 hp1))
    go_loopw [6] (fun i wr => ∃ (k : Nat) (L : List Int), k ≤ n ∧ i = .int .i64 k ∧ Hid (L.length = m ∧ L.take k = M.take k) ∧ Hid (RoomI wr w.heap.size m 2) ∧ Hid (IntsAt wr w.heap.size 0 m L) ∧ Hid (Below w.heap.size w wr)) (fun i wr => n - (intOf i).toNat)
    case atStart => exact ⟨0, _, Nat.zero_le _, rfl, Lib.hid ⟨by simp, by simp⟩, HR1, HP1, HB1⟩
    case round =>
      obtain ⟨k, L, hk, rfl, HL1, HRo, HPt, HB⟩ := hrel
      by_cases hlt : k < n
      · obtain ⟨g, off, rfl, hpt⟩ := HC.out (by omega)
        have c0 := hpt k hlt
        have hgl : g < w.heap.size := World.block_lt_of_cell? w _ c0
        have c0' : wr.cell? ⟨g, off + k, none⟩ = some (.int .i64 (l.getD k 0)) := (HB.out.cell hgl).trans c0
        have HS := Lib.hid (take_setI HL1.out.2 (by have := HL1.out.1; omega) (by have := HT.out; omega) (HA.out k hlt))
        generalize l.getD k 0 = x at *
        obtain ⟨u0, s0⟩ := Option.isSome_iff_exists.1 (HRo.out.some k (by omega))
        have f0 := HRo.out.frozen k
        have hwl := HRo.out.lt
        clear c0 hpt
        go_wp2
        go_roundw
        case rel => exact ⟨k + 1, L.set k x, by omega, by go_num, Lib.hid ⟨by rw [List.length_set]; exact HL1.out.1, HS.out⟩, Lib.hid (HRo.out.set _ _), Lib.hid (ints_set HRo.out (Nat.le_refl _) HPt.out HL1.out.1 k (by omega) x), Lib.hid (HB.out.setCell (Nat.le_refl _) _)⟩
        case measure => simp [intOf]; omega
      · have hkn : k = n := by omega
        subst hkn
        go_wp2
        go_loopw [7] (fun i wr => ∃ (j : Nat) (L : List Int), k ≤ j ∧ j ≤ m ∧ i = .int .i64 j ∧ Hid (L.length = m ∧ L.take j = M.take j) ∧ Hid (RoomI wr w.heap.size m 2) ∧ Hid (IntsAt wr w.heap.size 0 m L) ∧ Hid (Below w.heap.size w wr)) (fun i wr => m - (intOf i).toNat)
        case atStart => exact ⟨k, L, Nat.le_refl _, by omega, rfl, HL1, HRo, HPt, HB⟩
        case round =>
          clear HL1 HRo HPt HB hlt hk
          obtain ⟨j, L, hkj, hj, rfl, HL1, HRo, HPt, HB⟩ := hrel
          by_cases hlt : j < m
          · have HS := Lib.hid (take_setI HL1.out.2 (by have := HL1.out.1; omega) (by have := HT.out; omega) (HF.out j hkj hlt))
            obtain ⟨u0, s0⟩ := Option.isSome_iff_exists.1 (HRo.out.some j (by omega))
            have f0 := HRo.out.frozen j
            have hwl := HRo.out.lt
            go_wp2
            go_roundw
            case rel => exact ⟨j + 1, L.set j fillI, by omega, by omega, by go_num, Lib.hid ⟨by rw [List.length_set]; exact HL1.out.1, HS.out⟩, Lib.hid (HRo.out.set _ _), Lib.hid (ints_set HRo.out (Nat.le_refl _) HPt.out HL1.out.1 j (by omega) fillI), Lib.hid (HB.out.setCell (Nat.le_refl _) _)⟩
            case measure => simp [intOf]; omega
          · have hjn : j = m := by omega
            subst hjn
            go_wp2
            go_ret
            have hE := HG.out L HL1.out.1 HL1.out.2
            exact FIN.out _ _ ⟨w.heap.size, rfl, Nat.le_refl _, HRo.out, by rw [← hE]; exact HPt.out, HB.out⟩
theorem toInt64S_nil (cap : Nat) (b : Option Addr) (w : World) : Calls Try.prog 9 #[.slice b 0 cap, .bool true] w fun e w' => e = .returned (.slice none 0 0) ∧ w = w' := by
  go_enter Try.func9, Try.ntmps9
  go_wp2
  go_ret
  exact ⟨rfl, rfl⟩
theorem eqInt64S_same (g g2 n cap cap2 : Nat) (l : List Int) (w : World) (hn : n ≤ 4611686018427387904) (h1 : IntsAt w g 0 n l) (h2 : IntsAt w g2 0 n l) :
    Calls Try.prog 11 #[.slice (some ⟨g, 0, none⟩) n cap, .slice (some ⟨g2, 0, none⟩) n cap2] w (Ret w (.bool true)) := by
  have H1 := Lib.hid h1
  have H2 := Lib.hid h2
  clear h1 h2
  go_enter Try.func11, Try.ntmps11
  go_wp2
  go_loopw [5] (fun i wr => ∃ k : Nat, k ≤ n ∧ i = .int .i64 k ∧ Hid (Below w.heap.size w wr)) (fun i wr => n - (intOf i).toNat)
  case atStart => exact ⟨0, Nat.zero_le _, rfl, Lib.hid (Below.refl _ _)⟩
  case round =>
    obtain ⟨k, hk, rfl, HB⟩ := hrel
    by_cases hlt : k < n
    · have c1 := (H1.out.below HB.out) k hlt
      have c2 := (H2.out.below HB.out) k hlt
      simp only [Nat.zero_add] at c1 c2
      generalize l.getD k 0 = x at *
      go_wp2
      go_quiet (fail)
      go_wp2
      go_roundw
      case rel => exact ⟨k + 1, by omega, by go_num, Lib.hid (by repeat (first | exact Below.refl _ _ | refine bset ?_ _ _ (by omega) _ | refine bal ?_ _ | refine bdrN ?_ _ | refine bdr ?_ | refine below_tr' ?_ HB.out))⟩
      case measure => simp [intOf]; omega
    · go_wp2
      go_ret
      exact ⟨rfl, HB.out⟩
end Go.Proofs.Ytkhaiphipdpgeaa
/- Contracts: the laws' own lists of points: made with room behind, compared. (Printed by geng1.py, a program of this session.) -/
namespace Go.Proofs.Ytkhaiphipdpgeaa
open Go.RowKit
set_option linter.unusedVariables false
set_option linter.unusedSimpArgs false
theorem made0 {m j : Nat} (h : j < m * 3) : (madeCells #[.int .i64 0, .int .i64 0, .int .i64 0] (m * 3))[j]? = some (.int .i64 0) := by
  have : j % 3 = 0 ∨ j % 3 = 1 ∨ j % 3 = 2 := by omega
  rcases this with e | e | e <;> simp [madeCells, h, e]
/-- 'make' of m points: a new block, all 0. -/
theorem wpList_make_pts {P : Program} (w : World) {ops : Array Oper} {rest : List Oper} {o : Oper} {a : Act} {Q : Exit → Act → World → Prop}
    (hg : o.guard = none) (l c : Operand) (t : TypeId) (hop : o.op = Op.makeSlice t l c)
    (e : TypeId) (i : TypeInfo) (ht : P.underlying t = some (.slice e)) (hi : P.info? e = some i) (hz : i.zero = some (.agg #[.int .i64 0, .int .i64 0, .int .i64 0])) (hs : i.size = 3)
    (kl kc : IntKind) (m : Nat) (C : Int) (hC : C = (m : Int)) (hl : a.eval l = .int kl C) (hc : a.eval c = .int kc C) (hbytes : i.bytes * m ≤ 281474976710656) (h63 : m ≤ 9223372036854775807)
    (hK : ∀ W', Below w.heap.size w W' → RoomP W' w.heap.size m e → PtsAt W' w.heap.size 0 m (List.replicate m (0, 0, 0)) → w.heap.size < W'.heap.size → wpList P ops Q rest (a.put o.dst (.slice (some ⟨w.heap.size, 0, none⟩) m m)) W') :
    wpList P ops Q (o :: rest) a w := by
  subst hC
  refine wpList_plain hg fun K hK' => ?_
  have hb' : (i.bytes : Int) * (m : Int) ≤ 281474976710656 := by
    have h : ((i.bytes * m : Nat) : Int) ≤ 281474976710656 := by omega
    rwa [Int.natCast_mul] at h
  have hr := run_make (P := P) w t e i _ ht hi hz kl kc m m (by omega) (Int.le_refl _) hb' (by omega)
  have hcl : (Value.agg #[.int .i64 0, .int .i64 0, .int .i64 0]).cells = #[.int .i64 0, .int .i64 0, .int .i64 0] := by rfl
  rw [hcl, hs, Int.toNat_natCast] at hr
  unfold Oper.wp
  simp [execOp, hop, hl, hc, hr, Result.andThen]
  refine hK' _ _ (hK _ ((Below.refl _ _).alloc (Nat.le_refl _) _) ⟨_, heap_alloc_new _ _, by simp [madeCells]⟩ (fun j hj => ?_) (by simp))
  have hd : (List.replicate m ((0, 0, 0) : Pt)).getD j (0, 0, 0) = (0, 0, 0) := by simp [List.getD, hj]
  rw [hd]
  simp only [Nat.zero_add]
  refine ⟨?_, ?_, ?_⟩
  · rw [World.cell?_alloc_at _ _ _ _ rfl]; exact made0 (by omega)
  · rw [World.cell?_alloc_at _ _ _ _ rfl]; exact made0 (by omega)
  · rw [World.cell?_alloc_at _ _ _ _ rfl]; exact made0 (by omega)
def fillP : Pt := (-7000000000000000101, 0, 0)
/-- What the laws lay for a list: a new block with the list and room behind it. -/
def withRoomP (l : List Pt) : List Pt := l ++ List.replicate (roomN l.length) fillP
structure LaidP (T : TypeId) (w : World) (l : List Pt) (e : Ending) (w' : World) : Prop where
  out : ∃ g, e = .returned (.slice (some ⟨g, 0, none⟩) l.length (l.length + roomN l.length)) ∧ w.heap.size ≤ g ∧ RoomP w' g (l.length + roomN l.length) T ∧ PtsAt w' g 0 (l.length + roomN l.length) (withRoomP l) ∧ Below w.heap.size w w'
theorem take_setP {L l : List Pt} {k : Nat} {a : Pt} (h : L.take k = l.take k) (hk : k < L.length) (hk' : k < l.length) (ha : l.getD k (0, 0, 0) = a) : (L.set k a).take (k + 1) = l.take (k + 1) := by
  rw [take_snoc' _ (0, 0, 0) k (by simpa using hk), take_snoc' l (0, 0, 0) k hk', List.take_set_of_le (Nat.le_refl _), h, ha]
  congr 1
  simp [List.getD, hk]
theorem withRoomP_length (l : List Pt) : (withRoomP l).length = l.length + roomN l.length := by simp [withRoomP]
theorem withRoomP_take (l : List Pt) : (withRoomP l).take l.length = l := by simp [withRoomP]
theorem withRoomP_fill (l : List Pt) (k : Nat) (h : l.length ≤ k) (h2 : k < l.length + roomN l.length) : (withRoomP l).getD k (0, 0, 0) = fillP := by
  have hj : k - l.length < roomN l.length := by omega
  simp [withRoomP, List.getD, List.getElem?_append_right h, hj]
theorem withRoomP_at (l : List Pt) (k : Nat) (h : k < l.length) : (withRoomP l).getD k (0, 0, 0) = l.getD k (0, 0, 0) := by
  simp [withRoomP, List.getD, List.getElem?_append_left h]
theorem pts_take {w : World} {b o n m : Nat} {l : List Pt} (h : PtsAt w b o n l) (hm : m ≤ n) : PtsAt w b o m (l.take m) := fun i hi => by
  have := h i (by omega)
  have hd : (l.take m).getD i (0, 0, 0) = l.getD i (0, 0, 0) := by simp [List.getD, List.getElem?_take_of_lt hi]
  rw [hd]; exact this
end Go.Proofs.Ytkhaiphipdpgeaa
/- Contracts: the laws' own lists of points: compared, intact. (Printed by geng1.py, a program of this session.) -/
namespace Go.Proofs.Ytkhaiphipdpgeaa
open Go.RowKit
set_option linter.unusedVariables false
set_option linter.unusedSimpArgs false
/-- A list of points in memory, somewhere; it may be empty. -/
def ListP (w : World) (b : Option Addr) (n : Nat) (l : List Pt) : Prop := l.length = n ∧ (0 < n → ∃ g off, b = some ⟨g, off, none⟩ ∧ PtsAt w g off n l)
theorem ListP.below {w w1 : World} {b : Option Addr} {n : Nat} {l : List Pt} (h : ListP w b n l) (hb : Below w.heap.size w w1) : ListP w1 b n l :=
  ⟨h.1, fun hn => by obtain ⟨g, off, e, hp⟩ := h.2 hn; exact ⟨g, off, e, hp.below hb⟩⟩
theorem listP_mk {w : World} {g off n : Nat} {l : List Pt} (hl : l.length = n) (h : PtsAt w g off n l) : ListP w (some ⟨g, off, none⟩) n l := ⟨hl, fun _ => ⟨g, off, rfl, h⟩⟩
theorem listP_nil {w : World} {b : Option Addr} : ListP w b 0 [] := ⟨rfl, fun h => absurd h (Nat.lt_irrefl _)⟩
end Go.Proofs.Ytkhaiphipdpgeaa
/- Contracts: the laws' own lists of lines: made with room behind, compared. (Printed by geng1.py, a program of this session.) -/
namespace Go.Proofs.Ytkhaiphipdpgeaa
open Go.RowKit
set_option linter.unusedVariables false
set_option linter.unusedSimpArgs false
end Go.Proofs.Ytkhaiphipdpgeaa
/- Contracts: the laws' own lists of lines: compared, intact. (Printed by geng1.py, a program of this session.) -/
namespace Go.Proofs.Ytkhaiphipdpgeaa
open Go.RowKit
set_option linter.unusedVariables false
set_option linter.unusedSimpArgs false
end Go.Proofs.Ytkhaiphipdpgeaa
/- Contracts: comparisons of points and lines; lists that may be empty. -/
namespace Go.Proofs.Ytkhaiphipdpgeaa
open Go.RowKit
set_option linter.unusedVariables false
set_option linter.unusedSimpArgs false
/-- Two numbers compared. -/
def cmpI (a b : Int) : Int := if a < b then -1 else if b < a then 1 else 0
def cmpP (a b : Pt) : Int := if cmpI a.1 b.1 = 0 then (if cmpI a.2.1 b.2.1 = 0 then cmpI a.2.2 b.2.2 else cmpI a.2.1 b.2.1) else cmpI a.1 b.1
def befB (a b : Pt) : Bool := if a.1 = b.1 then (if a.2.1 = b.2.1 then decide (a.2.2 < b.2.2) else decide (a.2.1 < b.2.1)) else decide (a.1 < b.1)
theorem cmpI_zero (a b : Int) : cmpI a b = 0 ↔ a = b := by unfold cmpI; constructor <;> intro h <;> repeat (first | omega | split at h | split)
theorem cmpI_neg (a b : Int) : cmpI a b < 0 ↔ a < b := by unfold cmpI; constructor <;> intro h <;> repeat (first | omega | split at h | split)
theorem cmpP_bef (a b : Pt) : decide (0 ≤ cmpP a b) = !befB a b := by
  have h : cmpP a b < 0 ↔ befB a b = true := by
    unfold cmpP befB
    simp only [cmpI_zero]
    repeat (first | (simp only [cmpI_neg, decide_eq_true_eq]) | split)
  cases hb : befB a b with
  | true => simp; exact h.2 hb
  | false => simp; exact Int.not_lt.1 (fun hc => by rw [h.1 hc] at hb; cases hb)
theorem cmpI_range (a b : Int) : -1 ≤ cmpI a b ∧ cmpI a b ≤ 1 := by unfold cmpI; repeat (first | omega | split)
theorem isNaN_any (x : Int) (w : World) : Calls Try.prog 101 #[.int .i64 x] w fun e w' => e = .returned (.bool false) ∧ w = w' := by
  go_enter Try.func101, Try.ntmps101
  go_wp2
  go_ret
  exact ⟨by simp, rfl⟩
end Go.Proofs.Ytkhaiphipdpgeaa
/- Contracts: triples compared; lists that ascend. (Printed by genk2.py, a program of this session.) -/
namespace Go.Proofs.Ytkhaiphipdpgeaa
open Go.RowKit
set_option linter.unusedVariables false
set_option linter.unusedSimpArgs false
theorem at_new (w : World) (o : Obj) (n : Nat) (h : n = w.heap.size) : (w.alloc o).heap[n]? = some o := by subst h; exact heap_alloc_new w o
theorem at_old (w : World) (o : Obj) (n : Nat) (h : n < w.heap.size) : (w.alloc o).heap[n]? = w.heap[n]? := by
  rw [heap_alloc_old]; exact h
/-- A list ascends strictly. -/
def ascB (l : List Pt) : Bool := (List.range (l.length - 1)).all (fun i => befB (l.getD i (0, 0, 0)) (l.getD (i + 1) (0, 0, 0)))
theorem ascB_true {l : List Pt} (h : ∀ i, i + 1 < l.length → befB (l.getD i (0, 0, 0)) (l.getD (i + 1) (0, 0, 0)) = true) : ascB l = true := by
  unfold ascB
  rw [List.all_eq_true]
  intro i hi
  exact h i (by have := List.mem_range.1 hi; omega)
theorem ascB_false {l : List Pt} {i : Nat} (hi : i + 1 < l.length) (h : befB (l.getD i (0, 0, 0)) (l.getD (i + 1) (0, 0, 0)) = false) : ascB l = false := by
  unfold ascB
  rw [List.all_eq_false]
  exact ⟨i, List.mem_range.2 (by omega), by rw [h]; decide⟩
end Go.Proofs.Ytkhaiphipdpgeaa
/- Contracts: figures: points and lines, as the program and as the reference take them. -/
namespace Go.Proofs.Ytkhaiphipdpgeaa
open Go.RowKit
set_option linter.unusedVariables false
set_option linter.unusedSimpArgs false
theorem areLines_zero (p : Int) (b : Option Addr) (cap : Nat) (w : World) : Calls Try.prog 62 #[.int .i64 p, .slice b 0 cap] w (Ret w (.bool true)) := by
  go_enter Try.func62, Try.ntmps62
  go_wp2
  refine wp_loop_rounds 1 ?_
  rw [rounds_succ]; go_wp2
  go_ret
  exact ⟨rfl, Below.refl _ _⟩
theorem l01Code_zero (p : Int) (b : Option Addr) (cap : Nat) (w : World) : Calls Try.prog 44 #[.int .i64 p, .slice b 0 cap] w (Ret w (.int .i64 (codeOf p true))) := by
  cases hp : prB p with
  | false =>
    have HP := Lib.hid hp; clear hp
    go_enter Try.func44, Try.ntmps44
    go_wp2_with (go_at_call 34; refine (l01Prime_no _ _ HP.out).mono ?_; rintro e w' ⟨rfl, rfl⟩)
    go_ret
    exact ⟨ret_int (codeOf_no _ HP.out).symm, Below.refl _ _⟩
  | true =>
    have HP := Lib.hid hp; clear hp
    go_enter Try.func44, Try.ntmps44
    go_wp2_with (go_at_call 34; refine (l01Prime_yes _ _ HP.out).mono ?_; rintro e w' ⟨rfl, rfl⟩)
    refine wp_loop_rounds 1 ?_
    rw [rounds_succ]; go_wp2
    go_ret
    exact ⟨ret_int (codeOf_t HP.out).symm, Below.refl _ _⟩
theorem list_cases {w : World} {b : Option Addr} {n : Nat} {l : List Pt} (h : ListP w b n l) : (n = 0 ∧ l = []) ∨ ∃ g o, b = some ⟨g, o, none⟩ ∧ PtsAt w g o n l := by
  rcases Nat.eq_zero_or_pos n with e | e
  · exact .inl ⟨e, List.length_eq_zero_iff.1 (h.1.trans e)⟩
  · exact .inr (h.2 e)
theorem areLines_list (p : Int) (b : Option Addr) (n cap : Nat) (l : List Pt) (w : World) (hn : n ≤ 1000000) (h : ListP w b n l) :
    Calls Try.prog 62 #[.int .i64 p, .slice b n cap] w (Ret w (.bool (ptsB p l))) := by
  rcases list_cases h with ⟨rfl, rfl⟩ | ⟨g, o, rfl, hp⟩
  · exact areLines_zero p b cap w
  · exact areLines_any p g o n cap l w h.1 (by omega) hp
theorem l01Code_list (p : Int) (b : Option Addr) (n cap : Nat) (l : List Pt) (w : World) (hn : n ≤ 1000000) (h : ListP w b n l) :
    Calls Try.prog 44 #[.int .i64 p, .slice b n cap] w (Ret w (.int .i64 (codeOf p (ptsB p l)))) := by
  rcases list_cases h with ⟨rfl, rfl⟩ | ⟨g, o, rfl, hp⟩
  · exact l01Code_zero p b cap w
  · exact l01Code_any p g o n cap l w h.1 (by omega) hp
/-- A figure's value. -/
@[reducible] def figV (b1 : Option Addr) (n1 c1 : Nat) (b2 : Option Addr) (n2 c2 : Nat) : Value := .agg #[.slice b1 n1 c1, .slice b2 n2 c2]
/-- A figure: both lists ascend, and none is too long. -/
def figB (n1 n2 : Nat) (l1 l2 : List Pt) : Bool := (ascB l1 && decide (n1 ≤ 16)) && (ascB l2 && decide (n2 ≤ 16))
end Go.Proofs.Ytkhaiphipdpgeaa
/- Contracts: slices.Grow of no list; slices.Concat of the three rows of a map. -/
namespace Go.Proofs.Ytkhaiphipdpgeaa
open Go.RowKit
set_option linter.unusedVariables false
set_option linter.unusedSimpArgs false
structure OwnI (base : Nat) (w : World) (l : List Int) (e : Ending) (w' : World) : Prop where
  out : ∃ v, e = .returned v ∧ w'.ownsRow base 2 1 v l.length (ints l) ∧ Below base w w'
set_option maxRecDepth 100000 in
theorem grow64_nil (n : Nat) (w : World) (h0 : 0 < n) (hn : n ≤ 1000000) :
    Calls Try.prog 113 #[.slice none 0 0, .int .i64 (n : Int)] w (OwnI w.heap.size w []) := by
  obtain ⟨i0, hi, hz0, hz1, hz2⟩ := info_parts info64
  have HI0 := Lib.hid hi; have HZ0 := Lib.hid hz0; have HZ1 := Lib.hid hz1; have HZ2 := Lib.hid hz2
  clear hi hz0 hz1 hz2
  have hnz : (0 : Int) < (n : Int) := by omega
  go_enter Try.func113, Try.ntmps113
  go_wp2_with (at_builtin; refine Lib.wpList_append_run _ rfl _ _ 22 3 rfl _ _ rfl rfl _ _ (Lib.run_append_nil_zeros _ 22 3 _ 2 i0 (.int .i64 0) .i64 .i64 Try.underlying22 Try.underlying3 HI0.out HZ0.out n h0 (by rw [HZ1.out]; omega) (by omega) (by rw [HZ2.out]; omega)) ?_)
  go_ret
  have hge := grownCap_ge w n 0 2
  have hle := grownCap_le_maxLen w n 0 2 (by unfold maxLen; omega)
  refine ⟨_, rfl, ⟨rfl, .inr ⟨w.heap.size, _, _, rfl, Nat.le_refl _, heap_alloc_new _ _, Nat.zero_le _, hle, ?_, rfl⟩⟩, bal (bdr (Below.refl _ _)) _⟩
  simp [Builtin.zeroCells]
  omega
theorem take3 (l : List Int) (k : Nat) (h : k + 2 < l.length) : l.take (k + 3) = l.take k ++ [l.getD k 0, l.getD (k + 1) 0, l.getD (k + 2) 0] := by
  rw [take_snoc' l 0 (k + 2) h, take_snoc' l 0 (k + 1) (by omega), take_snoc' l 0 k (by omega)]
  simp
theorem ints_app (a b : List Int) : ints (a ++ b) = ints a ++ ints b := by simp [ints]
theorem src3 {W : World} {g o : Nat} {x y z : Int} (d0 : W.cell? ⟨g, o, none⟩ = some (.int .i64 x)) (d1 : W.cell? ⟨g, o + 1, none⟩ = some (.int .i64 y)) (d2 : W.cell? ⟨g, o + 2, none⟩ = some (.int .i64 z)) :
    ∀ (j : Nat) (u : Value), [Value.int .i64 x, .int .i64 y, .int .i64 z][j]? = some u → W.cell? ((⟨g, o, none⟩ : Addr).add j) = some u := by
  intro j u hj
  have hadd : ∀ j, (⟨g, o, none⟩ : Addr).add j = ⟨g, o + j, none⟩ := by intro j; unfold Addr.add; split <;> simp_all
  rw [hadd]
  match j, hj with
  | 0, hj => simpa using d0.trans (by simpa using hj)
  | 1, hj => exact d1.trans (by simpa using hj)
  | 2, hj => exact d2.trans (by simpa using hj)
  | j + 3, hj => simp at hj
set_option maxRecDepth 100000 in
set_option maxHeartbeats 2000000 in
theorem concat9 (h g k0 k1 k2 : Nat) (l : List Int) (w : World) (hl : l.length = 9) (hA : ∀ i, i < 9 → w.cell? ⟨g, 0 + i, none⟩ = some (.int .i64 (l.getD i 0)))
    (h0 : w.cell? ⟨h, 0, none⟩ = some (.slice (some ⟨g, 0, none⟩) 3 k0)) (h1 : w.cell? ⟨h, 1, none⟩ = some (.slice (some ⟨g, 3, none⟩) 3 k1)) (h2 : w.cell? ⟨h, 2, none⟩ = some (.slice (some ⟨g, 6, none⟩) 3 k2)) :
    Calls Try.prog 112 #[.slice (some ⟨h, 0, none⟩) 3 3] w (OwnI w.heap.size w l) := by
  obtain ⟨i0, hi, hz0, hz1, hz2⟩ := info_parts info64
  have HI0 := Lib.hid hi; have HZ0 := Lib.hid hz0; have HZ1 := Lib.hid hz1; have HZ2 := Lib.hid hz2
  have HA := Lib.hid hA
  have HL := Lib.hid hl
  have hgl : g < w.heap.size := World.block_lt_of_cell? w _ (hA 0 (by omega))
  have hhl : h < w.heap.size := World.block_lt_of_cell? w _ h0
  have HGr : Hid (∀ W : World, Calls Try.prog 113 #[.slice none 0 0, .int .i64 9] W (OwnI W.heap.size W [])) := Lib.hid (fun (W : World) => grow64_nil 9 W (by omega) (by omega))
  clear hi hz0 hz1 hz2 hA hl
  go_enter Try.func112, Try.ntmps112
  go_wp2
  go_loop [3, 11] (fun s i => ∃ k : Nat, k ≤ 3 ∧ i = .int .i64 k ∧ s = .int .i64 ((3 * k : Nat) : Int)) (fun _ i => 3 - (intOf i).toNat)
  case atStart => exact ⟨0, by omega, rfl, rfl⟩
  case round =>
    obtain ⟨k, hk, rfl, rfl⟩ := hrel
    rcases (show k = 0 ∨ k = 1 ∨ k = 2 ∨ k = 3 by omega) with rfl | rfl | rfl | rfl
    · go_wp2
      go_round
      case rel => exact ⟨1, by omega, rfl, rfl⟩
      case measure => simp [intOf]
    · go_wp2
      go_round
      case rel => exact ⟨2, by omega, rfl, rfl⟩
      case measure => simp [intOf]
    · go_wp2
      go_round
      case rel => exact ⟨3, by omega, rfl, rfl⟩
      case measure => simp [intOf]
    · go_wp2_with (go_at_call 113; (with_reducible refine (HGr.out _).mono ?_); rintro e w1 ⟨v1, rfl, ho, hb⟩; have HO1 := Lib.hid ho; have HB1 := Lib.hid hb; have hs1 := hb.size; clear ho hb)
      have e0 : w1.cell? ⟨h, 0, none⟩ = some (.slice (some ⟨g, 0, none⟩) 3 k0) := (HB1.out.cell hhl).trans h0
      go_loopw [6, 27] (fun v i wr => ∃ k : Nat, k ≤ 3 ∧ i = .int .i64 k ∧ Hid (wr.ownsRow w.heap.size 2 1 v (3 * k) (ints (l.take (3 * k)))) ∧ Hid (Below w.heap.size w wr)) (fun _ i wr => 3 - (intOf i).toNat)
      case atStart => exact ⟨0, by omega, rfl, HO1, HB1⟩
      case round =>
        clear HO1 HB1 hs1 e0
        obtain ⟨k, hk, rfl, HO, HB⟩ := hrel
        rcases (show k = 0 ∨ k = 1 ∨ k = 2 ∨ k = 3 by omega) with rfl | rfl | rfl | rfl
        · clear hk
          have c0 := HA.out 0 (by omega)
          have c1 := HA.out 1 (by omega)
          have c2 := HA.out 2 (by omega)
          simp only [Nat.zero_add] at c0 c1 c2
          have d0 : wr.cell? ⟨g, 0, none⟩ = some (.int .i64 (l.getD 0 0)) := (HB.out.cell hgl).trans c0
          have d1 : wr.cell? ⟨g, 1, none⟩ = some (.int .i64 (l.getD 1 0)) := (HB.out.cell hgl).trans c1
          have d2 : wr.cell? ⟨g, 2, none⟩ = some (.int .i64 (l.getD 2 0)) := (HB.out.cell hgl).trans c2
          have HS := Lib.hid (take3 l 0 (by have := HL.out; omega))
          have s0 : wr.cell? ⟨h, 0, none⟩ = some (.slice (some ⟨g, 0, none⟩) 3 k0) := (HB.out.cell hhl).trans h0
          generalize l.getD 0 0 = x at *
          generalize l.getD 1 0 = y at *
          generalize l.getD 2 0 = z at *
          clear c0 c1 c2
          go_wp2_with (at_builtin; refine wpList_append_own _ rfl _ _ 22 rfl w.heap.size 2 i0 (.int .i64 0) 1 8 Try.underlying22 HI0.out HZ0.out HZ1.out HZ2.out rfl (by decide) _ _ _ rfl HO.out ⟨g, 0, none⟩ 3 k0 [.int .i64 x, .int .i64 y, .int .i64 z] rfl rfl (src3 d0 d1 d2) (oneP _ _ _) (by unfold maxLen; omega) (by omega) HB.out.size ?_; intro v2 w2 hown hgrow _; have HO2 := Lib.hid hown; have HG := Lib.hid hgrow; clear hown hgrow)
          go_roundw
          case rel => exact ⟨1, by omega, rfl, Lib.hid (by rw [HS.out, ints_app]; exact HO2.out), Lib.hid (HB.out.grown HG.out HB.out.size (fun k' hk' => own_base' HO.out k' hk'))⟩
          case measure => simp [intOf]
        · clear hk
          have c0 := HA.out 3 (by omega)
          have c1 := HA.out 4 (by omega)
          have c2 := HA.out 5 (by omega)
          simp only [Nat.zero_add] at c0 c1 c2
          have d0 : wr.cell? ⟨g, 3, none⟩ = some (.int .i64 (l.getD 3 0)) := (HB.out.cell hgl).trans c0
          have d1 : wr.cell? ⟨g, 4, none⟩ = some (.int .i64 (l.getD 4 0)) := (HB.out.cell hgl).trans c1
          have d2 : wr.cell? ⟨g, 5, none⟩ = some (.int .i64 (l.getD 5 0)) := (HB.out.cell hgl).trans c2
          have HS := Lib.hid (take3 l 3 (by have := HL.out; omega))
          have s0 : wr.cell? ⟨h, 1, none⟩ = some (.slice (some ⟨g, 3, none⟩) 3 k1) := (HB.out.cell hhl).trans h1
          generalize l.getD 3 0 = x at *
          generalize l.getD 4 0 = y at *
          generalize l.getD 5 0 = z at *
          clear c0 c1 c2
          go_wp2_with (at_builtin; refine wpList_append_own _ rfl _ _ 22 rfl w.heap.size 2 i0 (.int .i64 0) 1 8 Try.underlying22 HI0.out HZ0.out HZ1.out HZ2.out rfl (by decide) _ _ _ rfl HO.out ⟨g, 3, none⟩ 3 k1 [.int .i64 x, .int .i64 y, .int .i64 z] rfl rfl (src3 d0 d1 d2) (oneP _ _ _) (by unfold maxLen; omega) (by omega) HB.out.size ?_; intro v2 w2 hown hgrow _; have HO2 := Lib.hid hown; have HG := Lib.hid hgrow; clear hown hgrow)
          go_roundw
          case rel => exact ⟨2, by omega, rfl, Lib.hid (by rw [HS.out, ints_app]; exact HO2.out), Lib.hid (HB.out.grown HG.out HB.out.size (fun k' hk' => own_base' HO.out k' hk'))⟩
          case measure => simp [intOf]
        · clear hk
          have c0 := HA.out 6 (by omega)
          have c1 := HA.out 7 (by omega)
          have c2 := HA.out 8 (by omega)
          simp only [Nat.zero_add] at c0 c1 c2
          have d0 : wr.cell? ⟨g, 6, none⟩ = some (.int .i64 (l.getD 6 0)) := (HB.out.cell hgl).trans c0
          have d1 : wr.cell? ⟨g, 7, none⟩ = some (.int .i64 (l.getD 7 0)) := (HB.out.cell hgl).trans c1
          have d2 : wr.cell? ⟨g, 8, none⟩ = some (.int .i64 (l.getD 8 0)) := (HB.out.cell hgl).trans c2
          have HS := Lib.hid (take3 l 6 (by have := HL.out; omega))
          have s0 : wr.cell? ⟨h, 2, none⟩ = some (.slice (some ⟨g, 6, none⟩) 3 k2) := (HB.out.cell hhl).trans h2
          generalize l.getD 6 0 = x at *
          generalize l.getD 7 0 = y at *
          generalize l.getD 8 0 = z at *
          clear c0 c1 c2
          go_wp2_with (at_builtin; refine wpList_append_own _ rfl _ _ 22 rfl w.heap.size 2 i0 (.int .i64 0) 1 8 Try.underlying22 HI0.out HZ0.out HZ1.out HZ2.out rfl (by decide) _ _ _ rfl HO.out ⟨g, 6, none⟩ 3 k2 [.int .i64 x, .int .i64 y, .int .i64 z] rfl rfl (src3 d0 d1 d2) (oneP _ _ _) (by unfold maxLen; omega) (by omega) HB.out.size ?_; intro v2 w2 hown hgrow _; have HO2 := Lib.hid hown; have HG := Lib.hid hgrow; clear hown hgrow)
          go_roundw
          case rel => exact ⟨3, by omega, rfl, Lib.hid (by rw [HS.out, ints_app]; exact HO2.out), Lib.hid (HB.out.grown HG.out HB.out.size (fun k' hk' => own_base' HO.out k' hk'))⟩
          case measure => simp [intOf]
        · have ht : l.take (3 * 3) = l := List.take_of_length_le (by have := HL.out; omega)
          have HO' := HO.out
          rw [ht] at HO'
          have hle := HL.out
          have HOh := Lib.hid HO'
          clear HO'
          go_wp2
          go_ret
          exact ⟨_, rfl, by rw [HL.out]; exact HOh.out, HB.out⟩
end Go.Proofs.Ytkhaiphipdpgeaa
/- Contracts: the laws' own lists of points and lines, in one word; the laws' own figures. -/
namespace Go.Proofs.Ytkhaiphipdpgeaa
open Go.RowKit
set_option linter.unusedVariables false
set_option linter.unusedSimpArgs false
/-- Laid with room behind. -/
structure LaidR (w : World) (n : Nat) (l : List Pt) (e : Ending) (w' : World) : Prop where
  out : ∃ g, e = .returned (.slice (some ⟨g, 0, none⟩) n (n + roomN n)) ∧ w.heap.size ≤ g ∧ g < w'.heap.size ∧ RoomP w' g (n + roomN n) 55 ∧ PtsAt w' g 0 (n + roomN n) (withRoomP l) ∧ Below w.heap.size w w'
structure LaidRL (w : World) (n : Nat) (l : List Pt) (e : Ending) (w' : World) : Prop where
  out : ∃ g, e = .returned (.slice (some ⟨g, 0, none⟩) n (n + roomN n)) ∧ w.heap.size ≤ g ∧ g < w'.heap.size ∧ RoomP w' g (n + roomN n) 34 ∧ PtsAt w' g 0 (n + roomN n) (withRoomP l) ∧ Below w.heap.size w w'
/-- Laid, or nil. -/
structure LaidB (w : World) (n : Nat) (l : List Pt) (e : Ending) (w' : World) : Prop where
  out : ∃ b c, e = .returned (.slice b n c) ∧ ListP w' b n l ∧ (∀ a o, b = some ⟨a, o, none⟩ → w.heap.size ≤ a) ∧ Below w.heap.size w w'
theorem laidR_list {w' : World} {g n : Nat} {l : List Pt} (hl : l.length = n) (h : PtsAt w' g 0 (n + roomN n) (withRoomP l)) : ListP w' (some ⟨g, 0, none⟩) n l := by
  subst hl
  exact listP_mk rfl (fun i hi => by have := h i (by omega); rwa [withRoomP_at l i hi] at this)
end Go.Proofs.Ytkhaiphipdpgeaa
/- Contracts: slices.Concat of two lists of points; the codes of two triples. -/
namespace Go.Proofs.Ytkhaiphipdpgeaa
open Go.RowKit
set_option linter.unusedVariables false
set_option linter.unusedSimpArgs false
structure OwnP (base : Nat) (w : World) (n : Nat) (l : List Pt) (e : Ending) (w' : World) : Prop where
  out : ∃ v, e = .returned v ∧ w'.ownsRow base 55 3 v n (ptCs l) ∧ Below base w w'
/-- A list: no list, or laid open at an address. -/
def ListC (w : World) (b : Option Addr) (n c : Nat) (l : List Pt) : Prop := l.length = n ∧ ((b = none ∧ n = 0 ∧ c = 0) ∨ ∃ g, b = some ⟨g, 0, none⟩ ∧ PtsAt w g 0 n l)
theorem ListC.below {w w1 : World} {b : Option Addr} {n c : Nat} {l : List Pt} (h : ListC w b n c l) (hb : Below w.heap.size w w1) : ListC w1 b n c l := by
  refine ⟨h.1, ?_⟩
  rcases h.2 with h0 | ⟨g, e, hp⟩
  · exact .inl h0
  · exact .inr ⟨g, e, hp.below hb⟩
theorem ListC.list {w : World} {b : Option Addr} {n c : Nat} {l : List Pt} (h : ListC w b n c l) : ListP w b n l := by
  rcases h.2 with ⟨rfl, rfl, rfl⟩ | ⟨g, rfl, hp⟩
  · exact ⟨h.1, fun h0 => absurd h0 (Nat.lt_irrefl _)⟩
  · exact ⟨h.1, fun _ => ⟨g, 0, rfl, hp⟩⟩
theorem ptCs_app (a b : List Pt) : ptCs (a ++ b) = ptCs a ++ ptCs b := by simp [ptCs]
theorem ptCs_one (l : List Pt) : ∀ u ∈ ptCs l, u.oneCell' = true := by
  intro u hu
  obtain ⟨a, _, hu⟩ := List.mem_flatMap.1 hu
  simp only [ptC, List.mem_cons, List.not_mem_nil, or_false] at hu
  rcases hu with rfl | rfl | rfl <;> rfl
theorem srcPts {W : World} {g o n : Nat} {l : List Pt} (hl : l.length = n) (h : PtsAt W g o n l) :
    ∀ (j : Nat) (u : Value), (ptCs l)[j]? = some u → W.cell? ((⟨g, o, none⟩ : Addr).add j) = some u := by
  intro j u hj
  have hadd : (⟨g, o, none⟩ : Addr).add j = ⟨g, o + j, none⟩ := by unfold Addr.add; split <;> simp_all
  rw [hadd]
  have hlt : j < (ptCs l).length := (List.getElem?_eq_some_iff.1 hj).1
  rw [ptCs_length] at hlt
  have hk : j / 3 < l.length := by omega
  obtain ⟨c0, c1, c2⟩ := ptCs_at l (j / 3) hk
  obtain ⟨d0, d1, d2⟩ := h (j / 3) (by omega)
  rcases (show j = j / 3 * 3 ∨ j = j / 3 * 3 + 1 ∨ j = j / 3 * 3 + 2 by omega) with e | e | e
  · rw [e] at hj ⊢; rw [hj] at c0; rw [c0]; exact d0
  · rw [e] at hj ⊢; rw [hj] at c1; rw [c1, ← Nat.add_assoc]; exact d1
  · rw [e] at hj ⊢; rw [hj] at c2; rw [c2, ← Nat.add_assoc]; exact d2
theorem own_listC {W : World} {base : Nat} {v : Value} {l : List Pt} {n : Nat} (h : W.ownsRow base 55 3 v n (ptCs l)) (hl : l.length = n) : ∃ b c, v = .slice b n c ∧ ListC W b n c l := by
  rcases h.2 with ⟨rfl, rfl⟩ | ⟨g, cap, cur, rfl, hb, hg, hle, _, hsz, htk⟩
  · exact ⟨none, 0, rfl, hl, .inl ⟨rfl, rfl, rfl⟩⟩
  · refine ⟨_, _, rfl, hl, .inr ⟨g, rfl, ?_⟩⟩
    intro i hi
    obtain ⟨c0, c1, c2⟩ := ptCs_at l i (by omega)
    have key : ∀ j u, (ptCs l)[j]? = some u → W.cell? ⟨g, j, none⟩ = some u := fun j u hj => by
      rw [cell_of_row W g j _ _ _ hg]
      rw [← htk, List.getElem?_take] at hj
      split at hj
      · simpa using hj
      · cases hj
    simp only [Nat.zero_add]
    exact ⟨key _ _ c0, key _ _ c1, key _ _ c2⟩
theorem ptsB_app (p : Int) (a b : List Pt) : ptsB p (a ++ b) = (ptsB p a && ptsB p b) := by simp [ptsB]
/-- The code of two triples. -/
def threesR (p : Int) (n1 n2 : Nat) (l1 l2 : List Pt) : Int := if codeOf p (ptsB p l1 && ptsB p l2) ≠ 0 then codeOf p (ptsB p l1 && ptsB p l2) else if n1 = 3 ∧ n2 = 3 then 0 else 2
theorem threesR_zero {p : Int} {n1 n2 : Nat} {l1 l2 : List Pt} (h : threesR p n1 n2 l1 l2 = 0) : prB p = true ∧ ptsB p l1 = true ∧ ptsB p l2 = true ∧ n1 = 3 ∧ n2 = 3 := by
  unfold threesR at h
  by_cases hk : codeOf p (ptsB p l1 && ptsB p l2) = 0
  · obtain ⟨h1, h2⟩ := code_zero hk
    simp only [Bool.and_eq_true] at h2
    rw [if_neg (by simpa using hk)] at h
    by_cases h3 : n1 = 3 ∧ n2 = 3
    · exact ⟨h1, h2.1, h2.2, h3.1, h3.2⟩
    · rw [if_neg h3] at h; cases h
  · rw [if_pos hk] at h; exact (hk h).elim
theorem threesR_eq (p : Int) (n1 n2 : Nat) (l1 l2 : List Pt) : threesR p n1 n2 l1 l2 = if codeOf p (ptsB p l1) ≠ 0 then codeOf p (ptsB p l1) else if codeOf p (ptsB p l2) ≠ 0 then codeOf p (ptsB p l2) else if n1 = 3 ∧ n2 = 3 then 0 else 2 := by
  unfold threesR codeOf
  cases prB p <;> cases ptsB p l1 <;> cases ptsB p l2 <;> simp
end Go.Proofs.Ytkhaiphipdpgeaa
/- Plain words: a fourth harmonic point: the points it is made with are there. -/
namespace Go.Proofs.Ytkhaiphipdpgeaa
set_option linter.unusedVariables false
set_option linter.unusedSimpArgs false
def headP (l : List Pt) : Pt := l.headD (0, 0, 0)
theorem head_at {f : Pt → Bool} {l : List Pt} {k : Nat} (h : ∀ a ∈ l.take k, f a = false) (hk : k < l.length) (hf : f (l.getD k (0, 0, 0)) = true) : headP (l.filter f) = l.getD k (0, 0, 0) := by
  have e : l = l.take k ++ (l.getD k (0, 0, 0) :: l.drop (k + 1)) := by
    have h1 : l.getD k (0, 0, 0) = l[k] := by simp [List.getD, hk]
    rw [h1, List.getElem_cons_drop, List.take_append_drop]
  generalize l.getD k (0, 0, 0) = d at *
  generalize l.take k = t at *
  generalize l.drop (k + 1) = r at *
  subst e
  rw [List.filter_append, List.filter_eq_nil_iff.2 (fun a ha => by rw [h a ha]; decide), List.nil_append, List.filter_cons, if_pos hf]
  rfl
theorem nodup3 : (allP 3).Nodup := by decide +kernel
theorem nodup5 : (allP 5).Nodup := by decide +kernel
theorem nodup7 : (allP 7).Nodup := by decide +kernel
theorem nodup11 : (allP 11).Nodup := by decide +kernel
theorem nodup13 : (allP 13).Nodup := by decide +kernel
theorem nodup_allP {n : Nat} (hp : prB (n : Int) = true) : (allP n).Nodup := by
  have h := prB_cases hp
  have : n = 3 ∨ n = 5 ∨ n = 7 ∨ n = 11 ∨ n = 13 := by omega
  rcases this with rfl | rfl | rfl | rfl | rfl
  · exact nodup3
  · exact nodup5
  · exact nodup7
  · exact nodup11
  · exact nodup13
/-- Of three different things one is neither of two. -/
theorem third {l : List Pt} (h : l.Nodup) (hl : 3 ≤ l.length) (a b : Pt) : ∃ x ∈ l, x ≠ a ∧ x ≠ b := by
  match l, hl with
  | x :: y :: z :: r, _ =>
    simp only [List.nodup_cons, List.mem_cons, not_or] at h
    obtain ⟨⟨xy, xz, _⟩, ⟨yz, _⟩, _⟩ := h
    by_cases hx : x = a ∨ x = b
    · by_cases hy : y = a ∨ y = b
      · refine ⟨z, by simp, ?_, ?_⟩
        · rintro rfl; rcases hx with rfl | rfl <;> rcases hy with rfl | rfl <;> simp_all
        · rintro rfl; rcases hx with rfl | rfl <;> rcases hy with rfl | rfl <;> simp_all
      · exact ⟨y, by simp, fun e => hy (.inl e), fun e => hy (.inr e)⟩
    · exact ⟨x, by simp, fun e => hx (.inl e), fun e => hx (.inr e)⟩
theorem allP_pt {n : Nat} (hp : prB (n : Int) = true) {a : Pt} (h : a ∈ allP n) : ptB (n : Int) a.1 a.2.1 a.2.2 = true := by
  have hb := prB_bd hp
  have mk : ∀ a b c : Int, (0 ≤ a ∧ a ≤ (n : Int) - 1) → (0 ≤ b ∧ b ≤ (n : Int) - 1) → (0 ≤ c ∧ c ≤ (n : Int) - 1) → (a = 1 ∨ (a = 0 ∧ b = 1) ∨ (a = 0 ∧ b = 0 ∧ c = 1)) → ptB (n : Int) a b c = true := by
    intro a b c ha hb hc hd
    unfold ptB normB numsB
    simp only [hp, Bool.true_and, Bool.and_eq_true, List.all_cons, List.all_nil, Bool.and_true, numB_iff]
    refine ⟨?_, ha, hb, hc⟩
    rcases hd with rfl | ⟨rfl, rfl⟩ | ⟨rfl, rfl, rfl⟩ <;> rfl
  simp only [allP, pB, pA, pR, List.mem_append, List.mem_cons, List.mem_map, List.mem_range, List.mem_flatMap] at h
  rcases h with (rfl | ⟨z, hz, rfl⟩) | ⟨y, hy, z, hz, rfl⟩
  · exact mk 0 0 1 (by omega) (by omega) (by omega) (.inr (.inr ⟨rfl, rfl, rfl⟩))
  · exact mk 0 1 z (by omega) (by omega) (by omega) (.inr (.inl ⟨rfl, rfl⟩))
  · exact mk 1 y z (by omega) (by omega) (by omega) (.inl rfl)
theorem mod_fac (p f x : Int) : ∃ q, x % p * f % p = x * f - p * q := by
  refine ⟨x / p * f + (x % p * f) / p, ?_⟩
  have h1 := Int.emod_add_mul_ediv x p
  have h2 := Int.emod_add_mul_ediv (x % p * f) p
  generalize x / p = q1 at *
  generalize (x % p * f) / p = q2 at *
  generalize x % p * f % p = r2 at *
  grind
/-- A point lies on each line through it. -/
theorem on_crsN (p : Int) (a b : Pt) : onB p a (crsN p a b) = true ∧ onB p b (crsN p a b) = true := by
  obtain ⟨a0, a1, a2⟩ := a
  obtain ⟨b0, b1, b2⟩ := b
  unfold onB crsN nrm3 crs
  simp only
  generalize facL p _ = f
  obtain ⟨q0, e0⟩ := mod_fac p f (a1 * b2 - a2 * b1)
  obtain ⟨q1, e1⟩ := mod_fac p f (a2 * b0 - a0 * b2)
  obtain ⟨q2, e2⟩ := mod_fac p f (a0 * b1 - a1 * b0)
  rw [e0, e1, e2]
  simp only [beq_iff_eq]
  refine ⟨Int.emod_eq_zero_of_dvd ⟨-(a0 * q0 + a1 * q1 + a2 * q2), ?_⟩, Int.emod_eq_zero_of_dvd ⟨-(b0 * q0 + b1 * q1 + b2 * q2), ?_⟩⟩
  · grind
  · grind
/-- The first point off the line of a and b. -/
def quadR1 (n : Nat) (a b : Pt) : Pt := headP ((allP n).filter (fun x => !onB (n : Int) x (crsN n a b)))
/-- The first point of the line of a and r that is neither. -/
def quadS (n : Nat) (a r : Pt) : Pt := headP ((allP n).filter (fun x => onB (n : Int) x (crsN n a r) && (!eqP x a && !eqP x r)))
/-- The fourth harmonic point, and the code. -/
def quadR (p : Int) (a b c : Pt) : Pt × Int :=
  if codeOf p (ptsB p [a, b, c]) ≠ 0 then ((0, 0, 0), codeOf p (ptsB p [a, b, c])) else
  if threeB p a b c = false then ((0, 0, 0), 5) else
  let r := quadR1 p.toNat a b
  let s := quadS p.toNat a r
  let t := crsN p (crsN p b s) (crsN p c r)
  let u := crsN p (crsN p b r) (crsN p a t)
  (crsN p (crsN p a b) (crsN p s u), 0)
/-- What both programs lean on: the two points are found. -/
theorem quad_facts {n : Nat} {a b : Pt} (ha : ptB (n : Int) a.1 a.2.1 a.2.2 = true) (hb : ptB (n : Int) b.1 b.2.1 b.2.2 = true) (hab : eqP a b = false) :
    (∃ x ∈ allP n, onB (n : Int) x (crsN n a b) = false) ∧ ∃ x ∈ allP n, (onB (n : Int) x (crsN n a (quadR1 n a b)) = true ∧ x ≠ a ∧ x ≠ quadR1 n a b) := by
  have hp := (pt_facts ha).1
  have hl := crsN_pt ha hb hab
  have h1 := (line_facts hl).2
  refine ⟨h1, ?_⟩
  have hr : quadR1 n a b ∈ (allP n).filter (fun x => !onB (n : Int) x (crsN n a b)) := by
    unfold quadR1 headP
    obtain ⟨x, hx, hx2⟩ := h1
    have : x ∈ (allP n).filter (fun x => !onB (n : Int) x (crsN n a b)) := List.mem_filter.2 ⟨hx, by rw [hx2]; rfl⟩
    cases hh : (allP n).filter (fun x => !onB (n : Int) x (crsN n a b)) with
    | nil => rw [hh] at this; cases this
    | cons y r => simp
  obtain ⟨hr1, hr2⟩ := List.mem_filter.1 hr
  have hne : eqP a (quadR1 n a b) = false := by
    cases he : eqP a (quadR1 n a b) with
    | false => rfl
    | true =>
      have e := eqP_iff.1 he
      rw [← e, (on_crsN (n : Int) a b).1] at hr2
      cases hr2
  have hs := crsN_pt ha (allP_pt hp hr1) hne
  obtain ⟨x, hx, h2⟩ := third ((nodup_allP hp).filter _) (Nat.le_trans (by decide) (line_facts hs).1) a (quadR1 n a b)
  obtain ⟨hx1, hx2⟩ := List.mem_filter.1 hx
  exact ⟨x, hx1, hx2, h2⟩
end Go.Proofs.Ytkhaiphipdpgeaa
/- Plain words: numbers modulo a prime, cross products, and why Pappus' meets are different. -/
namespace Go.Proofs.Ytkhaiphipdpgeaa
set_option linter.unusedVariables false
set_option linter.unusedSimpArgs false
theorem mul_dvd {p x y : Int} (hp : prB p = true) (h : p ∣ x * y) (hx : ¬ p ∣ x) : p ∣ y := by
  obtain ⟨h3, h13⟩ := prB_bd hp
  have h0 : 0 < x % p := by
    have h1 := Int.emod_nonneg x (show p ≠ 0 by omega)
    rcases Int.lt_or_eq_of_le h1 with h2 | h2
    · exact h2
    · exact (hx (Int.dvd_of_emod_eq_zero h2.symm)).elim
  have hs := (invP_spec hp h0 (Int.emod_lt_of_pos x (by omega))).2.2.1
  obtain ⟨q, hq⟩ := h
  have e1 := Int.emod_add_mul_ediv x p
  have e2 := Int.emod_add_mul_ediv (x % p * invP p (x % p)) p
  rw [hs] at e2
  generalize x % p * invP p (x % p) / p = k2 at *
  generalize invP p (x % p) = i at *
  generalize x / p = k1 at *
  generalize x % p = r at *
  exact ⟨i * q - k1 * i * y - k2 * y, by grind⟩
theorem mul_nd {p x y : Int} (hp : prB p = true) (hx : ¬ p ∣ x) (hy : ¬ p ∣ y) : ¬ p ∣ x * y := fun h => hy (mul_dvd hp h hx)
def dotI (a b : Pt) : Int := a.1 * b.1 + a.2.1 * b.2.1 + a.2.2 * b.2.2
/-- Not 0 modulo p. -/
def nzV (p : Int) (v : Pt) : Prop := ¬ (p ∣ v.1 ∧ p ∣ v.2.1 ∧ p ∣ v.2.2)
theorem nz_dot {p : Int} {v : Pt} (w : Pt) (h : ¬ p ∣ dotI w v) : nzV p v := by
  rintro ⟨⟨a, h1⟩, ⟨b, h2⟩, ⟨c, h3⟩⟩
  refine h ⟨w.1 * a + w.2.1 * b + w.2.2 * c, ?_⟩
  unfold dotI
  rw [h1, h2, h3]
  grind
/-- v is k times w, modulo p. -/
def cg (p k : Int) (v w : Pt) : Prop := p ∣ v.1 - k * w.1 ∧ p ∣ v.2.1 - k * w.2.1 ∧ p ∣ v.2.2 - k * w.2.2
theorem cg_refl (p : Int) (v : Pt) : cg p 1 v v := ⟨⟨0, by grind⟩, ⟨0, by grind⟩, ⟨0, by grind⟩⟩
theorem dvd_pair {p k x y k' x' y' : Int} (h : p ∣ x - k * x') (h' : p ∣ y - k' * y') : p ∣ x * y - k * k' * (x' * y') := by
  obtain ⟨a, ha⟩ := h
  obtain ⟨b, hb⟩ := h'
  exact ⟨a * y + k * x' * b, by grind⟩
theorem dvd_sub2 {p a b K a' b' : Int} (h : p ∣ a - K * a') (h' : p ∣ b - K * b') : p ∣ (a - b) - K * (a' - b') := by
  obtain ⟨u, hu⟩ := h
  obtain ⟨v, hv⟩ := h'
  exact ⟨u - v, by grind⟩
theorem cg_crs {p k k' : Int} {x y x' y' : Pt} (h : cg p k x x') (h' : cg p k' y y') : cg p (k * k') (crs x y) (crs x' y') := by
  obtain ⟨h1, h2, h3⟩ := h
  obtain ⟨g1, g2, g3⟩ := h'
  refine ⟨dvd_sub2 (dvd_pair h2 g3) ?_, dvd_sub2 (dvd_pair h3 g1) ?_, dvd_sub2 (dvd_pair h1 g2) ?_⟩
  · exact dvd_pair h3 g2
  · exact dvd_pair h1 g3
  · exact dvd_pair h2 g1
theorem cg_trans {p k l : Int} {v w u : Pt} (h : cg p k v w) (h' : cg p l w u) : cg p (k * l) v u := by
  have one : ∀ {a b c : Int}, p ∣ a - k * b → p ∣ b - l * c → p ∣ a - k * l * c := by
    rintro a b c ⟨x, hx⟩ ⟨y, hy⟩
    exact ⟨x + k * y, by grind⟩
  exact ⟨one h.1 h'.1, one h.2.1 h'.2.1, one h.2.2 h'.2.2⟩
theorem cg_dot {p k : Int} {v w : Pt} (a : Pt) (h : cg p k v w) : p ∣ dotI a v - k * dotI a w := by
  obtain ⟨⟨x, hx⟩, ⟨y, hy⟩, ⟨z, hz⟩⟩ := h
  exact ⟨a.1 * x + a.2.1 * y + a.2.2 * z, by unfold dotI; grind⟩
/-- Made normal, a vector is a multiple of itself, and no multiple by 0 if it is not 0. -/
theorem cg_nrm {p : Int} (hp : prB p = true) (v : Pt) : cg p (facL p [v.1, v.2.1, v.2.2]) (nrm3 p v.1 v.2.1 v.2.2) v := by
  obtain ⟨q0, e0⟩ := mod_fac p (facL p [v.1, v.2.1, v.2.2]) v.1
  obtain ⟨q1, e1⟩ := mod_fac p (facL p [v.1, v.2.1, v.2.2]) v.2.1
  obtain ⟨q2, e2⟩ := mod_fac p (facL p [v.1, v.2.1, v.2.2]) v.2.2
  refine ⟨⟨-q0, ?_⟩, ⟨-q1, ?_⟩, ⟨-q2, ?_⟩⟩
  · show v.1 % p * _ % p - _ = _; rw [e0]; grind
  · show v.2.1 % p * _ % p - _ = _; rw [e1]; grind
  · show v.2.2 % p * _ % p - _ = _; rw [e2]; grind
theorem fac_nd {p : Int} (hp : prB p = true) {v : Pt} (h : nzV p v) : ¬ p ∣ facL p [v.1, v.2.1, v.2.2] := by
  have hb := prB_bd hp
  have h0 : facL p [v.1, v.2.1, v.2.2] ≠ 0 := by
    intro e
    rw [facL_zero hp] at e
    have hz := firstNZ_eq_zero.1 e
    simp [zerosB] at hz
    exact h ⟨Int.dvd_of_emod_eq_zero hz.1, Int.dvd_of_emod_eq_zero hz.2.1, Int.dvd_of_emod_eq_zero hz.2.2⟩
  have h1 := firstNZ_mod_bd p [v.1, v.2.1, v.2.2] (by omega)
  have h2 : facL p [v.1, v.2.1, v.2.2] < p ∧ 0 ≤ facL p [v.1, v.2.1, v.2.2] := by
    unfold facL at h0 ⊢
    by_cases hz : firstNZ ([v.1, v.2.1, v.2.2].map (· % p)) = 0
    · rw [hz, invP_zero p (by omega)] at h0; exact (h0 rfl).elim
    · have := invP_spec hp (by omega) h1.2; omega
  intro hd
  have := Int.le_of_dvd (by omega) hd
  omega
theorem cg_crsN {p : Int} (hp : prB p = true) {a b : Pt} (h : nzV p (crs a b)) : ∃ f, ¬ p ∣ f ∧ cg p f (crsN p a b) (crs a b) := ⟨_, fac_nd hp h, cg_nrm hp (crs a b)⟩
/-- Not on the line: not 0 with the raw product. -/
theorem off_nd {p : Int} (hp : prB p = true) {a b d : Pt} (h : onB p d (crsN p a b) = false) : ¬ p ∣ dotI d (crs a b) := by
  intro hd
  have h1 := cg_dot d (cg_nrm hp (crs a b))
  have h2 : p ∣ dotI d (crsN p a b) := by
    obtain ⟨x, hx⟩ := h1
    obtain ⟨y, hy⟩ := hd
    rw [hy] at hx
    exact ⟨x + facL p [(crs a b).1, (crs a b).2.1, (crs a b).2.2] * y, by unfold crsN; grind⟩
  have h3 : onB p d (crsN p a b) = true := by
    unfold onB
    rw [beq_iff_eq]
    exact Int.emod_eq_zero_of_dvd h2
  rw [h3] at h; cases h
/-- The line through a and c, of three collinear points, is that through a and b. -/
theorem off_other {p : Int} (hp : prB p = true) {a b c d : Pt} (h : ¬ p ∣ dotI d (crs a b)) (hc : p ∣ detZ a b c) (hz : nzV p (crs a c)) : ¬ p ∣ dotI d (crs a c) := by
  rintro ⟨q, hq⟩
  obtain ⟨k, hk⟩ := hc
  have e : ∀ x y : Int, True := fun _ _ => trivial
  -- (d · v) u − (d · u) v is 0, where u × v is
  refine hz ⟨mul_dvd hp ?_ h, mul_dvd hp ?_ h, mul_dvd hp ?_ h⟩
  · refine ⟨q * (crs a b).1 - k * (d.2.1 * a.2.2 - d.2.2 * a.2.1), ?_⟩
    have : dotI d (crs a b) * (crs a c).1 = dotI d (crs a c) * (crs a b).1 - detZ a b c * (d.2.1 * a.2.2 - d.2.2 * a.2.1) := by unfold dotI crs detZ; simp only; grind
    rw [this, hq, hk]; grind
  · refine ⟨q * (crs a b).2.1 - k * (d.2.2 * a.1 - d.1 * a.2.2), ?_⟩
    have : dotI d (crs a b) * (crs a c).2.1 = dotI d (crs a c) * (crs a b).2.1 - detZ a b c * (d.2.2 * a.1 - d.1 * a.2.2) := by unfold dotI crs detZ; simp only; grind
    rw [this, hq, hk]; grind
  · refine ⟨q * (crs a b).2.2 - k * (d.1 * a.2.1 - d.2.1 * a.1), ?_⟩
    have : dotI d (crs a b) * (crs a c).2.2 = dotI d (crs a c) * (crs a b).2.2 - detZ a b c * (d.1 * a.2.1 - d.2.1 * a.1) := by unfold dotI crs detZ; simp only; grind
    rw [this, hq, hk]; grind
def comb (s : Int) (e : Pt) (t : Int) (a : Pt) : Pt := (s * e.1 - t * a.1, s * e.2.1 - t * a.2.1, s * e.2.2 - t * a.2.2)
theorem crs_crs (a e w : Pt) : crs (crs a e) w = comb (dotI a w) e (dotI e w) a := by
  unfold comb crs dotI
  simp only [Prod.mk.injEq]
  refine ⟨?_, ?_, ?_⟩ <;> grind
theorem dot_crs_comb (a e f : Pt) (s t s' t' : Int) : dotI a (crs (comb s e t a) (comb s' f t' a)) = s * s' * dotI a (crs e f) := by
  unfold comb crs dotI
  simp only
  grind
theorem dot_comb (w e a : Pt) (s t : Int) (h : dotI w a = 0) : dotI w (comb s e t a) = s * dotI w e := by
  unfold comb dotI at *
  simp only
  grind
/-- The two meets are different: no two of them span nothing. -/
theorem meets_ne {p : Int} (hp : prB p = true) {a b c d e f : Pt} (h1 : ¬ p ∣ dotI a (crs b d)) (h2 : ¬ p ∣ dotI a (crs c d)) (h3 : ¬ p ∣ dotI a (crs e f)) :
    nzV p (crs (crsN p (crsN p a e) (crsN p b d)) (crsN p (crsN p a f) (crsN p c d))) := by
  have h3' : ¬ p ∣ dotI f (crs a e) := by rwa [show dotI f (crs a e) = dotI a (crs e f) by unfold dotI crs; simp only; grind]
  have h3'' : ¬ p ∣ dotI e (crs a f) := by
    rintro ⟨q, hq⟩
    exact h3 ⟨-q, by rw [show dotI a (crs e f) = - dotI e (crs a f) by unfold dotI crs; simp only; grind, hq]; grind⟩
  obtain ⟨α1, n1, c1⟩ := cg_crsN hp (nz_dot f h3')
  obtain ⟨β1, n2, c2⟩ := cg_crsN hp (nz_dot a h1)
  obtain ⟨α2, n3, c3⟩ := cg_crsN hp (nz_dot e h3'')
  obtain ⟨β2, n4, c4⟩ := cg_crsN hp (nz_dot a h2)
  have r1 := cg_crs c1 c2
  have r2 := cg_crs c3 c4
  rw [crs_crs] at r1 r2
  generalize dotI e (crs b d) = t1 at *
  generalize dotI f (crs c d) = t2 at *
  generalize dotI a (crs b d) = s1 at *
  generalize dotI a (crs c d) = s2 at *
  have nz1 : nzV p (crs (crsN p a e) (crsN p b d)) := by
    refine nz_dot (crs f a) (fun hd => ?_)
    have hc := cg_dot (crs f a) r1
    rw [dot_comb _ _ _ _ _ (by unfold dotI crs; simp only; grind)] at hc
    have hx : ¬ p ∣ α1 * β1 * (s1 * dotI (crs f a) e) := mul_nd hp (mul_nd hp n1 n2) (mul_nd hp h1 (by rwa [show dotI (crs f a) e = dotI a (crs e f) by unfold dotI crs; simp only; grind]))
    exact hx ((Int.dvd_iff_dvd_of_dvd_sub hc).1 hd)
  have nz2 : nzV p (crs (crsN p a f) (crsN p c d)) := by
    refine nz_dot (crs e a) (fun hd => ?_)
    have hc := cg_dot (crs e a) r2
    rw [dot_comb _ _ _ _ _ (by unfold dotI crs; simp only; grind)] at hc
    have hx : ¬ p ∣ α2 * β2 * (s2 * dotI (crs e a) f) := mul_nd hp (mul_nd hp n3 n4) (mul_nd hp h2 (by
      rintro ⟨q, hq⟩
      exact h3 ⟨-q, by rw [show dotI a (crs e f) = - dotI (crs e a) f by unfold dotI crs; simp only; grind, hq]; grind⟩))
    exact hx ((Int.dvd_iff_dvd_of_dvd_sub hc).1 hd)
  obtain ⟨φ1, m1, g1⟩ := cg_crsN hp nz1
  obtain ⟨φ2, m2, g2⟩ := cg_crsN hp nz2
  have R := cg_dot a (cg_crs (cg_trans g1 r1) (cg_trans g2 r2))
  rw [dot_crs_comb] at R
  refine nz_dot a (fun hd => ?_)
  exact mul_nd hp (mul_nd hp (mul_nd hp m1 (mul_nd hp n1 n2)) (mul_nd hp m2 (mul_nd hp n3 n4))) (mul_nd hp (mul_nd hp h1 h2) h3) ((Int.dvd_iff_dvd_of_dvd_sub R).1 hd)
end Go.Proofs.Ytkhaiphipdpgeaa
