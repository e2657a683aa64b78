/- A region that draws its order and holds guarded operations, walked once. -/
import Derived.Test.YthkbhaaodegocaaRegion
namespace Go.Proofs.Ythkbhaaodegocaa
open Go.RowKit
set_option linter.unusedVariables false
set_option linter.unusedSimpArgs false
/-- Every operation reads only what has been yielded before it, or what the region does not write; its guard too. -/
def calmChk (l : List Oper) (N : Nat) : Bool :=
  (List.range l.length).all fun i => match l[i]? with
    | none => true
    | some o => (match o.guard with | none => true | some (k, _) => bindsTo o k) && notSelect o && (o.after.all fun e => !Region.binds .any e || e.on < i) &&
      (match o.dst with | some t => decide (t < N) | none => false) &&
      ((readsOf o).all fun t => (List.range l.length).all fun j => match l[j]? with
          | none => true
          | some oj => !(oj.dst == some t) || bindsTo o j)
theorem calmChk_at {l : List Oper} {N : Nat} (chk : calmChk l N = true) {i : Nat} {o : Oper} (hi : l[i]? = some o) :
    (∀ k b, o.guard = some (k, b) → bindsTo o k = true) ∧ (∀ cs b, o.op ≠ .select cs b) ∧ (∀ e ∈ o.after, Region.binds .any e = true → e.on < i) ∧
    (∃ t, o.dst = some t ∧ t < N) ∧ (∀ t ∈ readsOf o, ∀ j oj, l[j]? = some oj → oj.dst = some t → bindsTo o j = true) := by
  unfold calmChk at chk
  have hlt : i < l.length := (List.getElem?_eq_some_iff.1 hi).1
  have h := List.all_eq_true.1 chk i (List.mem_range.2 hlt)
  simp only [hi, Bool.and_eq_true] at h
  obtain ⟨⟨⟨⟨hg, hns⟩, haf⟩, hd⟩, hr⟩ := h
  refine ⟨?_, ?_, ?_, ?_, ?_⟩
  · intro k b e; rw [e] at hg; exact hg
  · intro cs b e; rw [notSelect, e] at hns; cases hns
  · intro e he hb
    have := (Array.all_eq_true_iff_forall_mem.1 haf) e he
    simpa [hb] using this
  · cases hdd : o.dst with
    | none => rw [hdd] at hd; cases hd
    | some t => rw [hdd] at hd; exact ⟨t, rfl, of_decide_eq_true hd⟩
  · intro t ht j oj hj hjd
    have h2 := List.all_eq_true.1 hr t ht
    have hjl : j < l.length := (List.getElem?_eq_some_iff.1 hj).1
    have := List.all_eq_true.1 h2 j (List.mem_range.2 hjl)
    simpa [hj, hjd] using this
theorem ready_allG {l : List Oper} {N : Nat} (chk : calmChk l N = true) {listed : Array Bool} (hlen : listed.size = l.length)
    (h : Region.ready .any l.toArray listed = []) : ∀ i, i < l.length → listed.getD i false = true := by
  intro i
  induction i using Nat.strongRecOn with
  | _ i ih =>
    intro hi
    cases hb : listed.getD i false with
    | true => rfl
    | false =>
      exfalso
      have ho : l[i]? = some l[i] := List.getElem?_eq_getElem hi
      have hmem : i ∈ Region.ready .any l.toArray listed := by
        rw [mem_ready]
        refine ⟨?_, l[i], by simp, fun e he hbd => ?_⟩
        · have : i < listed.size := by omega
          simp [this] at hb ⊢; exact hb
        · exact ih e.on ((calmChk_at chk ho).2.2.1 e he hbd) (by have := (calmChk_at chk ho).2.2.1 e he hbd; omega)
      rw [h] at hmem; cases hmem
theorem yielded_congr {ops : Array Oper} {x y : Array Value} {j : Nat} (hs : x.size = y.size) (h : ∀ o t, ops[j]? = some o → o.dst = some t → x.getD t undef = y.getD t undef) : yielded ops x j = yielded ops y j := by
  unfold yielded
  cases ho : ops[j]? with
  | none => rfl
  | some o =>
    simp only [Option.bind_some]
    cases hd : o.dst with
    | none => rfl
    | some t =>
      simp only [Option.bind_some]
      have := h o t ho hd
      by_cases ht : t < x.size
      · have hy : t < y.size := hs ▸ ht
        simp only [Array.getD, ht, hy, dif_pos] at this
        rw [Array.getElem?_eq_getElem ht, Array.getElem?_eq_getElem hy]
        have e : x[t] = y[t] := this
        rw [e]
      · have hy : ¬ t < y.size := hs ▸ ht
        rw [Array.getElem?_eq_none (Nat.not_lt.1 ht), Array.getElem?_eq_none (Nat.not_lt.1 hy)]
section
variable {P : Program} {Q : Exit → Act → World → Prop} {l : List Oper} {a0 : Act} {w : World} {vs : List (Nat × Value)}
theorem wp_region_calmG {id : Nat} (hm : P.follows .mixedOrders = true) 
    (chk : calmChk l a0.tmps.size = true) (hkeys : vs.all (fun kv => l.any (·.dst == some kv.1)) = true)
    (hop : ∀ (i : Nat) (o : Oper) (t : Nat), l[i]? = some o → o.dst = some t → (Region.wanted o (yielded l.toArray (puts a0 vs).tmps) = true ∧ ∀ W, Below w.heap.size w W → calmAt P o (puts a0 vs).eval W ((puts a0 vs).tmps.getD t undef)) ∨ (Region.wanted o (yielded l.toArray (puts a0 vs).tmps) = false ∧ (puts a0 vs).tmps.getD t undef = undef))
    (hQ : ∀ W, Below w.heap.size w W → Q .normal (puts a0 vs) W) :
    (Code.region id l.toArray true).wp P Q a0 w := by
  have hE : ∀ t, (∀ (j : Nat) (o : Oper), l[j]? = some o → o.dst ≠ some t) → a0.tmps.getD t undef = (puts a0 vs).tmps.getD t undef := by
    intro t hno
    refine (puts_other t vs a0 (fun kv hkv e => ?_)).symm
    have := List.all_eq_true.1 hkeys kv hkv
    obtain ⟨o, ho, hod⟩ := List.any_eq_true.1 this
    obtain ⟨j, hj⟩ := List.getElem?_of_mem ho
    exact hno j o hj (by rw [← e]; simpa using hod)
  have hEs : (puts a0 vs).tmps.size = a0.tmps.size := puts_size _ _
  have hEd : (puts a0 vs).defers = a0.defers := puts_defers _ _
  generalize puts a0 vs = aE at *
  refine wp_region_any hm ?_
  have key : ∀ (fuel : Nat) (listed : Array Bool) (a : Act) (W : World), RInv0 l a0 aE w listed a W →
      (List.range l.length).countP (fun i => !listed.getD i true) ≤ fuel → wpAny P .any l.toArray Q fuel listed a W := by
    intro fuel
    have fin : ∀ (listed : Array Bool) (a : Act) (W : World), RInv0 l a0 aE w listed a W → Region.ready .any l.toArray listed = [] → Q .normal a W := by
      intro listed a W hI hr
      have hall := ready_allG chk hI.len hr
      have ea : a = aE := by
        refine act_ext _ _ hI.df hI.sz (fun t ht => ?_)
        · by_cases hw : ∃ (j : Nat) (o : Oper), l[j]? = some o ∧ o.dst = some t
          · obtain ⟨j, o, hj, ho⟩ := hw
            exact hI.fr1 j o t hj ho (hall j (List.getElem?_eq_some_iff.1 hj).1)
          · rw [hI.fr0 t (fun j o hj ho => (hw ⟨j, o, hj, ho⟩).elim)]
            exact hE t (fun j o hj ho => hw ⟨j, o, hj, ho⟩)
      rw [ea]
      exact hQ W hI.bl
    -- what an operation that may come up reads is at hand
    have look : ∀ (listed : Array Bool) (a : Act) (W : World), RInv0 l a0 aE w listed a W → ∀ (i : Nat) (o : Oper), l[i]? = some o →
        (∀ e ∈ o.after, Region.binds .any e = true → listed.getD e.on false = true) → ∀ t ∈ readsOf o, a.tmps.getD t undef = aE.tmps.getD t undef := by
      intro listed a W hI i o hi hall t ht
      have h := (calmChk_at chk hi).2.2.2.2 t ht
      · by_cases hw : ∃ (j : Nat) (oj : Oper), l[j]? = some oj ∧ oj.dst = some t
        · obtain ⟨j, oj, hj, hjd⟩ := hw
          obtain ⟨e, he, hb, hon⟩ := bindsTo_spec (h j oj hj hjd)
          exact hI.fr1 j oj t hj hjd (by rw [← hon]; exact hall e he hb)
        · rw [hI.fr0 t (fun j oj hj ho => (hw ⟨j, oj, hj, ho⟩).elim)]
          exact hE t (fun j oj hj ho => hw ⟨j, oj, hj, ho⟩)
    induction fuel with
    | zero =>
      intro listed a W hI hc
      have hr : Region.ready .any l.toArray listed = [] := by
        rw [List.eq_nil_iff_forall_not_mem]
        intro i hi
        obtain ⟨h0, o, ho, _⟩ := mem_ready.1 hi
        have hil : i < l.length := by simpa using (Array.getElem?_eq_some_iff.1 ho).1
        have : 0 < (List.range l.length).countP (fun i => !listed.getD i true) := List.countP_pos_iff.2 ⟨i, List.mem_range.2 hil, by rw [h0]; rfl⟩
        omega
      exact ⟨hr, fin listed a W hI hr⟩
    | succ fuel ih =>
      intro listed a W hI hc
      refine ⟨fin listed a W hI, fun i hi => ?_⟩
      obtain ⟨h0, o, ho, hall⟩ := mem_ready.1 hi
      have hio : l[i]? = some o := by simpa using ho
      have hil : i < l.length := (List.getElem?_eq_some_iff.1 hio).1
      have hil' : i < listed.size := by rw [hI.len]; exact hil
      have hi0 : listed.getD i false = false := by simpa [hil'] using h0
      have hC := calmChk_at chk hio
      obtain ⟨t, hdst, htN⟩ := hC.2.2.2.1
      have hwe : Region.wanted o (yielded l.toArray a.tmps) = Region.wanted o (yielded l.toArray aE.tmps) := by
        unfold Region.wanted
        cases hg : o.guard with
        | none => rfl
        | some kb =>
          obtain ⟨k, b⟩ := kb
          obtain ⟨e, he, hb, hon⟩ := bindsTo_spec (hC.1 k b hg)
          have : yielded l.toArray a.tmps k = yielded l.toArray aE.tmps k := yielded_congr hI.sz (fun ok tk hk hd => hI.fr1 k ok tk (by simpa using hk) hd (by rw [← hon]; exact hall e he hb))
          simp only [this]
      have hcnt : (List.range l.length).countP (fun j => !(listed.setIfInBounds i true).getD j true) ≤ fuel := by
        have := count_lt (fun j => !listed.getD j true) (fun j => !(listed.setIfInBounds i true).getD j true) (fun j hj => by
            by_cases e : i = j
            · subst e; simp [hil'] at hj
            · rw [getD_set_ne true e] at hj; exact hj) i (by rw [h0]; rfl) (by simp [hil']) (List.range l.length) (List.mem_range.2 hil)
        omega
      have step : ∀ W', Below w.heap.size w W' → wpAny P .any l.toArray Q fuel (listed.setIfInBounds i true) (a.put (some t) (aE.tmps.getD t undef)) W' := by
        intro W' hW'
        refine ih _ _ _ ⟨by rw [put_defers]; exact hI.df, by rw [put_size]; exact hI.sz, by simpa using hI.len, ?_, ?_, hW'⟩ hcnt
        · intro j oj u hj hjd hl
          by_cases htu : t = u
          · subst htu; rw [put_get_same _ _ _ (by rw [hI.sz, hEs]; exact htN)]
          · rw [put_get_ne _ _ _ _ htu]
            rw [getD_set _ _ _ hil'] at hl
            by_cases e : i = j
            · subst e; rw [hio] at hj; obtain rfl := Option.some.inj hj; rw [hdst] at hjd; exact (htu (Option.some.inj hjd)).elim
            · rw [if_neg e] at hl; exact hI.fr1 j oj u hj hjd hl
        · intro u hno
          have htu : t ≠ u := fun e => by
            subst e
            have := hno i o hio hdst
            rw [getD_set _ _ _ hil', if_pos rfl] at this; cases this
          rw [put_get_ne _ _ _ _ htu]
          refine hI.fr0 u (fun j oj hj hjd => ?_)
          have := hno j oj hj hjd
          rw [getD_set _ _ _ hil'] at this
          by_cases e : i = j
          · rw [if_pos e] at this; cases this
          · rw [if_neg e] at this; exact this
      unfold wpOp
      simp only [ho]
      rcases hop i o t hio hdst with ⟨hw, hcalm⟩ | ⟨hw, hun⟩
      · rw [hwe, hw]
        simp only [if_true]
        refine .inl ?_
        have heq : execOp aE.eval o = execOp a.eval o := execOp_congr o hC.2.1 (fun x hx => by
            cases x with
            | tmp u =>
              have hu : u ∈ readsOf o := List.mem_filterMap.2 ⟨.tmp u, by simpa using hx, rfl⟩
              exact (look listed a W hI i o hio hall u hu).symm
            | _ => rfl)
        have hcalm' : calmAt P o a.eval W (aE.tmps.getD t undef) := by
            refine ⟨?_⟩; have hh := (hcalm W hI.bl).out; unfold calmRun at hh ⊢; rw [← heq]; exact hh
        refine wp_of_calm hcalm' (fun W' hb => ?_)
        rw [hdst]
        exact step W' (below_tr' hI.bl hb)
      · rw [hwe, hw]
        simp only [Bool.false_eq_true, if_false, hdst]
        rw [hun] at step
        exact step W hI.bl
  refine key _ _ _ _ ⟨by rw [hEd], hEs.symm, by simp, ?_, ?_, ⟨rfl, rfl, rfl, Nat.le_refl _, fun _ _ => rfl⟩⟩ ?_
  · intro j o t hj hjd hl; rw [rep_false] at hl; cases hl
  · intro t _; rfl
  · exact Nat.le_trans List.countP_le_length (by simp)
/-- What the region's law asks of one operation; of one whose guard lets it out, too. -/
def CalmG (P : Program) (aE : Act) (w : World) (l : List Oper) (o : Oper) : Prop := ∀ t, o.dst = some t →
  (Region.wanted o (yielded l.toArray aE.tmps) = true ∧ ∀ W, Below w.heap.size w W → calmAt P o aE.eval W (aE.tmps.getD t undef)) ∨ (Region.wanted o (yielded l.toArray aE.tmps) = false ∧ aE.tmps.getD t undef = undef)
theorem CalmG.mk {P : Program} {aE : Act} {w : World} {l : List Oper} {o : Oper} (t : Nat) (v : Value) (hd : o.dst = some t) (hv : aE.tmps.getD t undef = v) (hw : Region.wanted o (yielded l.toArray aE.tmps) = true) (h : ∀ W, Below w.heap.size w W → calmAt P o aE.eval W v) : CalmG P aE w l o := by
  intro t' hd'
  rw [hd] at hd'
  obtain rfl := Option.some.inj hd'
  exact .inl ⟨hw, fun W hW => by rw [hv]; exact h W hW⟩
theorem CalmG.out {P : Program} {aE : Act} {w : World} {l : List Oper} {o : Oper} (t : Nat) (hd : o.dst = some t) (hv : aE.tmps.getD t undef = undef) (hw : Region.wanted o (yielded l.toArray aE.tmps) = false) : CalmG P aE w l o := by
  intro t' hd'
  rw [hd] at hd'
  obtain rfl := Option.some.inj hd'
  exact .inr ⟨hw, hv⟩
theorem region_calmG {id : Nat} (vs : List (Nat × Value)) (hm : P.follows .mixedOrders = true)
    (chk : calmChk l a0.tmps.size = true) (hkeys : vs.all (fun kv => l.any (·.dst == some kv.1)) = true)
    (H : ∀ aE, puts a0 vs = aE → AllBut (CalmG P aE w l) l.length l.length 0 l ∧ ∀ W, Below w.heap.size w W → Q .normal aE W) :
    (Code.region id l.toArray true).wp P Q a0 w := by
  obtain ⟨h2, h3⟩ := H _ rfl
  refine wp_region_calmG hm chk hkeys (fun i o t hi hd => ?_) h3
  have hlt : i < l.length := (List.getElem?_eq_some_iff.1 hi).1
  exact AllBut.spec l 0 h2 i o hi (by omega) (by omega) t hd
theorem calm_run {o : Oper} {ρ : Operand → Value} {W : World} {v : Value} (h : (execOp ρ o).run P W = .ok (.value v) W) : calmAt P o ρ W v := by
  refine ⟨?_⟩
  unfold calmRun
  rw [h]; exact ⟨rfl, rfl⟩
end
end Go.Proofs.Ythkbhaaodegocaa
