/- Texts of the claim, in build order: RegV, RegW, RegX, RegI, RegQ. No condition. -/
import Derived.BigQuiet
import Derived.Test.YtoagfpdicpcjnaaZGroupOrder1
/- A region whose first m operations draw their order and yield values; the others come behind them, in the text's order: the m-th by way of others. -/
namespace Go.Proofs.Ytoagfpdicpcjnaa
open Go.RowKit
set_option linter.unusedVariables false
set_option linter.unusedSimpArgs false
/-- Whether operation i comes behind operation j, by way of others. -/
def reachB (l : List Oper) : Nat → Nat → Nat → Bool
  | 0, _, _ => false
  | f + 1, i, j => match l[i]? with
    | none => false
    | some o => o.after.any (fun e => Region.binds .any e && e.on == j) || o.after.any (fun e => Region.binds .any e && reachB l f e.on j)
theorem reach_listed {l : List Oper} {listed : Array Bool} (dc : ∀ (i : Nat) (o : Oper), l[i]? = some o → listed.getD i false = true → ∀ e ∈ o.after, Region.binds .any e = true → listed.getD e.on false = true) :
    ∀ (f i j : Nat) (o : Oper), l[i]? = some o → (∀ e ∈ o.after, Region.binds .any e = true → listed.getD e.on false = true) → reachB l f i j = true → listed.getD j false = true
  | 0, _, _, _, _, _, h => by cases h
  | f + 1, i, j, o, hi, ha, h => by
    unfold reachB at h
    rw [hi] at h
    simp only [Bool.or_eq_true] at h
    rcases h with h | h
    · rw [Array.any_eq_true'] at h
      obtain ⟨e, he, h2⟩ := h
      simp only [Bool.and_eq_true, beq_iff_eq] at h2
      rw [← h2.2]; exact ha e he h2.1
    · rw [Array.any_eq_true'] at h
      obtain ⟨e, he, h2⟩ := h
      simp only [Bool.and_eq_true] at h2
      have hl := ha e he h2.1
      cases ho : l[e.on]? with
      | none => 
        cases f with
        | zero => cases h2.2
        | succ f => unfold reachB at h2; rw [ho] at h2; cases h2.2
      | some o' => exact reach_listed dc f e.on j o' ho (dc e.on o' ho hl) h2.2
def viaChk (l : List Oper) (m N : Nat) : Bool :=
  (List.range l.length).all fun i => match l[i]? with
    | none => true
    | some o => notSelect o && (o.after.all fun e => !Region.binds .any e || e.on < i) &&
      (if i < m then (match o.guard with | none => true | some (k, _) => bindsTo o k) &&
        (match o.dst with | some t => decide (t < N) | none => false) &&
        ((readsOf o).all fun t => (List.range m).all fun j => match l[j]? with
            | none => true
            | some oj => !(oj.dst == some t) || bindsTo o j)
       else if i = m then (List.range m).all fun j => reachB l l.length i j
       else bindsTo o (i - 1))
theorem viaChk_at {l : List Oper} {m N : Nat} (chk : viaChk l m N = true) {i : Nat} {o : Oper} (hi : l[i]? = some o) :
    (∀ cs b, o.op ≠ .select cs b) ∧ (∀ e ∈ o.after, Region.binds .any e = true → e.on < i) ∧
    (i < m → (∀ k b, o.guard = some (k, b) → bindsTo o k = true) ∧ (∃ t, o.dst = some t ∧ t < N) ∧ (∀ t ∈ readsOf o, ∀ j oj, j < m → l[j]? = some oj → oj.dst = some t → bindsTo o j = true)) ∧
    (i = m → ∀ j, j < m → reachB l l.length i j = true) ∧ (m < i → bindsTo o (i - 1) = true) := by
  unfold viaChk at chk
  have hlt : i < l.length := (List.getElem?_eq_some_iff.1 hi).1
  have h := List.all_eq_true.1 chk i (List.mem_range.2 hlt)
  simp only [hi, Bool.and_eq_true] at h
  obtain ⟨⟨hns, haf⟩, hd⟩ := h
  refine ⟨?_, ?_, ?_, ?_, ?_⟩
  · intro cs b e; rw [notSelect, e] at hns; cases hns
  · intro e he hb
    have := (Array.all_eq_true_iff_forall_mem.1 haf) e he
    simpa [hb] using this
  · intro him
    rw [if_pos him] at hd
    simp only [Bool.and_eq_true] at hd
    obtain ⟨⟨hg, hd⟩, hr⟩ := hd
    refine ⟨?_, ?_, ?_⟩
    · intro k b e; rw [e] at hg; simpa using hg
    · cases hdd : o.dst with
      | none => rw [hdd] at hd; cases hd
      | some t => rw [hdd] at hd; exact ⟨t, rfl, by simpa using hd⟩
    · intro t ht j oj hjm hj hjd
      have h2 := List.all_eq_true.1 hr t ht
      have := List.all_eq_true.1 h2 j (List.mem_range.2 hjm)
      simpa [hj, hjd] using this
  · intro him j hj
    rw [if_neg (by omega), if_pos him] at hd
    exact List.all_eq_true.1 hd j (List.mem_range.2 hj)
  · intro him
    rw [if_neg (by omega), if_neg (by omega)] at hd
    exact hd
structure RInvV (l : List Oper) (m : Nat) (a0 aE : Act) (w0 : World) (listed : Array Bool) (a : Act) (w : World) : Prop where
  df : a.defers = aE.defers
  sz : a.tmps.size = aE.tmps.size
  len : listed.size = l.length
  fr1 : ∀ (j : Nat) (o : Oper) (t : Nat), j < m → l[j]? = some o → o.dst = some t → listed.getD j false = true → a.tmps.getD t undef = aE.tmps.getD t undef
  fr0 : ∀ t : Nat, (∀ (j : Nat) (o : Oper), j < m → l[j]? = some o → o.dst = some t → listed.getD j false = false) → a.tmps.getD t undef = a0.tmps.getD t undef
  bl : Below w0.heap.size w0 w
  rest : ∀ j, m ≤ j → listed.getD j false = false
  dc : ∀ (i : Nat) (o : Oper), l[i]? = some o → listed.getD i false = true → ∀ e ∈ o.after, Region.binds .any e = true → listed.getD e.on false = true
/-- From the m-th on there is one order. -/
theorem any_tailV {P : Program} {Q : Exit → Act → World → Prop} {l : List Oper} {m N : Nat} (chk : viaChk l m N = true) : ∀ (fuel i : Nat) (listed : Array Bool) (a : Act) (W : World), m ≤ i → i ≤ l.length → listed.size = l.length →
    (∀ j, j < l.length → (listed.getD j false = true ↔ j < i)) → l.length - i ≤ fuel → wpList P l.toArray Q (l.drop i) a W → wpAny P .any l.toArray Q fuel listed a W := by
  intro fuel
  induction fuel with
  | zero =>
    intro i listed a W hmi hil hlen hls hf hw
    have hi : i = l.length := by omega
    subst hi
    refine ⟨?_, by rw [List.drop_length] at hw; exact hw⟩
    rw [List.eq_nil_iff_forall_not_mem]
    intro k hk
    obtain ⟨o, _, hkl, hk0, _⟩ := ready_mem hk hlen
    rw [(hls k hkl).2 hkl] at hk0; cases hk0
  | succ fuel ih =>
    intro i listed a W hmi hil hlen hls hf hw
    rcases Nat.lt_or_ge i l.length with hlt | hge
    · have hio : l[i]? = some l[i] := List.getElem?_eq_getElem hlt
      have hC := viaChk_at chk hio
      have hd : l.drop i = l[i] :: l.drop (i + 1) := List.drop_eq_getElem_cons hlt
      rw [hd] at hw
      refine ⟨fun hr => ?_, fun k hk => ?_⟩
      · exfalso
        have hmem : i ∈ Region.ready .any l.toArray listed := by
          rw [mem_ready]
          refine ⟨?_, l[i], by simp, fun e he hbd => (hls _ (by have := hC.2.1 e he hbd; omega)).2 (hC.2.1 e he hbd)⟩
          have h1 : i < listed.size := by omega
          have h2 : listed.getD i false = false := by
            cases hb : listed.getD i false with
            | false => rfl
            | true => exact absurd ((hls i hlt).1 hb) (Nat.lt_irrefl _)
          simpa [h1] using h2
        rw [hr] at hmem; cases hmem
      · obtain ⟨o, hko, hkl, hk0, hall⟩ := ready_mem hk hlen
        have hki : k = i := by
          rcases Nat.lt_trichotomy k i with h | h | h
          · rw [(hls k hkl).2 h] at hk0; cases hk0
          · exact h
          · obtain ⟨e, he, hb, hon⟩ := bindsTo_spec ((viaChk_at chk hko).2.2.2.2 (by omega))
            have := (hls (k - 1) (by omega)).1 (by rw [← hon]; exact hall e he hb)
            omega
        subst hki
        have heo : o = l[k] := by rw [hio] at hko; exact (Option.some.inj hko).symm
        subst heo
        have hk' : k < listed.size := by omega
        have step : ∀ a' W', wpList P l.toArray Q (l.drop (k + 1)) a' W' → wpAny P .any l.toArray Q fuel (listed.setIfInBounds k true) a' W' := by
          intro a' W' h
          refine ih (k + 1) _ a' W' (by omega) (by omega) (by simpa using hlen) (fun j hj => ?_) (by omega) h
          rw [getD_set _ _ _ hk']
          by_cases e : k = j
          · subst e; simp
          · rw [if_neg e, hls j hj]; omega
        unfold wpOp
        have hto : l.toArray[k]? = some l[k] := by simp
        simp only [hto]
        unfold wpList at hw
        split at hw
        · rename_i hwt
          rw [if_pos hwt]
          rcases hw with h | h
          · exact .inl (Oper.wp_mono step h)
          · exact .inr h
        · rename_i hwt
          rw [if_neg hwt]
          exact step _ _ hw
    · have hi : i = l.length := by omega
      subst hi
      rw [List.drop_length] at hw
      refine ⟨fun _ => hw, fun k hk => ?_⟩
      obtain ⟨o, _, hkl, hk0, _⟩ := ready_mem hk hlen
      rw [(hls k hkl).2 hkl] at hk0; cases hk0
section
variable {P : Program} {Q : Exit → Act → World → Prop} {l : List Oper} {a0 : Act} {w : World} {vs : List (Nat × Value)} {m : Nat}
theorem wp_region_via {id : Nat} (hm : P.follows .mixedOrders = true) (hml : m ≤ l.length)
    (chk : viaChk l m a0.tmps.size = true) (hkeys : vs.all (fun kv => (l.take m).any (·.dst == some kv.1)) = true)
    (hop : ∀ (i : Nat) (o : Oper) (t : Nat), i < m → l[i]? = some o → o.dst = some t → (Region.wanted o (yielded l.toArray (puts a0 vs).tmps) = true ∧ ∀ W, Below w.heap.size w W → calmAt P o (puts a0 vs).eval W ((puts a0 vs).tmps.getD t undef)) ∨ (Region.wanted o (yielded l.toArray (puts a0 vs).tmps) = false ∧ (puts a0 vs).tmps.getD t undef = undef))
    (hgd : ∀ (i : Nat) (o : Oper) (k : Nat) (b : Bool), i < m → l[i]? = some o → o.guard = some (k, b) → k < m)
    (hQ : ∀ W, Below w.heap.size w W → wpList P l.toArray Q (l.drop m) (puts a0 vs) W) :
    (Code.region id l.toArray true).wp P Q a0 w := by
  have hE : ∀ t, (∀ (j : Nat) (o : Oper), j < m → l[j]? = some o → o.dst ≠ some t) → a0.tmps.getD t undef = (puts a0 vs).tmps.getD t undef := by
    intro t hno
    refine (puts_other t vs a0 (fun kv hkv e => ?_)).symm
    have := List.all_eq_true.1 hkeys kv hkv
    obtain ⟨o, ho, hod⟩ := List.any_eq_true.1 this
    obtain ⟨j, hj, hjo⟩ := List.mem_take_iff_getElem.1 ho
    exact hno j o (by omega) (by rw [← hjo]; exact List.getElem?_eq_getElem (by omega)) (by rw [← e]; simpa using hod)
  have hEs : (puts a0 vs).tmps.size = a0.tmps.size := puts_size _ _
  have hEd : (puts a0 vs).defers = a0.defers := puts_defers _ _
  generalize puts a0 vs = aE at *
  refine wp_region_any hm ?_
  have key : ∀ (fuel : Nat) (listed : Array Bool) (a : Act) (W : World), RInvV l m a0 aE w listed a W →
      (List.range m).countP (fun i => !listed.getD i true) + (l.length - m) ≤ fuel → wpAny P .any l.toArray Q fuel listed a W := by
    intro fuel
    have fin : ∀ (fuel : Nat) (listed : Array Bool) (a : Act) (W : World), RInvV l m a0 aE w listed a W → (∀ j, j < m → listed.getD j false = true) → l.length - m ≤ fuel → wpAny P .any l.toArray Q fuel listed a W := by
      intro fuel listed a W hI hall hf
      have ea : a = aE := by
        refine act_ext _ _ hI.df hI.sz (fun t ht => ?_)
        · by_cases hw : ∃ (j : Nat) (o : Oper), j < m ∧ l[j]? = some o ∧ o.dst = some t
          · obtain ⟨j, o, hjm, hj, ho⟩ := hw
            exact hI.fr1 j o t hjm hj ho (hall j hjm)
          · rw [hI.fr0 t (fun j o hjm hj ho => (hw ⟨j, o, hjm, hj, ho⟩).elim)]
            exact hE t (fun j o hjm hj ho => hw ⟨j, o, hjm, hj, ho⟩)
      subst ea
      refine any_tailV chk fuel m listed a W (Nat.le_refl _) hml hI.len (fun j hj => ⟨fun h => ?_, fun h => hall j h⟩) hf (hQ W hI.bl)
      rcases Nat.lt_or_ge j m with h2 | h2
      · exact h2
      · rw [hI.rest j h2] at h; cases h
    -- what an operation that may come up reads is at hand
    have look : ∀ (listed : Array Bool) (a : Act) (W : World), RInvV l m a0 aE w listed a W → ∀ (i : Nat) (o : Oper), i < m → l[i]? = some o →
        (∀ e ∈ o.after, Region.binds .any e = true → listed.getD e.on false = true) → ∀ t ∈ readsOf o, a.tmps.getD t undef = aE.tmps.getD t undef := by
      intro listed a W hI i o him hi hall t ht
      have h := ((viaChk_at chk hi).2.2.1 him).2.2 t ht
      · by_cases hw : ∃ (j : Nat) (oj : Oper), j < m ∧ l[j]? = some oj ∧ oj.dst = some t
        · obtain ⟨j, oj, hjm, hj, hjd⟩ := hw
          obtain ⟨e, he, hb, hon⟩ := bindsTo_spec (h j oj hjm hj hjd)
          exact hI.fr1 j oj t hjm hj hjd (by rw [← hon]; exact hall e he hb)
        · rw [hI.fr0 t (fun j oj hjm hj ho => (hw ⟨j, oj, hjm, hj, ho⟩).elim)]
          exact hE t (fun j oj hjm hj ho => hw ⟨j, oj, hjm, hj, ho⟩)
    induction fuel with
    | zero =>
      intro listed a W hI hc
      refine fin 0 listed a W hI (fun j hj => ?_) (by omega)
      have h0 : (List.range m).countP (fun i => !listed.getD i true) = 0 := by omega
      rw [List.countP_eq_zero] at h0
      have := h0 j (List.mem_range.2 hj)
      have hj' : j < listed.size := by rw [hI.len]; omega
      simpa [hj'] using this
    | succ fuel ih =>
      intro listed a W hI hc
      by_cases hall : ∀ j, j < m → listed.getD j false = true
      · exact fin _ listed a W hI hall (by omega)
      · have hno : ∀ i, i ∈ Region.ready .any l.toArray listed → i < m := by
          intro i hi
          rcases Nat.lt_or_ge i m with h | h
          · exact h
          · exfalso
            obtain ⟨o, hio, hil, hi0, ha⟩ := ready_mem hi hI.len
            rcases Nat.eq_or_lt_of_le h with h2 | h2
            · refine hall (fun j hj => ?_)
              exact reach_listed hI.dc _ i j o hio ha ((viaChk_at chk hio).2.2.2.1 h2.symm j hj)
            · obtain ⟨e, he, hb, hon⟩ := bindsTo_spec ((viaChk_at chk hio).2.2.2.2 h2)
              have h3 := ha e he hb
              rw [hon, hI.rest (i - 1) (by omega)] at h3; cases h3
        refine ⟨fun hr => ?_, fun i hi => ?_⟩
        · exfalso
          have all : ∀ i, i < l.length → listed.getD i false = true := by
            intro i
            induction i using Nat.strongRecOn with
            | _ i ih2 =>
              intro hi
              cases hb : listed.getD i false with
              | true => rfl
              | false =>
                exfalso
                have ho : l[i]? = some l[i] := List.getElem?_eq_getElem hi
                have hmem : i ∈ Region.ready .any l.toArray listed := by
                  rw [mem_ready]
                  refine ⟨?_, l[i], by simp, fun e he hbd => ?_⟩
                  · have : i < listed.size := by have := hI.len; omega
                    simp [this] at hb ⊢; exact hb
                  · exact ih2 e.on ((viaChk_at chk ho).2.1 e he hbd) (by have := (viaChk_at chk ho).2.1 e he hbd; omega)
                rw [hr] at hmem; cases hmem
          exact hall (fun j hj => all j (by omega))
        · have him := hno i hi
          obtain ⟨o, hio, hil, hi0, hal⟩ := ready_mem hi hI.len
          have hil' : i < listed.size := by rw [hI.len]; exact hil
          have ho : l.toArray[i]? = some o := by simpa using hio
          have hC := viaChk_at chk hio
          have hCm := hC.2.2.1 him
          obtain ⟨t, hdst, htN⟩ := hCm.2.1
          have hwe : Region.wanted o (yielded l.toArray a.tmps) = Region.wanted o (yielded l.toArray aE.tmps) := by
            unfold Region.wanted
            cases hg : o.guard with
            | none => rfl
            | some kb =>
              obtain ⟨k, b⟩ := kb
              obtain ⟨e, he, hb, hon⟩ := bindsTo_spec (hCm.1 k b hg)
              have : yielded l.toArray a.tmps k = yielded l.toArray aE.tmps k := yielded_congr hI.sz (fun ok tk hk hd => hI.fr1 k ok tk (hgd i o k b him hio hg) (by simpa using hk) hd (by rw [← hon]; exact hal e he hb))
              simp only [this]
          have hcnt : (List.range m).countP (fun j => !(listed.setIfInBounds i true).getD j true) + (l.length - m) ≤ fuel := by
            have := count_lt (fun j => !listed.getD j true) (fun j => !(listed.setIfInBounds i true).getD j true) (fun j hj => by
                by_cases e : i = j
                · subst e; simp [hil'] at hj
                · rw [getD_set_ne true e] at hj; exact hj) i (by simpa [hil'] using hi0) (by simp [hil']) (List.range m) (List.mem_range.2 him)
            omega
          have step : ∀ W', Below w.heap.size w W' → wpAny P .any l.toArray Q fuel (listed.setIfInBounds i true) (a.put (some t) (aE.tmps.getD t undef)) W' := by
            intro W' hW'
            refine ih _ _ _ ⟨by rw [put_defers]; exact hI.df, by rw [put_size]; exact hI.sz, by simpa using hI.len, ?_, ?_, hW', ?_, ?_⟩ hcnt
            · intro j oj u hjm hj hjd hl
              by_cases htu : t = u
              · subst htu; rw [put_get_same _ _ _ (by rw [hI.sz, hEs]; exact htN)]
              · rw [put_get_ne _ _ _ _ htu]
                rw [getD_set _ _ _ hil'] at hl
                by_cases e : i = j
                · subst e; rw [hio] at hj; obtain rfl := Option.some.inj hj; rw [hdst] at hjd; exact (htu (Option.some.inj hjd)).elim
                · rw [if_neg e] at hl; exact hI.fr1 j oj u hjm hj hjd hl
            · intro u hnu
              have htu : t ≠ u := fun e => by
                subst e
                have := hnu i o him hio hdst
                rw [getD_set _ _ _ hil', if_pos rfl] at this; cases this
              rw [put_get_ne _ _ _ _ htu]
              refine hI.fr0 u (fun j oj hjm hj hjd => ?_)
              have := hnu j oj hjm hj hjd
              rw [getD_set _ _ _ hil'] at this
              by_cases e : i = j
              · rw [if_pos e] at this; cases this
              · rw [if_neg e] at this; exact this
            · intro j hj
              rw [getD_set _ _ _ hil', if_neg (by omega)]; exact hI.rest j hj
            · intro j oj hj hl e he hb
              rw [getD_set _ _ _ hil']
              by_cases ei : i = e.on
              · rw [if_pos ei]
              · rw [if_neg ei]
                rw [getD_set _ _ _ hil'] at hl
                by_cases ej : i = j
                · subst ej; rw [hio] at hj; obtain rfl := Option.some.inj hj; exact hal e he hb
                · rw [if_neg ej] at hl; exact hI.dc j oj hj hl e he hb
          unfold wpOp
          simp only [ho]
          rcases hop i o t him hio hdst with ⟨hw, hcalm⟩ | ⟨hw, hun⟩
          · rw [hwe, hw]
            simp only [if_true]
            refine .inl ?_
            have heq : execOp aE.eval o = execOp a.eval o := execOp_congr o hC.1 (fun x hx => by
                cases x with
                | tmp u =>
                  have hu : u ∈ readsOf o := List.mem_filterMap.2 ⟨.tmp u, by simpa using hx, rfl⟩
                  exact (look listed a W hI i o him hio hal u hu).symm
                | _ => rfl)
            have hcalm' : calmAt P o a.eval W (aE.tmps.getD t undef) := by
                refine ⟨?_⟩; have hh := (hcalm W hI.bl).out; unfold calmRun at hh ⊢; rw [← heq]; exact hh
            refine wp_of_calm hcalm' (fun W' hb => ?_)
            rw [hdst]
            exact step W' (below_tr' hI.bl hb)
          · rw [hwe, hw]
            simp only [Bool.false_eq_true, if_false, hdst]
            rw [hun] at step
            exact step W hI.bl
  refine key _ _ _ _ ⟨by rw [hEd], hEs.symm, by simp, ?_, ?_, ⟨rfl, rfl, rfl, Nat.le_refl _, fun _ _ => rfl⟩, ?_, ?_⟩ ?_
  · intro j o t _ hj hjd hl; rw [rep_false] at hl; cases hl
  · intro t _; rfl
  · intro j _; exact rep_false _ _
  · intro j o _ hl; rw [rep_false] at hl; cases hl
  · have : (List.range m).countP (fun i => !(Array.replicate l.toArray.size false).getD i true) ≤ m := Nat.le_trans List.countP_le_length (by simp)
    simp at this ⊢; omega
theorem region_via {id : Nat} (m : Nat) (vs : List (Nat × Value)) (hm : P.follows .mixedOrders = true) (hml : m ≤ l.length)
    (chk : viaChk l m a0.tmps.size = true) (hgd : guardsIn l m = true) (hkeys : vs.all (fun kv => (l.take m).any (·.dst == some kv.1)) = true)
    (H : ∀ aE, puts a0 vs = aE → AllBut (CalmG P aE w l) l.length l.length 0 (l.take m) ∧ ∀ W, Below w.heap.size w W → wpList P l.toArray Q (l.drop m) aE W) :
    (Code.region id l.toArray true).wp P Q a0 w := by
  obtain ⟨h2, h3⟩ := H _ rfl
  refine wp_region_via hm hml chk hkeys (fun i o t him hi hd => ?_) (fun i o k b him hi hg => guardsIn_at hgd him hi hg) h3
  have hlt : i < l.length := (List.getElem?_eq_some_iff.1 hi).1
  exact AllBut.spec (l.take m) 0 h2 i o (by rw [List.getElem?_take_of_lt him]; exact hi) (by omega) (by omega) t hd
end
end Go.Proofs.Ytoagfpdicpcjnaa
/- A region whose first m operations draw their order and yield values, one of them by making a new block; the others come behind them, in the text's order. -/
namespace Go.Proofs.Ytoagfpdicpcjnaa
open Go.RowKit
set_option linter.unusedVariables false
set_option linter.unusedSimpArgs false
structure RInvW (l : List Oper) (m q d : Nat) (V : Nat → Value) (U : Array Value) (T : TypeId) (a0 aE : Act) (w0 : World) (listed : Array Bool) (a : Act) (w : World) : Prop where
  df : a.defers = aE.defers
  sz : a.tmps.size = aE.tmps.size
  len : listed.size = l.length
  fr1 : ∀ (j : Nat) (o : Oper) (t : Nat), j < m → l[j]? = some o → o.dst = some t → t ≠ d → listed.getD j false = true → a.tmps.getD t undef = aE.tmps.getD t undef
  fr0 : ∀ t : Nat, t ≠ d → (∀ (j : Nat) (o : Oper), j < m → l[j]? = some o → o.dst = some t → listed.getD j false = false) → a.tmps.getD t undef = a0.tmps.getD t undef
  bl : Below w0.heap.size w0 w
  box : listed.getD q false = true → ∃ g, a.tmps.getD d undef = V g ∧ w0.heap.size ≤ g ∧ w.heap[g]? = some (.cells U T (0, 0))
  rest : ∀ j, m ≤ j → listed.getD j false = false
  dc : ∀ (i : Nat) (o : Oper), l[i]? = some o → listed.getD i false = true → ∀ e ∈ o.after, Region.binds .any e = true → listed.getD e.on false = true
/-- Only operation q writes slot d, and no other of the first m reads it. -/
def onlyChk (l : List Oper) (m q d : Nat) : Bool := (List.range m).all fun i => match l[i]? with
  | none => true
  | some o => if i = q then (o.dst == some d && o.guard.isNone) && !(readsOf o).contains d else !(o.dst == some d) && !(readsOf o).contains d
theorem onlyChk_at {l : List Oper} {m q d : Nat} (h : onlyChk l m q d = true) {i : Nat} {o : Oper} (him : i < m) (hi : l[i]? = some o) : (i = q → (o.dst = some d ∧ o.guard = none) ∧ d ∉ readsOf o) ∧ (i ≠ q → o.dst ≠ some d ∧ d ∉ readsOf o) := by
  have := List.all_eq_true.1 h i (List.mem_range.2 him)
  rw [hi] at this
  simp only at this
  constructor
  · intro e; rw [if_pos e] at this; simp only [Bool.and_eq_true, beq_iff_eq, Option.isNone_iff_eq_none, Bool.not_eq_true'] at this; exact ⟨this.1, by have := this.2; simpa using this⟩
  · intro e; rw [if_neg e] at this; simp only [Bool.and_eq_true, Bool.not_eq_true', beq_eq_false_iff_ne] at this; exact ⟨this.1, by have := this.2; simpa using this⟩
section
variable {P : Program} {Q : Exit → Act → World → Prop} {l : List Oper} {a0 : Act} {w : World} {vs : List (Nat × Value)} {m q d : Nat} {V : Nat → Value} {U : Array Value} {T : TypeId} {oq : Oper}
theorem wp_region_boxvia {id : Nat} (hm : P.follows .mixedOrders = true) (hml : m ≤ l.length)
    (chk : viaChk l m a0.tmps.size = true) (hkeys : vs.all (fun kv => (l.take m).any (·.dst == some kv.1)) = true)
    (hqm : q < m) (hoq : l[q]? = some oq) (hd : d < a0.tmps.size) (only : onlyChk l m q d = true)
    (hmk : ∀ (ρ : Operand → Value) (W : World), (∀ t ∈ readsOf oq, ρ (.tmp t) = (puts a0 vs).tmps.getD t undef) → (execOp ρ oq).run P W = .ok (.value (V W.heap.size)) (W.alloc (.cells U T)))
    (hop : ∀ (i : Nat) (o : Oper) (t : Nat), i < m → i ≠ q → l[i]? = some o → o.dst = some t → (Region.wanted o (yielded l.toArray (puts a0 vs).tmps) = true ∧ ∀ W, Below w.heap.size w W → calmAt P o (puts a0 vs).eval W ((puts a0 vs).tmps.getD t undef)) ∨ (Region.wanted o (yielded l.toArray (puts a0 vs).tmps) = false ∧ (puts a0 vs).tmps.getD t undef = undef))
    (hgd : ∀ (i : Nat) (o : Oper) (k : Nat) (b : Bool), i < m → l[i]? = some o → o.guard = some (k, b) → k < m ∧ k ≠ q)
    (hQ : ∀ g W, Below w.heap.size w W → w.heap.size ≤ g → W.heap[g]? = some (.cells U T (0, 0)) → wpList P l.toArray Q (l.drop m) ((puts a0 vs).put (some d) (V g)) W) :
    (Code.region id l.toArray true).wp P Q a0 w := by
  have hE : ∀ t, (∀ (j : Nat) (o : Oper), j < m → l[j]? = some o → o.dst ≠ some t) → a0.tmps.getD t undef = (puts a0 vs).tmps.getD t undef := by
    intro t hno
    refine (puts_other t vs a0 (fun kv hkv e => ?_)).symm
    have := List.all_eq_true.1 hkeys kv hkv
    obtain ⟨o, ho, hod⟩ := List.any_eq_true.1 this
    obtain ⟨j, hj, hjo⟩ := List.mem_take_iff_getElem.1 ho
    exact hno j o (by omega) (by rw [← hjo]; exact List.getElem?_eq_getElem (by omega)) (by rw [← e]; simpa using hod)
  have hEs : (puts a0 vs).tmps.size = a0.tmps.size := puts_size _ _
  have hEd : (puts a0 vs).defers = a0.defers := puts_defers _ _
  generalize puts a0 vs = aE at *
  refine wp_region_any hm ?_
  have key : ∀ (fuel : Nat) (listed : Array Bool) (a : Act) (W : World), RInvW l m q d V U T a0 aE w listed a W →
      (List.range m).countP (fun i => !listed.getD i true) + (l.length - m) ≤ fuel → wpAny P .any l.toArray Q fuel listed a W := by
    intro fuel
    have fin : ∀ (fuel : Nat) (listed : Array Bool) (a : Act) (W : World), RInvW l m q d V U T a0 aE w listed a W → (∀ j, j < m → listed.getD j false = true) → l.length - m ≤ fuel → wpAny P .any l.toArray Q fuel listed a W := by
      intro fuel listed a W hI hall hf
      obtain ⟨g, hg, hg0, hgc⟩ := hI.box (hall q hqm)
      have ea : a = aE.put (some d) (V g) := by
        refine act_ext _ _ (by rw [put_defers]; exact hI.df) (by rw [put_size]; exact hI.sz) (fun t ht => ?_)
        by_cases htd : t = d
        · subst htd; rw [hg, put_get_same _ _ _ (by rw [hEs]; exact hd)]
        · rw [put_get_ne _ _ _ _ (Ne.symm htd)]
          by_cases hw : ∃ (j : Nat) (o : Oper), j < m ∧ l[j]? = some o ∧ o.dst = some t
          · obtain ⟨j, o, hjm, hj, ho⟩ := hw
            exact hI.fr1 j o t hjm hj ho htd (hall j hjm)
          · rw [hI.fr0 t htd (fun j o hjm hj ho => (hw ⟨j, o, hjm, hj, ho⟩).elim)]
            exact hE t (fun j o hjm hj ho => hw ⟨j, o, hjm, hj, ho⟩)
      subst ea
      refine any_tailV chk fuel m listed _ W (Nat.le_refl _) hml hI.len (fun j hj => ⟨fun h => ?_, fun h => hall j h⟩) hf (hQ g W hI.bl hg0 hgc)
      rcases Nat.lt_or_ge j m with h2 | h2
      · exact h2
      · rw [hI.rest j h2] at h; cases h
    -- what an operation that may come up reads is at hand
    have look : ∀ (listed : Array Bool) (a : Act) (W : World), RInvW l m q d V U T a0 aE w listed a W → ∀ (i : Nat) (o : Oper), i < m → l[i]? = some o →
        (∀ e ∈ o.after, Region.binds .any e = true → listed.getD e.on false = true) → ∀ t ∈ readsOf o, t ≠ d → a.tmps.getD t undef = aE.tmps.getD t undef := by
      intro listed a W hI i o him hi hall t ht htd
      have h := ((viaChk_at chk hi).2.2.1 him).2.2 t ht
      · by_cases hw : ∃ (j : Nat) (oj : Oper), j < m ∧ l[j]? = some oj ∧ oj.dst = some t
        · obtain ⟨j, oj, hjm, hj, hjd⟩ := hw
          obtain ⟨e, he, hb, hon⟩ := bindsTo_spec (h j oj hjm hj hjd)
          exact hI.fr1 j oj t hjm hj hjd htd (by rw [← hon]; exact hall e he hb)
        · rw [hI.fr0 t htd (fun j oj hjm hj ho => (hw ⟨j, oj, hjm, hj, ho⟩).elim)]
          exact hE t (fun j oj hjm hj ho => hw ⟨j, oj, hjm, hj, ho⟩)
    induction fuel with
    | zero =>
      intro listed a W hI hc
      refine fin 0 listed a W hI (fun j hj => ?_) (by omega)
      have h0 : (List.range m).countP (fun i => !listed.getD i true) = 0 := by omega
      rw [List.countP_eq_zero] at h0
      have := h0 j (List.mem_range.2 hj)
      have hj' : j < listed.size := by rw [hI.len]; omega
      simpa [hj'] using this
    | succ fuel ih =>
      intro listed a W hI hc
      by_cases hall : ∀ j, j < m → listed.getD j false = true
      · exact fin _ listed a W hI hall (by omega)
      · have hno : ∀ i, i ∈ Region.ready .any l.toArray listed → i < m := by
          intro i hi
          rcases Nat.lt_or_ge i m with h | h
          · exact h
          · exfalso
            obtain ⟨o, hio, hil, hi0, ha⟩ := ready_mem hi hI.len
            rcases Nat.eq_or_lt_of_le h with h2 | h2
            · refine hall (fun j hj => ?_)
              exact reach_listed hI.dc _ i j o hio ha ((viaChk_at chk hio).2.2.2.1 h2.symm j hj)
            · obtain ⟨e, he, hb, hon⟩ := bindsTo_spec ((viaChk_at chk hio).2.2.2.2 h2)
              have h3 := ha e he hb
              rw [hon, hI.rest (i - 1) (by omega)] at h3; cases h3
        refine ⟨fun hr => ?_, fun i hi => ?_⟩
        · exfalso
          have all : ∀ i, i < l.length → listed.getD i false = true := by
            intro i
            induction i using Nat.strongRecOn with
            | _ i ih2 =>
              intro hi
              cases hb : listed.getD i false with
              | true => rfl
              | false =>
                exfalso
                have ho : l[i]? = some l[i] := List.getElem?_eq_getElem hi
                have hmem : i ∈ Region.ready .any l.toArray listed := by
                  rw [mem_ready]
                  refine ⟨?_, l[i], by simp, fun e he hbd => ?_⟩
                  · have : i < listed.size := by have := hI.len; omega
                    simp [this] at hb ⊢; exact hb
                  · exact ih2 e.on ((viaChk_at chk ho).2.1 e he hbd) (by have := (viaChk_at chk ho).2.1 e he hbd; omega)
                rw [hr] at hmem; cases hmem
          exact hall (fun j hj => all j (by omega))
        · have him := hno i hi
          obtain ⟨o, hio, hil, hi0, hal⟩ := ready_mem hi hI.len
          have hil' : i < listed.size := by rw [hI.len]; exact hil
          have ho : l.toArray[i]? = some o := by simpa using hio
          have hC := viaChk_at chk hio
          have hCm := hC.2.2.1 him
          obtain ⟨t, hdst, htN⟩ := hCm.2.1
          have hwe : Region.wanted o (yielded l.toArray a.tmps) = Region.wanted o (yielded l.toArray aE.tmps) := by
            unfold Region.wanted
            cases hg : o.guard with
            | none => rfl
            | some kb =>
              obtain ⟨k, b⟩ := kb
              obtain ⟨e, he, hb, hon⟩ := bindsTo_spec (hCm.1 k b hg)
              have : yielded l.toArray a.tmps k = yielded l.toArray aE.tmps k := yielded_congr hI.sz (fun ok tk hk hdk => hI.fr1 k ok tk (hgd i o k b him hio hg).1 (by simpa using hk) hdk (fun e2 => ((onlyChk_at only (hgd i o k b him hio hg).1 (by simpa using hk)).2 (hgd i o k b him hio hg).2).1 (by rw [hdk, e2])) (by rw [← hon]; exact hal e he hb))
              simp only [this]
          have hcnt : (List.range m).countP (fun j => !(listed.setIfInBounds i true).getD j true) + (l.length - m) ≤ fuel := by
            have := count_lt (fun j => !listed.getD j true) (fun j => !(listed.setIfInBounds i true).getD j true) (fun j hj => by
                by_cases e : i = j
                · subst e; simp [hil'] at hj
                · rw [getD_set_ne true e] at hj; exact hj) i (by simpa [hil'] using hi0) (by simp [hil']) (List.range m) (List.mem_range.2 him)
            omega
          have dcS : ∀ (i2 : Nat) (o2 : Oper), l[i2]? = some o2 → (listed.setIfInBounds i true).getD i2 false = true → ∀ e ∈ o2.after, Region.binds .any e = true → (listed.setIfInBounds i true).getD e.on false = true := by
            intro j oj hj hl e he hb
            rw [getD_set _ _ _ hil']
            by_cases ei : i = e.on
            · rw [if_pos ei]
            · rw [if_neg ei]
              rw [getD_set _ _ _ hil'] at hl
              by_cases ej : i = j
              · subst ej; rw [hio] at hj; obtain rfl := Option.some.inj hj; exact hal e he hb
              · rw [if_neg ej] at hl; exact hI.dc j oj hj hl e he hb
          by_cases hiq : i = q
          · -- the new block
            subst hiq
            have eo : o = oq := by rw [hoq] at hio; exact (Option.some.inj hio).symm
            subst eo
            obtain ⟨⟨hod, hogd⟩, hord⟩ := (onlyChk_at only him hio).1 rfl
            have hrun := hmk a.eval W (fun t ht => look listed a W hI i o him hio hal t ht (fun e => hord (e ▸ ht)))
            have hw : Region.wanted o (yielded l.toArray a.tmps) = true := by unfold Region.wanted; rw [hogd]
            unfold wpOp
            simp only [ho, hw, if_true]
            refine .inl ?_
            unfold Oper.wp
            rw [hrun]
            simp only [Oper.upon, hod]
            refine ih _ _ _ ⟨by rw [put_defers]; exact hI.df, by rw [put_size]; exact hI.sz, by simpa using hI.len, ?_, ?_, bal hI.bl _, fun _ => ⟨W.heap.size, put_get_same _ _ _ (by rw [hI.sz, hEs]; exact hd), hI.bl.size, heap_alloc_new _ _⟩, ?_, dcS⟩ hcnt
            · intro j oj u hjm hj hjd hud hl
              rw [put_get_ne _ _ _ _ (Ne.symm hud)]
              rw [getD_set _ _ _ hil'] at hl
              by_cases e : i = j
              · subst e; rw [hio] at hj; obtain rfl := Option.some.inj hj; rw [hod] at hjd; exact (hud (Option.some.inj hjd).symm).elim
              · rw [if_neg e] at hl; exact hI.fr1 j oj u hjm hj hjd hud hl
            · intro u hud hnu
              rw [put_get_ne _ _ _ _ (Ne.symm hud)]
              refine hI.fr0 u hud (fun j oj hjm hj hjd => ?_)
              have := hnu j oj hjm hj hjd
              rw [getD_set _ _ _ hil'] at this
              by_cases e : i = j
              · rw [if_pos e] at this; cases this
              · rw [if_neg e] at this; exact this
            · intro j hj
              rw [getD_set _ _ _ hil', if_neg (by omega)]; exact hI.rest j hj
          · obtain ⟨hon1, hon2⟩ := (onlyChk_at only him hio).2 hiq
            have htd : t ≠ d := fun e => hon1 (by rw [hdst, e])
            have step : ∀ W', Below w.heap.size w W' → (∀ g, w.heap.size ≤ g → W.heap[g]? = some (.cells U T (0, 0)) → W'.heap[g]? = some (.cells U T (0, 0))) → wpAny P .any l.toArray Q fuel (listed.setIfInBounds i true) (a.put (some t) (aE.tmps.getD t undef)) W' := by
              intro W' hW' hkeep
              refine ih _ _ _ ⟨by rw [put_defers]; exact hI.df, by rw [put_size]; exact hI.sz, by simpa using hI.len, ?_, ?_, hW', ?_, ?_, dcS⟩ hcnt
              · intro j oj u hjm hj hjd hud hl
                by_cases htu : t = u
                · subst htu; rw [put_get_same _ _ _ (by rw [hI.sz, hEs]; exact htN)]
                · rw [put_get_ne _ _ _ _ htu]
                  rw [getD_set _ _ _ hil'] at hl
                  by_cases e : i = j
                  · subst e; rw [hio] at hj; obtain rfl := Option.some.inj hj; rw [hdst] at hjd; exact (htu (Option.some.inj hjd)).elim
                  · rw [if_neg e] at hl; exact hI.fr1 j oj u hjm hj hjd hud hl
              · intro u hud hnu
                have htu : t ≠ u := fun e => by
                  subst e
                  have := hnu i o him hio hdst
                  rw [getD_set _ _ _ hil', if_pos rfl] at this; cases this
                rw [put_get_ne _ _ _ _ htu]
                refine hI.fr0 u hud (fun j oj hjm hj hjd => ?_)
                have := hnu j oj hjm hj hjd
                rw [getD_set _ _ _ hil'] at this
                by_cases e : i = j
                · rw [if_pos e] at this; cases this
                · rw [if_neg e] at this; exact this
              · intro hl
                rw [getD_set _ _ _ hil', if_neg hiq] at hl
                obtain ⟨g, h1, h2, h3⟩ := hI.box hl
                exact ⟨g, by rw [put_get_ne _ _ _ _ htd]; exact h1, h2, hkeep g h2 h3⟩
              · intro j hj
                rw [getD_set _ _ _ hil', if_neg (by omega)]; exact hI.rest j hj
            unfold wpOp
            simp only [ho]
            rcases hop i o t him hiq hio hdst with ⟨hw, hcalm⟩ | ⟨hw, hun⟩
            · rw [hwe, hw]
              simp only [if_true]
              refine .inl ?_
              have heq : execOp aE.eval o = execOp a.eval o := execOp_congr o hC.1 (fun x hx => by
                  cases x with
                  | tmp u =>
                    have hu : u ∈ readsOf o := List.mem_filterMap.2 ⟨.tmp u, by simpa using hx, rfl⟩
                    exact (look listed a W hI i o him hio hal u hu (fun e => hon2 (e ▸ hu))).symm
                  | _ => rfl)
              have hcalm' : calmAt P o a.eval W (aE.tmps.getD t undef) := by
                  refine ⟨?_⟩; have hh := (hcalm W hI.bl).out; unfold calmRun at hh ⊢; rw [← heq]; exact hh
              refine wp_of_calm hcalm' (fun W' hb => ?_)
              rw [hdst]
              exact step W' (below_tr' hI.bl hb) (fun g _ hg => by rw [hb.block _ (Array.getElem?_eq_some_iff.1 hg).1]; exact hg)
            · rw [hwe, hw]
              simp only [Bool.false_eq_true, if_false, hdst]
              rw [hun] at step
              exact step W hI.bl (fun _ _ h => h)
  refine key _ _ _ _ ⟨by rw [hEd], hEs.symm, by simp, ?_, ?_, ⟨rfl, rfl, rfl, Nat.le_refl _, fun _ _ => rfl⟩, (fun h => by rw [rep_false] at h; cases h), ?_, ?_⟩ ?_
  · intro j o t _ hj hjd _ hl; rw [rep_false] at hl; cases hl
  · intro t _ _; rfl
  · intro j _; exact rep_false _ _
  · intro j o _ hl; rw [rep_false] at hl; cases hl
  · have : (List.range m).countP (fun i => !(Array.replicate l.toArray.size false).getD i true) ≤ m := Nat.le_trans List.countP_le_length (by simp)
    simp at this ⊢; omega
def guardsOff (l : List Oper) (m q : Nat) : Bool := (l.take m).all fun o => match o.guard with | none => true | some (k, _) => decide (k < m) && k != q
theorem guardsOff_at (h : guardsOff l m q = true) {i : Nat} {o : Oper} {k : Nat} {b : Bool} (him : i < m) (hi : l[i]? = some o) (hg : o.guard = some (k, b)) : k < m ∧ k ≠ q := by
  have hlt : i < l.length := (List.getElem?_eq_some_iff.1 hi).1
  have hmem : o ∈ l.take m := List.mem_take_iff_getElem.2 ⟨i, by omega, (List.getElem?_eq_some_iff.1 hi).2⟩
  have := List.all_eq_true.1 h o hmem
  rw [hg] at this
  simp only [Bool.and_eq_true, decide_eq_true_eq, bne_iff_ne] at this
  exact this
/-- m: the drawn ones; q: the one among them that makes the block (cells U, slot d, its value V of the block's number). -/
theorem region_boxvia {id : Nat} (m q d : Nat) (V : Nat → Value) (U : Array Value) (T : TypeId) (vs : List (Nat × Value)) (hm : P.follows .mixedOrders = true) (hml : m ≤ l.length) (hoq : l[q]? = some oq)
    (chk : viaChk l m a0.tmps.size = true) (hgd : guardsOff l m q = true) (hkeys : vs.all (fun kv => (l.take m).any (·.dst == some kv.1)) = true) (hqm : q < m) (hd : d < a0.tmps.size) (only : onlyChk l m q d = true)
    (H : ∀ aE, puts a0 vs = aE → (∀ (ρ : Operand → Value) (W : World), (∀ t ∈ readsOf oq, ρ (.tmp t) = aE.tmps.getD t undef) → (execOp ρ oq).run P W = .ok (.value (V W.heap.size)) (W.alloc (.cells U T))) ∧
      AllBut (CalmG P aE w l) q q 0 (l.take m) ∧ ∀ g W, Below w.heap.size w W → w.heap.size ≤ g → W.heap[g]? = some (.cells U T (0, 0)) → wpList P l.toArray Q (l.drop m) (aE.put (some d) (V g)) W) :
    (Code.region id l.toArray true).wp P Q a0 w := by
  obtain ⟨h1, h2, h3⟩ := H _ rfl
  refine wp_region_boxvia hm hml chk hkeys hqm hoq hd only h1 (fun i o t him hiq hi hd => ?_) (fun i o k b him hi hg => guardsOff_at hgd him hi hg) h3
  have hlt : i < l.length := (List.getElem?_eq_some_iff.1 hi).1
  exact AllBut.spec (l.take m) 0 h2 i o (by rw [List.getElem?_take_of_lt him]; exact hi) (by omega) (by omega) t hd
end
end Go.Proofs.Ytoagfpdicpcjnaa
/- A region whose first m operations draw their order and yield values of which a relation is known (slot, value, world); the others come behind them, in the text's order. (Printed by genregx.py, a program of this session.) -/
namespace Go.Proofs.Ytoagfpdicpcjnaa
open Go.RowKit
set_option linter.unusedVariables false
set_option linter.unusedSimpArgs false
structure relAt (P : Program) (o : Oper) (a : Act) (W : World) (S : Value → World → Prop) (Q : Exit → Act → World → Prop) : Prop where
  out : o.wp P a W (fun a' W' => ∃ v, a' = a.put o.dst v ∧ Below W.heap.size W W' ∧ S v W') Q
theorem rel_calm {P : Program} {o : Oper} {a : Act} {W : World} {S : Value → World → Prop} {Q : Exit → Act → World → Prop} {v : Value} (h : calmAt P o a.eval W v) (hS : ∀ W', Below W.heap.size W W' → S v W') : relAt P o a W S Q :=
  ⟨wp_of_calm h fun W' hb => ⟨v, rfl, hb, hS W' hb⟩⟩
theorem rel_new {P : Program} {o : Oper} {a : Act} {W W' : World} {S : Value → World → Prop} {Q : Exit → Act → World → Prop} {v : Value} (h : (execOp a.eval o).run P W = .ok (.value v) W') (hb : Below W.heap.size W W') (hS : S v W') : relAt P o a W S Q := by
  refine ⟨?_⟩
  unfold Oper.wp
  rw [h]
  exact ⟨v, rfl, hb, hS⟩
/-- What a call leaves. -/
def RelPost (W : World) (S : Value → World → Prop) (e : Ending) (W' : World) : Prop := ∃ v, e = .returned v ∧ Below W.heap.size W W' ∧ S v W'
theorem rel_call {P : Program} {o : Oper} {a : Act} {W : World} {S : Value → World → Prop} {Q : Exit → Act → World → Prop} (f : Nat) (c : Call) (args : Array Value) (ho : o.op = .call c) (hc : c.callee = .value (.func f)) (ha : c.args.map a.eval = args)
    (hf : (callFunc f args).run P W = .ok (.enter f args) W) (h : Calls P f args W (RelPost W S)) : relAt P o a W S Q := by
  refine ⟨?_⟩
  have hr : (execOp a.eval o).run P W = .ok (.enter f args) W := by
    unfold execOp
    have hρ : a.eval (.func f) = .func (.func f) #[] #[] := rfl
    simp only [ho, resolve, hc, hρ, ha, Deferred.ofValue, Sem.run_bind, Sem.run_pure, Result.andThen_ok, invoke, Array.append_empty, Array.empty_append, hf]
  unfold Oper.wp
  rw [hr, Oper.upon_enter]
  exact h.mono fun e w'' ⟨v, he, hb, hS⟩ => by subst he; exact ⟨v, rfl, hb, hS⟩
structure RInvX (l : List Oper) (m : Nat) (Rel : Nat → Value → World → Prop) (a0 : Act) (w0 : World) (listed : Array Bool) (a : Act) (w : World) : Prop where
  df : a.defers = a0.defers
  sz : a.tmps.size = a0.tmps.size
  len : listed.size = l.length
  fr1 : ∀ (j : Nat) (o : Oper) (t : Nat), j < m → l[j]? = some o → o.dst = some t → listed.getD j false = true → Rel t (a.tmps.getD t undef) w
  fr0 : ∀ t : Nat, (∀ (j : Nat) (o : Oper), j < m → l[j]? = some o → o.dst = some t → listed.getD j false = false) → a.tmps.getD t undef = a0.tmps.getD t undef
  bl : Below w0.heap.size w0 w
  rest : ∀ j, m ≤ j → listed.getD j false = false
  dc : ∀ (i : Nat) (o : Oper), l[i]? = some o → listed.getD i false = true → ∀ e ∈ o.after, Region.binds .any e = true → listed.getD e.on false = true
/-- What an operation may take of the slots that it reads. -/
def Taken (ts : List Nat) (Rel : Nat → Value → World → Prop) (a0 a : Act) (W : World) (u : Nat) : Prop := (ts.contains u = true → Rel u (a.tmps.getD u undef) W) ∧ (ts.contains u = false → a.tmps.getD u undef = a0.tmps.getD u undef)
structure RelOk (P : Program) (ts : List Nat) (Rel : Nat → Value → World → Prop) (Q : Exit → Act → World → Prop) (a0 : Act) (w : World) (o : Oper) : Prop where
  out : o.guard = none ∧ ∀ t, o.dst = some t → ∀ (a : Act) (W : World), Below w.heap.size w W → (∀ u, (readsOf o).contains u = true → Taken ts Rel a0 a W u) → relAt P o a W (Rel t) Q
theorem RelOk.mk' {P : Program} {ts : List Nat} {Rel : Nat → Value → World → Prop} {Q : Exit → Act → World → Prop} {a0 : Act} {w : World} {o : Oper} (t : Nat) (hd : o.dst = some t) (hg : o.guard = none)
    (h : ∀ (a : Act) (W : World), Below w.heap.size w W → (∀ u, (readsOf o).contains u = true → Taken ts Rel a0 a W u) → relAt P o a W (Rel t) Q) : RelOk P ts Rel Q a0 w o :=
  ⟨hg, fun t' hd' => by rw [hd] at hd'; obtain rfl := Option.some.inj hd'; exact h⟩
def AllR (p : Oper → Prop) : List Oper → Prop
  | [] => True
  | o :: r => p o ∧ AllR p r
theorem AllR.spec {p : Oper → Prop} {l : List Oper} (h : AllR p l) : ∀ o, o ∈ l → p o := by
  induction l with
  | nil => intro o ho; cases ho
  | cons x r ih =>
    intro o ho
    rcases List.mem_cons.1 ho with e | e
    · rw [e]; exact h.1
    · exact ih h.2 o e
theorem puts_vals (v : Nat → Value) (t : Nat) : ∀ (ts : List Nat) (a : Act), t ∈ ts → t < a.tmps.size → (puts a (ts.map fun t => (t, v t))).tmps.getD t undef = v t
  | [], _, h, _ => by cases h
  | u :: r, a, h, hs => by
    show (puts (a.put (some u) (v u)) (r.map fun t => (t, v t))).tmps.getD t undef = v t
    by_cases hr : t ∈ r
    · exact puts_vals v t r _ hr (by rw [put_size]; exact hs)
    · rcases List.mem_cons.1 h with e | e
      · subst e
        rw [puts_other t _ _ (fun kv hkv e => hr (by obtain ⟨x, hx, rfl⟩ := List.mem_map.1 hkv; rw [← e]; exact hx)), put_get_same _ _ _ hs]
      · exact (hr e).elim
section
variable {P : Program} {Q : Exit → Act → World → Prop} {l : List Oper} {a0 : Act} {w : World} {m : Nat} {ts : List Nat} {Rel : Nat → Value → World → Prop}
theorem region_rel {id : Nat} (m : Nat) (ts : List Nat) (Rel : Nat → Value → World → Prop) (hm : P.follows .mixedOrders = true) (hml : m ≤ l.length)
    (chk : viaChk l m a0.tmps.size = true) (hts : (l.take m).filterMap (·.dst) = ts)
    (mono : ∀ t, ts.contains t = true → ∀ v W W', Rel t v W → Below W.heap.size W W' → Rel t v W')
    (hop : AllR (RelOk P ts Rel Q a0 w) (l.take m))
    (hQ : ∀ (v : Nat → Value) (W : World), Below w.heap.size w W → (∀ t, ts.contains t = true → Rel t (v t) W) → wpList P l.toArray Q (l.drop m) (puts a0 (ts.map fun t => (t, v t))) W) :
    (Code.region id l.toArray true).wp P Q a0 w := by
  have hopi : ∀ (i : Nat) (o : Oper), i < m → l[i]? = some o → RelOk P ts Rel Q a0 w o := fun i o him hi => AllR.spec hop o (List.mem_take_iff_getElem.2 ⟨i, by have := (List.getElem?_eq_some_iff.1 hi).1; omega, (List.getElem?_eq_some_iff.1 hi).2⟩)
  have hmem : ∀ t, ts.contains t = true ↔ ∃ (j : Nat) (o : Oper), j < m ∧ l[j]? = some o ∧ o.dst = some t := by
    intro t
    rw [List.contains_iff_mem, ← hts, List.mem_filterMap]
    constructor
    · rintro ⟨o, ho, hd⟩
      obtain ⟨j, hj, e⟩ := List.mem_take_iff_getElem.1 ho
      exact ⟨j, o, by omega, by rw [← e]; exact List.getElem?_eq_getElem (by omega), hd⟩
    · rintro ⟨j, o, hj, ho, hd⟩
      exact ⟨o, List.mem_take_iff_getElem.2 ⟨j, by have := (List.getElem?_eq_some_iff.1 ho).1; omega, (List.getElem?_eq_some_iff.1 ho).2⟩, hd⟩
  refine wp_region_any hm ?_
  have key : ∀ (fuel : Nat) (listed : Array Bool) (a : Act) (W : World), RInvX l m Rel a0 w listed a W →
      (List.range m).countP (fun i => !listed.getD i true) + (l.length - m) ≤ fuel → wpAny P .any l.toArray Q fuel listed a W := by
    intro fuel
    have fin : ∀ (fuel : Nat) (listed : Array Bool) (a : Act) (W : World), RInvX l m Rel a0 w listed a W → (∀ j, j < m → listed.getD j false = true) → l.length - m ≤ fuel → wpAny P .any l.toArray Q fuel listed a W := by
      intro fuel listed a W hI hall hf
      have ea : a = puts a0 (ts.map fun t => (t, a.tmps.getD t undef)) := by
        refine act_ext _ _ (by rw [puts_defers]; exact hI.df) (by rw [puts_size]; exact hI.sz) (fun t ht => ?_)
        by_cases htd : ts.contains t = true
        · rw [puts_vals (fun t => a.tmps.getD t undef) t ts a0 (List.contains_iff_mem.1 htd) (by rw [← hI.sz]; exact ht)]
        · rw [puts_other t _ _ (fun kv hkv e => htd (by obtain ⟨x, hx, rfl⟩ := List.mem_map.1 hkv; rw [← e]; exact List.contains_iff_mem.2 hx))]
          exact hI.fr0 t (fun j o hjm hj ho => (htd ((hmem t).2 ⟨j, o, hjm, hj, ho⟩)).elim)
      have hq := hQ (fun t => a.tmps.getD t undef) W hI.bl (fun t ht => by obtain ⟨j, o, hjm, hj, ho⟩ := (hmem t).1 ht; exact hI.fr1 j o t hjm hj ho (hall j hjm))
      rw [← ea] at hq
      refine any_tailV chk fuel m listed _ W (Nat.le_refl _) hml hI.len (fun j hj => ⟨fun h => ?_, fun h => hall j h⟩) hf hq
      rcases Nat.lt_or_ge j m with h2 | h2
      · exact h2
      · rw [hI.rest j h2] at h; cases h
    have look : ∀ (listed : Array Bool) (a : Act) (W : World), RInvX l m Rel a0 w listed a W → ∀ (i : Nat) (o : Oper), i < m → l[i]? = some o →
        (∀ e ∈ o.after, Region.binds .any e = true → listed.getD e.on false = true) → ∀ t, (readsOf o).contains t = true → Taken ts Rel a0 a W t := by
      intro listed a W hI i o him hi hall t ht
      have h := ((viaChk_at chk hi).2.2.1 him).2.2 t (List.contains_iff_mem.1 ht)
      constructor
      · intro hc
        obtain ⟨j, oj, hjm, hj, hjd⟩ := (hmem t).1 hc
        obtain ⟨e, he, hb, hon⟩ := bindsTo_spec (h j oj hjm hj hjd)
        exact hI.fr1 j oj t hjm hj hjd (by rw [← hon]; exact hall e he hb)
      · intro hc
        exact hI.fr0 t (fun j o hjm hj ho => by rw [(hmem t).2 ⟨j, o, hjm, hj, ho⟩] at hc; cases hc)
    induction fuel with
    | zero =>
      intro listed a W hI hc
      refine fin 0 listed a W hI (fun j hj => ?_) (by omega)
      have h0 : (List.range m).countP (fun i => !listed.getD i true) = 0 := by omega
      rw [List.countP_eq_zero] at h0
      have := h0 j (List.mem_range.2 hj)
      have hj' : j < listed.size := by rw [hI.len]; omega
      simpa [hj'] using this
    | succ fuel ih =>
      intro listed a W hI hc
      by_cases hall : ∀ j, j < m → listed.getD j false = true
      · exact fin _ listed a W hI hall (by omega)
      · have hno : ∀ i, i ∈ Region.ready .any l.toArray listed → i < m := by
          intro i hi
          rcases Nat.lt_or_ge i m with h | h
          · exact h
          · exfalso
            obtain ⟨o, hio, hil, hi0, ha⟩ := ready_mem hi hI.len
            rcases Nat.eq_or_lt_of_le h with h2 | h2
            · refine hall (fun j hj => ?_)
              exact reach_listed hI.dc _ i j o hio ha ((viaChk_at chk hio).2.2.2.1 h2.symm j hj)
            · obtain ⟨e, he, hb, hon⟩ := bindsTo_spec ((viaChk_at chk hio).2.2.2.2 h2)
              have h3 := ha e he hb
              rw [hon, hI.rest (i - 1) (by omega)] at h3; cases h3
        refine ⟨fun hr => ?_, fun i hi => ?_⟩
        · exfalso
          have all : ∀ i, i < l.length → listed.getD i false = true := by
            intro i
            induction i using Nat.strongRecOn with
            | _ i ih2 =>
              intro hi
              cases hb : listed.getD i false with
              | true => rfl
              | false =>
                exfalso
                have ho : l[i]? = some l[i] := List.getElem?_eq_getElem hi
                have hmem : i ∈ Region.ready .any l.toArray listed := by
                  rw [mem_ready]
                  refine ⟨?_, l[i], by simp, fun e he hbd => ?_⟩
                  · have : i < listed.size := by have := hI.len; omega
                    simp [this] at hb ⊢; exact hb
                  · exact ih2 e.on ((viaChk_at chk ho).2.1 e he hbd) (by have := (viaChk_at chk ho).2.1 e he hbd; omega)
                rw [hr] at hmem; cases hmem
          exact hall (fun j hj => all j (by omega))
        · have him := hno i hi
          obtain ⟨o, hio, hil, hi0, hal⟩ := ready_mem hi hI.len
          have hil' : i < listed.size := by rw [hI.len]; exact hil
          have ho : l.toArray[i]? = some o := by simpa using hio
          have hC := viaChk_at chk hio
          have hCm := hC.2.2.1 him
          obtain ⟨t, hdst, htN⟩ := hCm.2.1
          have hw : Region.wanted o (yielded l.toArray a.tmps) = true := by unfold Region.wanted; rw [(hopi i o him hio).out.1]
          have hcnt : (List.range m).countP (fun j => !(listed.setIfInBounds i true).getD j true) + (l.length - m) ≤ fuel := by
            have := count_lt (fun j => !listed.getD j true) (fun j => !(listed.setIfInBounds i true).getD j true) (fun j hj => by
                by_cases e : i = j
                · subst e; simp [hil'] at hj
                · rw [getD_set_ne true e] at hj; exact hj) i (by simpa [hil'] using hi0) (by simp [hil']) (List.range m) (List.mem_range.2 him)
            omega
          have dcS : ∀ (i2 : Nat) (o2 : Oper), l[i2]? = some o2 → (listed.setIfInBounds i true).getD i2 false = true → ∀ e ∈ o2.after, Region.binds .any e = true → (listed.setIfInBounds i true).getD e.on false = true := by
            intro j oj hj hl e he hb
            rw [getD_set _ _ _ hil']
            by_cases ei : i = e.on
            · rw [if_pos ei]
            · rw [if_neg ei]
              rw [getD_set _ _ _ hil'] at hl
              by_cases ej : i = j
              · subst ej; rw [hio] at hj; obtain rfl := Option.some.inj hj; exact hal e he hb
              · rw [if_neg ej] at hl; exact hI.dc j oj hj hl e he hb
          have hrel := ((hopi i o him hio).out.2 t hdst a W hI.bl (look listed a W hI i o him hio hal)).out
          unfold wpOp
          simp only [ho, hw, if_true]
          refine .inl (Oper.wp_mono (fun a' W' h => ?_) hrel)
          obtain ⟨v, rfl, hb, hS⟩ := h
          rw [hdst]
          refine ih _ _ _ ⟨by rw [put_defers]; exact hI.df, by rw [put_size]; exact hI.sz, by simpa using hI.len, ?_, ?_, below_tr' hI.bl hb, ?_, dcS⟩ hcnt
          · intro j oj u hjm hj hjd hl
            by_cases htu : t = u
            · subst htu; rw [put_get_same _ _ _ (by rw [hI.sz]; exact htN)]; exact hS
            · rw [put_get_ne _ _ _ _ htu]
              rw [getD_set _ _ _ hil'] at hl
              by_cases e : i = j
              · subst e; rw [hio] at hj; obtain rfl := Option.some.inj hj; rw [hdst] at hjd; exact (htu (Option.some.inj hjd)).elim
              · rw [if_neg e] at hl; exact mono u ((hmem u).2 ⟨j, oj, hjm, hj, hjd⟩) _ _ _ (hI.fr1 j oj u hjm hj hjd hl) hb
          · intro u hnu
            have htu : t ≠ u := fun e => by
              subst e
              have := hnu i o him hio hdst
              rw [getD_set _ _ _ hil', if_pos rfl] at this; cases this
            rw [put_get_ne _ _ _ _ htu]
            refine hI.fr0 u (fun j oj hjm hj hjd => ?_)
            have := hnu j oj hjm hj hjd
            rw [getD_set _ _ _ hil'] at this
            by_cases e : i = j
            · rw [if_pos e] at this; cases this
            · rw [if_neg e] at this; exact this
          · intro j hj
            rw [getD_set _ _ _ hil', if_neg (by omega)]; exact hI.rest j hj
  refine key _ _ _ _ ⟨rfl, rfl, by simp, ?_, ?_, ⟨rfl, rfl, rfl, Nat.le_refl _, fun _ _ => rfl⟩, ?_, ?_⟩ ?_
  · intro j o t _ hj hjd hl; rw [rep_false] at hl; cases hl
  · intro t _; rfl
  · intro j _; exact rep_false _ _
  · intro j o _ hl; rw [rep_false] at hl; cases hl
  · have : (List.range m).countP (fun i => !(Array.replicate l.toArray.size false).getD i true) ≤ m := Nat.le_trans List.countP_le_length (by simp)
    simp at this ⊢; omega
end
/-- Relations by slots. -/
def relOf : List (Nat × (Value → World → Prop)) → Nat → Value → World → Prop
  | [], _, _, _ => True
  | kv :: r, t, v, W => if kv.1 = t then kv.2 v W else relOf r t v W
structure Mono (R : Value → World → Prop) : Prop where
  out : ∀ v W W', R v W → Below W.heap.size W W' → R v W'
def AllM : List (Nat × (Value → World → Prop)) → Prop
  | [] => True
  | kv :: r => Mono kv.2 ∧ AllM r
theorem AllM.spec : ∀ (rs : List (Nat × (Value → World → Prop))), AllM rs → ∀ t v W W', relOf rs t v W → Below W.heap.size W W' → relOf rs t v W'
  | [], _, _, _, _, _, _, _ => trivial
  | kv :: r, h, t, v, W, W', hr, hb => by
    unfold relOf at hr ⊢
    split
    · rename_i e; rw [if_pos e] at hr; exact h.1.out v W W' hr hb
    · rename_i e; rw [if_neg e] at hr; exact AllM.spec r h.2 t v W W' hr hb
def isV (A : Value) : Value → World → Prop := fun v _ => v = A
theorem mono_is (A : Value) : Mono (isV A) := ⟨fun _ _ _ h _ => h⟩
theorem region_rels {P : Program} {Q : Exit → Act → World → Prop} {l : List Oper} {a0 : Act} {w : World} {id : Nat} (m : Nat) (rs : List (Nat × (Value → World → Prop))) (hm : P.follows .mixedOrders = true) (hml : m ≤ l.length)
    (chk : viaChk l m a0.tmps.size = true) (hts : (l.take m).filterMap (·.dst) = rs.map (·.1))
    (mono : AllM rs)
    (hop : AllR (RelOk P (rs.map (·.1)) (relOf rs) Q a0 w) (l.take m))
    (hQ : ∀ (v : Nat → Value) (W : World), Below w.heap.size w W → (∀ t, (rs.map (·.1)).contains t = true → relOf rs t (v t) W) → wpList P l.toArray Q (l.drop m) (puts a0 (rs.map fun kv => (kv.1, v kv.1))) W) :
    (Code.region id l.toArray true).wp P Q a0 w := by
  refine region_rel m (rs.map (·.1)) (relOf rs) hm hml chk hts (fun t _ v W W' hr hb => AllM.spec rs mono t v W W' hr hb) hop (fun v W hW hv => ?_)
  have := hQ v W hW hv
  rw [List.map_map]
  exact this
end Go.Proofs.Ytoagfpdicpcjnaa
/- A region whose first m operations draw their order and yield values of which a relation is known (slot, value, the interval of blocks that it made, world): the intervals lie apart. (Printed by genregi.py, a program of this session.) -/
namespace Go.Proofs.Ytoagfpdicpcjnaa
open Go.RowKit
set_option linter.unusedVariables false
set_option linter.unusedSimpArgs false
/-- Each operation of the first m that fills t reads u. -/
def cpChk (l : List Oper) (m : Nat) (cp : List (Nat × Nat)) : Bool :=
  cp.all fun tu => !(tu.1 == tu.2) && (List.range m).all fun i => match l[i]? with
    | none => true
    | some o => !(o.dst == some tu.1) || (readsOf o).contains tu.2
theorem cpChk_ne {l : List Oper} {m : Nat} {cp : List (Nat × Nat)} (h : cpChk l m cp = true) {t u : Nat} (hm : (t, u) ∈ cp) : t ≠ u := by
  unfold cpChk at h
  rw [List.all_eq_true] at h
  have h1 := h _ hm
  simp only [Bool.and_eq_true] at h1
  intro e
  have := h1.1
  simp [e] at this
theorem cpChk_reads {l : List Oper} {m : Nat} {cp : List (Nat × Nat)} (h : cpChk l m cp = true) {t u : Nat} (hm : (t, u) ∈ cp) {i : Nat} {o : Oper} (hi : i < m) (ho : l[i]? = some o) (hd : o.dst = some t) : u ∈ readsOf o := by
  unfold cpChk at h
  rw [List.all_eq_true] at h
  have h1 := h _ hm
  simp only [Bool.and_eq_true, List.all_eq_true] at h1
  have h2 := h1.2 i (List.mem_range.2 hi)
  rw [ho] at h2
  simp only [hd] at h2
  simpa using h2
structure RInvI (cp : List (Nat × Nat)) (l : List Oper) (m : Nat) (Rel : Nat → Value → Nat → Nat → World → Prop) (a0 : Act) (w0 : World) (lo hi : Nat → Nat) (listed : Array Bool) (a : Act) (w : World) : Prop where
  df : a.defers = a0.defers
  sz : a.tmps.size = a0.tmps.size
  len : listed.size = l.length
  fr1 : ∀ (j : Nat) (o : Oper) (t : Nat), j < m → l[j]? = some o → o.dst = some t → listed.getD j false = true → Rel t (a.tmps.getD t undef) (lo t) (hi t) w
  iv1 : ∀ (j : Nat) (o : Oper) (t : Nat), j < m → l[j]? = some o → o.dst = some t → listed.getD j false = true → w0.heap.size ≤ lo t ∧ hi t ≤ w.heap.size
  iv2 : ∀ (j : Nat) (o : Oper) (t : Nat), j < m → l[j]? = some o → o.dst = some t → listed.getD j false = true → ∀ (j' : Nat) (o' : Oper) (t' : Nat), j' < m → l[j']? = some o' → o'.dst = some t' → listed.getD j' false = true → t ≠ t' → hi t ≤ lo t' ∨ hi t' ≤ lo t
  cy : ∀ (t u : Nat), (t, u) ∈ cp → ∀ (j : Nat) (o : Oper), j < m → l[j]? = some o → o.dst = some t → listed.getD j false = true → a.tmps.getD t undef = a.tmps.getD u undef
  fr0 : ∀ t : Nat, (∀ (j : Nat) (o : Oper), j < m → l[j]? = some o → o.dst = some t → listed.getD j false = false) → a.tmps.getD t undef = a0.tmps.getD t undef
  bl : Below w0.heap.size w0 w
  rest : ∀ j, m ≤ j → listed.getD j false = false
  dc : ∀ (i : Nat) (o : Oper), l[i]? = some o → listed.getD i false = true → ∀ e ∈ o.after, Region.binds .any e = true → listed.getD e.on false = true
/-- What an operation may take of the slots that it reads. -/
def TakenI (ts : List Nat) (Rel : Nat → Value → Nat → Nat → World → Prop) (a0 a : Act) (W : World) (u : Nat) : Prop := (ts.contains u = true → ∃ lo hi, Rel u (a.tmps.getD u undef) lo hi W) ∧ (ts.contains u = false → a.tmps.getD u undef = a0.tmps.getD u undef)
structure RelOkI (cp : List (Nat × Nat)) (P : Program) (ts : List Nat) (Rel : Nat → Value → Nat → Nat → World → Prop) (Q : Exit → Act → World → Prop) (a0 : Act) (w : World) (o : Oper) : Prop where
  out : o.guard = none ∧ ∀ t, o.dst = some t → ∀ (a : Act) (W : World), Below w.heap.size w W → (∀ u, (readsOf o).contains u = true → TakenI ts Rel a0 a W u) → relAt P o a W (fun v W' => Rel t v W.heap.size W'.heap.size W' ∧ ∀ u, (t, u) ∈ cp → v = a.tmps.getD u undef) Q
theorem RelOkI.mk' {cp : List (Nat × Nat)} {P : Program} {ts : List Nat} {Rel : Nat → Value → Nat → Nat → World → Prop} {Q : Exit → Act → World → Prop} {a0 : Act} {w : World} {o : Oper} (t : Nat) (hd : o.dst = some t) (hg : o.guard = none) (hc : cp.all (fun tu => !(tu.1 == t)) = true)
    (h : ∀ (a : Act) (W : World), Below w.heap.size w W → (∀ u, (readsOf o).contains u = true → TakenI ts Rel a0 a W u) → relAt P o a W (fun v W' => Rel t v W.heap.size W'.heap.size W') Q) : RelOkI cp P ts Rel Q a0 w o :=
  ⟨hg, fun t' hd' => by
    rw [hd] at hd'; obtain rfl := Option.some.inj hd'
    refine fun a W hW hr => ⟨Oper.wp_mono (fun a' W' h2 => ?_) (h a W hW hr).out⟩
    obtain ⟨v, e, hb, hS⟩ := h2
    exact ⟨v, e, hb, hS, fun u hu => by rw [List.all_eq_true] at hc; have := hc _ hu; simp at this⟩⟩
theorem RelOkI.copy {cp : List (Nat × Nat)} {P : Program} {ts : List Nat} {Rel : Nat → Value → Nat → Nat → World → Prop} {Q : Exit → Act → World → Prop} {a0 : Act} {w : World} {o : Oper} (t u : Nat) (hd : o.dst = some t) (hg : o.guard = none) (hop : o.op = .assign (.tmp u)) (hc : cp.all (fun tu => !(tu.1 == t) || (tu.2 == u)) = true)
    (h : ∀ v lo hi W, Rel t v lo hi W) : RelOkI cp P ts Rel Q a0 w o :=
  ⟨hg, fun t' hd' => by
    rw [hd] at hd'; obtain rfl := Option.some.inj hd'
    exact fun a W hW hr => rel_calm (calm_run (v := a.tmps.getD u undef) (by simp [execOp, hop, Act.eval, go_sem])) (fun _ _ => ⟨h _ _ _ _, fun u' hu => by rw [List.all_eq_true] at hc; have := hc _ hu; simp at this; rw [this]⟩)⟩
section
variable {P : Program} {Q : Exit → Act → World → Prop} {l : List Oper} {a0 : Act} {w : World} {m : Nat} {ts : List Nat} {Rel : Nat → Value → Nat → Nat → World → Prop} {cp : List (Nat × Nat)}
theorem region_relI {id : Nat} (m : Nat) (ts : List Nat) (Rel : Nat → Value → Nat → Nat → World → Prop) (hm : P.follows .mixedOrders = true) (hml : m ≤ l.length)
    (chk : viaChk l m a0.tmps.size = true) (hcp : cpChk l m cp = true) (hts : (l.take m).filterMap (·.dst) = ts)
    (mono : ∀ t, ts.contains t = true → ∀ v lo hi W W', Rel t v lo hi W → Below W.heap.size W W' → Rel t v lo hi W')
    (hop : AllR (RelOkI cp P ts Rel Q a0 w) (l.take m))
    (hQ : ∀ (v : Nat → Value) (lo hi : Nat → Nat) (W : World), Below w.heap.size w W → (∀ t, ts.contains t = true → Rel t (v t) (lo t) (hi t) W) → (∀ t, ts.contains t = true → w.heap.size ≤ lo t ∧ hi t ≤ W.heap.size) → (∀ t t', ts.contains t = true → ts.contains t' = true → t ≠ t' → hi t ≤ lo t' ∨ hi t' ≤ lo t) → (∀ t u, (t, u) ∈ cp → ts.contains t = true → v t = v u) → wpList P l.toArray Q (l.drop m) (puts a0 (ts.map fun t => (t, v t))) W) :
    (Code.region id l.toArray true).wp P Q a0 w := by
  have hopi : ∀ (i : Nat) (o : Oper), i < m → l[i]? = some o → RelOkI cp P ts Rel Q a0 w o := fun i o him hi => AllR.spec hop o (List.mem_take_iff_getElem.2 ⟨i, by have := (List.getElem?_eq_some_iff.1 hi).1; omega, (List.getElem?_eq_some_iff.1 hi).2⟩)
  have hmem : ∀ t, ts.contains t = true ↔ ∃ (j : Nat) (o : Oper), j < m ∧ l[j]? = some o ∧ o.dst = some t := by
    intro t
    rw [List.contains_iff_mem, ← hts, List.mem_filterMap]
    constructor
    · rintro ⟨o, ho, hd⟩
      obtain ⟨j, hj, e⟩ := List.mem_take_iff_getElem.1 ho
      exact ⟨j, o, by omega, by rw [← e]; exact List.getElem?_eq_getElem (by omega), hd⟩
    · rintro ⟨j, o, hj, ho, hd⟩
      exact ⟨o, List.mem_take_iff_getElem.2 ⟨j, by have := (List.getElem?_eq_some_iff.1 ho).1; omega, (List.getElem?_eq_some_iff.1 ho).2⟩, hd⟩
  refine wp_region_any hm ?_
  have key : ∀ (fuel : Nat) (lo hi : Nat → Nat) (listed : Array Bool) (a : Act) (W : World), RInvI cp l m Rel a0 w lo hi listed a W →
      (List.range m).countP (fun i => !listed.getD i true) + (l.length - m) ≤ fuel → wpAny P .any l.toArray Q fuel listed a W := by
    intro fuel
    have fin : ∀ (fuel : Nat) (lo hi : Nat → Nat) (listed : Array Bool) (a : Act) (W : World), RInvI cp l m Rel a0 w lo hi listed a W → (∀ j, j < m → listed.getD j false = true) → l.length - m ≤ fuel → wpAny P .any l.toArray Q fuel listed a W := by
      intro fuel lo hi listed a W hI hall hf
      have ea : a = puts a0 (ts.map fun t => (t, a.tmps.getD t undef)) := by
        refine act_ext _ _ (by rw [puts_defers]; exact hI.df) (by rw [puts_size]; exact hI.sz) (fun t ht => ?_)
        by_cases htd : ts.contains t = true
        · rw [puts_vals (fun t => a.tmps.getD t undef) t ts a0 (List.contains_iff_mem.1 htd) (by rw [← hI.sz]; exact ht)]
        · rw [puts_other t _ _ (fun kv hkv e => htd (by obtain ⟨x, hx, rfl⟩ := List.mem_map.1 hkv; rw [← e]; exact List.contains_iff_mem.2 hx))]
          exact hI.fr0 t (fun j o hjm hj ho => (htd ((hmem t).2 ⟨j, o, hjm, hj, ho⟩)).elim)
      have hq := hQ (fun t => a.tmps.getD t undef) lo hi W hI.bl (fun t ht => by obtain ⟨j, o, hjm, hj, ho⟩ := (hmem t).1 ht; exact hI.fr1 j o t hjm hj ho (hall j hjm)) (fun t ht => by obtain ⟨j, o, hjm, hj, ho⟩ := (hmem t).1 ht; exact hI.iv1 j o t hjm hj ho (hall j hjm))
        (fun t t' ht ht' hne => by obtain ⟨j, o, hjm, hj, ho⟩ := (hmem t).1 ht; obtain ⟨j', o', hjm', hj', ho'⟩ := (hmem t').1 ht'; exact hI.iv2 j o t hjm hj ho (hall j hjm) j' o' t' hjm' hj' ho' (hall j' hjm') hne) (fun t u hm ht => by obtain ⟨j, o, hjm, hj, ho⟩ := (hmem t).1 ht; exact hI.cy t u hm j o hjm hj ho (hall j hjm))
      rw [← ea] at hq
      refine any_tailV chk fuel m listed _ W (Nat.le_refl _) hml hI.len (fun j hj => ⟨fun h => ?_, fun h => hall j h⟩) hf hq
      rcases Nat.lt_or_ge j m with h2 | h2
      · exact h2
      · rw [hI.rest j h2] at h; cases h
    have look : ∀ (lo hi : Nat → Nat) (listed : Array Bool) (a : Act) (W : World), RInvI cp l m Rel a0 w lo hi listed a W → ∀ (i : Nat) (o : Oper), i < m → l[i]? = some o →
        (∀ e ∈ o.after, Region.binds .any e = true → listed.getD e.on false = true) → ∀ t, (readsOf o).contains t = true → TakenI ts Rel a0 a W t := by
      intro lo hi listed a W hI i o him hil hall t ht
      have h := ((viaChk_at chk hil).2.2.1 him).2.2 t (List.contains_iff_mem.1 ht)
      constructor
      · intro hc
        obtain ⟨j, oj, hjm, hj, hjd⟩ := (hmem t).1 hc
        obtain ⟨e, he, hb, hon⟩ := bindsTo_spec (h j oj hjm hj hjd)
        exact ⟨_, _, hI.fr1 j oj t hjm hj hjd (by rw [← hon]; exact hall e he hb)⟩
      · intro hc
        exact hI.fr0 t (fun j o hjm hj ho => by rw [(hmem t).2 ⟨j, o, hjm, hj, ho⟩] at hc; cases hc)
    induction fuel with
    | zero =>
      intro lo hi listed a W hI hc
      refine fin 0 lo hi listed a W hI (fun j hj => ?_) (by omega)
      have h0 : (List.range m).countP (fun i => !listed.getD i true) = 0 := by omega
      rw [List.countP_eq_zero] at h0
      have := h0 j (List.mem_range.2 hj)
      have hj' : j < listed.size := by rw [hI.len]; omega
      simpa [hj'] using this
    | succ fuel ih =>
      intro lo hi listed a W hI hc
      by_cases hall : ∀ j, j < m → listed.getD j false = true
      · exact fin _ lo hi listed a W hI hall (by omega)
      · have hno : ∀ i, i ∈ Region.ready .any l.toArray listed → i < m := by
          intro i hmi
          rcases Nat.lt_or_ge i m with h | h
          · exact h
          · exfalso
            obtain ⟨o, hio, hil, hi0, ha⟩ := ready_mem hmi hI.len
            rcases Nat.eq_or_lt_of_le h with h2 | h2
            · refine hall (fun j hj => ?_)
              exact reach_listed hI.dc _ i j o hio ha ((viaChk_at chk hio).2.2.2.1 h2.symm j hj)
            · obtain ⟨e, he, hb, hon⟩ := bindsTo_spec ((viaChk_at chk hio).2.2.2.2 h2)
              have h3 := ha e he hb
              rw [hon, hI.rest (i - 1) (by omega)] at h3; cases h3
        refine ⟨fun hr => ?_, fun i hmi => ?_⟩
        · exfalso
          have all : ∀ i, i < l.length → listed.getD i false = true := by
            intro i
            induction i using Nat.strongRecOn with
            | _ i ih2 =>
              intro hii
              cases hb : listed.getD i false with
              | true => rfl
              | false =>
                exfalso
                have ho : l[i]? = some l[i] := List.getElem?_eq_getElem hii
                have hmem : i ∈ Region.ready .any l.toArray listed := by
                  rw [mem_ready]
                  refine ⟨?_, l[i], by simp, fun e he hbd => ?_⟩
                  · have : i < listed.size := by have := hI.len; omega
                    simp [this] at hb ⊢; exact hb
                  · exact ih2 e.on ((viaChk_at chk ho).2.1 e he hbd) (by have := (viaChk_at chk ho).2.1 e he hbd; omega)
                rw [hr] at hmem; cases hmem
          exact hall (fun j hj => all j (by omega))
        · have him := hno i hmi
          obtain ⟨o, hio, hil, hi0, hal⟩ := ready_mem hmi hI.len
          have hil' : i < listed.size := by rw [hI.len]; exact hil
          have ho : l.toArray[i]? = some o := by simpa using hio
          have hC := viaChk_at chk hio
          have hCm := hC.2.2.1 him
          obtain ⟨t, hdst, htN⟩ := hCm.2.1
          have hw : Region.wanted o (yielded l.toArray a.tmps) = true := by unfold Region.wanted; rw [(hopi i o him hio).out.1]
          have hcnt : (List.range m).countP (fun j => !(listed.setIfInBounds i true).getD j true) + (l.length - m) ≤ fuel := by
            have := count_lt (fun j => !listed.getD j true) (fun j => !(listed.setIfInBounds i true).getD j true) (fun j hj => by
                by_cases e : i = j
                · subst e; simp [hil'] at hj
                · rw [getD_set_ne true e] at hj; exact hj) i (by simpa [hil'] using hi0) (by simp [hil']) (List.range m) (List.mem_range.2 him)
            omega
          have dcS : ∀ (i2 : Nat) (o2 : Oper), l[i2]? = some o2 → (listed.setIfInBounds i true).getD i2 false = true → ∀ e ∈ o2.after, Region.binds .any e = true → (listed.setIfInBounds i true).getD e.on false = true := by
            intro j oj hj hl e he hb
            rw [getD_set _ _ _ hil']
            by_cases ei : i = e.on
            · rw [if_pos ei]
            · rw [if_neg ei]
              rw [getD_set _ _ _ hil'] at hl
              by_cases ej : i = j
              · subst ej; rw [hio] at hj; obtain rfl := Option.some.inj hj; exact hal e he hb
              · rw [if_neg ej] at hl; exact hI.dc j oj hj hl e he hb
          have hrel := ((hopi i o him hio).out.2 t hdst a W hI.bl (look lo hi listed a W hI i o him hio hal)).out
          unfold wpOp
          simp only [ho, hw, if_true]
          refine .inl (Oper.wp_mono (fun a' W' h => ?_) hrel)
          obtain ⟨v, rfl, hb, hS, hV⟩ := h
          rw [hdst]
          refine ih (fun u => if u = t then W.heap.size else lo u) (fun u => if u = t then W'.heap.size else hi u) _ _ _ ⟨by rw [put_defers]; exact hI.df, by rw [put_size]; exact hI.sz, by simpa using hI.len, ?_, ?_, ?_, ?_, ?_, below_tr' hI.bl hb, ?_, dcS⟩ hcnt
          · intro j oj u hjm hj hjd hl
            by_cases htu : t = u
            · subst htu; rw [put_get_same _ _ _ (by rw [hI.sz]; exact htN)]; simp only [if_true]; exact hS
            · rw [put_get_ne _ _ _ _ htu]
              simp only [if_neg (Ne.symm htu)]
              rw [getD_set _ _ _ hil'] at hl
              by_cases e : i = j
              · subst e; rw [hio] at hj; obtain rfl := Option.some.inj hj; rw [hdst] at hjd; exact (htu (Option.some.inj hjd)).elim
              · rw [if_neg e] at hl; exact mono u ((hmem u).2 ⟨j, oj, hjm, hj, hjd⟩) _ _ _ _ _ (hI.fr1 j oj u hjm hj hjd hl) hb
          · intro j oj u hjm hj hjd hl
            by_cases htu : u = t
            · simp only [if_pos htu]; exact ⟨hI.bl.size, Nat.le_refl _⟩
            · simp only [if_neg htu]
              rw [getD_set _ _ _ hil'] at hl
              by_cases e : i = j
              · subst e; rw [hio] at hj; obtain rfl := Option.some.inj hj; rw [hdst] at hjd; exact (htu (Option.some.inj hjd).symm).elim
              · rw [if_neg e] at hl
                obtain ⟨h1, h2⟩ := hI.iv1 j oj u hjm hj hjd hl
                exact ⟨h1, Nat.le_trans h2 hb.size⟩
          · intro j oj u hjm hj hjd hl j' oj' u' hjm' hj' hjd' hl' hne
            rw [getD_set _ _ _ hil'] at hl hl'
            by_cases htu : u = t
            · have htu' : u' ≠ t := fun e => hne (htu.trans e.symm)
              simp only [if_pos htu, if_neg htu']
              by_cases e : i = j'
              · subst e; rw [hio] at hj'; obtain rfl := Option.some.inj hj'; rw [hdst] at hjd'; exact (htu' (Option.some.inj hjd').symm).elim
              · rw [if_neg e] at hl'
                exact .inr (hI.iv1 j' oj' u' hjm' hj' hjd' hl').2
            · have hl2 : listed.getD j false = true := by
                by_cases e : i = j
                · subst e; rw [hio] at hj; obtain rfl := Option.some.inj hj; rw [hdst] at hjd; exact (htu (Option.some.inj hjd).symm).elim
                · rwa [if_neg e] at hl
              by_cases htu' : u' = t
              · simp only [if_neg htu, if_pos htu']
                exact .inl (hI.iv1 j oj u hjm hj hjd hl2).2
              · simp only [if_neg htu, if_neg htu']
                have hl3 : listed.getD j' false = true := by
                  by_cases e : i = j'
                  · subst e; rw [hio] at hj'; obtain rfl := Option.some.inj hj'; rw [hdst] at hjd'; exact (htu' (Option.some.inj hjd').symm).elim
                  · rwa [if_neg e] at hl'
                exact hI.iv2 j oj u hjm hj hjd hl2 j' oj' u' hjm' hj' hjd' hl3 hne
          · intro tt u hm j oj hjm hj hjd hl
            have hne := cpChk_ne hcp hm
            by_cases htu : t = tt
            · subst htu
              rw [put_get_same _ _ _ (by rw [hI.sz]; exact htN), put_get_ne _ _ _ _ hne]
              exact hV u hm
            · have hij : i ≠ j := fun e => by
                subst e; rw [hio] at hj; obtain rfl := Option.some.inj hj; rw [hdst] at hjd; exact htu (Option.some.inj hjd)
              rw [getD_set _ _ _ hil', if_neg hij] at hl
              have hut : t ≠ u := fun e => by
                subst e
                obtain ⟨e, he, hb2, hon⟩ := bindsTo_spec (((viaChk_at chk hj).2.2.1 hjm).2.2 t (cpChk_reads hcp hm hjm hj hjd) i o him hio hdst)
                have h4 := hI.dc j oj hj hl e he hb2
                rw [hon] at h4
                have : listed.getD i false = false := by simpa [hil'] using hi0
                rw [this] at h4; cases h4
              rw [put_get_ne _ _ _ _ htu, put_get_ne _ _ _ _ hut]
              exact hI.cy tt u hm j oj hjm hj hjd hl
          · intro u hnu
            have htu : t ≠ u := fun e => by
              subst e
              have := hnu i o him hio hdst
              rw [getD_set _ _ _ hil', if_pos rfl] at this; cases this
            rw [put_get_ne _ _ _ _ htu]
            refine hI.fr0 u (fun j oj hjm hj hjd => ?_)
            have := hnu j oj hjm hj hjd
            rw [getD_set _ _ _ hil'] at this
            by_cases e : i = j
            · rw [if_pos e] at this; cases this
            · rw [if_neg e] at this; exact this
          · intro j hj
            rw [getD_set _ _ _ hil', if_neg (by omega)]; exact hI.rest j hj
  refine key _ (fun _ => 0) (fun _ => 0) _ _ _ ⟨rfl, rfl, by simp, ?_, ?_, ?_, ?_, ?_, ⟨rfl, rfl, rfl, Nat.le_refl _, fun _ _ => rfl⟩, ?_, ?_⟩ ?_
  · intro j o t _ hj hjd hl; rw [rep_false] at hl; cases hl
  · intro j o t _ hj hjd hl; rw [rep_false] at hl; cases hl
  · intro j o t _ hj hjd hl; rw [rep_false] at hl; cases hl
  · intro t u _ j o _ hj hjd hl; rw [rep_false] at hl; cases hl
  · intro t _; rfl
  · intro j _; exact rep_false _ _
  · intro j o _ hl; rw [rep_false] at hl; cases hl
  · have : (List.range m).countP (fun i => !(Array.replicate l.toArray.size false).getD i true) ≤ m := Nat.le_trans List.countP_le_length (by simp)
    simp at this ⊢; omega
end
/-- Relations by slots. -/
def relOfI : List (Nat × (Value → Nat → Nat → World → Prop)) → Nat → Value → Nat → Nat → World → Prop
  | [], _, _, _, _, _ => True
  | kv :: r, t, v, lo, hi, W => if kv.1 = t then kv.2 v lo hi W else relOfI r t v lo hi W
structure MonoI (R : Value → Nat → Nat → World → Prop) : Prop where
  out : ∀ v lo hi W W', R v lo hi W → Below W.heap.size W W' → R v lo hi W'
def AllMI : List (Nat × (Value → Nat → Nat → World → Prop)) → Prop
  | [] => True
  | kv :: r => MonoI kv.2 ∧ AllMI r
theorem AllMI.spec : ∀ (rs : List (Nat × (Value → Nat → Nat → World → Prop))), AllMI rs → ∀ t v lo hi W W', relOfI rs t v lo hi W → Below W.heap.size W W' → relOfI rs t v lo hi W'
  | [], _, _, _, _, _, _, _, _, _ => trivial
  | kv :: r, h, t, v, lo, hi, W, W', hr, hb => by
    unfold relOfI at hr ⊢
    split
    · rename_i e; rw [if_pos e] at hr; exact h.1.out v lo hi W W' hr hb
    · rename_i e; rw [if_neg e] at hr; exact AllMI.spec r h.2 t v lo hi W W' hr hb
def isVI (A : Value) : Value → Nat → Nat → World → Prop := fun v _ _ _ => v = A
theorem mono_isVI (A : Value) : MonoI (isVI A) := ⟨fun _ _ _ _ _ h _ => h⟩
theorem region_relsI {P : Program} {Q : Exit → Act → World → Prop} {l : List Oper} {a0 : Act} {w : World} {id : Nat} (m : Nat) (cp : List (Nat × Nat)) (rs : List (Nat × (Value → Nat → Nat → World → Prop))) (hm : P.follows .mixedOrders = true) (hml : m ≤ l.length)
    (chk : viaChk l m a0.tmps.size = true) (hcp : cpChk l m cp = true) (hts : (l.take m).filterMap (·.dst) = rs.map (·.1))
    (mono : AllMI rs)
    (hop : AllR (RelOkI cp P (rs.map (·.1)) (relOfI rs) Q a0 w) (l.take m))
    (hQ : ∀ (v : Nat → Value) (lo hi : Nat → Nat) (W : World), Below w.heap.size w W → (∀ t, (rs.map (·.1)).contains t = true → relOfI rs t (v t) (lo t) (hi t) W) → (∀ t, (rs.map (·.1)).contains t = true → w.heap.size ≤ lo t ∧ hi t ≤ W.heap.size) → (∀ t t', (rs.map (·.1)).contains t = true → (rs.map (·.1)).contains t' = true → t ≠ t' → hi t ≤ lo t' ∨ hi t' ≤ lo t) → (∀ t u, (t, u) ∈ cp → (rs.map (·.1)).contains t = true → v t = v u) → wpList P l.toArray Q (l.drop m) (puts a0 (rs.map fun kv => (kv.1, v kv.1))) W) :
    (Code.region id l.toArray true).wp P Q a0 w := by
  refine region_relI m (rs.map (·.1)) (relOfI rs) hm hml chk hcp hts (fun t _ v lo hi W W' hr hb => AllMI.spec rs mono t v lo hi W W' hr hb) hop (fun v lo hi W hW hv h1 h2 h3 => ?_)
  have := hQ v lo hi W hW hv h1 h2 h3
  rw [List.map_map]
  exact this
end Go.Proofs.Ytoagfpdicpcjnaa
/- A region whose first m operations draw their order and yield one value each, in whatever later world: walked once, in the text's order, by the kit's steps of a quiet walk; new blocks may be made among them; the other operations come behind, in the text's order. -/
namespace Go.Proofs.Ytoagfpdicpcjnaa
open Go.RowKit
set_option linter.unusedVariables false
set_option linter.unusedSimpArgs false
/-- A later world. -/
structure Grow0 (w : World) where
  W : World
  b : Below w.heap.size w W
/-- A world later than that one. -/
structure Grow (w : World) (G : Grow0 w) where
  W : World
  b : Below G.W.heap.size G.W W
instance growNonempty (w : World) (G : Grow0 w) : Nonempty (Grow w G) := ⟨⟨G.W, Below.refl _ _⟩⟩
theorem Grow.low {w : World} {G : Grow0 w} (g : Grow w G) : Below w.heap.size w g.W := below_tr' G.b g.b
theorem cell_belowQ {w w1 : World} (h : Below w.heap.size w w1) {a : Addr} {v : Value} (hc : w.cell? a = some v) : w1.cell? a = some v := (h.cell (World.block_lt_of_cell? w a hc)).trans hc
@[go_sem] theorem grow_cell {w : World} {G : Grow0 w} (g : Grow w G) (p : Addr) (h : w.cell? p ≠ none) : g.W.cell? p = w.cell? p := by
  cases hc : w.cell? p with
  | none => exact (h hc).elim
  | some v => exact cell_belowQ g.low hc
/-- What a walk in the text's order found: slot and value of each operation. -/
def QSteps (P : Program) (ops : Array Oper) (C : World → Prop) : List Oper → List (Nat × Value) → Act → Prop
  | [], [], _ => True
  | o :: r, kv :: vs, a => o.dst = some kv.1 ∧ YieldsIn P ops C o kv.2 a ∧ QSteps P ops C r vs (a.put (some kv.1) kv.2)
  | _, _, _ => False
theorem quiet_out {P : Program} {ops : Array Oper} {C : World → Prop} {Q' : Act → Prop} : ∀ (r : List Oper) (a : Act), (∀ o ∈ r, o.dst ≠ none) → wpQuiet P ops C Q' r a → ∃ vs, QSteps P ops C r vs a ∧ Q' (puts a vs)
  | [], a, _, h => ⟨[], trivial, h⟩
  | o :: r, a, hd, h => by
    cases hdd : o.dst with
    | none => exact (hd o (List.mem_cons_self ..) hdd).elim
    | some t =>
      have h' : if Region.wanted o (yielded ops a.tmps) then o.quiet P a C (wpQuiet P ops C Q' r) else wpQuiet P ops C Q' r (a.put o.dst undef) := h
      by_cases hw : Region.wanted o (yielded ops a.tmps) = true
      · rw [if_pos hw] at h'
        obtain ⟨v, h1, h2⟩ := h'
        rw [hdd] at h2
        obtain ⟨vs, h3, h4⟩ := quiet_out r _ (fun o' ho' => hd o' (List.mem_cons_of_mem _ ho')) h2
        exact ⟨(t, v) :: vs, ⟨hdd, .inl ⟨hw, h1⟩, h3⟩, h4⟩
      · rw [if_neg hw] at h'
        rw [hdd] at h'
        obtain ⟨vs, h3, h4⟩ := quiet_out r _ (fun o' ho' => hd o' (List.mem_cons_of_mem _ ho')) h'
        exact ⟨(t, undef) :: vs, ⟨hdd, .inr ⟨by simpa using hw, rfl⟩, h3⟩, h4⟩
theorem QSteps.key {P : Program} {ops : Array Oper} {C : World → Prop} : ∀ (r : List Oper) (vs : List (Nat × Value)) (a : Act), QSteps P ops C r vs a → ∀ kv ∈ vs, ∃ (j : Nat) (o : Oper), r[j]? = some o ∧ o.dst = some kv.1
  | [], [], _, _, kv, h => by cases h
  | [], _ :: _, _, h, _, _ => h.elim
  | _ :: _, [], _, h, _, _ => h.elim
  | o :: r, x :: vs, a, h, kv, hk => by
    rcases List.mem_cons.1 hk with e | e
    · subst e; exact ⟨0, o, rfl, h.1⟩
    · obtain ⟨j, o', hj, hd⟩ := QSteps.key r vs _ h.2.2 kv e
      exact ⟨j + 1, o', by rw [List.getElem?_cons_succ]; exact hj, hd⟩
theorem QSteps.at {P : Program} {ops : Array Oper} {C : World → Prop} : ∀ (r : List Oper) (vs : List (Nat × Value)) (a : Act), QSteps P ops C r vs a → ∀ (i : Nat) (o : Oper), r[i]? = some o →
    ∃ t v ai, o.dst = some t ∧ YieldsIn P ops C o v ai ∧ ai.tmps.size = a.tmps.size ∧ (t < a.tmps.size → (∀ j o', i < j → r[j]? = some o' → o'.dst ≠ some t) → (puts a vs).tmps.getD t undef = v) ∧
      ∀ u, (∀ j o', i ≤ j → r[j]? = some o' → o'.dst ≠ some u) → ai.tmps.getD u undef = (puts a vs).tmps.getD u undef
  | [], _, _, _, _, _, hi => by simp at hi
  | _ :: _, [], _, h, _, _, _ => h.elim
  | o :: r, x :: vs, a, h, 0, o', hi => by
    simp only [List.getElem?_cons_zero, Option.some.injEq] at hi
    subst hi
    have other : ∀ u, (∀ j o', 0 < j → (o :: r)[j]? = some o' → o'.dst ≠ some u) → ∀ kv ∈ vs, kv.1 ≠ u := fun u hu kv hk e => by
      obtain ⟨j, o', hj, hd⟩ := QSteps.key r vs _ h.2.2 kv hk
      exact hu (j + 1) o' (Nat.succ_pos _) (by rw [List.getElem?_cons_succ]; exact hj) (by rw [hd, e])
    refine ⟨x.1, x.2, a, h.1, h.2.1, rfl, fun ht hno => ?_, fun u hno => ?_⟩
    · rw [puts, puts_other x.1 vs _ (other x.1 hno), put_get_same _ _ _ ht]
    · rw [puts, puts_other u vs _ (other u (fun j o' hj => hno j o' (Nat.zero_le _))), put_get_ne _ _ _ _ (fun e => hno 0 o (Nat.le_refl _) rfl (by rw [h.1, e]))]
  | o :: r, x :: vs, a, h, i + 1, o', hi => by
    rw [List.getElem?_cons_succ] at hi
    obtain ⟨t, v, ai, h1, h2, h3, h4, h5⟩ := QSteps.at r vs _ h.2.2 i o' hi
    rw [put_size] at h3 h4
    refine ⟨t, v, ai, h1, h2, h3, fun ht hno => h4 ht (fun j o2 hj hr => hno (j + 1) o2 (by omega) (by rw [List.getElem?_cons_succ]; exact hr)), fun u hno => h5 u (fun j o2 hj hr => hno (j + 1) o2 (by omega) (by rw [List.getElem?_cons_succ]; exact hr))⟩
/-- No two of the first m fill one slot. -/
def onceB (l : List Oper) (m : Nat) : Bool := (List.range m).all fun i => (List.range m).all fun j => (i == j) || !((l[i]?.bind (·.dst)) == (l[j]?.bind (·.dst)))
theorem onceB_at {l : List Oper} {m : Nat} (h : onceB l m = true) {i j t : Nat} {o o' : Oper} (hi : i < m) (hj : j < m) (hne : i ≠ j) (ho : l[i]? = some o) (ho' : l[j]? = some o') (hd : o.dst = some t) : o'.dst ≠ some t := by
  intro hd'
  unfold onceB at h
  have h1 := List.all_eq_true.1 (List.all_eq_true.1 h i (List.mem_range.2 hi)) j (List.mem_range.2 hj)
  rw [ho, ho'] at h1
  simp [hne, hd, hd'] at h1
section
variable {P : Program} {Q : Exit → Act → World → Prop} {l : List Oper} {a0 aE : Act} {w : World}
theorem calmRun_of_quiet {o : Oper} {ρ : Operand → Value} {G : Grow0 w} {v : Value} (h : Oper.quietUpon P (fun w' => ∃ g : Grow w G, w' = g.W) G.W v ((execOp ρ o).run P G.W)) : calmAt P o ρ G.W v := by
  refine ⟨?_⟩
  unfold calmRun
  generalize (execOp ρ o).run P G.W = r at *
  cases r with
  | ok n w' =>
    cases n <;> simp only [Oper.quietUpon] at h ⊢
    case value u => exact h
    case skip => exact h
    case enter f args =>
      obtain ⟨h1, h2⟩ := h
      exact ⟨h1, h2.mono fun e w'' ⟨he, g, hg⟩ => ⟨he, by subst hg; exact g.b⟩⟩
  | halt x w' => simp only [Oper.quietUpon] at h
/-- Values and guards alone; behind them the others. -/
theorem region_q {id : Nat} (m : Nat) (hm : P.follows .mixedOrders = true) (hml : m ≤ l.length)
    (chk : viaChk l m a0.tmps.size = true) (hgd : guardsIn l m = true) (hon : onceB l m = true)
    (H : ∀ G : Grow0 w, wpQuiet P l.toArray (fun w' => ∃ g : Grow w G, w' = g.W) (fun a' => a' = aE) (l.take m) a0)
    (HQ : ∀ W, Below w.heap.size w W → wpList P l.toArray Q (l.drop m) aE W) :
    (Code.region id l.toArray true).wp P Q a0 w := by
  have get : ∀ {i : Nat} {o : Oper}, i < m → l[i]? = some o → (l.take m)[i]? = some o := fun him hi => by rw [List.getElem?_take_of_lt him]; exact hi
  have geti : ∀ {i : Nat} {o : Oper}, (l.take m)[i]? = some o → i < m ∧ l[i]? = some o := fun {i o} hi => by
    rcases Nat.lt_or_ge i m with h | h
    · rw [List.getElem?_take_of_lt h] at hi; exact ⟨h, hi⟩
    · rw [List.getElem?_take_eq_none h] at hi; cases hi
  have hsome : ∀ o ∈ l.take m, o.dst ≠ none := fun o ho => by
    obtain ⟨i, hi⟩ := List.getElem?_of_mem ho
    obtain ⟨him, hi⟩ := geti hi
    obtain ⟨t, ht, _⟩ := ((viaChk_at chk hi).2.2.1 him).2.1
    rw [ht]; exact fun h => by cases h
  obtain ⟨vs, hs, hE⟩ := quiet_out _ _ hsome (H ⟨w, Below.refl _ _⟩)
  have look : ∀ {C : World → Prop} {us : List (Nat × Value)}, QSteps P l.toArray C (l.take m) us a0 → puts a0 us = aE → ∀ {i : Nat} {o : Oper} {t : Nat}, i < m → l[i]? = some o → o.dst = some t →
      ∃ v, aE.tmps.getD t undef = v ∧ ((Region.wanted o (yielded l.toArray aE.tmps) = true ∧ ∀ w, C w → Oper.quietUpon P C w v ((execOp aE.eval o).run P w)) ∨ (Region.wanted o (yielded l.toArray aE.tmps) = false ∧ v = undef)) := by
    intro C us hus hue i o t him hi hd
    obtain ⟨t', v, ai, hd', hy, hsz, hv, hread⟩ := QSteps.at _ _ _ hus i o (get him hi)
    rw [hd] at hd'; obtain rfl := Option.some.inj hd'
    rw [hue] at hv hread
    have hC := viaChk_at chk hi
    have hCm := hC.2.2.1 him
    obtain ⟨t2, ht2, htN⟩ := hCm.2.1
    rw [hd] at ht2; obtain rfl := Option.some.inj ht2
    have hval := hv htN (fun j o' hij hj => by obtain ⟨hjm, hj⟩ := geti hj; exact onceB_at hon him hjm (by omega) hi hj hd)
    have heq : execOp ai.eval o = execOp aE.eval o := execOp_congr o hC.1 (fun x hx => by
      cases x with
      | tmp u =>
        refine hread u (fun j o' hij hj hdu => ?_)
        obtain ⟨hjm, hj⟩ := geti hj
        obtain ⟨e, he, hb, hon'⟩ := bindsTo_spec (hCm.2.2 u (List.mem_filterMap.2 ⟨.tmp u, by simpa using hx, rfl⟩) j o' hjm hj hdu)
        have := hC.2.1 e he hb
        omega
      | _ => rfl)
    have hwe : Region.wanted o (yielded l.toArray ai.tmps) = Region.wanted o (yielded l.toArray aE.tmps) := by
      unfold Region.wanted
      cases hg : o.guard with
      | none => rfl
      | some kb =>
        obtain ⟨k, b⟩ := kb
        obtain ⟨e, he, hb, hon'⟩ := bindsTo_spec (hCm.1 k b hg)
        have hki := hC.2.1 e he hb
        rw [hon'] at hki
        have : yielded l.toArray ai.tmps k = yielded l.toArray aE.tmps k := yielded_congr (by rw [hsz, ← hue, puts_size]) (fun ok tk hk hdk => hread tk (fun j o' hij hj hdj => by
          obtain ⟨hjm, hj⟩ := geti hj
          exact onceB_at hon (by omega) hjm (by omega) (show l[k]? = some ok by simpa using hk) hj hdk hdj))
        simp only [this]
    refine ⟨v, hval, ?_⟩
    rcases hy with ⟨hw, hq⟩ | ⟨hw, hu⟩
    · exact .inl ⟨by rw [← hwe]; exact hw, fun w hw' => by have := hq w hw'; unfold Oper.quietAt at this; rwa [heq] at this⟩
    · exact .inr ⟨by rw [← hwe]; exact hw, hu⟩
  refine wp_region_via (vs := vs) hm hml chk ?_ (fun i o t him hi hd => ?_) (fun i o k b him hi hg => guardsIn_at hgd him hi hg) (fun W hW => by rw [hE]; exact HQ W hW)
  · rw [List.all_eq_true]
    intro kv hkv
    obtain ⟨j, o, hj, hd⟩ := QSteps.key _ _ _ hs kv hkv
    rw [List.any_eq_true]
    exact ⟨o, List.mem_of_getElem? hj, by rw [hd]; simp⟩
  · rw [hE]
    obtain ⟨v, hv, h⟩ := look hs hE him hi hd
    rcases h with ⟨hw, _⟩ | ⟨hw, hu⟩
    · refine .inl ⟨hw, fun W hW => ?_⟩
      obtain ⟨us, hus, hue⟩ := quiet_out _ _ hsome (H ⟨W, hW⟩)
      obtain ⟨v', hv', h'⟩ := look hus hue him hi hd
      rcases h' with ⟨_, hq⟩ | ⟨hw', _⟩
      · rw [hv']; exact calmRun_of_quiet (G := ⟨W, hW⟩) (hq W ⟨⟨W, Below.refl _ _⟩, rfl⟩)
      · rw [hw] at hw'; cases hw'
    · exact .inr ⟨hw, by rw [hv, hu]⟩
/-- A new block among the first m: its slot, its value, what it holds. -/
structure NewS where
  t : Nat
  V : Nat → Value
  O : Obj
def relNew (ns : List NewS) (aE : Act) (t : Nat) : Value → Nat → Nat → World → Prop := match ns.find? (fun s => s.t == t) with
  | some s => fun v lo hi W => v = s.V lo ∧ lo + 1 = hi ∧ W.heap[lo]? = some s.O
  | none => isVI (aE.tmps.getD t undef)
def isNew (ns : List NewS) (o : Oper) : Bool := match o.dst with | none => false | some t => ns.any (·.t == t)
/-- No operation behind or at i fills what the i-th reads; no slot is filled twice; nothing reads a new block's slot; no guards. -/
def newB (l : List Oper) (m : Nat) (ns : List NewS) : Bool :=
  (l.take m).all (fun o => o.guard.isNone && (readsOf o).all fun u => !ns.any (·.t == u)) &&
  (List.range ((l.take m).filter (fun o => !isNew ns o)).length).all fun i => match ((l.take m).filter (fun o => !isNew ns o))[i]? with
    | none => true
    | some o => (List.range ((l.take m).filter (fun o => !isNew ns o)).length).all fun j => match ((l.take m).filter (fun o => !isNew ns o))[j]? with
      | none => true
      | some o' => (decide (j < i) || (readsOf o).all (fun u => !(o'.dst == some u))) && (decide (j ≤ i) || !(o'.dst == o.dst))
end
theorem relMap (f : Oper → Nat → (Value → Nat → Nat → World → Prop)) : ∀ (l : List Oper), (l.filterMap fun o => o.dst.map fun t => (t, f o t)).map (·.1) = l.filterMap (·.dst)
  | [] => rfl
  | o :: r => by
    cases hd : o.dst with
    | none => simp [hd, relMap f r]
    | some t => simp [hd, relMap f r]
theorem relOf_at (ns : List NewS) (aE : Act) (t : Nat) : ∀ (l : List Oper), (∃ o ∈ l, o.dst = some t) → relOfI (l.filterMap fun o => o.dst.map fun t => (t, relNew ns aE t)) t = relNew ns aE t
  | [], h => by obtain ⟨o, ho, _⟩ := h; cases ho
  | o :: r, h => by
    cases hd : o.dst with
    | none =>
      obtain ⟨o', ho', hd'⟩ := h
      have : o' ∈ r := by
        rcases List.mem_cons.1 ho' with e | e
        · rw [e, hd] at hd'; cases hd'
        · exact e
      simp only [List.filterMap_cons, hd, Option.map_none]
      exact relOf_at ns aE t r ⟨o', this, hd'⟩
    | some t' =>
      simp only [List.filterMap_cons, hd, Option.map_some]
      funext v lo hi W
      unfold relOfI
      by_cases e : t' = t
      · simp only [e, if_true]
      · simp only [if_neg e]
        obtain ⟨o', ho', hd'⟩ := h
        have : o' ∈ r := by
          rcases List.mem_cons.1 ho' with e2 | e2
          · rw [e2, hd] at hd'; exact (e (Option.some.inj hd')).elim
          · exact e2
        rw [relOf_at ns aE t r ⟨o', this, hd'⟩]
theorem puts_same (vs : List (Nat × Value)) : ∀ (a : Act) (t : Nat) (v : Value), t < a.tmps.size → (∃ kv ∈ vs, kv.1 = t) → (∀ kv ∈ vs, kv.1 = t → kv.2 = v) → (puts a vs).tmps.getD t undef = v := by
  induction vs with
  | nil => intro a t v _ h; obtain ⟨_, h, _⟩ := h; cases h
  | cons x r ih =>
    intro a t v ht h hv
    rw [puts]
    by_cases hr : ∃ kv ∈ r, kv.1 = t
    · exact ih _ t v (by rw [put_size]; exact ht) hr (fun kv hk => hv kv (List.mem_cons_of_mem _ hk))
    · obtain ⟨kv, hk, he⟩ := h
      rcases List.mem_cons.1 hk with e | e
      · subst e
        rw [puts_other t r _ (fun kv' hk' e' => hr ⟨kv', hk', e'⟩), he, put_get_same _ _ _ ht]
        exact hv kv (List.mem_cons_self ..) he
      · exact (hr ⟨kv, e, he⟩).elim
section
variable {P : Program} {Q : Exit → Act → World → Prop} {l : List Oper} {a0 aE : Act} {w : World}
/-- Values, and new blocks that nothing among the first m reads; behind them the others. -/
theorem region_qnew {id : Nat} (m : Nat) (ns : List NewS) (hm : P.follows .mixedOrders = true) (hml : m ≤ l.length)
    (chk : viaChk l m a0.tmps.size = true) (hnew : newB l m ns = true) (hns : ∀ s ∈ ns, ∃ o ∈ l.take m, o.dst = some s.t) 
    (hal : ∀ s ∈ ns, ∀ o ∈ l.take m, o.dst = some s.t → ∀ (ρ : Operand → Value) (W : World), (∀ u ∈ readsOf o, ρ (.tmp u) = aE.tmps.getD u undef) → (execOp ρ o).run P W = .ok (.value (s.V W.heap.size)) (W.alloc s.O))
    (H : ∀ G : Grow0 w, wpQuiet P l.toArray (fun w' => ∃ g : Grow w G, w' = g.W) (fun a' => a' = aE) ((l.take m).filter (fun o => !isNew ns o)) a0)
    (HQ : ∀ (g : Nat → Nat) (W : World), Below w.heap.size w W → (∀ s ∈ ns, w.heap.size ≤ g s.t ∧ W.heap[g s.t]? = some s.O) → (∀ s ∈ ns, ∀ s' ∈ ns, s.t ≠ s'.t → g s.t ≠ g s'.t) → wpList P l.toArray Q (l.drop m) (puts aE (ns.map fun s => (s.t, s.V (g s.t)))) W) :
    (Code.region id l.toArray true).wp P Q a0 w := by
  have geti : ∀ {i : Nat} {o : Oper}, (l.take m)[i]? = some o → i < m ∧ l[i]? = some o := fun {i o} hi => by
    rcases Nat.lt_or_ge i m with h | h
    · rw [List.getElem?_take_of_lt h] at hi; exact ⟨h, hi⟩
    · rw [List.getElem?_take_eq_none h] at hi; cases hi
  have hsome : ∀ o ∈ l.take m, ∃ t, o.dst = some t ∧ t < a0.tmps.size ∧ (∀ cs b, o.op ≠ .select cs b) := fun o ho => by
    obtain ⟨i, hi⟩ := List.getElem?_of_mem ho
    obtain ⟨him, hi⟩ := geti hi
    obtain ⟨t, ht, htN⟩ := ((viaChk_at chk hi).2.2.1 him).2.1
    exact ⟨t, ht, htN, (viaChk_at chk hi).1⟩
  unfold newB at hnew
  simp only [Bool.and_eq_true] at hnew
  obtain ⟨hn1, hn2⟩ := hnew
  rw [List.all_eq_true] at hn1
  generalize hr : (l.take m).filter (fun o => !isNew ns o) = r at *
  have hrm : ∀ o ∈ r, o ∈ l.take m ∧ isNew ns o = false := fun o ho => by rw [← hr] at ho; have := List.mem_filter.1 ho; exact ⟨this.1, by simpa using this.2⟩
  have hsome' : ∀ o ∈ r, o.dst ≠ none := fun o ho => by obtain ⟨t, ht, _⟩ := hsome o (hrm o ho).1; rw [ht]; exact fun h => by cases h
  have look : ∀ (W : World) (hW : Below w.heap.size w W) (o : Oper), o ∈ r → ∀ t, o.dst = some t → ∃ us, puts a0 us = aE ∧ (∀ kv ∈ us, ∃ o' ∈ r, o'.dst = some kv.1) ∧ calmAt P o aE.eval W (aE.tmps.getD t undef) := by
    intro W hW o ho t hd
    obtain ⟨us, hus, hue⟩ := quiet_out _ _ hsome' (H ⟨W, hW⟩)
    obtain ⟨i, hi⟩ := List.getElem?_of_mem ho
    obtain ⟨t', v, ai, hd', hy, hsz, hv, hread⟩ := QSteps.at _ _ _ hus i o hi
    rw [hd] at hd'; obtain rfl := Option.some.inj hd'
    rw [hue] at hv hread
    obtain ⟨t2, ht2, htN, hsel⟩ := hsome o (hrm o ho).1
    rw [hd] at ht2; obtain rfl := Option.some.inj ht2
    have hil : i < r.length := (List.getElem?_eq_some_iff.1 hi).1
    have h2 := List.all_eq_true.1 hn2 i (List.mem_range.2 hil)
    rw [hi] at h2
    simp only [List.all_eq_true] at h2
    have h3 : ∀ (j : Nat) (o' : Oper), r[j]? = some o' → (j < i ∨ ∀ u ∈ readsOf o, o'.dst ≠ some u) ∧ (j ≤ i ∨ o'.dst ≠ o.dst) := fun j o' hj => by
      have := h2 j (List.mem_range.2 (List.getElem?_eq_some_iff.1 hj).1)
      rw [hj] at this
      simp only [Bool.and_eq_true, Bool.or_eq_true, decide_eq_true_eq, List.all_eq_true] at this
      refine ⟨this.1.imp (fun h => h) (fun h u hu e => ?_), this.2.imp (fun h => h) (fun h e => ?_)⟩
      · have := h u hu; rw [e] at this; simp at this
      · rw [e] at h; simp at h
    have hval := hv htN (fun j o' hij hj e => by
      rcases (h3 j o' hj).2 with h | h
      · omega
      · exact h (by rw [e, hd]))
    have heq : execOp ai.eval o = execOp aE.eval o := execOp_congr o hsel (fun x hx => by
      cases x with
      | tmp u =>
        refine hread u (fun j o' hij hj hdu => ?_)
        rcases (h3 j o' hj).1 with h | h
        · omega
        · exact h u (List.mem_filterMap.2 ⟨.tmp u, by simpa using hx, rfl⟩) hdu
      | _ => rfl)
    have hg := hn1 o (hrm o ho).1
    simp only [Bool.and_eq_true, Option.isNone_iff_eq_none] at hg
    refine ⟨us, hue, fun kv hk => ?_, ?_⟩
    · obtain ⟨j, o', hj, hdj⟩ := QSteps.key _ _ _ hus kv hk
      exact ⟨o', List.mem_of_getElem? hj, hdj⟩
    · rcases hy with ⟨hw, hq⟩ | ⟨hw, hu⟩
      · have := hq W ⟨⟨W, Below.refl _ _⟩, rfl⟩
        unfold Oper.quietAt at this
        rw [heq] at this
        rw [hval]; exact calmRun_of_quiet (G := ⟨W, hW⟩) this
      · unfold Region.wanted at hw; rw [hg.1] at hw; cases hw
  obtain ⟨us0, hus0, hue0⟩ := quiet_out _ _ hsome' (H ⟨w, Below.refl _ _⟩)
  have hkeys : ∀ kv ∈ us0, ∃ o ∈ r, o.dst = some kv.1 := fun kv hk => by
    obtain ⟨j, o', hj, hdj⟩ := QSteps.key _ _ _ hus0 kv hk
    exact ⟨o', List.mem_of_getElem? hj, hdj⟩
  have hEs : aE.tmps.size = a0.tmps.size := by rw [← hue0, puts_size]
  have hEd : aE.defers = a0.defers := by rw [← hue0, puts_defers]
  -- what is not filled is as it was
  have hE0 : ∀ u, (∀ o ∈ l.take m, o.dst ≠ some u) → aE.tmps.getD u undef = a0.tmps.getD u undef := fun u hu => by
    rw [← hue0]
    exact puts_other u us0 a0 (fun kv hk e => by obtain ⟨o, ho, hd⟩ := hkeys kv hk; exact hu o (hrm o ho).1 (by rw [hd, e]))
  let rs := (l.take m).filterMap fun o => o.dst.map fun t => (t, relNew ns aE t)
  have hmap : rs.map (·.1) = (l.take m).filterMap (·.dst) := relMap (fun _ t => relNew ns aE t) _
  have hmem : ∀ t, (rs.map (·.1)).contains t = true ↔ ∃ o ∈ l.take m, o.dst = some t := fun t => by
    rw [hmap, List.contains_iff_mem, List.mem_filterMap]
  have hat : ∀ t, (∃ o ∈ l.take m, o.dst = some t) → relOfI rs t = relNew ns aE t := fun t ht => relOf_at ns aE t _ ht
  have hfind : ∀ t s, ns.find? (fun s => s.t == t) = some s → s ∈ ns ∧ s.t = t := fun t s h => ⟨List.mem_of_find?_eq_some h, by have := List.find?_some h; simpa using this⟩
  have hnone : ∀ t, ns.any (fun s => s.t == t) = false → ns.find? (fun s => s.t == t) = none := fun t h => by
    rw [List.find?_eq_none]
    intro s hs
    rw [List.any_eq_false] at h
    simpa using h s hs
  -- what an operation reads is at hand
  have reads : ∀ o ∈ l.take m, ∀ (a : Act) (W : World), (∀ u, (readsOf o).contains u = true → TakenI (rs.map (·.1)) (relOfI rs) a0 a W u) → ∀ u ∈ readsOf o, a.tmps.getD u undef = aE.tmps.getD u undef := fun o ho a W hT u hu => by
    obtain ⟨h1, h2⟩ := hT u (List.contains_iff_mem.2 hu)
    cases hc : (rs.map (·.1)).contains u with
    | true =>
      obtain ⟨lo, hi, hR⟩ := h1 hc
      rw [hat u ((hmem u).1 hc)] at hR
      have := hn1 o ho
      simp only [Bool.and_eq_true, List.all_eq_true] at this
      have h3 := this.2 u hu
      unfold relNew at hR
      rw [hnone u (by simpa using h3)] at hR
      exact hR
    | false =>
      rw [h2 hc]
      exact (hE0 u (fun o' ho' e => by rw [(hmem u).2 ⟨o', ho', e⟩] at hc; cases hc)).symm
  have readsE : ∀ o, (∀ cs b, o.op ≠ .select cs b) → ∀ a : Act, (∀ u ∈ readsOf o, a.tmps.getD u undef = aE.tmps.getD u undef) → execOp a.eval o = execOp aE.eval o := fun o hsel a h => execOp_congr o hsel (fun x hx => by
    cases x with
    | tmp u => exact h u (List.mem_filterMap.2 ⟨.tmp u, by simpa using hx, rfl⟩)
    | _ => rfl)
  refine region_relI (cp := []) m (rs.map (·.1)) (relOfI rs) hm hml chk rfl hmap.symm (fun t ht v lo hi W W' hR hb => ?_) ?_ (fun v lo hi W hW hv h1 h2 _ => ?_)
  · rw [hat t ((hmem t).1 ht)] at hR ⊢
    unfold relNew at hR ⊢
    cases hf : ns.find? (fun s => s.t == t) with
    | some s => rw [hf] at hR; exact ⟨hR.1, hR.2.1, (hb.block _ (Array.getElem?_eq_some_iff.1 hR.2.2).1).trans hR.2.2⟩
    | none => rw [hf] at hR; exact hR
  · have all : ∀ o ∈ l.take m, RelOkI [] P (rs.map (·.1)) (relOfI rs) Q a0 w o := by
      intro o ho
      obtain ⟨t, ht, htN, hsel⟩ := hsome o ho
      have hg := hn1 o ho
      simp only [Bool.and_eq_true, Option.isNone_iff_eq_none] at hg
      refine RelOkI.mk' t ht hg.1 rfl (fun a W hW hT => ?_)
      have hrd := reads o ho a W hT
      rw [hat t ⟨o, ho, ht⟩]
      cases hn : isNew ns o with
      | true =>
        unfold isNew at hn
        rw [ht] at hn
        simp only [List.any_eq_true, beq_iff_eq] at hn
        obtain ⟨s0, hs0, hst0⟩ := hn
        cases hf : ns.find? (fun s => s.t == t) with
        | none => rw [List.find?_eq_none] at hf; have := hf s0 hs0; simp [hst0] at this
        | some s =>
          obtain ⟨hs, hst⟩ := hfind t s hf
          refine rel_new (v := s.V W.heap.size) (hal s hs o ho (by rw [ht, hst]) a.eval W (fun u hu => hrd u hu)) (bal (Below.refl _ _) _) ?_
          unfold relNew
          rw [hf]
          exact ⟨rfl, by simp, heap_alloc_new _ _⟩
      | false =>
        have hor : o ∈ r := by rw [← hr]; exact List.mem_filter.2 ⟨ho, by rw [hn]; rfl⟩
        obtain ⟨us, _, _, hc⟩ := look W hW o hor t ht
        have hc' : calmAt P o a.eval W (aE.tmps.getD t undef) := by
          refine ⟨?_⟩; have hh := hc.out; unfold calmRun at hh ⊢; rw [readsE o hsel a hrd]; exact hh
        refine rel_calm hc' (fun W' hb => ?_)
        unfold relNew
        unfold isNew at hn
        rw [ht] at hn
        rw [hnone t hn]
        rfl
    exact (show ∀ k : List Oper, (∀ o ∈ k, RelOkI [] P (rs.map (·.1)) (relOfI rs) Q a0 w o) → AllR (RelOkI [] P (rs.map (·.1)) (relOfI rs) Q a0 w) k from fun k => by
      induction k with
      | nil => intro _; trivial
      | cons x k ih => intro h; exact ⟨h x (List.mem_cons_self ..), ih (fun o ho => h o (List.mem_cons_of_mem _ ho))⟩) _ all
  · have hone : ∀ s ∈ ns, v s.t = ((ns.find? (fun s' => s'.t == s.t)).getD s).V (lo s.t) ∧ lo s.t + 1 = hi s.t ∧ W.heap[lo s.t]? = some ((ns.find? (fun s' => s'.t == s.t)).getD s).O ∧ w.heap.size ≤ lo s.t := by
      intro s hs
      have hc := (hmem s.t).2 (hns s hs)
      have hR := hv s.t hc
      rw [hat s.t (hns s hs)] at hR
      unfold relNew at hR
      cases hf : ns.find? (fun s' => s'.t == s.t) with
      | none => rw [List.find?_eq_none] at hf; have := hf s hs; simp at this
      | some s' => rw [hf] at hR; exact ⟨hR.1, hR.2.1, hR.2.2, (h1 s.t hc).1⟩
    -- entries of one slot are one
    have huniq : ∀ s ∈ ns, ((ns.find? (fun s' => s'.t == s.t)).getD s).V = s.V ∧ ((ns.find? (fun s' => s'.t == s.t)).getD s).O = s.O := by
      intro s hs
      cases hf : ns.find? (fun s' => s'.t == s.t) with
      | none => exact ⟨rfl, rfl⟩
      | some s' =>
        obtain ⟨hs', hst⟩ := hfind s.t s' hf
        obtain ⟨o, ho, hd⟩ := hns s hs
        have e1 := fun (W0 : World) => hal s hs o ho hd aE.eval W0 (fun u hu => rfl)
        have e2 := fun (W0 : World) => hal s' hs' o ho (by rw [hd, hst]) aE.eval W0 (fun u hu => rfl)
        have e3 : ∀ W0 : World, s'.V W0.heap.size = s.V W0.heap.size ∧ W0.alloc s'.O = W0.alloc s.O := fun W0 => by
          have := (e2 W0).symm.trans (e1 W0)
          simp only [Result.ok.injEq, Next.value.injEq] at this
          exact this
        have e4 : s'.O = s.O := by
          have h5 : (W.alloc s'.O).heap[W.heap.size]? = (W.alloc s.O).heap[W.heap.size]? := by rw [(e3 W).2]
          rw [heap_alloc_new, heap_alloc_new] at h5
          exact Option.some.inj h5
        refine ⟨?_, e4⟩
        funext n
        have := (e3 { W with heap := Array.replicate n s.O }).1
        simpa using this
    have hq := HQ lo W hW (fun s hs => ⟨(hone s hs).2.2.2, by have := (hone s hs).2.2.1; rwa [(huniq s hs).2] at this⟩) (fun s hs s' hs' hne e => by
      have := h2 s.t s'.t ((hmem _).2 (hns s hs)) ((hmem _).2 (hns s' hs')) hne
      have h3 := (hone s hs).2.1
      have h4 := (hone s' hs').2.1
      omega)
    have ea : puts aE (ns.map fun s => (s.t, s.V (lo s.t))) = puts a0 ((rs.map (·.1)).map fun t => (t, v t)) := by
      refine act_ext _ _ (by rw [puts_defers, puts_defers]; exact hEd) (by rw [puts_size, puts_size]; exact hEs) (fun t ht => ?_)
      rw [puts_size, hEs] at ht
      by_cases hc : (rs.map (·.1)).contains t = true
      · rw [puts_vals v t _ a0 (List.contains_iff_mem.1 hc) ht]
        by_cases hn : ∃ s ∈ ns, s.t = t
        · obtain ⟨s, hs, rfl⟩ := hn
          refine puts_same _ _ _ _ (by rw [hEs]; exact ht) ⟨(s.t, s.V (lo s.t)), List.mem_map.2 ⟨s, hs, rfl⟩, rfl⟩ (fun kv hk he => ?_)
          obtain ⟨s', hs', rfl⟩ := List.mem_map.1 hk
          simp only at he ⊢
          rw [← he, (hone s' hs').1, (huniq s' hs').1]
        · rw [puts_other t _ _ (fun kv hk e => hn (by obtain ⟨s, hs, rfl⟩ := List.mem_map.1 hk; exact ⟨s, hs, e⟩))]
          have hR := hv t hc
          rw [hat t ((hmem t).1 hc)] at hR
          unfold relNew at hR
          rw [hnone t (by rw [List.any_eq_false]; intro s hs h; exact hn ⟨s, hs, by simpa using h⟩)] at hR
          exact hR.symm
      · rw [puts_other t _ a0 (fun kv hk e => hc (by obtain ⟨t', ht', rfl⟩ := List.mem_map.1 hk; rw [← e]; exact List.contains_iff_mem.2 ht'))]
        have hno : ∀ o ∈ l.take m, o.dst ≠ some t := fun o ho e => hc ((hmem t).2 ⟨o, ho, e⟩)
        rw [puts_other t _ aE (fun kv hk e => by obtain ⟨s, hs, rfl⟩ := List.mem_map.1 hk; obtain ⟨o, ho, hd⟩ := hns s hs; exact hno o ho (by rw [hd, ← e]))]
        exact hE0 t hno
    rw [← ea]
    exact hq
end
def AllNs {α : Type} (p : α → Prop) : List α → Prop
  | [] => True
  | s :: r => p s ∧ AllNs p r
theorem AllNs.spec {α : Type} {p : α → Prop} : ∀ (l : List α), AllNs p l → ∀ s ∈ l, p s
  | [], _, _, h => by cases h
  | x :: r, h, s, hs => by
    rcases List.mem_cons.1 hs with e | e
    · rw [e]; exact h.1
    · exact AllNs.spec r h.2 s e
theorem AllNs.of {α : Type} {p : α → Prop} : ∀ (l : List α), (∀ s ∈ l, p s) → AllNs p l
  | [], _ => trivial
  | x :: r, h => ⟨h x (List.mem_cons_self ..), AllNs.of r fun s hs => h s (List.mem_cons_of_mem _ hs)⟩
/-- A new cell at the i-th place: its slot, what it holds at first, its type. -/
structure CellS where
  i : Nat
  t : Nat
  Z : Array Value
  T : TypeId
def CellS.n (s : CellS) : NewS := ⟨s.t, fun g => .pointer (some ⟨g, 0, none⟩), .cells s.Z s.T⟩
def cellB (l : List Oper) (m : Nat) (ns : List CellS) : Bool := ns.all fun s => decide (s.i < m) && (l[s.i]?.any (·.dst == some s.t)) && (List.range m).all fun j => j == s.i || !(l[j]?.bind (·.dst) == some s.t)
section
variable {P : Program} {Q : Exit → Act → World → Prop} {l : List Oper} {a0 aE : Act} {w : World}
theorem region_qn {id : Nat} (m : Nat) (ns : List CellS) (hm : P.follows .mixedOrders = true) (hml : m ≤ l.length)
    (chk : viaChk l m a0.tmps.size = true) (hnew : newB l m (ns.map (·.n)) = true) (hcell : cellB l m ns = true)
    (hal : AllNs (fun s : CellS => ∀ o, l[s.i]? = some o → ∀ (ρ : Operand → Value) (W : World), (execOp ρ o).run P W = .ok (.value (.pointer (some ⟨W.heap.size, 0, none⟩))) (W.alloc (.cells s.Z s.T))) ns)
    (H : ∀ G : Grow0 w, wpQuiet P l.toArray (fun w' => ∃ g : Grow w G, w' = g.W) (fun a' => a' = aE) ((l.take m).filter (fun o => !isNew (ns.map (·.n)) o)) a0)
    (HQ : ∀ (g : Nat → Nat) (W : World), Below w.heap.size w W → AllNs (fun s : CellS => w.heap.size ≤ g s.t ∧ W.heap[g s.t]? = some (.cells s.Z s.T (0, 0))) ns → AllNs (fun s : CellS => AllNs (fun s' : CellS => s.t ≠ s'.t → g s.t ≠ g s'.t) ns) ns → wpList P l.toArray Q (l.drop m) (puts aE (ns.map fun s => (s.t, .pointer (some ⟨g s.t, 0, none⟩)))) W) :
    (Code.region id l.toArray true).wp P Q a0 w := by
  unfold cellB at hcell
  rw [List.all_eq_true] at hcell
  have at_ : ∀ s ∈ ns, s.i < m ∧ (∃ o, l[s.i]? = some o ∧ o.dst = some s.t) ∧ ∀ j o, j < m → l[j]? = some o → o.dst = some s.t → j = s.i := by
    intro s hs
    have h := hcell s hs
    simp only [Bool.and_eq_true, decide_eq_true_eq, List.all_eq_true] at h
    refine ⟨h.1.1, ?_, fun j o hj ho hd => ?_⟩
    · cases ho : l[s.i]? with
      | none => rw [ho] at h; simp at h
      | some o => rw [ho] at h; exact ⟨o, rfl, by have := h.1.2; simpa using this⟩
    · have := h.2 j (List.mem_range.2 hj)
      rw [ho] at this
      simpa [hd] using this
  have tk : ∀ o ∈ l.take m, ∃ j, j < m ∧ l[j]? = some o := fun o ho => by
    obtain ⟨j, hj, e⟩ := List.mem_take_iff_getElem.1 ho
    exact ⟨j, by omega, by rw [← e]; exact List.getElem?_eq_getElem (by omega)⟩
  refine region_qnew m (ns.map (·.n)) hm hml chk hnew (fun s hs => ?_) (fun s hs o ho hd ρ W _ => ?_) H (fun g W hW h1 h2 => ?_)
  · obtain ⟨c, hc, rfl⟩ := List.mem_map.1 hs
    obtain ⟨h1, ⟨o, ho, hd⟩, _⟩ := at_ c hc
    exact ⟨o, List.mem_take_iff_getElem.2 ⟨c.i, by have := (List.getElem?_eq_some_iff.1 ho).1; omega, (List.getElem?_eq_some_iff.1 ho).2⟩, hd⟩
  · obtain ⟨c, hc, rfl⟩ := List.mem_map.1 hs
    obtain ⟨j, hj, hjo⟩ := tk o ho
    have e := (at_ c hc).2.2 j o hj hjo hd
    exact AllNs.spec ns hal c hc o (by rw [← e]; exact hjo) ρ W
  · have := HQ g W hW (AllNs.of ns fun c hc => h1 c.n (List.mem_map.2 ⟨c, hc, rfl⟩)) (AllNs.of ns fun c hc => AllNs.of ns fun c' hc' hne => h2 c.n (List.mem_map.2 ⟨c, hc, rfl⟩) c'.n (List.mem_map.2 ⟨c', hc', rfl⟩) hne)
    rw [List.map_map]
    exact this
end
end Go.Proofs.Ytoagfpdicpcjnaa
