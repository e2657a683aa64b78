/- Texts of the claim, in build order: RegV, RegW. No condition. -/
import Derived.Test.YtidbikjdigemnaaZDegreesOfFigure6
/- A region whose first m operations draw their order and yield values; the others come behind them, in the text's order: the m-th by way of others. -/
namespace Go.Proofs.Ytidbikjdigemnaa
open Go.RowKit
set_option linter.unusedVariables false
set_option linter.unusedSimpArgs false
/-- Whether operation i comes behind operation j, by way of others. -/
def reachB (l : List Oper) : Nat → Nat → Nat → Bool
  | 0, _, _ => false
  | f + 1, i, j => match l[i]? with
    | none => false
    | some o => o.after.any (fun e => Region.binds .any e && e.on == j) || o.after.any (fun e => Region.binds .any e && reachB l f e.on j)
theorem reach_listed {l : List Oper} {listed : Array Bool} (dc : ∀ (i : Nat) (o : Oper), l[i]? = some o → listed.getD i false = true → ∀ e ∈ o.after, Region.binds .any e = true → listed.getD e.on false = true) :
    ∀ (f i j : Nat) (o : Oper), l[i]? = some o → (∀ e ∈ o.after, Region.binds .any e = true → listed.getD e.on false = true) → reachB l f i j = true → listed.getD j false = true
  | 0, _, _, _, _, _, h => by cases h
  | f + 1, i, j, o, hi, ha, h => by
    unfold reachB at h
    rw [hi] at h
    simp only [Bool.or_eq_true] at h
    rcases h with h | h
    · rw [Array.any_eq_true'] at h
      obtain ⟨e, he, h2⟩ := h
      simp only [Bool.and_eq_true, beq_iff_eq] at h2
      rw [← h2.2]; exact ha e he h2.1
    · rw [Array.any_eq_true'] at h
      obtain ⟨e, he, h2⟩ := h
      simp only [Bool.and_eq_true] at h2
      have hl := ha e he h2.1
      cases ho : l[e.on]? with
      | none => 
        cases f with
        | zero => cases h2.2
        | succ f => unfold reachB at h2; rw [ho] at h2; cases h2.2
      | some o' => exact reach_listed dc f e.on j o' ho (dc e.on o' ho hl) h2.2
def viaChk (l : List Oper) (m N : Nat) : Bool :=
  (List.range l.length).all fun i => match l[i]? with
    | none => true
    | some o => notSelect o && (o.after.all fun e => !Region.binds .any e || e.on < i) &&
      (if i < m then (match o.guard with | none => true | some (k, _) => bindsTo o k) &&
        (match o.dst with | some t => decide (t < N) | none => false) &&
        ((readsOf o).all fun t => (List.range m).all fun j => match l[j]? with
            | none => true
            | some oj => !(oj.dst == some t) || bindsTo o j)
       else if i = m then (List.range m).all fun j => reachB l l.length i j
       else bindsTo o (i - 1))
theorem viaChk_at {l : List Oper} {m N : Nat} (chk : viaChk l m N = true) {i : Nat} {o : Oper} (hi : l[i]? = some o) :
    (∀ cs b, o.op ≠ .select cs b) ∧ (∀ e ∈ o.after, Region.binds .any e = true → e.on < i) ∧
    (i < m → (∀ k b, o.guard = some (k, b) → bindsTo o k = true) ∧ (∃ t, o.dst = some t ∧ t < N) ∧ (∀ t ∈ readsOf o, ∀ j oj, j < m → l[j]? = some oj → oj.dst = some t → bindsTo o j = true)) ∧
    (i = m → ∀ j, j < m → reachB l l.length i j = true) ∧ (m < i → bindsTo o (i - 1) = true) := by
  unfold viaChk at chk
  have hlt : i < l.length := (List.getElem?_eq_some_iff.1 hi).1
  have h := List.all_eq_true.1 chk i (List.mem_range.2 hlt)
  simp only [hi, Bool.and_eq_true] at h
  obtain ⟨⟨hns, haf⟩, hd⟩ := h
  refine ⟨?_, ?_, ?_, ?_, ?_⟩
  · intro cs b e; rw [notSelect, e] at hns; cases hns
  · intro e he hb
    have := (Array.all_eq_true_iff_forall_mem.1 haf) e he
    simpa [hb] using this
  · intro him
    rw [if_pos him] at hd
    simp only [Bool.and_eq_true] at hd
    obtain ⟨⟨hg, hd⟩, hr⟩ := hd
    refine ⟨?_, ?_, ?_⟩
    · intro k b e; rw [e] at hg; simpa using hg
    · cases hdd : o.dst with
      | none => rw [hdd] at hd; cases hd
      | some t => rw [hdd] at hd; exact ⟨t, rfl, by simpa using hd⟩
    · intro t ht j oj hjm hj hjd
      have h2 := List.all_eq_true.1 hr t ht
      have := List.all_eq_true.1 h2 j (List.mem_range.2 hjm)
      simpa [hj, hjd] using this
  · intro him j hj
    rw [if_neg (by omega), if_pos him] at hd
    exact List.all_eq_true.1 hd j (List.mem_range.2 hj)
  · intro him
    rw [if_neg (by omega), if_neg (by omega)] at hd
    exact hd
structure RInvV (l : List Oper) (m : Nat) (a0 aE : Act) (w0 : World) (listed : Array Bool) (a : Act) (w : World) : Prop where
  df : a.defers = aE.defers
  sz : a.tmps.size = aE.tmps.size
  len : listed.size = l.length
  fr1 : ∀ (j : Nat) (o : Oper) (t : Nat), j < m → l[j]? = some o → o.dst = some t → listed.getD j false = true → a.tmps.getD t undef = aE.tmps.getD t undef
  fr0 : ∀ t : Nat, (∀ (j : Nat) (o : Oper), j < m → l[j]? = some o → o.dst = some t → listed.getD j false = false) → a.tmps.getD t undef = a0.tmps.getD t undef
  bl : Below w0.heap.size w0 w
  rest : ∀ j, m ≤ j → listed.getD j false = false
  dc : ∀ (i : Nat) (o : Oper), l[i]? = some o → listed.getD i false = true → ∀ e ∈ o.after, Region.binds .any e = true → listed.getD e.on false = true
/-- From the m-th on there is one order. -/
theorem any_tailV {P : Program} {Q : Exit → Act → World → Prop} {l : List Oper} {m N : Nat} (chk : viaChk l m N = true) : ∀ (fuel i : Nat) (listed : Array Bool) (a : Act) (W : World), m ≤ i → i ≤ l.length → listed.size = l.length →
    (∀ j, j < l.length → (listed.getD j false = true ↔ j < i)) → l.length - i ≤ fuel → wpList P l.toArray Q (l.drop i) a W → wpAny P .any l.toArray Q fuel listed a W := by
  intro fuel
  induction fuel with
  | zero =>
    intro i listed a W hmi hil hlen hls hf hw
    have hi : i = l.length := by omega
    subst hi
    refine ⟨?_, by rw [List.drop_length] at hw; exact hw⟩
    rw [List.eq_nil_iff_forall_not_mem]
    intro k hk
    obtain ⟨o, _, hkl, hk0, _⟩ := ready_mem hk hlen
    rw [(hls k hkl).2 hkl] at hk0; cases hk0
  | succ fuel ih =>
    intro i listed a W hmi hil hlen hls hf hw
    rcases Nat.lt_or_ge i l.length with hlt | hge
    · have hio : l[i]? = some l[i] := List.getElem?_eq_getElem hlt
      have hC := viaChk_at chk hio
      have hd : l.drop i = l[i] :: l.drop (i + 1) := List.drop_eq_getElem_cons hlt
      rw [hd] at hw
      refine ⟨fun hr => ?_, fun k hk => ?_⟩
      · exfalso
        have hmem : i ∈ Region.ready .any l.toArray listed := by
          rw [mem_ready]
          refine ⟨?_, l[i], by simp, fun e he hbd => (hls _ (by have := hC.2.1 e he hbd; omega)).2 (hC.2.1 e he hbd)⟩
          have h1 : i < listed.size := by omega
          have h2 : listed.getD i false = false := by
            cases hb : listed.getD i false with
            | false => rfl
            | true => exact absurd ((hls i hlt).1 hb) (Nat.lt_irrefl _)
          simpa [h1] using h2
        rw [hr] at hmem; cases hmem
      · obtain ⟨o, hko, hkl, hk0, hall⟩ := ready_mem hk hlen
        have hki : k = i := by
          rcases Nat.lt_trichotomy k i with h | h | h
          · rw [(hls k hkl).2 h] at hk0; cases hk0
          · exact h
          · obtain ⟨e, he, hb, hon⟩ := bindsTo_spec ((viaChk_at chk hko).2.2.2.2 (by omega))
            have := (hls (k - 1) (by omega)).1 (by rw [← hon]; exact hall e he hb)
            omega
        subst hki
        have heo : o = l[k] := by rw [hio] at hko; exact (Option.some.inj hko).symm
        subst heo
        have hk' : k < listed.size := by omega
        have step : ∀ a' W', wpList P l.toArray Q (l.drop (k + 1)) a' W' → wpAny P .any l.toArray Q fuel (listed.setIfInBounds k true) a' W' := by
          intro a' W' h
          refine ih (k + 1) _ a' W' (by omega) (by omega) (by simpa using hlen) (fun j hj => ?_) (by omega) h
          rw [getD_set _ _ _ hk']
          by_cases e : k = j
          · subst e; simp
          · rw [if_neg e, hls j hj]; omega
        unfold wpOp
        have hto : l.toArray[k]? = some l[k] := by simp
        simp only [hto]
        unfold wpList at hw
        split at hw
        · rename_i hwt
          rw [if_pos hwt]
          rcases hw with h | h
          · exact .inl (Oper.wp_mono step h)
          · exact .inr h
        · rename_i hwt
          rw [if_neg hwt]
          exact step _ _ hw
    · have hi : i = l.length := by omega
      subst hi
      rw [List.drop_length] at hw
      refine ⟨fun _ => hw, fun k hk => ?_⟩
      obtain ⟨o, _, hkl, hk0, _⟩ := ready_mem hk hlen
      rw [(hls k hkl).2 hkl] at hk0; cases hk0
section
variable {P : Program} {Q : Exit → Act → World → Prop} {l : List Oper} {a0 : Act} {w : World} {vs : List (Nat × Value)} {m : Nat}
theorem wp_region_via {id : Nat} (hm : P.follows .mixedOrders = true) (hml : m ≤ l.length)
    (chk : viaChk l m a0.tmps.size = true) (hkeys : vs.all (fun kv => (l.take m).any (·.dst == some kv.1)) = true)
    (hop : ∀ (i : Nat) (o : Oper) (t : Nat), i < m → l[i]? = some o → o.dst = some t → (Region.wanted o (yielded l.toArray (puts a0 vs).tmps) = true ∧ ∀ W, Below w.heap.size w W → calmAt P o (puts a0 vs).eval W ((puts a0 vs).tmps.getD t undef)) ∨ (Region.wanted o (yielded l.toArray (puts a0 vs).tmps) = false ∧ (puts a0 vs).tmps.getD t undef = undef))
    (hgd : ∀ (i : Nat) (o : Oper) (k : Nat) (b : Bool), i < m → l[i]? = some o → o.guard = some (k, b) → k < m)
    (hQ : ∀ W, Below w.heap.size w W → wpList P l.toArray Q (l.drop m) (puts a0 vs) W) :
    (Code.region id l.toArray true).wp P Q a0 w := by
  have hE : ∀ t, (∀ (j : Nat) (o : Oper), j < m → l[j]? = some o → o.dst ≠ some t) → a0.tmps.getD t undef = (puts a0 vs).tmps.getD t undef := by
    intro t hno
    refine (puts_other t vs a0 (fun kv hkv e => ?_)).symm
    have := List.all_eq_true.1 hkeys kv hkv
    obtain ⟨o, ho, hod⟩ := List.any_eq_true.1 this
    obtain ⟨j, hj, hjo⟩ := List.mem_take_iff_getElem.1 ho
    exact hno j o (by omega) (by rw [← hjo]; exact List.getElem?_eq_getElem (by omega)) (by rw [← e]; simpa using hod)
  have hEs : (puts a0 vs).tmps.size = a0.tmps.size := puts_size _ _
  have hEd : (puts a0 vs).defers = a0.defers := puts_defers _ _
  generalize puts a0 vs = aE at *
  refine wp_region_any hm ?_
  have key : ∀ (fuel : Nat) (listed : Array Bool) (a : Act) (W : World), RInvV l m a0 aE w listed a W →
      (List.range m).countP (fun i => !listed.getD i true) + (l.length - m) ≤ fuel → wpAny P .any l.toArray Q fuel listed a W := by
    intro fuel
    have fin : ∀ (fuel : Nat) (listed : Array Bool) (a : Act) (W : World), RInvV l m a0 aE w listed a W → (∀ j, j < m → listed.getD j false = true) → l.length - m ≤ fuel → wpAny P .any l.toArray Q fuel listed a W := by
      intro fuel listed a W hI hall hf
      have ea : a = aE := by
        refine act_ext _ _ hI.df hI.sz (fun t ht => ?_)
        · by_cases hw : ∃ (j : Nat) (o : Oper), j < m ∧ l[j]? = some o ∧ o.dst = some t
          · obtain ⟨j, o, hjm, hj, ho⟩ := hw
            exact hI.fr1 j o t hjm hj ho (hall j hjm)
          · rw [hI.fr0 t (fun j o hjm hj ho => (hw ⟨j, o, hjm, hj, ho⟩).elim)]
            exact hE t (fun j o hjm hj ho => hw ⟨j, o, hjm, hj, ho⟩)
      subst ea
      refine any_tailV chk fuel m listed a W (Nat.le_refl _) hml hI.len (fun j hj => ⟨fun h => ?_, fun h => hall j h⟩) hf (hQ W hI.bl)
      rcases Nat.lt_or_ge j m with h2 | h2
      · exact h2
      · rw [hI.rest j h2] at h; cases h
    -- what an operation that may come up reads is at hand
    have look : ∀ (listed : Array Bool) (a : Act) (W : World), RInvV l m a0 aE w listed a W → ∀ (i : Nat) (o : Oper), i < m → l[i]? = some o →
        (∀ e ∈ o.after, Region.binds .any e = true → listed.getD e.on false = true) → ∀ t ∈ readsOf o, a.tmps.getD t undef = aE.tmps.getD t undef := by
      intro listed a W hI i o him hi hall t ht
      have h := ((viaChk_at chk hi).2.2.1 him).2.2 t ht
      · by_cases hw : ∃ (j : Nat) (oj : Oper), j < m ∧ l[j]? = some oj ∧ oj.dst = some t
        · obtain ⟨j, oj, hjm, hj, hjd⟩ := hw
          obtain ⟨e, he, hb, hon⟩ := bindsTo_spec (h j oj hjm hj hjd)
          exact hI.fr1 j oj t hjm hj hjd (by rw [← hon]; exact hall e he hb)
        · rw [hI.fr0 t (fun j oj hjm hj ho => (hw ⟨j, oj, hjm, hj, ho⟩).elim)]
          exact hE t (fun j oj hjm hj ho => hw ⟨j, oj, hjm, hj, ho⟩)
    induction fuel with
    | zero =>
      intro listed a W hI hc
      refine fin 0 listed a W hI (fun j hj => ?_) (by omega)
      have h0 : (List.range m).countP (fun i => !listed.getD i true) = 0 := by omega
      rw [List.countP_eq_zero] at h0
      have := h0 j (List.mem_range.2 hj)
      have hj' : j < listed.size := by rw [hI.len]; omega
      simpa [hj'] using this
    | succ fuel ih =>
      intro listed a W hI hc
      by_cases hall : ∀ j, j < m → listed.getD j false = true
      · exact fin _ listed a W hI hall (by omega)
      · have hno : ∀ i, i ∈ Region.ready .any l.toArray listed → i < m := by
          intro i hi
          rcases Nat.lt_or_ge i m with h | h
          · exact h
          · exfalso
            obtain ⟨o, hio, hil, hi0, ha⟩ := ready_mem hi hI.len
            rcases Nat.eq_or_lt_of_le h with h2 | h2
            · refine hall (fun j hj => ?_)
              exact reach_listed hI.dc _ i j o hio ha ((viaChk_at chk hio).2.2.2.1 h2.symm j hj)
            · obtain ⟨e, he, hb, hon⟩ := bindsTo_spec ((viaChk_at chk hio).2.2.2.2 h2)
              have h3 := ha e he hb
              rw [hon, hI.rest (i - 1) (by omega)] at h3; cases h3
        refine ⟨fun hr => ?_, fun i hi => ?_⟩
        · exfalso
          have all : ∀ i, i < l.length → listed.getD i false = true := by
            intro i
            induction i using Nat.strongRecOn with
            | _ i ih2 =>
              intro hi
              cases hb : listed.getD i false with
              | true => rfl
              | false =>
                exfalso
                have ho : l[i]? = some l[i] := List.getElem?_eq_getElem hi
                have hmem : i ∈ Region.ready .any l.toArray listed := by
                  rw [mem_ready]
                  refine ⟨?_, l[i], by simp, fun e he hbd => ?_⟩
                  · have : i < listed.size := by have := hI.len; omega
                    simp [this] at hb ⊢; exact hb
                  · exact ih2 e.on ((viaChk_at chk ho).2.1 e he hbd) (by have := (viaChk_at chk ho).2.1 e he hbd; omega)
                rw [hr] at hmem; cases hmem
          exact hall (fun j hj => all j (by omega))
        · have him := hno i hi
          obtain ⟨o, hio, hil, hi0, hal⟩ := ready_mem hi hI.len
          have hil' : i < listed.size := by rw [hI.len]; exact hil
          have ho : l.toArray[i]? = some o := by simpa using hio
          have hC := viaChk_at chk hio
          have hCm := hC.2.2.1 him
          obtain ⟨t, hdst, htN⟩ := hCm.2.1
          have hwe : Region.wanted o (yielded l.toArray a.tmps) = Region.wanted o (yielded l.toArray aE.tmps) := by
            unfold Region.wanted
            cases hg : o.guard with
            | none => rfl
            | some kb =>
              obtain ⟨k, b⟩ := kb
              obtain ⟨e, he, hb, hon⟩ := bindsTo_spec (hCm.1 k b hg)
              have : yielded l.toArray a.tmps k = yielded l.toArray aE.tmps k := yielded_congr hI.sz (fun ok tk hk hd => hI.fr1 k ok tk (hgd i o k b him hio hg) (by simpa using hk) hd (by rw [← hon]; exact hal e he hb))
              simp only [this]
          have hcnt : (List.range m).countP (fun j => !(listed.setIfInBounds i true).getD j true) + (l.length - m) ≤ fuel := by
            have := count_lt (fun j => !listed.getD j true) (fun j => !(listed.setIfInBounds i true).getD j true) (fun j hj => by
                by_cases e : i = j
                · subst e; simp [hil'] at hj
                · rw [getD_set_ne true e] at hj; exact hj) i (by simpa [hil'] using hi0) (by simp [hil']) (List.range m) (List.mem_range.2 him)
            omega
          have step : ∀ W', Below w.heap.size w W' → wpAny P .any l.toArray Q fuel (listed.setIfInBounds i true) (a.put (some t) (aE.tmps.getD t undef)) W' := by
            intro W' hW'
            refine ih _ _ _ ⟨by rw [put_defers]; exact hI.df, by rw [put_size]; exact hI.sz, by simpa using hI.len, ?_, ?_, hW', ?_, ?_⟩ hcnt
            · intro j oj u hjm hj hjd hl
              by_cases htu : t = u
              · subst htu; rw [put_get_same _ _ _ (by rw [hI.sz, hEs]; exact htN)]
              · rw [put_get_ne _ _ _ _ htu]
                rw [getD_set _ _ _ hil'] at hl
                by_cases e : i = j
                · subst e; rw [hio] at hj; obtain rfl := Option.some.inj hj; rw [hdst] at hjd; exact (htu (Option.some.inj hjd)).elim
                · rw [if_neg e] at hl; exact hI.fr1 j oj u hjm hj hjd hl
            · intro u hnu
              have htu : t ≠ u := fun e => by
                subst e
                have := hnu i o him hio hdst
                rw [getD_set _ _ _ hil', if_pos rfl] at this; cases this
              rw [put_get_ne _ _ _ _ htu]
              refine hI.fr0 u (fun j oj hjm hj hjd => ?_)
              have := hnu j oj hjm hj hjd
              rw [getD_set _ _ _ hil'] at this
              by_cases e : i = j
              · rw [if_pos e] at this; cases this
              · rw [if_neg e] at this; exact this
            · intro j hj
              rw [getD_set _ _ _ hil', if_neg (by omega)]; exact hI.rest j hj
            · intro j oj hj hl e he hb
              rw [getD_set _ _ _ hil']
              by_cases ei : i = e.on
              · rw [if_pos ei]
              · rw [if_neg ei]
                rw [getD_set _ _ _ hil'] at hl
                by_cases ej : i = j
                · subst ej; rw [hio] at hj; obtain rfl := Option.some.inj hj; exact hal e he hb
                · rw [if_neg ej] at hl; exact hI.dc j oj hj hl e he hb
          unfold wpOp
          simp only [ho]
          rcases hop i o t him hio hdst with ⟨hw, hcalm⟩ | ⟨hw, hun⟩
          · rw [hwe, hw]
            simp only [if_true]
            refine .inl ?_
            have heq : execOp aE.eval o = execOp a.eval o := execOp_congr o hC.1 (fun x hx => by
                cases x with
                | tmp u =>
                  have hu : u ∈ readsOf o := List.mem_filterMap.2 ⟨.tmp u, by simpa using hx, rfl⟩
                  exact (look listed a W hI i o him hio hal u hu).symm
                | _ => rfl)
            have hcalm' : calmAt P o a.eval W (aE.tmps.getD t undef) := by
                refine ⟨?_⟩; have hh := (hcalm W hI.bl).out; unfold calmRun at hh ⊢; rw [← heq]; exact hh
            refine wp_of_calm hcalm' (fun W' hb => ?_)
            rw [hdst]
            exact step W' (below_tr' hI.bl hb)
          · rw [hwe, hw]
            simp only [Bool.false_eq_true, if_false, hdst]
            rw [hun] at step
            exact step W hI.bl
  refine key _ _ _ _ ⟨by rw [hEd], hEs.symm, by simp, ?_, ?_, ⟨rfl, rfl, rfl, Nat.le_refl _, fun _ _ => rfl⟩, ?_, ?_⟩ ?_
  · intro j o t _ hj hjd hl; rw [rep_false] at hl; cases hl
  · intro t _; rfl
  · intro j _; exact rep_false _ _
  · intro j o _ hl; rw [rep_false] at hl; cases hl
  · have : (List.range m).countP (fun i => !(Array.replicate l.toArray.size false).getD i true) ≤ m := Nat.le_trans List.countP_le_length (by simp)
    simp at this ⊢; omega
theorem region_via {id : Nat} (m : Nat) (vs : List (Nat × Value)) (hm : P.follows .mixedOrders = true) (hml : m ≤ l.length)
    (chk : viaChk l m a0.tmps.size = true) (hgd : guardsIn l m = true) (hkeys : vs.all (fun kv => (l.take m).any (·.dst == some kv.1)) = true)
    (H : ∀ aE, puts a0 vs = aE → AllBut (CalmG P aE w l) l.length l.length 0 (l.take m) ∧ ∀ W, Below w.heap.size w W → wpList P l.toArray Q (l.drop m) aE W) :
    (Code.region id l.toArray true).wp P Q a0 w := by
  obtain ⟨h2, h3⟩ := H _ rfl
  refine wp_region_via hm hml chk hkeys (fun i o t him hi hd => ?_) (fun i o k b him hi hg => guardsIn_at hgd him hi hg) h3
  have hlt : i < l.length := (List.getElem?_eq_some_iff.1 hi).1
  exact AllBut.spec (l.take m) 0 h2 i o (by rw [List.getElem?_take_of_lt him]; exact hi) (by omega) (by omega) t hd
end
end Go.Proofs.Ytidbikjdigemnaa
/- A region whose first m operations draw their order and yield values, one of them by making a new block; the others come behind them, in the text's order. -/
namespace Go.Proofs.Ytidbikjdigemnaa
open Go.RowKit
set_option linter.unusedVariables false
set_option linter.unusedSimpArgs false
structure RInvW (l : List Oper) (m q d : Nat) (V : Nat → Value) (U : Array Value) (T : TypeId) (a0 aE : Act) (w0 : World) (listed : Array Bool) (a : Act) (w : World) : Prop where
  df : a.defers = aE.defers
  sz : a.tmps.size = aE.tmps.size
  len : listed.size = l.length
  fr1 : ∀ (j : Nat) (o : Oper) (t : Nat), j < m → l[j]? = some o → o.dst = some t → t ≠ d → listed.getD j false = true → a.tmps.getD t undef = aE.tmps.getD t undef
  fr0 : ∀ t : Nat, t ≠ d → (∀ (j : Nat) (o : Oper), j < m → l[j]? = some o → o.dst = some t → listed.getD j false = false) → a.tmps.getD t undef = a0.tmps.getD t undef
  bl : Below w0.heap.size w0 w
  box : listed.getD q false = true → ∃ g, a.tmps.getD d undef = V g ∧ w0.heap.size ≤ g ∧ w.heap[g]? = some (.cells U T (0, 0))
  rest : ∀ j, m ≤ j → listed.getD j false = false
  dc : ∀ (i : Nat) (o : Oper), l[i]? = some o → listed.getD i false = true → ∀ e ∈ o.after, Region.binds .any e = true → listed.getD e.on false = true
/-- Only operation q writes slot d, and no other of the first m reads it. -/
def onlyChk (l : List Oper) (m q d : Nat) : Bool := (List.range m).all fun i => match l[i]? with
  | none => true
  | some o => if i = q then (o.dst == some d && o.guard.isNone) && !(readsOf o).contains d else !(o.dst == some d) && !(readsOf o).contains d
theorem onlyChk_at {l : List Oper} {m q d : Nat} (h : onlyChk l m q d = true) {i : Nat} {o : Oper} (him : i < m) (hi : l[i]? = some o) : (i = q → (o.dst = some d ∧ o.guard = none) ∧ d ∉ readsOf o) ∧ (i ≠ q → o.dst ≠ some d ∧ d ∉ readsOf o) := by
  have := List.all_eq_true.1 h i (List.mem_range.2 him)
  rw [hi] at this
  simp only at this
  constructor
  · intro e; rw [if_pos e] at this; simp only [Bool.and_eq_true, beq_iff_eq, Option.isNone_iff_eq_none, Bool.not_eq_true'] at this; exact ⟨this.1, by have := this.2; simpa using this⟩
  · intro e; rw [if_neg e] at this; simp only [Bool.and_eq_true, Bool.not_eq_true', beq_eq_false_iff_ne] at this; exact ⟨this.1, by have := this.2; simpa using this⟩
section
variable {P : Program} {Q : Exit → Act → World → Prop} {l : List Oper} {a0 : Act} {w : World} {vs : List (Nat × Value)} {m q d : Nat} {V : Nat → Value} {U : Array Value} {T : TypeId} {oq : Oper}
theorem wp_region_boxvia {id : Nat} (hm : P.follows .mixedOrders = true) (hml : m ≤ l.length)
    (chk : viaChk l m a0.tmps.size = true) (hkeys : vs.all (fun kv => (l.take m).any (·.dst == some kv.1)) = true)
    (hqm : q < m) (hoq : l[q]? = some oq) (hd : d < a0.tmps.size) (only : onlyChk l m q d = true)
    (hmk : ∀ (ρ : Operand → Value) (W : World), (∀ t ∈ readsOf oq, ρ (.tmp t) = (puts a0 vs).tmps.getD t undef) → (execOp ρ oq).run P W = .ok (.value (V W.heap.size)) (W.alloc (.cells U T)))
    (hop : ∀ (i : Nat) (o : Oper) (t : Nat), i < m → i ≠ q → l[i]? = some o → o.dst = some t → (Region.wanted o (yielded l.toArray (puts a0 vs).tmps) = true ∧ ∀ W, Below w.heap.size w W → calmAt P o (puts a0 vs).eval W ((puts a0 vs).tmps.getD t undef)) ∨ (Region.wanted o (yielded l.toArray (puts a0 vs).tmps) = false ∧ (puts a0 vs).tmps.getD t undef = undef))
    (hgd : ∀ (i : Nat) (o : Oper) (k : Nat) (b : Bool), i < m → l[i]? = some o → o.guard = some (k, b) → k < m ∧ k ≠ q)
    (hQ : ∀ g W, Below w.heap.size w W → w.heap.size ≤ g → W.heap[g]? = some (.cells U T (0, 0)) → wpList P l.toArray Q (l.drop m) ((puts a0 vs).put (some d) (V g)) W) :
    (Code.region id l.toArray true).wp P Q a0 w := by
  have hE : ∀ t, (∀ (j : Nat) (o : Oper), j < m → l[j]? = some o → o.dst ≠ some t) → a0.tmps.getD t undef = (puts a0 vs).tmps.getD t undef := by
    intro t hno
    refine (puts_other t vs a0 (fun kv hkv e => ?_)).symm
    have := List.all_eq_true.1 hkeys kv hkv
    obtain ⟨o, ho, hod⟩ := List.any_eq_true.1 this
    obtain ⟨j, hj, hjo⟩ := List.mem_take_iff_getElem.1 ho
    exact hno j o (by omega) (by rw [← hjo]; exact List.getElem?_eq_getElem (by omega)) (by rw [← e]; simpa using hod)
  have hEs : (puts a0 vs).tmps.size = a0.tmps.size := puts_size _ _
  have hEd : (puts a0 vs).defers = a0.defers := puts_defers _ _
  generalize puts a0 vs = aE at *
  refine wp_region_any hm ?_
  have key : ∀ (fuel : Nat) (listed : Array Bool) (a : Act) (W : World), RInvW l m q d V U T a0 aE w listed a W →
      (List.range m).countP (fun i => !listed.getD i true) + (l.length - m) ≤ fuel → wpAny P .any l.toArray Q fuel listed a W := by
    intro fuel
    have fin : ∀ (fuel : Nat) (listed : Array Bool) (a : Act) (W : World), RInvW l m q d V U T a0 aE w listed a W → (∀ j, j < m → listed.getD j false = true) → l.length - m ≤ fuel → wpAny P .any l.toArray Q fuel listed a W := by
      intro fuel listed a W hI hall hf
      obtain ⟨g, hg, hg0, hgc⟩ := hI.box (hall q hqm)
      have ea : a = aE.put (some d) (V g) := by
        refine act_ext _ _ (by rw [put_defers]; exact hI.df) (by rw [put_size]; exact hI.sz) (fun t ht => ?_)
        by_cases htd : t = d
        · subst htd; rw [hg, put_get_same _ _ _ (by rw [hEs]; exact hd)]
        · rw [put_get_ne _ _ _ _ (Ne.symm htd)]
          by_cases hw : ∃ (j : Nat) (o : Oper), j < m ∧ l[j]? = some o ∧ o.dst = some t
          · obtain ⟨j, o, hjm, hj, ho⟩ := hw
            exact hI.fr1 j o t hjm hj ho htd (hall j hjm)
          · rw [hI.fr0 t htd (fun j o hjm hj ho => (hw ⟨j, o, hjm, hj, ho⟩).elim)]
            exact hE t (fun j o hjm hj ho => hw ⟨j, o, hjm, hj, ho⟩)
      subst ea
      refine any_tailV chk fuel m listed _ W (Nat.le_refl _) hml hI.len (fun j hj => ⟨fun h => ?_, fun h => hall j h⟩) hf (hQ g W hI.bl hg0 hgc)
      rcases Nat.lt_or_ge j m with h2 | h2
      · exact h2
      · rw [hI.rest j h2] at h; cases h
    -- what an operation that may come up reads is at hand
    have look : ∀ (listed : Array Bool) (a : Act) (W : World), RInvW l m q d V U T a0 aE w listed a W → ∀ (i : Nat) (o : Oper), i < m → l[i]? = some o →
        (∀ e ∈ o.after, Region.binds .any e = true → listed.getD e.on false = true) → ∀ t ∈ readsOf o, t ≠ d → a.tmps.getD t undef = aE.tmps.getD t undef := by
      intro listed a W hI i o him hi hall t ht htd
      have h := ((viaChk_at chk hi).2.2.1 him).2.2 t ht
      · by_cases hw : ∃ (j : Nat) (oj : Oper), j < m ∧ l[j]? = some oj ∧ oj.dst = some t
        · obtain ⟨j, oj, hjm, hj, hjd⟩ := hw
          obtain ⟨e, he, hb, hon⟩ := bindsTo_spec (h j oj hjm hj hjd)
          exact hI.fr1 j oj t hjm hj hjd htd (by rw [← hon]; exact hall e he hb)
        · rw [hI.fr0 t htd (fun j oj hjm hj ho => (hw ⟨j, oj, hjm, hj, ho⟩).elim)]
          exact hE t (fun j oj hjm hj ho => hw ⟨j, oj, hjm, hj, ho⟩)
    induction fuel with
    | zero =>
      intro listed a W hI hc
      refine fin 0 listed a W hI (fun j hj => ?_) (by omega)
      have h0 : (List.range m).countP (fun i => !listed.getD i true) = 0 := by omega
      rw [List.countP_eq_zero] at h0
      have := h0 j (List.mem_range.2 hj)
      have hj' : j < listed.size := by rw [hI.len]; omega
      simpa [hj'] using this
    | succ fuel ih =>
      intro listed a W hI hc
      by_cases hall : ∀ j, j < m → listed.getD j false = true
      · exact fin _ listed a W hI hall (by omega)
      · have hno : ∀ i, i ∈ Region.ready .any l.toArray listed → i < m := by
          intro i hi
          rcases Nat.lt_or_ge i m with h | h
          · exact h
          · exfalso
            obtain ⟨o, hio, hil, hi0, ha⟩ := ready_mem hi hI.len
            rcases Nat.eq_or_lt_of_le h with h2 | h2
            · refine hall (fun j hj => ?_)
              exact reach_listed hI.dc _ i j o hio ha ((viaChk_at chk hio).2.2.2.1 h2.symm j hj)
            · obtain ⟨e, he, hb, hon⟩ := bindsTo_spec ((viaChk_at chk hio).2.2.2.2 h2)
              have h3 := ha e he hb
              rw [hon, hI.rest (i - 1) (by omega)] at h3; cases h3
        refine ⟨fun hr => ?_, fun i hi => ?_⟩
        · exfalso
          have all : ∀ i, i < l.length → listed.getD i false = true := by
            intro i
            induction i using Nat.strongRecOn with
            | _ i ih2 =>
              intro hi
              cases hb : listed.getD i false with
              | true => rfl
              | false =>
                exfalso
                have ho : l[i]? = some l[i] := List.getElem?_eq_getElem hi
                have hmem : i ∈ Region.ready .any l.toArray listed := by
                  rw [mem_ready]
                  refine ⟨?_, l[i], by simp, fun e he hbd => ?_⟩
                  · have : i < listed.size := by have := hI.len; omega
                    simp [this] at hb ⊢; exact hb
                  · exact ih2 e.on ((viaChk_at chk ho).2.1 e he hbd) (by have := (viaChk_at chk ho).2.1 e he hbd; omega)
                rw [hr] at hmem; cases hmem
          exact hall (fun j hj => all j (by omega))
        · have him := hno i hi
          obtain ⟨o, hio, hil, hi0, hal⟩ := ready_mem hi hI.len
          have hil' : i < listed.size := by rw [hI.len]; exact hil
          have ho : l.toArray[i]? = some o := by simpa using hio
          have hC := viaChk_at chk hio
          have hCm := hC.2.2.1 him
          obtain ⟨t, hdst, htN⟩ := hCm.2.1
          have hwe : Region.wanted o (yielded l.toArray a.tmps) = Region.wanted o (yielded l.toArray aE.tmps) := by
            unfold Region.wanted
            cases hg : o.guard with
            | none => rfl
            | some kb =>
              obtain ⟨k, b⟩ := kb
              obtain ⟨e, he, hb, hon⟩ := bindsTo_spec (hCm.1 k b hg)
              have : yielded l.toArray a.tmps k = yielded l.toArray aE.tmps k := yielded_congr hI.sz (fun ok tk hk hdk => hI.fr1 k ok tk (hgd i o k b him hio hg).1 (by simpa using hk) hdk (fun e2 => ((onlyChk_at only (hgd i o k b him hio hg).1 (by simpa using hk)).2 (hgd i o k b him hio hg).2).1 (by rw [hdk, e2])) (by rw [← hon]; exact hal e he hb))
              simp only [this]
          have hcnt : (List.range m).countP (fun j => !(listed.setIfInBounds i true).getD j true) + (l.length - m) ≤ fuel := by
            have := count_lt (fun j => !listed.getD j true) (fun j => !(listed.setIfInBounds i true).getD j true) (fun j hj => by
                by_cases e : i = j
                · subst e; simp [hil'] at hj
                · rw [getD_set_ne true e] at hj; exact hj) i (by simpa [hil'] using hi0) (by simp [hil']) (List.range m) (List.mem_range.2 him)
            omega
          have dcS : ∀ (i2 : Nat) (o2 : Oper), l[i2]? = some o2 → (listed.setIfInBounds i true).getD i2 false = true → ∀ e ∈ o2.after, Region.binds .any e = true → (listed.setIfInBounds i true).getD e.on false = true := by
            intro j oj hj hl e he hb
            rw [getD_set _ _ _ hil']
            by_cases ei : i = e.on
            · rw [if_pos ei]
            · rw [if_neg ei]
              rw [getD_set _ _ _ hil'] at hl
              by_cases ej : i = j
              · subst ej; rw [hio] at hj; obtain rfl := Option.some.inj hj; exact hal e he hb
              · rw [if_neg ej] at hl; exact hI.dc j oj hj hl e he hb
          by_cases hiq : i = q
          · -- the new block
            subst hiq
            have eo : o = oq := by rw [hoq] at hio; exact (Option.some.inj hio).symm
            subst eo
            obtain ⟨⟨hod, hogd⟩, hord⟩ := (onlyChk_at only him hio).1 rfl
            have hrun := hmk a.eval W (fun t ht => look listed a W hI i o him hio hal t ht (fun e => hord (e ▸ ht)))
            have hw : Region.wanted o (yielded l.toArray a.tmps) = true := by unfold Region.wanted; rw [hogd]
            unfold wpOp
            simp only [ho, hw, if_true]
            refine .inl ?_
            unfold Oper.wp
            rw [hrun]
            simp only [Oper.upon, hod]
            refine ih _ _ _ ⟨by rw [put_defers]; exact hI.df, by rw [put_size]; exact hI.sz, by simpa using hI.len, ?_, ?_, bal hI.bl _, fun _ => ⟨W.heap.size, put_get_same _ _ _ (by rw [hI.sz, hEs]; exact hd), hI.bl.size, heap_alloc_new _ _⟩, ?_, dcS⟩ hcnt
            · intro j oj u hjm hj hjd hud hl
              rw [put_get_ne _ _ _ _ (Ne.symm hud)]
              rw [getD_set _ _ _ hil'] at hl
              by_cases e : i = j
              · subst e; rw [hio] at hj; obtain rfl := Option.some.inj hj; rw [hod] at hjd; exact (hud (Option.some.inj hjd).symm).elim
              · rw [if_neg e] at hl; exact hI.fr1 j oj u hjm hj hjd hud hl
            · intro u hud hnu
              rw [put_get_ne _ _ _ _ (Ne.symm hud)]
              refine hI.fr0 u hud (fun j oj hjm hj hjd => ?_)
              have := hnu j oj hjm hj hjd
              rw [getD_set _ _ _ hil'] at this
              by_cases e : i = j
              · rw [if_pos e] at this; cases this
              · rw [if_neg e] at this; exact this
            · intro j hj
              rw [getD_set _ _ _ hil', if_neg (by omega)]; exact hI.rest j hj
          · obtain ⟨hon1, hon2⟩ := (onlyChk_at only him hio).2 hiq
            have htd : t ≠ d := fun e => hon1 (by rw [hdst, e])
            have step : ∀ W', Below w.heap.size w W' → (∀ g, w.heap.size ≤ g → W.heap[g]? = some (.cells U T (0, 0)) → W'.heap[g]? = some (.cells U T (0, 0))) → wpAny P .any l.toArray Q fuel (listed.setIfInBounds i true) (a.put (some t) (aE.tmps.getD t undef)) W' := by
              intro W' hW' hkeep
              refine ih _ _ _ ⟨by rw [put_defers]; exact hI.df, by rw [put_size]; exact hI.sz, by simpa using hI.len, ?_, ?_, hW', ?_, ?_, dcS⟩ hcnt
              · intro j oj u hjm hj hjd hud hl
                by_cases htu : t = u
                · subst htu; rw [put_get_same _ _ _ (by rw [hI.sz, hEs]; exact htN)]
                · rw [put_get_ne _ _ _ _ htu]
                  rw [getD_set _ _ _ hil'] at hl
                  by_cases e : i = j
                  · subst e; rw [hio] at hj; obtain rfl := Option.some.inj hj; rw [hdst] at hjd; exact (htu (Option.some.inj hjd)).elim
                  · rw [if_neg e] at hl; exact hI.fr1 j oj u hjm hj hjd hud hl
              · intro u hud hnu
                have htu : t ≠ u := fun e => by
                  subst e
                  have := hnu i o him hio hdst
                  rw [getD_set _ _ _ hil', if_pos rfl] at this; cases this
                rw [put_get_ne _ _ _ _ htu]
                refine hI.fr0 u hud (fun j oj hjm hj hjd => ?_)
                have := hnu j oj hjm hj hjd
                rw [getD_set _ _ _ hil'] at this
                by_cases e : i = j
                · rw [if_pos e] at this; cases this
                · rw [if_neg e] at this; exact this
              · intro hl
                rw [getD_set _ _ _ hil', if_neg hiq] at hl
                obtain ⟨g, h1, h2, h3⟩ := hI.box hl
                exact ⟨g, by rw [put_get_ne _ _ _ _ htd]; exact h1, h2, hkeep g h2 h3⟩
              · intro j hj
                rw [getD_set _ _ _ hil', if_neg (by omega)]; exact hI.rest j hj
            unfold wpOp
            simp only [ho]
            rcases hop i o t him hiq hio hdst with ⟨hw, hcalm⟩ | ⟨hw, hun⟩
            · rw [hwe, hw]
              simp only [if_true]
              refine .inl ?_
              have heq : execOp aE.eval o = execOp a.eval o := execOp_congr o hC.1 (fun x hx => by
                  cases x with
                  | tmp u =>
                    have hu : u ∈ readsOf o := List.mem_filterMap.2 ⟨.tmp u, by simpa using hx, rfl⟩
                    exact (look listed a W hI i o him hio hal u hu (fun e => hon2 (e ▸ hu))).symm
                  | _ => rfl)
              have hcalm' : calmAt P o a.eval W (aE.tmps.getD t undef) := by
                  refine ⟨?_⟩; have hh := (hcalm W hI.bl).out; unfold calmRun at hh ⊢; rw [← heq]; exact hh
              refine wp_of_calm hcalm' (fun W' hb => ?_)
              rw [hdst]
              exact step W' (below_tr' hI.bl hb) (fun g _ hg => by rw [hb.block _ (Array.getElem?_eq_some_iff.1 hg).1]; exact hg)
            · rw [hwe, hw]
              simp only [Bool.false_eq_true, if_false, hdst]
              rw [hun] at step
              exact step W hI.bl (fun _ _ h => h)
  refine key _ _ _ _ ⟨by rw [hEd], hEs.symm, by simp, ?_, ?_, ⟨rfl, rfl, rfl, Nat.le_refl _, fun _ _ => rfl⟩, (fun h => by rw [rep_false] at h; cases h), ?_, ?_⟩ ?_
  · intro j o t _ hj hjd _ hl; rw [rep_false] at hl; cases hl
  · intro t _ _; rfl
  · intro j _; exact rep_false _ _
  · intro j o _ hl; rw [rep_false] at hl; cases hl
  · have : (List.range m).countP (fun i => !(Array.replicate l.toArray.size false).getD i true) ≤ m := Nat.le_trans List.countP_le_length (by simp)
    simp at this ⊢; omega
def guardsOff (l : List Oper) (m q : Nat) : Bool := (l.take m).all fun o => match o.guard with | none => true | some (k, _) => decide (k < m) && k != q
theorem guardsOff_at (h : guardsOff l m q = true) {i : Nat} {o : Oper} {k : Nat} {b : Bool} (him : i < m) (hi : l[i]? = some o) (hg : o.guard = some (k, b)) : k < m ∧ k ≠ q := by
  have hlt : i < l.length := (List.getElem?_eq_some_iff.1 hi).1
  have hmem : o ∈ l.take m := List.mem_take_iff_getElem.2 ⟨i, by omega, (List.getElem?_eq_some_iff.1 hi).2⟩
  have := List.all_eq_true.1 h o hmem
  rw [hg] at this
  simp only [Bool.and_eq_true, decide_eq_true_eq, bne_iff_ne] at this
  exact this
/-- m: the drawn ones; q: the one among them that makes the block (cells U, slot d, its value V of the block's number). -/
theorem region_boxvia {id : Nat} (m q d : Nat) (V : Nat → Value) (U : Array Value) (T : TypeId) (vs : List (Nat × Value)) (hm : P.follows .mixedOrders = true) (hml : m ≤ l.length) (hoq : l[q]? = some oq)
    (chk : viaChk l m a0.tmps.size = true) (hgd : guardsOff l m q = true) (hkeys : vs.all (fun kv => (l.take m).any (·.dst == some kv.1)) = true) (hqm : q < m) (hd : d < a0.tmps.size) (only : onlyChk l m q d = true)
    (H : ∀ aE, puts a0 vs = aE → (∀ (ρ : Operand → Value) (W : World), (∀ t ∈ readsOf oq, ρ (.tmp t) = aE.tmps.getD t undef) → (execOp ρ oq).run P W = .ok (.value (V W.heap.size)) (W.alloc (.cells U T))) ∧
      AllBut (CalmG P aE w l) q q 0 (l.take m) ∧ ∀ g W, Below w.heap.size w W → w.heap.size ≤ g → W.heap[g]? = some (.cells U T (0, 0)) → wpList P l.toArray Q (l.drop m) (aE.put (some d) (V g)) W) :
    (Code.region id l.toArray true).wp P Q a0 w := by
  obtain ⟨h1, h2, h3⟩ := H _ rfl
  refine wp_region_boxvia hm hml chk hkeys hqm hoq hd only h1 (fun i o t him hiq hi hd => ?_) (fun i o k b him hi hg => guardsOff_at hgd him hi hg) h3
  have hlt : i < l.length := (List.getElem?_eq_some_iff.1 hi).1
  exact AllBut.spec (l.take m) 0 h2 i o (by rw [List.getElem?_take_of_lt him]; exact hi) (by omega) (by omega) t hd
end
end Go.Proofs.Ytidbikjdigemnaa
