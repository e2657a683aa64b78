/- Texts of the claim, in build order: RegI, V1, V2. No condition. -/
import Derived.Maps.AppendAt
import Derived.Test.YtidbikjdigemnaaZDegreesOfFigure11
/- A region whose first m operations draw their order and yield values of which a relation is known (slot, value, the interval of blocks that it made, world): the intervals lie apart. (Printed by genregi.py, a program of this session.) -/
namespace Go.Proofs.Ytidbikjdigemnaa
open Go.RowKit
set_option linter.unusedVariables false
set_option linter.unusedSimpArgs false
/-- Each operation of the first m that fills t reads u. -/
def cpChk (l : List Oper) (m : Nat) (cp : List (Nat × Nat)) : Bool :=
  cp.all fun tu => !(tu.1 == tu.2) && (List.range m).all fun i => match l[i]? with
    | none => true
    | some o => !(o.dst == some tu.1) || (readsOf o).contains tu.2
theorem cpChk_ne {l : List Oper} {m : Nat} {cp : List (Nat × Nat)} (h : cpChk l m cp = true) {t u : Nat} (hm : (t, u) ∈ cp) : t ≠ u := by
  unfold cpChk at h
  rw [List.all_eq_true] at h
  have h1 := h _ hm
  simp only [Bool.and_eq_true] at h1
  intro e
  have := h1.1
  simp [e] at this
theorem cpChk_reads {l : List Oper} {m : Nat} {cp : List (Nat × Nat)} (h : cpChk l m cp = true) {t u : Nat} (hm : (t, u) ∈ cp) {i : Nat} {o : Oper} (hi : i < m) (ho : l[i]? = some o) (hd : o.dst = some t) : u ∈ readsOf o := by
  unfold cpChk at h
  rw [List.all_eq_true] at h
  have h1 := h _ hm
  simp only [Bool.and_eq_true, List.all_eq_true] at h1
  have h2 := h1.2 i (List.mem_range.2 hi)
  rw [ho] at h2
  simp only [hd] at h2
  simpa using h2
structure RInvI (cp : List (Nat × Nat)) (l : List Oper) (m : Nat) (Rel : Nat → Value → Nat → Nat → World → Prop) (a0 : Act) (w0 : World) (lo hi : Nat → Nat) (listed : Array Bool) (a : Act) (w : World) : Prop where
  df : a.defers = a0.defers
  sz : a.tmps.size = a0.tmps.size
  len : listed.size = l.length
  fr1 : ∀ (j : Nat) (o : Oper) (t : Nat), j < m → l[j]? = some o → o.dst = some t → listed.getD j false = true → Rel t (a.tmps.getD t undef) (lo t) (hi t) w
  iv1 : ∀ (j : Nat) (o : Oper) (t : Nat), j < m → l[j]? = some o → o.dst = some t → listed.getD j false = true → w0.heap.size ≤ lo t ∧ hi t ≤ w.heap.size
  iv2 : ∀ (j : Nat) (o : Oper) (t : Nat), j < m → l[j]? = some o → o.dst = some t → listed.getD j false = true → ∀ (j' : Nat) (o' : Oper) (t' : Nat), j' < m → l[j']? = some o' → o'.dst = some t' → listed.getD j' false = true → t ≠ t' → hi t ≤ lo t' ∨ hi t' ≤ lo t
  cy : ∀ (t u : Nat), (t, u) ∈ cp → ∀ (j : Nat) (o : Oper), j < m → l[j]? = some o → o.dst = some t → listed.getD j false = true → a.tmps.getD t undef = a.tmps.getD u undef
  fr0 : ∀ t : Nat, (∀ (j : Nat) (o : Oper), j < m → l[j]? = some o → o.dst = some t → listed.getD j false = false) → a.tmps.getD t undef = a0.tmps.getD t undef
  bl : Below w0.heap.size w0 w
  rest : ∀ j, m ≤ j → listed.getD j false = false
  dc : ∀ (i : Nat) (o : Oper), l[i]? = some o → listed.getD i false = true → ∀ e ∈ o.after, Region.binds .any e = true → listed.getD e.on false = true
/-- What an operation may take of the slots that it reads. -/
def TakenI (ts : List Nat) (Rel : Nat → Value → Nat → Nat → World → Prop) (a0 a : Act) (W : World) (u : Nat) : Prop := (ts.contains u = true → ∃ lo hi, Rel u (a.tmps.getD u undef) lo hi W) ∧ (ts.contains u = false → a.tmps.getD u undef = a0.tmps.getD u undef)
structure RelOkI (cp : List (Nat × Nat)) (P : Program) (ts : List Nat) (Rel : Nat → Value → Nat → Nat → World → Prop) (Q : Exit → Act → World → Prop) (a0 : Act) (w : World) (o : Oper) : Prop where
  out : o.guard = none ∧ ∀ t, o.dst = some t → ∀ (a : Act) (W : World), Below w.heap.size w W → (∀ u, (readsOf o).contains u = true → TakenI ts Rel a0 a W u) → relAt P o a W (fun v W' => Rel t v W.heap.size W'.heap.size W' ∧ ∀ u, (t, u) ∈ cp → v = a.tmps.getD u undef) Q
theorem RelOkI.mk' {cp : List (Nat × Nat)} {P : Program} {ts : List Nat} {Rel : Nat → Value → Nat → Nat → World → Prop} {Q : Exit → Act → World → Prop} {a0 : Act} {w : World} {o : Oper} (t : Nat) (hd : o.dst = some t) (hg : o.guard = none) (hc : cp.all (fun tu => !(tu.1 == t)) = true)
    (h : ∀ (a : Act) (W : World), Below w.heap.size w W → (∀ u, (readsOf o).contains u = true → TakenI ts Rel a0 a W u) → relAt P o a W (fun v W' => Rel t v W.heap.size W'.heap.size W') Q) : RelOkI cp P ts Rel Q a0 w o :=
  ⟨hg, fun t' hd' => by
    rw [hd] at hd'; obtain rfl := Option.some.inj hd'
    refine fun a W hW hr => ⟨Oper.wp_mono (fun a' W' h2 => ?_) (h a W hW hr).out⟩
    obtain ⟨v, e, hb, hS⟩ := h2
    exact ⟨v, e, hb, hS, fun u hu => by rw [List.all_eq_true] at hc; have := hc _ hu; simp at this⟩⟩
theorem RelOkI.copy {cp : List (Nat × Nat)} {P : Program} {ts : List Nat} {Rel : Nat → Value → Nat → Nat → World → Prop} {Q : Exit → Act → World → Prop} {a0 : Act} {w : World} {o : Oper} (t u : Nat) (hd : o.dst = some t) (hg : o.guard = none) (hop : o.op = .assign (.tmp u)) (hc : cp.all (fun tu => !(tu.1 == t) || (tu.2 == u)) = true)
    (h : ∀ v lo hi W, Rel t v lo hi W) : RelOkI cp P ts Rel Q a0 w o :=
  ⟨hg, fun t' hd' => by
    rw [hd] at hd'; obtain rfl := Option.some.inj hd'
    exact fun a W hW hr => rel_calm (calm_run (v := a.tmps.getD u undef) (by simp [execOp, hop, Act.eval, go_sem])) (fun _ _ => ⟨h _ _ _ _, fun u' hu => by rw [List.all_eq_true] at hc; have := hc _ hu; simp at this; rw [this]⟩)⟩
section
variable {P : Program} {Q : Exit → Act → World → Prop} {l : List Oper} {a0 : Act} {w : World} {m : Nat} {ts : List Nat} {Rel : Nat → Value → Nat → Nat → World → Prop} {cp : List (Nat × Nat)}
theorem region_relI {id : Nat} (m : Nat) (ts : List Nat) (Rel : Nat → Value → Nat → Nat → World → Prop) (hm : P.follows .mixedOrders = true) (hml : m ≤ l.length)
    (chk : viaChk l m a0.tmps.size = true) (hcp : cpChk l m cp = true) (hts : (l.take m).filterMap (·.dst) = ts)
    (mono : ∀ t, ts.contains t = true → ∀ v lo hi W W', Rel t v lo hi W → Below W.heap.size W W' → Rel t v lo hi W')
    (hop : AllR (RelOkI cp P ts Rel Q a0 w) (l.take m))
    (hQ : ∀ (v : Nat → Value) (lo hi : Nat → Nat) (W : World), Below w.heap.size w W → (∀ t, ts.contains t = true → Rel t (v t) (lo t) (hi t) W) → (∀ t, ts.contains t = true → w.heap.size ≤ lo t ∧ hi t ≤ W.heap.size) → (∀ t t', ts.contains t = true → ts.contains t' = true → t ≠ t' → hi t ≤ lo t' ∨ hi t' ≤ lo t) → (∀ t u, (t, u) ∈ cp → ts.contains t = true → v t = v u) → wpList P l.toArray Q (l.drop m) (puts a0 (ts.map fun t => (t, v t))) W) :
    (Code.region id l.toArray true).wp P Q a0 w := by
  have hopi : ∀ (i : Nat) (o : Oper), i < m → l[i]? = some o → RelOkI cp P ts Rel Q a0 w o := fun i o him hi => AllR.spec hop o (List.mem_take_iff_getElem.2 ⟨i, by have := (List.getElem?_eq_some_iff.1 hi).1; omega, (List.getElem?_eq_some_iff.1 hi).2⟩)
  have hmem : ∀ t, ts.contains t = true ↔ ∃ (j : Nat) (o : Oper), j < m ∧ l[j]? = some o ∧ o.dst = some t := by
    intro t
    rw [List.contains_iff_mem, ← hts, List.mem_filterMap]
    constructor
    · rintro ⟨o, ho, hd⟩
      obtain ⟨j, hj, e⟩ := List.mem_take_iff_getElem.1 ho
      exact ⟨j, o, by omega, by rw [← e]; exact List.getElem?_eq_getElem (by omega), hd⟩
    · rintro ⟨j, o, hj, ho, hd⟩
      exact ⟨o, List.mem_take_iff_getElem.2 ⟨j, by have := (List.getElem?_eq_some_iff.1 ho).1; omega, (List.getElem?_eq_some_iff.1 ho).2⟩, hd⟩
  refine wp_region_any hm ?_
  have key : ∀ (fuel : Nat) (lo hi : Nat → Nat) (listed : Array Bool) (a : Act) (W : World), RInvI cp l m Rel a0 w lo hi listed a W →
      (List.range m).countP (fun i => !listed.getD i true) + (l.length - m) ≤ fuel → wpAny P .any l.toArray Q fuel listed a W := by
    intro fuel
    have fin : ∀ (fuel : Nat) (lo hi : Nat → Nat) (listed : Array Bool) (a : Act) (W : World), RInvI cp l m Rel a0 w lo hi listed a W → (∀ j, j < m → listed.getD j false = true) → l.length - m ≤ fuel → wpAny P .any l.toArray Q fuel listed a W := by
      intro fuel lo hi listed a W hI hall hf
      have ea : a = puts a0 (ts.map fun t => (t, a.tmps.getD t undef)) := by
        refine act_ext _ _ (by rw [puts_defers]; exact hI.df) (by rw [puts_size]; exact hI.sz) (fun t ht => ?_)
        by_cases htd : ts.contains t = true
        · rw [puts_vals (fun t => a.tmps.getD t undef) t ts a0 (List.contains_iff_mem.1 htd) (by rw [← hI.sz]; exact ht)]
        · rw [puts_other t _ _ (fun kv hkv e => htd (by obtain ⟨x, hx, rfl⟩ := List.mem_map.1 hkv; rw [← e]; exact List.contains_iff_mem.2 hx))]
          exact hI.fr0 t (fun j o hjm hj ho => (htd ((hmem t).2 ⟨j, o, hjm, hj, ho⟩)).elim)
      have hq := hQ (fun t => a.tmps.getD t undef) lo hi W hI.bl (fun t ht => by obtain ⟨j, o, hjm, hj, ho⟩ := (hmem t).1 ht; exact hI.fr1 j o t hjm hj ho (hall j hjm)) (fun t ht => by obtain ⟨j, o, hjm, hj, ho⟩ := (hmem t).1 ht; exact hI.iv1 j o t hjm hj ho (hall j hjm))
        (fun t t' ht ht' hne => by obtain ⟨j, o, hjm, hj, ho⟩ := (hmem t).1 ht; obtain ⟨j', o', hjm', hj', ho'⟩ := (hmem t').1 ht'; exact hI.iv2 j o t hjm hj ho (hall j hjm) j' o' t' hjm' hj' ho' (hall j' hjm') hne) (fun t u hm ht => by obtain ⟨j, o, hjm, hj, ho⟩ := (hmem t).1 ht; exact hI.cy t u hm j o hjm hj ho (hall j hjm))
      rw [← ea] at hq
      refine any_tailV chk fuel m listed _ W (Nat.le_refl _) hml hI.len (fun j hj => ⟨fun h => ?_, fun h => hall j h⟩) hf hq
      rcases Nat.lt_or_ge j m with h2 | h2
      · exact h2
      · rw [hI.rest j h2] at h; cases h
    have look : ∀ (lo hi : Nat → Nat) (listed : Array Bool) (a : Act) (W : World), RInvI cp l m Rel a0 w lo hi listed a W → ∀ (i : Nat) (o : Oper), i < m → l[i]? = some o →
        (∀ e ∈ o.after, Region.binds .any e = true → listed.getD e.on false = true) → ∀ t, (readsOf o).contains t = true → TakenI ts Rel a0 a W t := by
      intro lo hi listed a W hI i o him hil hall t ht
      have h := ((viaChk_at chk hil).2.2.1 him).2.2 t (List.contains_iff_mem.1 ht)
      constructor
      · intro hc
        obtain ⟨j, oj, hjm, hj, hjd⟩ := (hmem t).1 hc
        obtain ⟨e, he, hb, hon⟩ := bindsTo_spec (h j oj hjm hj hjd)
        exact ⟨_, _, hI.fr1 j oj t hjm hj hjd (by rw [← hon]; exact hall e he hb)⟩
      · intro hc
        exact hI.fr0 t (fun j o hjm hj ho => by rw [(hmem t).2 ⟨j, o, hjm, hj, ho⟩] at hc; cases hc)
    induction fuel with
    | zero =>
      intro lo hi listed a W hI hc
      refine fin 0 lo hi listed a W hI (fun j hj => ?_) (by omega)
      have h0 : (List.range m).countP (fun i => !listed.getD i true) = 0 := by omega
      rw [List.countP_eq_zero] at h0
      have := h0 j (List.mem_range.2 hj)
      have hj' : j < listed.size := by rw [hI.len]; omega
      simpa [hj'] using this
    | succ fuel ih =>
      intro lo hi listed a W hI hc
      by_cases hall : ∀ j, j < m → listed.getD j false = true
      · exact fin _ lo hi listed a W hI hall (by omega)
      · have hno : ∀ i, i ∈ Region.ready .any l.toArray listed → i < m := by
          intro i hmi
          rcases Nat.lt_or_ge i m with h | h
          · exact h
          · exfalso
            obtain ⟨o, hio, hil, hi0, ha⟩ := ready_mem hmi hI.len
            rcases Nat.eq_or_lt_of_le h with h2 | h2
            · refine hall (fun j hj => ?_)
              exact reach_listed hI.dc _ i j o hio ha ((viaChk_at chk hio).2.2.2.1 h2.symm j hj)
            · obtain ⟨e, he, hb, hon⟩ := bindsTo_spec ((viaChk_at chk hio).2.2.2.2 h2)
              have h3 := ha e he hb
              rw [hon, hI.rest (i - 1) (by omega)] at h3; cases h3
        refine ⟨fun hr => ?_, fun i hmi => ?_⟩
        · exfalso
          have all : ∀ i, i < l.length → listed.getD i false = true := by
            intro i
            induction i using Nat.strongRecOn with
            | _ i ih2 =>
              intro hii
              cases hb : listed.getD i false with
              | true => rfl
              | false =>
                exfalso
                have ho : l[i]? = some l[i] := List.getElem?_eq_getElem hii
                have hmem : i ∈ Region.ready .any l.toArray listed := by
                  rw [mem_ready]
                  refine ⟨?_, l[i], by simp, fun e he hbd => ?_⟩
                  · have : i < listed.size := by have := hI.len; omega
                    simp [this] at hb ⊢; exact hb
                  · exact ih2 e.on ((viaChk_at chk ho).2.1 e he hbd) (by have := (viaChk_at chk ho).2.1 e he hbd; omega)
                rw [hr] at hmem; cases hmem
          exact hall (fun j hj => all j (by omega))
        · have him := hno i hmi
          obtain ⟨o, hio, hil, hi0, hal⟩ := ready_mem hmi hI.len
          have hil' : i < listed.size := by rw [hI.len]; exact hil
          have ho : l.toArray[i]? = some o := by simpa using hio
          have hC := viaChk_at chk hio
          have hCm := hC.2.2.1 him
          obtain ⟨t, hdst, htN⟩ := hCm.2.1
          have hw : Region.wanted o (yielded l.toArray a.tmps) = true := by unfold Region.wanted; rw [(hopi i o him hio).out.1]
          have hcnt : (List.range m).countP (fun j => !(listed.setIfInBounds i true).getD j true) + (l.length - m) ≤ fuel := by
            have := count_lt (fun j => !listed.getD j true) (fun j => !(listed.setIfInBounds i true).getD j true) (fun j hj => by
                by_cases e : i = j
                · subst e; simp [hil'] at hj
                · rw [getD_set_ne true e] at hj; exact hj) i (by simpa [hil'] using hi0) (by simp [hil']) (List.range m) (List.mem_range.2 him)
            omega
          have dcS : ∀ (i2 : Nat) (o2 : Oper), l[i2]? = some o2 → (listed.setIfInBounds i true).getD i2 false = true → ∀ e ∈ o2.after, Region.binds .any e = true → (listed.setIfInBounds i true).getD e.on false = true := by
            intro j oj hj hl e he hb
            rw [getD_set _ _ _ hil']
            by_cases ei : i = e.on
            · rw [if_pos ei]
            · rw [if_neg ei]
              rw [getD_set _ _ _ hil'] at hl
              by_cases ej : i = j
              · subst ej; rw [hio] at hj; obtain rfl := Option.some.inj hj; exact hal e he hb
              · rw [if_neg ej] at hl; exact hI.dc j oj hj hl e he hb
          have hrel := ((hopi i o him hio).out.2 t hdst a W hI.bl (look lo hi listed a W hI i o him hio hal)).out
          unfold wpOp
          simp only [ho, hw, if_true]
          refine .inl (Oper.wp_mono (fun a' W' h => ?_) hrel)
          obtain ⟨v, rfl, hb, hS, hV⟩ := h
          rw [hdst]
          refine ih (fun u => if u = t then W.heap.size else lo u) (fun u => if u = t then W'.heap.size else hi u) _ _ _ ⟨by rw [put_defers]; exact hI.df, by rw [put_size]; exact hI.sz, by simpa using hI.len, ?_, ?_, ?_, ?_, ?_, below_tr' hI.bl hb, ?_, dcS⟩ hcnt
          · intro j oj u hjm hj hjd hl
            by_cases htu : t = u
            · subst htu; rw [put_get_same _ _ _ (by rw [hI.sz]; exact htN)]; simp only [if_true]; exact hS
            · rw [put_get_ne _ _ _ _ htu]
              simp only [if_neg (Ne.symm htu)]
              rw [getD_set _ _ _ hil'] at hl
              by_cases e : i = j
              · subst e; rw [hio] at hj; obtain rfl := Option.some.inj hj; rw [hdst] at hjd; exact (htu (Option.some.inj hjd)).elim
              · rw [if_neg e] at hl; exact mono u ((hmem u).2 ⟨j, oj, hjm, hj, hjd⟩) _ _ _ _ _ (hI.fr1 j oj u hjm hj hjd hl) hb
          · intro j oj u hjm hj hjd hl
            by_cases htu : u = t
            · simp only [if_pos htu]; exact ⟨hI.bl.size, Nat.le_refl _⟩
            · simp only [if_neg htu]
              rw [getD_set _ _ _ hil'] at hl
              by_cases e : i = j
              · subst e; rw [hio] at hj; obtain rfl := Option.some.inj hj; rw [hdst] at hjd; exact (htu (Option.some.inj hjd).symm).elim
              · rw [if_neg e] at hl
                obtain ⟨h1, h2⟩ := hI.iv1 j oj u hjm hj hjd hl
                exact ⟨h1, Nat.le_trans h2 hb.size⟩
          · intro j oj u hjm hj hjd hl j' oj' u' hjm' hj' hjd' hl' hne
            rw [getD_set _ _ _ hil'] at hl hl'
            by_cases htu : u = t
            · have htu' : u' ≠ t := fun e => hne (htu.trans e.symm)
              simp only [if_pos htu, if_neg htu']
              by_cases e : i = j'
              · subst e; rw [hio] at hj'; obtain rfl := Option.some.inj hj'; rw [hdst] at hjd'; exact (htu' (Option.some.inj hjd').symm).elim
              · rw [if_neg e] at hl'
                exact .inr (hI.iv1 j' oj' u' hjm' hj' hjd' hl').2
            · have hl2 : listed.getD j false = true := by
                by_cases e : i = j
                · subst e; rw [hio] at hj; obtain rfl := Option.some.inj hj; rw [hdst] at hjd; exact (htu (Option.some.inj hjd).symm).elim
                · rwa [if_neg e] at hl
              by_cases htu' : u' = t
              · simp only [if_neg htu, if_pos htu']
                exact .inl (hI.iv1 j oj u hjm hj hjd hl2).2
              · simp only [if_neg htu, if_neg htu']
                have hl3 : listed.getD j' false = true := by
                  by_cases e : i = j'
                  · subst e; rw [hio] at hj'; obtain rfl := Option.some.inj hj'; rw [hdst] at hjd'; exact (htu' (Option.some.inj hjd').symm).elim
                  · rwa [if_neg e] at hl'
                exact hI.iv2 j oj u hjm hj hjd hl2 j' oj' u' hjm' hj' hjd' hl3 hne
          · intro tt u hm j oj hjm hj hjd hl
            have hne := cpChk_ne hcp hm
            by_cases htu : t = tt
            · subst htu
              rw [put_get_same _ _ _ (by rw [hI.sz]; exact htN), put_get_ne _ _ _ _ hne]
              exact hV u hm
            · have hij : i ≠ j := fun e => by
                subst e; rw [hio] at hj; obtain rfl := Option.some.inj hj; rw [hdst] at hjd; exact htu (Option.some.inj hjd)
              rw [getD_set _ _ _ hil', if_neg hij] at hl
              have hut : t ≠ u := fun e => by
                subst e
                obtain ⟨e, he, hb2, hon⟩ := bindsTo_spec (((viaChk_at chk hj).2.2.1 hjm).2.2 t (cpChk_reads hcp hm hjm hj hjd) i o him hio hdst)
                have h4 := hI.dc j oj hj hl e he hb2
                rw [hon] at h4
                have : listed.getD i false = false := by simpa [hil'] using hi0
                rw [this] at h4; cases h4
              rw [put_get_ne _ _ _ _ htu, put_get_ne _ _ _ _ hut]
              exact hI.cy tt u hm j oj hjm hj hjd hl
          · intro u hnu
            have htu : t ≠ u := fun e => by
              subst e
              have := hnu i o him hio hdst
              rw [getD_set _ _ _ hil', if_pos rfl] at this; cases this
            rw [put_get_ne _ _ _ _ htu]
            refine hI.fr0 u (fun j oj hjm hj hjd => ?_)
            have := hnu j oj hjm hj hjd
            rw [getD_set _ _ _ hil'] at this
            by_cases e : i = j
            · rw [if_pos e] at this; cases this
            · rw [if_neg e] at this; exact this
          · intro j hj
            rw [getD_set _ _ _ hil', if_neg (by omega)]; exact hI.rest j hj
  refine key _ (fun _ => 0) (fun _ => 0) _ _ _ ⟨rfl, rfl, by simp, ?_, ?_, ?_, ?_, ?_, ⟨rfl, rfl, rfl, Nat.le_refl _, fun _ _ => rfl⟩, ?_, ?_⟩ ?_
  · intro j o t _ hj hjd hl; rw [rep_false] at hl; cases hl
  · intro j o t _ hj hjd hl; rw [rep_false] at hl; cases hl
  · intro j o t _ hj hjd hl; rw [rep_false] at hl; cases hl
  · intro t u _ j o _ hj hjd hl; rw [rep_false] at hl; cases hl
  · intro t _; rfl
  · intro j _; exact rep_false _ _
  · intro j o _ hl; rw [rep_false] at hl; cases hl
  · have : (List.range m).countP (fun i => !(Array.replicate l.toArray.size false).getD i true) ≤ m := Nat.le_trans List.countP_le_length (by simp)
    simp at this ⊢; omega
end
/-- Relations by slots. -/
def relOfI : List (Nat × (Value → Nat → Nat → World → Prop)) → Nat → Value → Nat → Nat → World → Prop
  | [], _, _, _, _, _ => True
  | kv :: r, t, v, lo, hi, W => if kv.1 = t then kv.2 v lo hi W else relOfI r t v lo hi W
structure MonoI (R : Value → Nat → Nat → World → Prop) : Prop where
  out : ∀ v lo hi W W', R v lo hi W → Below W.heap.size W W' → R v lo hi W'
def AllMI : List (Nat × (Value → Nat → Nat → World → Prop)) → Prop
  | [] => True
  | kv :: r => MonoI kv.2 ∧ AllMI r
theorem AllMI.spec : ∀ (rs : List (Nat × (Value → Nat → Nat → World → Prop))), AllMI rs → ∀ t v lo hi W W', relOfI rs t v lo hi W → Below W.heap.size W W' → relOfI rs t v lo hi W'
  | [], _, _, _, _, _, _, _, _, _ => trivial
  | kv :: r, h, t, v, lo, hi, W, W', hr, hb => by
    unfold relOfI at hr ⊢
    split
    · rename_i e; rw [if_pos e] at hr; exact h.1.out v lo hi W W' hr hb
    · rename_i e; rw [if_neg e] at hr; exact AllMI.spec r h.2 t v lo hi W W' hr hb
def isVI (A : Value) : Value → Nat → Nat → World → Prop := fun v _ _ _ => v = A
theorem mono_isVI (A : Value) : MonoI (isVI A) := ⟨fun _ _ _ _ _ h _ => h⟩
theorem region_relsI {P : Program} {Q : Exit → Act → World → Prop} {l : List Oper} {a0 : Act} {w : World} {id : Nat} (m : Nat) (cp : List (Nat × Nat)) (rs : List (Nat × (Value → Nat → Nat → World → Prop))) (hm : P.follows .mixedOrders = true) (hml : m ≤ l.length)
    (chk : viaChk l m a0.tmps.size = true) (hcp : cpChk l m cp = true) (hts : (l.take m).filterMap (·.dst) = rs.map (·.1))
    (mono : AllMI rs)
    (hop : AllR (RelOkI cp P (rs.map (·.1)) (relOfI rs) Q a0 w) (l.take m))
    (hQ : ∀ (v : Nat → Value) (lo hi : Nat → Nat) (W : World), Below w.heap.size w W → (∀ t, (rs.map (·.1)).contains t = true → relOfI rs t (v t) (lo t) (hi t) W) → (∀ t, (rs.map (·.1)).contains t = true → w.heap.size ≤ lo t ∧ hi t ≤ W.heap.size) → (∀ t t', (rs.map (·.1)).contains t = true → (rs.map (·.1)).contains t' = true → t ≠ t' → hi t ≤ lo t' ∨ hi t' ≤ lo t) → (∀ t u, (t, u) ∈ cp → (rs.map (·.1)).contains t = true → v t = v u) → wpList P l.toArray Q (l.drop m) (puts a0 (rs.map fun kv => (kv.1, v kv.1))) W) :
    (Code.region id l.toArray true).wp P Q a0 w := by
  refine region_relI m (rs.map (·.1)) (relOfI rs) hm hml chk hcp hts (fun t _ v lo hi W W' hr hb => AllMI.spec rs mono t v lo hi W W' hr hb) hop (fun v lo hi W hW hv h1 h2 h3 => ?_)
  have := hQ v lo hi W hW hv h1 h2 h3
  rw [List.map_map]
  exact this
end Go.Proofs.Ytidbikjdigemnaa
/- For DegreesOfFigure: made lists of numbers in regions that draw, sums, lists as functions. -/
namespace Go.Proofs.Ytidbikjdigemnaa
open Go.RowKit
set_option linter.unusedVariables false
set_option linter.unusedSimpArgs false
theorem rel_make_ints {P : Program} {o : Oper} {a : Act} {W : World} {S : Value → World → Prop} {Q : Exit → Act → World → Prop} (l c : Operand) (t : TypeId) (hop : o.op = Op.makeSlice t l c)
    (e : TypeId) (i : TypeInfo) (ht : P.underlying t = some (.slice e)) (hi : P.info? e = some i) (hz : i.zero = some (.int .i64 0)) (hs : i.size = 1)
    (kl kc : IntKind) (m : Nat) (hl : a.eval l = .int kl (m : Int)) (hc : a.eval c = .int kc (m : Int)) (hbytes : i.bytes * m ≤ 281474976710656) (h63 : m ≤ 9223372036854775807)
    (hS : ∀ W', Below W.heap.size W W' → RoomI W' W.heap.size m e → IntsAt W' W.heap.size 0 m (List.replicate m 0) → W.heap.size < W'.heap.size → S (.slice (some ⟨W.heap.size, 0, none⟩) m m) W') : relAt P o a W S Q := by
  have hb' : (i.bytes : Int) * (m : Int) ≤ 281474976710656 := by
    have h : ((i.bytes * m : Nat) : Int) ≤ 281474976710656 := by omega
    rwa [Int.natCast_mul] at h
  have hr := run_make (P := P) W t e i _ ht hi hz kl kc m m (by omega) (Int.le_refl _) hb' (by omega)
  have hcl : (Value.int .i64 0).cells = #[.int .i64 0] := by rfl
  rw [hcl, hs, Int.toNat_natCast, Nat.mul_one] at hr
  have hex : (execOp a.eval o).run P W = .ok (.value (.slice (some ⟨W.heap.size, 0, none⟩) m m)) (W.alloc (.cells (madeCells #[.int .i64 0] m) e)) := by
    simp [execOp, hop, hl, hc, hr, Result.andThen]
  refine rel_new hex ((Below.refl _ _).alloc (Nat.le_refl _) _) (hS _ ((Below.refl _ _).alloc (Nat.le_refl _) _) ⟨_, heap_alloc_new _ _, by simp [madeCells]⟩ (fun j hj => ?_) (by simp))
  have hd : (List.replicate m (0 : Int)).getD j 0 = 0 := by simp [List.getD, hj]
  rw [hd, Nat.zero_add, World.cell?_alloc_at _ _ _ _ rfl]
  exact madeI hj
/-- How many numbers below n have f. -/
def sumB (f : Nat → Bool) : Nat → Int
  | 0 => 0
  | n + 1 => sumB f n + (if f n then 1 else 0)
theorem sumB_bd (f : Nat → Bool) (n : Nat) : 0 ≤ sumB f n ∧ sumB f n ≤ n := by
  induction n with
  | zero => exact ⟨Int.le_refl _, Int.le_refl _⟩
  | succ n ih =>
    unfold sumB
    split <;> omega
theorem sumB_succ (f : Nat → Bool) (n : Nat) : sumB f (n + 1) = sumB f n + (if f n then 1 else 0) := rfl
/-- A list of numbers, as a function. -/
def IntsF (W : World) (g n : Nat) (f : Nat → Int) : Prop := ∀ i, i < n → W.cell? ⟨g, i, none⟩ = some (.int .i64 (f i))
theorem IntsF.below {w W : World} {g n : Nat} {f : Nat → Int} (h : IntsF w g n f) (hb : Below w.heap.size w W) : IntsF W g n f := fun i hi => cell_below hb (h i hi)
theorem IntsF.block {w W : World} {g n : Nat} {f : Nat → Int} (h : IntsF w g n f) (hb : W.heap[g]? = w.heap[g]?) : IntsF W g n f := fun i hi => by
  have hc : W.cell? ⟨g, i, none⟩ = w.cell? ⟨g, i, none⟩ := by unfold World.cell?; rw [hb]
  rw [hc]; exact h i hi
theorem IntsF.congr {w : World} {g n : Nat} {f f' : Nat → Int} (h : IntsF w g n f) (e : ∀ i, i < n → f i = f' i) : IntsF w g n f' := fun i hi => by rw [← e i hi]; exact h i hi
theorem IntsF.set {W : World} {g n i : Nat} {f f' : Nat → Int} (h : IntsF W g n f) (hi : i < n) (e : ∀ j, j < n → j ≠ i → f j = f' j) : IntsF (W.setCell ⟨g, i, none⟩ (.int .i64 (f' i))) g n f' := by
  intro j hj
  by_cases he : j = i
  · subst he
    exact World.cell?_setCell_same (u := .int .i64 (f j)) _ _ _ (h j hj)
  · rw [World.cell?_setCell_other _ _ _ _ (fun h => he (by cases h; rfl)), ← e j hj he]
    exact h j hj
theorem IntsF.other {W : World} {g n k i : Nat} {f : Nat → Int} (h : IntsF W g n f) (hg : g ≠ k) (v : Value) : IntsF (W.setCell ⟨k, i, none⟩ v) g n f := fun j hj => by
  rw [World.cell?_setCell_other _ _ _ _ (fun h => hg (by cases h; rfl))]; exact h j hj
theorem intsF_of {W : World} {g n : Nat} {l : List Int} {f : Nat → Int} (h : IntsAt W g 0 n l) (e : ∀ i, i < n → l.getD i 0 = f i) : IntsF W g n f := fun i hi => by
  have := h i hi
  rw [Nat.zero_add] at this
  rw [← e i hi]; exact this
def listF (f : Nat → Int) (n : Nat) : List Int := (List.range n).map f
theorem listF_succ (f : Nat → Int) (n : Nat) : listF f (n + 1) = listF f n ++ [f n] := by unfold listF; rw [List.range_succ, List.map_append]; rfl
theorem listF_length (f : Nat → Int) (n : Nat) : (listF f n).length = n := by unfold listF; simp
theorem listF_at (f : Nat → Int) (n i : Nat) (h : i < n) : (listF f n).getD i 0 = f i := by unfold listF; simp [List.getD, h]
theorem IntsF.at {W : World} {g n : Nat} {f : Nat → Int} (h : IntsF W g n f) : IntsAt W g 0 n (listF f n) := fun i hi => by
  rw [Nat.zero_add, listF_at f n i hi]; exact h i hi
theorem roomI_set {W : World} {g cap k i : Nat} {T : TypeId} (h : RoomI W g cap T) (v : Value) : RoomI (W.setCell ⟨k, i, none⟩ v) g cap T := by
  by_cases e : k = g
  · subst e; exact h.set i v
  · obtain ⟨cur, h1, h2⟩ := h
    exact ⟨cur, (Below.heap_setCell _ _ _ _ (by show g ≠ k; omega)).trans h1, h2⟩
/-- The degrees of the points, the lines. -/
def degP (p : Int) (l1 l2 : List Pt) (n2 i : Nat) : Int := sumB (tblF p l1 l2 i) n2
def degL (p : Int) (l1 l2 : List Pt) (n1 k : Nat) : Int := sumB (fun t => tblF p l1 l2 t k) n1
/-- What stands at k when rows below i are counted, and of row i the numbers below j. -/
def colV (F : Nat → Nat → Bool) (i j k : Nat) : Int := sumB (fun t => F t k) i + (if k < j then (if F i k then 1 else 0) else 0)
theorem colV_zero (F : Nat → Nat → Bool) (i k : Nat) : colV F i 0 k = sumB (fun t => F t k) i := by unfold colV; simp
theorem colV_done (F : Nat → Nat → Bool) (i n k : Nat) (h : k < n) : colV F i n k = sumB (fun t => F t k) (i + 1) := by unfold colV; rw [if_pos h]; rfl
theorem colV_at (F : Nat → Nat → Bool) (i j : Nat) : colV F i j j = sumB (fun t => F t j) i := by unfold colV; simp
theorem colV_next (F : Nat → Nat → Bool) (i j : Nat) : colV F i (j + 1) j = sumB (fun t => F t j) i + (if F i j then 1 else 0) := by unfold colV; simp
theorem colV_other (F : Nat → Nat → Bool) (i j k : Nat) (h : k ≠ j) : colV F i j k = colV F i (j + 1) k := by
  unfold colV
  have : (k < j) ↔ (k < j + 1) := by omega
  simp only [this]
theorem bits_at (f : Nat → Bool) (n j : Nat) (h : j < n) : (bits f n).getD j 0 = if f j then 1 else 0 := by unfold bits; simp [List.getD, h]
/-- Two new lists of numbers and a code. -/
structure DegAny (m1 m2 : Nat) (L1 L2 : List Int) (k : Int) (w : World) (e : Ending) (w' : World) : Prop where
  out : ∃ a1 d1 a2 d2 g1 g2, e = .returned (.tuple #[.slice a1 m1 d1, .slice a2 m2 d2, .int .i64 k]) ∧ ((a1 = none ∧ a2 = none ∧ m1 = 0 ∧ m2 = 0) ∨ (a1 = some ⟨g1, 0, none⟩ ∧ a2 = some ⟨g2, 0, none⟩ ∧ g1 ≠ g2 ∧ w.heap.size ≤ g1 ∧ w.heap.size ≤ g2 ∧ m1 ≤ d1 ∧ m2 ≤ d2 ∧ RoomI w' g1 d1 2 ∧ RoomI w' g2 d2 2 ∧ IntsAt w' g1 0 m1 L1 ∧ IntsAt w' g2 0 m2 L2)) ∧ Below w.heap.size w w'
def isZero (n : Nat) : Value → Nat → Nat → World → Prop := fun v lo hi W => ∃ g, v = .slice (some ⟨g, 0, none⟩) n n ∧ (lo ≤ g ∧ g < hi) ∧ RoomI W g n 2 ∧ IntsF W g n (fun _ => 0)
theorem mono_zero (n : Nat) : MonoI (isZero n) := ⟨fun v lo hi W W' ⟨g, h1, h2, h3, h4⟩ hb => ⟨g, h1, h2, h3.below hb, h4.below hb⟩⟩
def isEmpty : Value → Nat → Nat → World → Prop := fun v lo hi W => ∃ g, v = .slice (some ⟨g, 0, none⟩) 0 0 ∧ (lo ≤ g ∧ g < hi) ∧ W.heap[g]? = some (.cells #[] 2 (0, 0))
theorem mono_empty : MonoI isEmpty := ⟨fun v lo hi W W' ⟨g, h1, h2, h3⟩ hb => ⟨g, h1, h2, (hb.block _ (Array.getElem?_eq_some_iff.1 h3).1).trans h3⟩⟩
def isTab (n1 n2 : Nat) (tbl : Nat → List Int) : Value → Nat → Nat → World → Prop := fun v lo hi W => ∃ b c gs, v = .slice b n1 c ∧ gs.length = n1 ∧ OutIn W lo b n2 gs ∧ TabAt W lo n2 tbl gs ∧ Bnd b gs hi
theorem mono_tab (n1 n2 : Nat) (tbl : Nat → List Int) : MonoI (isTab n1 n2 tbl) := ⟨fun v lo hi W W' ⟨b, c, gs, h1, h2, h3, h4, h5⟩ hb => ⟨b, c, gs, h1, h2, out_below h3 hb, tab_below h4 hb, h5⟩⟩
def isAnyI : Value → Nat → Nat → World → Prop := fun _ _ _ _ => True
theorem mono_anyI : MonoI isAnyI := ⟨fun _ _ _ _ _ _ _ => trivial⟩
end Go.Proofs.Ytidbikjdigemnaa
/- Contracts: the program's DegreesOfFigure. (Printed by genv2.py, a program of this session.) -/
namespace Go.Proofs.Ytidbikjdigemnaa
open Go.RowKit
set_option linter.unusedVariables false
set_option linter.unusedSimpArgs false
set_option maxHeartbeats 2000000 in
theorem DegreesOfFigure_impl_code (p : Int) (b1 : Option Addr) (n1 c1 : Nat) (b2 : Option Addr) (n2 c2 : Nat) (l1 l2 : List Pt) (w : World) (hn1 : n1 ≤ 1000000) (hn2 : n2 ≤ 1000000) (h1 : ListP w b1 n1 l1) (h2 : ListP w b2 n2 l2) (k : Int) (hk : figC p n1 n2 l1 l2 = k) (h0 : k ≠ 0) (L1 L2 : List Int) :
    Calls Try.prog 15 #[.int .i64 p, figV b1 n1 c1 b2 n2 c2] w (DegAny 0 0 L1 L2 k w) := by
  have HC := Lib.hid (fun (W : World) (hW : Below w.heap.size w W) => figureCode_any p b1 n1 c1 b2 n2 c2 l1 l2 W hn1 hn2 (h1.below hW) (h2.below hW))
  rw [hk] at HC
  have hq : (k != 0) = true := bnet h0
  clear h1 h2 hk
  go_enter Try.func15, Try.ntmps15
  go_wp2_with (go_at_call 29; (with_reducible refine (HC.out _ (by repeat (first | exact Below.refl _ _ | refine bset ?_ _ _ (by omega) _ | refine bal ?_ _ | refine bdrN ?_ _ | refine bdr ?_))).mono ?_); rintro e w1_ ⟨rfl, hb1⟩; obtain ⟨hcb1, hfb1, hlb1⟩ := bcell hb1; have hsz1 := hb1.size; (try simp at hsz1); have HB1 := Lib.hid hb1; clear hb1; (try (have hl01 : w.heap.size < w1_.heap.size := by omega)))
  exact bodyPost_ret (v := .tuple #[.slice none 0 0, .slice none 0 0, .int .i64 k]) (by simp [results, Try.results15, go_sem]) rfl ⟨none, 0, none, 0, 0, 0, rfl, .inl ⟨rfl, rfl, rfl, rfl⟩, (by repeat (first | exact Below.refl _ _ | refine bset ?_ _ _ (by omega) _ | refine bal ?_ _ | refine bdrN ?_ _ | refine bdr ?_ | refine below_tr' ?_ HB1.out))⟩
set_option maxRecDepth 20000 in
set_option maxHeartbeats 8000000 in
theorem DegreesOfFigure_impl_good (p : Int) (b1 : Option Addr) (n1 c1 : Nat) (b2 : Option Addr) (n2 c2 : Nat) (l1 l2 : List Pt) (w : World) (hn1 : n1 ≤ 1000000) (hn2 : n2 ≤ 1000000) (h1 : ListP w b1 n1 l1) (h2 : ListP w b2 n2 l2) (hk : figC p n1 n2 l1 l2 = 0) :
    Calls Try.prog 15 #[.int .i64 p, figV b1 n1 c1 b2 n2 c2] w (DegAny n1 n2 (listF (degP p l1 l2 n2) n1) (listF (degL p l1 l2 n1) n2) 0 w) := by
  obtain ⟨hp, m1, m2⟩ := figC_zero hk
  obtain ⟨q1, q2⟩ := figC_pts hk
  have HC := Lib.hid (fun (W : World) (hW : Below w.heap.size w W) => figureCode_any p b1 n1 c1 b2 n2 c2 l1 l2 W hn1 hn2 (h1.below hW) (h2.below hW))
  rw [hk] at HC
  have HT := Lib.hid (fun (W : World) (hW : Below w.heap.size w W) => incidences_any p b1 n1 c1 b2 n2 c2 l1 l2 W hp m1 m2 (h1.below hW) (h2.below hW) q1 q2)
  obtain ⟨F, hF⟩ : ∃ F, tblF p l1 l2 = F := ⟨_, rfl⟩
  have HRow : Hid (∀ i, tblR p l1 l2 n2 i = bits (F i) n2) := Lib.hid (fun i => by unfold tblR; rw [hF])
  have HdP : Hid (∀ i, degP p l1 l2 n2 i = sumB (F i) n2) := Lib.hid (fun i => by unfold degP; rw [hF])
  have HdL : Hid (∀ k, degL p l1 l2 n1 k = sumB (fun t => F t k) n1) := Lib.hid (fun k => by unfold degL; rw [hF])
  obtain ⟨i0, hi, hz0, hz1, hz2⟩ := info_parts info64
  have HI0 := Lib.hid hi; have HZ0 := Lib.hid hz0; have HZ1 := Lib.hid hz1; have HZ2 := Lib.hid hz2
  clear h1 h2 hk hp q1 q2 hF hi hz0 hz1 hz2
  generalize tblR p l1 l2 n2 = tb at *
  generalize degP p l1 l2 n2 = dP at *
  generalize degL p l1 l2 n1 = dL at *
  go_enter Try.func15, Try.ntmps15
  go_wp2_with (go_at_call 29; (with_reducible refine (HC.out _ (by repeat (first | exact Below.refl _ _ | refine bset ?_ _ _ (by omega) _ | refine bal ?_ _ | refine bdrN ?_ _ | refine bdr ?_))).mono ?_); rintro e w1_ ⟨rfl, hb1⟩; obtain ⟨hcb1, hfb1, hlb1⟩ := bcell hb1; have hsz1 := hb1.size; (try simp at hsz1); have HB1 := Lib.hid hb1; clear hb1; (try (have hl01 : w.heap.size < w1_.heap.size := by omega)))
  have kf : w1_.heap[w.heap.size]? = some (.cells #[.slice b1 n1 c1, .slice b2 n2 c2] 29 (0, 0)) := by rw [HB1.out.block _ (by simp)]; exact heap_alloc_new _ _
  have lf := (Array.getElem?_eq_some_iff.1 kf).1
  have HQ1 : Hid (Below w.heap.size w w1_) := Lib.hid (by repeat (first | exact Below.refl _ _ | refine bset ?_ _ _ (by omega) _ | refine bal ?_ _ | refine bdrN ?_ _ | refine bdr ?_ | refine below_tr' ?_ HB1.out))
  have xf1 : w1_.cell? ⟨w.heap.size, 1, none⟩ = some (.slice b2 n2 c2) := rowV kf rfl
  clear HC hcb1 hfb1 hlb1 HB1
  refine region_relsI 6 [(8, 21)] [(21, isEmpty), (22, isVI (.pointer (some ⟨w.heap.size, 1, none⟩))), (23, isVI (.slice b2 n2 c2)), (24, isVI (.int .i64 (n2 : Int))), (25, isZero n2), (8, isAnyI)] (by kernel_rfl) (by decide) (by kernel_rfl) (by kernel_rfl) rfl ⟨mono_empty, mono_isVI _, mono_isVI _, mono_isVI _, mono_zero _, mono_anyI, trivial⟩ ⟨?_, ?_, ?_, ?_, ?_, RelOkI.copy 8 21 rfl rfl rfl (by decide) (fun _ _ _ _ => trivial), trivial⟩ ?_
  · refine RelOkI.mk' 21 rfl rfl (by decide) (fun a W hW hr => ?_)
    exact rel_new (v := .slice (some ⟨W.heap.size, 0, none⟩) 0 0) (W' := W.alloc (.cells #[] 2)) (by simp [execOp, Act.eval, go_sem]) ((Below.refl _ _).alloc (Nat.le_refl _) _) ⟨W.heap.size, rfl, ⟨Nat.le_refl _, by simp⟩, heap_alloc_new _ _⟩
  · refine RelOkI.mk' 22 rfl rfl (by decide) (fun a W hW hr => ?_)
    have h3 := (hr 3 rfl).2 rfl
    exact rel_calm (calm_run (v := .pointer (some ⟨w.heap.size, 1, none⟩)) (by simp [execOp, Act.eval, go_sem, h3])) (fun _ _ => rfl)
  · refine RelOkI.mk' 23 rfl rfl (by decide) (fun a W hW hr => ?_)
    obtain ⟨_, _, h22⟩ : ∃ lo hi, isVI (.pointer (some ⟨w.heap.size, 1, none⟩)) (a.tmps.getD 22 undef) lo hi W := (hr 22 rfl).1 rfl
    have h22' : a.tmps.getD 22 undef = .pointer (some ⟨w.heap.size, 1, none⟩) := h22
    have hc := cell_below hW xf1
    exact rel_calm (calm_run (v := .slice b2 n2 c2) (by simp [execOp, Act.eval, go_sem, h22', hc])) (fun _ _ => rfl)
  · refine RelOkI.mk' 24 rfl rfl (by decide) (fun a W hW hr => ?_)
    obtain ⟨_, _, h23⟩ : ∃ lo hi, isVI (.slice b2 n2 c2) (a.tmps.getD 23 undef) lo hi W := (hr 23 rfl).1 rfl
    have h23' : a.tmps.getD 23 undef = .slice b2 n2 c2 := h23
    exact rel_calm (calm_run (v := .int .i64 (n2 : Int)) (by simp [execOp, Act.eval, go_sem, h23'])) (fun _ _ => rfl)
  · refine RelOkI.mk' 25 rfl rfl (by decide) (fun a W hW hr => ?_)
    obtain ⟨_, _, h24⟩ : ∃ lo hi, isVI (.int .i64 (n2 : Int)) (a.tmps.getD 24 undef) lo hi W := (hr 24 rfl).1 rfl
    have h24' : a.tmps.getD 24 undef = .int .i64 (n2 : Int) := h24
    refine rel_make_ints (.tmp 24) (.tmp 24) 36 rfl 2 i0 Try.underlying36 HI0.out HZ0.out HZ1.out .i64 .i64 n2 (by simpa [Act.eval] using h24') (by simpa [Act.eval] using h24') (by rw [HZ2.out]; omega) (by omega) (fun W' hb hrm hia hlt => ⟨W.heap.size, rfl, ⟨Nat.le_refl _, hlt⟩, hrm, intsF_of hia (fun i hi => by simp [List.getD, hi])⟩)
  intro v lo hi W hW hv hiv hdis hcp
  obtain ⟨gp, e21, hgp, kp⟩ : isEmpty (v 21) (lo 21) (hi 21) W := hv 21 rfl
  have e22 : v 22 = .pointer (some ⟨w.heap.size, 1, none⟩) := hv 22 rfl
  have e23 : v 23 = .slice b2 n2 c2 := hv 23 rfl
  have e24 : v 24 = .int .i64 (n2 : Int) := hv 24 rfl
  obtain ⟨gl, e25, hgl, hrl, hil⟩ : isZero n2 (v 25) (lo 25) (hi 25) W := hv 25 rfl
  have e8 : v 8 = .slice (some ⟨gp, 0, none⟩) 0 0 := (hcp 8 21 (by decide) rfl).trans e21
  clear hcp
  have hd := hdis 21 25 rfl rfl (by decide)
  have v21 := hiv 21 rfl
  have v25 := hiv 25 rfl
  have hpl : gp ≠ gl := by omega
  have hgp1 : w1_.heap.size ≤ gp := by omega
  have hgl1 : w1_.heap.size ≤ gl := by omega
  have hgpW : gp < W.heap.size := by omega
  have hglW : gl < W.heap.size := by omega
  simp only [List.map_cons, List.map_nil, puts, Act.put, List.setIfInBounds_toArray, List.set_cons_zero, List.set_cons_succ, e21, e22, e23, e24, e25, e8, List.drop_succ_cons, List.drop_zero, List.drop_nil]
  clear hv hiv hdis e8 e21 e22 e23 e24 e25 hd v21 v25 hgp hgl xf1
  clear lo hi
  have kf2 := (hW.block _ lf).trans kf
  have HQ2 := Lib.hid (low_tr' HQ1.out hW (by omega))
  have hw1 := hW.size
  have KP := Lib.hid kp
  have HRL := Lib.hid hrl
  have HIL := Lib.hid hil
  clear hW kf HQ1 kp hrl hil v
  go_wp2_with (first
    | (refine wpList_load_row _ rfl 29 _ rfl (g := w.heap.size) (T := 29) (cs := #[.slice b1 n1 c1, .slice b2 n2 c2]) (fr := (0, 0)) rfl (kf2) 2 rfl Try.sizeOf29 Try.isAgg29 ?_)
    | (go_at_call 39; (with_reducible refine (HT.out _ HQ2.out).mono ?_); rintro e w3_ ⟨v, gs, rfl, hg, ho, ht, hb⟩; obtain ⟨to, tc, rfl, hout⟩ := tab_open ho hg ht; have HG := Lib.hid hg; have HOt := Lib.hid hout; have HTt := Lib.hid ht; have HBn := Lib.hid (bnd_of hout ht); have HB3 := Lib.hid hb; clear hg hout ht ho hb))
  have h3s := HB3.out.size
  obtain ⟨tb0, ht0⟩ : ∃ tb0, W.heap.size = tb0 := ⟨_, rfl⟩
  obtain ⟨tb1, ht1⟩ : ∃ tb1, w3_.heap.size = tb1 := ⟨_, rfl⟩
  have O0 : Hid (w3_.ownsRow w1_.heap.size 2 1 (.slice (some ⟨gp, 0, none⟩) 0 0) 0 (ints (listF dP 0))) := Lib.hid ⟨rfl, .inr ⟨gp, 0, #[], rfl, hgp1, (HB3.out.block _ hgpW).trans KP.out, Nat.le_refl _, by unfold maxLen; omega, rfl, rfl⟩⟩
  have R0 := Lib.hid (HRL.out.below HB3.out)
  have F0 : Hid (IntsF w3_ gl n2 (fun q => sumB (fun t => F t q) 0)) := Lib.hid ((HIL.out.below HB3.out).congr (fun _ _ => rfl))
  have B0 := Lib.hid (low_tr' HQ2.out HB3.out HQ2.out.size)
  have Q0 : Hid (∀ b, Value.ownBlock (.slice (some ⟨gp, 0, none⟩) 0 0) = some b → b ≠ gl ∧ (b < tb0 ∨ tb1 ≤ b)) := Lib.hid (fun b hb => by have e9 : gp = b := (by simpa [Value.ownBlock] using hb); rw [ht0] at hgpW; omega)
  rw [ht0] at HOt HTt hgpW hglW
  rw [ht1] at HBn h3s
  have HS0 : tb1 ≤ w3_.heap.size := by omega
  have h01 : tb0 ≤ tb1 := by omega
  have hwl : w.heap.size ≤ gl := by omega
  clear ht1 KP HRL HIL HB3 HQ2 HT
  go_loopw [8, 30] (fun v i wr => ∃ k : Nat, k ≤ n1 ∧ i = .int .i64 k ∧ Hid (wr.ownsRow w1_.heap.size 2 1 v k (ints (listF dP k))) ∧ Hid (∀ b, v.ownBlock = some b → b ≠ gl ∧ (b < tb0 ∨ tb1 ≤ b)) ∧ Hid (v ≠ .slice none 0 0) ∧ Hid (RoomI wr gl n2 2) ∧ Hid (IntsF wr gl n2 (fun q => sumB (fun t => F t q) k)) ∧ Hid (OutIn wr tb0 to n2 gs) ∧ Hid (TabAt wr tb0 n2 tb gs) ∧ tb1 ≤ wr.heap.size ∧ Hid (Below w.heap.size w wr)) (fun _ i wr => n1 - (intOf i).toNat)
  case atStart => exact ⟨0, Nat.zero_le _, rfl, O0, Q0, Lib.hid (by simp), R0, F0, HOt, HTt, HS0, B0⟩
  case round =>
    clear O0 Q0 R0 F0 HOt HTt HS0 B0
    obtain ⟨k, hk, rfl, HOw, HOb, HNn, HRm, HIn, HOt, HTt, hsz, HB⟩ := hrel
    by_cases hlt : k < n1
    · obtain ⟨go, rfl, _, x1, _⟩ := out_at HOt.out (k := k) (by have := HG.out; omega)
      obtain ⟨t1, t2, t3, t4, t5, _⟩ := HTt.out k (by have := HG.out; omega)
      rw [HRow.out k] at t5
      have hqb := HBn.out.2 k (by have := HG.out; omega)
      obtain ⟨q, hq⟩ : ∃ q, gs.getD k (0, 0) = q := ⟨_, rfl⟩
      rw [hq] at x1 t1 t2 t5 hqb
      obtain ⟨qa, qb⟩ := q
      simp only at t1 t2 t5 hqb
      have T5 := Lib.hid t5
      clear t3 t4 t5 hq
      go_wp2
      go_loopw [12, 36] (fun s j wr => ∃ m : Nat, m ≤ n2 ∧ j = .int .i64 m ∧ s = .int .i64 (sumB (F k) m) ∧ Hid (wr.ownsRow w1_.heap.size 2 1 u8 k (ints (listF dP k))) ∧ Hid (IntsAt wr qa 0 n2 (bits (F k) n2)) ∧ Hid (RoomI wr gl n2 2) ∧ Hid (IntsF wr gl n2 (colV F k m)) ∧ Hid (OutIn wr tb0 (some ⟨go, 0, none⟩) n2 gs) ∧ Hid (TabAt wr tb0 n2 tb gs) ∧ tb1 ≤ wr.heap.size ∧ Hid (Below w.heap.size w wr)) (fun _ j wr => n2 - (intOf j).toNat)
      case atStart => exact ⟨0, Nat.zero_le _, rfl, rfl, HOw, T5, HRm, Lib.hid (HIn.out.congr (fun q _ => (colV_zero F k q).symm)), HOt, HTt, hsz, HB⟩
      case round =>
        clear HOw T5 HRm HIn HOt HTt hsz HB x1 t2
        obtain ⟨m, hm, rfl, rfl, HOw, HRw, HRm, HIn, HOt, HTt, hsz, HB⟩ := hrel
        have sb := sumB_bd (F k) m
        by_cases hlm : m < n2
        · have y1 := HRw.out m hlm
          rw [bits_at (F k) n2 m hlm] at y1
          simp only [Nat.zero_add] at y1
          have z1 := HIn.out m hlm
          have hcv := colV_at F k m
          have hcn := colV_next F k m
          have sc := sumB_bd (fun t => F t m) k
          have hss := sumB_succ (F k) m
          rw [hcv] at z1
          have fz := HRm.out.frozen m
          have hx : (0 : Int) ≤ (if F k m then 1 else 0) ∧ (if F k m then (1 : Int) else 0) ≤ 1 := by split <;> omega
          have HCn := Lib.hid hcn
          have HSs := Lib.hid hss
          clear hcn hss hcv
          generalize (if F k m then (1 : Int) else 0) = x at *
          generalize sumB (F k) m = sv at *
          generalize sumB (fun t => F t m) k = cv at *
          have ws : IntKind.wrap .i64 (sv + x) = sv + x := by simp [IntKind.wrap, IntKind.signed, IntKind.bits]; omega
          have wc : IntKind.wrap .i64 (cv + x) = cv + x := by simp [IntKind.wrap, IntKind.signed, IntKind.bits]; omega
          go_wp2
          go_roundw
          case rel => first | exact ⟨m + 1, by omega, by go_num, by rw [HSs.out], Lib.hid (own_same HOw.out (fun b hb => Below.heap_setCell _ _ _ _ (by have := (HOb.out b hb).1; show b ≠ gl; omega))), Lib.hid (ints_other HRw.out (by omega) _), Lib.hid (roomI_set HRm.out _), Lib.hid (by have h9 := HIn.out.set (f' := colV F k (m + 1)) hlm (fun j _ hj => colV_other F k m j hj); rw [HCn.out] at h9; exact h9), Lib.hid (out_blocks HOt.out HBn.out (by simp) (fun z h1 h2 => Below.heap_setCell _ _ _ _ (by show z ≠ gl; omega))), Lib.hid (tab_blocks HTt.out HBn.out (by simp) (fun z h1 h2 => Below.heap_setCell _ _ _ _ (by show z ≠ gl; omega))), by simp; omega, Lib.hid (HB.out.setCell (by show w.heap.size ≤ gl; omega) _)⟩ | exact ⟨m + 1, by omega, by first | go_num | omega, Lib.hid (own_same HOw.out (fun b hb => Below.heap_setCell _ _ _ _ (by have := (HOb.out b hb).1; show b ≠ gl; omega))), Lib.hid (ints_other HRw.out (by omega) _), Lib.hid (roomI_set HRm.out _), Lib.hid (by have h9 := HIn.out.set (f' := colV F k (m + 1)) hlm (fun j _ hj => colV_other F k m j hj); rw [HCn.out] at h9; exact h9), Lib.hid (out_blocks HOt.out HBn.out (by simp) (fun z h1 h2 => Below.heap_setCell _ _ _ _ (by show z ≠ gl; omega))), Lib.hid (tab_blocks HTt.out HBn.out (by simp) (fun z h1 h2 => Below.heap_setCell _ _ _ _ (by show z ≠ gl; omega))), by simp; omega, Lib.hid (HB.out.setCell (by show w.heap.size ≤ gl; omega) _)⟩
          case measure => simp [intOf]; omega
        · have hmn : m = n2 := by omega
          have hsv : Hid (sumB (F k) m = dP k) := Lib.hid (by rw [hmn, HdP.out])
          rw [hmn] at HIn
          clear hmn
          rw [hsv.out] at sb
          generalize hsq : sumB (F k) m = sv at *
          have HSv := Lib.hid hsv.out
          clear hsq hsv
          have hBb : w1_.heap.size ≤ wr.heap.size := by omega
          go_wp2_with (at_builtin; go_loud (refine wpList_append_own_at _ rfl _ _ 36 rfl w1_.heap.size 2 i0 (.int .i64 0) 1 8 Try.underlying36 HI0.out HZ0.out HZ1.out HZ2.out rfl (by decide) _ _ _ rfl (HOw.out.alloc _) ⟨wr.heap.size, 0, none⟩ 1 1 [.int .i64 sv] rfl rfl (newI _ _ _) (one1 _ _) (by unfold maxLen; omega) (by omega) (by first | omega | (simp; done) | (simp; omega)) ?_; intro v2 w2 hown hgrow hnil hblk; have HO2 := Lib.hid hown; have HGr := Lib.hid hgrow; have HNn2 := Lib.hid (fun h => by have := (hnil.1 h).2; omega : v2 ≠ .slice none 0 0); have HBk := Lib.hid hblk; clear hown hgrow hnil hblk))
          have gs2 := HGr.out.size
          try simp at gs2
          have hol := own_base' HOw.out
          have nb : ∀ b, b < wr.heap.size → (∀ c, u8.ownBlock = some c → c ≠ b) → w2.heap[b]? = wr.heap[b]? := fun b hb hne => by rw [HGr.out.block b (Nat.lt_of_lt_of_le hb (by simp)) (fun e => hne b e.symm rfl), hn_pastN _ _ b hb]
          have ngl := nb gl (by omega) (fun c hc => (HOb.out c hc).1)
          have ntb : ∀ z, tb0 ≤ z → z < tb1 → w2.heap[z]? = wr.heap[z]? := fun z h1 h2 => nb z (by omega) (fun c hc => by have := (HOb.out c hc).2; omega)
          have B2 : Below w.heap.size w w2 := by
            have BM := bal HB.out (.cells #[.int .i64 sv] 2)
            exact BM.grown HGr.out BM.size (fun k' hk' => by have := hol k' hk'; omega)
          have R2 : RoomI w2 gl n2 2 := by
            obtain ⟨cur, r1, r2⟩ := HRm.out
            exact ⟨cur, ngl.trans r1, r2⟩
          have Q2 : ∀ b, v2.ownBlock = some b → b ≠ gl ∧ (b < tb0 ∨ tb1 ≤ b) := fun b hb => by
            rcases HBk.out with e | e
            · exact HOb.out b (e.symm.trans hb)
            · rw [hb] at e; have e2 := Option.some.inj e; simp at e2; omega
          go_roundw
          case rel => first | exact ⟨k + 1, by omega, by go_num, Lib.hid (by rw [listF_succ, ints_app, ← HSv.out]; exact HO2.out), Lib.hid Q2, HNn2, Lib.hid R2, Lib.hid ((HIn.out.block ngl).congr (fun q hq => colV_done F k n2 q hq)), Lib.hid (out_blocks HOt.out HBn.out (by omega) ntb), Lib.hid (tab_blocks HTt.out HBn.out (by omega) ntb), by omega, Lib.hid B2⟩ | exact ⟨k + 1, by omega, by first | go_num | omega, Lib.hid (by rw [listF_succ, ints_app, ← HSv.out]; exact HO2.out), Lib.hid Q2, HNn2, Lib.hid R2, Lib.hid ((HIn.out.block ngl).congr (fun q hq => colV_done F k n2 q hq)), Lib.hid (out_blocks HOt.out HBn.out (by omega) ntb), Lib.hid (tab_blocks HTt.out HBn.out (by omega) ntb), by omega, Lib.hid B2⟩
          case measure => simp [intOf]; omega
    · have hkn : k = n1 := by omega
      rw [hkn] at HOw HIn
      clear hkn
      go_wp2
      obtain ⟨g1, d1, hv1, r1, r2, r3, r4, r5⟩ := own_rowI HOw.out (listF_length dP n1) HNn.out
      have hne := (HOb.out g1 (by rw [hv1]; rfl)).1
      have hI2 : IntsAt wr gl 0 n2 (listF dL n2) := (HIn.out.congr (fun q _ => (HdL.out q).symm)).at
      subst hv1
      exact bodyPost_ret (v := .tuple #[.slice (some ⟨g1, 0, none⟩) n1 d1, .slice (some ⟨gl, 0, none⟩) n2 n2, .int .i64 0]) (by simp [results, Try.results15, go_sem]) rfl ⟨_, d1, _, n2, g1, gl, rfl, .inr ⟨rfl, rfl, hne, by omega, by omega, r3, Nat.le_refl _, r4, HRm.out, r5, hI2⟩, HB.out⟩
end Go.Proofs.Ytidbikjdigemnaa
