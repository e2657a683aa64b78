/- A region whose first m operations draw their order and yield values of which a relation is known (slot, value, world); the others come behind them, in the text's order. (Printed by genregx.py, a program of this session.) -/
import Derived.Test.YthkbhaaodegocaaRegW
namespace Go.Proofs.Ythkbhaaodegocaa
open Go.RowKit
set_option linter.unusedVariables false
set_option linter.unusedSimpArgs false
structure relAt (P : Program) (o : Oper) (a : Act) (W : World) (S : Value → World → Prop) (Q : Exit → Act → World → Prop) : Prop where
  out : o.wp P a W (fun a' W' => ∃ v, a' = a.put o.dst v ∧ Below W.heap.size W W' ∧ S v W') Q
theorem rel_calm {P : Program} {o : Oper} {a : Act} {W : World} {S : Value → World → Prop} {Q : Exit → Act → World → Prop} {v : Value} (h : calmAt P o a.eval W v) (hS : ∀ W', Below W.heap.size W W' → S v W') : relAt P o a W S Q :=
  ⟨wp_of_calm h fun W' hb => ⟨v, rfl, hb, hS W' hb⟩⟩
theorem rel_new {P : Program} {o : Oper} {a : Act} {W W' : World} {S : Value → World → Prop} {Q : Exit → Act → World → Prop} {v : Value} (h : (execOp a.eval o).run P W = .ok (.value v) W') (hb : Below W.heap.size W W') (hS : S v W') : relAt P o a W S Q := by
  refine ⟨?_⟩
  unfold Oper.wp
  rw [h]
  exact ⟨v, rfl, hb, hS⟩
/-- What a call leaves. -/
def RelPost (W : World) (S : Value → World → Prop) (e : Ending) (W' : World) : Prop := ∃ v, e = .returned v ∧ Below W.heap.size W W' ∧ S v W'
theorem rel_call {P : Program} {o : Oper} {a : Act} {W : World} {S : Value → World → Prop} {Q : Exit → Act → World → Prop} (f : Nat) (c : Call) (args : Array Value) (ho : o.op = .call c) (hc : c.callee = .value (.func f)) (ha : c.args.map a.eval = args)
    (hf : (callFunc f args).run P W = .ok (.enter f args) W) (h : Calls P f args W (RelPost W S)) : relAt P o a W S Q := by
  refine ⟨?_⟩
  have hr : (execOp a.eval o).run P W = .ok (.enter f args) W := by
    unfold execOp
    have hρ : a.eval (.func f) = .func (.func f) #[] #[] := rfl
    simp only [ho, resolve, hc, hρ, ha, Deferred.ofValue, Sem.run_bind, Sem.run_pure, Result.andThen_ok, invoke, Array.append_empty, Array.empty_append, hf]
  unfold Oper.wp
  rw [hr, Oper.upon_enter]
  exact h.mono fun e w'' ⟨v, he, hb, hS⟩ => by subst he; exact ⟨v, rfl, hb, hS⟩
structure RInvX (l : List Oper) (m : Nat) (Rel : Nat → Value → World → Prop) (a0 : Act) (w0 : World) (listed : Array Bool) (a : Act) (w : World) : Prop where
  df : a.defers = a0.defers
  sz : a.tmps.size = a0.tmps.size
  len : listed.size = l.length
  fr1 : ∀ (j : Nat) (o : Oper) (t : Nat), j < m → l[j]? = some o → o.dst = some t → listed.getD j false = true → Rel t (a.tmps.getD t undef) w
  fr0 : ∀ t : Nat, (∀ (j : Nat) (o : Oper), j < m → l[j]? = some o → o.dst = some t → listed.getD j false = false) → a.tmps.getD t undef = a0.tmps.getD t undef
  bl : Below w0.heap.size w0 w
  rest : ∀ j, m ≤ j → listed.getD j false = false
  dc : ∀ (i : Nat) (o : Oper), l[i]? = some o → listed.getD i false = true → ∀ e ∈ o.after, Region.binds .any e = true → listed.getD e.on false = true
/-- What an operation may take of the slots that it reads. -/
def Taken (ts : List Nat) (Rel : Nat → Value → World → Prop) (a0 a : Act) (W : World) (u : Nat) : Prop := (ts.contains u = true → Rel u (a.tmps.getD u undef) W) ∧ (ts.contains u = false → a.tmps.getD u undef = a0.tmps.getD u undef)
structure RelOk (P : Program) (ts : List Nat) (Rel : Nat → Value → World → Prop) (Q : Exit → Act → World → Prop) (a0 : Act) (w : World) (o : Oper) : Prop where
  out : o.guard = none ∧ ∀ t, o.dst = some t → ∀ (a : Act) (W : World), Below w.heap.size w W → (∀ u, (readsOf o).contains u = true → Taken ts Rel a0 a W u) → relAt P o a W (Rel t) Q
theorem RelOk.mk' {P : Program} {ts : List Nat} {Rel : Nat → Value → World → Prop} {Q : Exit → Act → World → Prop} {a0 : Act} {w : World} {o : Oper} (t : Nat) (hd : o.dst = some t) (hg : o.guard = none)
    (h : ∀ (a : Act) (W : World), Below w.heap.size w W → (∀ u, (readsOf o).contains u = true → Taken ts Rel a0 a W u) → relAt P o a W (Rel t) Q) : RelOk P ts Rel Q a0 w o :=
  ⟨hg, fun t' hd' => by rw [hd] at hd'; obtain rfl := Option.some.inj hd'; exact h⟩
def AllR (p : Oper → Prop) : List Oper → Prop
  | [] => True
  | o :: r => p o ∧ AllR p r
theorem AllR.spec {p : Oper → Prop} {l : List Oper} (h : AllR p l) : ∀ o, o ∈ l → p o := by
  induction l with
  | nil => intro o ho; cases ho
  | cons x r ih =>
    intro o ho
    rcases List.mem_cons.1 ho with e | e
    · rw [e]; exact h.1
    · exact ih h.2 o e
theorem puts_vals (v : Nat → Value) (t : Nat) : ∀ (ts : List Nat) (a : Act), t ∈ ts → t < a.tmps.size → (puts a (ts.map fun t => (t, v t))).tmps.getD t undef = v t
  | [], _, h, _ => by cases h
  | u :: r, a, h, hs => by
    show (puts (a.put (some u) (v u)) (r.map fun t => (t, v t))).tmps.getD t undef = v t
    by_cases hr : t ∈ r
    · exact puts_vals v t r _ hr (by rw [put_size]; exact hs)
    · rcases List.mem_cons.1 h with e | e
      · subst e
        rw [puts_other t _ _ (fun kv hkv e => hr (by obtain ⟨x, hx, rfl⟩ := List.mem_map.1 hkv; rw [← e]; exact hx)), put_get_same _ _ _ hs]
      · exact (hr e).elim
section
variable {P : Program} {Q : Exit → Act → World → Prop} {l : List Oper} {a0 : Act} {w : World} {m : Nat} {ts : List Nat} {Rel : Nat → Value → World → Prop}
theorem region_rel {id : Nat} (m : Nat) (ts : List Nat) (Rel : Nat → Value → World → Prop) (hm : P.follows .mixedOrders = true) (hml : m ≤ l.length)
    (chk : viaChk l m a0.tmps.size = true) (hts : (l.take m).filterMap (·.dst) = ts)
    (mono : ∀ t, ts.contains t = true → ∀ v W W', Rel t v W → Below W.heap.size W W' → Rel t v W')
    (hop : AllR (RelOk P ts Rel Q a0 w) (l.take m))
    (hQ : ∀ (v : Nat → Value) (W : World), Below w.heap.size w W → (∀ t, ts.contains t = true → Rel t (v t) W) → wpList P l.toArray Q (l.drop m) (puts a0 (ts.map fun t => (t, v t))) W) :
    (Code.region id l.toArray true).wp P Q a0 w := by
  have hopi : ∀ (i : Nat) (o : Oper), i < m → l[i]? = some o → RelOk P ts Rel Q a0 w o := fun i o him hi => AllR.spec hop o (List.mem_take_iff_getElem.2 ⟨i, by have := (List.getElem?_eq_some_iff.1 hi).1; omega, (List.getElem?_eq_some_iff.1 hi).2⟩)
  have hmem : ∀ t, ts.contains t = true ↔ ∃ (j : Nat) (o : Oper), j < m ∧ l[j]? = some o ∧ o.dst = some t := by
    intro t
    rw [List.contains_iff_mem, ← hts, List.mem_filterMap]
    constructor
    · rintro ⟨o, ho, hd⟩
      obtain ⟨j, hj, e⟩ := List.mem_take_iff_getElem.1 ho
      exact ⟨j, o, by omega, by rw [← e]; exact List.getElem?_eq_getElem (by omega), hd⟩
    · rintro ⟨j, o, hj, ho, hd⟩
      exact ⟨o, List.mem_take_iff_getElem.2 ⟨j, by have := (List.getElem?_eq_some_iff.1 ho).1; omega, (List.getElem?_eq_some_iff.1 ho).2⟩, hd⟩
  refine wp_region_any hm ?_
  have key : ∀ (fuel : Nat) (listed : Array Bool) (a : Act) (W : World), RInvX l m Rel a0 w listed a W →
      (List.range m).countP (fun i => !listed.getD i true) + (l.length - m) ≤ fuel → wpAny P .any l.toArray Q fuel listed a W := by
    intro fuel
    have fin : ∀ (fuel : Nat) (listed : Array Bool) (a : Act) (W : World), RInvX l m Rel a0 w listed a W → (∀ j, j < m → listed.getD j false = true) → l.length - m ≤ fuel → wpAny P .any l.toArray Q fuel listed a W := by
      intro fuel listed a W hI hall hf
      have ea : a = puts a0 (ts.map fun t => (t, a.tmps.getD t undef)) := by
        refine act_ext _ _ (by rw [puts_defers]; exact hI.df) (by rw [puts_size]; exact hI.sz) (fun t ht => ?_)
        by_cases htd : ts.contains t = true
        · rw [puts_vals (fun t => a.tmps.getD t undef) t ts a0 (List.contains_iff_mem.1 htd) (by rw [← hI.sz]; exact ht)]
        · rw [puts_other t _ _ (fun kv hkv e => htd (by obtain ⟨x, hx, rfl⟩ := List.mem_map.1 hkv; rw [← e]; exact List.contains_iff_mem.2 hx))]
          exact hI.fr0 t (fun j o hjm hj ho => (htd ((hmem t).2 ⟨j, o, hjm, hj, ho⟩)).elim)
      have hq := hQ (fun t => a.tmps.getD t undef) W hI.bl (fun t ht => by obtain ⟨j, o, hjm, hj, ho⟩ := (hmem t).1 ht; exact hI.fr1 j o t hjm hj ho (hall j hjm))
      rw [← ea] at hq
      refine any_tailV chk fuel m listed _ W (Nat.le_refl _) hml hI.len (fun j hj => ⟨fun h => ?_, fun h => hall j h⟩) hf hq
      rcases Nat.lt_or_ge j m with h2 | h2
      · exact h2
      · rw [hI.rest j h2] at h; cases h
    have look : ∀ (listed : Array Bool) (a : Act) (W : World), RInvX l m Rel a0 w listed a W → ∀ (i : Nat) (o : Oper), i < m → l[i]? = some o →
        (∀ e ∈ o.after, Region.binds .any e = true → listed.getD e.on false = true) → ∀ t, (readsOf o).contains t = true → Taken ts Rel a0 a W t := by
      intro listed a W hI i o him hi hall t ht
      have h := ((viaChk_at chk hi).2.2.1 him).2.2 t (List.contains_iff_mem.1 ht)
      constructor
      · intro hc
        obtain ⟨j, oj, hjm, hj, hjd⟩ := (hmem t).1 hc
        obtain ⟨e, he, hb, hon⟩ := bindsTo_spec (h j oj hjm hj hjd)
        exact hI.fr1 j oj t hjm hj hjd (by rw [← hon]; exact hall e he hb)
      · intro hc
        exact hI.fr0 t (fun j o hjm hj ho => by rw [(hmem t).2 ⟨j, o, hjm, hj, ho⟩] at hc; cases hc)
    induction fuel with
    | zero =>
      intro listed a W hI hc
      refine fin 0 listed a W hI (fun j hj => ?_) (by omega)
      have h0 : (List.range m).countP (fun i => !listed.getD i true) = 0 := by omega
      rw [List.countP_eq_zero] at h0
      have := h0 j (List.mem_range.2 hj)
      have hj' : j < listed.size := by rw [hI.len]; omega
      simpa [hj'] using this
    | succ fuel ih =>
      intro listed a W hI hc
      by_cases hall : ∀ j, j < m → listed.getD j false = true
      · exact fin _ listed a W hI hall (by omega)
      · have hno : ∀ i, i ∈ Region.ready .any l.toArray listed → i < m := by
          intro i hi
          rcases Nat.lt_or_ge i m with h | h
          · exact h
          · exfalso
            obtain ⟨o, hio, hil, hi0, ha⟩ := ready_mem hi hI.len
            rcases Nat.eq_or_lt_of_le h with h2 | h2
            · refine hall (fun j hj => ?_)
              exact reach_listed hI.dc _ i j o hio ha ((viaChk_at chk hio).2.2.2.1 h2.symm j hj)
            · obtain ⟨e, he, hb, hon⟩ := bindsTo_spec ((viaChk_at chk hio).2.2.2.2 h2)
              have h3 := ha e he hb
              rw [hon, hI.rest (i - 1) (by omega)] at h3; cases h3
        refine ⟨fun hr => ?_, fun i hi => ?_⟩
        · exfalso
          have all : ∀ i, i < l.length → listed.getD i false = true := by
            intro i
            induction i using Nat.strongRecOn with
            | _ i ih2 =>
              intro hi
              cases hb : listed.getD i false with
              | true => rfl
              | false =>
                exfalso
                have ho : l[i]? = some l[i] := List.getElem?_eq_getElem hi
                have hmem : i ∈ Region.ready .any l.toArray listed := by
                  rw [mem_ready]
                  refine ⟨?_, l[i], by simp, fun e he hbd => ?_⟩
                  · have : i < listed.size := by have := hI.len; omega
                    simp [this] at hb ⊢; exact hb
                  · exact ih2 e.on ((viaChk_at chk ho).2.1 e he hbd) (by have := (viaChk_at chk ho).2.1 e he hbd; omega)
                rw [hr] at hmem; cases hmem
          exact hall (fun j hj => all j (by omega))
        · have him := hno i hi
          obtain ⟨o, hio, hil, hi0, hal⟩ := ready_mem hi hI.len
          have hil' : i < listed.size := by rw [hI.len]; exact hil
          have ho : l.toArray[i]? = some o := by simpa using hio
          have hC := viaChk_at chk hio
          have hCm := hC.2.2.1 him
          obtain ⟨t, hdst, htN⟩ := hCm.2.1
          have hw : Region.wanted o (yielded l.toArray a.tmps) = true := by unfold Region.wanted; rw [(hopi i o him hio).out.1]
          have hcnt : (List.range m).countP (fun j => !(listed.setIfInBounds i true).getD j true) + (l.length - m) ≤ fuel := by
            have := count_lt (fun j => !listed.getD j true) (fun j => !(listed.setIfInBounds i true).getD j true) (fun j hj => by
                by_cases e : i = j
                · subst e; simp [hil'] at hj
                · rw [getD_set_ne true e] at hj; exact hj) i (by simpa [hil'] using hi0) (by simp [hil']) (List.range m) (List.mem_range.2 him)
            omega
          have dcS : ∀ (i2 : Nat) (o2 : Oper), l[i2]? = some o2 → (listed.setIfInBounds i true).getD i2 false = true → ∀ e ∈ o2.after, Region.binds .any e = true → (listed.setIfInBounds i true).getD e.on false = true := by
            intro j oj hj hl e he hb
            rw [getD_set _ _ _ hil']
            by_cases ei : i = e.on
            · rw [if_pos ei]
            · rw [if_neg ei]
              rw [getD_set _ _ _ hil'] at hl
              by_cases ej : i = j
              · subst ej; rw [hio] at hj; obtain rfl := Option.some.inj hj; exact hal e he hb
              · rw [if_neg ej] at hl; exact hI.dc j oj hj hl e he hb
          have hrel := ((hopi i o him hio).out.2 t hdst a W hI.bl (look listed a W hI i o him hio hal)).out
          unfold wpOp
          simp only [ho, hw, if_true]
          refine .inl (Oper.wp_mono (fun a' W' h => ?_) hrel)
          obtain ⟨v, rfl, hb, hS⟩ := h
          rw [hdst]
          refine ih _ _ _ ⟨by rw [put_defers]; exact hI.df, by rw [put_size]; exact hI.sz, by simpa using hI.len, ?_, ?_, below_tr' hI.bl hb, ?_, dcS⟩ hcnt
          · intro j oj u hjm hj hjd hl
            by_cases htu : t = u
            · subst htu; rw [put_get_same _ _ _ (by rw [hI.sz]; exact htN)]; exact hS
            · rw [put_get_ne _ _ _ _ htu]
              rw [getD_set _ _ _ hil'] at hl
              by_cases e : i = j
              · subst e; rw [hio] at hj; obtain rfl := Option.some.inj hj; rw [hdst] at hjd; exact (htu (Option.some.inj hjd)).elim
              · rw [if_neg e] at hl; exact mono u ((hmem u).2 ⟨j, oj, hjm, hj, hjd⟩) _ _ _ (hI.fr1 j oj u hjm hj hjd hl) hb
          · intro u hnu
            have htu : t ≠ u := fun e => by
              subst e
              have := hnu i o him hio hdst
              rw [getD_set _ _ _ hil', if_pos rfl] at this; cases this
            rw [put_get_ne _ _ _ _ htu]
            refine hI.fr0 u (fun j oj hjm hj hjd => ?_)
            have := hnu j oj hjm hj hjd
            rw [getD_set _ _ _ hil'] at this
            by_cases e : i = j
            · rw [if_pos e] at this; cases this
            · rw [if_neg e] at this; exact this
          · intro j hj
            rw [getD_set _ _ _ hil', if_neg (by omega)]; exact hI.rest j hj
  refine key _ _ _ _ ⟨rfl, rfl, by simp, ?_, ?_, ⟨rfl, rfl, rfl, Nat.le_refl _, fun _ _ => rfl⟩, ?_, ?_⟩ ?_
  · intro j o t _ hj hjd hl; rw [rep_false] at hl; cases hl
  · intro t _; rfl
  · intro j _; exact rep_false _ _
  · intro j o _ hl; rw [rep_false] at hl; cases hl
  · have : (List.range m).countP (fun i => !(Array.replicate l.toArray.size false).getD i true) ≤ m := Nat.le_trans List.countP_le_length (by simp)
    simp at this ⊢; omega
end
/-- Relations by slots. -/
def relOf : List (Nat × (Value → World → Prop)) → Nat → Value → World → Prop
  | [], _, _, _ => True
  | kv :: r, t, v, W => if kv.1 = t then kv.2 v W else relOf r t v W
structure Mono (R : Value → World → Prop) : Prop where
  out : ∀ v W W', R v W → Below W.heap.size W W' → R v W'
def AllM : List (Nat × (Value → World → Prop)) → Prop
  | [] => True
  | kv :: r => Mono kv.2 ∧ AllM r
theorem AllM.spec : ∀ (rs : List (Nat × (Value → World → Prop))), AllM rs → ∀ t v W W', relOf rs t v W → Below W.heap.size W W' → relOf rs t v W'
  | [], _, _, _, _, _, _, _ => trivial
  | kv :: r, h, t, v, W, W', hr, hb => by
    unfold relOf at hr ⊢
    split
    · rename_i e; rw [if_pos e] at hr; exact h.1.out v W W' hr hb
    · rename_i e; rw [if_neg e] at hr; exact AllM.spec r h.2 t v W W' hr hb
def isV (A : Value) : Value → World → Prop := fun v _ => v = A
theorem mono_is (A : Value) : Mono (isV A) := ⟨fun _ _ _ h _ => h⟩
theorem region_rels {P : Program} {Q : Exit → Act → World → Prop} {l : List Oper} {a0 : Act} {w : World} {id : Nat} (m : Nat) (rs : List (Nat × (Value → World → Prop))) (hm : P.follows .mixedOrders = true) (hml : m ≤ l.length)
    (chk : viaChk l m a0.tmps.size = true) (hts : (l.take m).filterMap (·.dst) = rs.map (·.1))
    (mono : AllM rs)
    (hop : AllR (RelOk P (rs.map (·.1)) (relOf rs) Q a0 w) (l.take m))
    (hQ : ∀ (v : Nat → Value) (W : World), Below w.heap.size w W → (∀ t, (rs.map (·.1)).contains t = true → relOf rs t (v t) W) → wpList P l.toArray Q (l.drop m) (puts a0 (rs.map fun kv => (kv.1, v kv.1))) W) :
    (Code.region id l.toArray true).wp P Q a0 w := by
  refine region_rel m (rs.map (·.1)) (relOf rs) hm hml chk hts (fun t _ v W W' hr hb => AllM.spec rs mono t v W W' hr hb) hop (fun v W hW hv => ?_)
  have := hQ v W hW hv
  rw [List.map_map]
  exact this
end Go.Proofs.Ythkbhaaodegocaa
