/- Texts of the claim, in build order: RegX, RegY, P3, P4. No condition. -/
import Derived.Test.YthkbhaaodegocaaZPappusLine7
/- A region whose first m operations draw their order and yield values of which a relation is known (slot, value, world); the others come behind them, in the text's order. (Printed by genregx.py, a program of this session.) -/
namespace Go.Proofs.Ythkbhaaodegocaa
open Go.RowKit
set_option linter.unusedVariables false
set_option linter.unusedSimpArgs false
structure relAt (P : Program) (o : Oper) (a : Act) (W : World) (S : Value → World → Prop) (Q : Exit → Act → World → Prop) : Prop where
  out : o.wp P a W (fun a' W' => ∃ v, a' = a.put o.dst v ∧ Below W.heap.size W W' ∧ S v W') Q
theorem rel_calm {P : Program} {o : Oper} {a : Act} {W : World} {S : Value → World → Prop} {Q : Exit → Act → World → Prop} {v : Value} (h : calmAt P o a.eval W v) (hS : ∀ W', Below W.heap.size W W' → S v W') : relAt P o a W S Q :=
  ⟨wp_of_calm h fun W' hb => ⟨v, rfl, hb, hS W' hb⟩⟩
theorem rel_new {P : Program} {o : Oper} {a : Act} {W W' : World} {S : Value → World → Prop} {Q : Exit → Act → World → Prop} {v : Value} (h : (execOp a.eval o).run P W = .ok (.value v) W') (hb : Below W.heap.size W W') (hS : S v W') : relAt P o a W S Q := by
  refine ⟨?_⟩
  unfold Oper.wp
  rw [h]
  exact ⟨v, rfl, hb, hS⟩
/-- What a call leaves. -/
def RelPost (W : World) (S : Value → World → Prop) (e : Ending) (W' : World) : Prop := ∃ v, e = .returned v ∧ Below W.heap.size W W' ∧ S v W'
theorem rel_call {P : Program} {o : Oper} {a : Act} {W : World} {S : Value → World → Prop} {Q : Exit → Act → World → Prop} (f : Nat) (c : Call) (args : Array Value) (ho : o.op = .call c) (hc : c.callee = .value (.func f)) (ha : c.args.map a.eval = args)
    (hf : (callFunc f args).run P W = .ok (.enter f args) W) (h : Calls P f args W (RelPost W S)) : relAt P o a W S Q := by
  refine ⟨?_⟩
  have hr : (execOp a.eval o).run P W = .ok (.enter f args) W := by
    unfold execOp
    have hρ : a.eval (.func f) = .func (.func f) #[] #[] := rfl
    simp only [ho, resolve, hc, hρ, ha, Deferred.ofValue, Sem.run_bind, Sem.run_pure, Result.andThen_ok, invoke, Array.append_empty, Array.empty_append, hf]
  unfold Oper.wp
  rw [hr, Oper.upon_enter]
  exact h.mono fun e w'' ⟨v, he, hb, hS⟩ => by subst he; exact ⟨v, rfl, hb, hS⟩
structure RInvX (l : List Oper) (m : Nat) (Rel : Nat → Value → World → Prop) (a0 : Act) (w0 : World) (listed : Array Bool) (a : Act) (w : World) : Prop where
  df : a.defers = a0.defers
  sz : a.tmps.size = a0.tmps.size
  len : listed.size = l.length
  fr1 : ∀ (j : Nat) (o : Oper) (t : Nat), j < m → l[j]? = some o → o.dst = some t → listed.getD j false = true → Rel t (a.tmps.getD t undef) w
  fr0 : ∀ t : Nat, (∀ (j : Nat) (o : Oper), j < m → l[j]? = some o → o.dst = some t → listed.getD j false = false) → a.tmps.getD t undef = a0.tmps.getD t undef
  bl : Below w0.heap.size w0 w
  rest : ∀ j, m ≤ j → listed.getD j false = false
  dc : ∀ (i : Nat) (o : Oper), l[i]? = some o → listed.getD i false = true → ∀ e ∈ o.after, Region.binds .any e = true → listed.getD e.on false = true
/-- What an operation may take of the slots that it reads. -/
def Taken (ts : List Nat) (Rel : Nat → Value → World → Prop) (a0 a : Act) (W : World) (u : Nat) : Prop := (ts.contains u = true → Rel u (a.tmps.getD u undef) W) ∧ (ts.contains u = false → a.tmps.getD u undef = a0.tmps.getD u undef)
structure RelOk (P : Program) (ts : List Nat) (Rel : Nat → Value → World → Prop) (Q : Exit → Act → World → Prop) (a0 : Act) (w : World) (o : Oper) : Prop where
  out : o.guard = none ∧ ∀ t, o.dst = some t → ∀ (a : Act) (W : World), Below w.heap.size w W → (∀ u, (readsOf o).contains u = true → Taken ts Rel a0 a W u) → relAt P o a W (Rel t) Q
theorem RelOk.mk' {P : Program} {ts : List Nat} {Rel : Nat → Value → World → Prop} {Q : Exit → Act → World → Prop} {a0 : Act} {w : World} {o : Oper} (t : Nat) (hd : o.dst = some t) (hg : o.guard = none)
    (h : ∀ (a : Act) (W : World), Below w.heap.size w W → (∀ u, (readsOf o).contains u = true → Taken ts Rel a0 a W u) → relAt P o a W (Rel t) Q) : RelOk P ts Rel Q a0 w o :=
  ⟨hg, fun t' hd' => by rw [hd] at hd'; obtain rfl := Option.some.inj hd'; exact h⟩
def AllR (p : Oper → Prop) : List Oper → Prop
  | [] => True
  | o :: r => p o ∧ AllR p r
theorem AllR.spec {p : Oper → Prop} {l : List Oper} (h : AllR p l) : ∀ o, o ∈ l → p o := by
  induction l with
  | nil => intro o ho; cases ho
  | cons x r ih =>
    intro o ho
    rcases List.mem_cons.1 ho with e | e
    · rw [e]; exact h.1
    · exact ih h.2 o e
theorem puts_vals (v : Nat → Value) (t : Nat) : ∀ (ts : List Nat) (a : Act), t ∈ ts → t < a.tmps.size → (puts a (ts.map fun t => (t, v t))).tmps.getD t undef = v t
  | [], _, h, _ => by cases h
  | u :: r, a, h, hs => by
    show (puts (a.put (some u) (v u)) (r.map fun t => (t, v t))).tmps.getD t undef = v t
    by_cases hr : t ∈ r
    · exact puts_vals v t r _ hr (by rw [put_size]; exact hs)
    · rcases List.mem_cons.1 h with e | e
      · subst e
        rw [puts_other t _ _ (fun kv hkv e => hr (by obtain ⟨x, hx, rfl⟩ := List.mem_map.1 hkv; rw [← e]; exact hx)), put_get_same _ _ _ hs]
      · exact (hr e).elim
section
variable {P : Program} {Q : Exit → Act → World → Prop} {l : List Oper} {a0 : Act} {w : World} {m : Nat} {ts : List Nat} {Rel : Nat → Value → World → Prop}
theorem region_rel {id : Nat} (m : Nat) (ts : List Nat) (Rel : Nat → Value → World → Prop) (hm : P.follows .mixedOrders = true) (hml : m ≤ l.length)
    (chk : viaChk l m a0.tmps.size = true) (hts : (l.take m).filterMap (·.dst) = ts)
    (mono : ∀ t, ts.contains t = true → ∀ v W W', Rel t v W → Below W.heap.size W W' → Rel t v W')
    (hop : AllR (RelOk P ts Rel Q a0 w) (l.take m))
    (hQ : ∀ (v : Nat → Value) (W : World), Below w.heap.size w W → (∀ t, ts.contains t = true → Rel t (v t) W) → wpList P l.toArray Q (l.drop m) (puts a0 (ts.map fun t => (t, v t))) W) :
    (Code.region id l.toArray true).wp P Q a0 w := by
  have hopi : ∀ (i : Nat) (o : Oper), i < m → l[i]? = some o → RelOk P ts Rel Q a0 w o := fun i o him hi => AllR.spec hop o (List.mem_take_iff_getElem.2 ⟨i, by have := (List.getElem?_eq_some_iff.1 hi).1; omega, (List.getElem?_eq_some_iff.1 hi).2⟩)
  have hmem : ∀ t, ts.contains t = true ↔ ∃ (j : Nat) (o : Oper), j < m ∧ l[j]? = some o ∧ o.dst = some t := by
    intro t
    rw [List.contains_iff_mem, ← hts, List.mem_filterMap]
    constructor
    · rintro ⟨o, ho, hd⟩
      obtain ⟨j, hj, e⟩ := List.mem_take_iff_getElem.1 ho
      exact ⟨j, o, by omega, by rw [← e]; exact List.getElem?_eq_getElem (by omega), hd⟩
    · rintro ⟨j, o, hj, ho, hd⟩
      exact ⟨o, List.mem_take_iff_getElem.2 ⟨j, by have := (List.getElem?_eq_some_iff.1 ho).1; omega, (List.getElem?_eq_some_iff.1 ho).2⟩, hd⟩
  refine wp_region_any hm ?_
  have key : ∀ (fuel : Nat) (listed : Array Bool) (a : Act) (W : World), RInvX l m Rel a0 w listed a W →
      (List.range m).countP (fun i => !listed.getD i true) + (l.length - m) ≤ fuel → wpAny P .any l.toArray Q fuel listed a W := by
    intro fuel
    have fin : ∀ (fuel : Nat) (listed : Array Bool) (a : Act) (W : World), RInvX l m Rel a0 w listed a W → (∀ j, j < m → listed.getD j false = true) → l.length - m ≤ fuel → wpAny P .any l.toArray Q fuel listed a W := by
      intro fuel listed a W hI hall hf
      have ea : a = puts a0 (ts.map fun t => (t, a.tmps.getD t undef)) := by
        refine act_ext _ _ (by rw [puts_defers]; exact hI.df) (by rw [puts_size]; exact hI.sz) (fun t ht => ?_)
        by_cases htd : ts.contains t = true
        · rw [puts_vals (fun t => a.tmps.getD t undef) t ts a0 (List.contains_iff_mem.1 htd) (by rw [← hI.sz]; exact ht)]
        · rw [puts_other t _ _ (fun kv hkv e => htd (by obtain ⟨x, hx, rfl⟩ := List.mem_map.1 hkv; rw [← e]; exact List.contains_iff_mem.2 hx))]
          exact hI.fr0 t (fun j o hjm hj ho => (htd ((hmem t).2 ⟨j, o, hjm, hj, ho⟩)).elim)
      have hq := hQ (fun t => a.tmps.getD t undef) W hI.bl (fun t ht => by obtain ⟨j, o, hjm, hj, ho⟩ := (hmem t).1 ht; exact hI.fr1 j o t hjm hj ho (hall j hjm))
      rw [← ea] at hq
      refine any_tailV chk fuel m listed _ W (Nat.le_refl _) hml hI.len (fun j hj => ⟨fun h => ?_, fun h => hall j h⟩) hf hq
      rcases Nat.lt_or_ge j m with h2 | h2
      · exact h2
      · rw [hI.rest j h2] at h; cases h
    have look : ∀ (listed : Array Bool) (a : Act) (W : World), RInvX l m Rel a0 w listed a W → ∀ (i : Nat) (o : Oper), i < m → l[i]? = some o →
        (∀ e ∈ o.after, Region.binds .any e = true → listed.getD e.on false = true) → ∀ t, (readsOf o).contains t = true → Taken ts Rel a0 a W t := by
      intro listed a W hI i o him hi hall t ht
      have h := ((viaChk_at chk hi).2.2.1 him).2.2 t (List.contains_iff_mem.1 ht)
      constructor
      · intro hc
        obtain ⟨j, oj, hjm, hj, hjd⟩ := (hmem t).1 hc
        obtain ⟨e, he, hb, hon⟩ := bindsTo_spec (h j oj hjm hj hjd)
        exact hI.fr1 j oj t hjm hj hjd (by rw [← hon]; exact hall e he hb)
      · intro hc
        exact hI.fr0 t (fun j o hjm hj ho => by rw [(hmem t).2 ⟨j, o, hjm, hj, ho⟩] at hc; cases hc)
    induction fuel with
    | zero =>
      intro listed a W hI hc
      refine fin 0 listed a W hI (fun j hj => ?_) (by omega)
      have h0 : (List.range m).countP (fun i => !listed.getD i true) = 0 := by omega
      rw [List.countP_eq_zero] at h0
      have := h0 j (List.mem_range.2 hj)
      have hj' : j < listed.size := by rw [hI.len]; omega
      simpa [hj'] using this
    | succ fuel ih =>
      intro listed a W hI hc
      by_cases hall : ∀ j, j < m → listed.getD j false = true
      · exact fin _ listed a W hI hall (by omega)
      · have hno : ∀ i, i ∈ Region.ready .any l.toArray listed → i < m := by
          intro i hi
          rcases Nat.lt_or_ge i m with h | h
          · exact h
          · exfalso
            obtain ⟨o, hio, hil, hi0, ha⟩ := ready_mem hi hI.len
            rcases Nat.eq_or_lt_of_le h with h2 | h2
            · refine hall (fun j hj => ?_)
              exact reach_listed hI.dc _ i j o hio ha ((viaChk_at chk hio).2.2.2.1 h2.symm j hj)
            · obtain ⟨e, he, hb, hon⟩ := bindsTo_spec ((viaChk_at chk hio).2.2.2.2 h2)
              have h3 := ha e he hb
              rw [hon, hI.rest (i - 1) (by omega)] at h3; cases h3
        refine ⟨fun hr => ?_, fun i hi => ?_⟩
        · exfalso
          have all : ∀ i, i < l.length → listed.getD i false = true := by
            intro i
            induction i using Nat.strongRecOn with
            | _ i ih2 =>
              intro hi
              cases hb : listed.getD i false with
              | true => rfl
              | false =>
                exfalso
                have ho : l[i]? = some l[i] := List.getElem?_eq_getElem hi
                have hmem : i ∈ Region.ready .any l.toArray listed := by
                  rw [mem_ready]
                  refine ⟨?_, l[i], by simp, fun e he hbd => ?_⟩
                  · have : i < listed.size := by have := hI.len; omega
                    simp [this] at hb ⊢; exact hb
                  · exact ih2 e.on ((viaChk_at chk ho).2.1 e he hbd) (by have := (viaChk_at chk ho).2.1 e he hbd; omega)
                rw [hr] at hmem; cases hmem
          exact hall (fun j hj => all j (by omega))
        · have him := hno i hi
          obtain ⟨o, hio, hil, hi0, hal⟩ := ready_mem hi hI.len
          have hil' : i < listed.size := by rw [hI.len]; exact hil
          have ho : l.toArray[i]? = some o := by simpa using hio
          have hC := viaChk_at chk hio
          have hCm := hC.2.2.1 him
          obtain ⟨t, hdst, htN⟩ := hCm.2.1
          have hw : Region.wanted o (yielded l.toArray a.tmps) = true := by unfold Region.wanted; rw [(hopi i o him hio).out.1]
          have hcnt : (List.range m).countP (fun j => !(listed.setIfInBounds i true).getD j true) + (l.length - m) ≤ fuel := by
            have := count_lt (fun j => !listed.getD j true) (fun j => !(listed.setIfInBounds i true).getD j true) (fun j hj => by
                by_cases e : i = j
                · subst e; simp [hil'] at hj
                · rw [getD_set_ne true e] at hj; exact hj) i (by simpa [hil'] using hi0) (by simp [hil']) (List.range m) (List.mem_range.2 him)
            omega
          have dcS : ∀ (i2 : Nat) (o2 : Oper), l[i2]? = some o2 → (listed.setIfInBounds i true).getD i2 false = true → ∀ e ∈ o2.after, Region.binds .any e = true → (listed.setIfInBounds i true).getD e.on false = true := by
            intro j oj hj hl e he hb
            rw [getD_set _ _ _ hil']
            by_cases ei : i = e.on
            · rw [if_pos ei]
            · rw [if_neg ei]
              rw [getD_set _ _ _ hil'] at hl
              by_cases ej : i = j
              · subst ej; rw [hio] at hj; obtain rfl := Option.some.inj hj; exact hal e he hb
              · rw [if_neg ej] at hl; exact hI.dc j oj hj hl e he hb
          have hrel := ((hopi i o him hio).out.2 t hdst a W hI.bl (look listed a W hI i o him hio hal)).out
          unfold wpOp
          simp only [ho, hw, if_true]
          refine .inl (Oper.wp_mono (fun a' W' h => ?_) hrel)
          obtain ⟨v, rfl, hb, hS⟩ := h
          rw [hdst]
          refine ih _ _ _ ⟨by rw [put_defers]; exact hI.df, by rw [put_size]; exact hI.sz, by simpa using hI.len, ?_, ?_, below_tr' hI.bl hb, ?_, dcS⟩ hcnt
          · intro j oj u hjm hj hjd hl
            by_cases htu : t = u
            · subst htu; rw [put_get_same _ _ _ (by rw [hI.sz]; exact htN)]; exact hS
            · rw [put_get_ne _ _ _ _ htu]
              rw [getD_set _ _ _ hil'] at hl
              by_cases e : i = j
              · subst e; rw [hio] at hj; obtain rfl := Option.some.inj hj; rw [hdst] at hjd; exact (htu (Option.some.inj hjd)).elim
              · rw [if_neg e] at hl; exact mono u ((hmem u).2 ⟨j, oj, hjm, hj, hjd⟩) _ _ _ (hI.fr1 j oj u hjm hj hjd hl) hb
          · intro u hnu
            have htu : t ≠ u := fun e => by
              subst e
              have := hnu i o him hio hdst
              rw [getD_set _ _ _ hil', if_pos rfl] at this; cases this
            rw [put_get_ne _ _ _ _ htu]
            refine hI.fr0 u (fun j oj hjm hj hjd => ?_)
            have := hnu j oj hjm hj hjd
            rw [getD_set _ _ _ hil'] at this
            by_cases e : i = j
            · rw [if_pos e] at this; cases this
            · rw [if_neg e] at this; exact this
          · intro j hj
            rw [getD_set _ _ _ hil', if_neg (by omega)]; exact hI.rest j hj
  refine key _ _ _ _ ⟨rfl, rfl, by simp, ?_, ?_, ⟨rfl, rfl, rfl, Nat.le_refl _, fun _ _ => rfl⟩, ?_, ?_⟩ ?_
  · intro j o t _ hj hjd hl; rw [rep_false] at hl; cases hl
  · intro t _; rfl
  · intro j _; exact rep_false _ _
  · intro j o _ hl; rw [rep_false] at hl; cases hl
  · have : (List.range m).countP (fun i => !(Array.replicate l.toArray.size false).getD i true) ≤ m := Nat.le_trans List.countP_le_length (by simp)
    simp at this ⊢; omega
end
/-- Relations by slots. -/
def relOf : List (Nat × (Value → World → Prop)) → Nat → Value → World → Prop
  | [], _, _, _ => True
  | kv :: r, t, v, W => if kv.1 = t then kv.2 v W else relOf r t v W
structure Mono (R : Value → World → Prop) : Prop where
  out : ∀ v W W', R v W → Below W.heap.size W W' → R v W'
def AllM : List (Nat × (Value → World → Prop)) → Prop
  | [] => True
  | kv :: r => Mono kv.2 ∧ AllM r
theorem AllM.spec : ∀ (rs : List (Nat × (Value → World → Prop))), AllM rs → ∀ t v W W', relOf rs t v W → Below W.heap.size W W' → relOf rs t v W'
  | [], _, _, _, _, _, _, _ => trivial
  | kv :: r, h, t, v, W, W', hr, hb => by
    unfold relOf at hr ⊢
    split
    · rename_i e; rw [if_pos e] at hr; exact h.1.out v W W' hr hb
    · rename_i e; rw [if_neg e] at hr; exact AllM.spec r h.2 t v W W' hr hb
def isV (A : Value) : Value → World → Prop := fun v _ => v = A
theorem mono_is (A : Value) : Mono (isV A) := ⟨fun _ _ _ h _ => h⟩
theorem region_rels {P : Program} {Q : Exit → Act → World → Prop} {l : List Oper} {a0 : Act} {w : World} {id : Nat} (m : Nat) (rs : List (Nat × (Value → World → Prop))) (hm : P.follows .mixedOrders = true) (hml : m ≤ l.length)
    (chk : viaChk l m a0.tmps.size = true) (hts : (l.take m).filterMap (·.dst) = rs.map (·.1))
    (mono : AllM rs)
    (hop : AllR (RelOk P (rs.map (·.1)) (relOf rs) Q a0 w) (l.take m))
    (hQ : ∀ (v : Nat → Value) (W : World), Below w.heap.size w W → (∀ t, (rs.map (·.1)).contains t = true → relOf rs t (v t) W) → wpList P l.toArray Q (l.drop m) (puts a0 (rs.map fun kv => (kv.1, v kv.1))) W) :
    (Code.region id l.toArray true).wp P Q a0 w := by
  refine region_rel m (rs.map (·.1)) (relOf rs) hm hml chk hts (fun t _ v W W' hr hb => AllM.spec rs mono t v W W' hr hb) hop (fun v W hW hv => ?_)
  have := hQ v W hW hv
  rw [List.map_map]
  exact this
end Go.Proofs.Ythkbhaaodegocaa
/- A region that draws its order, all of it: operations that yield one value each in whatever later world, new blocks, and one store into each of the new blocks. -/
namespace Go.Proofs.Ythkbhaaodegocaa
open Go.RowKit
set_option linter.unusedVariables false
set_option linter.unusedSimpArgs false
/-- A new block: the operation that makes it, the one that stores into it, the slot that holds it, its type, its cells before and behind the store. -/
structure Bx where
  ai : Nat
  si : Nat
  d : Nat
  T : TypeId
  Z : Array Value
  U : Array Value
@[reducible] def ptr0 (g : Nat) : Value := .pointer (some ⟨g, 0, none⟩)
def readsOk (l : List Oper) (bs : List Bx) (o : Oper) (but : Option Nat) : Bool := (readsOf o).all fun t => (some t == but) || ((bs.all fun b => !(b.d == t)) && (List.range l.length).all fun j => match l[j]? with
  | none => true
  | some oj => !(oj.dst == some t) || bindsTo o j)
def boxesChk (l : List Oper) (bs : List Bx) (N : Nat) : Bool :=
  ((List.range l.length).all fun i => match l[i]? with
    | none => true
    | some o => notSelect o && (o.after.all fun e => !Region.binds .any e || e.on < i) &&
      ((bs.any fun b => b.ai == i || b.si == i) || ((match o.guard with | none => true | some (k, _) => bindsTo o k && (bs.all fun b => !(b.ai == k) && !(b.si == k))) && (match o.dst with | some t => decide (t < N) && (bs.all fun b => !(b.d == t)) | none => false) && readsOk l bs o none))) &&
  (bs.all fun b => decide (b.d < N) && (match l[b.ai]? with | some o => o.dst == some b.d && o.guard.isNone && (readsOf o).isEmpty | none => false) &&
    (match l[b.si]? with | some o => o.dst.isNone && o.guard.isNone && bindsTo o b.ai && readsOk l bs o (some b.d) | none => false) &&
    (bs.all fun c => (b.d == c.d) == (b.ai == c.ai) && ((b.d == c.d) == (b.si == c.si)) && !(b.ai == c.si)))
theorem readsOk_at {l : List Oper} {bs : List Bx} {o : Oper} {but : Option Nat} (h : readsOk l bs o but = true) {t : Nat} (ht : t ∈ readsOf o) (hb : some t ≠ but) :
    (∀ b ∈ bs, b.d ≠ t) ∧ ∀ j oj, l[j]? = some oj → oj.dst = some t → bindsTo o j = true := by
  have h1 := List.all_eq_true.1 h t ht
  rw [Bool.or_eq_true] at h1
  rcases h1 with h1 | h1
  · exact (hb (by simpa using h1)).elim
  · rw [Bool.and_eq_true] at h1
    refine ⟨fun b hb => by have := List.all_eq_true.1 h1.1 b hb; simpa using this, fun j oj hj hjd => ?_⟩
    have hjl : j < l.length := (List.getElem?_eq_some_iff.1 hj).1
    have := List.all_eq_true.1 h1.2 j (List.mem_range.2 hjl)
    simpa [hj, hjd] using this
theorem boxesChk_any {l : List Oper} {bs : List Bx} {N : Nat} (h : boxesChk l bs N = true) {i : Nat} {o : Oper} (hi : l[i]? = some o) :
    (∀ cs b, o.op ≠ .select cs b) ∧ (∀ e ∈ o.after, Region.binds .any e = true → e.on < i) ∧
    ((∃ b ∈ bs, b.ai = i) ∨ (∃ b ∈ bs, b.si = i) ∨ ((∀ b ∈ bs, b.ai ≠ i ∧ b.si ≠ i) ∧ (∀ k b, o.guard = some (k, b) → bindsTo o k = true ∧ ∀ b ∈ bs, b.ai ≠ k ∧ b.si ≠ k) ∧ (∃ t, o.dst = some t ∧ t < N ∧ ∀ b ∈ bs, b.d ≠ t) ∧ readsOk l bs o none = true)) := by
  unfold boxesChk at h
  rw [Bool.and_eq_true] at h
  have hlt : i < l.length := (List.getElem?_eq_some_iff.1 hi).1
  have h1 := List.all_eq_true.1 h.1 i (List.mem_range.2 hlt)
  simp only [hi, Bool.and_eq_true] at h1
  obtain ⟨⟨hns, haf⟩, hk⟩ := h1
  refine ⟨?_, ?_, ?_⟩
  · intro cs b e; rw [notSelect, e] at hns; cases hns
  · intro e he hb
    have := (Array.all_eq_true_iff_forall_mem.1 haf) e he
    simpa [hb] using this
  · by_cases ha : ∃ b ∈ bs, b.ai = i
    · exact .inl ha
    · by_cases hs : ∃ b ∈ bs, b.si = i
      · exact .inr (.inl hs)
      · refine .inr (.inr ?_)
        rw [Bool.or_eq_true] at hk
        rcases hk with hk | hk
        · exfalso
          obtain ⟨b, hb, h2⟩ := List.any_eq_true.1 hk
          rw [Bool.or_eq_true] at h2
          rcases h2 with h2 | h2
          · exact ha ⟨b, hb, by simpa using h2⟩
          · exact hs ⟨b, hb, by simpa using h2⟩
        · simp only [Bool.and_eq_true] at hk
          obtain ⟨⟨hg, hd⟩, hr⟩ := hk
          refine ⟨fun b hb => ⟨fun e => ha ⟨b, hb, e⟩, fun e => hs ⟨b, hb, e⟩⟩, ?_, ?_, hr⟩
          · intro k b e
            rw [e] at hg
            simp only [Bool.and_eq_true] at hg
            exact ⟨hg.1, fun c hc => by have := List.all_eq_true.1 hg.2 c hc; simpa using this⟩
          · cases hdd : o.dst with
            | none => rw [hdd] at hd; cases hd
            | some t =>
              rw [hdd] at hd
              simp only [Bool.and_eq_true, decide_eq_true_eq] at hd
              exact ⟨t, rfl, hd.1, fun c hc => by have := List.all_eq_true.1 hd.2 c hc; simpa using this⟩
theorem boxesChk_box {l : List Oper} {bs : List Bx} {N : Nat} (h : boxesChk l bs N = true) {b : Bx} (hb : b ∈ bs) :
    b.d < N ∧ (∃ o, l[b.ai]? = some o ∧ o.dst = some b.d ∧ o.guard = none ∧ readsOf o = []) ∧ (∃ o, l[b.si]? = some o ∧ o.dst = none ∧ o.guard = none ∧ bindsTo o b.ai = true ∧ readsOk l bs o (some b.d) = true) ∧
    (∀ c ∈ bs, (b.d = c.d ↔ b.ai = c.ai) ∧ (b.d = c.d ↔ b.si = c.si) ∧ b.ai ≠ c.si) := by
  unfold boxesChk at h
  rw [Bool.and_eq_true] at h
  have h1 := List.all_eq_true.1 h.2 b hb
  simp only [Bool.and_eq_true, decide_eq_true_eq] at h1
  obtain ⟨⟨⟨hd, hA⟩, hS⟩, hP⟩ := h1
  refine ⟨hd, ?_, ?_, ?_⟩
  · cases ho : l[b.ai]? with
    | none => rw [ho] at hA; cases hA
    | some o =>
      rw [ho] at hA
      simp only [Bool.and_eq_true, beq_iff_eq, Option.isNone_iff_eq_none, List.isEmpty_iff] at hA
      exact ⟨o, rfl, hA.1.1, hA.1.2, hA.2⟩
  · cases ho : l[b.si]? with
    | none => rw [ho] at hS; cases hS
    | some o =>
      rw [ho] at hS
      simp only [Bool.and_eq_true, Option.isNone_iff_eq_none] at hS
      exact ⟨o, rfl, hS.1.1.1, hS.1.1.2, hS.1.2, hS.2⟩
  · intro c hc
    have := List.all_eq_true.1 hP c hc
    simp only [Bool.and_eq_true, beq_iff_eq, Bool.not_eq_true', beq_eq_false_iff_ne] at this
    obtain ⟨⟨h2, h3⟩, h4⟩ := this
    refine ⟨?_, ?_, h4⟩
    · by_cases e : b.d = c.d
      · simp [e] at h2; exact ⟨fun _ => h2, fun _ => e⟩
      · have : (b.d == c.d) = false := by simpa using e
        rw [this] at h2
        exact ⟨fun h => (e h).elim, fun h => by rw [h] at h2; simp at h2⟩
    · by_cases e : b.d = c.d
      · simp [e] at h3; exact ⟨fun _ => h3, fun _ => e⟩
      · have : (b.d == c.d) = false := by simpa using e
        rw [this] at h3
        exact ⟨fun h => (e h).elim, fun h => by rw [h] at h3; simp at h3⟩
theorem below_setRowY {B g : Nat} {w W : World} (h : Below B w W) (hg : B ≤ g) (cs : Array Value) : Below B w (W.setRow g cs) :=
  ⟨h.os, h.tape, h.output, by simpa [World.setRow] using h.size, fun k hk => (setRow_other W g k cs (by omega)).trans (h.block k hk)⟩
structure RInvY (l : List Oper) (bs : List Bx) (a0 aE : Act) (w0 : World) (listed : Array Bool) (a : Act) (w : World) : Prop where
  df : a.defers = aE.defers
  sz : a.tmps.size = aE.tmps.size
  len : listed.size = l.length
  fr1 : ∀ (j : Nat) (o : Oper) (t : Nat), l[j]? = some o → o.dst = some t → (∀ b ∈ bs, b.d ≠ t) → listed.getD j false = true → a.tmps.getD t undef = aE.tmps.getD t undef
  fr0 : ∀ t : Nat, (∀ b ∈ bs, b.d ≠ t) → (∀ (j : Nat) (o : Oper), l[j]? = some o → o.dst = some t → listed.getD j false = false) → a.tmps.getD t undef = a0.tmps.getD t undef
  bl : Below w0.heap.size w0 w
  box : ∃ g : Nat → Nat, (∀ b ∈ bs, listed.getD b.ai false = true → a.tmps.getD b.d undef = ptr0 (g b.d) ∧ w0.heap.size ≤ g b.d ∧ w.heap[g b.d]? = some (.cells (if listed.getD b.si false = true then b.U else b.Z) b.T (0, 0))) ∧
    (∀ b ∈ bs, ∀ c ∈ bs, listed.getD b.ai false = true → listed.getD c.ai false = true → b.d ≠ c.d → g b.d ≠ g c.d)
  ord : ∀ b ∈ bs, listed.getD b.si false = true → listed.getD b.ai false = true
section
variable {P : Program} {Q : Exit → Act → World → Prop} {l : List Oper} {a0 : Act} {w : World} {vs : List (Nat × Value)} {bs : List Bx}
set_option maxHeartbeats 1000000 in
theorem wp_region_boxes {id : Nat} (hm : P.follows .mixedOrders = true)
    (chk : boxesChk l bs a0.tmps.size = true) (hkeys : vs.all (fun kv => (l.any (·.dst == some kv.1)) && (bs.all fun b => !(b.d == kv.1))) = true)
    (hal : ∀ b ∈ bs, ∀ o, l[b.ai]? = some o → ∀ (ρ : Operand → Value) (W : World), (execOp ρ o).run P W = .ok (.value (ptr0 W.heap.size)) (W.alloc (.cells b.Z b.T)))
    (hst : ∀ b ∈ bs, ∀ o, l[b.si]? = some o → ∀ (ρ : Operand → Value) (W : World) (g : Nat), (∀ t ∈ readsOf o, t ≠ b.d → ρ (.tmp t) = (puts a0 vs).tmps.getD t undef) → ρ (.tmp b.d) = ptr0 g → W.heap[g]? = some (.cells b.Z b.T (0, 0)) → (execOp ρ o).run P W = .ok .skip (W.setRow g b.U))
    (hop : ∀ (i : Nat) (o : Oper) (t : Nat), l[i]? = some o → (∀ b ∈ bs, b.ai ≠ i ∧ b.si ≠ i) → o.dst = some t → (Region.wanted o (yielded l.toArray (puts a0 vs).tmps) = true ∧ ∀ W, Below w.heap.size w W → calmAt P o (puts a0 vs).eval W ((puts a0 vs).tmps.getD t undef)) ∨ (Region.wanted o (yielded l.toArray (puts a0 vs).tmps) = false ∧ (puts a0 vs).tmps.getD t undef = undef))
    (hQ : ∀ (g : Nat → Nat) (W : World), Below w.heap.size w W → (∀ b ∈ bs, w.heap.size ≤ g b.d ∧ W.heap[g b.d]? = some (.cells b.U b.T (0, 0))) → (∀ b ∈ bs, ∀ c ∈ bs, b.d ≠ c.d → g b.d ≠ g c.d) →
      Q .normal (puts (puts a0 vs) ((bs.map (·.d)).map fun t => (t, ptr0 (g t)))) W) :
    (Code.region id l.toArray true).wp P Q a0 w := by
  have hE : ∀ t, ((∀ (j : Nat) (o : Oper), l[j]? = some o → o.dst ≠ some t) ∨ (∃ b ∈ bs, b.d = t)) → a0.tmps.getD t undef = (puts a0 vs).tmps.getD t undef := by
    intro t hno
    refine (puts_other t vs a0 (fun kv hkv e => ?_)).symm
    have := List.all_eq_true.1 hkeys kv hkv
    rw [Bool.and_eq_true] at this
    rcases hno with hno | ⟨b, hb, hbd⟩
    · obtain ⟨o, ho, hod⟩ := List.any_eq_true.1 this.1
      obtain ⟨j, hj⟩ := List.getElem?_of_mem ho
      exact hno j o hj (by rw [← e]; simpa using hod)
    · have h2 := List.all_eq_true.1 this.2 b hb
      rw [e, hbd] at h2; simp at h2
  have hEs : (puts a0 vs).tmps.size = a0.tmps.size := puts_size _ _
  have hEd : (puts a0 vs).defers = a0.defers := puts_defers _ _
  generalize puts a0 vs = aE at *
  refine wp_region_any hm ?_
  have key : ∀ (fuel : Nat) (listed : Array Bool) (a : Act) (W : World), RInvY l bs a0 aE w listed a W →
      (List.range l.length).countP (fun i => !listed.getD i true) ≤ fuel → wpAny P .any l.toArray Q fuel listed a W := by
    intro fuel
    have fin : ∀ (listed : Array Bool) (a : Act) (W : World), RInvY l bs a0 aE w listed a W → Region.ready .any l.toArray listed = [] → Q .normal a W := by
      intro listed a W hI hr
      have hall : ∀ i, i < l.length → listed.getD i false = true := by
        intro i
        induction i using Nat.strongRecOn with
        | _ i ih2 =>
          intro hi
          cases hb : listed.getD i false with
          | true => rfl
          | false =>
            exfalso
            have ho : l[i]? = some l[i] := List.getElem?_eq_getElem hi
            have hmem : i ∈ Region.ready .any l.toArray listed := by
              rw [mem_ready]
              refine ⟨?_, l[i], by simp, fun e he hbd => ?_⟩
              · have : i < listed.size := by have := hI.len; omega
                simp [this] at hb ⊢; exact hb
              · exact ih2 e.on ((boxesChk_any chk ho).2.1 e he hbd) (by have := (boxesChk_any chk ho).2.1 e he hbd; omega)
            rw [hr] at hmem; cases hmem
      obtain ⟨g, hg1, hg2⟩ := hI.box
      have lai : ∀ b ∈ bs, listed.getD b.ai false = true := fun b hb => by obtain ⟨_, ⟨o, ho, _⟩, _⟩ := boxesChk_box chk hb; exact hall _ (List.getElem?_eq_some_iff.1 ho).1
      have lsi : ∀ b ∈ bs, listed.getD b.si false = true := fun b hb => by obtain ⟨_, _, ⟨o, ho, _⟩, _⟩ := boxesChk_box chk hb; exact hall _ (List.getElem?_eq_some_iff.1 ho).1
      have ea : a = puts aE ((bs.map (·.d)).map fun t => (t, ptr0 (g t))) := by
        refine act_ext _ _ (by rw [puts_defers]; exact hI.df) (by rw [puts_size]; exact hI.sz) (fun t ht => ?_)
        by_cases hb : ∃ b ∈ bs, b.d = t
        · obtain ⟨b, hb, rfl⟩ := hb
          rw [puts_vals (fun t => ptr0 (g t)) b.d _ aE (List.mem_map.2 ⟨b, hb, rfl⟩) (by rw [← hI.sz]; exact ht)]
          exact (hg1 b hb (lai b hb)).1
        · have hnb : ∀ b ∈ bs, b.d ≠ t := fun b h e => hb ⟨b, h, e⟩
          rw [puts_other t _ _ (fun kv hkv e => by obtain ⟨x, hx, rfl⟩ := List.mem_map.1 hkv; obtain ⟨b, hbb, rfl⟩ := List.mem_map.1 hx; exact hnb b hbb e)]
          by_cases hw : ∃ (j : Nat) (o : Oper), l[j]? = some o ∧ o.dst = some t
          · obtain ⟨j, o, hj, ho⟩ := hw
            exact hI.fr1 j o t hj ho hnb (hall j (List.getElem?_eq_some_iff.1 hj).1)
          · rw [hI.fr0 t hnb (fun j o hj ho => (hw ⟨j, o, hj, ho⟩).elim)]
            exact hE t (.inl (fun j o hj ho => hw ⟨j, o, hj, ho⟩))
      rw [ea]
      refine hQ g W hI.bl (fun b hb => ⟨(hg1 b hb (lai b hb)).2.1, ?_⟩) (fun b hb c hc h => hg2 b hb c hc (lai b hb) (lai c hc) h)
      have := (hg1 b hb (lai b hb)).2.2
      rwa [if_pos (lsi b hb)] at this
    have look : ∀ (listed : Array Bool) (a : Act) (W : World), RInvY l bs a0 aE w listed a W → ∀ (i : Nat) (o : Oper), l[i]? = some o →
        (∀ e ∈ o.after, Region.binds .any e = true → listed.getD e.on false = true) → ∀ (but : Option Nat), readsOk l bs o but = true → ∀ t ∈ readsOf o, some t ≠ but → a.tmps.getD t undef = aE.tmps.getD t undef := by
      intro listed a W hI i o hi hall but hro t ht htb
      obtain ⟨hnb, h⟩ := readsOk_at hro ht htb
      by_cases hw : ∃ (j : Nat) (oj : Oper), l[j]? = some oj ∧ oj.dst = some t
      · obtain ⟨j, oj, hj, hjd⟩ := hw
        obtain ⟨e, he, hb, hon⟩ := bindsTo_spec (h j oj hj hjd)
        exact hI.fr1 j oj t hj hjd hnb (by rw [← hon]; exact hall e he hb)
      · rw [hI.fr0 t hnb (fun j oj hj ho => (hw ⟨j, oj, hj, ho⟩).elim)]
        exact hE t (.inl (fun j oj hj ho => hw ⟨j, oj, hj, ho⟩))
    induction fuel with
    | zero =>
      intro listed a W hI hc
      have hr : Region.ready .any l.toArray listed = [] := by
        rw [List.eq_nil_iff_forall_not_mem]
        intro i hi
        obtain ⟨h0, o, ho, _⟩ := mem_ready.1 hi
        have hil : i < l.length := by simpa using (Array.getElem?_eq_some_iff.1 ho).1
        have : 0 < (List.range l.length).countP (fun i => !listed.getD i true) := List.countP_pos_iff.2 ⟨i, List.mem_range.2 hil, by rw [h0]; rfl⟩
        omega
      exact ⟨hr, fin listed a W hI hr⟩
    | succ fuel ih =>
      intro listed a W hI hc
      refine ⟨fin listed a W hI, fun i hi => ?_⟩
      obtain ⟨h0, o, ho, hall⟩ := mem_ready.1 hi
      have hio : l[i]? = some o := by simpa using ho
      have hil : i < l.length := (List.getElem?_eq_some_iff.1 hio).1
      have hil' : i < listed.size := by rw [hI.len]; exact hil
      have hi0 : listed.getD i false = false := by simpa [hil'] using h0
      obtain ⟨hns, haf, hcase⟩ := boxesChk_any chk hio
      have hcnt : (List.range l.length).countP (fun j => !(listed.setIfInBounds i true).getD j true) ≤ fuel := by
        have := count_lt (fun j => !listed.getD j true) (fun j => !(listed.setIfInBounds i true).getD j true) (fun j hj => by
            by_cases e : i = j
            · subst e; simp [hil'] at hj
            · rw [getD_set_ne true e] at hj; exact hj) i (by rw [h0]; rfl) (by simp [hil']) (List.range l.length) (List.mem_range.2 hil)
        omega
      obtain ⟨g, hg1, hg2⟩ := hI.box
      rcases hcase with ⟨b, hb, hbi⟩ | ⟨b, hb, hbi⟩ | ⟨hne, hgd, ⟨t, hdst, htN, htb⟩, hro⟩
      · -- a new block
        subst hbi
        obtain ⟨hdN, ⟨o', ho', hod, hog, hord⟩, _, hdis⟩ := boxesChk_box chk hb
        rw [hio] at ho'; obtain rfl := Option.some.inj ho'
        have hrun := hal b hb o hio a.eval W
        have hw : Region.wanted o (yielded l.toArray a.tmps) = true := by unfold Region.wanted; rw [hog]
        unfold wpOp
        simp only [ho, hw, if_true]
        refine .inl ?_
        unfold Oper.wp
        rw [hrun]
        simp only [Oper.upon, hod]
        have hsi0 : listed.getD b.si false = false := by
          cases h : listed.getD b.si false with
          | false => rfl
          | true => rw [hI.ord b hb h] at hi0; cases hi0
        have lt_of : ∀ c ∈ bs, listed.getD c.ai false = true → g c.d < W.heap.size := fun c hc hl => (Array.getElem?_eq_some_iff.1 (hg1 c hc hl).2.2).1
        refine ih _ _ _ ⟨by rw [put_defers]; exact hI.df, by rw [put_size]; exact hI.sz, by simpa using hI.len, ?_, ?_, bal hI.bl _, ⟨fun t => if t = b.d then W.heap.size else g t, ?_, ?_⟩, ?_⟩ hcnt
        · intro j oj u hj hjd hud hl
          rw [put_get_ne _ _ _ _ (hud b hb)]
          rw [getD_set _ _ _ hil'] at hl
          by_cases e : b.ai = j
          · subst e; rw [hio] at hj; obtain rfl := Option.some.inj hj; rw [hod] at hjd; exact (hud b hb (Option.some.inj hjd)).elim
          · rw [if_neg e] at hl; exact hI.fr1 j oj u hj hjd hud hl
        · intro u hud hnu
          rw [put_get_ne _ _ _ _ (hud b hb)]
          refine hI.fr0 u hud (fun j oj hj hjd => ?_)
          have := hnu j oj hj hjd
          rw [getD_set _ _ _ hil'] at this
          by_cases e : b.ai = j
          · rw [if_pos e] at this; cases this
          · rw [if_neg e] at this; exact this
        · intro c hc hl
          have hbc := hdis c hc
          rw [getD_set _ _ _ hil'] at hl
          rw [getD_set _ _ _ hil', if_neg hbc.2.2]
          by_cases e : c.d = b.d
          · have hcs : b.si = c.si := (hbc.2.1).1 e.symm
            simp only [e, if_true]
            refine ⟨put_get_same _ _ _ (by rw [hI.sz, hEs]; exact hdN), hI.bl.size, ?_⟩
            rw [← hcs, hsi0]
            simp only [Bool.false_eq_true, if_false]
            have hcb : c.T = b.T ∧ c.Z = b.Z := by
              have h1 := hal c hc o (by rw [← (hbc.1).1 e.symm]; exact hio) a.eval W
              rw [hrun] at h1
              simp only [Result.ok.injEq, true_and] at h1
              have h2 : (W.alloc (.cells b.Z b.T)).heap[W.heap.size]? = (W.alloc (.cells c.Z c.T)).heap[W.heap.size]? := by rw [h1]
              rw [heap_alloc_new, heap_alloc_new] at h2
              simp only [Option.some.injEq, Obj.cells.injEq] at h2
              exact ⟨h2.2.1.symm, h2.1.symm⟩
            rw [hcb.1, hcb.2]
            exact heap_alloc_new _ _
          · have hai : b.ai ≠ c.ai := fun h => e ((hbc.1).2 h).symm
            rw [if_neg hai] at hl
            simp only [if_neg e]
            obtain ⟨h1, h2, h3⟩ := hg1 c hc hl
            exact ⟨by rw [put_get_ne _ _ _ _ (Ne.symm e)]; exact h1, h2, by rw [heap_alloc_old _ _ (lt_of c hc hl)]; exact h3⟩
        · intro c hc c' hc' hl hl' hne
          have hbc := hdis c hc
          have hbc' := hdis c' hc'
          rw [getD_set _ _ _ hil'] at hl hl'
          by_cases e : c.d = b.d
          · have e' : c'.d ≠ b.d := fun h => hne (e.trans h.symm)
            simp only [if_pos e, if_neg e']
            rw [if_neg (fun h => e' ((hbc'.1).2 h).symm)] at hl'
            have := lt_of c' hc' hl'
            omega
          · simp only [if_neg e]
            rw [if_neg (fun h => e ((hbc.1).2 h).symm)] at hl
            by_cases e' : c'.d = b.d
            · simp only [if_pos e']
              have := lt_of c hc hl
              omega
            · simp only [if_neg e']
              rw [if_neg (fun h => e' ((hbc'.1).2 h).symm)] at hl'
              exact hg2 c hc c' hc' hl hl' hne
        · intro c hc hl
          have hbc := hdis c hc
          rw [getD_set _ _ _ hil', if_neg hbc.2.2] at hl
          rw [getD_set _ _ _ hil']
          split
          · rfl
          · exact hI.ord c hc hl
      · -- a store
        subst hbi
        obtain ⟨hdN, hA, ⟨o', ho', hod, hog, hba, hro⟩, hdis⟩ := boxesChk_box chk hb
        rw [hio] at ho'; obtain rfl := Option.some.inj ho'
        have hla : listed.getD b.ai false = true := by obtain ⟨e, he, hbb, hon⟩ := bindsTo_spec hba; rw [← hon]; exact hall e he hbb
        obtain ⟨p1, p2, p3⟩ := hg1 b hb hla
        rw [hi0] at p3
        simp only [Bool.false_eq_true, if_false] at p3
        have hrun := hst b hb o hio a.eval W (g b.d) (fun t ht hne => look listed a W hI b.si o hio hall _ hro t ht (fun e => hne (Option.some.inj e))) p1 p3
        have hw : Region.wanted o (yielded l.toArray a.tmps) = true := by unfold Region.wanted; rw [hog]
        unfold wpOp
        simp only [ho, hw, if_true]
        refine .inl ?_
        unfold Oper.wp
        rw [hrun]
        simp only [Oper.upon, hod]
        have hp : a.put none undef = a := rfl
        rw [hp]
        refine ih _ _ _ ⟨hI.df, hI.sz, by simpa using hI.len, ?_, ?_, below_setRowY hI.bl p2 _, ⟨g, ?_, ?_⟩, ?_⟩ hcnt
        · intro j oj u hj hjd hud hl
          rw [getD_set _ _ _ hil'] at hl
          by_cases e : b.si = j
          · subst e; rw [hio] at hj; obtain rfl := Option.some.inj hj; rw [hod] at hjd; cases hjd
          · rw [if_neg e] at hl; exact hI.fr1 j oj u hj hjd hud hl
        · intro u hud hnu
          refine hI.fr0 u hud (fun j oj hj hjd => ?_)
          have := hnu j oj hj hjd
          rw [getD_set _ _ _ hil'] at this
          by_cases e : b.si = j
          · rw [if_pos e] at this; cases this
          · rw [if_neg e] at this; exact this
        · intro c hc hl
          obtain ⟨_, _, _, hdisc⟩ := boxesChk_box chk hc
          have hcb := hdisc b hb
          rw [getD_set _ _ _ hil', if_neg (Ne.symm hcb.2.2)] at hl
          rw [getD_set _ _ _ hil']
          obtain ⟨h1, h2, h3⟩ := hg1 c hc hl
          by_cases e : c.d = b.d
          · have hsi : b.si = c.si := ((hcb.2.1).1 e).symm
            rw [if_pos hsi]
            simp only [if_true]
            have hcc : c.T = b.T ∧ c.U = b.U := by
              have e1 := hst c hc o (by rw [← hsi]; exact hio) a.eval W (g b.d) (fun t ht hne => look listed a W hI b.si o hio hall _ hro t ht (fun h => hne (by rw [e]; exact Option.some.inj h))) (by rw [e]; exact p1) (by
                have h3' := h3
                rw [e, ← hsi, hi0] at h3'
                simpa using h3')
              have hT : c.T = b.T := by
                have h3' := h3
                rw [e, p3] at h3'
                simp only [Option.some.injEq, Obj.cells.injEq] at h3'
                exact h3'.2.1.symm
              refine ⟨hT, ?_⟩
              rw [hrun] at e1
              simp only [Result.ok.injEq, true_and] at e1
              have h4 : (W.setRow (g b.d) b.U).heap[g b.d]? = (W.setRow (g b.d) c.U).heap[g b.d]? := by rw [e1]
              rw [setRow_heap _ _ _ _ _ _ p3, setRow_heap _ _ _ _ _ _ p3] at h4
              simp only [Option.some.injEq, Obj.cells.injEq] at h4
              exact h4.1.symm
            rw [e] at h1 h2 ⊢
            exact ⟨h1, h2, by rw [hcc.1, hcc.2]; exact setRow_heap _ _ _ _ _ _ p3⟩
          · have hsi : b.si ≠ c.si := fun h => e ((hcb.2.1).2 h.symm)
            rw [if_neg hsi]
            exact ⟨h1, h2, by rw [setRow_other _ _ _ _ (hg2 c hc b hb hl hla e)]; exact h3⟩
        · intro c hc c' hc' hl hl' hne
          obtain ⟨_, _, _, hdisc⟩ := boxesChk_box chk hc
          obtain ⟨_, _, _, hdisc'⟩ := boxesChk_box chk hc'
          rw [getD_set _ _ _ hil', if_neg (Ne.symm (hdisc b hb).2.2)] at hl
          rw [getD_set _ _ _ hil', if_neg (Ne.symm (hdisc' b hb).2.2)] at hl'
          exact hg2 c hc c' hc' hl hl' hne
        · intro c hc hl
          obtain ⟨_, _, _, hdisc⟩ := boxesChk_box chk hc
          rw [getD_set _ _ _ hil', if_neg (Ne.symm (hdisc b hb).2.2)]
          rw [getD_set _ _ _ hil'] at hl
          by_cases e : b.si = c.si
          · have : c.d = b.d := ((hdisc b hb).2.1).2 e.symm
            have hai : c.ai = b.ai := ((hdisc b hb).1).1 this
            rw [hai]; exact hla
          · rw [if_neg e] at hl; exact hI.ord c hc hl
      · -- a value
        have hwe : Region.wanted o (yielded l.toArray a.tmps) = Region.wanted o (yielded l.toArray aE.tmps) := by
          unfold Region.wanted
          cases hg : o.guard with
          | none => rfl
          | some kb =>
            obtain ⟨k, b⟩ := kb
            obtain ⟨hbk, hnk⟩ := hgd k b hg
            obtain ⟨e, he, hb, hon⟩ := bindsTo_spec hbk
            have : yielded l.toArray a.tmps k = yielded l.toArray aE.tmps k := yielded_congr hI.sz (fun ok tk hk hd => hI.fr1 k ok tk (by simpa using hk) hd (by
              obtain ⟨_, _, hcase2⟩ := boxesChk_any chk (show l[k]? = some ok by simpa using hk)
              rcases hcase2 with ⟨b2, hb2, h2⟩ | ⟨b2, hb2, h2⟩ | ⟨_, _, ⟨t2, hd2, _, htb2⟩, _⟩
              · exact ((hnk b2 hb2).1 h2).elim
              · exact ((hnk b2 hb2).2 h2).elim
              · rw [hd] at hd2; obtain rfl := Option.some.inj hd2; exact htb2) (by rw [← hon]; exact hall e he hb))
            simp only [this]
        have step : ∀ W', Below w.heap.size w W' → Below W.heap.size W W' → wpAny P .any l.toArray Q fuel (listed.setIfInBounds i true) (a.put (some t) (aE.tmps.getD t undef)) W' := by
          intro W' hW' hWW
          refine ih _ _ _ ⟨by rw [put_defers]; exact hI.df, by rw [put_size]; exact hI.sz, by simpa using hI.len, ?_, ?_, hW', ⟨g, ?_, ?_⟩, ?_⟩ hcnt
          · intro j oj u hj hjd hud hl
            by_cases htu : t = u
            · subst htu; rw [put_get_same _ _ _ (by rw [hI.sz, hEs]; exact htN)]
            · rw [put_get_ne _ _ _ _ htu]
              rw [getD_set _ _ _ hil'] at hl
              by_cases e : i = j
              · subst e; rw [hio] at hj; obtain rfl := Option.some.inj hj; rw [hdst] at hjd; exact (htu (Option.some.inj hjd)).elim
              · rw [if_neg e] at hl; exact hI.fr1 j oj u hj hjd hud hl
          · intro u hud hno
            have htu : t ≠ u := fun e => by
              subst e
              have := hno i o hio hdst
              rw [getD_set _ _ _ hil', if_pos rfl] at this; cases this
            rw [put_get_ne _ _ _ _ htu]
            refine hI.fr0 u hud (fun j oj hj hjd => ?_)
            have := hno j oj hj hjd
            rw [getD_set _ _ _ hil'] at this
            by_cases e : i = j
            · rw [if_pos e] at this; cases this
            · rw [if_neg e] at this; exact this
          · intro c hc hl
            rw [getD_set _ _ _ hil', if_neg (Ne.symm (hne c hc).1)] at hl
            rw [getD_set _ _ _ hil', if_neg (Ne.symm (hne c hc).2)]
            obtain ⟨h1, h2, h3⟩ := hg1 c hc hl
            exact ⟨by rw [put_get_ne _ _ _ _ (Ne.symm (htb c hc))]; exact h1, h2, by rw [hWW.block _ (Array.getElem?_eq_some_iff.1 h3).1]; exact h3⟩
          · intro c hc c' hc' hl hl' hd
            rw [getD_set _ _ _ hil', if_neg (Ne.symm (hne c hc).1)] at hl
            rw [getD_set _ _ _ hil', if_neg (Ne.symm (hne c' hc').1)] at hl'
            exact hg2 c hc c' hc' hl hl' hd
          · intro c hc hl
            rw [getD_set _ _ _ hil', if_neg (Ne.symm (hne c hc).2)] at hl
            rw [getD_set _ _ _ hil', if_neg (Ne.symm (hne c hc).1)]
            exact hI.ord c hc hl
        unfold wpOp
        simp only [ho]
        rcases hop i o t hio hne hdst with ⟨hw, hcalm⟩ | ⟨hw, hun⟩
        · rw [hwe, hw]
          simp only [if_true]
          refine .inl ?_
          have heq : execOp aE.eval o = execOp a.eval o := execOp_congr o hns (fun x hx => by
              cases x with
              | tmp u =>
                have hu : u ∈ readsOf o := List.mem_filterMap.2 ⟨.tmp u, by simpa using hx, rfl⟩
                exact (look listed a W hI i o hio hall none hro u hu (fun e => by cases e)).symm
              | _ => rfl)
          have hcalm' : calmAt P o a.eval W (aE.tmps.getD t undef) := by
              refine ⟨?_⟩; have hh := (hcalm W hI.bl).out; unfold calmRun at hh ⊢; rw [← heq]; exact hh
          refine wp_of_calm hcalm' (fun W' hb => ?_)
          rw [hdst]
          exact step W' (below_tr' hI.bl hb) hb
        · rw [hwe, hw]
          simp only [Bool.false_eq_true, if_false, hdst]
          rw [hun] at step
          exact step W hI.bl (Below.refl _ _)
  refine key _ _ _ _ ⟨by rw [hEd], hEs.symm, by simp, ?_, ?_, ⟨rfl, rfl, rfl, Nat.le_refl _, fun _ _ => rfl⟩, ⟨fun _ => 0, (fun b _ h => by rw [rep_false] at h; cases h), (fun b _ c _ h => by rw [rep_false] at h; cases h)⟩, (fun b _ h => by rw [rep_false] at h; cases h)⟩ ?_
  · intro j o t hj hjd _ hl; rw [rep_false] at hl; cases hl
  · intro t _ _; rfl
  · exact Nat.le_trans List.countP_le_length (by simp)
/-- What the law asks of the operations that are in no list of blocks: by their place. -/
def AllEx (p : Oper → Prop) (ex : Nat → Bool) : Nat → List Oper → Prop
  | _, [] => True
  | i, o :: r => (ex i = true ∨ p o) ∧ AllEx p ex (i + 1) r
theorem AllEx.spec {p : Oper → Prop} {ex : Nat → Bool} : ∀ (l : List Oper) (n i : Nat) (o : Oper), AllEx p ex n l → l[i]? = some o → ex (n + i) = false → p o
  | [], _, _, _, _, h, _ => by cases h
  | x :: r, n, 0, o, h, hi, he => by
    simp only [List.getElem?_cons_zero, Option.some.injEq] at hi
    subst hi
    rcases h.1 with h1 | h1
    · rw [Nat.add_zero] at he; rw [h1] at he; cases he
    · exact h1
  | x :: r, n, i + 1, o, h, hi, he => by
    rw [List.getElem?_cons_succ] at hi
    exact AllEx.spec r (n + 1) i o h.2 hi (by rw [show n + 1 + i = n + (i + 1) by omega]; exact he)
def AllB (p : Bx → Prop) : List Bx → Prop
  | [] => True
  | b :: r => p b ∧ AllB p r
theorem AllB.spec {p : Bx → Prop} : ∀ (bs : List Bx), AllB p bs → ∀ b ∈ bs, p b
  | [], _, _, h => by cases h
  | x :: r, h, b, hb => by
    rcases List.mem_cons.1 hb with e | e
    · rw [e]; exact h.1
    · exact AllB.spec r h.2 b e
/-- One new block: what its two operations do. -/
structure BoxOk (P : Program) (l : List Oper) (aE : Act) (b : Bx) : Prop where
  al : ∀ o, l[b.ai]? = some o → ∀ (ρ : Operand → Value) (W : World), (execOp ρ o).run P W = .ok (.value (ptr0 W.heap.size)) (W.alloc (.cells b.Z b.T))
  st : ∀ o, l[b.si]? = some o → ∀ (ρ : Operand → Value) (W : World) (g : Nat), (∀ t ∈ readsOf o, t ≠ b.d → ρ (.tmp t) = aE.tmps.getD t undef) → ρ (.tmp b.d) = ptr0 g → W.heap[g]? = some (.cells b.Z b.T (0, 0)) → (execOp ρ o).run P W = .ok .skip (W.setRow g b.U)
theorem region_boxes {id : Nat} (bs : List Bx) (vs : List (Nat × Value)) (hm : P.follows .mixedOrders = true)
    (chk : boxesChk l bs a0.tmps.size = true) (hkeys : vs.all (fun kv => (l.any (·.dst == some kv.1)) && (bs.all fun b => !(b.d == kv.1))) = true)
    (H : ∀ aE, puts a0 vs = aE → AllB (BoxOk P l aE) bs ∧ AllEx (CalmG P aE w l) (fun i => bs.any fun b => b.ai == i || b.si == i) 0 l ∧
      ∀ (g : Nat → Nat) (W : World), Below w.heap.size w W → (∀ b ∈ bs, w.heap.size ≤ g b.d ∧ W.heap[g b.d]? = some (.cells b.U b.T (0, 0))) → (∀ b ∈ bs, ∀ c ∈ bs, b.d ≠ c.d → g b.d ≠ g c.d) →
        Q .normal (puts aE ((bs.map (·.d)).map fun t => (t, ptr0 (g t)))) W) :
    (Code.region id l.toArray true).wp P Q a0 w := by
  obtain ⟨h1, h2, h3⟩ := H _ rfl
  refine wp_region_boxes hm chk hkeys (fun b hb => (AllB.spec bs h1 b hb).al) (fun b hb => (AllB.spec bs h1 b hb).st) (fun i o t hi hne hd => ?_) h3
  exact AllEx.spec l 0 i o h2 hi (by
    rw [Nat.zero_add]
    cases h : (bs.any fun b => b.ai == i || b.si == i) with
    | false => rfl
    | true =>
      exfalso
      obtain ⟨b, hb, h2⟩ := List.any_eq_true.1 h
      rw [Bool.or_eq_true] at h2
      rcases h2 with h2 | h2
      · exact (hne b hb).1 (by simpa using h2)
      · exact (hne b hb).2 (by simpa using h2)) t hd
end
end Go.Proofs.Ythkbhaaodegocaa
/- Contracts: how many points of a list are on a line; the line through three points. -/
namespace Go.Proofs.Ythkbhaaodegocaa
open Go.RowKit
set_option linter.unusedVariables false
set_option linter.unusedSimpArgs false
def onCount (p : Int) (l : List Pt) (x : Pt) : Nat := (l.filter (fun a => onB p a x)).length
set_option maxHeartbeats 4000000 in
theorem onLine_any (p : Int) (g o N cap : Nat) (all : List Pt) (l0 l1 l2 : Int) (w : World) (hp : prB p = true) (hl : In13 (l0, l1, l2)) (hN : all.length = N) (hN1 : N ≤ 1000000) (hin : ∀ a ∈ all, In13 a) (hpt : PtsAt w g o N all) :
    Calls Try.prog 119 #[.int .i64 p, .slice (some ⟨g, o, none⟩) N cap, ptV l0 l1 l2] w (Ret w (.int .i64 (onCount p all (l0, l1, l2) : Int))) := by
  have HO := Lib.hid (fun (x y z : Int) (W : World) (h : In13 (x, y, z)) => isOn_any p x y z l0 l1 l2 W hp h hl)
  have HP1 := Lib.hid hpt
  have HIn := Lib.hid hin
  clear hp hl hpt hin
  go_enter Try.func119, Try.ntmps119
  go_wp2
  go_loopw [7, 12] (fun v i wr => ∃ k : Nat, k ≤ N ∧ i = .int .i64 k ∧ v = .int .i64 (((all.take k).filter (fun a => onB p a (l0, l1, l2))).length : Int) ∧ Hid (wr.heap[w.heap.size]? = some (.cells #[.int .i64 l0, .int .i64 l1, .int .i64 l2] 24 (0, 0))) ∧ Hid (Below w.heap.size w wr)) (fun _ i wr => N - (intOf i).toNat)
  case atStart => exact ⟨0, Nat.zero_le _, rfl, rfl, Lib.hid (by rw [hn_atN _ _ _ rfl]), Lib.hid (by repeat (first | exact Below.refl _ _ | refine bset ?_ _ _ (by omega) _ | refine bal ?_ _ | refine bdrN ?_ _ | refine bdr ?_))⟩
  case round =>
    obtain ⟨k, hk, rfl, rfl, KL, HB⟩ := hrel
    by_cases hlt : k < N
    · have HPk := HP1.out k hlt
      have HInk : In13 (all.getD k (0, 0, 0)) := HIn.out _ (by simp [List.getD, hN, hlt])
      have HS := Lib.hid (filter_snoc (fun a => onB p a (l0, l1, l2)) all (0, 0, 0) k (by omega))
      have hle : ((all.take k).filter (fun a => onB p a (l0, l1, l2))).length ≤ 1000000 := Nat.le_trans (List.length_filter_le _ _) (by rw [List.length_take]; omega)
      generalize all.getD k (0, 0, 0) = a at *
      obtain ⟨x, y, z⟩ := a
      have HC := Lib.hid (fun (W : World) => HO.out x y z W HInk)
      obtain ⟨c0, c1, c2⟩ := HPk
      have d0 := cell_below HB.out c0
      have d1 := cell_below HB.out c1
      have d2 := cell_below HB.out c2
      have ll := (Array.getElem?_eq_some_iff.1 KL.out).1
      clear c0 c1 c2 HInk
      generalize hF : (all.take k).filter (fun a => onB p a (l0, l1, l2)) = F at *
      generalize hFl : F.length = q at *
      cases hb : onB p (x, y, z) (l0, l1, l2) with
      | true =>
        have HS2 : Hid (((all.take (k + 1)).filter (fun a => onB p a (l0, l1, l2))).length = q + 1) := Lib.hid (by rw [HS.out]; simp [hb, hFl])
        rw [hb] at HC
        clear HS hF
        go_wp2_with (first
          | (refine wpList_store_row _ rfl 23 _ _ rfl rfl (U := #[.int .i64 x, .int .i64 y, .int .i64 z]) rfl rfl (heap_alloc_new _ _) rfl Try.sizeOf23 (by simp [Value.oneCell']) ?_; rw [alloc_setRow])
          | (refine wpList_load_row _ rfl 23 _ rfl (g := wr.heap.size) (T := 23) (cs := #[.int .i64 x, .int .i64 y, .int .i64 z]) (fr := (0, 0)) rfl (by rw [hn_atN _ _ _ rfl]) 3 rfl Try.sizeOf23 Try.isAgg23 ?_)
          | (refine wpList_load_row _ rfl 24 _ rfl (g := w.heap.size) (T := 24) (cs := #[.int .i64 l0, .int .i64 l1, .int .i64 l2]) (fr := (0, 0)) rfl (by rw [hn_pastN _ _ _ ll]; exact KL.out) 3 rfl Try.sizeOf24 Try.isAgg24 ?_)
          | (go_at_call 75; (with_reducible refine (HC.out _).mono ?_); rintro e w3_ ⟨rfl, hb3⟩; obtain ⟨hcb3, hfb3, hlb3⟩ := bcell hb3; have hsz3 := hb3.size; (try simp at hsz3); have HB3 := Lib.hid hb3; clear hb3; (try (have hl03 : w.heap.size < w3_.heap.size := by omega))))
        go_roundw
        case rel => exact ⟨k + 1, by omega, by go_num, by rw [HS2.out]; go_num, Lib.hid (by rw [HB3.out.block _ (by simp; omega), hn_pastN _ _ _ ll]; exact KL.out), Lib.hid (low_tr' (bal HB.out (.cells #[.int .i64 x, .int .i64 y, .int .i64 z] 23)) HB3.out (by have := HB.out.size; first | omega | (simp; done) | (simp; omega)))⟩
        case measure => simp [intOf]; omega
      | false =>
        have HS2 : Hid (((all.take (k + 1)).filter (fun a => onB p a (l0, l1, l2))).length = q) := Lib.hid (by rw [HS.out]; simp [hb, hFl])
        rw [hb] at HC
        clear HS hF
        go_wp2_with (first
          | (refine wpList_store_row _ rfl 23 _ _ rfl rfl (U := #[.int .i64 x, .int .i64 y, .int .i64 z]) rfl rfl (heap_alloc_new _ _) rfl Try.sizeOf23 (by simp [Value.oneCell']) ?_; rw [alloc_setRow])
          | (refine wpList_load_row _ rfl 23 _ rfl (g := wr.heap.size) (T := 23) (cs := #[.int .i64 x, .int .i64 y, .int .i64 z]) (fr := (0, 0)) rfl (by rw [hn_atN _ _ _ rfl]) 3 rfl Try.sizeOf23 Try.isAgg23 ?_)
          | (refine wpList_load_row _ rfl 24 _ rfl (g := w.heap.size) (T := 24) (cs := #[.int .i64 l0, .int .i64 l1, .int .i64 l2]) (fr := (0, 0)) rfl (by rw [hn_pastN _ _ _ ll]; exact KL.out) 3 rfl Try.sizeOf24 Try.isAgg24 ?_)
          | (go_at_call 75; (with_reducible refine (HC.out _).mono ?_); rintro e w3_ ⟨rfl, hb3⟩; obtain ⟨hcb3, hfb3, hlb3⟩ := bcell hb3; have hsz3 := hb3.size; (try simp at hsz3); have HB3 := Lib.hid hb3; clear hb3; (try (have hl03 : w.heap.size < w3_.heap.size := by omega))))
        go_roundw
        case rel => exact ⟨k + 1, by omega, by go_num, by rw [HS2.out], Lib.hid (by rw [HB3.out.block _ (by simp; omega), hn_pastN _ _ _ ll]; exact KL.out), Lib.hid (low_tr' (bal HB.out (.cells #[.int .i64 x, .int .i64 y, .int .i64 z] 23)) HB3.out (by have := HB.out.size; first | omega | (simp; done) | (simp; omega)))⟩
        case measure => simp [intOf]; omega
    · have hT : all.take k = all := List.take_of_length_le (by omega)
      go_wp2
      go_ret
      exact ⟨by rw [hT]; rfl, HB.out⟩
end Go.Proofs.Ythkbhaaodegocaa
/- Plain words: what PappusLine returns, and what both makings lean on. -/
namespace Go.Proofs.Ythkbhaaodegocaa
set_option linter.unusedVariables false
set_option linter.unusedSimpArgs false
def papOn (p : Int) (a b c d e f : Pt) : Bool := (onB p a (crsN p d e) || onB p d (crsN p a b)) || ((onB p b (crsN p d e) || onB p e (crsN p a b)) || (onB p c (crsN p d e) || onB p f (crsN p a b)))
def pap1 (p : Int) (a b d e : Pt) : Pt := crsN p (crsN p a e) (crsN p b d)
def papC (p : Int) (a b c d e f : Pt) : Pt × Int :=
  if (threeB p a b c && threeB p d e f) = true then (if papOn p a b c d e f = true then ((0, 0, 0), 5) else (crsN p (pap1 p a b d e) (pap1 p a c d f), 0)) else ((0, 0, 0), 5)
def papR (p : Int) (n1 n2 : Nat) (l1 l2 : List Pt) : Pt × Int :=
  if threesR p n1 n2 l1 l2 ≠ 0 then ((0, 0, 0), threesR p n1 n2 l1 l2) else
  papC p (l1.getD 0 (0, 0, 0)) (l1.getD 1 (0, 0, 0)) (l1.getD 2 (0, 0, 0)) (l2.getD 0 (0, 0, 0)) (l2.getD 1 (0, 0, 0)) (l2.getD 2 (0, 0, 0))
theorem papC_f1 {p : Int} {a b c : Pt} (d e f : Pt) (h : threeB p a b c = false) : papC p a b c d e f = ((0, 0, 0), 5) := by unfold papC; rw [h]; rfl
theorem papC_f2 {p : Int} {d e f : Pt} (a b c : Pt) (h : threeB p d e f = false) : papC p a b c d e f = ((0, 0, 0), 5) := by unfold papC; rw [h]; simp
theorem papC_on {p : Int} {a b c d e f : Pt} (h : papOn p a b c d e f = true) : papC p a b c d e f = ((0, 0, 0), 5) := by unfold papC; rw [h]; simp
theorem papC_good {p : Int} {a b c d e f : Pt} (h1 : threeB p a b c = true) (h2 : threeB p d e f = true) (h : papOn p a b c d e f = false) : papC p a b c d e f = (crsN p (pap1 p a b d e) (pap1 p a c d f), 0) := by unfold papC; rw [h1, h2, h]; rfl
theorem papOn_eq {p : Int} {a b c d e f : Pt} (h : eqP (crsN p a b) (crsN p d e) = true) : papOn p a b c d e f = true := by
  have h1 := (on_crsN p a b).1
  rw [eqP_iff.1 h] at h1
  unfold papOn
  rw [h1]; rfl
theorem onCount3 (p : Int) (a b c x : Pt) : onCount p [a, b, c] x = 0 ↔ (onB p a x = false ∧ onB p b x = false ∧ onB p c x = false) := by
  unfold onCount
  cases h1 : onB p a x <;> cases h2 : onB p b x <;> cases h3 : onB p c x <;> simp [List.filter, h1, h2, h3]
theorem papOn_1 {p : Int} {a b c d e f : Pt} (h : 0 < onCount p [a, b, c] (crsN p d e)) : papOn p a b c d e f = true := by
  cases hp : papOn p a b c d e f with
  | true => rfl
  | false =>
    unfold papOn at hp
    simp only [Bool.or_eq_false_iff] at hp
    have := (onCount3 p a b c (crsN p d e)).2 ⟨hp.1.1, hp.2.1.1, hp.2.2.1⟩
    omega
theorem papOn_2 {p : Int} {a b c d e f : Pt} (h : 0 < onCount p [d, e, f] (crsN p a b)) : papOn p a b c d e f = true := by
  cases hp : papOn p a b c d e f with
  | true => rfl
  | false =>
    unfold papOn at hp
    simp only [Bool.or_eq_false_iff] at hp
    have := (onCount3 p d e f (crsN p a b)).2 ⟨hp.1.2, hp.2.1.2, hp.2.2.2⟩
    omega
theorem papOn_0 {p : Int} {a b c d e f : Pt} (h1 : onCount p [a, b, c] (crsN p d e) = 0) (h2 : onCount p [d, e, f] (crsN p a b) = 0) : papOn p a b c d e f = false := by
  obtain ⟨a1, a2, a3⟩ := (onCount3 p a b c (crsN p d e)).1 h1
  obtain ⟨b1, b2, b3⟩ := (onCount3 p d e f (crsN p a b)).1 h2
  unfold papOn
  rw [a1, a2, a3, b1, b2, b3]; rfl
theorem nzV_of {n : Nat} {a b : Pt} (ha : ptB (n : Int) a.1 a.2.1 a.2.2 = true) (hb : ptB (n : Int) b.1 b.2.1 b.2.2 = true) (h : eqP a b = false) : nzV (n : Int) (crs a b) := by
  have hp := (pt_facts ha).1
  have h1 := List.all_eq_true.1 (List.all_eq_true.1 (crsChk_of hp) _ (mem_allP ha)) _ (mem_allP hb)
  rw [Bool.or_eq_true] at h1
  rcases h1 with h1 | h1
  · exact absurd (h1.symm.trans h) (by decide)
  · rintro ⟨c1, c2, c3⟩
    unfold crsNz at h1
    rw [Int.emod_eq_zero_of_dvd c1, Int.emod_eq_zero_of_dvd c2, Int.emod_eq_zero_of_dvd c3] at h1
    exact absurd h1 (by decide)
theorem okC_of {p : Int} {a b : Pt} (h : nzV p (crs a b)) : okC p a b = true := by
  have h1 : nzB p [(crs a b).1, (crs a b).2.1, (crs a b).2.2] = true := by
    cases hb : nzB p [(crs a b).1, (crs a b).2.1, (crs a b).2.2] with
    | true => rfl
    | false =>
      obtain ⟨c1, c2, c3⟩ := nz3 hb
      exact (h ⟨Int.dvd_of_emod_eq_zero c1, Int.dvd_of_emod_eq_zero c2, Int.dvd_of_emod_eq_zero c3⟩).elim
  unfold okC madeC made
  rw [h1]; rfl
theorem three_facts {p : Int} {a b c : Pt} (h : threeB p a b c = true) : eqP a b = false ∧ eqP a c = false ∧ eqP b c = false ∧ p ∣ detZ a b c := by
  unfold threeB at h
  simp only [Bool.and_eq_true, Bool.not_eq_true', beq_iff_eq] at h
  exact ⟨h.1, h.2.1, h.2.2.1, Int.dvd_of_emod_eq_zero h.2.2.2⟩
/-- The first two meets have a line. -/
theorem pap_ok {n : Nat} {a b c d e f : Pt} (ha : ptB (n : Int) a.1 a.2.1 a.2.2 = true) (hc : ptB (n : Int) c.1 c.2.1 c.2.2 = true) (he : ptB (n : Int) e.1 e.2.1 e.2.2 = true) (hf : ptB (n : Int) f.1 f.2.1 f.2.2 = true)
    (h1 : threeB n a b c = true) (h2 : threeB n d e f = true) (h : papOn n a b c d e f = false) : okC n (pap1 n a b d e) (pap1 n a c d f) = true := by
  have hp := (pt_facts ha).1
  unfold papOn at h
  simp only [Bool.or_eq_false_iff] at h
  obtain ⟨t1, t2, t3, t4⟩ := three_facts h1
  obtain ⟨u1, u2, u3, u4⟩ := three_facts h2
  have o1 := off_nd hp h.1.2
  have o2 := off_nd hp h.1.1
  have k1 : ¬ (n : Int) ∣ dotI a (crs b d) := by rwa [show dotI a (crs b d) = dotI d (crs a b) by unfold dotI crs; simp only; grind]
  have k2 : ¬ (n : Int) ∣ dotI a (crs c d) := by
    have := off_other hp o1 t4 (nzV_of ha hc t2)
    rwa [show dotI a (crs c d) = dotI d (crs a c) by unfold dotI crs; simp only; grind]
  have k3 : ¬ (n : Int) ∣ dotI a (crs e f) := by
    refine off_other (b := d) hp ?_ ?_ (nzV_of he hf u3)
    · rintro ⟨q, hq⟩
      exact o2 ⟨-q, by rw [show dotI a (crs d e) = - dotI a (crs e d) by unfold dotI crs; simp only; grind, hq]; grind⟩
    · obtain ⟨q, hq⟩ := u4
      exact ⟨-q, by rw [show detZ e d f = - detZ d e f by unfold detZ; grind, hq]; grind⟩
  exact okC_of (meets_ne hp k1 k2 k3)
end Go.Proofs.Ythkbhaaodegocaa
