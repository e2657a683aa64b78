/- Texts of the claim, in build order: RegQ, N1, N2, N3, M1, G3, P2, F3, P1. No condition. -/
import Derived.BigQuiet
import Derived.Lib.AppendZeros
import Derived.Laws.AppendOwnNone
import Derived.Test.YtdiihhohaijcoaaZDesarguesLine4
/- A region whose first m operations draw their order and yield one value each, in whatever later world: walked once, in the text's order, by the kit's steps of a quiet walk; new blocks may be made among them; the other operations come behind, in the text's order. -/
namespace Go.Proofs.Ytdiihhohaijcoaa
open Go.RowKit
set_option linter.unusedVariables false
set_option linter.unusedSimpArgs false
/-- A later world. -/
structure Grow0 (w : World) where
  W : World
  b : Below w.heap.size w W
/-- A world later than that one. -/
structure Grow (w : World) (G : Grow0 w) where
  W : World
  b : Below G.W.heap.size G.W W
instance growNonempty (w : World) (G : Grow0 w) : Nonempty (Grow w G) := ⟨⟨G.W, Below.refl _ _⟩⟩
theorem Grow.low {w : World} {G : Grow0 w} (g : Grow w G) : Below w.heap.size w g.W := below_tr' G.b g.b
theorem cell_belowQ {w w1 : World} (h : Below w.heap.size w w1) {a : Addr} {v : Value} (hc : w.cell? a = some v) : w1.cell? a = some v := (h.cell (World.block_lt_of_cell? w a hc)).trans hc
@[go_sem] theorem grow_cell {w : World} {G : Grow0 w} (g : Grow w G) (p : Addr) (h : w.cell? p ≠ none) : g.W.cell? p = w.cell? p := by
  cases hc : w.cell? p with
  | none => exact (h hc).elim
  | some v => exact cell_belowQ g.low hc
/-- What a walk in the text's order found: slot and value of each operation. -/
def QSteps (P : Program) (ops : Array Oper) (C : World → Prop) : List Oper → List (Nat × Value) → Act → Prop
  | [], [], _ => True
  | o :: r, kv :: vs, a => o.dst = some kv.1 ∧ YieldsIn P ops C o kv.2 a ∧ QSteps P ops C r vs (a.put (some kv.1) kv.2)
  | _, _, _ => False
theorem quiet_out {P : Program} {ops : Array Oper} {C : World → Prop} {Q' : Act → Prop} : ∀ (r : List Oper) (a : Act), (∀ o ∈ r, o.dst ≠ none) → wpQuiet P ops C Q' r a → ∃ vs, QSteps P ops C r vs a ∧ Q' (puts a vs)
  | [], a, _, h => ⟨[], trivial, h⟩
  | o :: r, a, hd, h => by
    cases hdd : o.dst with
    | none => exact (hd o (List.mem_cons_self ..) hdd).elim
    | some t =>
      have h' : if Region.wanted o (yielded ops a.tmps) then o.quiet P a C (wpQuiet P ops C Q' r) else wpQuiet P ops C Q' r (a.put o.dst undef) := h
      by_cases hw : Region.wanted o (yielded ops a.tmps) = true
      · rw [if_pos hw] at h'
        obtain ⟨v, h1, h2⟩ := h'
        rw [hdd] at h2
        obtain ⟨vs, h3, h4⟩ := quiet_out r _ (fun o' ho' => hd o' (List.mem_cons_of_mem _ ho')) h2
        exact ⟨(t, v) :: vs, ⟨hdd, .inl ⟨hw, h1⟩, h3⟩, h4⟩
      · rw [if_neg hw] at h'
        rw [hdd] at h'
        obtain ⟨vs, h3, h4⟩ := quiet_out r _ (fun o' ho' => hd o' (List.mem_cons_of_mem _ ho')) h'
        exact ⟨(t, undef) :: vs, ⟨hdd, .inr ⟨by simpa using hw, rfl⟩, h3⟩, h4⟩
theorem QSteps.key {P : Program} {ops : Array Oper} {C : World → Prop} : ∀ (r : List Oper) (vs : List (Nat × Value)) (a : Act), QSteps P ops C r vs a → ∀ kv ∈ vs, ∃ (j : Nat) (o : Oper), r[j]? = some o ∧ o.dst = some kv.1
  | [], [], _, _, kv, h => by cases h
  | [], _ :: _, _, h, _, _ => h.elim
  | _ :: _, [], _, h, _, _ => h.elim
  | o :: r, x :: vs, a, h, kv, hk => by
    rcases List.mem_cons.1 hk with e | e
    · subst e; exact ⟨0, o, rfl, h.1⟩
    · obtain ⟨j, o', hj, hd⟩ := QSteps.key r vs _ h.2.2 kv e
      exact ⟨j + 1, o', by rw [List.getElem?_cons_succ]; exact hj, hd⟩
theorem QSteps.at {P : Program} {ops : Array Oper} {C : World → Prop} : ∀ (r : List Oper) (vs : List (Nat × Value)) (a : Act), QSteps P ops C r vs a → ∀ (i : Nat) (o : Oper), r[i]? = some o →
    ∃ t v ai, o.dst = some t ∧ YieldsIn P ops C o v ai ∧ ai.tmps.size = a.tmps.size ∧ (t < a.tmps.size → (∀ j o', i < j → r[j]? = some o' → o'.dst ≠ some t) → (puts a vs).tmps.getD t undef = v) ∧
      ∀ u, (∀ j o', i ≤ j → r[j]? = some o' → o'.dst ≠ some u) → ai.tmps.getD u undef = (puts a vs).tmps.getD u undef
  | [], _, _, _, _, _, hi => by simp at hi
  | _ :: _, [], _, h, _, _, _ => h.elim
  | o :: r, x :: vs, a, h, 0, o', hi => by
    simp only [List.getElem?_cons_zero, Option.some.injEq] at hi
    subst hi
    have other : ∀ u, (∀ j o', 0 < j → (o :: r)[j]? = some o' → o'.dst ≠ some u) → ∀ kv ∈ vs, kv.1 ≠ u := fun u hu kv hk e => by
      obtain ⟨j, o', hj, hd⟩ := QSteps.key r vs _ h.2.2 kv hk
      exact hu (j + 1) o' (Nat.succ_pos _) (by rw [List.getElem?_cons_succ]; exact hj) (by rw [hd, e])
    refine ⟨x.1, x.2, a, h.1, h.2.1, rfl, fun ht hno => ?_, fun u hno => ?_⟩
    · rw [puts, puts_other x.1 vs _ (other x.1 hno), put_get_same _ _ _ ht]
    · rw [puts, puts_other u vs _ (other u (fun j o' hj => hno j o' (Nat.zero_le _))), put_get_ne _ _ _ _ (fun e => hno 0 o (Nat.le_refl _) rfl (by rw [h.1, e]))]
  | o :: r, x :: vs, a, h, i + 1, o', hi => by
    rw [List.getElem?_cons_succ] at hi
    obtain ⟨t, v, ai, h1, h2, h3, h4, h5⟩ := QSteps.at r vs _ h.2.2 i o' hi
    rw [put_size] at h3 h4
    refine ⟨t, v, ai, h1, h2, h3, fun ht hno => h4 ht (fun j o2 hj hr => hno (j + 1) o2 (by omega) (by rw [List.getElem?_cons_succ]; exact hr)), fun u hno => h5 u (fun j o2 hj hr => hno (j + 1) o2 (by omega) (by rw [List.getElem?_cons_succ]; exact hr))⟩
/-- No two of the first m fill one slot. -/
def onceB (l : List Oper) (m : Nat) : Bool := (List.range m).all fun i => (List.range m).all fun j => (i == j) || !((l[i]?.bind (·.dst)) == (l[j]?.bind (·.dst)))
theorem onceB_at {l : List Oper} {m : Nat} (h : onceB l m = true) {i j t : Nat} {o o' : Oper} (hi : i < m) (hj : j < m) (hne : i ≠ j) (ho : l[i]? = some o) (ho' : l[j]? = some o') (hd : o.dst = some t) : o'.dst ≠ some t := by
  intro hd'
  unfold onceB at h
  have h1 := List.all_eq_true.1 (List.all_eq_true.1 h i (List.mem_range.2 hi)) j (List.mem_range.2 hj)
  rw [ho, ho'] at h1
  simp [hne, hd, hd'] at h1
section
variable {P : Program} {Q : Exit → Act → World → Prop} {l : List Oper} {a0 aE : Act} {w : World}
theorem calmRun_of_quiet {o : Oper} {ρ : Operand → Value} {G : Grow0 w} {v : Value} (h : Oper.quietUpon P (fun w' => ∃ g : Grow w G, w' = g.W) G.W v ((execOp ρ o).run P G.W)) : calmAt P o ρ G.W v := by
  refine ⟨?_⟩
  unfold calmRun
  generalize (execOp ρ o).run P G.W = r at *
  cases r with
  | ok n w' =>
    cases n <;> simp only [Oper.quietUpon] at h ⊢
    case value u => exact h
    case skip => exact h
    case enter f args =>
      obtain ⟨h1, h2⟩ := h
      exact ⟨h1, h2.mono fun e w'' ⟨he, g, hg⟩ => ⟨he, by subst hg; exact g.b⟩⟩
  | halt x w' => simp only [Oper.quietUpon] at h
/-- Values and guards alone; behind them the others. -/
theorem region_q {id : Nat} (m : Nat) (hm : P.follows .mixedOrders = true) (hml : m ≤ l.length)
    (chk : viaChk l m a0.tmps.size = true) (hgd : guardsIn l m = true) (hon : onceB l m = true)
    (H : ∀ G : Grow0 w, wpQuiet P l.toArray (fun w' => ∃ g : Grow w G, w' = g.W) (fun a' => a' = aE) (l.take m) a0)
    (HQ : ∀ W, Below w.heap.size w W → wpList P l.toArray Q (l.drop m) aE W) :
    (Code.region id l.toArray true).wp P Q a0 w := by
  have get : ∀ {i : Nat} {o : Oper}, i < m → l[i]? = some o → (l.take m)[i]? = some o := fun him hi => by rw [List.getElem?_take_of_lt him]; exact hi
  have geti : ∀ {i : Nat} {o : Oper}, (l.take m)[i]? = some o → i < m ∧ l[i]? = some o := fun {i o} hi => by
    rcases Nat.lt_or_ge i m with h | h
    · rw [List.getElem?_take_of_lt h] at hi; exact ⟨h, hi⟩
    · rw [List.getElem?_take_eq_none h] at hi; cases hi
  have hsome : ∀ o ∈ l.take m, o.dst ≠ none := fun o ho => by
    obtain ⟨i, hi⟩ := List.getElem?_of_mem ho
    obtain ⟨him, hi⟩ := geti hi
    obtain ⟨t, ht, _⟩ := ((viaChk_at chk hi).2.2.1 him).2.1
    rw [ht]; exact fun h => by cases h
  obtain ⟨vs, hs, hE⟩ := quiet_out _ _ hsome (H ⟨w, Below.refl _ _⟩)
  have look : ∀ {C : World → Prop} {us : List (Nat × Value)}, QSteps P l.toArray C (l.take m) us a0 → puts a0 us = aE → ∀ {i : Nat} {o : Oper} {t : Nat}, i < m → l[i]? = some o → o.dst = some t →
      ∃ v, aE.tmps.getD t undef = v ∧ ((Region.wanted o (yielded l.toArray aE.tmps) = true ∧ ∀ w, C w → Oper.quietUpon P C w v ((execOp aE.eval o).run P w)) ∨ (Region.wanted o (yielded l.toArray aE.tmps) = false ∧ v = undef)) := by
    intro C us hus hue i o t him hi hd
    obtain ⟨t', v, ai, hd', hy, hsz, hv, hread⟩ := QSteps.at _ _ _ hus i o (get him hi)
    rw [hd] at hd'; obtain rfl := Option.some.inj hd'
    rw [hue] at hv hread
    have hC := viaChk_at chk hi
    have hCm := hC.2.2.1 him
    obtain ⟨t2, ht2, htN⟩ := hCm.2.1
    rw [hd] at ht2; obtain rfl := Option.some.inj ht2
    have hval := hv htN (fun j o' hij hj => by obtain ⟨hjm, hj⟩ := geti hj; exact onceB_at hon him hjm (by omega) hi hj hd)
    have heq : execOp ai.eval o = execOp aE.eval o := execOp_congr o hC.1 (fun x hx => by
      cases x with
      | tmp u =>
        refine hread u (fun j o' hij hj hdu => ?_)
        obtain ⟨hjm, hj⟩ := geti hj
        obtain ⟨e, he, hb, hon'⟩ := bindsTo_spec (hCm.2.2 u (List.mem_filterMap.2 ⟨.tmp u, by simpa using hx, rfl⟩) j o' hjm hj hdu)
        have := hC.2.1 e he hb
        omega
      | _ => rfl)
    have hwe : Region.wanted o (yielded l.toArray ai.tmps) = Region.wanted o (yielded l.toArray aE.tmps) := by
      unfold Region.wanted
      cases hg : o.guard with
      | none => rfl
      | some kb =>
        obtain ⟨k, b⟩ := kb
        obtain ⟨e, he, hb, hon'⟩ := bindsTo_spec (hCm.1 k b hg)
        have hki := hC.2.1 e he hb
        rw [hon'] at hki
        have : yielded l.toArray ai.tmps k = yielded l.toArray aE.tmps k := yielded_congr (by rw [hsz, ← hue, puts_size]) (fun ok tk hk hdk => hread tk (fun j o' hij hj hdj => by
          obtain ⟨hjm, hj⟩ := geti hj
          exact onceB_at hon (by omega) hjm (by omega) (show l[k]? = some ok by simpa using hk) hj hdk hdj))
        simp only [this]
    refine ⟨v, hval, ?_⟩
    rcases hy with ⟨hw, hq⟩ | ⟨hw, hu⟩
    · exact .inl ⟨by rw [← hwe]; exact hw, fun w hw' => by have := hq w hw'; unfold Oper.quietAt at this; rwa [heq] at this⟩
    · exact .inr ⟨by rw [← hwe]; exact hw, hu⟩
  refine wp_region_via (vs := vs) hm hml chk ?_ (fun i o t him hi hd => ?_) (fun i o k b him hi hg => guardsIn_at hgd him hi hg) (fun W hW => by rw [hE]; exact HQ W hW)
  · rw [List.all_eq_true]
    intro kv hkv
    obtain ⟨j, o, hj, hd⟩ := QSteps.key _ _ _ hs kv hkv
    rw [List.any_eq_true]
    exact ⟨o, List.mem_of_getElem? hj, by rw [hd]; simp⟩
  · rw [hE]
    obtain ⟨v, hv, h⟩ := look hs hE him hi hd
    rcases h with ⟨hw, _⟩ | ⟨hw, hu⟩
    · refine .inl ⟨hw, fun W hW => ?_⟩
      obtain ⟨us, hus, hue⟩ := quiet_out _ _ hsome (H ⟨W, hW⟩)
      obtain ⟨v', hv', h'⟩ := look hus hue him hi hd
      rcases h' with ⟨_, hq⟩ | ⟨hw', _⟩
      · rw [hv']; exact calmRun_of_quiet (G := ⟨W, hW⟩) (hq W ⟨⟨W, Below.refl _ _⟩, rfl⟩)
      · rw [hw] at hw'; cases hw'
    · exact .inr ⟨hw, by rw [hv, hu]⟩
/-- A new block among the first m: its slot, its value, what it holds. -/
structure NewS where
  t : Nat
  V : Nat → Value
  O : Obj
def relNew (ns : List NewS) (aE : Act) (t : Nat) : Value → Nat → Nat → World → Prop := match ns.find? (fun s => s.t == t) with
  | some s => fun v lo hi W => v = s.V lo ∧ lo + 1 = hi ∧ W.heap[lo]? = some s.O
  | none => isVI (aE.tmps.getD t undef)
def isNew (ns : List NewS) (o : Oper) : Bool := match o.dst with | none => false | some t => ns.any (·.t == t)
/-- No operation behind or at i fills what the i-th reads; no slot is filled twice; nothing reads a new block's slot; no guards. -/
def newB (l : List Oper) (m : Nat) (ns : List NewS) : Bool :=
  (l.take m).all (fun o => o.guard.isNone && (readsOf o).all fun u => !ns.any (·.t == u)) &&
  (List.range ((l.take m).filter (fun o => !isNew ns o)).length).all fun i => match ((l.take m).filter (fun o => !isNew ns o))[i]? with
    | none => true
    | some o => (List.range ((l.take m).filter (fun o => !isNew ns o)).length).all fun j => match ((l.take m).filter (fun o => !isNew ns o))[j]? with
      | none => true
      | some o' => (decide (j < i) || (readsOf o).all (fun u => !(o'.dst == some u))) && (decide (j ≤ i) || !(o'.dst == o.dst))
end
theorem relMap (f : Oper → Nat → (Value → Nat → Nat → World → Prop)) : ∀ (l : List Oper), (l.filterMap fun o => o.dst.map fun t => (t, f o t)).map (·.1) = l.filterMap (·.dst)
  | [] => rfl
  | o :: r => by
    cases hd : o.dst with
    | none => simp [hd, relMap f r]
    | some t => simp [hd, relMap f r]
theorem relOf_at (ns : List NewS) (aE : Act) (t : Nat) : ∀ (l : List Oper), (∃ o ∈ l, o.dst = some t) → relOfI (l.filterMap fun o => o.dst.map fun t => (t, relNew ns aE t)) t = relNew ns aE t
  | [], h => by obtain ⟨o, ho, _⟩ := h; cases ho
  | o :: r, h => by
    cases hd : o.dst with
    | none =>
      obtain ⟨o', ho', hd'⟩ := h
      have : o' ∈ r := by
        rcases List.mem_cons.1 ho' with e | e
        · rw [e, hd] at hd'; cases hd'
        · exact e
      simp only [List.filterMap_cons, hd, Option.map_none]
      exact relOf_at ns aE t r ⟨o', this, hd'⟩
    | some t' =>
      simp only [List.filterMap_cons, hd, Option.map_some]
      funext v lo hi W
      unfold relOfI
      by_cases e : t' = t
      · simp only [e, if_true]
      · simp only [if_neg e]
        obtain ⟨o', ho', hd'⟩ := h
        have : o' ∈ r := by
          rcases List.mem_cons.1 ho' with e2 | e2
          · rw [e2, hd] at hd'; exact (e (Option.some.inj hd')).elim
          · exact e2
        rw [relOf_at ns aE t r ⟨o', this, hd'⟩]
theorem puts_same (vs : List (Nat × Value)) : ∀ (a : Act) (t : Nat) (v : Value), t < a.tmps.size → (∃ kv ∈ vs, kv.1 = t) → (∀ kv ∈ vs, kv.1 = t → kv.2 = v) → (puts a vs).tmps.getD t undef = v := by
  induction vs with
  | nil => intro a t v _ h; obtain ⟨_, h, _⟩ := h; cases h
  | cons x r ih =>
    intro a t v ht h hv
    rw [puts]
    by_cases hr : ∃ kv ∈ r, kv.1 = t
    · exact ih _ t v (by rw [put_size]; exact ht) hr (fun kv hk => hv kv (List.mem_cons_of_mem _ hk))
    · obtain ⟨kv, hk, he⟩ := h
      rcases List.mem_cons.1 hk with e | e
      · subst e
        rw [puts_other t r _ (fun kv' hk' e' => hr ⟨kv', hk', e'⟩), he, put_get_same _ _ _ ht]
        exact hv kv (List.mem_cons_self ..) he
      · exact (hr ⟨kv, e, he⟩).elim
section
variable {P : Program} {Q : Exit → Act → World → Prop} {l : List Oper} {a0 aE : Act} {w : World}
/-- Values, and new blocks that nothing among the first m reads; behind them the others. -/
theorem region_qnew {id : Nat} (m : Nat) (ns : List NewS) (hm : P.follows .mixedOrders = true) (hml : m ≤ l.length)
    (chk : viaChk l m a0.tmps.size = true) (hnew : newB l m ns = true) (hns : ∀ s ∈ ns, ∃ o ∈ l.take m, o.dst = some s.t) 
    (hal : ∀ s ∈ ns, ∀ o ∈ l.take m, o.dst = some s.t → ∀ (ρ : Operand → Value) (W : World), (∀ u ∈ readsOf o, ρ (.tmp u) = aE.tmps.getD u undef) → (execOp ρ o).run P W = .ok (.value (s.V W.heap.size)) (W.alloc s.O))
    (H : ∀ G : Grow0 w, wpQuiet P l.toArray (fun w' => ∃ g : Grow w G, w' = g.W) (fun a' => a' = aE) ((l.take m).filter (fun o => !isNew ns o)) a0)
    (HQ : ∀ (g : Nat → Nat) (W : World), Below w.heap.size w W → (∀ s ∈ ns, w.heap.size ≤ g s.t ∧ W.heap[g s.t]? = some s.O) → (∀ s ∈ ns, ∀ s' ∈ ns, s.t ≠ s'.t → g s.t ≠ g s'.t) → wpList P l.toArray Q (l.drop m) (puts aE (ns.map fun s => (s.t, s.V (g s.t)))) W) :
    (Code.region id l.toArray true).wp P Q a0 w := by
  have geti : ∀ {i : Nat} {o : Oper}, (l.take m)[i]? = some o → i < m ∧ l[i]? = some o := fun {i o} hi => by
    rcases Nat.lt_or_ge i m with h | h
    · rw [List.getElem?_take_of_lt h] at hi; exact ⟨h, hi⟩
    · rw [List.getElem?_take_eq_none h] at hi; cases hi
  have hsome : ∀ o ∈ l.take m, ∃ t, o.dst = some t ∧ t < a0.tmps.size ∧ (∀ cs b, o.op ≠ .select cs b) := fun o ho => by
    obtain ⟨i, hi⟩ := List.getElem?_of_mem ho
    obtain ⟨him, hi⟩ := geti hi
    obtain ⟨t, ht, htN⟩ := ((viaChk_at chk hi).2.2.1 him).2.1
    exact ⟨t, ht, htN, (viaChk_at chk hi).1⟩
  unfold newB at hnew
  simp only [Bool.and_eq_true] at hnew
  obtain ⟨hn1, hn2⟩ := hnew
  rw [List.all_eq_true] at hn1
  generalize hr : (l.take m).filter (fun o => !isNew ns o) = r at *
  have hrm : ∀ o ∈ r, o ∈ l.take m ∧ isNew ns o = false := fun o ho => by rw [← hr] at ho; have := List.mem_filter.1 ho; exact ⟨this.1, by simpa using this.2⟩
  have hsome' : ∀ o ∈ r, o.dst ≠ none := fun o ho => by obtain ⟨t, ht, _⟩ := hsome o (hrm o ho).1; rw [ht]; exact fun h => by cases h
  have look : ∀ (W : World) (hW : Below w.heap.size w W) (o : Oper), o ∈ r → ∀ t, o.dst = some t → ∃ us, puts a0 us = aE ∧ (∀ kv ∈ us, ∃ o' ∈ r, o'.dst = some kv.1) ∧ calmAt P o aE.eval W (aE.tmps.getD t undef) := by
    intro W hW o ho t hd
    obtain ⟨us, hus, hue⟩ := quiet_out _ _ hsome' (H ⟨W, hW⟩)
    obtain ⟨i, hi⟩ := List.getElem?_of_mem ho
    obtain ⟨t', v, ai, hd', hy, hsz, hv, hread⟩ := QSteps.at _ _ _ hus i o hi
    rw [hd] at hd'; obtain rfl := Option.some.inj hd'
    rw [hue] at hv hread
    obtain ⟨t2, ht2, htN, hsel⟩ := hsome o (hrm o ho).1
    rw [hd] at ht2; obtain rfl := Option.some.inj ht2
    have hil : i < r.length := (List.getElem?_eq_some_iff.1 hi).1
    have h2 := List.all_eq_true.1 hn2 i (List.mem_range.2 hil)
    rw [hi] at h2
    simp only [List.all_eq_true] at h2
    have h3 : ∀ (j : Nat) (o' : Oper), r[j]? = some o' → (j < i ∨ ∀ u ∈ readsOf o, o'.dst ≠ some u) ∧ (j ≤ i ∨ o'.dst ≠ o.dst) := fun j o' hj => by
      have := h2 j (List.mem_range.2 (List.getElem?_eq_some_iff.1 hj).1)
      rw [hj] at this
      simp only [Bool.and_eq_true, Bool.or_eq_true, decide_eq_true_eq, List.all_eq_true] at this
      refine ⟨this.1.imp (fun h => h) (fun h u hu e => ?_), this.2.imp (fun h => h) (fun h e => ?_)⟩
      · have := h u hu; rw [e] at this; simp at this
      · rw [e] at h; simp at h
    have hval := hv htN (fun j o' hij hj e => by
      rcases (h3 j o' hj).2 with h | h
      · omega
      · exact h (by rw [e, hd]))
    have heq : execOp ai.eval o = execOp aE.eval o := execOp_congr o hsel (fun x hx => by
      cases x with
      | tmp u =>
        refine hread u (fun j o' hij hj hdu => ?_)
        rcases (h3 j o' hj).1 with h | h
        · omega
        · exact h u (List.mem_filterMap.2 ⟨.tmp u, by simpa using hx, rfl⟩) hdu
      | _ => rfl)
    have hg := hn1 o (hrm o ho).1
    simp only [Bool.and_eq_true, Option.isNone_iff_eq_none] at hg
    refine ⟨us, hue, fun kv hk => ?_, ?_⟩
    · obtain ⟨j, o', hj, hdj⟩ := QSteps.key _ _ _ hus kv hk
      exact ⟨o', List.mem_of_getElem? hj, hdj⟩
    · rcases hy with ⟨hw, hq⟩ | ⟨hw, hu⟩
      · have := hq W ⟨⟨W, Below.refl _ _⟩, rfl⟩
        unfold Oper.quietAt at this
        rw [heq] at this
        rw [hval]; exact calmRun_of_quiet (G := ⟨W, hW⟩) this
      · unfold Region.wanted at hw; rw [hg.1] at hw; cases hw
  obtain ⟨us0, hus0, hue0⟩ := quiet_out _ _ hsome' (H ⟨w, Below.refl _ _⟩)
  have hkeys : ∀ kv ∈ us0, ∃ o ∈ r, o.dst = some kv.1 := fun kv hk => by
    obtain ⟨j, o', hj, hdj⟩ := QSteps.key _ _ _ hus0 kv hk
    exact ⟨o', List.mem_of_getElem? hj, hdj⟩
  have hEs : aE.tmps.size = a0.tmps.size := by rw [← hue0, puts_size]
  have hEd : aE.defers = a0.defers := by rw [← hue0, puts_defers]
  -- what is not filled is as it was
  have hE0 : ∀ u, (∀ o ∈ l.take m, o.dst ≠ some u) → aE.tmps.getD u undef = a0.tmps.getD u undef := fun u hu => by
    rw [← hue0]
    exact puts_other u us0 a0 (fun kv hk e => by obtain ⟨o, ho, hd⟩ := hkeys kv hk; exact hu o (hrm o ho).1 (by rw [hd, e]))
  let rs := (l.take m).filterMap fun o => o.dst.map fun t => (t, relNew ns aE t)
  have hmap : rs.map (·.1) = (l.take m).filterMap (·.dst) := relMap (fun _ t => relNew ns aE t) _
  have hmem : ∀ t, (rs.map (·.1)).contains t = true ↔ ∃ o ∈ l.take m, o.dst = some t := fun t => by
    rw [hmap, List.contains_iff_mem, List.mem_filterMap]
  have hat : ∀ t, (∃ o ∈ l.take m, o.dst = some t) → relOfI rs t = relNew ns aE t := fun t ht => relOf_at ns aE t _ ht
  have hfind : ∀ t s, ns.find? (fun s => s.t == t) = some s → s ∈ ns ∧ s.t = t := fun t s h => ⟨List.mem_of_find?_eq_some h, by have := List.find?_some h; simpa using this⟩
  have hnone : ∀ t, ns.any (fun s => s.t == t) = false → ns.find? (fun s => s.t == t) = none := fun t h => by
    rw [List.find?_eq_none]
    intro s hs
    rw [List.any_eq_false] at h
    simpa using h s hs
  -- what an operation reads is at hand
  have reads : ∀ o ∈ l.take m, ∀ (a : Act) (W : World), (∀ u, (readsOf o).contains u = true → TakenI (rs.map (·.1)) (relOfI rs) a0 a W u) → ∀ u ∈ readsOf o, a.tmps.getD u undef = aE.tmps.getD u undef := fun o ho a W hT u hu => by
    obtain ⟨h1, h2⟩ := hT u (List.contains_iff_mem.2 hu)
    cases hc : (rs.map (·.1)).contains u with
    | true =>
      obtain ⟨lo, hi, hR⟩ := h1 hc
      rw [hat u ((hmem u).1 hc)] at hR
      have := hn1 o ho
      simp only [Bool.and_eq_true, List.all_eq_true] at this
      have h3 := this.2 u hu
      unfold relNew at hR
      rw [hnone u (by simpa using h3)] at hR
      exact hR
    | false =>
      rw [h2 hc]
      exact (hE0 u (fun o' ho' e => by rw [(hmem u).2 ⟨o', ho', e⟩] at hc; cases hc)).symm
  have readsE : ∀ o, (∀ cs b, o.op ≠ .select cs b) → ∀ a : Act, (∀ u ∈ readsOf o, a.tmps.getD u undef = aE.tmps.getD u undef) → execOp a.eval o = execOp aE.eval o := fun o hsel a h => execOp_congr o hsel (fun x hx => by
    cases x with
    | tmp u => exact h u (List.mem_filterMap.2 ⟨.tmp u, by simpa using hx, rfl⟩)
    | _ => rfl)
  refine region_relI (cp := []) m (rs.map (·.1)) (relOfI rs) hm hml chk rfl hmap.symm (fun t ht v lo hi W W' hR hb => ?_) ?_ (fun v lo hi W hW hv h1 h2 _ => ?_)
  · rw [hat t ((hmem t).1 ht)] at hR ⊢
    unfold relNew at hR ⊢
    cases hf : ns.find? (fun s => s.t == t) with
    | some s => rw [hf] at hR; exact ⟨hR.1, hR.2.1, (hb.block _ (Array.getElem?_eq_some_iff.1 hR.2.2).1).trans hR.2.2⟩
    | none => rw [hf] at hR; exact hR
  · have all : ∀ o ∈ l.take m, RelOkI [] P (rs.map (·.1)) (relOfI rs) Q a0 w o := by
      intro o ho
      obtain ⟨t, ht, htN, hsel⟩ := hsome o ho
      have hg := hn1 o ho
      simp only [Bool.and_eq_true, Option.isNone_iff_eq_none] at hg
      refine RelOkI.mk' t ht hg.1 rfl (fun a W hW hT => ?_)
      have hrd := reads o ho a W hT
      rw [hat t ⟨o, ho, ht⟩]
      cases hn : isNew ns o with
      | true =>
        unfold isNew at hn
        rw [ht] at hn
        simp only [List.any_eq_true, beq_iff_eq] at hn
        obtain ⟨s0, hs0, hst0⟩ := hn
        cases hf : ns.find? (fun s => s.t == t) with
        | none => rw [List.find?_eq_none] at hf; have := hf s0 hs0; simp [hst0] at this
        | some s =>
          obtain ⟨hs, hst⟩ := hfind t s hf
          refine rel_new (v := s.V W.heap.size) (hal s hs o ho (by rw [ht, hst]) a.eval W (fun u hu => hrd u hu)) (bal (Below.refl _ _) _) ?_
          unfold relNew
          rw [hf]
          exact ⟨rfl, by simp, heap_alloc_new _ _⟩
      | false =>
        have hor : o ∈ r := by rw [← hr]; exact List.mem_filter.2 ⟨ho, by rw [hn]; rfl⟩
        obtain ⟨us, _, _, hc⟩ := look W hW o hor t ht
        have hc' : calmAt P o a.eval W (aE.tmps.getD t undef) := by
          refine ⟨?_⟩; have hh := hc.out; unfold calmRun at hh ⊢; rw [readsE o hsel a hrd]; exact hh
        refine rel_calm hc' (fun W' hb => ?_)
        unfold relNew
        unfold isNew at hn
        rw [ht] at hn
        rw [hnone t hn]
        rfl
    exact (show ∀ k : List Oper, (∀ o ∈ k, RelOkI [] P (rs.map (·.1)) (relOfI rs) Q a0 w o) → AllR (RelOkI [] P (rs.map (·.1)) (relOfI rs) Q a0 w) k from fun k => by
      induction k with
      | nil => intro _; trivial
      | cons x k ih => intro h; exact ⟨h x (List.mem_cons_self ..), ih (fun o ho => h o (List.mem_cons_of_mem _ ho))⟩) _ all
  · have hone : ∀ s ∈ ns, v s.t = ((ns.find? (fun s' => s'.t == s.t)).getD s).V (lo s.t) ∧ lo s.t + 1 = hi s.t ∧ W.heap[lo s.t]? = some ((ns.find? (fun s' => s'.t == s.t)).getD s).O ∧ w.heap.size ≤ lo s.t := by
      intro s hs
      have hc := (hmem s.t).2 (hns s hs)
      have hR := hv s.t hc
      rw [hat s.t (hns s hs)] at hR
      unfold relNew at hR
      cases hf : ns.find? (fun s' => s'.t == s.t) with
      | none => rw [List.find?_eq_none] at hf; have := hf s hs; simp at this
      | some s' => rw [hf] at hR; exact ⟨hR.1, hR.2.1, hR.2.2, (h1 s.t hc).1⟩
    -- entries of one slot are one
    have huniq : ∀ s ∈ ns, ((ns.find? (fun s' => s'.t == s.t)).getD s).V = s.V ∧ ((ns.find? (fun s' => s'.t == s.t)).getD s).O = s.O := by
      intro s hs
      cases hf : ns.find? (fun s' => s'.t == s.t) with
      | none => exact ⟨rfl, rfl⟩
      | some s' =>
        obtain ⟨hs', hst⟩ := hfind s.t s' hf
        obtain ⟨o, ho, hd⟩ := hns s hs
        have e1 := fun (W0 : World) => hal s hs o ho hd aE.eval W0 (fun u hu => rfl)
        have e2 := fun (W0 : World) => hal s' hs' o ho (by rw [hd, hst]) aE.eval W0 (fun u hu => rfl)
        have e3 : ∀ W0 : World, s'.V W0.heap.size = s.V W0.heap.size ∧ W0.alloc s'.O = W0.alloc s.O := fun W0 => by
          have := (e2 W0).symm.trans (e1 W0)
          simp only [Result.ok.injEq, Next.value.injEq] at this
          exact this
        have e4 : s'.O = s.O := by
          have h5 : (W.alloc s'.O).heap[W.heap.size]? = (W.alloc s.O).heap[W.heap.size]? := by rw [(e3 W).2]
          rw [heap_alloc_new, heap_alloc_new] at h5
          exact Option.some.inj h5
        refine ⟨?_, e4⟩
        funext n
        have := (e3 { W with heap := Array.replicate n s.O }).1
        simpa using this
    have hq := HQ lo W hW (fun s hs => ⟨(hone s hs).2.2.2, by have := (hone s hs).2.2.1; rwa [(huniq s hs).2] at this⟩) (fun s hs s' hs' hne e => by
      have := h2 s.t s'.t ((hmem _).2 (hns s hs)) ((hmem _).2 (hns s' hs')) hne
      have h3 := (hone s hs).2.1
      have h4 := (hone s' hs').2.1
      omega)
    have ea : puts aE (ns.map fun s => (s.t, s.V (lo s.t))) = puts a0 ((rs.map (·.1)).map fun t => (t, v t)) := by
      refine act_ext _ _ (by rw [puts_defers, puts_defers]; exact hEd) (by rw [puts_size, puts_size]; exact hEs) (fun t ht => ?_)
      rw [puts_size, hEs] at ht
      by_cases hc : (rs.map (·.1)).contains t = true
      · rw [puts_vals v t _ a0 (List.contains_iff_mem.1 hc) ht]
        by_cases hn : ∃ s ∈ ns, s.t = t
        · obtain ⟨s, hs, rfl⟩ := hn
          refine puts_same _ _ _ _ (by rw [hEs]; exact ht) ⟨(s.t, s.V (lo s.t)), List.mem_map.2 ⟨s, hs, rfl⟩, rfl⟩ (fun kv hk he => ?_)
          obtain ⟨s', hs', rfl⟩ := List.mem_map.1 hk
          simp only at he ⊢
          rw [← he, (hone s' hs').1, (huniq s' hs').1]
        · rw [puts_other t _ _ (fun kv hk e => hn (by obtain ⟨s, hs, rfl⟩ := List.mem_map.1 hk; exact ⟨s, hs, e⟩))]
          have hR := hv t hc
          rw [hat t ((hmem t).1 hc)] at hR
          unfold relNew at hR
          rw [hnone t (by rw [List.any_eq_false]; intro s hs h; exact hn ⟨s, hs, by simpa using h⟩)] at hR
          exact hR.symm
      · rw [puts_other t _ a0 (fun kv hk e => hc (by obtain ⟨t', ht', rfl⟩ := List.mem_map.1 hk; rw [← e]; exact List.contains_iff_mem.2 ht'))]
        have hno : ∀ o ∈ l.take m, o.dst ≠ some t := fun o ho e => hc ((hmem t).2 ⟨o, ho, e⟩)
        rw [puts_other t _ aE (fun kv hk e => by obtain ⟨s, hs, rfl⟩ := List.mem_map.1 hk; obtain ⟨o, ho, hd⟩ := hns s hs; exact hno o ho (by rw [hd, ← e]))]
        exact hE0 t hno
    rw [← ea]
    exact hq
end
def AllNs {α : Type} (p : α → Prop) : List α → Prop
  | [] => True
  | s :: r => p s ∧ AllNs p r
theorem AllNs.spec {α : Type} {p : α → Prop} : ∀ (l : List α), AllNs p l → ∀ s ∈ l, p s
  | [], _, _, h => by cases h
  | x :: r, h, s, hs => by
    rcases List.mem_cons.1 hs with e | e
    · rw [e]; exact h.1
    · exact AllNs.spec r h.2 s e
theorem AllNs.of {α : Type} {p : α → Prop} : ∀ (l : List α), (∀ s ∈ l, p s) → AllNs p l
  | [], _ => trivial
  | x :: r, h => ⟨h x (List.mem_cons_self ..), AllNs.of r fun s hs => h s (List.mem_cons_of_mem _ hs)⟩
/-- A new cell at the i-th place: its slot, what it holds at first, its type. -/
structure CellS where
  i : Nat
  t : Nat
  Z : Array Value
  T : TypeId
def CellS.n (s : CellS) : NewS := ⟨s.t, fun g => .pointer (some ⟨g, 0, none⟩), .cells s.Z s.T⟩
def cellB (l : List Oper) (m : Nat) (ns : List CellS) : Bool := ns.all fun s => decide (s.i < m) && (l[s.i]?.any (·.dst == some s.t)) && (List.range m).all fun j => j == s.i || !(l[j]?.bind (·.dst) == some s.t)
section
variable {P : Program} {Q : Exit → Act → World → Prop} {l : List Oper} {a0 aE : Act} {w : World}
theorem region_qn {id : Nat} (m : Nat) (ns : List CellS) (hm : P.follows .mixedOrders = true) (hml : m ≤ l.length)
    (chk : viaChk l m a0.tmps.size = true) (hnew : newB l m (ns.map (·.n)) = true) (hcell : cellB l m ns = true)
    (hal : AllNs (fun s : CellS => ∀ o, l[s.i]? = some o → ∀ (ρ : Operand → Value) (W : World), (execOp ρ o).run P W = .ok (.value (.pointer (some ⟨W.heap.size, 0, none⟩))) (W.alloc (.cells s.Z s.T))) ns)
    (H : ∀ G : Grow0 w, wpQuiet P l.toArray (fun w' => ∃ g : Grow w G, w' = g.W) (fun a' => a' = aE) ((l.take m).filter (fun o => !isNew (ns.map (·.n)) o)) a0)
    (HQ : ∀ (g : Nat → Nat) (W : World), Below w.heap.size w W → AllNs (fun s : CellS => w.heap.size ≤ g s.t ∧ W.heap[g s.t]? = some (.cells s.Z s.T (0, 0))) ns → AllNs (fun s : CellS => AllNs (fun s' : CellS => s.t ≠ s'.t → g s.t ≠ g s'.t) ns) ns → wpList P l.toArray Q (l.drop m) (puts aE (ns.map fun s => (s.t, .pointer (some ⟨g s.t, 0, none⟩)))) W) :
    (Code.region id l.toArray true).wp P Q a0 w := by
  unfold cellB at hcell
  rw [List.all_eq_true] at hcell
  have at_ : ∀ s ∈ ns, s.i < m ∧ (∃ o, l[s.i]? = some o ∧ o.dst = some s.t) ∧ ∀ j o, j < m → l[j]? = some o → o.dst = some s.t → j = s.i := by
    intro s hs
    have h := hcell s hs
    simp only [Bool.and_eq_true, decide_eq_true_eq, List.all_eq_true] at h
    refine ⟨h.1.1, ?_, fun j o hj ho hd => ?_⟩
    · cases ho : l[s.i]? with
      | none => rw [ho] at h; simp at h
      | some o => rw [ho] at h; exact ⟨o, rfl, by have := h.1.2; simpa using this⟩
    · have := h.2 j (List.mem_range.2 hj)
      rw [ho] at this
      simpa [hd] using this
  have tk : ∀ o ∈ l.take m, ∃ j, j < m ∧ l[j]? = some o := fun o ho => by
    obtain ⟨j, hj, e⟩ := List.mem_take_iff_getElem.1 ho
    exact ⟨j, by omega, by rw [← e]; exact List.getElem?_eq_getElem (by omega)⟩
  refine region_qnew m (ns.map (·.n)) hm hml chk hnew (fun s hs => ?_) (fun s hs o ho hd ρ W _ => ?_) H (fun g W hW h1 h2 => ?_)
  · obtain ⟨c, hc, rfl⟩ := List.mem_map.1 hs
    obtain ⟨h1, ⟨o, ho, hd⟩, _⟩ := at_ c hc
    exact ⟨o, List.mem_take_iff_getElem.2 ⟨c.i, by have := (List.getElem?_eq_some_iff.1 ho).1; omega, (List.getElem?_eq_some_iff.1 ho).2⟩, hd⟩
  · obtain ⟨c, hc, rfl⟩ := List.mem_map.1 hs
    obtain ⟨j, hj, hjo⟩ := tk o ho
    have e := (at_ c hc).2.2 j o hj hjo hd
    exact AllNs.spec ns hal c hc o (by rw [← e]; exact hjo) ρ W
  · have := HQ g W hW (AllNs.of ns fun c hc => h1 c.n (List.mem_map.2 ⟨c, hc, rfl⟩)) (AllNs.of ns fun c hc => AllNs.of ns fun c' hc' hne => h2 c.n (List.mem_map.2 ⟨c, hc, rfl⟩) c'.n (List.mem_map.2 ⟨c', hc', rfl⟩) hne)
    rw [List.map_map]
    exact this
end
end Go.Proofs.Ytdiihhohaijcoaa
/- The first desk: both makings. -/
namespace Go.Proofs.Ytdiihhohaijcoaa
open Go.RowKit
set_option linter.unusedVariables false
set_option linter.unusedSimpArgs false
theorem run_loadRow {P : Program} {W : World} {g : Nat} {T : TypeId} {cs : Array Value} {fr : Nat × Nat} (ty : TypeId)
    (hg : W.heap[g]? = some (.cells cs T fr)) (n : Nat) (hn : cs.size = n) (hs : ∀ W, (sizeOf ty).run P W = .ok n W) (ha : ∀ W, (isAgg ty).run P W = .ok true W) : (loadVar ty ⟨g, 0, none⟩).run P W = .ok (.agg cs) W := by
  subst hn
  have hl : (loadCells ⟨g, 0, none⟩ cs.toList.length).run P W = .ok cs.toList.toArray W :=
    run_loadCells_list (P := P) W ⟨g, 0, none⟩ cs.toList (fun j v hv => by
      have hadd : (⟨g, 0, none⟩ : Addr).add j = ⟨g, j, none⟩ := by unfold Addr.add; split <;> simp_all
      rw [hadd, cell_of_row W g j cs T fr hg]
      simpa using hv)
  simp only [Array.length_toList, Array.toArray_toList] at hl
  unfold loadVar
  rw [Sem.run_bind, ha]
  simp only [Result.andThen_ok, if_true]
  rw [Sem.run_bind, hs]
  simp only [Result.andThen_ok]
  rw [Sem.run_bind, hl]
  rfl
theorem results_row {P : Program} {fn : Func} {tmps : Array Value} {t : Tmp} {W : World} {g : Nat} {T : TypeId} {cs : Array Value} {fr : Nat × Nat} {ty : TypeId} (h : fn.results = #[.cell t ty]) (ht : tmps.getD t undef = .pointer (some ⟨g, 0, none⟩))
    (hg : W.heap[g]? = some (.cells cs T fr)) (n : Nat) (hn : cs.size = n) (hs : ∀ W, (sizeOf ty).run P W = .ok n W) (ha : ∀ W, (isAgg ty).run P W = .ok true W) : (results fn tmps).run P W = .ok (.agg cs) W := by
  have hv := run_loadRow (P := P) ty hg n hn hs ha
  have ht' : tmps[t]?.getD undef = .pointer (some ⟨g, 0, none⟩) := by rw [← Array.getD_eq_getD_getElem?]; exact ht
  have hp : ∀ a : Addr, asAddr (.pointer (some a)) = pure a := fun _ => rfl
  simp [results, h, ht', hp, Sem.run_bind, Sem.run_pure, hv]
theorem wpList_store_row {P : Program} (w : World) {ops : Array Oper} {rest : List Oper} {o : Oper} {a : Act} {Q : Exit → Act → World → Prop}
    (hgd : o.guard = none) (ty : TypeId) (x y : Operand) (hop : o.op = .store ty x y) (hd : o.dst = none) {g : Nat} {T : TypeId} {cs U : Array Value} (hx : a.eval x = .pointer (some ⟨g, 0, none⟩)) (hy : a.eval y = .agg U)
    (hg : w.heap[g]? = some (.cells cs T (0, 0))) (hn : cs.size = U.size) (hs : ∀ W, (sizeOf ty).run P W = .ok U.size W) (h1 : ∀ v ∈ U.toList, v.oneCell' = true) (hK : wpList P ops Q rest a (w.setRow g U)) : wpList P ops Q (o :: rest) a w := by
  refine wpList_plain hgd fun K hK' => ?_
  unfold Oper.wp
  rw [run_store_row ty x y hop hx hy hg hn hs h1]
  simp only [Oper.upon, hd]
  exact hK' _ _ hK
theorem wpList_build {P : Program} (w : World) {ops : Array Oper} {rest : List Oper} {o : Oper} {a : Act} {Q : Exit → Act → World → Prop}
    (hgd : o.guard = none) (t : TypeId) (parts : Array (Nat × Operand)) (hop : o.op = .build t parts) (U : Array Value) (hb : P.built t (parts.map fun (i, x) => (i, a.eval x)).toList = some U)
    (hK : wpList P ops Q rest (a.put o.dst (.agg U)) w) : wpList P ops Q (o :: rest) a w := by
  refine wpList_plain hgd fun K hK' => wp_build t parts hop (by rw [hb]; rfl) ?_
  rw [hb]
  exact hK' _ _ hK
theorem hn_atN (w : World) (o : Obj) (n : Nat) (h : n = w.heap.size) : (w.alloc o).heap[n]? = some o := by subst h; exact heap_alloc_new w o
theorem hn_pastN (w : World) (o : Obj) (n : Nat) (h : n < w.heap.size) : (w.alloc o).heap[n]? = w.heap[n]? := by
  rw [heap_alloc_old]; exact h
theorem below_setRowN {B g : Nat} {w W : World} (h : Below B w W) (hg : B ≤ g) (cs : Array Value) : Below B w (W.setRow g cs) :=
  ⟨h.os, h.tape, h.output, by simpa [World.setRow] using h.size, fun k hk => (setRow_other W g k cs (by omega)).trans (h.block k hk)⟩
def deskC : Array Value := #[.int .i64 5, .int .i64 0, .int .i64 0, .int .i64 1, .int .i64 1, .int .i64 0, .int .i64 0, .int .i64 0, .int .i64 1, .int .i64 0, .int .i64 0, .int .i64 0, .int .i64 1, .int .i64 1, .int .i64 0, .int .i64 0, .int .i64 1, .int .i64 0, .int .i64 0, .int .i64 0, .int .i64 0, .int .i64 4]
def conC : Array Value := #[.int .i64 1, .int .i64 0, .int .i64 0, .int .i64 0, .int .i64 0, .int .i64 4]
end Go.Proofs.Ytdiihhohaijcoaa
/- The desks compared. -/
namespace Go.Proofs.Ytdiihhohaijcoaa
open Go.RowKit
set_option linter.unusedVariables false
set_option linter.unusedSimpArgs false
theorem calm_loadPt' {P : Program} {o : Oper} {ρ : Operand → Value} {W : World} {g off : Nat} {x y z : Int} (ty : TypeId) (q : Operand) (ho : o.op = .load ty q) (hx : ρ q = .pointer (some ⟨g, off, none⟩))
    (h0 : W.cell? ⟨g, off, none⟩ = some (.int .i64 x)) (h1 : W.cell? ⟨g, off + 1, none⟩ = some (.int .i64 y)) (h2 : W.cell? ⟨g, off + 2, none⟩ = some (.int .i64 z)) (hs : ∀ W, (sizeOf ty).run P W = .ok 3 W) (ha : ∀ W, (isAgg ty).run P W = .ok true W) : calmAt P o ρ W (ptV x y z) := by
  have hl : (loadCells ⟨g, off, none⟩ 3).run P W = .ok #[.int .i64 x, .int .i64 y, .int .i64 z] W :=
    run_loadCells_list (P := P) W ⟨g, off, none⟩ [.int .i64 x, .int .i64 y, .int .i64 z] (fun j v hv => by
      have hadd : ∀ j, (⟨g, off, none⟩ : Addr).add j = ⟨g, off + j, none⟩ := by intro j; unfold Addr.add; split <;> simp_all
      rw [hadd]
      match j, hv with
      | 0, hv => simpa using h0.trans (by simpa using hv)
      | 1, hv => exact h1.trans (by simpa using hv)
      | 2, hv => exact h2.trans (by simpa using hv)
      | j + 3, hv => simp at hv)
  have hv : (loadVar ty ⟨g, off, none⟩).run P W = .ok (ptV x y z) W := by
    unfold loadVar
    rw [Sem.run_bind, ha]
    simp only [Result.andThen_ok, if_true]
    rw [Sem.run_bind, hs]
    simp only [Result.andThen_ok]
    rw [Sem.run_bind, hl]
    rfl
  refine ⟨?_⟩
  unfold calmRun execOp
  simp only [ho, hx, Instr.loadAt, Instr.sureAddr, Sem.run_bind, Sem.run_pure, Result.andThen_ok, hv, and_self]
end Go.Proofs.Ytdiihhohaijcoaa
/- The law FnExactNewDesk: walked. -/
namespace Go.Proofs.Ytdiihhohaijcoaa
open Go.RowKit
set_option linter.unusedVariables false
set_option linter.unusedSimpArgs false
theorem wpList_load_row {P : Program} (w : World) {ops : Array Oper} {rest : List Oper} {o : Oper} {a : Act} {Q : Exit → Act → World → Prop}
    (hgd : o.guard = none) (ty : TypeId) (x : Operand) (hop : o.op = .load ty x) {g : Nat} {T : TypeId} {cs : Array Value} {fr : Nat × Nat} (hx : a.eval x = .pointer (some ⟨g, 0, none⟩))
    (hg : w.heap[g]? = some (.cells cs T fr)) (n : Nat) (hn : cs.size = n) (hs : ∀ W, (sizeOf ty).run P W = .ok n W) (ha : ∀ W, (isAgg ty).run P W = .ok true W) (hK : wpList P ops Q rest (a.put o.dst (.agg cs)) w) : wpList P ops Q (o :: rest) a w := by
  refine wpList_plain hgd fun K hK' => ?_
  have hv := run_loadRow (P := P) ty hg n hn hs ha
  have hr : (execOp a.eval o).run P w = .ok (.value (.agg cs)) w := by
    unfold execOp
    simp only [hop, hx, Instr.loadAt, Instr.sureAddr, Sem.run_bind, Sem.run_pure, Result.andThen_ok, hv]
  unfold Oper.wp
  rw [hr]
  simp only [Oper.upon]
  exact hK' _ _ hK
theorem alloc_setRow (w : World) (Z U : Array Value) (T : TypeId) : (w.alloc (.cells Z T)).setRow w.heap.size U = w.alloc (.cells U T) := by
  unfold World.setRow World.alloc
  congr 1
  apply Array.ext
  · simp
  · intro i h1 h2
    simp only [Array.getElem_modify, Array.getElem_push]
    by_cases e : i < w.heap.size
    · have : w.heap.size ≠ i := by omega
      simp [e, this]
    · have : w.heap.size = i := by simp at h2; omega
      simp [e, this]
end Go.Proofs.Ytdiihhohaijcoaa
/- Contracts: slices.Grow of no list; slices.Concat of the three rows of a map. -/
namespace Go.Proofs.Ytdiihhohaijcoaa
open Go.RowKit
set_option linter.unusedVariables false
set_option linter.unusedSimpArgs false
structure OwnI (base : Nat) (w : World) (l : List Int) (e : Ending) (w' : World) : Prop where
  out : ∃ v, e = .returned v ∧ w'.ownsRow base 2 1 v l.length (ints l) ∧ Below base w w'
theorem take3 (l : List Int) (k : Nat) (h : k + 2 < l.length) : l.take (k + 3) = l.take k ++ [l.getD k 0, l.getD (k + 1) 0, l.getD (k + 2) 0] := by
  rw [take_snoc' l 0 (k + 2) h, take_snoc' l 0 (k + 1) (by omega), take_snoc' l 0 k (by omega)]
  simp
theorem ints_app (a b : List Int) : ints (a ++ b) = ints a ++ ints b := by simp [ints]
theorem src3 {W : World} {g o : Nat} {x y z : Int} (d0 : W.cell? ⟨g, o, none⟩ = some (.int .i64 x)) (d1 : W.cell? ⟨g, o + 1, none⟩ = some (.int .i64 y)) (d2 : W.cell? ⟨g, o + 2, none⟩ = some (.int .i64 z)) :
    ∀ (j : Nat) (u : Value), [Value.int .i64 x, .int .i64 y, .int .i64 z][j]? = some u → W.cell? ((⟨g, o, none⟩ : Addr).add j) = some u := by
  intro j u hj
  have hadd : ∀ j, (⟨g, o, none⟩ : Addr).add j = ⟨g, o + j, none⟩ := by intro j; unfold Addr.add; split <;> simp_all
  rw [hadd]
  match j, hj with
  | 0, hj => simpa using d0.trans (by simpa using hj)
  | 1, hj => exact d1.trans (by simpa using hj)
  | 2, hj => exact d2.trans (by simpa using hj)
  | j + 3, hj => simp at hj
end Go.Proofs.Ytdiihhohaijcoaa
/- Contracts: the laws' own lists of points and lines, in one word; the laws' own figures. -/
namespace Go.Proofs.Ytdiihhohaijcoaa
open Go.RowKit
set_option linter.unusedVariables false
set_option linter.unusedSimpArgs false
/-- Laid with room behind. -/
structure LaidR (w : World) (n : Nat) (l : List Pt) (e : Ending) (w' : World) : Prop where
  out : ∃ g, e = .returned (.slice (some ⟨g, 0, none⟩) n (n + roomN n)) ∧ w.heap.size ≤ g ∧ g < w'.heap.size ∧ RoomP w' g (n + roomN n) 42 ∧ PtsAt w' g 0 (n + roomN n) (withRoomP l) ∧ Below w.heap.size w w'
structure LaidRL (w : World) (n : Nat) (l : List Pt) (e : Ending) (w' : World) : Prop where
  out : ∃ g, e = .returned (.slice (some ⟨g, 0, none⟩) n (n + roomN n)) ∧ w.heap.size ≤ g ∧ g < w'.heap.size ∧ RoomP w' g (n + roomN n) 25 ∧ PtsAt w' g 0 (n + roomN n) (withRoomP l) ∧ Below w.heap.size w w'
/-- Laid, or nil. -/
structure LaidB (w : World) (n : Nat) (l : List Pt) (e : Ending) (w' : World) : Prop where
  out : ∃ b c, e = .returned (.slice b n c) ∧ ListP w' b n l ∧ (∀ a o, b = some ⟨a, o, none⟩ → w.heap.size ≤ a) ∧ Below w.heap.size w w'
theorem laidR_list {w' : World} {g n : Nat} {l : List Pt} (hl : l.length = n) (h : PtsAt w' g 0 (n + roomN n) (withRoomP l)) : ListP w' (some ⟨g, 0, none⟩) n l := by
  subst hl
  exact listP_mk rfl (fun i hi => by have := h i (by omega); rwa [withRoomP_at l i hi] at this)
theorem toPointS_R (b : Option Addr) (n cap : Nat) (l : List Pt) (w : World) (hn : n ≤ 1000000) (h : ListP w b n l) :
    Calls Try.prog 8 #[.slice b n cap, .bool false] w (LaidR w n l) := by
  obtain ⟨rfl, hc⟩ := h
  exact (toPointS_any b l.length cap false l w rfl hn (.inl rfl) hc).mono fun e w' ⟨g, he, h1, h2, h3, h4⟩ => ⟨g, he, h1, h2.lt, h2, h3, h4⟩
theorem toPointS_B (b : Option Addr) (n cap : Nat) (l : List Pt) (w : World) (hn : n ≤ 1000000) (h : ListP w b n l) :
    Calls Try.prog 8 #[.slice b n cap, .bool true] w (LaidB w n l) := by
  rcases Nat.eq_zero_or_pos n with h0 | h0
  · subst h0
    obtain rfl := List.length_eq_zero_iff.1 h.1
    exact (toPointS_nil cap b w).mono fun e w' ⟨he, hw⟩ => ⟨none, 0, he, listP_nil, (fun _ _ h => by cases h), hw ▸ Below.refl _ _⟩
  · obtain ⟨rfl, hc⟩ := h
    exact (toPointS_any b l.length cap true l w rfl hn (.inr h0) hc).mono fun e w' ⟨g, he, h1, h2, h3, h4⟩ => ⟨_, _, he, laidR_list rfl h3, (fun _ _ h => by cases h; exact h1), h4⟩
end Go.Proofs.Ytdiihhohaijcoaa
/- Contracts: slices.Concat of two lists of points; the codes of two triples. -/
namespace Go.Proofs.Ytdiihhohaijcoaa
open Go.RowKit
set_option linter.unusedVariables false
set_option linter.unusedSimpArgs false
structure OwnP (base : Nat) (w : World) (n : Nat) (l : List Pt) (e : Ending) (w' : World) : Prop where
  out : ∃ v, e = .returned v ∧ w'.ownsRow base 42 3 v n (ptCs l) ∧ Below base w w'
set_option maxRecDepth 100000 in
theorem growP_pos (n : Nat) (w : World) (h0 : 0 < n) (hn : n ≤ 2000000) :
    Calls Try.prog 60 #[.slice none 0 0, .int .i64 (n : Int)] w (OwnP w.heap.size w 0 []) := by
  obtain ⟨i0, hi, hz0, hz1, hz2⟩ := info_parts infoPo
  have HI0 := Lib.hid hi; have HZ0 := Lib.hid hz0; have HZ1 := Lib.hid hz1; have HZ2 := Lib.hid hz2
  clear hi hz0 hz1 hz2
  have hnz : (0 : Int) < (n : Int) := by omega
  go_enter Try.func60, Try.ntmps60
  go_wp2_with (at_builtin; refine Lib.wpList_append_run _ rfl _ _ 28 3 rfl _ _ rfl rfl _ _ (Lib.run_append_nil_zeros _ 28 3 _ 42 i0 (.agg #[.int .i64 0, .int .i64 0, .int .i64 0]) .i64 .i64 Try.underlying28 Try.underlying3 HI0.out HZ0.out n h0 (by rw [HZ1.out]; omega) (by omega) (by rw [HZ2.out]; omega)) ?_)
  go_ret
  have hge := grownCap_ge w n 0 42
  have hle := grownCap_le_maxLen w n 0 42 (by unfold maxLen; omega)
  refine ⟨_, rfl, ⟨rfl, .inr ⟨w.heap.size, _, _, rfl, Nat.le_refl _, heap_alloc_new _ _, Nat.zero_le _, hle, ?_, rfl⟩⟩, bal (bdr (Below.refl _ _)) _⟩
  simp [Builtin.zeroCells, HZ1.out]
  omega
set_option maxRecDepth 100000 in
theorem growP_zero (w : World) :
    Calls Try.prog 60 #[.slice none 0 0, .int .i64 ((0 : Nat) : Int)] w (OwnP w.heap.size w 0 []) := by
  go_enter Try.func60, Try.ntmps60
  go_wp2
  go_ret
  exact ⟨_, rfl, ⟨rfl, .inl ⟨rfl, rfl⟩⟩, Below.refl _ _⟩
theorem growP_any (n : Nat) (w : World) (hn : n ≤ 2000000) :
    Calls Try.prog 60 #[.slice none 0 0, .int .i64 (n : Int)] w (OwnP w.heap.size w 0 []) := by
  rcases Nat.eq_zero_or_pos n with rfl | h
  · exact growP_zero w
  · exact growP_pos n w h hn
/-- A list: no list, or laid open at an address. -/
def ListC (w : World) (b : Option Addr) (n c : Nat) (l : List Pt) : Prop := l.length = n ∧ ((b = none ∧ n = 0 ∧ c = 0) ∨ ∃ g, b = some ⟨g, 0, none⟩ ∧ PtsAt w g 0 n l)
theorem ListC.below {w w1 : World} {b : Option Addr} {n c : Nat} {l : List Pt} (h : ListC w b n c l) (hb : Below w.heap.size w w1) : ListC w1 b n c l := by
  refine ⟨h.1, ?_⟩
  rcases h.2 with h0 | ⟨g, e, hp⟩
  · exact .inl h0
  · exact .inr ⟨g, e, hp.below hb⟩
theorem ListC.list {w : World} {b : Option Addr} {n c : Nat} {l : List Pt} (h : ListC w b n c l) : ListP w b n l := by
  rcases h.2 with ⟨rfl, rfl, rfl⟩ | ⟨g, rfl, hp⟩
  · exact ⟨h.1, fun h0 => absurd h0 (Nat.lt_irrefl _)⟩
  · exact ⟨h.1, fun _ => ⟨g, 0, rfl, hp⟩⟩
theorem ptCs_app (a b : List Pt) : ptCs (a ++ b) = ptCs a ++ ptCs b := by simp [ptCs]
theorem ptCs_one (l : List Pt) : ∀ u ∈ ptCs l, u.oneCell' = true := by
  intro u hu
  obtain ⟨a, _, hu⟩ := List.mem_flatMap.1 hu
  simp only [ptC, List.mem_cons, List.not_mem_nil, or_false] at hu
  rcases hu with rfl | rfl | rfl <;> rfl
theorem srcPts {W : World} {g o n : Nat} {l : List Pt} (hl : l.length = n) (h : PtsAt W g o n l) :
    ∀ (j : Nat) (u : Value), (ptCs l)[j]? = some u → W.cell? ((⟨g, o, none⟩ : Addr).add j) = some u := by
  intro j u hj
  have hadd : (⟨g, o, none⟩ : Addr).add j = ⟨g, o + j, none⟩ := by unfold Addr.add; split <;> simp_all
  rw [hadd]
  have hlt : j < (ptCs l).length := (List.getElem?_eq_some_iff.1 hj).1
  rw [ptCs_length] at hlt
  have hk : j / 3 < l.length := by omega
  obtain ⟨c0, c1, c2⟩ := ptCs_at l (j / 3) hk
  obtain ⟨d0, d1, d2⟩ := h (j / 3) (by omega)
  rcases (show j = j / 3 * 3 ∨ j = j / 3 * 3 + 1 ∨ j = j / 3 * 3 + 2 by omega) with e | e | e
  · rw [e] at hj ⊢; rw [hj] at c0; rw [c0]; exact d0
  · rw [e] at hj ⊢; rw [hj] at c1; rw [c1, ← Nat.add_assoc]; exact d1
  · rw [e] at hj ⊢; rw [hj] at c2; rw [c2, ← Nat.add_assoc]; exact d2
set_option maxRecDepth 100000 in
set_option maxHeartbeats 4000000 in
theorem concatP (h : Nat) (b1 b2 : Option Addr) (n1 c1 n2 c2 : Nat) (l1 l2 : List Pt) (w : World) (hn1 : n1 ≤ 1000000) (hn2 : n2 ≤ 1000000) (i1 : ListC w b1 n1 c1 l1) (i2 : ListC w b2 n2 c2 l2)
    (h0 : w.cell? ⟨h, 0, none⟩ = some (.slice b1 n1 c1)) (h1 : w.cell? ⟨h, 1, none⟩ = some (.slice b2 n2 c2)) :
    Calls Try.prog 48 #[.slice (some ⟨h, 0, none⟩) 2 2] w (OwnP w.heap.size w (n1 + n2) (l1 ++ l2)) := by
  obtain ⟨i0, hi, hz0, hz1, hz2⟩ := info_parts infoPo
  have HI0 := Lib.hid hi; have HZ0 := Lib.hid hz0; have HZ1 := Lib.hid hz1; have HZ2 := Lib.hid hz2
  have hhl : h < w.heap.size := World.block_lt_of_cell? w _ h0
  obtain ⟨S, hS⟩ : ∃ S : Int, (n1 : Int) + (n2 : Int) = S := ⟨_, rfl⟩
  have HGr : Hid (∀ W : World, Calls Try.prog 60 #[.slice none 0 0, .int .i64 S] W (OwnP W.heap.size W 0 [])) := Lib.hid (fun (W : World) => by have := growP_any (n1 + n2) W (by omega); rwa [Int.natCast_add, hS] at this)
  have HC1 := Lib.hid i1
  have HC2 := Lib.hid i2
  have w1 : IntKind.wrap .i64 (n1 : Int) = (n1 : Int) := by simp [IntKind.wrap, IntKind.signed, IntKind.bits]; omega
  have w2 : IntKind.wrap .i64 ((n1 : Int) + (n2 : Int)) = S := by rw [← hS]; simp [IntKind.wrap, IntKind.signed, IntKind.bits]; omega
  have p1 : ¬ ((n1 : Int) < 0) := by omega
  have p2 : ¬ (S < 0) := by omega
  clear hS hi hz0 hz1 hz2 i1 i2
  go_enter Try.func48, Try.ntmps48
  go_wp2
  go_loop [3, 11] (fun s i => (i = .int .i64 0 ∧ s = .int .i64 0) ∨ (i = .int .i64 1 ∧ s = .int .i64 (n1 : Int)) ∨ (i = .int .i64 2 ∧ s = .int .i64 S)) (fun _ i => 3 - (intOf i).toNat)
  case atStart => exact .inl ⟨rfl, rfl⟩
  case round =>
    rcases hrel with ⟨rfl, rfl⟩ | ⟨rfl, rfl⟩ | ⟨rfl, rfl⟩
    · go_wp2
      go_round
      case rel => exact .inr (.inl ⟨rfl, rfl⟩)
      case measure => simp [intOf]
    · go_wp2
      go_round
      case rel => exact .inr (.inr ⟨rfl, rfl⟩)
      case measure => simp [intOf]
    · go_wp2_with (go_at_call 60; (with_reducible refine (HGr.out _).mono ?_); rintro e w1 ⟨v1, rfl, ho, hb⟩; have HO1 := Lib.hid ho; have HB1 := Lib.hid hb; have hs1 := hb.size; clear ho hb)
      have e0 : w1.cell? ⟨h, 0, none⟩ = some (.slice b1 n1 c1) := (HB1.out.cell hhl).trans h0
      go_loopw [6, 27] (fun v i wr => ∃ k : Nat, k ≤ 2 ∧ i = .int .i64 k ∧ Hid (wr.ownsRow w.heap.size 42 3 v (if k = 0 then 0 else if k = 1 then n1 else n1 + n2) (ptCs (if k = 0 then [] else if k = 1 then l1 else l1 ++ l2))) ∧ Hid (Below w.heap.size w wr)) (fun _ i wr => 3 - (intOf i).toNat)
      case atStart => exact ⟨0, by omega, rfl, HO1, HB1⟩
      case round =>
        clear HO1 HB1 hs1 e0
        obtain ⟨k, hk, rfl, HO, HB⟩ := hrel
        rcases (show k = 0 ∨ k = 1 ∨ k = 2 by omega) with rfl | rfl | rfl
        · clear hk
          have s0 : wr.cell? ⟨h, 0, none⟩ = some (.slice b1 n1 c1) := (HB.out.cell hhl).trans h0
          have ho : wr.ownsRow w.heap.size 42 3 u6 0 (ptCs []) := HO.out
          have HO0 := Lib.hid ho
          clear ho HO
          have hl1 := HC1.out.1
          rcases (HC1.out.below HB.out).2 with ⟨rfl, rfl, rfl⟩ | ⟨g1, rfl, hp⟩
          · have el : l1 = [] := List.length_eq_zero_iff.1 hl1
            go_wp2_with (at_builtin; refine wpList_append_own_none rfl _ _ 28 rfl w.heap.size 42 i0 3 Try.underlying28 HI0.out _ _ _ rfl HO0.out rfl ?_)
            go_roundw
            case rel => exact ⟨1, by omega, rfl, Lib.hid (by simp only [el]; exact HO0.out), HB⟩
            case measure => simp [intOf]
          · have HPt := Lib.hid hp
            clear hp
            go_wp2_with (at_builtin; refine wpList_append_own _ rfl _ _ 28 rfl w.heap.size 42 i0 (.agg #[.int .i64 0, .int .i64 0, .int .i64 0]) 3 24 Try.underlying28 HI0.out HZ0.out HZ1.out HZ2.out rfl (by decide) _ _ _ rfl HO0.out ⟨g1, 0, none⟩ n1 c1 (ptCs l1) rfl (by rw [ptCs_length, hl1]) (srcPts hl1 HPt.out) (ptCs_one _) (by unfold maxLen; omega) (by omega) HB.out.size ?_; intro v2 w2 hown hgrow _; have HO2 := Lib.hid hown; have HG := Lib.hid hgrow; clear hown hgrow)
            go_roundw
            case rel => exact ⟨1, by omega, rfl, Lib.hid (by have := HO2.out; simpa [ptCs] using this), Lib.hid (HB.out.grown HG.out HB.out.size (fun k' hk' => own_base' HO0.out k' hk'))⟩
            case measure => simp [intOf]
        · clear hk
          have s0 : wr.cell? ⟨h, 1, none⟩ = some (.slice b2 n2 c2) := (HB.out.cell hhl).trans h1
          have ho : wr.ownsRow w.heap.size 42 3 u6 n1 (ptCs l1) := HO.out
          have HO0 := Lib.hid ho
          clear ho HO
          have hl2 := HC2.out.1
          rcases (HC2.out.below HB.out).2 with ⟨rfl, rfl, rfl⟩ | ⟨g1, rfl, hp⟩
          · have el : l2 = [] := List.length_eq_zero_iff.1 hl2
            go_wp2_with (at_builtin; refine wpList_append_own_none rfl _ _ 28 rfl w.heap.size 42 i0 3 Try.underlying28 HI0.out _ _ _ rfl HO0.out rfl ?_)
            go_roundw
            case rel => exact ⟨2, by omega, rfl, Lib.hid (by simp only [el, List.append_nil, Nat.add_zero]; exact HO0.out), HB⟩
            case measure => simp [intOf]
          · have HPt := Lib.hid hp
            clear hp
            go_wp2_with (at_builtin; refine wpList_append_own _ rfl _ _ 28 rfl w.heap.size 42 i0 (.agg #[.int .i64 0, .int .i64 0, .int .i64 0]) 3 24 Try.underlying28 HI0.out HZ0.out HZ1.out HZ2.out rfl (by decide) _ _ _ rfl HO0.out ⟨g1, 0, none⟩ n2 c2 (ptCs l2) rfl (by rw [ptCs_length, hl2]) (srcPts hl2 HPt.out) (ptCs_one _) (by unfold maxLen; omega) (by omega) HB.out.size ?_; intro v2 w2 hown hgrow _; have HO2 := Lib.hid hown; have HG := Lib.hid hgrow; clear hown hgrow)
            go_roundw
            case rel => exact ⟨2, by omega, rfl, Lib.hid (by show World.ownsRow _ _ _ _ _ (n1 + n2) (ptCs (l1 ++ l2)); rw [ptCs_app]; exact HO2.out), Lib.hid (HB.out.grown HG.out HB.out.size (fun k' hk' => own_base' HO0.out k' hk'))⟩
            case measure => simp [intOf]
        · have ho : wr.ownsRow w.heap.size 42 3 u6 (n1 + n2) (ptCs (l1 ++ l2)) := HO.out
          have HOh := Lib.hid ho
          clear ho HO
          go_wp2
          go_ret
          exact ⟨_, rfl, HOh.out, HB.out⟩
theorem own_listC {W : World} {base : Nat} {v : Value} {l : List Pt} {n : Nat} (h : W.ownsRow base 42 3 v n (ptCs l)) (hl : l.length = n) : ∃ b c, v = .slice b n c ∧ ListC W b n c l := by
  rcases h.2 with ⟨rfl, rfl⟩ | ⟨g, cap, cur, rfl, hb, hg, hle, _, hsz, htk⟩
  · exact ⟨none, 0, rfl, hl, .inl ⟨rfl, rfl, rfl⟩⟩
  · refine ⟨_, _, rfl, hl, .inr ⟨g, rfl, ?_⟩⟩
    intro i hi
    obtain ⟨c0, c1, c2⟩ := ptCs_at l i (by omega)
    have key : ∀ j u, (ptCs l)[j]? = some u → W.cell? ⟨g, j, none⟩ = some u := fun j u hj => by
      rw [cell_of_row W g j _ _ _ hg]
      rw [← htk, List.getElem?_take] at hj
      split at hj
      · simpa using hj
      · cases hj
    simp only [Nat.zero_add]
    exact ⟨key _ _ c0, key _ _ c1, key _ _ c2⟩
theorem pointsCode_nil (p : Int) (w : World) : Calls Try.prog 34 #[.int .i64 p, .slice none 0 0] w (Ret w (.int .i64 (codeOf p true))) := by
  cases hp : prB p with
  | false =>
    have HP := Lib.hid hp; clear hp
    go_enter Try.func34, Try.ntmps34
    go_wp2_with (go_at_call 53; refine (planeCode_no _ _ _ HP.out).mono ?_; rintro e w' ⟨rfl, rfl⟩)
    go_ret
    exact ⟨ret_int (codeOf_no _ HP.out).symm, (by repeat (first | exact Below.refl _ _ | refine bset ?_ _ _ (by omega) _ | refine bal ?_ _ | refine bdrN ?_ _ | refine bdr ?_))⟩
  | true =>
    have HP := Lib.hid hp; clear hp
    go_enter Try.func34, Try.ntmps34
    go_wp2_with (first
      | (go_at_call 43; refine (isPrime_yes _ _ HP.out).mono ?_; rintro e w' ⟨rfl, rfl⟩)
      | (go_at_call 53; go_in)
      | (go_at_call 54; go_in)
      | (go_at_call 55; (with_reducible refine (arePoints_zero _ _ _ _).mono ?_); rintro e w2_ ⟨rfl, hb2⟩; obtain ⟨hcb2, hfb2, hlb2⟩ := bcell hb2; have hsz2 := hb2.size; (try simp at hsz2); have HB2 := Lib.hid hb2; clear hb2; (try (have hl02 : w.heap.size < w2_.heap.size := by omega)); (try (have hl12 : w.heap.size + 1 < w2_.heap.size := by omega))))
    go_ret
    exact ⟨ret_int (codeOf_t HP.out).symm, (by repeat (first | exact Below.refl _ _ | refine bset ?_ _ _ (by omega) _ | refine bal ?_ _ | refine bdrN ?_ _ | refine bdr ?_ | refine below_tr' ?_ HB2.out))⟩
theorem pointsCode_C (p : Int) (b : Option Addr) (n c : Nat) (l : List Pt) (w : World) (hn : n ≤ 4611686018427387904) (h : ListC w b n c l) :
    Calls Try.prog 34 #[.int .i64 p, .slice b n c] w (Ret w (.int .i64 (codeOf p (ptsB p l)))) := by
  rcases h.2 with ⟨rfl, rfl, rfl⟩ | ⟨g, rfl, hp⟩
  · obtain rfl := List.length_eq_zero_iff.1 h.1
    exact pointsCode_nil p w
  · exact pointsCode_any p g 0 n c l w h.1 hn hp
theorem ptsB_app (p : Int) (a b : List Pt) : ptsB p (a ++ b) = (ptsB p a && ptsB p b) := by simp [ptsB]
/-- The code of two triples. -/
def threesR (p : Int) (n1 n2 : Nat) (l1 l2 : List Pt) : Int := if codeOf p (ptsB p l1 && ptsB p l2) ≠ 0 then codeOf p (ptsB p l1 && ptsB p l2) else if n1 = 3 ∧ n2 = 3 then 0 else 2
set_option maxHeartbeats 2000000 in
theorem threesCode_any (p : Int) (b1 b2 : Option Addr) (n1 c1 n2 c2 : Nat) (l1 l2 : List Pt) (w : World) (hn1 : n1 ≤ 1000000) (hn2 : n2 ≤ 1000000) (i1 : ListC w b1 n1 c1 l1) (i2 : ListC w b2 n2 c2 l2) :
    Calls Try.prog 26 #[.int .i64 p, .slice b1 n1 c1, .slice b2 n2 c2] w (Ret w (.int .i64 (threesR p n1 n2 l1 l2))) := by
  have hl1 := i1.1
  have hl2 := i2.1
  have HC := Lib.hid (fun (h : Nat) (W : World) (hW : Below w.heap.size w W) h0 h1 => concatP h b1 b2 n1 c1 n2 c2 l1 l2 W hn1 hn2 (i1.below hW) (i2.below hW) h0 h1)
  have HP : Hid (∀ (b : Option Addr) (c : Nat) (W : World), ListC W b (n1 + n2) c (l1 ++ l2) → Calls Try.prog 34 #[.int .i64 p, .slice b (n1 + n2) c] W (Ret W (.int .i64 (codeOf p (ptsB p l1 && ptsB p l2))))) :=
    Lib.hid (fun b c W h => by rw [← ptsB_app]; exact pointsCode_C p b (n1 + n2) c (l1 ++ l2) W (by omega) h)
  have HR : threesR p n1 n2 l1 l2 = if codeOf p (ptsB p l1 && ptsB p l2) ≠ 0 then codeOf p (ptsB p l1 && ptsB p l2) else if n1 = 3 ∧ n2 = 3 then 0 else 2 := rfl
  generalize threesR p n1 n2 l1 l2 = r at *
  generalize codeOf p (ptsB p l1 && ptsB p l2) = k at *
  have HLn := Lib.hid (show (l1 ++ l2).length = n1 + n2 by rw [List.length_append, hl1, hl2])
  clear i1 i2
  have HRR := Lib.hid HR
  clear HR
  by_cases hk : k = 0
  · subst hk
    by_cases h3 : n1 = 3
    · by_cases h4 : n2 = 3
      · have hr : Hid (r = 0) := Lib.hid (by rw [HRR.out]; simp [h3, h4])
        clear HRR
        have q1 : ((n1 : Int) != 3) = false := bnef (by omega)
        have q2 : ((n2 : Int) != 3) = false := bnef (by omega)
        clear h3 h4
        go_enter Try.func26, Try.ntmps26
        go_wp2_with (first
          | (go_at_call 48; refine (HC.out _ _ (bal (Below.refl _ _) _) (by rw [cell_of_row _ _ 0 _ _ _ (heap_alloc_new _ _)]; rfl) (by rw [cell_of_row _ _ 1 _ _ _ (heap_alloc_new _ _)]; rfl)).mono ?_; rintro e w1_ ⟨v, rfl, ho, hb⟩; obtain ⟨b, c, rfl, hl⟩ := own_listC ho HLn.out; have HB1 := Lib.hid hb; have HL := Lib.hid hl; clear ho hb hl)
          | (go_at_call 34; (with_reducible refine (HP.out _ _ _ HL.out).mono ?_); rintro e w2_ ⟨rfl, hb2⟩; obtain ⟨hcb2, hfb2, hlb2⟩ := bcell hb2; have hsz2 := hb2.size; (try simp at hsz2); have HB2 := Lib.hid hb2; clear hb2))
        go_ret
        exact ⟨ret_int hr.out.symm, (by repeat (first | exact Below.refl _ _ | refine bset ?_ _ _ (by omega) _ | refine bal ?_ _ | refine bdrN ?_ _ | refine bdr ?_ | refine below_tr' ?_ HB2.out | refine below_tr' ?_ HB1.out))⟩
      · have hr : Hid (r = 2) := Lib.hid (by rw [HRR.out]; simp [h3, h4])
        clear HRR
        have q1 : ((n1 : Int) != 3) = false := bnef (by omega)
        have q2 : ((n2 : Int) != 3) = true := bnet (by omega)
        clear h3 h4
        go_enter Try.func26, Try.ntmps26
        go_wp2_with (first
          | (go_at_call 48; refine (HC.out _ _ (bal (Below.refl _ _) _) (by rw [cell_of_row _ _ 0 _ _ _ (heap_alloc_new _ _)]; rfl) (by rw [cell_of_row _ _ 1 _ _ _ (heap_alloc_new _ _)]; rfl)).mono ?_; rintro e w1_ ⟨v, rfl, ho, hb⟩; obtain ⟨b, c, rfl, hl⟩ := own_listC ho HLn.out; have HB1 := Lib.hid hb; have HL := Lib.hid hl; clear ho hb hl)
          | (go_at_call 34; (with_reducible refine (HP.out _ _ _ HL.out).mono ?_); rintro e w2_ ⟨rfl, hb2⟩; obtain ⟨hcb2, hfb2, hlb2⟩ := bcell hb2; have hsz2 := hb2.size; (try simp at hsz2); have HB2 := Lib.hid hb2; clear hb2))
        go_ret
        exact ⟨ret_int hr.out.symm, (by repeat (first | exact Below.refl _ _ | refine bset ?_ _ _ (by omega) _ | refine bal ?_ _ | refine bdrN ?_ _ | refine bdr ?_ | refine below_tr' ?_ HB2.out | refine below_tr' ?_ HB1.out))⟩
    · have hr : Hid (r = 2) := Lib.hid (by rw [HRR.out]; simp [h3])
      clear HRR
      have q1 : ((n1 : Int) != 3) = true := bnet (by omega)
      clear h3
      go_enter Try.func26, Try.ntmps26
      go_wp2_with (first
        | (go_at_call 48; refine (HC.out _ _ (bal (Below.refl _ _) _) (by rw [cell_of_row _ _ 0 _ _ _ (heap_alloc_new _ _)]; rfl) (by rw [cell_of_row _ _ 1 _ _ _ (heap_alloc_new _ _)]; rfl)).mono ?_; rintro e w1_ ⟨v, rfl, ho, hb⟩; obtain ⟨b, c, rfl, hl⟩ := own_listC ho HLn.out; have HB1 := Lib.hid hb; have HL := Lib.hid hl; clear ho hb hl)
        | (go_at_call 34; (with_reducible refine (HP.out _ _ _ HL.out).mono ?_); rintro e w2_ ⟨rfl, hb2⟩; obtain ⟨hcb2, hfb2, hlb2⟩ := bcell hb2; have hsz2 := hb2.size; (try simp at hsz2); have HB2 := Lib.hid hb2; clear hb2))
      go_ret
      exact ⟨ret_int hr.out.symm, (by repeat (first | exact Below.refl _ _ | refine bset ?_ _ _ (by omega) _ | refine bal ?_ _ | refine bdrN ?_ _ | refine bdr ?_ | refine below_tr' ?_ HB2.out | refine below_tr' ?_ HB1.out))⟩
  · have hr : Hid (r = k) := Lib.hid (by rw [HRR.out, if_pos hk])
    clear HRR
    have q0 : (k == 0) = false := beqf hk
    go_enter Try.func26, Try.ntmps26
    go_wp2_with (first
      | (go_at_call 48; refine (HC.out _ _ (bal (Below.refl _ _) _) (by rw [cell_of_row _ _ 0 _ _ _ (heap_alloc_new _ _)]; rfl) (by rw [cell_of_row _ _ 1 _ _ _ (heap_alloc_new _ _)]; rfl)).mono ?_; rintro e w1_ ⟨v, rfl, ho, hb⟩; obtain ⟨b, c, rfl, hl⟩ := own_listC ho HLn.out; have HB1 := Lib.hid hb; have HL := Lib.hid hl; clear ho hb hl)
      | (go_at_call 34; (with_reducible refine (HP.out _ _ _ HL.out).mono ?_); rintro e w2_ ⟨rfl, hb2⟩; obtain ⟨hcb2, hfb2, hlb2⟩ := bcell hb2; have hsz2 := hb2.size; (try simp at hsz2); have HB2 := Lib.hid hb2; clear hb2))
    go_ret
    exact ⟨ret_int hr.out.symm, (by repeat (first | exact Below.refl _ _ | refine bset ?_ _ _ (by omega) _ | refine bal ?_ _ | refine bdrN ?_ _ | refine bdr ?_ | refine below_tr' ?_ HB2.out | refine below_tr' ?_ HB1.out))⟩
theorem threesR_zero {p : Int} {n1 n2 : Nat} {l1 l2 : List Pt} (h : threesR p n1 n2 l1 l2 = 0) : prB p = true ∧ ptsB p l1 = true ∧ ptsB p l2 = true ∧ n1 = 3 ∧ n2 = 3 := by
  unfold threesR at h
  by_cases hk : codeOf p (ptsB p l1 && ptsB p l2) = 0
  · obtain ⟨h1, h2⟩ := code_zero hk
    simp only [Bool.and_eq_true] at h2
    rw [if_neg (by simpa using hk)] at h
    by_cases h3 : n1 = 3 ∧ n2 = 3
    · exact ⟨h1, h2.1, h2.2, h3.1, h3.2⟩
    · rw [if_neg h3] at h; cases h
  · rw [if_pos hk] at h; exact (hk h).elim
theorem threesR_eq (p : Int) (n1 n2 : Nat) (l1 l2 : List Pt) : threesR p n1 n2 l1 l2 = if codeOf p (ptsB p l1) ≠ 0 then codeOf p (ptsB p l1) else if codeOf p (ptsB p l2) ≠ 0 then codeOf p (ptsB p l2) else if n1 = 3 ∧ n2 = 3 then 0 else 2 := by
  unfold threesR codeOf
  cases prB p <;> cases ptsB p l1 <;> cases ptsB p l2 <;> simp
set_option maxHeartbeats 2000000 in
theorem l09Threes_any (p : Int) (b1 b2 : Option Addr) (n1 c1 n2 c2 : Nat) (l1 l2 : List Pt) (w : World) (hn1 : n1 ≤ 1000000) (hn2 : n2 ≤ 1000000) (i1 : ListC w b1 n1 c1 l1) (i2 : ListC w b2 n2 c2 l2) :
    Calls Try.prog 19 #[.int .i64 p, .slice b1 n1 c1, .slice b2 n2 c2] w (Ret w (.int .i64 (threesR p n1 n2 l1 l2))) := by
  have H1 := Lib.hid (fun (W : World) (hW : Below w.heap.size w W) => l01Code_list p b1 n1 c1 l1 W hn1 (i1.below hW).list)
  have H2 := Lib.hid (fun (W : World) (hW : Below w.heap.size w W) => l01Code_list p b2 n2 c2 l2 W hn2 (i2.below hW).list)
  have HRR := Lib.hid (threesR_eq p n1 n2 l1 l2)
  generalize threesR p n1 n2 l1 l2 = r at *
  generalize codeOf p (ptsB p l1) = k1 at *
  generalize codeOf p (ptsB p l2) = k2 at *
  clear i1 i2
  have tok : True := trivial
  by_cases hk : k1 = 0
  · subst hk
    by_cases hk2 : k2 = 0
    · subst hk2
      by_cases h3 : n1 = 3
      · have q1 : ((n1 : Int) != 3) = false := bnef (by omega)
        by_cases h4 : n2 = 3
        · have hr : Hid (r = 0) := Lib.hid (by rw [HRR.out]; simp [h3, h4])
          have q2 : ((n2 : Int) != 3) = false := bnef (by omega)
          clear HRR h3 h4
          go_enter Try.func19, Try.ntmps19
          go_wp2_with (first
            | (have _t := tok; (go_at_call 32; (with_reducible refine (H1.out _ (Below.refl _ _)).mono ?_); rintro e w1_ ⟨rfl, hb1⟩; obtain ⟨hcb1, hfb1, hlb1⟩ := bcell hb1; have hsz1 := hb1.size; (try simp at hsz1); have HB1 := Lib.hid hb1; clear hb1); clear tok)
            | (go_at_call 32; (with_reducible refine (H2.out _ HB1.out).mono ?_); rintro e w2_ ⟨rfl, hb2⟩; obtain ⟨hcb2, hfb2, hlb2⟩ := bcell hb2; have hsz2 := hb2.size; (try simp at hsz2); have HB2 := Lib.hid hb2; clear hb2))
          go_ret
          exact ⟨ret_int hr.out.symm, (by repeat (first | exact Below.refl _ _ | refine bset ?_ _ _ (by omega) _ | refine bal ?_ _ | refine bdrN ?_ _ | refine bdr ?_ | refine below_tr' ?_ HB2.out | refine below_tr' ?_ HB1.out))⟩
        · have hr : Hid (r = 2) := Lib.hid (by rw [HRR.out]; simp [h3, h4])
          have q2 : ((n2 : Int) != 3) = true := bnet (by omega)
          clear HRR h3 h4
          go_enter Try.func19, Try.ntmps19
          go_wp2_with (first
            | (have _t := tok; (go_at_call 32; (with_reducible refine (H1.out _ (Below.refl _ _)).mono ?_); rintro e w1_ ⟨rfl, hb1⟩; obtain ⟨hcb1, hfb1, hlb1⟩ := bcell hb1; have hsz1 := hb1.size; (try simp at hsz1); have HB1 := Lib.hid hb1; clear hb1); clear tok)
            | (go_at_call 32; (with_reducible refine (H2.out _ HB1.out).mono ?_); rintro e w2_ ⟨rfl, hb2⟩; obtain ⟨hcb2, hfb2, hlb2⟩ := bcell hb2; have hsz2 := hb2.size; (try simp at hsz2); have HB2 := Lib.hid hb2; clear hb2))
          go_ret
          exact ⟨ret_int hr.out.symm, (by repeat (first | exact Below.refl _ _ | refine bset ?_ _ _ (by omega) _ | refine bal ?_ _ | refine bdrN ?_ _ | refine bdr ?_ | refine below_tr' ?_ HB2.out | refine below_tr' ?_ HB1.out))⟩
      · have hr : Hid (r = 2) := Lib.hid (by rw [HRR.out]; simp [h3])
        have q1 : ((n1 : Int) != 3) = true := bnet (by omega)
        clear HRR h3
        go_enter Try.func19, Try.ntmps19
        go_wp2_with (first
          | (have _t := tok; (go_at_call 32; (with_reducible refine (H1.out _ (Below.refl _ _)).mono ?_); rintro e w1_ ⟨rfl, hb1⟩; obtain ⟨hcb1, hfb1, hlb1⟩ := bcell hb1; have hsz1 := hb1.size; (try simp at hsz1); have HB1 := Lib.hid hb1; clear hb1); clear tok)
          | (go_at_call 32; (with_reducible refine (H2.out _ HB1.out).mono ?_); rintro e w2_ ⟨rfl, hb2⟩; obtain ⟨hcb2, hfb2, hlb2⟩ := bcell hb2; have hsz2 := hb2.size; (try simp at hsz2); have HB2 := Lib.hid hb2; clear hb2))
        go_ret
        exact ⟨ret_int hr.out.symm, (by repeat (first | exact Below.refl _ _ | refine bset ?_ _ _ (by omega) _ | refine bal ?_ _ | refine bdrN ?_ _ | refine bdr ?_ | refine below_tr' ?_ HB2.out | refine below_tr' ?_ HB1.out))⟩
    · have hr : Hid (r = k2) := Lib.hid (by rw [HRR.out]; simp [hk2])
      have q2 : (k2 != 0) = true := bnet hk2
      clear HRR
      go_enter Try.func19, Try.ntmps19
      go_wp2_with (first
        | (have _t := tok; (go_at_call 32; (with_reducible refine (H1.out _ (Below.refl _ _)).mono ?_); rintro e w1_ ⟨rfl, hb1⟩; obtain ⟨hcb1, hfb1, hlb1⟩ := bcell hb1; have hsz1 := hb1.size; (try simp at hsz1); have HB1 := Lib.hid hb1; clear hb1); clear tok)
        | (go_at_call 32; (with_reducible refine (H2.out _ HB1.out).mono ?_); rintro e w2_ ⟨rfl, hb2⟩; obtain ⟨hcb2, hfb2, hlb2⟩ := bcell hb2; have hsz2 := hb2.size; (try simp at hsz2); have HB2 := Lib.hid hb2; clear hb2))
      go_ret
      exact ⟨ret_int hr.out.symm, (by repeat (first | exact Below.refl _ _ | refine bset ?_ _ _ (by omega) _ | refine bal ?_ _ | refine bdrN ?_ _ | refine bdr ?_ | refine below_tr' ?_ HB2.out | refine below_tr' ?_ HB1.out))⟩
  · have hr : Hid (r = k1) := Lib.hid (by rw [HRR.out]; simp [hk])
    have q2 : (k1 != 0) = true := bnet hk
    clear HRR
    go_enter Try.func19, Try.ntmps19
    go_wp2_with (go_at_call 32; (with_reducible refine (H1.out _ (Below.refl _ _)).mono ?_); rintro e w1_ ⟨rfl, hb1⟩; obtain ⟨hcb1, hfb1, hlb1⟩ := bcell hb1; have hsz1 := hb1.size; (try simp at hsz1); have HB1 := Lib.hid hb1; clear hb1)
    go_ret
    exact ⟨ret_int hr.out.symm, (by repeat (first | exact Below.refl _ _ | refine bset ?_ _ _ (by omega) _ | refine bal ?_ _ | refine bdrN ?_ _ | refine bdr ?_ | refine below_tr' ?_ HB1.out))⟩
end Go.Proofs.Ytdiihhohaijcoaa
/- Plain words: a fourth harmonic point: the points it is made with are there. -/
namespace Go.Proofs.Ytdiihhohaijcoaa
set_option linter.unusedVariables false
set_option linter.unusedSimpArgs false
def headP (l : List Pt) : Pt := l.headD (0, 0, 0)
theorem head_at {f : Pt → Bool} {l : List Pt} {k : Nat} (h : ∀ a ∈ l.take k, f a = false) (hk : k < l.length) (hf : f (l.getD k (0, 0, 0)) = true) : headP (l.filter f) = l.getD k (0, 0, 0) := by
  have e : l = l.take k ++ (l.getD k (0, 0, 0) :: l.drop (k + 1)) := by
    have h1 : l.getD k (0, 0, 0) = l[k] := by simp [List.getD, hk]
    rw [h1, List.getElem_cons_drop, List.take_append_drop]
  generalize l.getD k (0, 0, 0) = d at *
  generalize l.take k = t at *
  generalize l.drop (k + 1) = r at *
  subst e
  rw [List.filter_append, List.filter_eq_nil_iff.2 (fun a ha => by rw [h a ha]; decide), List.nil_append, List.filter_cons, if_pos hf]
  rfl
theorem nodup3 : (allP 3).Nodup := by decide +kernel
theorem nodup5 : (allP 5).Nodup := by decide +kernel
theorem nodup7 : (allP 7).Nodup := by decide +kernel
theorem nodup11 : (allP 11).Nodup := by decide +kernel
theorem nodup13 : (allP 13).Nodup := by decide +kernel
theorem nodup_allP {n : Nat} (hp : prB (n : Int) = true) : (allP n).Nodup := by
  have h := prB_cases hp
  have : n = 3 ∨ n = 5 ∨ n = 7 ∨ n = 11 ∨ n = 13 := by omega
  rcases this with rfl | rfl | rfl | rfl | rfl
  · exact nodup3
  · exact nodup5
  · exact nodup7
  · exact nodup11
  · exact nodup13
/-- Of three different things one is neither of two. -/
theorem third {l : List Pt} (h : l.Nodup) (hl : 3 ≤ l.length) (a b : Pt) : ∃ x ∈ l, x ≠ a ∧ x ≠ b := by
  match l, hl with
  | x :: y :: z :: r, _ =>
    simp only [List.nodup_cons, List.mem_cons, not_or] at h
    obtain ⟨⟨xy, xz, _⟩, ⟨yz, _⟩, _⟩ := h
    by_cases hx : x = a ∨ x = b
    · by_cases hy : y = a ∨ y = b
      · refine ⟨z, by simp, ?_, ?_⟩
        · rintro rfl; rcases hx with rfl | rfl <;> rcases hy with rfl | rfl <;> simp_all
        · rintro rfl; rcases hx with rfl | rfl <;> rcases hy with rfl | rfl <;> simp_all
      · exact ⟨y, by simp, fun e => hy (.inl e), fun e => hy (.inr e)⟩
    · exact ⟨x, by simp, fun e => hx (.inl e), fun e => hx (.inr e)⟩
theorem allP_pt {n : Nat} (hp : prB (n : Int) = true) {a : Pt} (h : a ∈ allP n) : ptB (n : Int) a.1 a.2.1 a.2.2 = true := by
  have hb := prB_bd hp
  have mk : ∀ a b c : Int, (0 ≤ a ∧ a ≤ (n : Int) - 1) → (0 ≤ b ∧ b ≤ (n : Int) - 1) → (0 ≤ c ∧ c ≤ (n : Int) - 1) → (a = 1 ∨ (a = 0 ∧ b = 1) ∨ (a = 0 ∧ b = 0 ∧ c = 1)) → ptB (n : Int) a b c = true := by
    intro a b c ha hb hc hd
    unfold ptB normB numsB
    simp only [hp, Bool.true_and, Bool.and_eq_true, List.all_cons, List.all_nil, Bool.and_true, numB_iff]
    refine ⟨?_, ha, hb, hc⟩
    rcases hd with rfl | ⟨rfl, rfl⟩ | ⟨rfl, rfl, rfl⟩ <;> rfl
  simp only [allP, pB, pA, pR, List.mem_append, List.mem_cons, List.mem_map, List.mem_range, List.mem_flatMap] at h
  rcases h with (rfl | ⟨z, hz, rfl⟩) | ⟨y, hy, z, hz, rfl⟩
  · exact mk 0 0 1 (by omega) (by omega) (by omega) (.inr (.inr ⟨rfl, rfl, rfl⟩))
  · exact mk 0 1 z (by omega) (by omega) (by omega) (.inr (.inl ⟨rfl, rfl⟩))
  · exact mk 1 y z (by omega) (by omega) (by omega) (.inl rfl)
theorem mod_fac (p f x : Int) : ∃ q, x % p * f % p = x * f - p * q := by
  refine ⟨x / p * f + (x % p * f) / p, ?_⟩
  have h1 := Int.emod_add_mul_ediv x p
  have h2 := Int.emod_add_mul_ediv (x % p * f) p
  generalize x / p = q1 at *
  generalize (x % p * f) / p = q2 at *
  generalize x % p * f % p = r2 at *
  grind
/-- A point lies on each line through it. -/
theorem on_crsN (p : Int) (a b : Pt) : onB p a (crsN p a b) = true ∧ onB p b (crsN p a b) = true := by
  obtain ⟨a0, a1, a2⟩ := a
  obtain ⟨b0, b1, b2⟩ := b
  unfold onB crsN nrm3 crs
  simp only
  generalize facL p _ = f
  obtain ⟨q0, e0⟩ := mod_fac p f (a1 * b2 - a2 * b1)
  obtain ⟨q1, e1⟩ := mod_fac p f (a2 * b0 - a0 * b2)
  obtain ⟨q2, e2⟩ := mod_fac p f (a0 * b1 - a1 * b0)
  rw [e0, e1, e2]
  simp only [beq_iff_eq]
  refine ⟨Int.emod_eq_zero_of_dvd ⟨-(a0 * q0 + a1 * q1 + a2 * q2), ?_⟩, Int.emod_eq_zero_of_dvd ⟨-(b0 * q0 + b1 * q1 + b2 * q2), ?_⟩⟩
  · grind
  · grind
/-- The first point off the line of a and b. -/
def quadR1 (n : Nat) (a b : Pt) : Pt := headP ((allP n).filter (fun x => !onB (n : Int) x (crsN n a b)))
/-- The first point of the line of a and r that is neither. -/
def quadS (n : Nat) (a r : Pt) : Pt := headP ((allP n).filter (fun x => onB (n : Int) x (crsN n a r) && (!eqP x a && !eqP x r)))
/-- The fourth harmonic point, and the code. -/
def quadR (p : Int) (a b c : Pt) : Pt × Int :=
  if codeOf p (ptsB p [a, b, c]) ≠ 0 then ((0, 0, 0), codeOf p (ptsB p [a, b, c])) else
  if threeB p a b c = false then ((0, 0, 0), 5) else
  let r := quadR1 p.toNat a b
  let s := quadS p.toNat a r
  let t := crsN p (crsN p b s) (crsN p c r)
  let u := crsN p (crsN p b r) (crsN p a t)
  (crsN p (crsN p a b) (crsN p s u), 0)
/-- What both programs lean on: the two points are found. -/
theorem quad_facts {n : Nat} {a b : Pt} (ha : ptB (n : Int) a.1 a.2.1 a.2.2 = true) (hb : ptB (n : Int) b.1 b.2.1 b.2.2 = true) (hab : eqP a b = false) :
    (∃ x ∈ allP n, onB (n : Int) x (crsN n a b) = false) ∧ ∃ x ∈ allP n, (onB (n : Int) x (crsN n a (quadR1 n a b)) = true ∧ x ≠ a ∧ x ≠ quadR1 n a b) := by
  have hp := (pt_facts ha).1
  have hl := crsN_pt ha hb hab
  have h1 := (line_facts hl).2
  refine ⟨h1, ?_⟩
  have hr : quadR1 n a b ∈ (allP n).filter (fun x => !onB (n : Int) x (crsN n a b)) := by
    unfold quadR1 headP
    obtain ⟨x, hx, hx2⟩ := h1
    have : x ∈ (allP n).filter (fun x => !onB (n : Int) x (crsN n a b)) := List.mem_filter.2 ⟨hx, by rw [hx2]; rfl⟩
    cases hh : (allP n).filter (fun x => !onB (n : Int) x (crsN n a b)) with
    | nil => rw [hh] at this; cases this
    | cons y r => simp
  obtain ⟨hr1, hr2⟩ := List.mem_filter.1 hr
  have hne : eqP a (quadR1 n a b) = false := by
    cases he : eqP a (quadR1 n a b) with
    | false => rfl
    | true =>
      have e := eqP_iff.1 he
      rw [← e, (on_crsN (n : Int) a b).1] at hr2
      cases hr2
  have hs := crsN_pt ha (allP_pt hp hr1) hne
  obtain ⟨x, hx, h2⟩ := third ((nodup_allP hp).filter _) (Nat.le_trans (by decide) (line_facts hs).1) a (quadR1 n a b)
  obtain ⟨hx1, hx2⟩ := List.mem_filter.1 hx
  exact ⟨x, hx1, hx2, h2⟩
end Go.Proofs.Ytdiihhohaijcoaa
/- Plain words: numbers modulo a prime, cross products, and why Pappus' meets are different. -/
namespace Go.Proofs.Ytdiihhohaijcoaa
set_option linter.unusedVariables false
set_option linter.unusedSimpArgs false
theorem mul_dvd {p x y : Int} (hp : prB p = true) (h : p ∣ x * y) (hx : ¬ p ∣ x) : p ∣ y := by
  obtain ⟨h3, h13⟩ := prB_bd hp
  have h0 : 0 < x % p := by
    have h1 := Int.emod_nonneg x (show p ≠ 0 by omega)
    rcases Int.lt_or_eq_of_le h1 with h2 | h2
    · exact h2
    · exact (hx (Int.dvd_of_emod_eq_zero h2.symm)).elim
  have hs := (invP_spec hp h0 (Int.emod_lt_of_pos x (by omega))).2.2.1
  obtain ⟨q, hq⟩ := h
  have e1 := Int.emod_add_mul_ediv x p
  have e2 := Int.emod_add_mul_ediv (x % p * invP p (x % p)) p
  rw [hs] at e2
  generalize x % p * invP p (x % p) / p = k2 at *
  generalize invP p (x % p) = i at *
  generalize x / p = k1 at *
  generalize x % p = r at *
  exact ⟨i * q - k1 * i * y - k2 * y, by grind⟩
theorem mul_nd {p x y : Int} (hp : prB p = true) (hx : ¬ p ∣ x) (hy : ¬ p ∣ y) : ¬ p ∣ x * y := fun h => hy (mul_dvd hp h hx)
def dotI (a b : Pt) : Int := a.1 * b.1 + a.2.1 * b.2.1 + a.2.2 * b.2.2
/-- Not 0 modulo p. -/
def nzV (p : Int) (v : Pt) : Prop := ¬ (p ∣ v.1 ∧ p ∣ v.2.1 ∧ p ∣ v.2.2)
theorem nz_dot {p : Int} {v : Pt} (w : Pt) (h : ¬ p ∣ dotI w v) : nzV p v := by
  rintro ⟨⟨a, h1⟩, ⟨b, h2⟩, ⟨c, h3⟩⟩
  refine h ⟨w.1 * a + w.2.1 * b + w.2.2 * c, ?_⟩
  unfold dotI
  rw [h1, h2, h3]
  grind
/-- v is k times w, modulo p. -/
def cg (p k : Int) (v w : Pt) : Prop := p ∣ v.1 - k * w.1 ∧ p ∣ v.2.1 - k * w.2.1 ∧ p ∣ v.2.2 - k * w.2.2
theorem cg_refl (p : Int) (v : Pt) : cg p 1 v v := ⟨⟨0, by grind⟩, ⟨0, by grind⟩, ⟨0, by grind⟩⟩
theorem dvd_pair {p k x y k' x' y' : Int} (h : p ∣ x - k * x') (h' : p ∣ y - k' * y') : p ∣ x * y - k * k' * (x' * y') := by
  obtain ⟨a, ha⟩ := h
  obtain ⟨b, hb⟩ := h'
  exact ⟨a * y + k * x' * b, by grind⟩
theorem dvd_sub2 {p a b K a' b' : Int} (h : p ∣ a - K * a') (h' : p ∣ b - K * b') : p ∣ (a - b) - K * (a' - b') := by
  obtain ⟨u, hu⟩ := h
  obtain ⟨v, hv⟩ := h'
  exact ⟨u - v, by grind⟩
theorem cg_crs {p k k' : Int} {x y x' y' : Pt} (h : cg p k x x') (h' : cg p k' y y') : cg p (k * k') (crs x y) (crs x' y') := by
  obtain ⟨h1, h2, h3⟩ := h
  obtain ⟨g1, g2, g3⟩ := h'
  refine ⟨dvd_sub2 (dvd_pair h2 g3) ?_, dvd_sub2 (dvd_pair h3 g1) ?_, dvd_sub2 (dvd_pair h1 g2) ?_⟩
  · exact dvd_pair h3 g2
  · exact dvd_pair h1 g3
  · exact dvd_pair h2 g1
theorem cg_trans {p k l : Int} {v w u : Pt} (h : cg p k v w) (h' : cg p l w u) : cg p (k * l) v u := by
  have one : ∀ {a b c : Int}, p ∣ a - k * b → p ∣ b - l * c → p ∣ a - k * l * c := by
    rintro a b c ⟨x, hx⟩ ⟨y, hy⟩
    exact ⟨x + k * y, by grind⟩
  exact ⟨one h.1 h'.1, one h.2.1 h'.2.1, one h.2.2 h'.2.2⟩
theorem cg_dot {p k : Int} {v w : Pt} (a : Pt) (h : cg p k v w) : p ∣ dotI a v - k * dotI a w := by
  obtain ⟨⟨x, hx⟩, ⟨y, hy⟩, ⟨z, hz⟩⟩ := h
  exact ⟨a.1 * x + a.2.1 * y + a.2.2 * z, by unfold dotI; grind⟩
/-- Made normal, a vector is a multiple of itself, and no multiple by 0 if it is not 0. -/
theorem cg_nrm {p : Int} (hp : prB p = true) (v : Pt) : cg p (facL p [v.1, v.2.1, v.2.2]) (nrm3 p v.1 v.2.1 v.2.2) v := by
  obtain ⟨q0, e0⟩ := mod_fac p (facL p [v.1, v.2.1, v.2.2]) v.1
  obtain ⟨q1, e1⟩ := mod_fac p (facL p [v.1, v.2.1, v.2.2]) v.2.1
  obtain ⟨q2, e2⟩ := mod_fac p (facL p [v.1, v.2.1, v.2.2]) v.2.2
  refine ⟨⟨-q0, ?_⟩, ⟨-q1, ?_⟩, ⟨-q2, ?_⟩⟩
  · show v.1 % p * _ % p - _ = _; rw [e0]; grind
  · show v.2.1 % p * _ % p - _ = _; rw [e1]; grind
  · show v.2.2 % p * _ % p - _ = _; rw [e2]; grind
theorem fac_nd {p : Int} (hp : prB p = true) {v : Pt} (h : nzV p v) : ¬ p ∣ facL p [v.1, v.2.1, v.2.2] := by
  have hb := prB_bd hp
  have h0 : facL p [v.1, v.2.1, v.2.2] ≠ 0 := by
    intro e
    rw [facL_zero hp] at e
    have hz := firstNZ_eq_zero.1 e
    simp [zerosB] at hz
    exact h ⟨Int.dvd_of_emod_eq_zero hz.1, Int.dvd_of_emod_eq_zero hz.2.1, Int.dvd_of_emod_eq_zero hz.2.2⟩
  have h1 := firstNZ_mod_bd p [v.1, v.2.1, v.2.2] (by omega)
  have h2 : facL p [v.1, v.2.1, v.2.2] < p ∧ 0 ≤ facL p [v.1, v.2.1, v.2.2] := by
    unfold facL at h0 ⊢
    by_cases hz : firstNZ ([v.1, v.2.1, v.2.2].map (· % p)) = 0
    · rw [hz, invP_zero p (by omega)] at h0; exact (h0 rfl).elim
    · have := invP_spec hp (by omega) h1.2; omega
  intro hd
  have := Int.le_of_dvd (by omega) hd
  omega
theorem cg_crsN {p : Int} (hp : prB p = true) {a b : Pt} (h : nzV p (crs a b)) : ∃ f, ¬ p ∣ f ∧ cg p f (crsN p a b) (crs a b) := ⟨_, fac_nd hp h, cg_nrm hp (crs a b)⟩
/-- Not on the line: not 0 with the raw product. -/
theorem off_nd {p : Int} (hp : prB p = true) {a b d : Pt} (h : onB p d (crsN p a b) = false) : ¬ p ∣ dotI d (crs a b) := by
  intro hd
  have h1 := cg_dot d (cg_nrm hp (crs a b))
  have h2 : p ∣ dotI d (crsN p a b) := by
    obtain ⟨x, hx⟩ := h1
    obtain ⟨y, hy⟩ := hd
    rw [hy] at hx
    exact ⟨x + facL p [(crs a b).1, (crs a b).2.1, (crs a b).2.2] * y, by unfold crsN; grind⟩
  have h3 : onB p d (crsN p a b) = true := by
    unfold onB
    rw [beq_iff_eq]
    exact Int.emod_eq_zero_of_dvd h2
  rw [h3] at h; cases h
/-- The line through a and c, of three collinear points, is that through a and b. -/
theorem off_other {p : Int} (hp : prB p = true) {a b c d : Pt} (h : ¬ p ∣ dotI d (crs a b)) (hc : p ∣ detZ a b c) (hz : nzV p (crs a c)) : ¬ p ∣ dotI d (crs a c) := by
  rintro ⟨q, hq⟩
  obtain ⟨k, hk⟩ := hc
  have e : ∀ x y : Int, True := fun _ _ => trivial
  -- (d · v) u − (d · u) v is 0, where u × v is
  refine hz ⟨mul_dvd hp ?_ h, mul_dvd hp ?_ h, mul_dvd hp ?_ h⟩
  · refine ⟨q * (crs a b).1 - k * (d.2.1 * a.2.2 - d.2.2 * a.2.1), ?_⟩
    have : dotI d (crs a b) * (crs a c).1 = dotI d (crs a c) * (crs a b).1 - detZ a b c * (d.2.1 * a.2.2 - d.2.2 * a.2.1) := by unfold dotI crs detZ; simp only; grind
    rw [this, hq, hk]; grind
  · refine ⟨q * (crs a b).2.1 - k * (d.2.2 * a.1 - d.1 * a.2.2), ?_⟩
    have : dotI d (crs a b) * (crs a c).2.1 = dotI d (crs a c) * (crs a b).2.1 - detZ a b c * (d.2.2 * a.1 - d.1 * a.2.2) := by unfold dotI crs detZ; simp only; grind
    rw [this, hq, hk]; grind
  · refine ⟨q * (crs a b).2.2 - k * (d.1 * a.2.1 - d.2.1 * a.1), ?_⟩
    have : dotI d (crs a b) * (crs a c).2.2 = dotI d (crs a c) * (crs a b).2.2 - detZ a b c * (d.1 * a.2.1 - d.2.1 * a.1) := by unfold dotI crs detZ; simp only; grind
    rw [this, hq, hk]; grind
def comb (s : Int) (e : Pt) (t : Int) (a : Pt) : Pt := (s * e.1 - t * a.1, s * e.2.1 - t * a.2.1, s * e.2.2 - t * a.2.2)
theorem crs_crs (a e w : Pt) : crs (crs a e) w = comb (dotI a w) e (dotI e w) a := by
  unfold comb crs dotI
  simp only [Prod.mk.injEq]
  refine ⟨?_, ?_, ?_⟩ <;> grind
theorem dot_crs_comb (a e f : Pt) (s t s' t' : Int) : dotI a (crs (comb s e t a) (comb s' f t' a)) = s * s' * dotI a (crs e f) := by
  unfold comb crs dotI
  simp only
  grind
theorem dot_comb (w e a : Pt) (s t : Int) (h : dotI w a = 0) : dotI w (comb s e t a) = s * dotI w e := by
  unfold comb dotI at *
  simp only
  grind
/-- The two meets are different: no two of them span nothing. -/
theorem meets_ne {p : Int} (hp : prB p = true) {a b c d e f : Pt} (h1 : ¬ p ∣ dotI a (crs b d)) (h2 : ¬ p ∣ dotI a (crs c d)) (h3 : ¬ p ∣ dotI a (crs e f)) :
    nzV p (crs (crsN p (crsN p a e) (crsN p b d)) (crsN p (crsN p a f) (crsN p c d))) := by
  have h3' : ¬ p ∣ dotI f (crs a e) := by rwa [show dotI f (crs a e) = dotI a (crs e f) by unfold dotI crs; simp only; grind]
  have h3'' : ¬ p ∣ dotI e (crs a f) := by
    rintro ⟨q, hq⟩
    exact h3 ⟨-q, by rw [show dotI a (crs e f) = - dotI e (crs a f) by unfold dotI crs; simp only; grind, hq]; grind⟩
  obtain ⟨α1, n1, c1⟩ := cg_crsN hp (nz_dot f h3')
  obtain ⟨β1, n2, c2⟩ := cg_crsN hp (nz_dot a h1)
  obtain ⟨α2, n3, c3⟩ := cg_crsN hp (nz_dot e h3'')
  obtain ⟨β2, n4, c4⟩ := cg_crsN hp (nz_dot a h2)
  have r1 := cg_crs c1 c2
  have r2 := cg_crs c3 c4
  rw [crs_crs] at r1 r2
  generalize dotI e (crs b d) = t1 at *
  generalize dotI f (crs c d) = t2 at *
  generalize dotI a (crs b d) = s1 at *
  generalize dotI a (crs c d) = s2 at *
  have nz1 : nzV p (crs (crsN p a e) (crsN p b d)) := by
    refine nz_dot (crs f a) (fun hd => ?_)
    have hc := cg_dot (crs f a) r1
    rw [dot_comb _ _ _ _ _ (by unfold dotI crs; simp only; grind)] at hc
    have hx : ¬ p ∣ α1 * β1 * (s1 * dotI (crs f a) e) := mul_nd hp (mul_nd hp n1 n2) (mul_nd hp h1 (by rwa [show dotI (crs f a) e = dotI a (crs e f) by unfold dotI crs; simp only; grind]))
    exact hx ((Int.dvd_iff_dvd_of_dvd_sub hc).1 hd)
  have nz2 : nzV p (crs (crsN p a f) (crsN p c d)) := by
    refine nz_dot (crs e a) (fun hd => ?_)
    have hc := cg_dot (crs e a) r2
    rw [dot_comb _ _ _ _ _ (by unfold dotI crs; simp only; grind)] at hc
    have hx : ¬ p ∣ α2 * β2 * (s2 * dotI (crs e a) f) := mul_nd hp (mul_nd hp n3 n4) (mul_nd hp h2 (by
      rintro ⟨q, hq⟩
      exact h3 ⟨-q, by rw [show dotI a (crs e f) = - dotI (crs e a) f by unfold dotI crs; simp only; grind, hq]; grind⟩))
    exact hx ((Int.dvd_iff_dvd_of_dvd_sub hc).1 hd)
  obtain ⟨φ1, m1, g1⟩ := cg_crsN hp nz1
  obtain ⟨φ2, m2, g2⟩ := cg_crsN hp nz2
  have R := cg_dot a (cg_crs (cg_trans g1 r1) (cg_trans g2 r2))
  rw [dot_crs_comb] at R
  refine nz_dot a (fun hd => ?_)
  exact mul_nd hp (mul_nd hp (mul_nd hp m1 (mul_nd hp n1 n2)) (mul_nd hp m2 (mul_nd hp n3 n4))) (mul_nd hp (mul_nd hp h1 h2) h3) ((Int.dvd_iff_dvd_of_dvd_sub R).1 hd)
end Go.Proofs.Ytdiihhohaijcoaa
