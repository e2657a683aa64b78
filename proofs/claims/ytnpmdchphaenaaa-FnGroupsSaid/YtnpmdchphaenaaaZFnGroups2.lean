/- Texts of the claim, in build order: RegQ, W3, W8, N1, N2, N3, W9, Pts, Arr, A1, RegS, B1, C1, C2, C3, C4, C5, C6, C7, C8, C9, D1, F1, F2, H0, E1, H1, G1, G2, G1L, G2L, K1, K2, K3, M1, G3, P2, F3, P1. No condition. -/
import Derived.BigQuiet
import Derived.Laws.IdiomCopy
import Derived.BigRegion
import Derived.RegionTactic
import Derived.ChangeKeysEq
import Derived.Laws.MakeOwn
import Derived.Lib.AppendZeros
import Derived.Laws.AppendOwnNone
import Derived.Test.YtnpmdchphaenaaaZFnGroups1
/- A region whose first m operations draw their order and yield one value each, in whatever later world: walked once, in the text's order, by the kit's steps of a quiet walk; new blocks may be made among them; the other operations come behind, in the text's order. -/
namespace Go.Proofs.Ytnpmdchphaenaaa
open Go.RowKit
set_option linter.unusedVariables false
set_option linter.unusedSimpArgs false
/-- A later world. -/
structure Grow0 (w : World) where
  W : World
  b : Below w.heap.size w W
/-- A world later than that one. -/
structure Grow (w : World) (G : Grow0 w) where
  W : World
  b : Below G.W.heap.size G.W W
instance growNonempty (w : World) (G : Grow0 w) : Nonempty (Grow w G) := ⟨⟨G.W, Below.refl _ _⟩⟩
theorem Grow.low {w : World} {G : Grow0 w} (g : Grow w G) : Below w.heap.size w g.W := below_tr' G.b g.b
theorem cell_belowQ {w w1 : World} (h : Below w.heap.size w w1) {a : Addr} {v : Value} (hc : w.cell? a = some v) : w1.cell? a = some v := (h.cell (World.block_lt_of_cell? w a hc)).trans hc
@[go_sem] theorem grow_cell {w : World} {G : Grow0 w} (g : Grow w G) (p : Addr) (h : w.cell? p ≠ none) : g.W.cell? p = w.cell? p := by
  cases hc : w.cell? p with
  | none => exact (h hc).elim
  | some v => exact cell_belowQ g.low hc
/-- What a walk in the text's order found: slot and value of each operation. -/
def QSteps (P : Program) (ops : Array Oper) (C : World → Prop) : List Oper → List (Nat × Value) → Act → Prop
  | [], [], _ => True
  | o :: r, kv :: vs, a => o.dst = some kv.1 ∧ YieldsIn P ops C o kv.2 a ∧ QSteps P ops C r vs (a.put (some kv.1) kv.2)
  | _, _, _ => False
theorem quiet_out {P : Program} {ops : Array Oper} {C : World → Prop} {Q' : Act → Prop} : ∀ (r : List Oper) (a : Act), (∀ o ∈ r, o.dst ≠ none) → wpQuiet P ops C Q' r a → ∃ vs, QSteps P ops C r vs a ∧ Q' (puts a vs)
  | [], a, _, h => ⟨[], trivial, h⟩
  | o :: r, a, hd, h => by
    cases hdd : o.dst with
    | none => exact (hd o (List.mem_cons_self ..) hdd).elim
    | some t =>
      have h' : if Region.wanted o (yielded ops a.tmps) then o.quiet P a C (wpQuiet P ops C Q' r) else wpQuiet P ops C Q' r (a.put o.dst undef) := h
      by_cases hw : Region.wanted o (yielded ops a.tmps) = true
      · rw [if_pos hw] at h'
        obtain ⟨v, h1, h2⟩ := h'
        rw [hdd] at h2
        obtain ⟨vs, h3, h4⟩ := quiet_out r _ (fun o' ho' => hd o' (List.mem_cons_of_mem _ ho')) h2
        exact ⟨(t, v) :: vs, ⟨hdd, .inl ⟨hw, h1⟩, h3⟩, h4⟩
      · rw [if_neg hw] at h'
        rw [hdd] at h'
        obtain ⟨vs, h3, h4⟩ := quiet_out r _ (fun o' ho' => hd o' (List.mem_cons_of_mem _ ho')) h'
        exact ⟨(t, undef) :: vs, ⟨hdd, .inr ⟨by simpa using hw, rfl⟩, h3⟩, h4⟩
theorem QSteps.key {P : Program} {ops : Array Oper} {C : World → Prop} : ∀ (r : List Oper) (vs : List (Nat × Value)) (a : Act), QSteps P ops C r vs a → ∀ kv ∈ vs, ∃ (j : Nat) (o : Oper), r[j]? = some o ∧ o.dst = some kv.1
  | [], [], _, _, kv, h => by cases h
  | [], _ :: _, _, h, _, _ => h.elim
  | _ :: _, [], _, h, _, _ => h.elim
  | o :: r, x :: vs, a, h, kv, hk => by
    rcases List.mem_cons.1 hk with e | e
    · subst e; exact ⟨0, o, rfl, h.1⟩
    · obtain ⟨j, o', hj, hd⟩ := QSteps.key r vs _ h.2.2 kv e
      exact ⟨j + 1, o', by rw [List.getElem?_cons_succ]; exact hj, hd⟩
theorem QSteps.at {P : Program} {ops : Array Oper} {C : World → Prop} : ∀ (r : List Oper) (vs : List (Nat × Value)) (a : Act), QSteps P ops C r vs a → ∀ (i : Nat) (o : Oper), r[i]? = some o →
    ∃ t v ai, o.dst = some t ∧ YieldsIn P ops C o v ai ∧ ai.tmps.size = a.tmps.size ∧ (t < a.tmps.size → (∀ j o', i < j → r[j]? = some o' → o'.dst ≠ some t) → (puts a vs).tmps.getD t undef = v) ∧
      ∀ u, (∀ j o', i ≤ j → r[j]? = some o' → o'.dst ≠ some u) → ai.tmps.getD u undef = (puts a vs).tmps.getD u undef
  | [], _, _, _, _, _, hi => by simp at hi
  | _ :: _, [], _, h, _, _, _ => h.elim
  | o :: r, x :: vs, a, h, 0, o', hi => by
    simp only [List.getElem?_cons_zero, Option.some.injEq] at hi
    subst hi
    have other : ∀ u, (∀ j o', 0 < j → (o :: r)[j]? = some o' → o'.dst ≠ some u) → ∀ kv ∈ vs, kv.1 ≠ u := fun u hu kv hk e => by
      obtain ⟨j, o', hj, hd⟩ := QSteps.key r vs _ h.2.2 kv hk
      exact hu (j + 1) o' (Nat.succ_pos _) (by rw [List.getElem?_cons_succ]; exact hj) (by rw [hd, e])
    refine ⟨x.1, x.2, a, h.1, h.2.1, rfl, fun ht hno => ?_, fun u hno => ?_⟩
    · rw [puts, puts_other x.1 vs _ (other x.1 hno), put_get_same _ _ _ ht]
    · rw [puts, puts_other u vs _ (other u (fun j o' hj => hno j o' (Nat.zero_le _))), put_get_ne _ _ _ _ (fun e => hno 0 o (Nat.le_refl _) rfl (by rw [h.1, e]))]
  | o :: r, x :: vs, a, h, i + 1, o', hi => by
    rw [List.getElem?_cons_succ] at hi
    obtain ⟨t, v, ai, h1, h2, h3, h4, h5⟩ := QSteps.at r vs _ h.2.2 i o' hi
    rw [put_size] at h3 h4
    refine ⟨t, v, ai, h1, h2, h3, fun ht hno => h4 ht (fun j o2 hj hr => hno (j + 1) o2 (by omega) (by rw [List.getElem?_cons_succ]; exact hr)), fun u hno => h5 u (fun j o2 hj hr => hno (j + 1) o2 (by omega) (by rw [List.getElem?_cons_succ]; exact hr))⟩
/-- No two of the first m fill one slot. -/
def onceB (l : List Oper) (m : Nat) : Bool := (List.range m).all fun i => (List.range m).all fun j => (i == j) || !((l[i]?.bind (·.dst)) == (l[j]?.bind (·.dst)))
theorem onceB_at {l : List Oper} {m : Nat} (h : onceB l m = true) {i j t : Nat} {o o' : Oper} (hi : i < m) (hj : j < m) (hne : i ≠ j) (ho : l[i]? = some o) (ho' : l[j]? = some o') (hd : o.dst = some t) : o'.dst ≠ some t := by
  intro hd'
  unfold onceB at h
  have h1 := List.all_eq_true.1 (List.all_eq_true.1 h i (List.mem_range.2 hi)) j (List.mem_range.2 hj)
  rw [ho, ho'] at h1
  simp [hne, hd, hd'] at h1
section
variable {P : Program} {Q : Exit → Act → World → Prop} {l : List Oper} {a0 aE : Act} {w : World}
theorem calmRun_of_quiet {o : Oper} {ρ : Operand → Value} {G : Grow0 w} {v : Value} (h : Oper.quietUpon P (fun w' => ∃ g : Grow w G, w' = g.W) G.W v ((execOp ρ o).run P G.W)) : calmAt P o ρ G.W v := by
  refine ⟨?_⟩
  unfold calmRun
  generalize (execOp ρ o).run P G.W = r at *
  cases r with
  | ok n w' =>
    cases n <;> simp only [Oper.quietUpon] at h ⊢
    case value u => exact h
    case skip => exact h
    case enter f args =>
      obtain ⟨h1, h2⟩ := h
      exact ⟨h1, h2.mono fun e w'' ⟨he, g, hg⟩ => ⟨he, by subst hg; exact g.b⟩⟩
  | halt x w' => simp only [Oper.quietUpon] at h
/-- Values and guards alone; behind them the others. -/
theorem region_q {id : Nat} (m : Nat) (hm : P.follows .mixedOrders = true) (hml : m ≤ l.length)
    (chk : viaChk l m a0.tmps.size = true) (hgd : guardsIn l m = true) (hon : onceB l m = true)
    (H : ∀ G : Grow0 w, wpQuiet P l.toArray (fun w' => ∃ g : Grow w G, w' = g.W) (fun a' => a' = aE) (l.take m) a0)
    (HQ : ∀ W, Below w.heap.size w W → wpList P l.toArray Q (l.drop m) aE W) :
    (Code.region id l.toArray true).wp P Q a0 w := by
  have get : ∀ {i : Nat} {o : Oper}, i < m → l[i]? = some o → (l.take m)[i]? = some o := fun him hi => by rw [List.getElem?_take_of_lt him]; exact hi
  have geti : ∀ {i : Nat} {o : Oper}, (l.take m)[i]? = some o → i < m ∧ l[i]? = some o := fun {i o} hi => by
    rcases Nat.lt_or_ge i m with h | h
    · rw [List.getElem?_take_of_lt h] at hi; exact ⟨h, hi⟩
    · rw [List.getElem?_take_eq_none h] at hi; cases hi
  have hsome : ∀ o ∈ l.take m, o.dst ≠ none := fun o ho => by
    obtain ⟨i, hi⟩ := List.getElem?_of_mem ho
    obtain ⟨him, hi⟩ := geti hi
    obtain ⟨t, ht, _⟩ := ((viaChk_at chk hi).2.2.1 him).2.1
    rw [ht]; exact fun h => by cases h
  obtain ⟨vs, hs, hE⟩ := quiet_out _ _ hsome (H ⟨w, Below.refl _ _⟩)
  have look : ∀ {C : World → Prop} {us : List (Nat × Value)}, QSteps P l.toArray C (l.take m) us a0 → puts a0 us = aE → ∀ {i : Nat} {o : Oper} {t : Nat}, i < m → l[i]? = some o → o.dst = some t →
      ∃ v, aE.tmps.getD t undef = v ∧ ((Region.wanted o (yielded l.toArray aE.tmps) = true ∧ ∀ w, C w → Oper.quietUpon P C w v ((execOp aE.eval o).run P w)) ∨ (Region.wanted o (yielded l.toArray aE.tmps) = false ∧ v = undef)) := by
    intro C us hus hue i o t him hi hd
    obtain ⟨t', v, ai, hd', hy, hsz, hv, hread⟩ := QSteps.at _ _ _ hus i o (get him hi)
    rw [hd] at hd'; obtain rfl := Option.some.inj hd'
    rw [hue] at hv hread
    have hC := viaChk_at chk hi
    have hCm := hC.2.2.1 him
    obtain ⟨t2, ht2, htN⟩ := hCm.2.1
    rw [hd] at ht2; obtain rfl := Option.some.inj ht2
    have hval := hv htN (fun j o' hij hj => by obtain ⟨hjm, hj⟩ := geti hj; exact onceB_at hon him hjm (by omega) hi hj hd)
    have heq : execOp ai.eval o = execOp aE.eval o := execOp_congr o hC.1 (fun x hx => by
      cases x with
      | tmp u =>
        refine hread u (fun j o' hij hj hdu => ?_)
        obtain ⟨hjm, hj⟩ := geti hj
        obtain ⟨e, he, hb, hon'⟩ := bindsTo_spec (hCm.2.2 u (List.mem_filterMap.2 ⟨.tmp u, by simpa using hx, rfl⟩) j o' hjm hj hdu)
        have := hC.2.1 e he hb
        omega
      | _ => rfl)
    have hwe : Region.wanted o (yielded l.toArray ai.tmps) = Region.wanted o (yielded l.toArray aE.tmps) := by
      unfold Region.wanted
      cases hg : o.guard with
      | none => rfl
      | some kb =>
        obtain ⟨k, b⟩ := kb
        obtain ⟨e, he, hb, hon'⟩ := bindsTo_spec (hCm.1 k b hg)
        have hki := hC.2.1 e he hb
        rw [hon'] at hki
        have : yielded l.toArray ai.tmps k = yielded l.toArray aE.tmps k := yielded_congr (by rw [hsz, ← hue, puts_size]) (fun ok tk hk hdk => hread tk (fun j o' hij hj hdj => by
          obtain ⟨hjm, hj⟩ := geti hj
          exact onceB_at hon (by omega) hjm (by omega) (show l[k]? = some ok by simpa using hk) hj hdk hdj))
        simp only [this]
    refine ⟨v, hval, ?_⟩
    rcases hy with ⟨hw, hq⟩ | ⟨hw, hu⟩
    · exact .inl ⟨by rw [← hwe]; exact hw, fun w hw' => by have := hq w hw'; unfold Oper.quietAt at this; rwa [heq] at this⟩
    · exact .inr ⟨by rw [← hwe]; exact hw, hu⟩
  refine wp_region_via (vs := vs) hm hml chk ?_ (fun i o t him hi hd => ?_) (fun i o k b him hi hg => guardsIn_at hgd him hi hg) (fun W hW => by rw [hE]; exact HQ W hW)
  · rw [List.all_eq_true]
    intro kv hkv
    obtain ⟨j, o, hj, hd⟩ := QSteps.key _ _ _ hs kv hkv
    rw [List.any_eq_true]
    exact ⟨o, List.mem_of_getElem? hj, by rw [hd]; simp⟩
  · rw [hE]
    obtain ⟨v, hv, h⟩ := look hs hE him hi hd
    rcases h with ⟨hw, _⟩ | ⟨hw, hu⟩
    · refine .inl ⟨hw, fun W hW => ?_⟩
      obtain ⟨us, hus, hue⟩ := quiet_out _ _ hsome (H ⟨W, hW⟩)
      obtain ⟨v', hv', h'⟩ := look hus hue him hi hd
      rcases h' with ⟨_, hq⟩ | ⟨hw', _⟩
      · rw [hv']; exact calmRun_of_quiet (G := ⟨W, hW⟩) (hq W ⟨⟨W, Below.refl _ _⟩, rfl⟩)
      · rw [hw] at hw'; cases hw'
    · exact .inr ⟨hw, by rw [hv, hu]⟩
/-- A new block among the first m: its slot, its value, what it holds. -/
structure NewS where
  t : Nat
  V : Nat → Value
  O : Obj
def relNew (ns : List NewS) (aE : Act) (t : Nat) : Value → Nat → Nat → World → Prop := match ns.find? (fun s => s.t == t) with
  | some s => fun v lo hi W => v = s.V lo ∧ lo + 1 = hi ∧ W.heap[lo]? = some s.O
  | none => isVI (aE.tmps.getD t undef)
def isNew (ns : List NewS) (o : Oper) : Bool := match o.dst with | none => false | some t => ns.any (·.t == t)
/-- No operation behind or at i fills what the i-th reads; no slot is filled twice; nothing reads a new block's slot; no guards. -/
def newB (l : List Oper) (m : Nat) (ns : List NewS) : Bool :=
  (l.take m).all (fun o => o.guard.isNone && (readsOf o).all fun u => !ns.any (·.t == u)) &&
  (List.range ((l.take m).filter (fun o => !isNew ns o)).length).all fun i => match ((l.take m).filter (fun o => !isNew ns o))[i]? with
    | none => true
    | some o => (List.range ((l.take m).filter (fun o => !isNew ns o)).length).all fun j => match ((l.take m).filter (fun o => !isNew ns o))[j]? with
      | none => true
      | some o' => (decide (j < i) || (readsOf o).all (fun u => !(o'.dst == some u))) && (decide (j ≤ i) || !(o'.dst == o.dst))
end
theorem relMap (f : Oper → Nat → (Value → Nat → Nat → World → Prop)) : ∀ (l : List Oper), (l.filterMap fun o => o.dst.map fun t => (t, f o t)).map (·.1) = l.filterMap (·.dst)
  | [] => rfl
  | o :: r => by
    cases hd : o.dst with
    | none => simp [hd, relMap f r]
    | some t => simp [hd, relMap f r]
theorem relOf_at (ns : List NewS) (aE : Act) (t : Nat) : ∀ (l : List Oper), (∃ o ∈ l, o.dst = some t) → relOfI (l.filterMap fun o => o.dst.map fun t => (t, relNew ns aE t)) t = relNew ns aE t
  | [], h => by obtain ⟨o, ho, _⟩ := h; cases ho
  | o :: r, h => by
    cases hd : o.dst with
    | none =>
      obtain ⟨o', ho', hd'⟩ := h
      have : o' ∈ r := by
        rcases List.mem_cons.1 ho' with e | e
        · rw [e, hd] at hd'; cases hd'
        · exact e
      simp only [List.filterMap_cons, hd, Option.map_none]
      exact relOf_at ns aE t r ⟨o', this, hd'⟩
    | some t' =>
      simp only [List.filterMap_cons, hd, Option.map_some]
      funext v lo hi W
      unfold relOfI
      by_cases e : t' = t
      · simp only [e, if_true]
      · simp only [if_neg e]
        obtain ⟨o', ho', hd'⟩ := h
        have : o' ∈ r := by
          rcases List.mem_cons.1 ho' with e2 | e2
          · rw [e2, hd] at hd'; exact (e (Option.some.inj hd')).elim
          · exact e2
        rw [relOf_at ns aE t r ⟨o', this, hd'⟩]
theorem puts_same (vs : List (Nat × Value)) : ∀ (a : Act) (t : Nat) (v : Value), t < a.tmps.size → (∃ kv ∈ vs, kv.1 = t) → (∀ kv ∈ vs, kv.1 = t → kv.2 = v) → (puts a vs).tmps.getD t undef = v := by
  induction vs with
  | nil => intro a t v _ h; obtain ⟨_, h, _⟩ := h; cases h
  | cons x r ih =>
    intro a t v ht h hv
    rw [puts]
    by_cases hr : ∃ kv ∈ r, kv.1 = t
    · exact ih _ t v (by rw [put_size]; exact ht) hr (fun kv hk => hv kv (List.mem_cons_of_mem _ hk))
    · obtain ⟨kv, hk, he⟩ := h
      rcases List.mem_cons.1 hk with e | e
      · subst e
        rw [puts_other t r _ (fun kv' hk' e' => hr ⟨kv', hk', e'⟩), he, put_get_same _ _ _ ht]
        exact hv kv (List.mem_cons_self ..) he
      · exact (hr ⟨kv, e, he⟩).elim
section
variable {P : Program} {Q : Exit → Act → World → Prop} {l : List Oper} {a0 aE : Act} {w : World}
/-- Values, and new blocks that nothing among the first m reads; behind them the others. -/
theorem region_qnew {id : Nat} (m : Nat) (ns : List NewS) (hm : P.follows .mixedOrders = true) (hml : m ≤ l.length)
    (chk : viaChk l m a0.tmps.size = true) (hnew : newB l m ns = true) (hns : ∀ s ∈ ns, ∃ o ∈ l.take m, o.dst = some s.t) 
    (hal : ∀ s ∈ ns, ∀ o ∈ l.take m, o.dst = some s.t → ∀ (ρ : Operand → Value) (W : World), (∀ u ∈ readsOf o, ρ (.tmp u) = aE.tmps.getD u undef) → (execOp ρ o).run P W = .ok (.value (s.V W.heap.size)) (W.alloc s.O))
    (H : ∀ G : Grow0 w, wpQuiet P l.toArray (fun w' => ∃ g : Grow w G, w' = g.W) (fun a' => a' = aE) ((l.take m).filter (fun o => !isNew ns o)) a0)
    (HQ : ∀ (g : Nat → Nat) (W : World), Below w.heap.size w W → (∀ s ∈ ns, w.heap.size ≤ g s.t ∧ W.heap[g s.t]? = some s.O) → (∀ s ∈ ns, ∀ s' ∈ ns, s.t ≠ s'.t → g s.t ≠ g s'.t) → wpList P l.toArray Q (l.drop m) (puts aE (ns.map fun s => (s.t, s.V (g s.t)))) W) :
    (Code.region id l.toArray true).wp P Q a0 w := by
  have geti : ∀ {i : Nat} {o : Oper}, (l.take m)[i]? = some o → i < m ∧ l[i]? = some o := fun {i o} hi => by
    rcases Nat.lt_or_ge i m with h | h
    · rw [List.getElem?_take_of_lt h] at hi; exact ⟨h, hi⟩
    · rw [List.getElem?_take_eq_none h] at hi; cases hi
  have hsome : ∀ o ∈ l.take m, ∃ t, o.dst = some t ∧ t < a0.tmps.size ∧ (∀ cs b, o.op ≠ .select cs b) := fun o ho => by
    obtain ⟨i, hi⟩ := List.getElem?_of_mem ho
    obtain ⟨him, hi⟩ := geti hi
    obtain ⟨t, ht, htN⟩ := ((viaChk_at chk hi).2.2.1 him).2.1
    exact ⟨t, ht, htN, (viaChk_at chk hi).1⟩
  unfold newB at hnew
  simp only [Bool.and_eq_true] at hnew
  obtain ⟨hn1, hn2⟩ := hnew
  rw [List.all_eq_true] at hn1
  generalize hr : (l.take m).filter (fun o => !isNew ns o) = r at *
  have hrm : ∀ o ∈ r, o ∈ l.take m ∧ isNew ns o = false := fun o ho => by rw [← hr] at ho; have := List.mem_filter.1 ho; exact ⟨this.1, by simpa using this.2⟩
  have hsome' : ∀ o ∈ r, o.dst ≠ none := fun o ho => by obtain ⟨t, ht, _⟩ := hsome o (hrm o ho).1; rw [ht]; exact fun h => by cases h
  have look : ∀ (W : World) (hW : Below w.heap.size w W) (o : Oper), o ∈ r → ∀ t, o.dst = some t → ∃ us, puts a0 us = aE ∧ (∀ kv ∈ us, ∃ o' ∈ r, o'.dst = some kv.1) ∧ calmAt P o aE.eval W (aE.tmps.getD t undef) := by
    intro W hW o ho t hd
    obtain ⟨us, hus, hue⟩ := quiet_out _ _ hsome' (H ⟨W, hW⟩)
    obtain ⟨i, hi⟩ := List.getElem?_of_mem ho
    obtain ⟨t', v, ai, hd', hy, hsz, hv, hread⟩ := QSteps.at _ _ _ hus i o hi
    rw [hd] at hd'; obtain rfl := Option.some.inj hd'
    rw [hue] at hv hread
    obtain ⟨t2, ht2, htN, hsel⟩ := hsome o (hrm o ho).1
    rw [hd] at ht2; obtain rfl := Option.some.inj ht2
    have hil : i < r.length := (List.getElem?_eq_some_iff.1 hi).1
    have h2 := List.all_eq_true.1 hn2 i (List.mem_range.2 hil)
    rw [hi] at h2
    simp only [List.all_eq_true] at h2
    have h3 : ∀ (j : Nat) (o' : Oper), r[j]? = some o' → (j < i ∨ ∀ u ∈ readsOf o, o'.dst ≠ some u) ∧ (j ≤ i ∨ o'.dst ≠ o.dst) := fun j o' hj => by
      have := h2 j (List.mem_range.2 (List.getElem?_eq_some_iff.1 hj).1)
      rw [hj] at this
      simp only [Bool.and_eq_true, Bool.or_eq_true, decide_eq_true_eq, List.all_eq_true] at this
      refine ⟨this.1.imp (fun h => h) (fun h u hu e => ?_), this.2.imp (fun h => h) (fun h e => ?_)⟩
      · have := h u hu; rw [e] at this; simp at this
      · rw [e] at h; simp at h
    have hval := hv htN (fun j o' hij hj e => by
      rcases (h3 j o' hj).2 with h | h
      · omega
      · exact h (by rw [e, hd]))
    have heq : execOp ai.eval o = execOp aE.eval o := execOp_congr o hsel (fun x hx => by
      cases x with
      | tmp u =>
        refine hread u (fun j o' hij hj hdu => ?_)
        rcases (h3 j o' hj).1 with h | h
        · omega
        · exact h u (List.mem_filterMap.2 ⟨.tmp u, by simpa using hx, rfl⟩) hdu
      | _ => rfl)
    have hg := hn1 o (hrm o ho).1
    simp only [Bool.and_eq_true, Option.isNone_iff_eq_none] at hg
    refine ⟨us, hue, fun kv hk => ?_, ?_⟩
    · obtain ⟨j, o', hj, hdj⟩ := QSteps.key _ _ _ hus kv hk
      exact ⟨o', List.mem_of_getElem? hj, hdj⟩
    · rcases hy with ⟨hw, hq⟩ | ⟨hw, hu⟩
      · have := hq W ⟨⟨W, Below.refl _ _⟩, rfl⟩
        unfold Oper.quietAt at this
        rw [heq] at this
        rw [hval]; exact calmRun_of_quiet (G := ⟨W, hW⟩) this
      · unfold Region.wanted at hw; rw [hg.1] at hw; cases hw
  obtain ⟨us0, hus0, hue0⟩ := quiet_out _ _ hsome' (H ⟨w, Below.refl _ _⟩)
  have hkeys : ∀ kv ∈ us0, ∃ o ∈ r, o.dst = some kv.1 := fun kv hk => by
    obtain ⟨j, o', hj, hdj⟩ := QSteps.key _ _ _ hus0 kv hk
    exact ⟨o', List.mem_of_getElem? hj, hdj⟩
  have hEs : aE.tmps.size = a0.tmps.size := by rw [← hue0, puts_size]
  have hEd : aE.defers = a0.defers := by rw [← hue0, puts_defers]
  -- what is not filled is as it was
  have hE0 : ∀ u, (∀ o ∈ l.take m, o.dst ≠ some u) → aE.tmps.getD u undef = a0.tmps.getD u undef := fun u hu => by
    rw [← hue0]
    exact puts_other u us0 a0 (fun kv hk e => by obtain ⟨o, ho, hd⟩ := hkeys kv hk; exact hu o (hrm o ho).1 (by rw [hd, e]))
  let rs := (l.take m).filterMap fun o => o.dst.map fun t => (t, relNew ns aE t)
  have hmap : rs.map (·.1) = (l.take m).filterMap (·.dst) := relMap (fun _ t => relNew ns aE t) _
  have hmem : ∀ t, (rs.map (·.1)).contains t = true ↔ ∃ o ∈ l.take m, o.dst = some t := fun t => by
    rw [hmap, List.contains_iff_mem, List.mem_filterMap]
  have hat : ∀ t, (∃ o ∈ l.take m, o.dst = some t) → relOfI rs t = relNew ns aE t := fun t ht => relOf_at ns aE t _ ht
  have hfind : ∀ t s, ns.find? (fun s => s.t == t) = some s → s ∈ ns ∧ s.t = t := fun t s h => ⟨List.mem_of_find?_eq_some h, by have := List.find?_some h; simpa using this⟩
  have hnone : ∀ t, ns.any (fun s => s.t == t) = false → ns.find? (fun s => s.t == t) = none := fun t h => by
    rw [List.find?_eq_none]
    intro s hs
    rw [List.any_eq_false] at h
    simpa using h s hs
  -- what an operation reads is at hand
  have reads : ∀ o ∈ l.take m, ∀ (a : Act) (W : World), (∀ u, (readsOf o).contains u = true → TakenI (rs.map (·.1)) (relOfI rs) a0 a W u) → ∀ u ∈ readsOf o, a.tmps.getD u undef = aE.tmps.getD u undef := fun o ho a W hT u hu => by
    obtain ⟨h1, h2⟩ := hT u (List.contains_iff_mem.2 hu)
    cases hc : (rs.map (·.1)).contains u with
    | true =>
      obtain ⟨lo, hi, hR⟩ := h1 hc
      rw [hat u ((hmem u).1 hc)] at hR
      have := hn1 o ho
      simp only [Bool.and_eq_true, List.all_eq_true] at this
      have h3 := this.2 u hu
      unfold relNew at hR
      rw [hnone u (by simpa using h3)] at hR
      exact hR
    | false =>
      rw [h2 hc]
      exact (hE0 u (fun o' ho' e => by rw [(hmem u).2 ⟨o', ho', e⟩] at hc; cases hc)).symm
  have readsE : ∀ o, (∀ cs b, o.op ≠ .select cs b) → ∀ a : Act, (∀ u ∈ readsOf o, a.tmps.getD u undef = aE.tmps.getD u undef) → execOp a.eval o = execOp aE.eval o := fun o hsel a h => execOp_congr o hsel (fun x hx => by
    cases x with
    | tmp u => exact h u (List.mem_filterMap.2 ⟨.tmp u, by simpa using hx, rfl⟩)
    | _ => rfl)
  refine region_relI (cp := []) m (rs.map (·.1)) (relOfI rs) hm hml chk rfl hmap.symm (fun t ht v lo hi W W' hR hb => ?_) ?_ (fun v lo hi W hW hv h1 h2 _ => ?_)
  · rw [hat t ((hmem t).1 ht)] at hR ⊢
    unfold relNew at hR ⊢
    cases hf : ns.find? (fun s => s.t == t) with
    | some s => rw [hf] at hR; exact ⟨hR.1, hR.2.1, (hb.block _ (Array.getElem?_eq_some_iff.1 hR.2.2).1).trans hR.2.2⟩
    | none => rw [hf] at hR; exact hR
  · have all : ∀ o ∈ l.take m, RelOkI [] P (rs.map (·.1)) (relOfI rs) Q a0 w o := by
      intro o ho
      obtain ⟨t, ht, htN, hsel⟩ := hsome o ho
      have hg := hn1 o ho
      simp only [Bool.and_eq_true, Option.isNone_iff_eq_none] at hg
      refine RelOkI.mk' t ht hg.1 rfl (fun a W hW hT => ?_)
      have hrd := reads o ho a W hT
      rw [hat t ⟨o, ho, ht⟩]
      cases hn : isNew ns o with
      | true =>
        unfold isNew at hn
        rw [ht] at hn
        simp only [List.any_eq_true, beq_iff_eq] at hn
        obtain ⟨s0, hs0, hst0⟩ := hn
        cases hf : ns.find? (fun s => s.t == t) with
        | none => rw [List.find?_eq_none] at hf; have := hf s0 hs0; simp [hst0] at this
        | some s =>
          obtain ⟨hs, hst⟩ := hfind t s hf
          refine rel_new (v := s.V W.heap.size) (hal s hs o ho (by rw [ht, hst]) a.eval W (fun u hu => hrd u hu)) (bal (Below.refl _ _) _) ?_
          unfold relNew
          rw [hf]
          exact ⟨rfl, by simp, heap_alloc_new _ _⟩
      | false =>
        have hor : o ∈ r := by rw [← hr]; exact List.mem_filter.2 ⟨ho, by rw [hn]; rfl⟩
        obtain ⟨us, _, _, hc⟩ := look W hW o hor t ht
        have hc' : calmAt P o a.eval W (aE.tmps.getD t undef) := by
          refine ⟨?_⟩; have hh := hc.out; unfold calmRun at hh ⊢; rw [readsE o hsel a hrd]; exact hh
        refine rel_calm hc' (fun W' hb => ?_)
        unfold relNew
        unfold isNew at hn
        rw [ht] at hn
        rw [hnone t hn]
        rfl
    exact (show ∀ k : List Oper, (∀ o ∈ k, RelOkI [] P (rs.map (·.1)) (relOfI rs) Q a0 w o) → AllR (RelOkI [] P (rs.map (·.1)) (relOfI rs) Q a0 w) k from fun k => by
      induction k with
      | nil => intro _; trivial
      | cons x k ih => intro h; exact ⟨h x (List.mem_cons_self ..), ih (fun o ho => h o (List.mem_cons_of_mem _ ho))⟩) _ all
  · have hone : ∀ s ∈ ns, v s.t = ((ns.find? (fun s' => s'.t == s.t)).getD s).V (lo s.t) ∧ lo s.t + 1 = hi s.t ∧ W.heap[lo s.t]? = some ((ns.find? (fun s' => s'.t == s.t)).getD s).O ∧ w.heap.size ≤ lo s.t := by
      intro s hs
      have hc := (hmem s.t).2 (hns s hs)
      have hR := hv s.t hc
      rw [hat s.t (hns s hs)] at hR
      unfold relNew at hR
      cases hf : ns.find? (fun s' => s'.t == s.t) with
      | none => rw [List.find?_eq_none] at hf; have := hf s hs; simp at this
      | some s' => rw [hf] at hR; exact ⟨hR.1, hR.2.1, hR.2.2, (h1 s.t hc).1⟩
    -- entries of one slot are one
    have huniq : ∀ s ∈ ns, ((ns.find? (fun s' => s'.t == s.t)).getD s).V = s.V ∧ ((ns.find? (fun s' => s'.t == s.t)).getD s).O = s.O := by
      intro s hs
      cases hf : ns.find? (fun s' => s'.t == s.t) with
      | none => exact ⟨rfl, rfl⟩
      | some s' =>
        obtain ⟨hs', hst⟩ := hfind s.t s' hf
        obtain ⟨o, ho, hd⟩ := hns s hs
        have e1 := fun (W0 : World) => hal s hs o ho hd aE.eval W0 (fun u hu => rfl)
        have e2 := fun (W0 : World) => hal s' hs' o ho (by rw [hd, hst]) aE.eval W0 (fun u hu => rfl)
        have e3 : ∀ W0 : World, s'.V W0.heap.size = s.V W0.heap.size ∧ W0.alloc s'.O = W0.alloc s.O := fun W0 => by
          have := (e2 W0).symm.trans (e1 W0)
          simp only [Result.ok.injEq, Next.value.injEq] at this
          exact this
        have e4 : s'.O = s.O := by
          have h5 : (W.alloc s'.O).heap[W.heap.size]? = (W.alloc s.O).heap[W.heap.size]? := by rw [(e3 W).2]
          rw [heap_alloc_new, heap_alloc_new] at h5
          exact Option.some.inj h5
        refine ⟨?_, e4⟩
        funext n
        have := (e3 { W with heap := Array.replicate n s.O }).1
        simpa using this
    have hq := HQ lo W hW (fun s hs => ⟨(hone s hs).2.2.2, by have := (hone s hs).2.2.1; rwa [(huniq s hs).2] at this⟩) (fun s hs s' hs' hne e => by
      have := h2 s.t s'.t ((hmem _).2 (hns s hs)) ((hmem _).2 (hns s' hs')) hne
      have h3 := (hone s hs).2.1
      have h4 := (hone s' hs').2.1
      omega)
    have ea : puts aE (ns.map fun s => (s.t, s.V (lo s.t))) = puts a0 ((rs.map (·.1)).map fun t => (t, v t)) := by
      refine act_ext _ _ (by rw [puts_defers, puts_defers]; exact hEd) (by rw [puts_size, puts_size]; exact hEs) (fun t ht => ?_)
      rw [puts_size, hEs] at ht
      by_cases hc : (rs.map (·.1)).contains t = true
      · rw [puts_vals v t _ a0 (List.contains_iff_mem.1 hc) ht]
        by_cases hn : ∃ s ∈ ns, s.t = t
        · obtain ⟨s, hs, rfl⟩ := hn
          refine puts_same _ _ _ _ (by rw [hEs]; exact ht) ⟨(s.t, s.V (lo s.t)), List.mem_map.2 ⟨s, hs, rfl⟩, rfl⟩ (fun kv hk he => ?_)
          obtain ⟨s', hs', rfl⟩ := List.mem_map.1 hk
          simp only at he ⊢
          rw [← he, (hone s' hs').1, (huniq s' hs').1]
        · rw [puts_other t _ _ (fun kv hk e => hn (by obtain ⟨s, hs, rfl⟩ := List.mem_map.1 hk; exact ⟨s, hs, e⟩))]
          have hR := hv t hc
          rw [hat t ((hmem t).1 hc)] at hR
          unfold relNew at hR
          rw [hnone t (by rw [List.any_eq_false]; intro s hs h; exact hn ⟨s, hs, by simpa using h⟩)] at hR
          exact hR.symm
      · rw [puts_other t _ a0 (fun kv hk e => hc (by obtain ⟨t', ht', rfl⟩ := List.mem_map.1 hk; rw [← e]; exact List.contains_iff_mem.2 ht'))]
        have hno : ∀ o ∈ l.take m, o.dst ≠ some t := fun o ho e => hc ((hmem t).2 ⟨o, ho, e⟩)
        rw [puts_other t _ aE (fun kv hk e => by obtain ⟨s, hs, rfl⟩ := List.mem_map.1 hk; obtain ⟨o, ho, hd⟩ := hns s hs; exact hno o ho (by rw [hd, ← e]))]
        exact hE0 t hno
    rw [← ea]
    exact hq
end
def AllNs {α : Type} (p : α → Prop) : List α → Prop
  | [] => True
  | s :: r => p s ∧ AllNs p r
theorem AllNs.spec {α : Type} {p : α → Prop} : ∀ (l : List α), AllNs p l → ∀ s ∈ l, p s
  | [], _, _, h => by cases h
  | x :: r, h, s, hs => by
    rcases List.mem_cons.1 hs with e | e
    · rw [e]; exact h.1
    · exact AllNs.spec r h.2 s e
theorem AllNs.of {α : Type} {p : α → Prop} : ∀ (l : List α), (∀ s ∈ l, p s) → AllNs p l
  | [], _ => trivial
  | x :: r, h => ⟨h x (List.mem_cons_self ..), AllNs.of r fun s hs => h s (List.mem_cons_of_mem _ hs)⟩
/-- A new cell at the i-th place: its slot, what it holds at first, its type. -/
structure CellS where
  i : Nat
  t : Nat
  Z : Array Value
  T : TypeId
def CellS.n (s : CellS) : NewS := ⟨s.t, fun g => .pointer (some ⟨g, 0, none⟩), .cells s.Z s.T⟩
def cellB (l : List Oper) (m : Nat) (ns : List CellS) : Bool := ns.all fun s => decide (s.i < m) && (l[s.i]?.any (·.dst == some s.t)) && (List.range m).all fun j => j == s.i || !(l[j]?.bind (·.dst) == some s.t)
section
variable {P : Program} {Q : Exit → Act → World → Prop} {l : List Oper} {a0 aE : Act} {w : World}
theorem region_qn {id : Nat} (m : Nat) (ns : List CellS) (hm : P.follows .mixedOrders = true) (hml : m ≤ l.length)
    (chk : viaChk l m a0.tmps.size = true) (hnew : newB l m (ns.map (·.n)) = true) (hcell : cellB l m ns = true)
    (hal : AllNs (fun s : CellS => ∀ o, l[s.i]? = some o → ∀ (ρ : Operand → Value) (W : World), (execOp ρ o).run P W = .ok (.value (.pointer (some ⟨W.heap.size, 0, none⟩))) (W.alloc (.cells s.Z s.T))) ns)
    (H : ∀ G : Grow0 w, wpQuiet P l.toArray (fun w' => ∃ g : Grow w G, w' = g.W) (fun a' => a' = aE) ((l.take m).filter (fun o => !isNew (ns.map (·.n)) o)) a0)
    (HQ : ∀ (g : Nat → Nat) (W : World), Below w.heap.size w W → AllNs (fun s : CellS => w.heap.size ≤ g s.t ∧ W.heap[g s.t]? = some (.cells s.Z s.T (0, 0))) ns → AllNs (fun s : CellS => AllNs (fun s' : CellS => s.t ≠ s'.t → g s.t ≠ g s'.t) ns) ns → wpList P l.toArray Q (l.drop m) (puts aE (ns.map fun s => (s.t, .pointer (some ⟨g s.t, 0, none⟩)))) W) :
    (Code.region id l.toArray true).wp P Q a0 w := by
  unfold cellB at hcell
  rw [List.all_eq_true] at hcell
  have at_ : ∀ s ∈ ns, s.i < m ∧ (∃ o, l[s.i]? = some o ∧ o.dst = some s.t) ∧ ∀ j o, j < m → l[j]? = some o → o.dst = some s.t → j = s.i := by
    intro s hs
    have h := hcell s hs
    simp only [Bool.and_eq_true, decide_eq_true_eq, List.all_eq_true] at h
    refine ⟨h.1.1, ?_, fun j o hj ho hd => ?_⟩
    · cases ho : l[s.i]? with
      | none => rw [ho] at h; simp at h
      | some o => rw [ho] at h; exact ⟨o, rfl, by have := h.1.2; simpa using this⟩
    · have := h.2 j (List.mem_range.2 hj)
      rw [ho] at this
      simpa [hd] using this
  have tk : ∀ o ∈ l.take m, ∃ j, j < m ∧ l[j]? = some o := fun o ho => by
    obtain ⟨j, hj, e⟩ := List.mem_take_iff_getElem.1 ho
    exact ⟨j, by omega, by rw [← e]; exact List.getElem?_eq_getElem (by omega)⟩
  refine region_qnew m (ns.map (·.n)) hm hml chk hnew (fun s hs => ?_) (fun s hs o ho hd ρ W _ => ?_) H (fun g W hW h1 h2 => ?_)
  · obtain ⟨c, hc, rfl⟩ := List.mem_map.1 hs
    obtain ⟨h1, ⟨o, ho, hd⟩, _⟩ := at_ c hc
    exact ⟨o, List.mem_take_iff_getElem.2 ⟨c.i, by have := (List.getElem?_eq_some_iff.1 ho).1; omega, (List.getElem?_eq_some_iff.1 ho).2⟩, hd⟩
  · obtain ⟨c, hc, rfl⟩ := List.mem_map.1 hs
    obtain ⟨j, hj, hjo⟩ := tk o ho
    have e := (at_ c hc).2.2 j o hj hjo hd
    exact AllNs.spec ns hal c hc o (by rw [← e]; exact hjo) ρ W
  · have := HQ g W hW (AllNs.of ns fun c hc => h1 c.n (List.mem_map.2 ⟨c, hc, rfl⟩)) (AllNs.of ns fun c hc => AllNs.of ns fun c' hc' hne => h2 c.n (List.mem_map.2 ⟨c, hc, rfl⟩) c'.n (List.mem_map.2 ⟨c', hc', rfl⟩) hne)
    rw [List.map_map]
    exact this
end
end Go.Proofs.Ytnpmdchphaenaaa
/- Contracts: inverses, normal lists made. -/
namespace Go.Proofs.Ytnpmdchphaenaaa
open Go.RowKit
set_option linter.unusedVariables false
set_option linter.unusedSimpArgs false

theorem inverse_any (n p : Int) (w : World) (hp : prB p = true) (h0 : 0 < n) (h1 : n < p) :
    Calls Try.prog 80 #[.int .i64 n, .int .i64 p] w fun e w' => e = .returned (.int .i64 (invP p n)) ∧ w = w' := by
  obtain ⟨s1, s2, s3, s4⟩ := invP_spec hp h0 h1
  obtain ⟨b1, b2⟩ := prB_bd hp
  have S3 := Lib.hid s3; clear s3
  have S4 := Lib.hid s4; clear s4
  clear hp
  generalize invP p n = v at *
  go_enter Try.func80, Try.ntmps80
  go_wp2
  go_loop [5] (fun i => ∃ k : Int, 1 ≤ k ∧ k ≤ v ∧ i = .int .i64 k) (fun i => (v - intOf i).toNat)
  case atStart => exact ⟨1, by omega, by omega, rfl⟩
  case round =>
    obtain ⟨k, hk1, hk2, rfl⟩ := hrel
    obtain ⟨m1, m2⟩ := mul_bd (a := n) (b := k) (A := 12) (B := 12) (by omega) (by omega) (by omega) (by omega)
    by_cases e : k = v
    · have hne : (n * k % p != 1) = false := by rw [e, S3.out]; rfl
      have E := Lib.hid e; clear e
      go_wp2_with (go_at_call 73; refine (mod_any _ _ _ (by omega) (by omega) (by omega) (by omega)).mono ?_; rintro e w' ⟨rfl, rfl⟩)
      go_ret
      exact ⟨ret_int E.out, rfl⟩
    · have hne : (n * k % p != 1) = true := by have := S4.out k hk1 (by omega); simpa using this
      go_wp2_with (go_at_call 73; refine (mod_any _ _ _ (by omega) (by omega) (by omega) (by omega)).mono ?_; rintro e w' ⟨rfl, rfl⟩)
      go_round
      case rel => exact ⟨k + 1, by omega, by omega, rfl⟩
      case measure => simp [intOf]; omega
theorem l01Mod_any (p n : Int) (w : World) (hp : 0 < p) (hp' : p ≤ 1000) (hn : -4611686018427387904 ≤ n) (hn' : n ≤ 4611686018427387904) :
    Calls Try.prog 68 #[.int .i64 p, .int .i64 n] w fun e w' => e = .returned (.int .i64 (n % p)) ∧ w = w' := by
  have hb := tmod_lo n p hp
  have e : IntKind.i64.wrap (n.tmod p + p) = n.tmod p + p := IntWalk.i64_in _ (by omega)
  go_enter Try.func68, Try.ntmps68
  go_wp2
  go_ret
  exact ⟨ret_int (mod_is' n p hp), rfl⟩
theorem l01Inverse_any (p x : Int) (w : World) (hp : prB p = true) (hn : -4611686018427387904 ≤ x) (hn' : x ≤ 4611686018427387904) (h0 : 0 < x % p) :
    Calls Try.prog 78 #[.int .i64 p, .int .i64 x] w fun e w' => e = .returned (.int .i64 (invP p (x % p))) ∧ w = w' := by
  obtain ⟨b1, b2⟩ := prB_bd hp
  have h1 : x % p < p := Int.emod_lt_of_pos _ (by omega)
  obtain ⟨s1, s2, s3, s4⟩ := invP_spec hp h0 h1
  have hx := Lib.hid (l01Mod_any p x w (by omega) (by omega) hn hn')
  generalize x % p = n at *
  have S3 := Lib.hid s3; clear s3
  have S4 := Lib.hid s4; clear s4
  clear hp
  generalize invP p n = v at *
  go_enter Try.func78, Try.ntmps78
  go_wp2
  go_loop [5] (fun i => ∃ k : Int, 1 ≤ k ∧ k ≤ v ∧ i = .int .i64 k) (fun i => (v - intOf i).toNat)
  case atStart => exact ⟨1, by omega, by omega, rfl⟩
  case round =>
    obtain ⟨k, hk1, hk2, rfl⟩ := hrel
    have hkp : k < p := by omega
    obtain ⟨m1, m2⟩ := mul_bd (a := k) (b := n) (A := 12) (B := 12) (by omega) (by omega) (by omega) (by omega)
    by_cases e : k = v
    · have hne : (k * n % p == 1) = true := by rw [e, Int.mul_comm, S3.out]; rfl
      have E := Lib.hid e; clear e
      go_wp2_with (go_at_call 68; refine hx.out.mono ?_; rintro e w' ⟨rfl, rfl⟩)
      go_ret
      exact ⟨ret_int E.out, rfl⟩
    · have hne : (k * n % p == 1) = false := by have := S4.out k hk1 (by omega); rw [Int.mul_comm]; simpa using this
      go_wp2_with (go_at_call 68; refine hx.out.mono ?_; rintro e w' ⟨rfl, rfl⟩)
      go_round
      case rel => exact ⟨k + 1, by omega, by omega, rfl⟩
      case measure => simp [intOf]; omega

/-! ### numbers written one by one -/
def setInts (w : World) (b o : Nat) (l : List Int) : World := w.setCells b o (l.map (Value.int .i64))
theorem setCells_snoc (b : Nat) (v : Value) : ∀ (l : List Value) (o : Nat) (w : World), w.setCells b o (l ++ [v]) = (w.setCells b o l).setCell ⟨b, o + l.length, none⟩ v
  | [], o, w => rfl
  | u :: r, o, w => by
    show (w.setCell ⟨b, o, none⟩ u).setCells b (o + 1) (r ++ [v]) = ((w.setCell ⟨b, o, none⟩ u).setCells b (o + 1) r).setCell ⟨b, o + (r.length + 1), none⟩ v
    rw [setCells_snoc b v r (o + 1), show o + (r.length + 1) = o + 1 + r.length by omega]
theorem setInts_snoc (w : World) (b o : Nat) (l : List Int) (x : Int) : setInts w b o (l ++ [x]) = (setInts w b o l).setCell ⟨b, o + l.length, none⟩ (.int .i64 x) := by
  unfold setInts; rw [List.map_append]; simp only [List.map_cons, List.map_nil]; rw [setCells_snoc, List.length_map]
theorem setInts_cell_ge (w : World) (b o : Nat) (l : List Int) (i : Nat) (h : l.length ≤ i) : (setInts w b o l).cell? ⟨b, o + i, none⟩ = w.cell? ⟨b, o + i, none⟩ :=
  World.cell?_setCells_out b _ o w _ (fun _ _ => .inr (by simp; omega))
theorem setInts_frozen (w : World) (b o : Nat) (l : List Int) (a : Addr) : (setInts w b o l).frozen? a = w.frozen? a := World.frozen?_setCells b _ o w a
theorem setInts_cell (w : World) (b o : Nat) (l : List Int) (hc : ∀ j, j < l.length → (w.cell? ⟨b, o + j, none⟩).isSome = true) (i : Nat) (h : i < l.length) : (setInts w b o l).cell? ⟨b, o + i, none⟩ = some (.int .i64 (l.getD i 0)) := by
  unfold setInts
  rw [World.cell?_setCells_in b (l.map (Value.int .i64)) o w (by simpa using hc) i (by simpa using h)]
  simp [List.getD, h]
theorem setCells_size (b : Nat) : ∀ (l : List Value) (o : Nat) (w : World), (w.setCells b o l).heap.size = w.heap.size
  | [], _, _ => rfl
  | u :: r, o, w => by
    show ((w.setCell ⟨b, o, none⟩ u).setCells b (o + 1) r).heap.size = w.heap.size
    rw [setCells_size b r]; simp [World.setCell]
theorem setInts_size (w : World) (b o : Nat) (l : List Int) : (setInts w b o l).heap.size = w.heap.size := setCells_size b _ o w
theorem below_setCells {B : Nat} {w : World} (b : Nat) (hb : B ≤ b) : ∀ (l : List Value) (o : Nat) (W : World), Below B w W → Below B w (W.setCells b o l)
  | [], _, _, h => h
  | u :: r, o, W, h => below_setCells b hb r (o + 1) _ (h.setCell hb _)
theorem below_setInts {B : Nat} {w W : World} {b : Nat} (h : Below B w W) (hb : B ≤ b) (o : Nat) (l : List Int) : Below B w (setInts W b o l) := below_setCells b hb _ o W h

theorem setInts3 (w : World) (b : Nat) (x y z : Int) : setInts w b 0 [x, y, z] = ((w.setCell ⟨b, 0, none⟩ (.int .i64 x)).setCell ⟨b, 1, none⟩ (.int .i64 y)).setCell ⟨b, 2, none⟩ (.int .i64 z) := rfl
theorem normal_any (p : Int) (b o n cap : Nat) (l : List Int) (w : World) (hp : prB p = true) (hl : l.length = n) (hn : n ≤ 4611686018427387904)
    (hc : ∀ i, i < n → w.cell? ⟨b, o + i, none⟩ = some (.int .i64 (l.getD i 0))) (hf : ∀ i, i < n → w.frozen? ⟨b, o + i, none⟩ = false)
    (hx : ∀ i, i < n → -4611686018427387904 ≤ l.getD i 0 ∧ l.getD i 0 ≤ 4611686018427387904) :
    Calls Try.prog 64 #[.int .i64 p, .slice (some ⟨b, o, none⟩) n cap] w fun e w' => e = .returned (.bool (nzB p l)) ∧ setInts w b o (normL p l) = w' := by
  obtain ⟨b1, b2⟩ := prB_bd hp
  have HL := Lib.hid hl; clear hl
  have HC := Lib.hid hc; clear hc
  have HZ := Lib.hid hf; clear hf
  have HX := Lib.hid hx; clear hx
  have HP := Lib.hid hp; clear hp
  go_enter Try.func64, Try.ntmps64
  go_wp2
  go_loopw [5, 10] (fun f i wr => ∃ k : Nat, k ≤ n ∧ i = .int .i64 k ∧ f = .int .i64 (facL p (l.take k)) ∧ Hid (wr = setInts w b o ((normL p l).take k))) (fun _ i wr => n - (intOf i).toNat)
  case atStart => exact ⟨0, Nat.zero_le _, rfl, by show Value.int .i64 0 = .int .i64 (invP p 0); rw [invP_zero p (by omega)], Lib.hid rfl⟩
  case round =>
    obtain ⟨k, hk, rfl, rfl, HW⟩ := hrel
    have hfb := facL_bd HP.out (l.take k)
    by_cases hlt : k < n
    · have hcell : wr.cell? ⟨b, o + k, none⟩ = some (.int .i64 (l.getD k 0)) := by
        rw [HW.out, setInts_cell_ge _ _ _ _ _ (by simp; omega)]; exact HC.out k hlt
      have hfrz : wr.frozen? ⟨b, o + k, none⟩ = false := by rw [HW.out, setInts_frozen]; exact HZ.out k hlt
      have HS : Hid ((normL p l).take (k + 1) = (normL p l).take k ++ [(l.getD k 0 % p) * facL p (l.take (k + 1)) % p]) := Lib.hid (by
        rw [take_snoc' _ 0 k (by rw [normL_length]; have := HL.out; omega), normL_at HP.out _ _ (by have := HL.out; omega)])
      have HF : Hid (facL p (l.take (k + 1)) = if facL p (l.take k) = 0 then invP p (l.getD k 0 % p) else facL p (l.take k)) := Lib.hid (by
        rw [take_snoc' l 0 k (by have := HL.out; omega), facL_snoc HP.out])
      have hxb := HX.out k hlt
      have HM := Lib.hid (mod_any (l.getD k 0) p wr (by omega) (by omega) hxb.1 hxb.2)
      have hm0 : 0 ≤ l.getD k 0 % p := Int.emod_nonneg _ (by omega)
      have hm1 : l.getD k 0 % p < p := Int.emod_lt_of_pos _ (by omega)
      generalize l.getD k 0 = x at *
      generalize x % p = m at *
      generalize facL p (l.take k) = f at *
      by_cases hf0 : f = 0
      · have hF1 := HF.out; rw [if_pos hf0] at hF1
        have ht1 : (f == 0) = true := by simp [hf0]
        by_cases hm : m = 0
        · have ht2 : (m != 0) = false := by simp [hm]
          have HN : Hid (facL p (l.take (k + 1)) = f ∧ (normL p l).take (k + 1) = (normL p l).take k ++ [m * f % p]) := Lib.hid (by
            have e : facL p (l.take (k + 1)) = f := by rw [hF1, hm, invP_zero p (by omega), hf0]
            exact ⟨e, by rw [HS.out, e]⟩)
          clear HF HS hF1
          obtain ⟨m1, m2⟩ := mul_bd (a := m) (b := f) (A := 12) (B := 12) (by omega) (by omega) (by omega) (by omega)
          have HM2 := Lib.hid (mod_any (m * f) p wr (by omega) (by omega) (by omega) (by omega))
          have HE := Lib.hid hf0; have HE2 := Lib.hid hm; clear hf0 hm
          go_wp2_with (go_at_call 73; first | ((with_reducible refine HM.out.mono ?_); rintro e w' ⟨rfl, rfl⟩) | ((with_reducible refine HM2.out.mono ?_); rintro e w' ⟨rfl, rfl⟩))
          go_roundw
          case rel => exact ⟨k + 1, by omega, by go_num, by rw [HN.out.1], Lib.hid (by rw [HN.out.2, setInts_snoc, ← HW.out]; simp [normL_length]; congr 2; have := HL.out; omega)⟩
          case measure => simp [intOf]; omega
        · have ht2 : (m != 0) = true := by simp [hm]
          have HI := Lib.hid (inverse_any m p wr HP.out (by omega) (by omega))
          have hvb := invP_bd HP.out hm0 hm1
          have HN : Hid (facL p (l.take (k + 1)) = invP p m ∧ (normL p l).take (k + 1) = (normL p l).take k ++ [m * invP p m % p]) := Lib.hid ⟨hF1, by rw [HS.out, hF1]⟩
          clear HF HS hF1
          generalize invP p m = v at *
          obtain ⟨m1, m2⟩ := mul_bd (a := m) (b := v) (A := 12) (B := 12) (by omega) (by omega) (by omega) (by omega)
          have HM2 := Lib.hid (mod_any (m * v) p wr (by omega) (by omega) (by omega) (by omega))
          have HE := Lib.hid hf0; have HE2 := Lib.hid hm; clear hf0 hm
          go_wp2_with (first
            | (go_at_call 73; first | ((with_reducible refine HM.out.mono ?_); rintro e w' ⟨rfl, rfl⟩) | ((with_reducible refine HM2.out.mono ?_); rintro e w' ⟨rfl, rfl⟩))
            | (go_at_call 80; (with_reducible refine HI.out.mono ?_); rintro e w' ⟨rfl, rfl⟩))
          go_roundw
          case rel => exact ⟨k + 1, by omega, by go_num, by rw [HN.out.1], Lib.hid (by rw [HN.out.2, setInts_snoc, ← HW.out]; simp [normL_length]; congr 2; have := HL.out; omega)⟩
          case measure => simp [intOf]; omega
      · have hF1 := HF.out; rw [if_neg hf0] at hF1
        have ht1 : (f == 0) = false := by simp [hf0]
        have HN : Hid (facL p (l.take (k + 1)) = f ∧ (normL p l).take (k + 1) = (normL p l).take k ++ [m * f % p]) := Lib.hid ⟨hF1, by rw [HS.out, hF1]⟩
        clear HF HS hF1
        obtain ⟨m1, m2⟩ := mul_bd (a := m) (b := f) (A := 12) (B := 12) (by omega) (by omega) (by omega) (by omega)
        have HM2 := Lib.hid (mod_any (m * f) p wr (by omega) (by omega) (by omega) (by omega))
        have HE := Lib.hid hf0; clear hf0
        go_wp2_with (go_at_call 73; first | ((with_reducible refine HM.out.mono ?_); rintro e w' ⟨rfl, rfl⟩) | ((with_reducible refine HM2.out.mono ?_); rintro e w' ⟨rfl, rfl⟩))
        go_roundw
        case rel => exact ⟨k + 1, by omega, by go_num, by rw [HN.out.1], Lib.hid (by rw [HN.out.2, setInts_snoc, ← HW.out]; simp [normL_length]; congr 2; have := HL.out; omega)⟩
        case measure => simp [intOf]; omega
    · have HT : Hid (l.take k = l ∧ (normL p l).take k = normL p l) := Lib.hid ⟨List.take_of_length_le (by have := HL.out; omega), List.take_of_length_le (by rw [normL_length]; have := HL.out; omega)⟩
      have HG : Hid ((facL p (l.take k) != 0) = nzB p l) := Lib.hid (by
        rw [HT.out.1]; unfold nzB
        rw [Bool.eq_iff_iff]; simp [facL_zero HP.out, firstNZ_eq_zero])
      generalize facL p (l.take k) = f at *
      go_wp2
      go_ret
      exact ⟨ret_bool HG.out, by rw [HW.out, HT.out.2]⟩
end Go.Proofs.Ytnpmdchphaenaaa
/- Contracts: crossed numbers, joins and meets of the program. -/
namespace Go.Proofs.Ytnpmdchphaenaaa
open Go.RowKit
set_option linter.unusedVariables false
set_option linter.unusedSimpArgs false
/-- Three numbers made normal. -/
def nrm3 (p x y z : Int) : Pt := (x % p * facL p [x, y, z] % p, y % p * facL p [x, y, z] % p, z % p * facL p [x, y, z] % p)
theorem normL3 (p x y z : Int) : normL p [x, y, z] = [(nrm3 p x y z).1, (nrm3 p x y z).2.1, (nrm3 p x y z).2.2] := rfl
theorem pointOf_any (p x y z : Int) (w : World) (hp : prB p = true) (hx : -4611686018427387904 ≤ x ∧ x ≤ 4611686018427387904) (hy : -4611686018427387904 ≤ y ∧ y ≤ 4611686018427387904) (hz : -4611686018427387904 ≤ z ∧ z ≤ 4611686018427387904) :
    Calls Try.prog 58 #[.int .i64 p, .int .i64 x, .int .i64 y, .int .i64 z] w (Ret w (ptV (nrm3 p x y z).1 (nrm3 p x y z).2.1 (nrm3 p x y z).2.2)) := by
  have HN := Lib.hid (normL3 p x y z)
  have HP := Lib.hid hp; clear hp
  generalize nrm3 p x y z = r at *
  obtain ⟨u0, u1, u2⟩ := r
  go_enter Try.func58, Try.ntmps58
  go_wp2_with (go_at_call 64; refine (normal_any p _ 0 3 3 [x, y, z] _ HP.out rfl (by omega) (by intro i hi; match i, hi with | 0, _ => simp [go_sem] | 1, _ => simp [go_sem] | 2, _ => simp [go_sem]) (by intro i hi; match i, hi with | 0, _ => simp [go_sem] | 1, _ => simp [go_sem] | 2, _ => simp [go_sem]) (by intro i hi; match i, hi with | 0, _ => (simp; omega) | 1, _ => (simp; omega) | 2, _ => (simp; omega))).mono ?_; rintro e w' ⟨rfl, rfl⟩; rw [HN.out, setInts3])
  exact bodyPost_ret (v := ptV u0 u1 u2) (by simp [results, Try.results58, go_sem]) rfl ⟨rfl, (by repeat (first | exact Below.refl _ _ | refine bset ?_ _ _ (by omega) _ | refine bal ?_ _ | refine bdrN ?_ _ | refine bdr ?_))⟩
/-- The raw cross product. -/
def crs (a b : Pt) : Pt := (a.2.1 * b.2.2 - a.2.2 * b.2.1, a.2.2 * b.1 - a.1 * b.2.2, a.1 * b.2.1 - a.2.1 * b.1)
def crsN (p : Int) (a b : Pt) : Pt := nrm3 p (crs a b).1 (crs a b).2.1 (crs a b).2.2
def In13 (a : Pt) : Prop := (0 ≤ a.1 ∧ a.1 ≤ 12) ∧ (0 ≤ a.2.1 ∧ a.2.1 ≤ 12) ∧ (0 ≤ a.2.2 ∧ a.2.2 ≤ 12)
/-- Whether a point is on a line. -/
def onB (p : Int) (a l : Pt) : Bool := (a.1 * l.1 + a.2.1 * l.2.1 + a.2.2 * l.2.2) % p == 0
theorem dot_any (p a0 a1 a2 b0 b1 b2 : Int) (w : World) (hp : prB p = true) (ha : In13 (a0, a1, a2)) (hb : In13 (b0, b1, b2)) :
    Calls Try.prog 59 #[.int .i64 p, ptV a0 a1 a2, ptV b0 b1 b2] w (Ret w (.int .i64 ((a0 * b0 + a1 * b1 + a2 * b2) % p))) := by
  obtain ⟨⟨p0, p1⟩, ⟨p2, p3⟩, ⟨p4, p5⟩⟩ := ha
  obtain ⟨⟨q0, q1⟩, ⟨q2, q3⟩, ⟨q4, q5⟩⟩ := hb
  simp only at p0 p1 p2 p3 p4 p5 q0 q1 q2 q3 q4 q5
  obtain ⟨m1, n1⟩ := mul_bd p0 p1 q0 q1
  obtain ⟨m2, n2⟩ := mul_bd p2 p3 q2 q3
  obtain ⟨m3, n3⟩ := mul_bd p4 p5 q4 q5
  obtain ⟨h1, h2⟩ := prB_bd hp
  clear hp
  go_enter Try.func59, Try.ntmps59
  go_wp2_with (go_at_call 73; refine (mod_any _ _ _ (by omega) (by omega) (by omega) (by omega)).mono ?_; rintro e w' ⟨rfl, rfl⟩)
  go_ret
  exact ⟨rfl, (by repeat (first | exact Below.refl _ _ | refine bset ?_ _ _ (by omega) _ | refine bal ?_ _ | refine bdrN ?_ _ | refine bdr ?_))⟩
end Go.Proofs.Ytnpmdchphaenaaa
/- The first desk: both makings. -/
namespace Go.Proofs.Ytnpmdchphaenaaa
open Go.RowKit
set_option linter.unusedVariables false
set_option linter.unusedSimpArgs false
theorem run_loadRow {P : Program} {W : World} {g : Nat} {T : TypeId} {cs : Array Value} {fr : Nat × Nat} (ty : TypeId)
    (hg : W.heap[g]? = some (.cells cs T fr)) (n : Nat) (hn : cs.size = n) (hs : ∀ W, (sizeOf ty).run P W = .ok n W) (ha : ∀ W, (isAgg ty).run P W = .ok true W) : (loadVar ty ⟨g, 0, none⟩).run P W = .ok (.agg cs) W := by
  subst hn
  have hl : (loadCells ⟨g, 0, none⟩ cs.toList.length).run P W = .ok cs.toList.toArray W :=
    run_loadCells_list (P := P) W ⟨g, 0, none⟩ cs.toList (fun j v hv => by
      have hadd : (⟨g, 0, none⟩ : Addr).add j = ⟨g, j, none⟩ := by unfold Addr.add; split <;> simp_all
      rw [hadd, cell_of_row W g j cs T fr hg]
      simpa using hv)
  simp only [Array.length_toList, Array.toArray_toList] at hl
  unfold loadVar
  rw [Sem.run_bind, ha]
  simp only [Result.andThen_ok, if_true]
  rw [Sem.run_bind, hs]
  simp only [Result.andThen_ok]
  rw [Sem.run_bind, hl]
  rfl
theorem results_row {P : Program} {fn : Func} {tmps : Array Value} {t : Tmp} {W : World} {g : Nat} {T : TypeId} {cs : Array Value} {fr : Nat × Nat} {ty : TypeId} (h : fn.results = #[.cell t ty]) (ht : tmps.getD t undef = .pointer (some ⟨g, 0, none⟩))
    (hg : W.heap[g]? = some (.cells cs T fr)) (n : Nat) (hn : cs.size = n) (hs : ∀ W, (sizeOf ty).run P W = .ok n W) (ha : ∀ W, (isAgg ty).run P W = .ok true W) : (results fn tmps).run P W = .ok (.agg cs) W := by
  have hv := run_loadRow (P := P) ty hg n hn hs ha
  have ht' : tmps[t]?.getD undef = .pointer (some ⟨g, 0, none⟩) := by rw [← Array.getD_eq_getD_getElem?]; exact ht
  have hp : ∀ a : Addr, asAddr (.pointer (some a)) = pure a := fun _ => rfl
  simp [results, h, ht', hp, Sem.run_bind, Sem.run_pure, hv]
theorem wpList_store_row {P : Program} (w : World) {ops : Array Oper} {rest : List Oper} {o : Oper} {a : Act} {Q : Exit → Act → World → Prop}
    (hgd : o.guard = none) (ty : TypeId) (x y : Operand) (hop : o.op = .store ty x y) (hd : o.dst = none) {g : Nat} {T : TypeId} {cs U : Array Value} (hx : a.eval x = .pointer (some ⟨g, 0, none⟩)) (hy : a.eval y = .agg U)
    (hg : w.heap[g]? = some (.cells cs T (0, 0))) (hn : cs.size = U.size) (hs : ∀ W, (sizeOf ty).run P W = .ok U.size W) (h1 : ∀ v ∈ U.toList, v.oneCell' = true) (hK : wpList P ops Q rest a (w.setRow g U)) : wpList P ops Q (o :: rest) a w := by
  refine wpList_plain hgd fun K hK' => ?_
  unfold Oper.wp
  rw [run_store_row ty x y hop hx hy hg hn hs h1]
  simp only [Oper.upon, hd]
  exact hK' _ _ hK
theorem wpList_build {P : Program} (w : World) {ops : Array Oper} {rest : List Oper} {o : Oper} {a : Act} {Q : Exit → Act → World → Prop}
    (hgd : o.guard = none) (t : TypeId) (parts : Array (Nat × Operand)) (hop : o.op = .build t parts) (U : Array Value) (hb : P.built t (parts.map fun (i, x) => (i, a.eval x)).toList = some U)
    (hK : wpList P ops Q rest (a.put o.dst (.agg U)) w) : wpList P ops Q (o :: rest) a w := by
  refine wpList_plain hgd fun K hK' => wp_build t parts hop (by rw [hb]; rfl) ?_
  rw [hb]
  exact hK' _ _ hK
theorem hn_atN (w : World) (o : Obj) (n : Nat) (h : n = w.heap.size) : (w.alloc o).heap[n]? = some o := by subst h; exact heap_alloc_new w o
theorem hn_pastN (w : World) (o : Obj) (n : Nat) (h : n < w.heap.size) : (w.alloc o).heap[n]? = w.heap[n]? := by
  rw [heap_alloc_old]; exact h
theorem below_setRowN {B g : Nat} {w W : World} (h : Below B w W) (hg : B ≤ g) (cs : Array Value) : Below B w (W.setRow g cs) :=
  ⟨h.os, h.tape, h.output, by simpa [World.setRow] using h.size, fun k hk => (setRow_other W g k cs (by omega)).trans (h.block k hk)⟩
end Go.Proofs.Ytnpmdchphaenaaa
/- The desks compared. -/
namespace Go.Proofs.Ytnpmdchphaenaaa
open Go.RowKit
set_option linter.unusedVariables false
set_option linter.unusedSimpArgs false
theorem calm_loadPt' {P : Program} {o : Oper} {ρ : Operand → Value} {W : World} {g off : Nat} {x y z : Int} (ty : TypeId) (q : Operand) (ho : o.op = .load ty q) (hx : ρ q = .pointer (some ⟨g, off, none⟩))
    (h0 : W.cell? ⟨g, off, none⟩ = some (.int .i64 x)) (h1 : W.cell? ⟨g, off + 1, none⟩ = some (.int .i64 y)) (h2 : W.cell? ⟨g, off + 2, none⟩ = some (.int .i64 z)) (hs : ∀ W, (sizeOf ty).run P W = .ok 3 W) (ha : ∀ W, (isAgg ty).run P W = .ok true W) : calmAt P o ρ W (ptV x y z) := by
  have hl : (loadCells ⟨g, off, none⟩ 3).run P W = .ok #[.int .i64 x, .int .i64 y, .int .i64 z] W :=
    run_loadCells_list (P := P) W ⟨g, off, none⟩ [.int .i64 x, .int .i64 y, .int .i64 z] (fun j v hv => by
      have hadd : ∀ j, (⟨g, off, none⟩ : Addr).add j = ⟨g, off + j, none⟩ := by intro j; unfold Addr.add; split <;> simp_all
      rw [hadd]
      match j, hv with
      | 0, hv => simpa using h0.trans (by simpa using hv)
      | 1, hv => exact h1.trans (by simpa using hv)
      | 2, hv => exact h2.trans (by simpa using hv)
      | j + 3, hv => simp at hv)
  have hv : (loadVar ty ⟨g, off, none⟩).run P W = .ok (ptV x y z) W := by
    unfold loadVar
    rw [Sem.run_bind, ha]
    simp only [Result.andThen_ok, if_true]
    rw [Sem.run_bind, hs]
    simp only [Result.andThen_ok]
    rw [Sem.run_bind, hl]
    rfl
  refine ⟨?_⟩
  unfold calmRun execOp
  simp only [ho, hx, Instr.loadAt, Instr.sureAddr, Sem.run_bind, Sem.run_pure, Result.andThen_ok, hv, and_self]
end Go.Proofs.Ytnpmdchphaenaaa
/- The law FnExactNewDesk: walked. -/
namespace Go.Proofs.Ytnpmdchphaenaaa
open Go.RowKit
set_option linter.unusedVariables false
set_option linter.unusedSimpArgs false
theorem wpList_load_row {P : Program} (w : World) {ops : Array Oper} {rest : List Oper} {o : Oper} {a : Act} {Q : Exit → Act → World → Prop}
    (hgd : o.guard = none) (ty : TypeId) (x : Operand) (hop : o.op = .load ty x) {g : Nat} {T : TypeId} {cs : Array Value} {fr : Nat × Nat} (hx : a.eval x = .pointer (some ⟨g, 0, none⟩))
    (hg : w.heap[g]? = some (.cells cs T fr)) (n : Nat) (hn : cs.size = n) (hs : ∀ W, (sizeOf ty).run P W = .ok n W) (ha : ∀ W, (isAgg ty).run P W = .ok true W) (hK : wpList P ops Q rest (a.put o.dst (.agg cs)) w) : wpList P ops Q (o :: rest) a w := by
  refine wpList_plain hgd fun K hK' => ?_
  have hv := run_loadRow (P := P) ty hg n hn hs ha
  have hr : (execOp a.eval o).run P w = .ok (.value (.agg cs)) w := by
    unfold execOp
    simp only [hop, hx, Instr.loadAt, Instr.sureAddr, Sem.run_bind, Sem.run_pure, Result.andThen_ok, hv]
  unfold Oper.wp
  rw [hr]
  simp only [Oper.upon]
  exact hK' _ _ hK
theorem alloc_setRow (w : World) (Z U : Array Value) (T : TypeId) : (w.alloc (.cells Z T)).setRow w.heap.size U = w.alloc (.cells U T) := by
  unfold World.setRow World.alloc
  congr 1
  apply Array.ext
  · simp
  · intro i h1 h2
    simp only [Array.getElem_modify, Array.getElem_push]
    by_cases e : i < w.heap.size
    · have : w.heap.size ≠ i := by omega
      simp [e, this]
    · have : w.heap.size = i := by simp at h2; omega
      simp [e, this]
end Go.Proofs.Ytnpmdchphaenaaa
/- Contracts: the reference's normal lists and crossed numbers. -/
namespace Go.Proofs.Ytnpmdchphaenaaa
open Go.RowKit
set_option linter.unusedVariables false
set_option linter.unusedSimpArgs false
theorem own_base' {w : World} {base : Nat} {e : TypeId} {size n : Nat} {v : Value} {xs : List Value} (h : w.ownsRow base e size v n xs) (k : Nat) (hk : v.ownBlock = some k) : base ≤ k := by
  rcases h.2 with ⟨rfl, _⟩ | ⟨g, cap, cur, rfl, hb, _⟩
  · simp [Value.ownBlock] at hk
  · have : g = k := by simpa [Value.ownBlock] using hk
    omega
theorem ret_tb {v v' : Value} {a b : Bool} (hv : v = v') (h : a = b) : Ending.returned (.tuple #[v, .bool a]) = .returned (.tuple #[v', .bool b]) := by rw [hv, h]
def ints (l : List Int) : List Value := l.map (Value.int .i64)
theorem ints_snoc (l : List Int) (x : Int) : ints (l ++ [x]) = ints l ++ [.int .i64 x] := by simp [ints]
theorem new1 (wr : World) (x : Value) (T : TypeId) : ∀ (j : Nat) (u : Value), [x][j]? = some u → (wr.alloc (.cells #[x] T)).cell? ((⟨wr.heap.size, 0, none⟩ : Addr).add j) = some u := by
  intro j u hj
  cases j with
  | zero =>
    have e : x = u := by simpa using hj
    subst e
    exact World.cell?_alloc_at _ _ _ _ rfl
  | succ j => simp at hj
theorem one1 (k : IntKind) (x : Int) : ∀ u ∈ [Value.int k x], u.oneCell' = true := by
  intro u hu
  have e : u = .int k x := by simpa using hu
  subst e; rfl
/-- A new list of numbers, and whether it is other than 0. -/
structure NormPost (w : World) (p : Int) (l : List Int) (n : Nat) (e : Ending) (w' : World) : Prop where
  out : ∃ v, e = .returned (.tuple #[v, .bool (nzB p l)]) ∧ w'.ownsRow w.heap.size 2 1 v n (ints (normL p l)) ∧ Below w.heap.size w w'
theorem info64 : (Try.prog.info? 2).map (fun i => (i.zero, i.size, i.bytes)) = some (some (.int .i64 0), 1, 8) := by kernel_rfl
set_option maxHeartbeats 1000000 in
theorem l01Norm_any (p : Int) (b o n cap : Nat) (l : List Int) (w : World) (hp : prB p = true) (hl : l.length = n) (hn : n ≤ 1000000)
    (hc : ∀ i, i < n → w.cell? ⟨b, o + i, none⟩ = some (.int .i64 (l.getD i 0)))
    (hx : ∀ i, i < n → -4611686018427387904 ≤ l.getD i 0 ∧ l.getD i 0 ≤ 4611686018427387904) :
    Calls Try.prog 62 #[.int .i64 p, .slice (some ⟨b, o, none⟩) n cap] w (NormPost w p l n) := by
  obtain ⟨b1, b2⟩ := prB_bd hp
  have hpz : (p == 0) = false := beqf (by omega)
  have HL := Lib.hid hl; clear hl
  have HC := Lib.hid hc; clear hc
  have HX := Lib.hid hx; clear hx
  have HP := Lib.hid hp; clear hp
  obtain ⟨i0, hi, hz0, hz1, hz2⟩ := info_parts info64
  have HI0 := Lib.hid hi; have HZ0 := Lib.hid hz0; have HZ1 := Lib.hid hz1; have HZ2 := Lib.hid hz2
  clear hi hz0 hz1 hz2
  go_enter Try.func62, Try.ntmps62
  go_wp2
  go_loopw [6, 7, 8] (fun f v i wr => ∃ k : Nat, k ≤ n ∧ i = .int .i64 k ∧ f = .int .i64 (facL p (l.take k)) ∧ Hid (wr.ownsRow w.heap.size 2 1 v k (ints ((normL p l).take k))) ∧ Hid (Below w.heap.size w wr)) (fun _ _ i wr => n - (intOf i).toNat)
  case atStart =>
    refine ⟨0, Nat.zero_le _, rfl, by show Value.int .i64 0 = .int .i64 (invP p 0); rw [invP_zero p (by omega)], Lib.hid ?_, Lib.hid (by repeat (first | exact Below.refl _ _ | refine bset ?_ _ _ (by omega) _ | refine bal ?_ _ | refine bdrN ?_ _ | refine bdr ?_))⟩
    refine ⟨rfl, .inr ⟨w.heap.size, 0, #[], rfl, Nat.le_refl _, heap_alloc_new _ _, Nat.le_refl _, by unfold maxLen; omega, rfl, rfl⟩⟩
  case round =>
    obtain ⟨k, hk, rfl, rfl, HO, HB⟩ := hrel
    have hfb := facL_bd HP.out (l.take k)
    by_cases hlt : k < n
    · have hcell : wr.cell? ⟨b, o + k, none⟩ = some (.int .i64 (l.getD k 0)) := cell_below HB.out (HC.out k hlt)
      have HS : Hid ((normL p l).take (k + 1) = (normL p l).take k ++ [(l.getD k 0 % p) * facL p (l.take (k + 1)) % p]) := Lib.hid (by
        rw [take_snoc' _ 0 k (by rw [normL_length]; have := HL.out; omega), normL_at HP.out _ _ (by have := HL.out; omega)])
      have HF : Hid (facL p (l.take (k + 1)) = if facL p (l.take k) = 0 then invP p (l.getD k 0 % p) else facL p (l.take k)) := Lib.hid (by
        rw [take_snoc' l 0 k (by have := HL.out; omega), facL_snoc HP.out])
      have hxb := HX.out k hlt
      have HM := Lib.hid (l01Mod_any p (l.getD k 0) wr (by omega) (by omega) hxb.1 hxb.2)
      have hm0 : 0 ≤ l.getD k 0 % p := Int.emod_nonneg _ (by omega)
      have hm1 : l.getD k 0 % p < p := Int.emod_lt_of_pos _ (by omega)
      generalize l.getD k 0 = x at *
      generalize x % p = m at *
      generalize facL p (l.take k) = f at *
      by_cases hf0 : f = 0
      · have hF1 := HF.out; rw [if_pos hf0] at hF1
        have ht1 : (f == 0) = true := beqt hf0
        by_cases hm : m = 0
        · have ht2 : (m != 0) = false := bnef hm
          have HN : Hid (facL p (l.take (k + 1)) = f ∧ (normL p l).take (k + 1) = (normL p l).take k ++ [m * f % p]) := Lib.hid (by
            have e : facL p (l.take (k + 1)) = f := by rw [hF1, hm, invP_zero p (by omega), hf0]
            exact ⟨e, by rw [HS.out, e]⟩)
          clear HF HS hF1
          obtain ⟨m1, m2⟩ := mul_bd (a := m) (b := f) (A := 12) (B := 12) (by omega) (by omega) (by omega) (by omega)
          have HE := Lib.hid hf0; have HE2 := Lib.hid hm; clear hf0 hm
          go_wp2_with (first
            | (go_at_call 68; (with_reducible refine (HM.out).mono ?_); rintro e w' ⟨rfl, rfl⟩)
            | (at_builtin; refine wpList_append_own _ rfl _ _ 81 rfl w.heap.size 2 i0 (.int .i64 0) 1 8 Try.underlying81 HI0.out HZ0.out HZ1.out HZ2.out rfl (by decide) _ _ _ rfl (HO.out.alloc _) ⟨wr.heap.size, 0, none⟩ 1 1 [.int .i64 (m * f % p)] rfl rfl (new1 _ _ _) (one1 _ _) (by unfold maxLen; omega) (by omega) (by have := HB.out.size; simp; omega) ?_; intro v2 w2 hown hgrow _; have HO2 := Lib.hid hown; have HG := Lib.hid hgrow; clear hown hgrow))
          go_roundw
          case rel => exact ⟨k + 1, by omega, by go_num, by rw [HN.out.1], Lib.hid (by rw [HN.out.2, ints_snoc]; exact HO2.out), Lib.hid ((bal HB.out _).grown HG.out (by have := HB.out.size; simp; omega) (fun k' hk' => own_base' HO.out k' hk'))⟩
          case measure => simp [intOf]; omega
        · have ht2 : (m != 0) = true := bnet hm
          have HI := Lib.hid (l01Inverse_any p m wr HP.out (by omega) (by omega) (by rw [Int.emod_eq_of_lt hm0 hm1]; omega))
          rw [Int.emod_eq_of_lt hm0 hm1] at HI
          have hvb := invP_bd HP.out hm0 hm1
          have HN : Hid (facL p (l.take (k + 1)) = invP p m ∧ (normL p l).take (k + 1) = (normL p l).take k ++ [m * invP p m % p]) := Lib.hid ⟨hF1, by rw [HS.out, hF1]⟩
          clear HF HS hF1
          generalize invP p m = g at *
          obtain ⟨m1, m2⟩ := mul_bd (a := m) (b := g) (A := 12) (B := 12) (by omega) (by omega) (by omega) (by omega)
          have HE := Lib.hid hf0; have HE2 := Lib.hid hm; clear hf0 hm
          go_wp2_with (first
            | (go_at_call 68; (with_reducible refine (HM.out).mono ?_); rintro e w' ⟨rfl, rfl⟩)
            | (go_at_call 78; (with_reducible refine (HI.out).mono ?_); rintro e w' ⟨rfl, rfl⟩)
            | (at_builtin; refine wpList_append_own _ rfl _ _ 81 rfl w.heap.size 2 i0 (.int .i64 0) 1 8 Try.underlying81 HI0.out HZ0.out HZ1.out HZ2.out rfl (by decide) _ _ _ rfl (HO.out.alloc _) ⟨wr.heap.size, 0, none⟩ 1 1 [.int .i64 (m * g % p)] rfl rfl (new1 _ _ _) (one1 _ _) (by unfold maxLen; omega) (by omega) (by have := HB.out.size; simp; omega) ?_; intro v2 w2 hown hgrow _; have HO2 := Lib.hid hown; have HG := Lib.hid hgrow; clear hown hgrow))
          go_roundw
          case rel => exact ⟨k + 1, by omega, by go_num, by rw [HN.out.1], Lib.hid (by rw [HN.out.2, ints_snoc]; exact HO2.out), Lib.hid ((bal HB.out _).grown HG.out (by have := HB.out.size; simp; omega) (fun k' hk' => own_base' HO.out k' hk'))⟩
          case measure => simp [intOf]; omega
      · have hF1 := HF.out; rw [if_neg hf0] at hF1
        have ht1 : (f == 0) = false := beqf hf0
        have HN : Hid (facL p (l.take (k + 1)) = f ∧ (normL p l).take (k + 1) = (normL p l).take k ++ [m * f % p]) := Lib.hid ⟨hF1, by rw [HS.out, hF1]⟩
        clear HF HS hF1
        obtain ⟨m1, m2⟩ := mul_bd (a := m) (b := f) (A := 12) (B := 12) (by omega) (by omega) (by omega) (by omega)
        have HE := Lib.hid hf0; clear hf0
        go_wp2_with (first
          | (go_at_call 68; (with_reducible refine (HM.out).mono ?_); rintro e w' ⟨rfl, rfl⟩)
          | (at_builtin; refine wpList_append_own _ rfl _ _ 81 rfl w.heap.size 2 i0 (.int .i64 0) 1 8 Try.underlying81 HI0.out HZ0.out HZ1.out HZ2.out rfl (by decide) _ _ _ rfl (HO.out.alloc _) ⟨wr.heap.size, 0, none⟩ 1 1 [.int .i64 (m * f % p)] rfl rfl (new1 _ _ _) (one1 _ _) (by unfold maxLen; omega) (by omega) (by have := HB.out.size; simp; omega) ?_; intro v2 w2 hown hgrow _; have HO2 := Lib.hid hown; have HG := Lib.hid hgrow; clear hown hgrow))
        go_roundw
        case rel => exact ⟨k + 1, by omega, by go_num, by rw [HN.out.1], Lib.hid (by rw [HN.out.2, ints_snoc]; exact HO2.out), Lib.hid ((bal HB.out _).grown HG.out (by have := HB.out.size; simp; omega) (fun k' hk' => own_base' HO.out k' hk'))⟩
        case measure => simp [intOf]; omega
    · have HT : Hid (l.take k = l ∧ (normL p l).take k = normL p l ∧ k = n) := Lib.hid ⟨List.take_of_length_le (by have := HL.out; omega), List.take_of_length_le (by rw [normL_length]; have := HL.out; omega), by omega⟩
      have HG : Hid ((facL p (l.take k) != 0) = nzB p l) := Lib.hid (by
        rw [HT.out.1]; unfold nzB
        rw [Bool.eq_iff_iff]; simp [facL_zero HP.out, firstNZ_eq_zero])
      generalize facL p (l.take k) = f at *
      go_wp2
      go_ret2
      refine ⟨u7, ret_tb rfl HG.out, ?_, HB.out⟩
      · have h := HO.out
        rw [HT.out.2.1, HT.out.2.2] at h; exact h

structure Norm3Post (w : World) (p x y z : Int) (e : Ending) (w' : World) : Prop where
  out : ∃ g cap, e = .returned (.tuple #[.slice (some ⟨g, 0, none⟩) 3 cap, .bool (nzB p [x, y, z])]) ∧ w.heap.size ≤ g ∧ g < w'.heap.size ∧
    w'.cell? ⟨g, 0, none⟩ = some (.int .i64 (nrm3 p x y z).1) ∧ w'.cell? ⟨g, 1, none⟩ = some (.int .i64 (nrm3 p x y z).2.1) ∧ w'.cell? ⟨g, 2, none⟩ = some (.int .i64 (nrm3 p x y z).2.2) ∧ Below w.heap.size w w'
/-- The point of three numbers, and whether there is one. -/
def made (p x y z : Int) : Pt × Bool := if nzB p [x, y, z] then (nrm3 p x y z, true) else ((0, 0, 0), false)
end Go.Proofs.Ytnpmdchphaenaaa
/- New slices of points. -/
namespace Go.Proofs.Ytnpmdchphaenaaa
open Go.RowKit
set_option linter.unusedVariables false
end Go.Proofs.Ytnpmdchphaenaaa
/- '==' on arrays of three int64. -/
namespace Go.Proofs.Ytnpmdchphaenaaa
open Go.RowKit
set_option linter.unusedVariables false
set_option linter.unusedSimpArgs false
theorem eq_arr3 {P : Program} (w : World) (d : Nat) {t e : TypeId} {i : TypeInfo} (hu : P.underlying t = some (.array 3 e)) (hi : P.info? e = some i) (he : P.plainKey e = true) (hk : P.underlying e = some (.int .i64)) (hc : P.cellsOf e = 1) (a0 a1 a2 b0 b1 b2 : Int) :
    (Op.equalIn (d + 1 + 1) t (ptV a0 a1 a2) (ptV b0 b1 b2)).run P w = .ok (a0 == b0 && (a1 == b1 && a2 == b2)) w := by
  have p : ∀ (x y z : Int), (part e #[.int .i64 x, .int .i64 y, .int .i64 z] 0).run P w = .ok (.int .i64 x) w ∧ (part e #[.int .i64 x, .int .i64 y, .int .i64 z] 1).run P w = .ok (.int .i64 y) w ∧ (part e #[.int .i64 x, .int .i64 y, .int .i64 z] 2).run P w = .ok (.int .i64 z) w :=
    fun x y z => ⟨run_part_plain w he rfl, run_part_plain w he rfl, run_part_plain w he rfl⟩
  rw [run_equalIn_array w (d + 1) _ _ hu hi, hc]
  simp only [List.range_succ_eq_map, List.range_zero, List.map_cons, List.map_nil, Op.eqItems, Nat.mul_one, Nat.succ_eq_add_one, Nat.zero_add, Nat.reduceAdd, Sem.run_bind, (p a0 a1 a2).1, (p b0 b1 b2).1, (p a0 a1 a2).2.1, (p b0 b1 b2).2.1, (p a0 a1 a2).2.2, (p b0 b1 b2).2.2, Result.andThen_ok, run_equalIn_int w d e .i64 .i64 _ _ hk]
  cases (a0 == b0) <;> cases h1 : (a1 == b1) <;> cases h2 : (a2 == b2) <;> simp [p, run_equalIn_int w d e .i64 .i64 _ _ hk, h1, h2]
/-- Whether two points are the same, number by number. -/
def eqP (a b : Pt) : Bool := a.1 == b.1 && (a.2.1 == b.2.1 && a.2.2 == b.2.2)
theorem eqP_iff {a b : Pt} : eqP a b = true ↔ a = b := by
  obtain ⟨a0, a1, a2⟩ := a
  obtain ⟨b0, b1, b2⟩ := b
  simp [eqP]
theorem eqAPt (w : World) (a0 a1 a2 b0 b1 b2 : Int) : (Op.equalIn 10000 34 (ptV a0 a1 a2) (ptV b0 b1 b2)).run Try.prog w = .ok (a0 == b0 && (a1 == b1 && a2 == b2)) w :=
  eq_arr3 (i := Try.t2) w 9998 Try.underlying34 (by kernel_rfl) (by kernel_rfl) Try.underlying2 (by kernel_rfl) _ _ _ _ _ _
@[go_sem high] theorem eqPo (w : World) (a0 a1 a2 b0 b1 b2 : Int) : (binOp .eql 34 (ptV a0 a1 a2) (ptV b0 b1 b2)).run Try.prog w = .ok (.bool (eqP (a0, a1, a2) (b0, b1, b2))) w := by
  rw [run_eql_struct, eqAPt]; rfl
@[go_sem high] theorem nePo (w : World) (a0 a1 a2 b0 b1 b2 : Int) : (binOp .neq 34 (ptV a0 a1 a2) (ptV b0 b1 b2)).run Try.prog w = .ok (.bool (!eqP (a0, a1, a2) (b0, b1, b2))) w := by
  rw [run_neq_struct, eqAPt]; rfl
end Go.Proofs.Ytnpmdchphaenaaa
/- Contracts: crossing of lines in the reference; far lines. -/
namespace Go.Proofs.Ytnpmdchphaenaaa
open Go.RowKit
set_option linter.unusedVariables false
set_option linter.unusedSimpArgs false
theorem crs_bd {p a0 a1 a2 b0 b1 b2 : Int} (ha : In13 (a0, a1, a2)) (hb : In13 (b0, b1, b2)) :
    ((0 ≤ a1 * b2 ∧ a1 * b2 ≤ 144) ∧ (0 ≤ a2 * b1 ∧ a2 * b1 ≤ 144)) ∧ ((0 ≤ a2 * b0 ∧ a2 * b0 ≤ 144) ∧ (0 ≤ a0 * b2 ∧ a0 * b2 ≤ 144)) ∧ ((0 ≤ a0 * b1 ∧ a0 * b1 ≤ 144) ∧ (0 ≤ a1 * b0 ∧ a1 * b0 ≤ 144)) := by
  obtain ⟨⟨p0, p1⟩, ⟨p2, p3⟩, ⟨p4, p5⟩⟩ := ha
  obtain ⟨⟨q0, q1⟩, ⟨q2, q3⟩, ⟨q4, q5⟩⟩ := hb
  exact ⟨⟨mul_bd p2 p3 q4 q5, mul_bd p4 p5 q2 q3⟩, ⟨mul_bd p4 p5 q0 q1, mul_bd p0 p1 q4 q5⟩, mul_bd p0 p1 q2 q3, mul_bd p2 p3 q0 q1⟩
end Go.Proofs.Ytnpmdchphaenaaa
/- A region that draws its order, holds guarded operations, and stores once into a block that is there (a result's cell). -/
namespace Go.Proofs.Ytnpmdchphaenaaa
open Go.RowKit
set_option linter.unusedVariables false
set_option linter.unusedSimpArgs false
structure RInvS (l : List Oper) (a0 aE : Act) (w0 : World) (B g0 s n : Nat) (T : TypeId) (U : Array Value) (listed : Array Bool) (a : Act) (w : World) : Prop where
  df : a.defers = aE.defers
  sz : a.tmps.size = aE.tmps.size
  len : listed.size = l.length
  fr1 : ∀ (j : Nat) (o : Oper) (t : Nat), l[j]? = some o → o.dst = some t → listed.getD j false = true → a.tmps.getD t undef = aE.tmps.getD t undef
  fr0 : ∀ t : Nat, (∀ (j : Nat) (o : Oper), l[j]? = some o → o.dst = some t → listed.getD j false = false) → a.tmps.getD t undef = a0.tmps.getD t undef
  bl : Below B w0 w
  big : B ≤ w.heap.size
  box : ∃ cs, w.heap[g0]? = some (.cells cs T (0, 0)) ∧ cs.size = n ∧ (listed.getD s false = true → cs = U)
section
variable {P : Program} {Q : Exit → Act → World → Prop} {l : List Oper} {a0 : Act} {w : World} {vs : List (Nat × Value)} {B g0 s n : Nat} {T : TypeId} {U : Array Value} {os : Oper}
/-- What the law asks of one operation that is not the store. -/
def CalmS (P : Program) (aE : Act) (w : World) (B : Nat) (l : List Oper) (o : Oper) : Prop := ∀ t, o.dst = some t →
  (Region.wanted o (yielded l.toArray aE.tmps) = true ∧ ∀ W, Below B w W → calmAt P o aE.eval W (aE.tmps.getD t undef)) ∨ (Region.wanted o (yielded l.toArray aE.tmps) = false ∧ aE.tmps.getD t undef = undef)
theorem CalmS.mk {P : Program} {aE : Act} {w : World} {B : Nat} {l : List Oper} {o : Oper} (t : Nat) (v : Value) (hd : o.dst = some t) (hv : aE.tmps.getD t undef = v) (hw : Region.wanted o (yielded l.toArray aE.tmps) = true) (h : ∀ W, Below B w W → calmAt P o aE.eval W v) : CalmS P aE w B l o := by
  intro t' hd'
  rw [hd] at hd'
  obtain rfl := Option.some.inj hd'
  exact .inl ⟨hw, fun W hW => by rw [hv]; exact h W hW⟩
end
end Go.Proofs.Ytnpmdchphaenaaa
/- Contracts: joins; what is made of three numbers. -/
namespace Go.Proofs.Ytnpmdchphaenaaa
open Go.RowKit
set_option linter.unusedVariables false
set_option linter.unusedSimpArgs false
end Go.Proofs.Ytnpmdchphaenaaa
/- Contracts: points on lines, determinants, three points of a line. -/
namespace Go.Proofs.Ytnpmdchphaenaaa
open Go.RowKit
set_option linter.unusedVariables false
set_option linter.unusedSimpArgs false
theorem mul_sb {a d : Int} (h0 : 0 ≤ a) (h1 : a ≤ 12) (g0 : -144 ≤ d) (g1 : d ≤ 144) : -1728 ≤ a * d ∧ a * d ≤ 1728 := by
  have u1 := Int.mul_le_mul_of_nonneg_left g1 h0
  have u2 := Int.mul_le_mul_of_nonneg_left g0 h0
  omega
/-- Whole numbers' determinant of three points. -/
def detZ (a b c : Pt) : Int := a.1 * (b.2.1 * c.2.2 - b.2.2 * c.2.1) + a.2.1 * (b.2.2 * c.1 - b.1 * c.2.2) + a.2.2 * (b.1 * c.2.1 - b.2.1 * c.1)
set_option maxHeartbeats 1000000 in
theorem l01Det_any (p a0 a1 a2 b0 b1 b2 c0 c1 c2 : Int) (w : World) (hp : prB p = true) (ha : In13 (a0, a1, a2)) (hb : In13 (b0, b1, b2)) (hc : In13 (c0, c1, c2)) :
    Calls Try.prog 84 #[.int .i64 p, ptV a0 a1 a2, ptV b0 b1 b2, ptV c0 c1 c2] w (Ret w (.int .i64 (detZ (a0, a1, a2) (b0, b1, b2) (c0, c1, c2) % p))) := by
  obtain ⟨⟨⟨m1, n1⟩, m2, n2⟩, ⟨⟨m3, n3⟩, m4, n4⟩, ⟨m5, n5⟩, m6, n6⟩ := crs_bd (p := p) hb hc
  obtain ⟨⟨p0, p1⟩, ⟨p2, p3⟩, ⟨p4, p5⟩⟩ := ha
  simp only at p0 p1 p2 p3 p4 p5
  obtain ⟨s1, t1⟩ := mul_sb (d := b1 * c2 - b2 * c1) p0 p1 (by omega) (by omega)
  obtain ⟨s2, t2⟩ := mul_sb (d := b2 * c0 - b0 * c2) p2 p3 (by omega) (by omega)
  obtain ⟨s3, t3⟩ := mul_sb (d := b0 * c1 - b1 * c0) p4 p5 (by omega) (by omega)
  have HM := Lib.hid (fun (W : World) => l01Mod_any p (a0 * (b1 * c2 - b2 * c1) + a1 * (b2 * c0 - b0 * c2) + a2 * (b0 * c1 - b1 * c0)) W (by have := prB_bd hp; omega) (by have := prB_bd hp; omega) (by omega) (by omega))
  have HE : Hid (detZ (a0, a1, a2) (b0, b1, b2) (c0, c1, c2) = a0 * (b1 * c2 - b2 * c1) + a1 * (b2 * c0 - b0 * c2) + a2 * (b0 * c1 - b1 * c0)) := Lib.hid rfl
  clear hp hb hc
  rw [HE.out]
  go_enter Try.func84, Try.ntmps84
  go_wp2_with (go_at_call 68; (with_reducible refine (HM.out _).mono ?_); rintro e w' ⟨rfl, rfl⟩)
  go_ret
  exact ⟨rfl, (by repeat (first | exact Below.refl _ _ | refine bset ?_ _ _ (by omega) _ | refine bal ?_ _ | refine bdrN ?_ _ | refine bdr ?_))⟩
set_option maxHeartbeats 1000000 in
theorem determinant_any (p a0 a1 a2 b0 b1 b2 c0 c1 c2 : Int) (w : World) (hp : prB p = true) (ha : In13 (a0, a1, a2)) (hb : In13 (b0, b1, b2)) (hc : In13 (c0, c1, c2)) :
    Calls Try.prog 83 #[.int .i64 p, ptV a0 a1 a2, ptV b0 b1 b2, ptV c0 c1 c2] w (Ret w (.int .i64 (detZ (a0, a1, a2) (b0, b1, b2) (c0, c1, c2) % p))) := by
  obtain ⟨⟨⟨m1, n1⟩, m2, n2⟩, ⟨⟨m3, n3⟩, m4, n4⟩, ⟨m5, n5⟩, m6, n6⟩ := crs_bd (p := p) hb hc
  obtain ⟨⟨p0, p1⟩, ⟨p2, p3⟩, ⟨p4, p5⟩⟩ := ha
  simp only at p0 p1 p2 p3 p4 p5
  obtain ⟨s1, t1⟩ := mul_sb (d := b1 * c2 - b2 * c1) p0 p1 (by omega) (by omega)
  obtain ⟨s2, t2⟩ := mul_sb (d := b0 * c2 - b2 * c0) p2 p3 (by omega) (by omega)
  obtain ⟨s3, t3⟩ := mul_sb (d := b0 * c1 - b1 * c0) p4 p5 (by omega) (by omega)
  have HE : Hid (detZ (a0, a1, a2) (b0, b1, b2) (c0, c1, c2) = a0 * (b1 * c2 - b2 * c1) - a1 * (b0 * c2 - b2 * c0) + a2 * (b0 * c1 - b1 * c0)) := Lib.hid (by
    show a0 * (b1 * c2 - b2 * c1) + a1 * (b2 * c0 - b0 * c2) + a2 * (b0 * c1 - b1 * c0) = _
    rw [show b2 * c0 - b0 * c2 = -(b0 * c2 - b2 * c0) by omega, Int.mul_neg]
    omega)
  have hpb := prB_bd hp
  rw [HE.out]
  have HM := Lib.hid (fun (W : World) => mod_any (a0 * (b1 * c2 - b2 * c1) - a1 * (b0 * c2 - b2 * c0) + a2 * (b0 * c1 - b1 * c0)) p W (by omega) (by omega) (by omega) (by omega))
  clear hp hb hc
  go_enter Try.func83, Try.ntmps83
  go_wp2_with (go_at_call 73; (with_reducible refine (HM.out _).mono ?_); rintro e w' ⟨rfl, rfl⟩)
  go_ret
  exact ⟨rfl, (by repeat (first | exact Below.refl _ _ | refine bset ?_ _ _ (by omega) _ | refine bal ?_ _ | refine bdrN ?_ _ | refine bdr ?_))⟩
end Go.Proofs.Ytnpmdchphaenaaa
/- Contracts: three points of a line. -/
namespace Go.Proofs.Ytnpmdchphaenaaa
open Go.RowKit
set_option linter.unusedVariables false
set_option linter.unusedSimpArgs false
/-- Three different points of one line. -/
def threeB (p : Int) (a b c : Pt) : Bool := !eqP a b && (!eqP a c && (!eqP b c && detZ a b c % p == 0))
end Go.Proofs.Ytnpmdchphaenaaa
/- Contracts: all points of a plane. -/
namespace Go.Proofs.Ytnpmdchphaenaaa
open Go.RowKit
set_option linter.unusedVariables false
set_option linter.unusedSimpArgs false
def ptC (a : Pt) : List Value := [.int .i64 a.1, .int .i64 a.2.1, .int .i64 a.2.2]
def ptCs (l : List Pt) : List Value := l.flatMap ptC
theorem ptCs_snoc (l : List Pt) (a : Pt) : ptCs (l ++ [a]) = ptCs l ++ ptC a := by simp [ptCs]
/-- The points with first number 0 up to the k-th; those with first number 1. -/
def pA (k : Nat) : List Pt := (0, 0, 1) :: (List.range k).map (fun z : Nat => (0, 1, (z : Int)))
def pR (n y : Nat) : List Pt := (List.range n).map (fun z : Nat => (1, (y : Int), (z : Int)))
def pB (n y : Nat) : List Pt := pA n ++ (List.range y).flatMap (pR n)
def allP (n : Nat) : List Pt := pB n n
theorem pA_succ (k : Nat) : pA (k + 1) = pA k ++ [(0, 1, (k : Int))] := by simp [pA, List.range_succ]
theorem pR_succ (n y : Nat) : pR (n + 1) y = pR n y ++ [(1, (y : Int), (n : Int))] := by simp [pR, List.range_succ]
theorem pB_succ (n y : Nat) : pB n (y + 1) = pB n y ++ pR n y := by simp [pB, List.range_succ]
theorem pA_length (k : Nat) : (pA k).length = k + 1 := by simp [pA]
theorem pR_length (n y : Nat) : (pR n y).length = n := by simp [pR]
theorem pB_length (n y : Nat) : (pB n y).length = n + 1 + y * n := by
  induction y with
  | zero => simp [pB, pA_length]
  | succ y ih => rw [pB_succ, List.length_append, ih, pR_length, Nat.succ_mul]; omega
/-- A new list of points. -/
structure PtsPost (w : World) (l : List Pt) (e : Ending) (w' : World) : Prop where
  out : ∃ v, e = .returned v ∧ w'.ownsRow w.heap.size 34 3 v l.length (ptCs l) ∧ Below w.heap.size w w'
theorem infoPo : (Try.prog.info? 34).map (fun i => (i.zero, i.size, i.bytes)) = some (some (.agg #[.int .i64 0, .int .i64 0, .int .i64 0]), 3, 24) := by kernel_rfl
theorem newP (wr : World) (x y z : Value) (T : TypeId) : ∀ (j : Nat) (u : Value), [x, y, z][j]? = some u → (wr.alloc (.cells #[x, y, z] T)).cell? ((⟨wr.heap.size, 0, none⟩ : Addr).add j) = some u := by
  intro j u hj
  have e : (wr.alloc (.cells #[x, y, z] T)).cell? ((⟨wr.heap.size, 0, none⟩ : Addr).add j) = #[x, y, z][j]? := by
    have hadd : (⟨wr.heap.size, 0, none⟩ : Addr).add j = ⟨wr.heap.size, j, none⟩ := by unfold Addr.add; split <;> simp_all
    rw [hadd, World.cell?_alloc_at _ _ _ _ rfl]
  rw [e]; simpa using hj
theorem oneP (x y z : Int) : ∀ u ∈ [Value.int .i64 x, .int .i64 y, .int .i64 z], u.oneCell' = true := by
  intro u hu
  simp only [List.mem_cons, List.not_mem_nil, or_false] at hu
  rcases hu with rfl | rfl | rfl <;> rfl
set_option maxHeartbeats 1600000 in
theorem l01Points_any (n : Nat) (w : World) (hn : 3 ≤ n ∧ n ≤ 13) :
    Calls Try.prog 18 #[.int .i64 (n : Int)] w (PtsPost w (allP n)) := by
  obtain ⟨n3, n13⟩ := hn
  obtain ⟨i0, hi, hz0, hz1, hz2⟩ := info_parts infoPo
  have HI0 := Lib.hid hi; have HZ0 := Lib.hid hz0; have HZ1 := Lib.hid hz1; have HZ2 := Lib.hid hz2
  clear hi hz0 hz1 hz2
  go_enter Try.func18, Try.ntmps18
  go_wp2
  go_loopw [3, 4] (fun v i wr => ∃ k : Nat, k ≤ n ∧ i = .int .i64 k ∧ Hid (wr.ownsRow w.heap.size 34 3 v (k + 1) (ptCs (pA k))) ∧ Hid (Below w.heap.size w wr)) (fun _ i wr => n - (intOf i).toNat)
  case atStart =>
    refine ⟨0, Nat.zero_le _, rfl, Lib.hid ?_, Lib.hid (by repeat (first | exact Below.refl _ _ | refine bset ?_ _ _ (by omega) _ | refine bal ?_ _ | refine bdrN ?_ _ | refine bdr ?_))⟩
    refine ⟨rfl, .inr ⟨w.heap.size, 1, #[.int .i64 0, .int .i64 0, .int .i64 1], rfl, Nat.le_refl _, heap_alloc_new _ _, Nat.le_refl _, by unfold maxLen; omega, rfl, rfl⟩⟩
  case round =>
    obtain ⟨k, hk, rfl, HO, HB⟩ := hrel
    by_cases hlt : k < n
    · have HN := Lib.hid (pA_succ k)
      go_wp2_with (at_builtin; refine wpList_append_own _ rfl _ _ 39 rfl w.heap.size 34 i0 (.agg #[.int .i64 0, .int .i64 0, .int .i64 0]) 3 24 Try.underlying39 HI0.out HZ0.out HZ1.out HZ2.out rfl (by decide) _ _ _ rfl (HO.out.alloc _) ⟨wr.heap.size, 0, none⟩ 1 1 [.int .i64 0, .int .i64 1, .int .i64 (k : Int)] rfl rfl (newP _ _ _ _ _) (oneP _ _ _) (by unfold maxLen; omega) (by omega) (by have := HB.out.size; simp; omega) ?_; intro v2 w2 hown hgrow _; have HO2 := Lib.hid hown; have HG := Lib.hid hgrow; clear hown hgrow)
      go_roundw
      case rel => exact ⟨k + 1, by omega, by go_num, Lib.hid (by rw [HN.out, ptCs_snoc]; exact HO2.out), Lib.hid ((bal HB.out _).grown HG.out (by have := HB.out.size; simp; omega) (fun k' hk' => own_base' HO.out k' hk'))⟩
      case measure => simp [intOf]; omega
    · have hkn : k = n := by omega
      subst hkn
      clear hlt hk
      go_wp2
      go_loopw [3, 5, 6] (fun v i z wr => ∃ j : Nat, j ≤ k ∧ i = .int .i64 j ∧ Hid (wr.ownsRow w.heap.size 34 3 v (k + 1 + j * k) (ptCs (pB k j))) ∧ Hid (Below w.heap.size w wr)) (fun _ i _ wr => k - (intOf i).toNat)
      case atStart =>
        exact ⟨0, Nat.zero_le _, rfl, Lib.hid (by have h := HO.out; simpa [pB] using h), HB⟩
      case round =>
        clear HO HB
        obtain ⟨j, hj, rfl, HO, HB⟩ := hrel
        by_cases hlt : j < k
        · have hjk : j * k ≤ 169 := Nat.mul_le_mul (show j ≤ 13 by omega) n13
          generalize hJ : j * k = J at *
          go_wp2
          go_loopw [3, 6] (fun v i wr => ∃ m : Nat, m ≤ k ∧ i = .int .i64 m ∧ Hid (wr.ownsRow w.heap.size 34 3 v (k + 1 + J + m) (ptCs (pB k j ++ pR m j))) ∧ Hid (Below w.heap.size w wr)) (fun _ i wr => k - (intOf i).toNat)
          case atStart =>
            exact ⟨0, Nat.zero_le _, rfl, Lib.hid (by have h := HO.out; simpa [pR] using h), HB⟩
          case round =>
            clear HO HB
            obtain ⟨m, hm, rfl, HO, HB⟩ := hrel
            by_cases hlm : m < k
            · have HN := Lib.hid (show pB k j ++ pR (m + 1) j = (pB k j ++ pR m j) ++ [(1, (j : Int), (m : Int))] by rw [pR_succ, List.append_assoc])
              go_wp2_with (at_builtin; refine wpList_append_own _ rfl _ _ 39 rfl w.heap.size 34 i0 (.agg #[.int .i64 0, .int .i64 0, .int .i64 0]) 3 24 Try.underlying39 HI0.out HZ0.out HZ1.out HZ2.out rfl (by decide) _ _ _ rfl (HO.out.alloc _) ⟨wr.heap.size, 0, none⟩ 1 1 [.int .i64 1, .int .i64 (j : Int), .int .i64 (m : Int)] rfl rfl (newP _ _ _ _ _) (oneP _ _ _) (by unfold maxLen; omega) (by omega) (by have := HB.out.size; simp; omega) ?_; intro v2 w2 hown hgrow _; have HO2 := Lib.hid hown; have HG := Lib.hid hgrow; clear hown hgrow)
              go_roundw
              case rel => exact ⟨m + 1, by omega, by go_num, Lib.hid (by rw [HN.out, ptCs_snoc]; exact HO2.out), Lib.hid ((bal HB.out _).grown HG.out (by have := HB.out.size; simp; omega) (fun k' hk' => own_base' HO.out k' hk'))⟩
              case measure => simp [intOf]; omega
            · have hmk : m = k := by omega
              subst hmk
              go_wp2
              go_roundw
              case rel => exact ⟨j + 1, by omega, by go_num, Lib.hid (by have h := HO.out; rw [pB_succ, Nat.succ_mul, hJ, show m + 1 + (J + m) = m + 1 + J + m by omega]; exact h), HB⟩
              case measure => simp [intOf]; omega
        · have hjk : j = k := by omega
          subst hjk
          go_wp2
          go_ret
          exact ⟨_, rfl, by have h := HO.out; rw [show allP j = pB j j from rfl, pB_length]; exact h, HB.out⟩
end Go.Proofs.Ytnpmdchphaenaaa
/- Contracts: all points of a plane: the program. -/
namespace Go.Proofs.Ytnpmdchphaenaaa
open Go.RowKit
set_option linter.unusedVariables false
set_option linter.unusedSimpArgs false
set_option maxHeartbeats 1600000 in
theorem allPoints_any (n : Nat) (w : World) (hn : 3 ≤ n ∧ n ≤ 13) :
    Calls Try.prog 36 #[.int .i64 (n : Int)] w (PtsPost w (allP n)) := by
  obtain ⟨n3, n13⟩ := hn
  obtain ⟨i0, hi, hz0, hz1, hz2⟩ := info_parts infoPo
  have HI0 := Lib.hid hi; have HZ0 := Lib.hid hz0; have HZ1 := Lib.hid hz1; have HZ2 := Lib.hid hz2
  clear hi hz0 hz1 hz2
  go_enter Try.func36, Try.ntmps36
  go_wp2
  go_loopw [3, 10] (fun v i wr => ∃ k : Nat, k ≤ n ∧ i = .int .i64 k ∧ Hid (wr.ownsRow w.heap.size 34 3 v (k + 1) (ptCs (pA k))) ∧ Hid (Below w.heap.size w wr)) (fun _ i wr => n - (intOf i).toNat)
  case atStart =>
    refine ⟨0, Nat.zero_le _, rfl, Lib.hid ?_, Lib.hid (by repeat (first | exact Below.refl _ _ | refine bset ?_ _ _ (by omega) _ | refine bal ?_ _ | refine bdrN ?_ _ | refine bdr ?_))⟩
    refine ⟨rfl, .inr ⟨w.heap.size, 1, #[.int .i64 0, .int .i64 0, .int .i64 1], rfl, Nat.le_refl _, heap_alloc_new _ _, Nat.le_refl _, by unfold maxLen; omega, rfl, rfl⟩⟩
  case round =>
    obtain ⟨k, hk, rfl, HO, HB⟩ := hrel
    by_cases hlt : k < n
    · have HN := Lib.hid (pA_succ k)
      go_wp2_with (at_builtin; refine wpList_append_own _ rfl _ _ 39 rfl w.heap.size 34 i0 (.agg #[.int .i64 0, .int .i64 0, .int .i64 0]) 3 24 Try.underlying39 HI0.out HZ0.out HZ1.out HZ2.out rfl (by decide) _ _ _ rfl (HO.out.alloc _) ⟨wr.heap.size, 0, none⟩ 1 1 [.int .i64 0, .int .i64 1, .int .i64 (k : Int)] rfl rfl (newP _ _ _ _ _) (oneP _ _ _) (by unfold maxLen; omega) (by omega) (by have := HB.out.size; simp; omega) ?_; intro v2 w2 hown hgrow _; have HO2 := Lib.hid hown; have HG := Lib.hid hgrow; clear hown hgrow)
      go_roundw
      case rel => exact ⟨k + 1, by omega, by go_num, Lib.hid (by rw [HN.out, ptCs_snoc]; exact HO2.out), Lib.hid ((bal HB.out _).grown HG.out (by have := HB.out.size; simp; omega) (fun k' hk' => own_base' HO.out k' hk'))⟩
      case measure => simp [intOf]; omega
    · have hkn : k = n := by omega
      subst hkn
      clear hlt hk
      go_wp2
      go_loopw [3, 20] (fun v i wr => ∃ j : Nat, j ≤ k ∧ i = .int .i64 j ∧ Hid (wr.ownsRow w.heap.size 34 3 v (k + 1 + j * k) (ptCs (pB k j))) ∧ Hid (Below w.heap.size w wr)) (fun _ i wr => k - (intOf i).toNat)
      case atStart =>
        exact ⟨0, Nat.zero_le _, rfl, Lib.hid (by have h := HO.out; simpa [pB] using h), HB⟩
      case round =>
        clear HO HB
        obtain ⟨j, hj, rfl, HO, HB⟩ := hrel
        by_cases hlt : j < k
        · have hjk : j * k ≤ 169 := Nat.mul_le_mul (show j ≤ 13 by omega) n13
          generalize hJ : j * k = J at *
          go_wp2
          go_loopw [3, 24] (fun v i wr => ∃ m : Nat, m ≤ k ∧ i = .int .i64 m ∧ Hid (wr.ownsRow w.heap.size 34 3 v (k + 1 + J + m) (ptCs (pB k j ++ pR m j))) ∧ Hid (Below w.heap.size w wr)) (fun _ i wr => k - (intOf i).toNat)
          case atStart =>
            exact ⟨0, Nat.zero_le _, rfl, Lib.hid (by have h := HO.out; simpa [pR] using h), HB⟩
          case round =>
            clear HO HB
            obtain ⟨m, hm, rfl, HO, HB⟩ := hrel
            by_cases hlm : m < k
            · have HN := Lib.hid (show pB k j ++ pR (m + 1) j = (pB k j ++ pR m j) ++ [(1, (j : Int), (m : Int))] by rw [pR_succ, List.append_assoc])
              go_wp2_with (at_builtin; refine wpList_append_own _ rfl _ _ 39 rfl w.heap.size 34 i0 (.agg #[.int .i64 0, .int .i64 0, .int .i64 0]) 3 24 Try.underlying39 HI0.out HZ0.out HZ1.out HZ2.out rfl (by decide) _ _ _ rfl (HO.out.alloc _) ⟨wr.heap.size, 0, none⟩ 1 1 [.int .i64 1, .int .i64 (j : Int), .int .i64 (m : Int)] rfl rfl (newP _ _ _ _ _) (oneP _ _ _) (by unfold maxLen; omega) (by omega) (by have := HB.out.size; simp; omega) ?_; intro v2 w2 hown hgrow _; have HO2 := Lib.hid hown; have HG := Lib.hid hgrow; clear hown hgrow)
              go_roundw
              case rel => exact ⟨m + 1, by omega, by go_num, Lib.hid (by rw [HN.out, ptCs_snoc]; exact HO2.out), Lib.hid ((bal HB.out _).grown HG.out (by have := HB.out.size; simp; omega) (fun k' hk' => own_base' HO.out k' hk'))⟩
              case measure => simp [intOf]; omega
            · have hmk : m = k := by omega
              subst hmk
              go_wp2
              go_roundw
              case rel => exact ⟨j + 1, by omega, by go_num, Lib.hid (by have h := HO.out; rw [pB_succ, Nat.succ_mul, hJ, show m + 1 + (J + m) = m + 1 + J + m by omega]; exact h), HB⟩
              case measure => simp [intOf]; omega
        · have hjk : j = k := by omega
          subst hjk
          go_wp2
          go_ret
          exact ⟨_, rfl, by have h := HO.out; rw [show allP j = pB j j from rfl, pB_length]; exact h, HB.out⟩
end Go.Proofs.Ytnpmdchphaenaaa
/- Lists of points: owned, read, filtered. -/
namespace Go.Proofs.Ytnpmdchphaenaaa
open Go.RowKit
set_option linter.unusedVariables false
set_option linter.unusedSimpArgs false
theorem ptCs_at : ∀ (l : List Pt) (i : Nat), i < l.length → (ptCs l)[i * 3]? = some (.int .i64 (l.getD i (0, 0, 0)).1) ∧ (ptCs l)[i * 3 + 1]? = some (.int .i64 (l.getD i (0, 0, 0)).2.1) ∧ (ptCs l)[i * 3 + 2]? = some (.int .i64 (l.getD i (0, 0, 0)).2.2)
  | [], i, h => by simp at h
  | a :: l, 0, _ => by simp [ptCs, ptC]
  | a :: l, i + 1, h => by
    have ih := ptCs_at l i (by simpa using h)
    have e : ∀ k, (ptCs (a :: l))[(i + 1) * 3 + k]? = (ptCs l)[i * 3 + k]? := by
      intro k
      have : ptCs (a :: l) = [.int .i64 a.1, .int .i64 a.2.1, .int .i64 a.2.2] ++ ptCs l := rfl
      rw [this, List.getElem?_append_right (by simp; omega)]
      congr 1
      simp; omega
    have e0 := e 0
    rw [Nat.add_zero, Nat.add_zero] at e0
    rw [e0, e 1, e 2]
    simpa using ih
theorem ptCs_length (l : List Pt) : (ptCs l).length = l.length * 3 := by
  induction l with
  | nil => rfl
  | cons a l ih =>
    have : ptCs (a :: l) = [.int .i64 a.1, .int .i64 a.2.1, .int .i64 a.2.2] ++ ptCs l := rfl
    rw [this, List.length_append, ih]; simp; omega
/-- An owned list of points, laid open. -/
theorem ownPts {W : World} {base : Nat} {T : TypeId} {v : Value} {l : List Pt} {n : Nat} (h : W.ownsRow base T 3 v n (ptCs l)) (hl : l.length = n) (hn : 0 < n) :
    ∃ g cap, v = .slice (some ⟨g, 0, none⟩) n cap ∧ base ≤ g ∧ g < W.heap.size ∧ PtsAt W g 0 n l := by
  rcases h.2 with ⟨_, h0⟩ | ⟨g, cap, cur, rfl, hb, hg, hle, _, hsz, htk⟩
  · exfalso
    have := ptCs_length l
    omega
  · refine ⟨g, cap, rfl, hb, (Array.getElem?_eq_some_iff.1 hg).1, fun i hi => ?_⟩
    obtain ⟨h1, h2, h3⟩ := ptCs_at l i (by omega)
    have hat : ∀ j, j < n * 3 → cur[j]? = (ptCs l)[j]? := by
      intro j hj
      rw [← htk, List.getElem?_take_of_lt (by omega)]; simp
    refine ⟨?_, ?_, ?_⟩
    · rw [cell_of_row W g _ _ _ _ hg, hat _ (by omega), Nat.zero_add]; exact h1
    · rw [cell_of_row W g _ _ _ _ hg, hat _ (by omega), Nat.zero_add]; exact h2
    · rw [cell_of_row W g _ _ _ _ hg, hat _ (by omega), Nat.zero_add]; exact h3
theorem own_low {W : World} {b b' : Nat} {T : TypeId} {size n : Nat} {v : Value} {xs : List Value} (h : W.ownsRow b T size v n xs) (hb : b' ≤ b) : W.ownsRow b' T size v n xs := by
  refine ⟨h.1, ?_⟩
  rcases h.2 with h0 | ⟨g, cap, cur, h1, h2, h3⟩
  · exact .inl h0
  · exact .inr ⟨g, cap, cur, h1, Nat.le_trans hb h2, h3⟩
/-- A point is loaded from anywhere in a block. -/
theorem calm_loadPt {P : Program} {o : Oper} {ρ : Operand → Value} {W : World} {g off : Nat} {x y z : Int} (ty : TypeId) (q : Operand) (ho : o.op = .load ty q) (hx : ρ q = .pointer (some ⟨g, off, none⟩))
    (h0 : W.cell? ⟨g, off, none⟩ = some (.int .i64 x)) (h1 : W.cell? ⟨g, off + 1, none⟩ = some (.int .i64 y)) (h2 : W.cell? ⟨g, off + 2, none⟩ = some (.int .i64 z)) (hs : ∀ W, (sizeOf ty).run P W = .ok 3 W) (ha : ∀ W, (isAgg ty).run P W = .ok true W) : calmAt P o ρ W (ptV x y z) := by
  have hl : (loadCells ⟨g, off, none⟩ 3).run P W = .ok #[.int .i64 x, .int .i64 y, .int .i64 z] W :=
    run_loadCells_list (P := P) W ⟨g, off, none⟩ [.int .i64 x, .int .i64 y, .int .i64 z] (fun j v hv => by
      have hadd : ∀ j, (⟨g, off, none⟩ : Addr).add j = ⟨g, off + j, none⟩ := by intro j; unfold Addr.add; split <;> simp_all
      rw [hadd]
      match j, hv with
      | 0, hv => simpa using h0.trans (by simpa using hv)
      | 1, hv => exact h1.trans (by simpa using hv)
      | 2, hv => exact h2.trans (by simpa using hv)
      | j + 3, hv => simp at hv)
  have hv : (loadVar ty ⟨g, off, none⟩).run P W = .ok (ptV x y z) W := by
    unfold loadVar
    rw [Sem.run_bind, ha]
    simp only [Result.andThen_ok, if_true]
    rw [Sem.run_bind, hs]
    simp only [Result.andThen_ok]
    rw [Sem.run_bind, hl]
    rfl
  refine ⟨?_⟩
  unfold calmRun execOp
  simp only [ho, hx, Instr.loadAt, Instr.sureAddr, Sem.run_bind, Sem.run_pure, Result.andThen_ok, hv, and_self]
end Go.Proofs.Ytnpmdchphaenaaa
/- Contracts: the points on a line, in the reference. -/
namespace Go.Proofs.Ytnpmdchphaenaaa
open Go.RowKit
set_option linter.unusedVariables false
set_option linter.unusedSimpArgs false
theorem allP_in {n : Nat} (hn : n ≤ 13) : ∀ a ∈ allP n, In13 a := by
  intro a ha
  simp only [allP, pB, pA, pR, List.mem_append, List.mem_cons, List.mem_map, List.mem_range, List.mem_flatMap] at ha
  have k : ∀ x y z : Int, 0 ≤ x → x ≤ 12 → 0 ≤ y → y ≤ 12 → 0 ≤ z → z ≤ 12 → In13 (x, y, z) := fun x y z a b c d e f => ⟨⟨a, b⟩, ⟨c, d⟩, e, f⟩
  rcases ha with (rfl | ⟨z, hz, rfl⟩) | ⟨y, hy, z, hz, rfl⟩
  · exact k _ _ _ (by omega) (by omega) (by omega) (by omega) (by omega) (by omega)
  · exact k _ _ _ (by omega) (by omega) (by omega) (by omega) (by omega) (by omega)
  · exact k _ _ _ (by omega) (by omega) (by omega) (by omega) (by omega) (by omega)
theorem allP_length (n : Nat) : (allP n).length = n + 1 + n * n := pB_length n n
theorem filter_snoc {α : Type} (f : α → Bool) (l : List α) (d : α) (k : Nat) (h : k < l.length) : (l.take (k + 1)).filter f = (l.take k).filter f ++ (if f (l.getD k d) then [l.getD k d] else []) := by
  rw [take_snoc' l d k h, List.filter_append, List.filter_cons, List.filter_nil]
theorem low_tr' {b B : Nat} {w W W' : World} (h : Below b w W) (k : Below B W W') (hb : b ≤ B) : Below b w W' :=
  ⟨k.os.trans h.os, k.tape.trans h.tape, k.output.trans h.output, Nat.le_trans h.size k.size, fun n hn => (k.block n (Nat.lt_of_lt_of_le hn hb)).trans (h.block n hn)⟩
theorem own_below {W W' : World} {b : Nat} {T : TypeId} {size n : Nat} {v : Value} {xs : List Value} (h : W.ownsRow b T size v n xs) (hb : Below W.heap.size W W') : W'.ownsRow b T size v n xs := by
  refine ⟨h.1, ?_⟩
  rcases h.2 with h0 | ⟨g, cap, cur, h1, h2, hg, h3⟩
  · exact .inl h0
  · exact .inr ⟨g, cap, cur, h1, h2, by rw [hb.block _ (Array.getElem?_eq_some_iff.1 hg).1]; exact hg, h3⟩
end Go.Proofs.Ytnpmdchphaenaaa
/- Contracts: slices.IndexFunc over points. -/
namespace Go.Proofs.Ytnpmdchphaenaaa
open Go.RowKit
set_option linter.unusedVariables false
set_option linter.unusedSimpArgs false
end Go.Proofs.Ytnpmdchphaenaaa
/- Plain words: points on and off a line. -/
namespace Go.Proofs.Ytnpmdchphaenaaa
set_option linter.unusedVariables false
set_option linter.unusedSimpArgs false
/-- A normal point is in the list of all. -/
theorem mem_allP {n : Nat} {x y z : Int} (h : ptB (n : Int) x y z = true) : (x, y, z) ∈ allP n := by
  obtain ⟨hp, h1, h2, h3, h4⟩ := pt_facts h
  simp only [allP, pB, pA, pR, List.mem_append, List.mem_cons, List.mem_map, List.mem_range, List.mem_flatMap]
  rcases h4 with rfl | ⟨rfl, rfl⟩ | ⟨rfl, rfl, rfl⟩
  · exact .inr ⟨y.toNat, by omega, z.toNat, by omega, by rw [Int.toNat_of_nonneg h2.1, Int.toNat_of_nonneg h3.1]⟩
  · exact .inl (.inr ⟨z.toNat, by omega, by rw [Int.toNat_of_nonneg h3.1]⟩)
  · exact .inl (.inl rfl)
end Go.Proofs.Ytnpmdchphaenaaa
/- Plain words: what is made normal is normal; lines of two points. -/
namespace Go.Proofs.Ytnpmdchphaenaaa
set_option linter.unusedVariables false
set_option linter.unusedSimpArgs false
theorem firstNZ_cons (a : Int) (l : List Int) : firstNZ (a :: l) = if a = 0 then firstNZ l else a := by
  unfold firstNZ
  rw [List.find?_cons]
  by_cases h : a = 0
  · have : (a != 0) = false := by simp [h]
    rw [this, if_pos h]
  · have : (a != 0) = true := by simp [h]
    rw [this, if_neg h]; rfl
/-- Three numbers, not all 0 modulo p, made normal: a point. -/
theorem nrm3_pt {p x y z : Int} (hp : prB p = true) (h : nzB p [x, y, z] = true) : ptB p (nrm3 p x y z).1 (nrm3 p x y z).2.1 (nrm3 p x y z).2.2 = true := by
  have hb := prB_bd hp
  have hx0 := Int.emod_nonneg x (show p ≠ 0 by omega)
  have hx1 := Int.emod_lt_of_pos x (show 0 < p by omega)
  have hy0 := Int.emod_nonneg y (show p ≠ 0 by omega)
  have hy1 := Int.emod_lt_of_pos y (show 0 < p by omega)
  have hz0 := Int.emod_nonneg z (show p ≠ 0 by omega)
  have hz1 := Int.emod_lt_of_pos z (show 0 < p by omega)
  have hn : ¬ (x % p = 0 ∧ y % p = 0 ∧ z % p = 0) := by
    intro ⟨a, b, c⟩
    simp [nzB, zerosB] at h
    omega
  have hf : facL p [x, y, z] = invP p (firstNZ [x % p, y % p, z % p]) := rfl
  unfold nrm3
  rw [hf]
  clear h hf
  have bd : ∀ t : Int, 0 ≤ t % p ∧ t % p ≤ p - 1 := fun t => ⟨Int.emod_nonneg _ (by omega), by have := Int.emod_lt_of_pos t (show 0 < p by omega); omega⟩
  have mk : ∀ a b c : Int, (0 ≤ a ∧ a ≤ p - 1) → (0 ≤ b ∧ b ≤ p - 1) → (0 ≤ c ∧ c ≤ p - 1) → (a = 1 ∨ (a = 0 ∧ b = 1) ∨ (a = 0 ∧ b = 0 ∧ c = 1)) → ptB p a b c = true := by
    intro a b c ha hb hc hd
    unfold ptB normB numsB
    simp only [hp, Bool.true_and, Bool.and_eq_true, List.all_cons, List.all_nil, Bool.and_true, numB_iff]
    refine ⟨?_, ha, hb, hc⟩
    rcases hd with rfl | ⟨rfl, rfl⟩ | ⟨rfl, rfl, rfl⟩ <;> rfl
  generalize x % p = a at *
  generalize y % p = b at *
  generalize z % p = c at *
  refine mk _ _ _ (bd _) (bd _) (bd _) ?_
  by_cases ha : a = 0
  · by_cases hb' : b = 0
    · have hc : c ≠ 0 := fun e => hn ⟨ha, hb', e⟩
      have e : firstNZ [a, b, c] = c := by rw [firstNZ_cons, if_pos ha, firstNZ_cons, if_pos hb', firstNZ_cons, if_neg hc]
      have hs := (invP_spec (p := p) (n := c) hp (by omega) (by omega)).2.2.1
      rw [e]; subst ha; subst hb'
      exact .inr (.inr ⟨by simp, by simp, hs⟩)
    · have e : firstNZ [a, b, c] = b := by rw [firstNZ_cons, if_pos ha, firstNZ_cons, if_neg hb']
      have hs := (invP_spec (p := p) (n := b) hp (by omega) (by omega)).2.2.1
      rw [e]; subst ha
      exact .inr (.inl ⟨by simp, hs⟩)
  · have e : firstNZ [a, b, c] = a := by rw [firstNZ_cons, if_neg ha]
    have hs := (invP_spec (p := p) (n := a) hp (by omega) (by omega)).2.2.1
    rw [e]
    exact .inl hs
end Go.Proofs.Ytnpmdchphaenaaa
/- Plain words: two different points have a line. -/
namespace Go.Proofs.Ytnpmdchphaenaaa
set_option linter.unusedVariables false
set_option linter.unusedSimpArgs false
def crsNz (p : Int) (a b : Pt) : Bool := (crs a b).1 % p != 0 || ((crs a b).2.1 % p != 0 || (crs a b).2.2 % p != 0)
def crsChk (n : Nat) : Bool := (allP n).all (fun a => (allP n).all (fun b => eqP a b || crsNz (n : Int) a b))
theorem crsChk3 : crsChk 3 = true := by decide +kernel
theorem crsChk5 : crsChk 5 = true := by decide +kernel
theorem crsChk7 : crsChk 7 = true := by decide +kernel
theorem crsChk11 : crsChk 11 = true := by decide +kernel
theorem crsChk13 : crsChk 13 = true := by decide +kernel
theorem crsChk_of {n : Nat} (hp : prB (n : Int) = true) : crsChk n = true := by
  have h := prB_cases hp
  have : n = 3 ∨ n = 5 ∨ n = 7 ∨ n = 11 ∨ n = 13 := by omega
  rcases this with rfl | rfl | rfl | rfl | rfl
  · exact crsChk3
  · exact crsChk5
  · exact crsChk7
  · exact crsChk11
  · exact crsChk13
end Go.Proofs.Ytnpmdchphaenaaa
/- Lists of points that are written to in place. -/
namespace Go.Proofs.Ytnpmdchphaenaaa
open Go.RowKit
set_option linter.unusedVariables false
set_option linter.unusedSimpArgs false
/-- A block of room for points. -/
def RoomP (W : World) (g cap : Nat) (T : TypeId) : Prop := ∃ cur, W.heap[g]? = some (.cells cur T (0, 0)) ∧ cur.size = cap * 3
theorem RoomP.set {W : World} {g cap : Nat} {T : TypeId} (h : RoomP W g cap T) (j : Nat) (v : Value) : RoomP (W.setCell ⟨g, j, none⟩ v) g cap T := by
  obtain ⟨cur, hb, hs⟩ := h
  exact ⟨cur.setIfInBounds j v, by simp [World.setCell, Array.getElem?_modify, hb], by simpa using hs⟩
theorem RoomP.sets {g cap : Nat} {T : TypeId} : ∀ (vs : List Value) (o : Nat) {W : World} (h : RoomP W g cap T), RoomP (W.setCells g o vs) g cap T
  | [], _, _, h => h
  | v :: r, o, _, h => RoomP.sets r (o + 1) (h.set o v)
theorem RoomP.frozen {W : World} {g cap : Nat} {T : TypeId} (h : RoomP W g cap T) (j : Nat) : W.frozen? ⟨g, j, none⟩ = false := by
  obtain ⟨cur, hb, hs⟩ := h
  exact frozen_of_row W g j _ _ hb
theorem RoomP.some {W : World} {g cap : Nat} {T : TypeId} (h : RoomP W g cap T) (j : Nat) (hj : j < cap * 3) : (W.cell? ⟨g, j, none⟩).isSome = true := by
  obtain ⟨cur, hb, hs⟩ := h
  rw [cell_of_row W g j _ _ _ hb]
  simp [hs, hj]
theorem RoomP.below {W W' : World} {g cap : Nat} {T : TypeId} (h : RoomP W g cap T) (hb : Below W.heap.size W W') : RoomP W' g cap T := by
  obtain ⟨cur, h1, hs⟩ := h
  exact ⟨cur, by rw [hb.block _ (Array.getElem?_eq_some_iff.1 h1).1]; exact h1, hs⟩
theorem RoomP.lt {W : World} {g cap : Nat} {T : TypeId} (h : RoomP W g cap T) : g < W.heap.size := by
  obtain ⟨cur, h1, hs⟩ := h
  exact (Array.getElem?_eq_some_iff.1 h1).1
/-- What has been moved down: the first i are those kept of the first j, from j on all is as it was. -/
structure Moved (f : Pt → Bool) (all : List Pt) (i j : Nat) (L : List Pt) : Prop where
  len : L.length = all.length
  lt : i < j
  head : L.take i = (all.take j).filter f
  rest : L.drop j = all.drop j
theorem Moved.at {f : Pt → Bool} {all L : List Pt} {i j : Nat} (h : Moved f all i j L) (hj : j < all.length) : L.getD j (0, 0, 0) = all.getD j (0, 0, 0) := by
  have h0 : (L.drop j)[0]? = (all.drop j)[0]? := by rw [h.rest]
  simp at h0
  simp [List.getD, h0]
theorem Moved.skip {f : Pt → Bool} {all L : List Pt} {i j : Nat} (h : Moved f all i j L) (hj : j < all.length) (hf : f (all.getD j (0, 0, 0)) = false) : Moved f all i (j + 1) L where
  len := h.len
  lt := by have := h.lt; omega
  head := by rw [h.head, filter_snoc f all (0, 0, 0) j hj, if_neg (by rw [hf]; decide), List.append_nil]
  rest := by
    have := congrArg (List.drop 1) h.rest
    simpa [List.drop_drop] using this
theorem Moved.done {f : Pt → Bool} {all L : List Pt} {i : Nat} (h : Moved f all i all.length L) : L.take i = all.filter f := by rw [h.head, List.take_length]
end Go.Proofs.Ytnpmdchphaenaaa
/- Contracts: slices.DeleteFunc over points. -/
namespace Go.Proofs.Ytnpmdchphaenaaa
open Go.RowKit
set_option linter.unusedVariables false
set_option linter.unusedSimpArgs false
theorem RoomP.alloc {W : World} {g cap : Nat} {T : TypeId} (h : RoomP W g cap T) (o : Obj) : RoomP (W.alloc o) g cap T := by
  have hl := h.lt
  obtain ⟨cur, h1, hs⟩ := h
  exact ⟨cur, by rw [heap_alloc_old]; exact h1; exact hl, hs⟩
end Go.Proofs.Ytnpmdchphaenaaa
/- Plain words: sets of numbers modulo n; difference sets. -/
namespace Go.Proofs.Ytnpmdchphaenaaa
set_option linter.unusedVariables false
set_option linter.unusedSimpArgs false
end Go.Proofs.Ytnpmdchphaenaaa
/- Contracts: the laws' own helpers on slices. -/
namespace Go.Proofs.Ytnpmdchphaenaaa
open Go.RowKit
set_option linter.unusedVariables false
set_option linter.unusedSimpArgs false
/-- How much room the laws leave behind a list of n. -/
def roomN (n : Nat) : Nat := if n % 6 = 5 then 0 else if n % 3 = 0 then 1 else n
end Go.Proofs.Ytnpmdchphaenaaa
/- Contracts: the laws' own lists of numbers: made with room behind, compared. -/
namespace Go.Proofs.Ytnpmdchphaenaaa
open Go.RowKit
set_option linter.unusedVariables false
set_option linter.unusedSimpArgs false
def IntsAt (w : World) (b o n : Nat) (l : List Int) : Prop := ∀ i, i < n → w.cell? ⟨b, o + i, none⟩ = some (.int .i64 (l.getD i 0))
theorem IntsAt.below {w w1 : World} {b o n : Nat} {l : List Int} (h : IntsAt w b o n l) (hb : Below w.heap.size w w1) : IntsAt w1 b o n l := fun i hi => cell_below hb (h i hi)
/-- A block of room for numbers. -/
def RoomI (W : World) (g cap : Nat) (T : TypeId) : Prop := ∃ cur, W.heap[g]? = some (.cells cur T (0, 0)) ∧ cur.size = cap
theorem RoomI.set {W : World} {g cap : Nat} {T : TypeId} (h : RoomI W g cap T) (j : Nat) (v : Value) : RoomI (W.setCell ⟨g, j, none⟩ v) g cap T := by
  obtain ⟨cur, hb, hs⟩ := h
  exact ⟨cur.setIfInBounds j v, by simp [World.setCell, Array.getElem?_modify, hb], by simpa using hs⟩
theorem RoomI.frozen {W : World} {g cap : Nat} {T : TypeId} (h : RoomI W g cap T) (j : Nat) : W.frozen? ⟨g, j, none⟩ = false := by
  obtain ⟨cur, hb, hs⟩ := h
  exact frozen_of_row W g j _ _ hb
theorem RoomI.some {W : World} {g cap : Nat} {T : TypeId} (h : RoomI W g cap T) (j : Nat) (hj : j < cap) : (W.cell? ⟨g, j, none⟩).isSome = true := by
  obtain ⟨cur, hb, hs⟩ := h
  rw [cell_of_row W g j _ _ _ hb]
  simp [hs, hj]
theorem RoomI.below {W W' : World} {g cap : Nat} {T : TypeId} (h : RoomI W g cap T) (hb : Below W.heap.size W W') : RoomI W' g cap T := by
  obtain ⟨cur, h1, hs⟩ := h
  exact ⟨cur, by rw [hb.block _ (Array.getElem?_eq_some_iff.1 h1).1]; exact h1, hs⟩
theorem RoomI.lt {W : World} {g cap : Nat} {T : TypeId} (h : RoomI W g cap T) : g < W.heap.size := by
  obtain ⟨cur, h1, hs⟩ := h
  exact (Array.getElem?_eq_some_iff.1 h1).1
def fillI : Int := -7000000000000000101
def withRoomI (l : List Int) : List Int := l ++ List.replicate (roomN l.length) fillI
structure LaidI (w : World) (l : List Int) (e : Ending) (w' : World) : Prop where
  out : ∃ g, e = .returned (.slice (some ⟨g, 0, none⟩) l.length (l.length + roomN l.length)) ∧ w.heap.size ≤ g ∧ RoomI w' g (l.length + roomN l.length) 2 ∧ IntsAt w' g 0 (l.length + roomN l.length) (withRoomI l) ∧ Below w.heap.size w w'
end Go.Proofs.Ytnpmdchphaenaaa
/- Contracts: the laws' own lists of points: made with room behind, compared. (Printed by geng1.py, a program of this session.) -/
namespace Go.Proofs.Ytnpmdchphaenaaa
open Go.RowKit
set_option linter.unusedVariables false
set_option linter.unusedSimpArgs false
def fillP : Pt := (-7000000000000000101, 0, 0)
/-- What the laws lay for a list: a new block with the list and room behind it. -/
def withRoomP (l : List Pt) : List Pt := l ++ List.replicate (roomN l.length) fillP
structure LaidP (T : TypeId) (w : World) (l : List Pt) (e : Ending) (w' : World) : Prop where
  out : ∃ g, e = .returned (.slice (some ⟨g, 0, none⟩) l.length (l.length + roomN l.length)) ∧ w.heap.size ≤ g ∧ RoomP w' g (l.length + roomN l.length) T ∧ PtsAt w' g 0 (l.length + roomN l.length) (withRoomP l) ∧ Below w.heap.size w w'
end Go.Proofs.Ytnpmdchphaenaaa
/- Contracts: the laws' own lists of points: compared, intact. (Printed by geng1.py, a program of this session.) -/
namespace Go.Proofs.Ytnpmdchphaenaaa
open Go.RowKit
set_option linter.unusedVariables false
set_option linter.unusedSimpArgs false
/-- A list of points in memory, somewhere; it may be empty. -/
def ListP (w : World) (b : Option Addr) (n : Nat) (l : List Pt) : Prop := l.length = n ∧ (0 < n → ∃ g off, b = some ⟨g, off, none⟩ ∧ PtsAt w g off n l)
theorem ListP.below {w w1 : World} {b : Option Addr} {n : Nat} {l : List Pt} (h : ListP w b n l) (hb : Below w.heap.size w w1) : ListP w1 b n l :=
  ⟨h.1, fun hn => by obtain ⟨g, off, e, hp⟩ := h.2 hn; exact ⟨g, off, e, hp.below hb⟩⟩
end Go.Proofs.Ytnpmdchphaenaaa
/- Contracts: the laws' own lists of lines: made with room behind, compared. (Printed by geng1.py, a program of this session.) -/
namespace Go.Proofs.Ytnpmdchphaenaaa
open Go.RowKit
set_option linter.unusedVariables false
set_option linter.unusedSimpArgs false
end Go.Proofs.Ytnpmdchphaenaaa
/- Contracts: the laws' own lists of lines: compared, intact. (Printed by geng1.py, a program of this session.) -/
namespace Go.Proofs.Ytnpmdchphaenaaa
open Go.RowKit
set_option linter.unusedVariables false
set_option linter.unusedSimpArgs false
end Go.Proofs.Ytnpmdchphaenaaa
/- Contracts: comparisons of points and lines; lists that may be empty. -/
namespace Go.Proofs.Ytnpmdchphaenaaa
open Go.RowKit
set_option linter.unusedVariables false
set_option linter.unusedSimpArgs false
end Go.Proofs.Ytnpmdchphaenaaa
/- Contracts: triples compared; lists that ascend. (Printed by genk2.py, a program of this session.) -/
namespace Go.Proofs.Ytnpmdchphaenaaa
open Go.RowKit
set_option linter.unusedVariables false
set_option linter.unusedSimpArgs false
end Go.Proofs.Ytnpmdchphaenaaa
/- Contracts: figures: points and lines, as the program and as the reference take them. -/
namespace Go.Proofs.Ytnpmdchphaenaaa
open Go.RowKit
set_option linter.unusedVariables false
set_option linter.unusedSimpArgs false
theorem arePoints_zero (p : Int) (b : Option Addr) (cap : Nat) (w : World) : Calls Try.prog 35 #[.int .i64 p, .slice b 0 cap] w (Ret w (.bool true)) := by
  go_enter Try.func35, Try.ntmps35
  go_wp2
  refine wp_loop_rounds 1 ?_
  rw [rounds_succ]; go_wp2
  go_ret
  exact ⟨rfl, Below.refl _ _⟩
theorem list_cases {w : World} {b : Option Addr} {n : Nat} {l : List Pt} (h : ListP w b n l) : (n = 0 ∧ l = []) ∨ ∃ g o, b = some ⟨g, o, none⟩ ∧ PtsAt w g o n l := by
  rcases Nat.eq_zero_or_pos n with e | e
  · exact .inl ⟨e, List.length_eq_zero_iff.1 (h.1.trans e)⟩
  · exact .inr (h.2 e)
theorem arePoints_list (p : Int) (b : Option Addr) (n cap : Nat) (l : List Pt) (w : World) (hn : n ≤ 1000000) (h : ListP w b n l) :
    Calls Try.prog 35 #[.int .i64 p, .slice b n cap] w (Ret w (.bool (ptsB p l))) := by
  rcases list_cases h with ⟨rfl, rfl⟩ | ⟨g, o, rfl, hp⟩
  · exact arePoints_zero p b cap w
  · exact arePoints_any p g o n cap l w h.1 (by omega) hp
/-- A figure's value. -/
@[reducible] def figV (b1 : Option Addr) (n1 c1 : Nat) (b2 : Option Addr) (n2 c2 : Nat) : Value := .agg #[.slice b1 n1 c1, .slice b2 n2 c2]
end Go.Proofs.Ytnpmdchphaenaaa
/- Contracts: slices.Grow of no list; slices.Concat of the three rows of a map. -/
namespace Go.Proofs.Ytnpmdchphaenaaa
open Go.RowKit
set_option linter.unusedVariables false
set_option linter.unusedSimpArgs false
structure OwnI (base : Nat) (w : World) (l : List Int) (e : Ending) (w' : World) : Prop where
  out : ∃ v, e = .returned v ∧ w'.ownsRow base 2 1 v l.length (ints l) ∧ Below base w w'
set_option maxRecDepth 100000 in
theorem grow64_nil (n : Nat) (w : World) (h0 : 0 < n) (hn : n ≤ 1000000) :
    Calls Try.prog 85 #[.slice none 0 0, .int .i64 (n : Int)] w (OwnI w.heap.size w []) := by
  obtain ⟨i0, hi, hz0, hz1, hz2⟩ := info_parts info64
  have HI0 := Lib.hid hi; have HZ0 := Lib.hid hz0; have HZ1 := Lib.hid hz1; have HZ2 := Lib.hid hz2
  clear hi hz0 hz1 hz2
  have hnz : (0 : Int) < (n : Int) := by omega
  go_enter Try.func85, Try.ntmps85
  go_wp2_with (at_builtin; refine Lib.wpList_append_run _ rfl _ _ 81 3 rfl _ _ rfl rfl _ _ (Lib.run_append_nil_zeros _ 81 3 _ 2 i0 (.int .i64 0) .i64 .i64 Try.underlying81 Try.underlying3 HI0.out HZ0.out n h0 (by rw [HZ1.out]; omega) (by omega) (by rw [HZ2.out]; omega)) ?_)
  go_ret
  have hge := grownCap_ge w n 0 2
  have hle := grownCap_le_maxLen w n 0 2 (by unfold maxLen; omega)
  refine ⟨_, rfl, ⟨rfl, .inr ⟨w.heap.size, _, _, rfl, Nat.le_refl _, heap_alloc_new _ _, Nat.zero_le _, hle, ?_, rfl⟩⟩, bal (bdr (Below.refl _ _)) _⟩
  simp [Builtin.zeroCells]
  omega
theorem take3 (l : List Int) (k : Nat) (h : k + 2 < l.length) : l.take (k + 3) = l.take k ++ [l.getD k 0, l.getD (k + 1) 0, l.getD (k + 2) 0] := by
  rw [take_snoc' l 0 (k + 2) h, take_snoc' l 0 (k + 1) (by omega), take_snoc' l 0 k (by omega)]
  simp
theorem ints_app (a b : List Int) : ints (a ++ b) = ints a ++ ints b := by simp [ints]
theorem src3 {W : World} {g o : Nat} {x y z : Int} (d0 : W.cell? ⟨g, o, none⟩ = some (.int .i64 x)) (d1 : W.cell? ⟨g, o + 1, none⟩ = some (.int .i64 y)) (d2 : W.cell? ⟨g, o + 2, none⟩ = some (.int .i64 z)) :
    ∀ (j : Nat) (u : Value), [Value.int .i64 x, .int .i64 y, .int .i64 z][j]? = some u → W.cell? ((⟨g, o, none⟩ : Addr).add j) = some u := by
  intro j u hj
  have hadd : ∀ j, (⟨g, o, none⟩ : Addr).add j = ⟨g, o + j, none⟩ := by intro j; unfold Addr.add; split <;> simp_all
  rw [hadd]
  match j, hj with
  | 0, hj => simpa using d0.trans (by simpa using hj)
  | 1, hj => exact d1.trans (by simpa using hj)
  | 2, hj => exact d2.trans (by simpa using hj)
  | j + 3, hj => simp at hj
set_option maxRecDepth 100000 in
set_option maxHeartbeats 2000000 in
theorem concat9 (h g k0 k1 k2 : Nat) (l : List Int) (w : World) (hl : l.length = 9) (hA : ∀ i, i < 9 → w.cell? ⟨g, 0 + i, none⟩ = some (.int .i64 (l.getD i 0)))
    (h0 : w.cell? ⟨h, 0, none⟩ = some (.slice (some ⟨g, 0, none⟩) 3 k0)) (h1 : w.cell? ⟨h, 1, none⟩ = some (.slice (some ⟨g, 3, none⟩) 3 k1)) (h2 : w.cell? ⟨h, 2, none⟩ = some (.slice (some ⟨g, 6, none⟩) 3 k2)) :
    Calls Try.prog 79 #[.slice (some ⟨h, 0, none⟩) 3 3] w (OwnI w.heap.size w l) := by
  obtain ⟨i0, hi, hz0, hz1, hz2⟩ := info_parts info64
  have HI0 := Lib.hid hi; have HZ0 := Lib.hid hz0; have HZ1 := Lib.hid hz1; have HZ2 := Lib.hid hz2
  have HA := Lib.hid hA
  have HL := Lib.hid hl
  have hgl : g < w.heap.size := World.block_lt_of_cell? w _ (hA 0 (by omega))
  have hhl : h < w.heap.size := World.block_lt_of_cell? w _ h0
  have HGr : Hid (∀ W : World, Calls Try.prog 85 #[.slice none 0 0, .int .i64 9] W (OwnI W.heap.size W [])) := Lib.hid (fun (W : World) => grow64_nil 9 W (by omega) (by omega))
  clear hi hz0 hz1 hz2 hA hl
  go_enter Try.func79, Try.ntmps79
  go_wp2
  go_loop [3, 11] (fun s i => ∃ k : Nat, k ≤ 3 ∧ i = .int .i64 k ∧ s = .int .i64 ((3 * k : Nat) : Int)) (fun _ i => 3 - (intOf i).toNat)
  case atStart => exact ⟨0, by omega, rfl, rfl⟩
  case round =>
    obtain ⟨k, hk, rfl, rfl⟩ := hrel
    rcases (show k = 0 ∨ k = 1 ∨ k = 2 ∨ k = 3 by omega) with rfl | rfl | rfl | rfl
    · go_wp2
      go_round
      case rel => exact ⟨1, by omega, rfl, rfl⟩
      case measure => simp [intOf]
    · go_wp2
      go_round
      case rel => exact ⟨2, by omega, rfl, rfl⟩
      case measure => simp [intOf]
    · go_wp2
      go_round
      case rel => exact ⟨3, by omega, rfl, rfl⟩
      case measure => simp [intOf]
    · go_wp2_with (go_at_call 85; (with_reducible refine (HGr.out _).mono ?_); rintro e w1 ⟨v1, rfl, ho, hb⟩; have HO1 := Lib.hid ho; have HB1 := Lib.hid hb; have hs1 := hb.size; clear ho hb)
      have e0 : w1.cell? ⟨h, 0, none⟩ = some (.slice (some ⟨g, 0, none⟩) 3 k0) := (HB1.out.cell hhl).trans h0
      go_loopw [6, 27] (fun v i wr => ∃ k : Nat, k ≤ 3 ∧ i = .int .i64 k ∧ Hid (wr.ownsRow w.heap.size 2 1 v (3 * k) (ints (l.take (3 * k)))) ∧ Hid (Below w.heap.size w wr)) (fun _ i wr => 3 - (intOf i).toNat)
      case atStart => exact ⟨0, by omega, rfl, HO1, HB1⟩
      case round =>
        clear HO1 HB1 hs1 e0
        obtain ⟨k, hk, rfl, HO, HB⟩ := hrel
        rcases (show k = 0 ∨ k = 1 ∨ k = 2 ∨ k = 3 by omega) with rfl | rfl | rfl | rfl
        · clear hk
          have c0 := HA.out 0 (by omega)
          have c1 := HA.out 1 (by omega)
          have c2 := HA.out 2 (by omega)
          simp only [Nat.zero_add] at c0 c1 c2
          have d0 : wr.cell? ⟨g, 0, none⟩ = some (.int .i64 (l.getD 0 0)) := (HB.out.cell hgl).trans c0
          have d1 : wr.cell? ⟨g, 1, none⟩ = some (.int .i64 (l.getD 1 0)) := (HB.out.cell hgl).trans c1
          have d2 : wr.cell? ⟨g, 2, none⟩ = some (.int .i64 (l.getD 2 0)) := (HB.out.cell hgl).trans c2
          have HS := Lib.hid (take3 l 0 (by have := HL.out; omega))
          have s0 : wr.cell? ⟨h, 0, none⟩ = some (.slice (some ⟨g, 0, none⟩) 3 k0) := (HB.out.cell hhl).trans h0
          generalize l.getD 0 0 = x at *
          generalize l.getD 1 0 = y at *
          generalize l.getD 2 0 = z at *
          clear c0 c1 c2
          go_wp2_with (at_builtin; refine wpList_append_own _ rfl _ _ 81 rfl w.heap.size 2 i0 (.int .i64 0) 1 8 Try.underlying81 HI0.out HZ0.out HZ1.out HZ2.out rfl (by decide) _ _ _ rfl HO.out ⟨g, 0, none⟩ 3 k0 [.int .i64 x, .int .i64 y, .int .i64 z] rfl rfl (src3 d0 d1 d2) (oneP _ _ _) (by unfold maxLen; omega) (by omega) HB.out.size ?_; intro v2 w2 hown hgrow _; have HO2 := Lib.hid hown; have HG := Lib.hid hgrow; clear hown hgrow)
          go_roundw
          case rel => exact ⟨1, by omega, rfl, Lib.hid (by rw [HS.out, ints_app]; exact HO2.out), Lib.hid (HB.out.grown HG.out HB.out.size (fun k' hk' => own_base' HO.out k' hk'))⟩
          case measure => simp [intOf]
        · clear hk
          have c0 := HA.out 3 (by omega)
          have c1 := HA.out 4 (by omega)
          have c2 := HA.out 5 (by omega)
          simp only [Nat.zero_add] at c0 c1 c2
          have d0 : wr.cell? ⟨g, 3, none⟩ = some (.int .i64 (l.getD 3 0)) := (HB.out.cell hgl).trans c0
          have d1 : wr.cell? ⟨g, 4, none⟩ = some (.int .i64 (l.getD 4 0)) := (HB.out.cell hgl).trans c1
          have d2 : wr.cell? ⟨g, 5, none⟩ = some (.int .i64 (l.getD 5 0)) := (HB.out.cell hgl).trans c2
          have HS := Lib.hid (take3 l 3 (by have := HL.out; omega))
          have s0 : wr.cell? ⟨h, 1, none⟩ = some (.slice (some ⟨g, 3, none⟩) 3 k1) := (HB.out.cell hhl).trans h1
          generalize l.getD 3 0 = x at *
          generalize l.getD 4 0 = y at *
          generalize l.getD 5 0 = z at *
          clear c0 c1 c2
          go_wp2_with (at_builtin; refine wpList_append_own _ rfl _ _ 81 rfl w.heap.size 2 i0 (.int .i64 0) 1 8 Try.underlying81 HI0.out HZ0.out HZ1.out HZ2.out rfl (by decide) _ _ _ rfl HO.out ⟨g, 3, none⟩ 3 k1 [.int .i64 x, .int .i64 y, .int .i64 z] rfl rfl (src3 d0 d1 d2) (oneP _ _ _) (by unfold maxLen; omega) (by omega) HB.out.size ?_; intro v2 w2 hown hgrow _; have HO2 := Lib.hid hown; have HG := Lib.hid hgrow; clear hown hgrow)
          go_roundw
          case rel => exact ⟨2, by omega, rfl, Lib.hid (by rw [HS.out, ints_app]; exact HO2.out), Lib.hid (HB.out.grown HG.out HB.out.size (fun k' hk' => own_base' HO.out k' hk'))⟩
          case measure => simp [intOf]
        · clear hk
          have c0 := HA.out 6 (by omega)
          have c1 := HA.out 7 (by omega)
          have c2 := HA.out 8 (by omega)
          simp only [Nat.zero_add] at c0 c1 c2
          have d0 : wr.cell? ⟨g, 6, none⟩ = some (.int .i64 (l.getD 6 0)) := (HB.out.cell hgl).trans c0
          have d1 : wr.cell? ⟨g, 7, none⟩ = some (.int .i64 (l.getD 7 0)) := (HB.out.cell hgl).trans c1
          have d2 : wr.cell? ⟨g, 8, none⟩ = some (.int .i64 (l.getD 8 0)) := (HB.out.cell hgl).trans c2
          have HS := Lib.hid (take3 l 6 (by have := HL.out; omega))
          have s0 : wr.cell? ⟨h, 2, none⟩ = some (.slice (some ⟨g, 6, none⟩) 3 k2) := (HB.out.cell hhl).trans h2
          generalize l.getD 6 0 = x at *
          generalize l.getD 7 0 = y at *
          generalize l.getD 8 0 = z at *
          clear c0 c1 c2
          go_wp2_with (at_builtin; refine wpList_append_own _ rfl _ _ 81 rfl w.heap.size 2 i0 (.int .i64 0) 1 8 Try.underlying81 HI0.out HZ0.out HZ1.out HZ2.out rfl (by decide) _ _ _ rfl HO.out ⟨g, 6, none⟩ 3 k2 [.int .i64 x, .int .i64 y, .int .i64 z] rfl rfl (src3 d0 d1 d2) (oneP _ _ _) (by unfold maxLen; omega) (by omega) HB.out.size ?_; intro v2 w2 hown hgrow _; have HO2 := Lib.hid hown; have HG := Lib.hid hgrow; clear hown hgrow)
          go_roundw
          case rel => exact ⟨3, by omega, rfl, Lib.hid (by rw [HS.out, ints_app]; exact HO2.out), Lib.hid (HB.out.grown HG.out HB.out.size (fun k' hk' => own_base' HO.out k' hk'))⟩
          case measure => simp [intOf]
        · have ht : l.take (3 * 3) = l := List.take_of_length_le (by have := HL.out; omega)
          have HO' := HO.out
          rw [ht] at HO'
          have hle := HL.out
          have HOh := Lib.hid HO'
          clear HO'
          go_wp2
          go_ret
          exact ⟨_, rfl, by rw [HL.out]; exact HOh.out, HB.out⟩
end Go.Proofs.Ytnpmdchphaenaaa
/- Contracts: the laws' own lists of points and lines, in one word; the laws' own figures. -/
namespace Go.Proofs.Ytnpmdchphaenaaa
open Go.RowKit
set_option linter.unusedVariables false
set_option linter.unusedSimpArgs false
/-- Laid with room behind. -/
structure LaidR (w : World) (n : Nat) (l : List Pt) (e : Ending) (w' : World) : Prop where
  out : ∃ g, e = .returned (.slice (some ⟨g, 0, none⟩) n (n + roomN n)) ∧ w.heap.size ≤ g ∧ g < w'.heap.size ∧ RoomP w' g (n + roomN n) 34 ∧ PtsAt w' g 0 (n + roomN n) (withRoomP l) ∧ Below w.heap.size w w'
/-- Laid, or nil. -/
structure LaidB (w : World) (n : Nat) (l : List Pt) (e : Ending) (w' : World) : Prop where
  out : ∃ b c, e = .returned (.slice b n c) ∧ ListP w' b n l ∧ (∀ a o, b = some ⟨a, o, none⟩ → w.heap.size ≤ a) ∧ Below w.heap.size w w'
end Go.Proofs.Ytnpmdchphaenaaa
/- Contracts: slices.Concat of two lists of points; the codes of two triples. -/
namespace Go.Proofs.Ytnpmdchphaenaaa
open Go.RowKit
set_option linter.unusedVariables false
set_option linter.unusedSimpArgs false
structure OwnP (base : Nat) (w : World) (n : Nat) (l : List Pt) (e : Ending) (w' : World) : Prop where
  out : ∃ v, e = .returned v ∧ w'.ownsRow base 34 3 v n (ptCs l) ∧ Below base w w'
/-- A list: no list, or laid open at an address. -/
def ListC (w : World) (b : Option Addr) (n c : Nat) (l : List Pt) : Prop := l.length = n ∧ ((b = none ∧ n = 0 ∧ c = 0) ∨ ∃ g, b = some ⟨g, 0, none⟩ ∧ PtsAt w g 0 n l)
theorem ListC.below {w w1 : World} {b : Option Addr} {n c : Nat} {l : List Pt} (h : ListC w b n c l) (hb : Below w.heap.size w w1) : ListC w1 b n c l := by
  refine ⟨h.1, ?_⟩
  rcases h.2 with h0 | ⟨g, e, hp⟩
  · exact .inl h0
  · exact .inr ⟨g, e, hp.below hb⟩
theorem ListC.list {w : World} {b : Option Addr} {n c : Nat} {l : List Pt} (h : ListC w b n c l) : ListP w b n l := by
  rcases h.2 with ⟨rfl, rfl, rfl⟩ | ⟨g, rfl, hp⟩
  · exact ⟨h.1, fun h0 => absurd h0 (Nat.lt_irrefl _)⟩
  · exact ⟨h.1, fun _ => ⟨g, 0, rfl, hp⟩⟩
theorem ptCs_app (a b : List Pt) : ptCs (a ++ b) = ptCs a ++ ptCs b := by simp [ptCs]
theorem ptCs_one (l : List Pt) : ∀ u ∈ ptCs l, u.oneCell' = true := by
  intro u hu
  obtain ⟨a, _, hu⟩ := List.mem_flatMap.1 hu
  simp only [ptC, List.mem_cons, List.not_mem_nil, or_false] at hu
  rcases hu with rfl | rfl | rfl <;> rfl
end Go.Proofs.Ytnpmdchphaenaaa
/- Plain words: a fourth harmonic point: the points it is made with are there. -/
namespace Go.Proofs.Ytnpmdchphaenaaa
set_option linter.unusedVariables false
set_option linter.unusedSimpArgs false
def headP (l : List Pt) : Pt := l.headD (0, 0, 0)
theorem nodup3 : (allP 3).Nodup := by decide +kernel
theorem nodup5 : (allP 5).Nodup := by decide +kernel
theorem nodup7 : (allP 7).Nodup := by decide +kernel
theorem nodup11 : (allP 11).Nodup := by decide +kernel
theorem nodup13 : (allP 13).Nodup := by decide +kernel
theorem nodup_allP {n : Nat} (hp : prB (n : Int) = true) : (allP n).Nodup := by
  have h := prB_cases hp
  have : n = 3 ∨ n = 5 ∨ n = 7 ∨ n = 11 ∨ n = 13 := by omega
  rcases this with rfl | rfl | rfl | rfl | rfl
  · exact nodup3
  · exact nodup5
  · exact nodup7
  · exact nodup11
  · exact nodup13
theorem allP_pt {n : Nat} (hp : prB (n : Int) = true) {a : Pt} (h : a ∈ allP n) : ptB (n : Int) a.1 a.2.1 a.2.2 = true := by
  have hb := prB_bd hp
  have mk : ∀ a b c : Int, (0 ≤ a ∧ a ≤ (n : Int) - 1) → (0 ≤ b ∧ b ≤ (n : Int) - 1) → (0 ≤ c ∧ c ≤ (n : Int) - 1) → (a = 1 ∨ (a = 0 ∧ b = 1) ∨ (a = 0 ∧ b = 0 ∧ c = 1)) → ptB (n : Int) a b c = true := by
    intro a b c ha hb hc hd
    unfold ptB normB numsB
    simp only [hp, Bool.true_and, Bool.and_eq_true, List.all_cons, List.all_nil, Bool.and_true, numB_iff]
    refine ⟨?_, ha, hb, hc⟩
    rcases hd with rfl | ⟨rfl, rfl⟩ | ⟨rfl, rfl, rfl⟩ <;> rfl
  simp only [allP, pB, pA, pR, List.mem_append, List.mem_cons, List.mem_map, List.mem_range, List.mem_flatMap] at h
  rcases h with (rfl | ⟨z, hz, rfl⟩) | ⟨y, hy, z, hz, rfl⟩
  · exact mk 0 0 1 (by omega) (by omega) (by omega) (.inr (.inr ⟨rfl, rfl, rfl⟩))
  · exact mk 0 1 z (by omega) (by omega) (by omega) (.inr (.inl ⟨rfl, rfl⟩))
  · exact mk 1 y z (by omega) (by omega) (by omega) (.inl rfl)
theorem mod_fac (p f x : Int) : ∃ q, x % p * f % p = x * f - p * q := by
  refine ⟨x / p * f + (x % p * f) / p, ?_⟩
  have h1 := Int.emod_add_mul_ediv x p
  have h2 := Int.emod_add_mul_ediv (x % p * f) p
  generalize x / p = q1 at *
  generalize (x % p * f) / p = q2 at *
  generalize x % p * f % p = r2 at *
  grind
/-- The first point off the line of a and b. -/
def quadR1 (n : Nat) (a b : Pt) : Pt := headP ((allP n).filter (fun x => !onB (n : Int) x (crsN n a b)))
/-- The first point of the line of a and r that is neither. -/
def quadS (n : Nat) (a r : Pt) : Pt := headP ((allP n).filter (fun x => onB (n : Int) x (crsN n a r) && (!eqP x a && !eqP x r)))
/-- The fourth harmonic point, and the code. -/
def quadR (p : Int) (a b c : Pt) : Pt × Int :=
  if codeOf p (ptsB p [a, b, c]) ≠ 0 then ((0, 0, 0), codeOf p (ptsB p [a, b, c])) else
  if threeB p a b c = false then ((0, 0, 0), 5) else
  let r := quadR1 p.toNat a b
  let s := quadS p.toNat a r
  let t := crsN p (crsN p b s) (crsN p c r)
  let u := crsN p (crsN p b r) (crsN p a t)
  (crsN p (crsN p a b) (crsN p s u), 0)
end Go.Proofs.Ytnpmdchphaenaaa
/- Plain words: numbers modulo a prime, cross products, and why Pappus' meets are different. -/
namespace Go.Proofs.Ytnpmdchphaenaaa
set_option linter.unusedVariables false
set_option linter.unusedSimpArgs false
theorem mul_dvd {p x y : Int} (hp : prB p = true) (h : p ∣ x * y) (hx : ¬ p ∣ x) : p ∣ y := by
  obtain ⟨h3, h13⟩ := prB_bd hp
  have h0 : 0 < x % p := by
    have h1 := Int.emod_nonneg x (show p ≠ 0 by omega)
    rcases Int.lt_or_eq_of_le h1 with h2 | h2
    · exact h2
    · exact (hx (Int.dvd_of_emod_eq_zero h2.symm)).elim
  have hs := (invP_spec hp h0 (Int.emod_lt_of_pos x (by omega))).2.2.1
  obtain ⟨q, hq⟩ := h
  have e1 := Int.emod_add_mul_ediv x p
  have e2 := Int.emod_add_mul_ediv (x % p * invP p (x % p)) p
  rw [hs] at e2
  generalize x % p * invP p (x % p) / p = k2 at *
  generalize invP p (x % p) = i at *
  generalize x / p = k1 at *
  generalize x % p = r at *
  exact ⟨i * q - k1 * i * y - k2 * y, by grind⟩
theorem mul_nd {p x y : Int} (hp : prB p = true) (hx : ¬ p ∣ x) (hy : ¬ p ∣ y) : ¬ p ∣ x * y := fun h => hy (mul_dvd hp h hx)
def dotI (a b : Pt) : Int := a.1 * b.1 + a.2.1 * b.2.1 + a.2.2 * b.2.2
/-- Not 0 modulo p. -/
def nzV (p : Int) (v : Pt) : Prop := ¬ (p ∣ v.1 ∧ p ∣ v.2.1 ∧ p ∣ v.2.2)
/-- v is k times w, modulo p. -/
def cg (p k : Int) (v w : Pt) : Prop := p ∣ v.1 - k * w.1 ∧ p ∣ v.2.1 - k * w.2.1 ∧ p ∣ v.2.2 - k * w.2.2
theorem cg_refl (p : Int) (v : Pt) : cg p 1 v v := ⟨⟨0, by grind⟩, ⟨0, by grind⟩, ⟨0, by grind⟩⟩
theorem dvd_pair {p k x y k' x' y' : Int} (h : p ∣ x - k * x') (h' : p ∣ y - k' * y') : p ∣ x * y - k * k' * (x' * y') := by
  obtain ⟨a, ha⟩ := h
  obtain ⟨b, hb⟩ := h'
  exact ⟨a * y + k * x' * b, by grind⟩
theorem dvd_sub2 {p a b K a' b' : Int} (h : p ∣ a - K * a') (h' : p ∣ b - K * b') : p ∣ (a - b) - K * (a' - b') := by
  obtain ⟨u, hu⟩ := h
  obtain ⟨v, hv⟩ := h'
  exact ⟨u - v, by grind⟩
theorem cg_crs {p k k' : Int} {x y x' y' : Pt} (h : cg p k x x') (h' : cg p k' y y') : cg p (k * k') (crs x y) (crs x' y') := by
  obtain ⟨h1, h2, h3⟩ := h
  obtain ⟨g1, g2, g3⟩ := h'
  refine ⟨dvd_sub2 (dvd_pair h2 g3) ?_, dvd_sub2 (dvd_pair h3 g1) ?_, dvd_sub2 (dvd_pair h1 g2) ?_⟩
  · exact dvd_pair h3 g2
  · exact dvd_pair h1 g3
  · exact dvd_pair h2 g1
theorem cg_trans {p k l : Int} {v w u : Pt} (h : cg p k v w) (h' : cg p l w u) : cg p (k * l) v u := by
  have one : ∀ {a b c : Int}, p ∣ a - k * b → p ∣ b - l * c → p ∣ a - k * l * c := by
    rintro a b c ⟨x, hx⟩ ⟨y, hy⟩
    exact ⟨x + k * y, by grind⟩
  exact ⟨one h.1 h'.1, one h.2.1 h'.2.1, one h.2.2 h'.2.2⟩
/-- Made normal, a vector is a multiple of itself, and no multiple by 0 if it is not 0. -/
theorem cg_nrm {p : Int} (hp : prB p = true) (v : Pt) : cg p (facL p [v.1, v.2.1, v.2.2]) (nrm3 p v.1 v.2.1 v.2.2) v := by
  obtain ⟨q0, e0⟩ := mod_fac p (facL p [v.1, v.2.1, v.2.2]) v.1
  obtain ⟨q1, e1⟩ := mod_fac p (facL p [v.1, v.2.1, v.2.2]) v.2.1
  obtain ⟨q2, e2⟩ := mod_fac p (facL p [v.1, v.2.1, v.2.2]) v.2.2
  refine ⟨⟨-q0, ?_⟩, ⟨-q1, ?_⟩, ⟨-q2, ?_⟩⟩
  · show v.1 % p * _ % p - _ = _; rw [e0]; grind
  · show v.2.1 % p * _ % p - _ = _; rw [e1]; grind
  · show v.2.2 % p * _ % p - _ = _; rw [e2]; grind
theorem fac_nd {p : Int} (hp : prB p = true) {v : Pt} (h : nzV p v) : ¬ p ∣ facL p [v.1, v.2.1, v.2.2] := by
  have hb := prB_bd hp
  have h0 : facL p [v.1, v.2.1, v.2.2] ≠ 0 := by
    intro e
    rw [facL_zero hp] at e
    have hz := firstNZ_eq_zero.1 e
    simp [zerosB] at hz
    exact h ⟨Int.dvd_of_emod_eq_zero hz.1, Int.dvd_of_emod_eq_zero hz.2.1, Int.dvd_of_emod_eq_zero hz.2.2⟩
  have h1 := firstNZ_mod_bd p [v.1, v.2.1, v.2.2] (by omega)
  have h2 : facL p [v.1, v.2.1, v.2.2] < p ∧ 0 ≤ facL p [v.1, v.2.1, v.2.2] := by
    unfold facL at h0 ⊢
    by_cases hz : firstNZ ([v.1, v.2.1, v.2.2].map (· % p)) = 0
    · rw [hz, invP_zero p (by omega)] at h0; exact (h0 rfl).elim
    · have := invP_spec hp (by omega) h1.2; omega
  intro hd
  have := Int.le_of_dvd (by omega) hd
  omega
end Go.Proofs.Ytnpmdchphaenaaa

