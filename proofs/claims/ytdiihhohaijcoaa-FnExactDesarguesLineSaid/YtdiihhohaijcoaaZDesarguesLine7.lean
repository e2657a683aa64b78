/- Texts of the claim, in build order: RegC, M2, M3, M4, M5, M6, M7, M8, S1, S2, S3, S4, S5, S6, S9, T1, T2, T3, Own. No condition. -/
import Derived.Laws.Cover3
import Derived.Maps.AppendAt
import Derived.Great.BuildSlice
import Derived.Test.YtdiihhohaijcoaaZDesarguesLine6
/- A region whose first m operations draw their order, with a chain among them that changes memory: the others yield one value each in whatever world the chain leaves; the chain's operations are walked one after the other, memory growing ahead of each. -/
namespace Go.Proofs.Ytdiihhohaijcoaa
open Go.RowKit
set_option linter.unusedVariables false
set_option linter.unusedSimpArgs false
/-- What stands behind one operation of a chain. -/
structure ChEnd (o : Oper) (a : Act) (KP : World → Prop) (X : Act → World → Prop) (e : Exit) (a' : Act) (W' : World) : Prop where
  e1 : e = .normal
  pv : ∃ v, a' = a.put o.dst v
  kp : KP W'
  nx : X a' W'
def wpCh (P : Program) (ops : Array Oper) (KP : World → Prop) (Q' : Act → World → Prop) : List Oper → Act → World → Prop
  | [], a, W => ∀ W1, Link W W1 → Q' a W1
  | o :: r, a, W => ∀ W1, Link W W1 → wpList P ops (fun e a' W' => ChEnd o a KP (wpCh P ops KP Q' r) e a' W') [o] a W1
/-- No chain operation has a guard; the others neither read what the chain yields nor hang on it. -/
def chanB (l : List Oper) (m : Nat) (ch : List Nat) : Bool := (List.range m).all fun i => match l[i]? with
  | none => true
  | some o => (if ch.contains i then o.guard.isNone else (match o.guard with | none => true | some (k, _) => !ch.contains k)
      && (readsOf o).all fun u => ch.all fun c => !((l[c]?.bind (·.dst)) == some u)) &&
    (!ch.contains i || (readsOf o).all fun u => (List.range m).all fun j => decide (j < i) || !((l[j]?.bind (·.dst)) == some u))
theorem chanB_at {l : List Oper} {m : Nat} {ch : List Nat} (h : chanB l m ch = true) {i : Nat} {o : Oper} (him : i < m) (hi : l[i]? = some o) :
    (ch.contains i = true → o.guard = none) ∧ (ch.contains i = false → (∀ k b, o.guard = some (k, b) → ch.contains k = false) ∧ ∀ u ∈ readsOf o, ∀ c oc, ch.contains c = true → l[c]? = some oc → oc.dst ≠ some u) := by
  unfold chanB at h
  rw [List.all_eq_true] at h
  have h1 := h i (List.mem_range.2 him)
  rw [hi] at h1
  simp only [Bool.and_eq_true] at h1
  have h2 := h1.1
  refine ⟨fun hc => ?_, fun hc => ⟨fun k b hg => ?_, fun u hu c oc hcc hco hd => ?_⟩⟩
  · rw [if_pos hc] at h2; simpa using h2
  · rw [if_neg (by rw [hc]; exact Bool.false_ne_true), hg] at h2
    simp only [Bool.and_eq_true] at h2
    simpa using h2.1
  · rw [if_neg (by rw [hc]; exact Bool.false_ne_true)] at h2
    simp only [Bool.and_eq_true, List.all_eq_true] at h2
    have h3 := h2.2 u hu c (List.contains_iff_mem.1 hcc)
    rw [hco] at h3
    simp [hd] at h3
def viaChkC (l : List Oper) (m N : Nat) (ch : List Nat) : Bool :=
  (List.range l.length).all fun i => match l[i]? with
    | none => true
    | some o => notSelect o && (o.after.all fun e => !Region.binds .any e || e.on < i) &&
      (if i < m then (match o.guard with | none => true | some (k, _) => bindsTo o k) &&
        (match o.dst with | some t => decide (t < N) | none => ch.contains i) &&
        ((readsOf o).all fun t => (List.range m).all fun j => match l[j]? with
            | none => true
            | some oj => !(oj.dst == some t) || bindsTo o j)
       else if i = m then (List.range m).all fun j => reachB l l.length i j
       else bindsTo o (i - 1))
theorem viaChkC_at {l : List Oper} {m N : Nat} {ch : List Nat} (chk : viaChkC l m N ch = true) {i : Nat} {o : Oper} (hi : l[i]? = some o) :
    (∀ cs b, o.op ≠ .select cs b) ∧ (∀ e ∈ o.after, Region.binds .any e = true → e.on < i) ∧
    (i < m → (∀ k b, o.guard = some (k, b) → bindsTo o k = true) ∧ (∀ t, o.dst = some t → t < N) ∧ (o.dst = none → ch.contains i = true) ∧ (∀ t ∈ readsOf o, ∀ j oj, j < m → l[j]? = some oj → oj.dst = some t → bindsTo o j = true)) ∧
    (i = m → ∀ j, j < m → reachB l l.length i j = true) ∧ (m < i → bindsTo o (i - 1) = true) := by
  unfold viaChkC at chk
  have hlt : i < l.length := (List.getElem?_eq_some_iff.1 hi).1
  have h := List.all_eq_true.1 chk i (List.mem_range.2 hlt)
  simp only [hi, Bool.and_eq_true] at h
  obtain ⟨⟨hns, haf⟩, hd⟩ := h
  refine ⟨?_, ?_, ?_, ?_, ?_⟩
  · intro cs b e; rw [notSelect, e] at hns; cases hns
  · intro e he hb
    have := (Array.all_eq_true_iff_forall_mem.1 haf) e he
    simpa [hb] using this
  · intro him
    rw [if_pos him] at hd
    simp only [Bool.and_eq_true] at hd
    obtain ⟨⟨hg, hd⟩, hr⟩ := hd
    refine ⟨?_, ?_, ?_, ?_⟩
    · intro k b e; rw [e] at hg; simpa using hg
    · intro t e; rw [e] at hd; simpa using hd
    · intro e; rw [e] at hd; exact hd
    · intro t ht j oj hjm hj hjd
      have h2 := List.all_eq_true.1 hr t ht
      have := List.all_eq_true.1 h2 j (List.mem_range.2 hjm)
      simpa [hj, hjd] using this
  · intro him j hj
    rw [if_neg (by omega), if_pos him] at hd
    exact List.all_eq_true.1 hd j (List.mem_range.2 hj)
  · intro him
    rw [if_neg (by omega), if_neg (by omega)] at hd
    exact hd
theorem any_tailC {P : Program} {Q : Exit → Act → World → Prop} {l : List Oper} {m N : Nat} {ch : List Nat} (chk : viaChkC l m N ch = true) : ∀ (fuel i : Nat) (listed : Array Bool) (a : Act) (W : World), m ≤ i → i ≤ l.length → listed.size = l.length →
    (∀ j, j < l.length → (listed.getD j false = true ↔ j < i)) → l.length - i ≤ fuel → wpList P l.toArray Q (l.drop i) a W → wpAny P .any l.toArray Q fuel listed a W := by
  intro fuel
  induction fuel with
  | zero =>
    intro i listed a W hmi hil hlen hls hf hw
    have hi : i = l.length := by omega
    subst hi
    refine ⟨?_, by rw [List.drop_length] at hw; exact hw⟩
    rw [List.eq_nil_iff_forall_not_mem]
    intro k hk
    obtain ⟨o, _, hkl, hk0, _⟩ := ready_mem hk hlen
    rw [(hls k hkl).2 hkl] at hk0; cases hk0
  | succ fuel ih =>
    intro i listed a W hmi hil hlen hls hf hw
    rcases Nat.lt_or_ge i l.length with hlt | hge
    · have hio : l[i]? = some l[i] := List.getElem?_eq_getElem hlt
      have hC := viaChkC_at chk hio
      have hd : l.drop i = l[i] :: l.drop (i + 1) := List.drop_eq_getElem_cons hlt
      rw [hd] at hw
      refine ⟨fun hr => ?_, fun k hk => ?_⟩
      · exfalso
        have hmem : i ∈ Region.ready .any l.toArray listed := by
          rw [mem_ready]
          refine ⟨?_, l[i], by simp, fun e he hbd => (hls _ (by have := hC.2.1 e he hbd; omega)).2 (hC.2.1 e he hbd)⟩
          have h1 : i < listed.size := by omega
          have h2 : listed.getD i false = false := by
            cases hb : listed.getD i false with
            | false => rfl
            | true => exact absurd ((hls i hlt).1 hb) (Nat.lt_irrefl _)
          simpa [h1] using h2
        rw [hr] at hmem; cases hmem
      · obtain ⟨o, hko, hkl, hk0, hall⟩ := ready_mem hk hlen
        have hki : k = i := by
          rcases Nat.lt_trichotomy k i with h | h | h
          · rw [(hls k hkl).2 h] at hk0; cases hk0
          · exact h
          · obtain ⟨e, he, hb, hon⟩ := bindsTo_spec ((viaChkC_at chk hko).2.2.2.2 (by omega))
            have := (hls (k - 1) (by omega)).1 (by rw [← hon]; exact hall e he hb)
            omega
        subst hki
        have heo : o = l[k] := by rw [hio] at hko; exact (Option.some.inj hko).symm
        subst heo
        have hk' : k < listed.size := by omega
        have step : ∀ a' W', wpList P l.toArray Q (l.drop (k + 1)) a' W' → wpAny P .any l.toArray Q fuel (listed.setIfInBounds k true) a' W' := by
          intro a' W' h
          refine ih (k + 1) _ a' W' (by omega) (by omega) (by simpa using hlen) (fun j hj => ?_) (by omega) h
          rw [getD_set _ _ _ hk']
          by_cases e : k = j
          · subst e; simp
          · rw [if_neg e, hls j hj]; omega
        unfold wpOp
        have hto : l.toArray[k]? = some l[k] := by simp
        simp only [hto]
        unfold wpList at hw
        split at hw
        · rename_i hwt
          rw [if_pos hwt]
          rcases hw with h | h
          · exact .inl (Oper.wp_mono step h)
          · exact .inr h
        · rename_i hwt
          rw [if_neg hwt]
          exact step _ _ hw
    · have hi : i = l.length := by omega
      subst hi
      rw [List.drop_length] at hw
      refine ⟨fun _ => hw, fun k hk => ?_⟩
      obtain ⟨o, _, hkl, hk0, _⟩ := ready_mem hk hlen
      rw [(hls k hkl).2 hkl] at hk0; cases hk0
/-- No two of the first m fill one slot. -/
def onceC (l : List Oper) (m : Nat) : Bool := (List.range m).all fun i => (List.range m).all fun j => (i == j) || (match l[i]?.bind (·.dst) with | none => true | some t => !((l[j]?.bind (·.dst)) == some t))
theorem onceC_at {l : List Oper} {m : Nat} (h : onceC l m = true) {i j t : Nat} {o o' : Oper} (hi : i < m) (hj : j < m) (hne : i ≠ j) (ho : l[i]? = some o) (ho' : l[j]? = some o') (hd : o.dst = some t) : o'.dst ≠ some t := by
  intro hd'
  unfold onceC at h
  have h1 := List.all_eq_true.1 (List.all_eq_true.1 h i (List.mem_range.2 hi)) j (List.mem_range.2 hj)
  rw [ho, ho'] at h1
  simp [hne, hd, hd'] at h1
theorem wp_other {P : Program} {o : Oper} {a b : Act} {W : World} {K : Act → World → Prop} {Qb Q : Exit → Act → World → Prop} (hE : execOp a.eval o = execOp b.eval o) (hQ : ∀ e a w, Qb e a w → e = .normal)
    (hK : ∀ a' w', K a' w' → ∃ v, a' = b.put o.dst v) (h : o.wp P b W K Qb) : o.wp P a W (fun a' w' => ∃ v, a' = a.put o.dst v ∧ K (b.put o.dst v) w') Q := by
  unfold Oper.wp at h ⊢
  rw [hE]
  generalize (execOp b.eval o).run P W = r at *
  cases r with
  | ok n w' =>
    cases n <;> simp only [Oper.upon] at h ⊢
    case value u => exact ⟨u, rfl, h⟩
    case skip => exact ⟨undef, rfl, h⟩
    case defer d =>
      exfalso
      obtain ⟨v, hv⟩ := hK _ _ h
      have := congrArg (fun x : Act => x.defers.length) hv
      simp only [put_defers, List.length_cons] at this
      omega
    case enter f args =>
      refine h.mono fun e w'' he => ?_
      cases e with
      | returned v => exact ⟨v, rfl, he⟩
      | panicked chain => exact absurd (hQ _ _ _ he) (by intro h; cases h)
      | outgrown => obtain ⟨a1, w1, h1⟩ := he; exact absurd (hQ _ _ _ h1) (by intro h; cases h)
    case row row args => exact h.mono fun v w'' he => ⟨v, rfl, he⟩
  | halt x w' =>
    cases x <;> simp only [Oper.upon] at h ⊢
    case panic v => exact absurd (hQ _ _ _ h) (by intro h; cases h)
structure RInvC (P : Program) (l : List Oper) (m : Nat) (ch : List Nat) (KP : World → Prop) (Q' : Act → World → Prop) (a0 aE : Act) (s : Nat) (aS : Act) (Ws : World) (listed : Array Bool) (a : Act) (w : World) : Prop where
  df : a.defers = a0.defers
  sz : a.tmps.size = a0.tmps.size
  len : listed.size = l.length
  fr1 : ∀ (j : Nat) (o : Oper) (t : Nat), j < m → l[j]? = some o → o.dst = some t → listed.getD j false = true → a.tmps.getD t undef = aS.tmps.getD t undef
  fr0 : ∀ t : Nat, (∀ (j : Nat) (o : Oper), j < m → l[j]? = some o → o.dst = some t → listed.getD j false = false) → a.tmps.getD t undef = a0.tmps.getD t undef
  sd : aS.defers = a0.defers
  ss : aS.tmps.size = a0.tmps.size
  sc : ∀ (j : Nat) (o : Oper) (t : Nat), j < m → l[j]? = some o → o.dst = some t → ch.contains j = false → aS.tmps.getD t undef = aE.tmps.getD t undef
  s0 : ∀ t : Nat, (∀ (j : Nat) (o : Oper), j < m → l[j]? = some o → o.dst ≠ some t) → aS.tmps.getD t undef = a0.tmps.getD t undef
  sq : wpCh P l.toArray KP Q' ((ch.drop s).filterMap fun i => l[i]?) aS Ws
  bl : Below Ws.heap.size Ws w
  kp : KP w
  sle : s ≤ ch.length
  cs : ∀ (k i : Nat), ch[k]? = some i → (listed.getD i false = true ↔ k < s)
  rest : ∀ j, m ≤ j → listed.getD j false = false
  dc : ∀ (i : Nat) (o : Oper), l[i]? = some o → listed.getD i false = true → ∀ e ∈ o.after, Region.binds .any e = true → listed.getD e.on false = true
section
variable {P : Program} {Q : Exit → Act → World → Prop} {l : List Oper} {a0 : Act} {w : World} {ch : List Nat} {KP : World → Prop}
theorem region_ch {id : Nat} (m : Nat) (ch : List Nat) (KP : World → Prop) (hm : P.follows .mixedOrders = true) (hml : m ≤ l.length)
    (chk : viaChkC l m a0.tmps.size ch = true) (hgd : guardsIn l m = true) (hon : onceC l m = true) (hch : chChk l m ch = true) (hcb : chanB l m ch = true)
    (hk : ∀ W W', KP W → Below W.heap.size W W' → KP W') (h0 : KP w)
    (H : ∃ aE, (∀ W0, KP W0 → ∀ G : Grow0 W0, wpQuiet P l.toArray (fun w' => ∃ g : Grow W0 G, w' = g.W) (fun a' => a' = aE) (((List.range m).filter fun i => !ch.contains i).filterMap fun i => l[i]?) a0) ∧
      wpCh P l.toArray KP (fun a' W' => wpList P l.toArray Q (l.drop m) a' W') (ch.filterMap fun i => l[i]?) aE w) :
    (Code.region id l.toArray true).wp P Q a0 w := by
  obtain ⟨aE, H1, H2⟩ := H
  generalize hr : ((List.range m).filter fun i => !ch.contains i).filterMap (fun i => l[i]?) = r at *
  -- the calm ones, by their place
  have hrm : ∀ o ∈ r, ∃ i, i < m ∧ l[i]? = some o ∧ ch.contains i = false := fun o ho => by
    rw [← hr] at ho
    obtain ⟨i, hi, hio⟩ := List.mem_filterMap.1 ho
    have := List.mem_filter.1 hi
    exact ⟨i, List.mem_range.1 this.1, hio, by simpa using this.2⟩
  have hrl : ∀ i o, i < m → l[i]? = some o → ch.contains i = false → o ∈ r := fun i o him hio hc => by
    rw [← hr]
    exact List.mem_filterMap.2 ⟨i, List.mem_filter.2 ⟨List.mem_range.2 him, by rw [hc]; rfl⟩, hio⟩
  -- the order of r is that of the text
  have hord : ∀ (j k : Nat) (o o' : Oper), r[j]? = some o → r[k]? = some o' → ∃ i i', i < m ∧ i' < m ∧ l[i]? = some o ∧ l[i']? = some o' ∧ ch.contains i = false ∧ ch.contains i' = false ∧ (j < k → i < i') ∧ (k < j → i' < i) ∧ (j = k → i = i') := by
    have key : ∀ (is : List Nat), is.Pairwise (· < ·) → (∀ i ∈ is, i < m ∧ ch.contains i = false) → ∀ (j k : Nat) (o o' : Oper), (is.filterMap fun i => l[i]?)[j]? = some o → (is.filterMap fun i => l[i]?)[k]? = some o' →
        ∃ i i', i ∈ is ∧ i' ∈ is ∧ l[i]? = some o ∧ l[i']? = some o' ∧ (j < k → i < i') ∧ (k < j → i' < i) ∧ (j = k → i = i') := by
      intro is
      induction is with
      | nil => intro _ _ j k o o' h; simp at h
      | cons x is ih =>
        intro hp hq j k o o' hj hk'
        rw [List.pairwise_cons] at hp
        have hl : ∃ ox, l[x]? = some ox := ⟨l[x]'(by have := (hq x (List.mem_cons_self ..)).1; omega), List.getElem?_eq_getElem _⟩
        obtain ⟨ox, hox⟩ := hl
        rw [List.filterMap_cons, hox] at hj hk'
        cases j with
        | zero =>
          simp only [List.getElem?_cons_zero, Option.some.injEq] at hj
          subst hj
          cases k with
          | zero =>
            simp only [List.getElem?_cons_zero, Option.some.injEq] at hk'
            subst hk'
            exact ⟨x, x, List.mem_cons_self .., List.mem_cons_self .., hox, hox, (fun h => by omega), (fun h => by omega), fun _ => rfl⟩
          | succ k =>
            rw [List.getElem?_cons_succ] at hk'
            obtain ⟨i, hi, hio⟩ := List.mem_filterMap.1 (List.mem_of_getElem? hk')
            exact ⟨x, i, List.mem_cons_self .., List.mem_cons_of_mem _ hi, hox, hio, fun _ => hp.1 i hi, (fun h => by omega), (fun h => by omega)⟩
        | succ j =>
          rw [List.getElem?_cons_succ] at hj
          cases k with
          | zero =>
            simp only [List.getElem?_cons_zero, Option.some.injEq] at hk'
            subst hk'
            obtain ⟨i, hi, hio⟩ := List.mem_filterMap.1 (List.mem_of_getElem? hj)
            exact ⟨i, x, List.mem_cons_of_mem _ hi, List.mem_cons_self .., hio, hox, (fun h => by omega), fun _ => hp.1 i hi, (fun h => by omega)⟩
          | succ k =>
            rw [List.getElem?_cons_succ] at hk'
            obtain ⟨i, i', h1, h2, h3, h4, h5, h6, h7⟩ := ih hp.2 (fun i hi => hq i (List.mem_cons_of_mem _ hi)) j k o o' hj hk'
            exact ⟨i, i', List.mem_cons_of_mem _ h1, List.mem_cons_of_mem _ h2, h3, h4, (fun h => h5 (by omega)), (fun h => h6 (by omega)), (fun h => h7 (by omega))⟩
    intro j k o o' hj hk'
    rw [← hr] at hj hk'
    obtain ⟨i, i', h1, h2, h3⟩ := key _ (List.Pairwise.filter _ List.pairwise_lt_range) (fun i hi => by have := List.mem_filter.1 hi; exact ⟨List.mem_range.1 this.1, by simpa using this.2⟩) j k o o' hj hk'
    have q1 := List.mem_filter.1 h1
    have q2 := List.mem_filter.1 h2
    exact ⟨i, i', List.mem_range.1 q1.1, List.mem_range.1 q2.1, h3.1, h3.2.1, by simpa using q1.2, by simpa using q2.2, h3.2.2⟩
  have hsome : ∀ o ∈ r, o.dst ≠ none := fun o ho => by
    obtain ⟨i, him, hi, hc⟩ := hrm o ho
    intro h
    rw [((viaChkC_at chk hi).2.2.1 him).2.2.1 h] at hc; cases hc
  have look : ∀ {C : World → Prop} {us : List (Nat × Value)}, QSteps P l.toArray C r us a0 → puts a0 us = aE → ∀ {i : Nat} {o : Oper} {t : Nat}, i < m → ch.contains i = false → l[i]? = some o → o.dst = some t →
      ∃ v, aE.tmps.getD t undef = v ∧ ((Region.wanted o (yielded l.toArray aE.tmps) = true ∧ ∀ w, C w → Oper.quietUpon P C w v ((execOp aE.eval o).run P w)) ∨ (Region.wanted o (yielded l.toArray aE.tmps) = false ∧ v = undef)) := by
    intro C us hus hue i o t him hic hi hd
    obtain ⟨ri, hri⟩ := List.getElem?_of_mem (hrl i o him hi hic)
    have place : ∀ k ok, r[k]? = some ok → ∃ i', i' < m ∧ l[i']? = some ok ∧ ch.contains i' = false ∧ (ri < k → i < i') ∧ (ri ≤ k → i ≤ i') := by
      intro k ok hk'
      obtain ⟨x, x', hx, hx', hxo, hxo', _, hc', h1, h2, h3⟩ := hord ri k o ok hri hk'
      have e : x = i := by
        rcases Nat.lt_trichotomy x i with h | h | h
        · exact absurd hd (onceC_at hon hx him (by omega) hxo hi hd)
        · exact h
        · exact absurd hd (onceC_at hon him hx (by omega) hi hxo hd)
      subst e
      refine ⟨x', hx', hxo', hc', h1, fun h => ?_⟩
      rcases Nat.lt_or_ge ri k with h4 | h4
      · exact Nat.le_of_lt (h1 h4)
      · have := h3 (by omega); omega
    obtain ⟨t', v, ai, hd', hy, hsz, hv, hread⟩ := QSteps.at _ _ _ hus ri o hri
    rw [hd] at hd'; obtain rfl := Option.some.inj hd'
    rw [hue] at hv hread
    have hC := viaChkC_at chk hi
    have hCm := hC.2.2.1 him
    have hCb := (chanB_at hcb him hi).2 hic
    have htN := hCm.2.1 t hd
    have hval := hv htN (fun j o' hij hj => by obtain ⟨i', hi'm, hi', _, hlt, _⟩ := place j o' hj; exact onceC_at hon him hi'm (by have := hlt hij; omega) hi hi' hd)
    have heq : execOp ai.eval o = execOp aE.eval o := execOp_congr o hC.1 (fun x hx => by
      cases x with
      | tmp u =>
        refine hread u (fun j o' hij hj hdu => ?_)
        obtain ⟨i', hi'm, hi', _, _, hle⟩ := place j o' hj
        obtain ⟨e, he, hb, hon'⟩ := bindsTo_spec (hCm.2.2.2 u (List.mem_filterMap.2 ⟨.tmp u, by simpa using hx, rfl⟩) i' o' hi'm hi' hdu)
        have := hC.2.1 e he hb
        have := hle hij
        omega
      | _ => rfl)
    have hwe : Region.wanted o (yielded l.toArray ai.tmps) = Region.wanted o (yielded l.toArray aE.tmps) := by
      unfold Region.wanted
      cases hg : o.guard with
      | none => rfl
      | some kb =>
        obtain ⟨k, b⟩ := kb
        obtain ⟨e, he, hb, hon'⟩ := bindsTo_spec (hCm.1 k b hg)
        have hki := hC.2.1 e he hb
        rw [hon'] at hki
        have : yielded l.toArray ai.tmps k = yielded l.toArray aE.tmps k := yielded_congr (by rw [hsz, ← hue, puts_size]) (fun ok tk hk' hdk => hread tk (fun j o' hij hj hdj => by
          obtain ⟨i', hi'm, hi', _, _, hle⟩ := place j o' hj
          exact onceC_at hon (by omega) hi'm (by have := hle hij; omega) (show l[k]? = some ok by simpa using hk') hi' hdk hdj))
        simp only [this]
    refine ⟨v, hval, ?_⟩
    rcases hy with ⟨hw, hq⟩ | ⟨hw, hu⟩
    · exact .inl ⟨by rw [← hwe]; exact hw, fun w hw' => by have := hq w hw'; unfold Oper.quietAt at this; rwa [heq] at this⟩
    · exact .inr ⟨by rw [← hwe]; exact hw, hu⟩
  obtain ⟨us0, hus0, hue0⟩ := quiet_out _ _ hsome (H1 w h0 ⟨w, Below.refl _ _⟩)
  have hEs : aE.tmps.size = a0.tmps.size := by rw [← hue0, puts_size]
  have hEd : aE.defers = a0.defers := by rw [← hue0, puts_defers]
  have hE0 : ∀ u, (∀ (j : Nat) (o : Oper), j < m → l[j]? = some o → ch.contains j = false → o.dst ≠ some u) → aE.tmps.getD u undef = a0.tmps.getD u undef := fun u hu => by
    rw [← hue0]
    refine puts_other u us0 a0 (fun kv hk' e => ?_)
    obtain ⟨j, o, hj, hd⟩ := QSteps.key _ _ _ hus0 kv hk'
    obtain ⟨i, him, hi, hc⟩ := hrm o (List.mem_of_getElem? hj)
    exact hu i o him hi hc (by rw [hd, e])
  refine wp_region_any hm ?_
  have key : ∀ (fuel s : Nat) (aS : Act) (Ws : World) (listed : Array Bool) (a : Act) (W : World), RInvC P l m ch KP (fun a' W' => wpList P l.toArray Q (l.drop m) a' W') a0 aE s aS Ws listed a W →
      (List.range m).countP (fun i => !listed.getD i true) + (l.length - m) ≤ fuel → wpAny P .any l.toArray Q fuel listed a W := by
    intro fuel
    have fin : ∀ (fuel s : Nat) (aS : Act) (Ws : World) (listed : Array Bool) (a : Act) (W : World), RInvC P l m ch KP (fun a' W' => wpList P l.toArray Q (l.drop m) a' W') a0 aE s aS Ws listed a W → (∀ j, j < m → listed.getD j false = true) → l.length - m ≤ fuel → wpAny P .any l.toArray Q fuel listed a W := by
      intro fuel s aS Ws listed a W hI hall hf
      have hs : s = ch.length := by
        rcases Nat.lt_or_ge s ch.length with h | h
        · exfalso
          have hk' : ch[s]? = some ch[s] := List.getElem?_eq_getElem h
          exact absurd ((hI.cs s _ hk').1 (hall _ (chChk_at hch hk').1)) (by omega)
        · have := hI.sle; omega
      have ea : a = aS := by
        refine act_ext _ _ (by rw [hI.df, hI.sd]) (by rw [hI.sz, hI.ss]) (fun t ht => ?_)
        by_cases hw : ∃ (j : Nat) (o : Oper), j < m ∧ l[j]? = some o ∧ o.dst = some t
        · obtain ⟨j, o, hjm, hj, ho⟩ := hw
          exact hI.fr1 j o t hjm hj ho (hall j hjm)
        · rw [hI.fr0 t (fun j o hjm hj ho => (hw ⟨j, o, hjm, hj, ho⟩).elim)]
          exact (hI.s0 t (fun j o hjm hj ho => hw ⟨j, o, hjm, hj, ho⟩)).symm
      have hq := hI.sq
      rw [hs, List.drop_length] at hq
      have hq2 := hq W ⟨hI.bl⟩
      rw [← ea] at hq2
      refine any_tailC chk fuel m listed _ W (Nat.le_refl _) hml hI.len (fun j hj => ⟨fun h => ?_, fun h => hall j h⟩) hf hq2
      rcases Nat.lt_or_ge j m with h2 | h2
      · exact h2
      · rw [hI.rest j h2] at h; cases h
    -- what an operation that may come up reads
    have look2 : ∀ (s : Nat) (aS : Act) (Ws : World) (listed : Array Bool) (a : Act) (W : World), RInvC P l m ch KP (fun a' W' => wpList P l.toArray Q (l.drop m) a' W') a0 aE s aS Ws listed a W → ∀ (i : Nat) (o : Oper), i < m → l[i]? = some o →
        (∀ e ∈ o.after, Region.binds .any e = true → listed.getD e.on false = true) → ∀ t ∈ readsOf o, a.tmps.getD t undef = aS.tmps.getD t undef := by
      intro s aS Ws listed a W hI i o him hi hall t ht
      have h := ((viaChkC_at chk hi).2.2.1 him).2.2.2 t ht
      by_cases hw : ∃ (j : Nat) (oj : Oper), j < m ∧ l[j]? = some oj ∧ oj.dst = some t
      · obtain ⟨j, oj, hjm, hj, hjd⟩ := hw
        obtain ⟨e, he, hb, hon'⟩ := bindsTo_spec (h j oj hjm hj hjd)
        exact hI.fr1 j oj t hjm hj hjd (by rw [← hon']; exact hall e he hb)
      · rw [hI.fr0 t (fun j oj hjm hj ho => (hw ⟨j, oj, hjm, hj, ho⟩).elim)]
        exact (hI.s0 t (fun j oj hjm hj ho => hw ⟨j, oj, hjm, hj, ho⟩)).symm
    induction fuel with
    | zero =>
      intro s aS Ws listed a W hI hc
      refine fin 0 s aS Ws listed a W hI (fun j hj => ?_) (by omega)
      have h0 : (List.range m).countP (fun i => !listed.getD i true) = 0 := by omega
      rw [List.countP_eq_zero] at h0
      have := h0 j (List.mem_range.2 hj)
      have hj' : j < listed.size := by rw [hI.len]; omega
      simpa [hj'] using this
    | succ fuel ih =>
      intro s aS Ws listed a W hI hc
      by_cases hall : ∀ j, j < m → listed.getD j false = true
      · exact fin _ s aS Ws listed a W hI hall (by omega)
      · have hno : ∀ i, i ∈ Region.ready .any l.toArray listed → i < m := by
          intro i hi
          rcases Nat.lt_or_ge i m with h | h
          · exact h
          · exfalso
            obtain ⟨o, hio, hil, hi0, ha⟩ := ready_mem hi hI.len
            rcases Nat.eq_or_lt_of_le h with h2 | h2
            · refine hall (fun j hj => ?_)
              exact reach_listed hI.dc _ i j o hio ha ((viaChkC_at chk hio).2.2.2.1 h2.symm j hj)
            · obtain ⟨e, he, hb, hon'⟩ := bindsTo_spec ((viaChkC_at chk hio).2.2.2.2 h2)
              have h3 := ha e he hb
              rw [hon', hI.rest (i - 1) (by omega)] at h3; cases h3
        refine ⟨fun hr0 => ?_, fun i hi => ?_⟩
        · exfalso
          have all : ∀ i, i < l.length → listed.getD i false = true := by
            intro i
            induction i using Nat.strongRecOn with
            | _ i ih2 =>
              intro hi
              cases hb : listed.getD i false with
              | true => rfl
              | false =>
                exfalso
                have ho : l[i]? = some l[i] := List.getElem?_eq_getElem hi
                have hmem : i ∈ Region.ready .any l.toArray listed := by
                  rw [mem_ready]
                  refine ⟨?_, l[i], by simp, fun e he hbd => ?_⟩
                  · have : i < listed.size := by have := hI.len; omega
                    simp [this] at hb ⊢; exact hb
                  · exact ih2 e.on ((viaChkC_at chk ho).2.1 e he hbd) (by have := (viaChkC_at chk ho).2.1 e he hbd; omega)
                rw [hr0] at hmem; cases hmem
          exact hall (fun j hj => all j (by omega))
        · have him := hno i hi
          obtain ⟨o, hio, hil, hi0, hal⟩ := ready_mem hi hI.len
          have hil' : i < listed.size := by rw [hI.len]; exact hil
          have ho : l.toArray[i]? = some o := by simpa using hio
          have hC := viaChkC_at chk hio
          have hCm := hC.2.2.1 him
          have hcnt : (List.range m).countP (fun j => !(listed.setIfInBounds i true).getD j true) + (l.length - m) ≤ fuel := by
            have := count_lt (fun j => !listed.getD j true) (fun j => !(listed.setIfInBounds i true).getD j true) (fun j hj => by
                by_cases e : i = j
                · subst e; simp [hil'] at hj
                · rw [getD_set_ne true e] at hj; exact hj) i (by simpa [hil'] using hi0) (by simp [hil']) (List.range m) (List.mem_range.2 him)
            omega
          have dcS : ∀ (i2 : Nat) (o2 : Oper), l[i2]? = some o2 → (listed.setIfInBounds i true).getD i2 false = true → ∀ e ∈ o2.after, Region.binds .any e = true → (listed.setIfInBounds i true).getD e.on false = true := by
            intro j oj hj hl e he hb
            rw [getD_set _ _ _ hil']
            by_cases ei : i = e.on
            · rw [if_pos ei]
            · rw [if_neg ei]
              rw [getD_set _ _ _ hil'] at hl
              by_cases ej : i = j
              · subst ej; rw [hio] at hj; obtain rfl := Option.some.inj hj; exact hal e he hb
              · rw [if_neg ej] at hl; exact hI.dc j oj hj hl e he hb
          have hi0f : listed.getD i false = false := by simpa [hil'] using hi0
          have restS : ∀ j, m ≤ j → (listed.setIfInBounds i true).getD j false = false := fun j hj => by rw [getD_set _ _ _ hil', if_neg (by omega)]; exact hI.rest j hj
          have hrd := look2 s aS Ws listed a W hI i o him hio hal
          have heqs : execOp a.eval o = execOp aS.eval o := execOp_congr o hC.1 (fun x hx => by
            cases x with
            | tmp u => exact hrd u (List.mem_filterMap.2 ⟨.tmp u, by simpa using hx, rfl⟩)
            | _ => rfl)
          -- another slot than i's, filled before
          have fr0S : ∀ (v : Value) (u : Nat), (∀ (j : Nat) (o : Oper), j < m → l[j]? = some o → o.dst = some u → (listed.setIfInBounds i true).getD j false = false) → (a.put o.dst v).tmps.getD u undef = a0.tmps.getD u undef := by
            intro v u hnu
            have hou : o.dst ≠ some u := fun e => by
              have := hnu i o him hio e
              rw [getD_set _ _ _ hil', if_pos rfl] at this; cases this
            have e0 : (a.put o.dst v).tmps.getD u undef = a.tmps.getD u undef := by
              cases hd : o.dst with
              | none => rfl
              | some t => exact put_get_ne _ _ _ _ (fun e => hou (by rw [hd, e]))
            rw [e0]
            refine hI.fr0 u (fun j oj hjm hj hjd => ?_)
            have := hnu j oj hjm hj hjd
            rw [getD_set _ _ _ hil'] at this
            by_cases e : i = j
            · rw [if_pos e] at this; cases this
            · rw [if_neg e] at this; exact this
          cases hic : ch.contains i with
          | false =>
            obtain ⟨t, hdst⟩ : ∃ t, o.dst = some t := by
              cases hd : o.dst with
              | some t => exact ⟨t, rfl⟩
              | none => rw [hCm.2.2.1 hd] at hic; cases hic
            have htN := hCm.2.1 t hdst
            rw [hdst] at fr0S
            have hCb := (chanB_at hcb him hio).2 hic
            -- what it reads stands in aE too
            have hrE : ∀ u ∈ readsOf o, aS.tmps.getD u undef = aE.tmps.getD u undef := fun u hu => by
              by_cases hw : ∃ (j : Nat) (oj : Oper), j < m ∧ l[j]? = some oj ∧ oj.dst = some u
              · obtain ⟨j, oj, hjm, hj, hjd⟩ := hw
                refine hI.sc j oj u hjm hj hjd ?_
                cases hcj : ch.contains j with
                | false => rfl
                | true => exact absurd hjd (hCb.2 u hu j oj hcj hj)
              · rw [hI.s0 u (fun j oj hjm hj ho => hw ⟨j, oj, hjm, hj, ho⟩), hE0 u (fun j oj hjm hj _ ho => hw ⟨j, oj, hjm, hj, ho⟩)]
            have heqE : execOp aS.eval o = execOp aE.eval o := execOp_congr o hC.1 (fun x hx => by
              cases x with
              | tmp u => exact hrE u (List.mem_filterMap.2 ⟨.tmp u, by simpa using hx, rfl⟩)
              | _ => rfl)
            have hwe : Region.wanted o (yielded l.toArray a.tmps) = Region.wanted o (yielded l.toArray aE.tmps) := by
              unfold Region.wanted
              cases hg : o.guard with
              | none => rfl
              | some kb =>
                obtain ⟨k, b⟩ := kb
                obtain ⟨e, he, hb, hon'⟩ := bindsTo_spec (hCm.1 k b hg)
                have hkm := guardsIn_at hgd him hio hg
                have hlk : listed.getD k false = true := by rw [← hon']; exact hal e he hb
                have : yielded l.toArray a.tmps k = yielded l.toArray aE.tmps k := yielded_congr (by rw [hI.sz, hEs]) (fun ok tk hk' hdk => by
                  have hk2 : l[k]? = some ok := by simpa using hk'
                  rw [hI.fr1 k ok tk hkm hk2 hdk hlk]
                  exact hI.sc k ok tk hkm hk2 hdk (hCb.1 k b hg))
                simp only [this]
            have step : ∀ W', KP W' → Below W.heap.size W W' → wpAny P .any l.toArray Q fuel (listed.setIfInBounds i true) (a.put (some t) (aE.tmps.getD t undef)) W' := by
              intro W' hkW hWW
              refine ih s aS Ws _ _ _ ⟨by rw [put_defers]; exact hI.df, by rw [put_size]; exact hI.sz, by simpa using hI.len, ?_, fr0S _, hI.sd, hI.ss, hI.sc, hI.s0, hI.sq, below_tr' hI.bl hWW, hkW, hI.sle, ?_, restS, dcS⟩ hcnt
              · intro j oj u hjm hj hjd hl
                by_cases htu : t = u
                · subst htu
                  rw [put_get_same _ _ _ (by rw [hI.sz]; exact htN)]
                  exact (hI.sc i o t him hio hdst hic).symm
                · rw [put_get_ne _ _ _ _ htu]
                  rw [getD_set _ _ _ hil'] at hl
                  by_cases e : i = j
                  · subst e; rw [hio] at hj; obtain rfl := Option.some.inj hj; rw [hdst] at hjd; exact (htu (Option.some.inj hjd)).elim
                  · rw [if_neg e] at hl; exact hI.fr1 j oj u hjm hj hjd hl
              · intro k c hk'
                rw [getD_set _ _ _ hil', if_neg (fun e => by subst e; rw [List.contains_iff_mem.2 (List.mem_of_getElem? hk')] at hic; cases hic)]
                exact hI.cs k c hk'
            unfold wpOp
            simp only [ho]
            obtain ⟨us, hus, hue⟩ := quiet_out _ _ hsome (H1 W hI.kp ⟨W, Below.refl _ _⟩)
            obtain ⟨v, hv, h'⟩ := look hus hue him hic hio hdst
            rcases h' with ⟨hw, hq⟩ | ⟨hw, hu⟩
            · rw [hwe, hw]
              simp only [if_true]
              refine .inl ?_
              have hcalm := calmRun_of_quiet (w := W) (G := ⟨W, Below.refl _ _⟩) (hq W ⟨⟨W, Below.refl _ _⟩, rfl⟩)
              have hcalm' : calmAt P o a.eval W v := by
                refine ⟨?_⟩; have hh := hcalm.out; unfold calmRun at hh ⊢; rw [heqs, heqE]; exact hh
              refine wp_of_calm hcalm' (fun W' hb => ?_)
              rw [hdst, ← hv]
              exact step W' (hk _ _ hI.kp hb) hb
            · rw [hwe, hw]
              simp only [Bool.false_eq_true, if_false, hdst]
              rw [hu] at hv
              rw [← hv]
              exact step W hI.kp (Below.refl _ _)
          | true =>
            have hgn := (chanB_at hcb him hio).1 hic
            have hw : Region.wanted o (yielded l.toArray a.tmps) = true := by unfold Region.wanted; rw [hgn]
            have hws : Region.wanted o (yielded l.toArray aS.tmps) = true := by unfold Region.wanted; rw [hgn]
            have hstage : ch[s]? = some i := by
              obtain ⟨k, hkl, hk'⟩ := List.mem_iff_getElem.1 (List.contains_iff_mem.1 hic)
              have hk2 : ch[k]? = some i := by rw [← hk']; exact List.getElem?_eq_getElem hkl
              have h1 : ¬ k < s := fun h => by rw [(hI.cs k i hk2).2 h] at hi0f; cases hi0f
              have h2 : k ≤ s := by
                rcases Nat.eq_zero_or_pos k with e | e
                · omega
                · have hq : ch[k - 1]? = some ch[k - 1] := List.getElem?_eq_getElem (by omega)
                  have h3 := ((chChk_at hch hk2).2 (k - 1) _ (by omega) hq).1
                  have h4 := (hI.cs _ _ hq).1 (reach_listed hI.dc _ i _ o hio hal h3)
                  omega
              have h5 : k = s := by omega
              rw [← h5]; exact hk2
            have hsl : s < ch.length := (List.getElem?_eq_some_iff.1 hstage).1
            have hsq := hI.sq
            rw [List.drop_eq_getElem_cons hsl, List.filterMap_cons, show ch[s] = i from (List.getElem?_eq_some_iff.1 hstage).2, hio] at hsq
            have hone := hsq W ⟨hI.bl⟩
            unfold wpList at hone
            rw [if_pos hws] at hone
            have hwp := hone.resolve_right (fun ⟨_, a1, w1, h1⟩ => by cases h1.1)
            unfold wpOp
            simp only [ho, hw, if_true]
            refine .inl (Oper.wp_mono (fun a' W' h => ?_) (wp_other (Q := Q) heqs (fun e a w h => h.e1) (fun a' w' h => h.pv) hwp))
            obtain ⟨v, rfl, _, _, hkW, hsqn⟩ := h
            refine ih (s + 1) (aS.put o.dst v) W' _ _ _ ⟨by rw [put_defers]; exact hI.df, by rw [put_size]; exact hI.sz, by simpa using hI.len, ?_, fr0S _, by rw [put_defers]; exact hI.sd, by rw [put_size]; exact hI.ss, ?_, ?_, hsqn, Below.refl _ _, hkW, hsl, ?_, restS, dcS⟩ hcnt
            · intro j oj u hjm hj hjd hl
              have other : o.dst ≠ some u → (a.put o.dst v).tmps.getD u undef = a.tmps.getD u undef ∧ (aS.put o.dst v).tmps.getD u undef = aS.tmps.getD u undef := fun hou => by
                cases hd : o.dst with
                | none => exact ⟨rfl, rfl⟩
                | some t => exact ⟨put_get_ne _ _ _ _ (fun e => hou (by rw [hd, e])), put_get_ne _ _ _ _ (fun e => hou (by rw [hd, e]))⟩
              by_cases hou : o.dst = some u
              · have htN := hCm.2.1 u hou
                rw [hou, put_get_same _ _ _ (by rw [hI.sz]; exact htN), put_get_same _ _ _ (by rw [hI.ss]; exact htN)]
              · rw [(other hou).1, (other hou).2]
                rw [getD_set _ _ _ hil'] at hl
                by_cases e : i = j
                · subst e; rw [hio] at hj; obtain rfl := Option.some.inj hj; exact (hou hjd).elim
                · rw [if_neg e] at hl; exact hI.fr1 j oj u hjm hj hjd hl
            · intro j oj u hjm hj hjd hjc
              have hou : o.dst ≠ some u := fun e => by
                have hne : j ≠ i := fun e => by rw [e, hic] at hjc; cases hjc
                exact onceC_at hon him hjm (fun h => hne h.symm) hio hj e hjd
              have e0 : (aS.put o.dst v).tmps.getD u undef = aS.tmps.getD u undef := by
                cases hd : o.dst with
                | none => rfl
                | some t => exact put_get_ne _ _ _ _ (fun e => hou (by rw [hd, e]))
              rw [e0]
              exact hI.sc j oj u hjm hj hjd hjc
            · intro u hu
              have e0 : (aS.put o.dst v).tmps.getD u undef = aS.tmps.getD u undef := by
                cases hd : o.dst with
                | none => rfl
                | some t => exact put_get_ne _ _ _ _ (fun e => hu i o him hio (by rw [hd, e]))
              rw [e0]
              exact hI.s0 u hu
            · intro k c hk'
              rw [getD_set _ _ _ hil']
              by_cases hcc : i = c
              · subst hcc
                have h2 : k = s := by
                  rcases Nat.lt_trichotomy k s with h | h | h
                  · exact absurd rfl ((chChk_at hch hstage).2 k i h hk').2
                  · exact h
                  · exact absurd rfl ((chChk_at hch hk').2 s i h hstage).2
                rw [if_pos rfl]
                exact ⟨fun _ => by omega, fun _ => rfl⟩
              · rw [if_neg hcc, hI.cs k c hk']
                have hne : k ≠ s := fun e => by rw [e, hstage] at hk'; exact hcc (Option.some.inj hk')
                omega
  refine key _ 0 aE w _ _ _ ⟨rfl, rfl, by simp, ?_, ?_, hEd, hEs, fun _ _ _ _ _ _ _ => rfl, ?_, by rw [List.drop_zero]; exact H2, ⟨rfl, rfl, rfl, Nat.le_refl _, fun _ _ => rfl⟩, ?_, Nat.zero_le _, ?_, ?_, ?_⟩ ?_
  · intro j o t _ hj hjd hl; rw [rep_false] at hl; cases hl
  · intro t _; rfl
  · intro t ht; exact hE0 t (fun j o hjm hj _ => ht j o hjm hj)
  · exact hk _ _ h0 ⟨rfl, rfl, rfl, Nat.le_refl _, fun _ _ => rfl⟩
  · intro k i _; rw [rep_false]; exact ⟨(fun h => by cases h), (fun h => by omega)⟩
  · intro j _; exact rep_false _ _
  · intro j o _ hl; rw [rep_false] at hl; cases hl
  · have : (List.range m).countP (fun i => !(Array.replicate l.toArray.size false).getD i true) ≤ m := Nat.le_trans List.countP_le_length (by simp)
    simp at this ⊢; omega
end
section
variable {P : Program} {Q : Exit → Act → World → Prop} {l : List Oper} {a0 : Act} {w : World}
theorem region_CH {id : Nat} (m : Nat) (ch : List Nat) (KP : World → Prop) {ms mc : List Bool} {rl cl : List Oper} (hpk : Pick l ms rl) (hpc : Pick l mc cl) (hm : P.follows .mixedOrders = true) (hml : m ≤ l.length)
    (hrl : (((List.range m).filter fun i => !ch.contains i).filterMap fun i => l[i]?) = rl) (hcl : (ch.filterMap fun i => l[i]?) = cl)
    (chk : viaChkC l m a0.tmps.size ch = true) (hgd : guardsIn l m = true) (hon : onceC l m = true) (hch : chChk l m ch = true) (hcb : chanB l m ch = true)
    (hk : ∀ W W', KP W → Link W W' → KP W') (h0 : KP w)
    (H : ∃ aE, (∀ W0, KP W0 → ∀ G : Grow0 W0, wpQuiet P l.toArray (fun w' => ∃ g : Grow W0 G, w' = g.W) (fun a' => a' = aE) rl a0) ∧
      wpCh P l.toArray KP (fun a' W' => wpList P l.toArray Q (l.drop m) a' W') cl aE w) :
    (Code.region id l.toArray true).wp P Q a0 w := by
  subst hrl
  subst hcl
  exact region_ch m ch KP hm hml chk hgd hon hch hcb (fun W W' h hb => hk W W' h ⟨hb⟩) h0 H
theorem ch_step {ops : Array Oper} {KP : World → Prop} {Q' : Act → World → Prop} {o : Oper} {r : List Oper} {a : Act} {W : World} (h : ∀ W1, Link W W1 → wpList P ops (fun e a' W' => ChEnd o a KP (wpCh P ops KP Q' r) e a' W') [o] a W1) : wpCh P ops KP Q' (o :: r) a W := h
theorem ch_nil {ops : Array Oper} {KP : World → Prop} {Q' : Act → World → Prop} {a : Act} {W : World} (h : ∀ W1, Link W W1 → Q' a W1) : wpCh P ops KP Q' [] a W := h
end
end Go.Proofs.Ytdiihhohaijcoaa
/- Contracts: a map's numbers in one list; its determinant; whether numbers are a map, a conic: the program. -/
namespace Go.Proofs.Ytdiihhohaijcoaa
open Go.RowKit
set_option linter.unusedVariables false
set_option linter.unusedSimpArgs false
/-- An owned list of numbers, laid open. -/
theorem ownInts {W : World} {base : Nat} {T : TypeId} {v : Value} {l : List Int} {n : Nat} (h : W.ownsRow base T 1 v n (ints l)) (hl : l.length = n) (hn : 0 < n) :
    ∃ g cap, v = .slice (some ⟨g, 0, none⟩) n cap ∧ ∀ i, i < n → W.cell? ⟨g, 0 + i, none⟩ = some (.int .i64 (l.getD i 0)) := by
  rcases h.2 with ⟨_, h0⟩ | ⟨g, cap, cur, rfl, hb, hg, hle, _, hsz, htk⟩
  · omega
  · refine ⟨g, cap, rfl, fun i hi => ?_⟩
    rw [cell_of_row W g _ _ _ _ hg, Nat.zero_add]
    have h1 : cur.toList[i]? = (ints l)[i]? := by rw [← htk, List.getElem?_take_of_lt (by omega)]
    have h2 : cur[i]? = cur.toList[i]? := by simp
    rw [h2, h1]
    have : i < l.length := by omega
    simp [ints, List.getD, this]
theorem cells6 (x0 x1 x2 x3 x4 x5 : Int) (w : World) (T : TypeId) : ∀ i, i < 6 → (w.alloc (.cells #[.int .i64 x0, .int .i64 x1, .int .i64 x2, .int .i64 x3, .int .i64 x4, .int .i64 x5] T)).cell? ⟨w.heap.size, 0 + i, none⟩ = some (.int .i64 ([x0, x1, x2, x3, x4, x5].getD i 0)) := by
  intro i hi
  rw [World.cell?_alloc_at _ _ _ _ rfl, Nat.zero_add]
  match i, hi with
  | 0, _ => rfl
  | 1, _ => rfl
  | 2, _ => rfl
  | 3, _ => rfl
  | 4, _ => rfl
  | 5, _ => rfl
def mapB (p : Int) (l : List Int) (d : Int) : Bool := prB p && (normB p l && (d % p != 0))
theorem nums_at {p : Int} {l : List Int} (h : normB p l = true) {x : Int} (hx : x ∈ l) : 0 ≤ x ∧ x ≤ p - 1 := by
  unfold normB numsB at h
  simp only [Bool.and_eq_true] at h
  exact numB_iff.1 (List.all_eq_true.1 h.2 x hx)
theorem map_in13 {p x0 x1 x2 x3 x4 x5 x6 x7 x8 : Int} (hp : prB p = true) (h : normB p [x0, x1, x2, x3, x4, x5, x6, x7, x8] = true) : In13 (x0, x1, x2) ∧ In13 (x3, x4, x5) ∧ In13 (x6, x7, x8) := by
  have hb := prB_bd hp
  have k : ∀ x ∈ [x0, x1, x2, x3, x4, x5, x6, x7, x8], 0 ≤ x ∧ x ≤ 12 := fun x hx => by have := nums_at h hx; omega
  exact ⟨⟨k _ (by simp), k _ (by simp), k _ (by simp)⟩, ⟨k _ (by simp), k _ (by simp), k _ (by simp)⟩, ⟨k _ (by simp), k _ (by simp), k _ (by simp)⟩⟩
end Go.Proofs.Ytdiihhohaijcoaa
/- Contracts: whether a desk is one: the program. -/
namespace Go.Proofs.Ytdiihhohaijcoaa
open Go.RowKit
set_option linter.unusedVariables false
set_option linter.unusedSimpArgs false
def deskB (p a0 a1 a2 b0 b1 b2 m0 m1 m2 m3 m4 m5 m6 m7 m8 c0 c1 c2 c3 c4 c5 : Int) : Bool := ptB p a0 a1 a2 && (ptB p b0 b1 b2 && (mapB p [m0, m1, m2, m3, m4, m5, m6, m7, m8] (detZ (m0, m1, m2) (m3, m4, m5) (m6, m7, m8)) && (prB p && normB p [c0, c1, c2, c3, c4, c5])))
end Go.Proofs.Ytdiihhohaijcoaa
/- Contracts: the reference's normal map. (Printed by genm4.py, a program of this session.) -/
namespace Go.Proofs.Ytdiihhohaijcoaa
open Go.RowKit
set_option linter.unusedVariables false
set_option linter.unusedSimpArgs false
theorem own_ne {W : World} {base : Nat} {T T' : TypeId} {v : Value} {n g : Nat} {xs : List Value} {cs : Array Value} (h : W.ownsRow base T 1 v n xs) (hg : W.heap[g]? = some (.cells cs T' (0, 0))) (hT : T ≠ T') : v.ownBlock ≠ some g := by
  rcases h.2 with ⟨rfl, _⟩ | ⟨g', cap, cur, rfl, hb, hg', _⟩
  · intro e; simp [Value.ownBlock] at e
  · intro e
    have : g' = g := by simpa [Value.ownBlock] using e
    subst this
    rw [hg] at hg'
    simp only [Option.some.injEq, Obj.cells.injEq] at hg'
    exact hT hg'.2.1.symm
theorem setCell_heap {W : World} {g : Nat} {cs : Array Value} {T : TypeId} {fr : Nat × Nat} (h : W.heap[g]? = some (.cells cs T fr)) (j : Nat) (v : Value) : (W.setCell ⟨g, j, none⟩ v).heap[g]? = some (.cells (cs.setIfInBounds j v) T fr) := by
  simp [World.setCell, Array.getElem?_modify, h]
theorem calm_build {P : Program} {o : Oper} {ρ : Operand → Value} {W : World} (t : TypeId) (parts : Array (Nat × Operand)) (U : Array Value) (ho : o.op = .build t parts) (hb : P.built t (parts.map fun (i, x) => (i, ρ x)).toList = some U) : calmAt P o ρ W (.agg U) := by
  refine calm_run ?_
  unfold execOp
  simp only [ho, Sem.run_bind, run_build W t _ U hb, Result.andThen_ok, Sem.run_pure]
theorem ownInts' {W : World} {base : Nat} {T : TypeId} {v : Value} {l : List Int} {n : Nat} (h : W.ownsRow base T 1 v n (ints l)) (hl : l.length = n) (hn : 0 < n) :
    ∃ g cap, v = .slice (some ⟨g, 0, none⟩) n cap ∧ base ≤ g ∧ ∀ i, i < n → W.cell? ⟨g, 0 + i, none⟩ = some (.int .i64 (l.getD i 0)) := by
  obtain ⟨g, cap, rfl, hp⟩ := ownInts h hl hn
  refine ⟨g, cap, rfl, ?_, hp⟩
  rcases h.2 with ⟨h0, _⟩ | ⟨g', cap', cur, h1, hb, _⟩
  · cases h0
  · cases h1; exact hb
/-- What has been laid in of the normal map after k rows. -/
def outC (k : Nat) (n0 n1 n2 n3 n4 n5 n6 n7 n8 : Int) : Array Value := match k with
  | 0 => #[.int .i64 0, .int .i64 0, .int .i64 0, .int .i64 0, .int .i64 0, .int .i64 0, .int .i64 0, .int .i64 0, .int .i64 0]
  | 1 => #[.int .i64 n0, .int .i64 n1, .int .i64 n2, .int .i64 0, .int .i64 0, .int .i64 0, .int .i64 0, .int .i64 0, .int .i64 0]
  | 2 => #[.int .i64 n0, .int .i64 n1, .int .i64 n2, .int .i64 n3, .int .i64 n4, .int .i64 n5, .int .i64 0, .int .i64 0, .int .i64 0]
  | _ => #[.int .i64 n0, .int .i64 n1, .int .i64 n2, .int .i64 n3, .int .i64 n4, .int .i64 n5, .int .i64 n6, .int .i64 n7, .int .i64 n8]
end Go.Proofs.Ytdiihhohaijcoaa
/- '==' on maps. -/
namespace Go.Proofs.Ytdiihhohaijcoaa
open Go.RowKit
set_option linter.unusedVariables false
set_option linter.unusedSimpArgs false
theorem partMap (w : World) (x0 x1 x2 x3 x4 x5 x6 x7 x8 : Int) :
    (part 24 #[.int .i64 x0, .int .i64 x1, .int .i64 x2, .int .i64 x3, .int .i64 x4, .int .i64 x5, .int .i64 x6, .int .i64 x7, .int .i64 x8] 0).run Try.prog w = .ok (ptV x0 x1 x2) w ∧ (part 24 #[.int .i64 x0, .int .i64 x1, .int .i64 x2, .int .i64 x3, .int .i64 x4, .int .i64 x5, .int .i64 x6, .int .i64 x7, .int .i64 x8] 3).run Try.prog w = .ok (ptV x3 x4 x5) w ∧ (part 24 #[.int .i64 x0, .int .i64 x1, .int .i64 x2, .int .i64 x3, .int .i64 x4, .int .i64 x5, .int .i64 x6, .int .i64 x7, .int .i64 x8] 6).run Try.prog w = .ok (ptV x6 x7 x8) w := by
  refine ⟨?_, ?_, ?_⟩
  · unfold part; rw [Sem.run_bind, Try.isAgg24]; simp only [Result.andThen_ok, if_true]; rw [Sem.run_bind, Try.sizeOf24]; rfl
  · unfold part; rw [Sem.run_bind, Try.isAgg24]; simp only [Result.andThen_ok, if_true]; rw [Sem.run_bind, Try.sizeOf24]; rfl
  · unfold part; rw [Sem.run_bind, Try.isAgg24]; simp only [Result.andThen_ok, if_true]; rw [Sem.run_bind, Try.sizeOf24]; rfl
theorem eqRow (w : World) (d : Nat) (a0 a1 a2 b0 b1 b2 : Int) : (Op.equalIn (d + 1 + 1) 24 (ptV a0 a1 a2) (ptV b0 b1 b2)).run Try.prog w = .ok (eqP (a0, a1, a2) (b0, b1, b2)) w :=
  eq_arr3 (i := Try.t2) w d Try.underlying24 (by kernel_rfl) (by kernel_rfl) Try.underlying2 (by kernel_rfl) _ _ _ _ _ _
theorem cellsRow : Try.prog.cellsOf 24 = 3 := by kernel_rfl
def eqM (a b c a' b' c' : Pt) : Bool := eqP a a' && (eqP b b' && eqP c c')
theorem eqM_iff {a b c a' b' c' : Pt} : eqM a b c a' b' c' = true ↔ a = a' ∧ b = b' ∧ c = c' := by
  unfold eqM; simp only [Bool.and_eq_true, eqP_iff]
end Go.Proofs.Ytdiihhohaijcoaa
/- Contracts: whether numbers are a map, a conic, a desk: the reference. -/
namespace Go.Proofs.Ytdiihhohaijcoaa
open Go.RowKit
set_option linter.unusedVariables false
set_option linter.unusedSimpArgs false
theorem cells6' (x0 x1 x2 x3 x4 x5 : Int) (w : World) (T : TypeId) (g : Nat) (hg : g = w.heap.size) : ∀ i, i < 6 → (w.alloc (.cells #[.int .i64 x0, .int .i64 x1, .int .i64 x2, .int .i64 x3, .int .i64 x4, .int .i64 x5] T)).cell? ⟨g, 0 + i, none⟩ = some (.int .i64 ([x0, x1, x2, x3, x4, x5].getD i 0)) := by
  subst hg; exact cells6 x0 x1 x2 x3 x4 x5 w T
theorem calm_pickI {P : Program} {o : Oper} {ρ : Operand → Value} {W : World} (x y z : Operand) {c : Bool} {v : Value} (ho : o.op = .pick x y z) (hx : ρ x = .bool c) (hv : (if c = true then ρ y else ρ z) = v) : calmAt P o ρ W v := by
  refine calm_run ?_
  unfold execOp
  subst hv
  simp only [ho, hx, asBool, Sem.run_bind, Sem.run_pure, Result.andThen_ok]
theorem norm_fix {p x0 x1 x2 x3 x4 x5 x6 x7 x8 f : Int} (hp : prB p = true) (hr : numsB p [x0, x1, x2, x3, x4, x5, x6, x7, x8] = true) (hf : facL p [x0, x1, x2, x3, x4, x5, x6, x7, x8] = f) (hd : (detZ (x0, x1, x2) (x3, x4, x5) (x6, x7, x8) % p != 0) = true) :
    eqM (x0 % p * f % p, x1 % p * f % p, x2 % p * f % p) (x3 % p * f % p, x4 % p * f % p, x5 % p * f % p) (x6 % p * f % p, x7 % p * f % p, x8 % p * f % p) (x0, x1, x2) (x3, x4, x5) (x6, x7, x8) = normB p [x0, x1, x2, x3, x4, x5, x6, x7, x8] := by
  have hb := prB_bd hp
  have bd : ∀ x ∈ [x0, x1, x2, x3, x4, x5, x6, x7, x8], 0 ≤ x ∧ x ≤ p - 1 := fun x hx => numB_iff.1 (List.all_eq_true.1 hr x hx)
  have hm : ∀ x ∈ [x0, x1, x2, x3, x4, x5, x6, x7, x8], x % p = x := fun x hx => Int.emod_eq_of_lt (bd x hx).1 (by have := (bd x hx).2; omega)
  have hmap : [x0, x1, x2, x3, x4, x5, x6, x7, x8].map (· % p) = [x0, x1, x2, x3, x4, x5, x6, x7, x8] := by
    conv => rhs; rw [← List.map_id [x0, x1, x2, x3, x4, x5, x6, x7, x8]]
    exact List.map_congr_left (fun x hx => hm x hx)
  have hz : firstNZ [x0, x1, x2, x3, x4, x5, x6, x7, x8] ≠ 0 := by
    intro e
    have h0 := firstNZ_eq_zero.1 e
    have z : ∀ x ∈ [x0, x1, x2, x3, x4, x5, x6, x7, x8], x = 0 := fun x hx => by simpa using List.all_eq_true.1 h0 x hx
    have z0 := z x0 (by simp); have z1 := z x1 (by simp); have z2 := z x2 (by simp)
    rw [z0, z1, z2] at hd
    simp [detZ] at hd
  have hmem : firstNZ [x0, x1, x2, x3, x4, x5, x6, x7, x8] ∈ [x0, x1, x2, x3, x4, x5, x6, x7, x8] := by
    rcases firstNZ_mem [x0, x1, x2, x3, x4, x5, x6, x7, x8] with h | h
    · exact absurd h hz
    · exact h
  have hbz := bd _ hmem
  have hfz : f = invP p (firstNZ [x0, x1, x2, x3, x4, x5, x6, x7, x8]) := by rw [← hf]; unfold facL; rw [hmap]
  have hnb : normB p [x0, x1, x2, x3, x4, x5, x6, x7, x8] = (firstNZ [x0, x1, x2, x3, x4, x5, x6, x7, x8] == 1) := by unfold normB; rw [hr]; simp
  rw [hnb]
  clear hnb hf
  generalize firstNZ [x0, x1, x2, x3, x4, x5, x6, x7, x8] = z at *
  obtain ⟨s1, s2, s3, _⟩ := invP_spec (p := p) (n := z) hp (by omega) (by omega)
  rw [← hfz] at s1 s2 s3
  by_cases h1 : z = 1
  · have hf1 : f = 1 := by
      rw [h1, Int.one_mul, Int.emod_eq_of_lt (by omega) s2] at s3; exact s3
    have k : ∀ x ∈ [x0, x1, x2, x3, x4, x5, x6, x7, x8], x % p * f % p = x := fun x hx => by rw [hf1, Int.mul_one, hm x hx, hm x hx]
    have e : (z == 1) = true := by simp [h1]
    rw [e]
    refine eqM_iff.2 ⟨?_, ?_, ?_⟩
    · rw [k x0 (by simp), k x1 (by simp), k x2 (by simp)]
    · rw [k x3 (by simp), k x4 (by simp), k x5 (by simp)]
    · rw [k x6 (by simp), k x7 (by simp), k x8 (by simp)]
  · have e : (z == 1) = false := by simp [h1]
    rw [e]
    cases he : eqM (x0 % p * f % p, x1 % p * f % p, x2 % p * f % p) (x3 % p * f % p, x4 % p * f % p, x5 % p * f % p) (x6 % p * f % p, x7 % p * f % p, x8 % p * f % p) (x0, x1, x2) (x3, x4, x5) (x6, x7, x8) with
    | false => rfl
    | true =>
      exfalso
      obtain ⟨e1, e2, e3⟩ := eqM_iff.1 he
      simp only [Prod.mk.injEq] at e1 e2 e3
      have k : ∀ x ∈ [x0, x1, x2, x3, x4, x5, x6, x7, x8], x % p * f % p = x := by
        intro x hx
        simp only [List.mem_cons, List.not_mem_nil, or_false] at hx
        rcases hx with rfl | rfl | rfl | rfl | rfl | rfl | rfl | rfl | rfl
        · exact e1.1
        · exact e1.2.1
        · exact e1.2.2
        · exact e2.1
        · exact e2.2.1
        · exact e2.2.2
        · exact e3.1
        · exact e3.2.1
        · exact e3.2.2
      have := k z hmem
      rw [hm z hmem, s3] at this
      exact h1 this.symm
theorem mapB_no {p d : Int} {l : List Int} (h : prB p = false) : mapB p l d = false := by unfold mapB; rw [h]; rfl
theorem mapB_range {p d : Int} {l : List Int} (h : numsB p l = false) : mapB p l d = false := by unfold mapB normB; rw [h]; simp
theorem mapB_det {p d : Int} {l : List Int} (h : (d % p != 0) = false) : mapB p l d = false := by unfold mapB; rw [h]; simp
theorem mapB_yes {p d : Int} {l : List Int} (hp : prB p = true) (h : (d % p != 0) = true) : mapB p l d = normB p l := by unfold mapB; rw [hp, h]; simp
theorem nums_all {p : Int} {l : List Int} (h : ∀ q, q < l.length → numB p (l.getD q 0) = true) : numsB p l = true := by
  unfold numsB
  rw [List.all_eq_true]
  intro x hx
  obtain ⟨q, hq, e⟩ := List.mem_iff_getElem.1 hx
  have := h q hq
  simpa [List.getD, hq, e] using this
end Go.Proofs.Ytdiihhohaijcoaa
/- Contracts: the laws' own maps, conics, desks. (Printed by genm7.py, a program of this session.) -/
namespace Go.Proofs.Ytdiihhohaijcoaa
open Go.RowKit
set_option linter.unusedVariables false
set_option linter.unusedSimpArgs false
end Go.Proofs.Ytdiihhohaijcoaa
/- The law FnExactIsDesk: walked. -/
namespace Go.Proofs.Ytdiihhohaijcoaa
open Go.RowKit
set_option linter.unusedVariables false
set_option linter.unusedSimpArgs false
/-- A part of a block is loaded, stored, with the block's cells known. -/
theorem wpList_load_at {P : Program} (w : World) {ops : Array Oper} {rest : List Oper} {o : Oper} {a : Act} {Q : Exit → Act → World → Prop}
    (hgd : o.guard = none) (ty : TypeId) (x : Operand) (hop : o.op = .load ty x) {g off : Nat} {T : TypeId} {cs U : Array Value} {fr : Nat × Nat} (hx : a.eval x = .pointer (some ⟨g, off, none⟩))
    (hg : w.heap[g]? = some (.cells cs T fr)) (n : Nat) (hn : U.size = n) (hU : ∀ j, j < n → cs[off + j]? = U[j]?) (hs : ∀ W, (sizeOf ty).run P W = .ok n W) (ha : ∀ W, (isAgg ty).run P W = .ok true W) (hK : wpList P ops Q rest (a.put o.dst (.agg U)) w) : wpList P ops Q (o :: rest) a w := by
  refine wpList_plain hgd fun K hK' => ?_
  subst hn
  have hl : (loadCells ⟨g, off, none⟩ U.toList.length).run P w = .ok U.toList.toArray w :=
    run_loadCells_list (P := P) w ⟨g, off, none⟩ U.toList (fun j v hv => by
      have hadd : (⟨g, off, none⟩ : Addr).add j = ⟨g, off + j, none⟩ := by unfold Addr.add; split <;> simp_all
      have hj : j < U.size := by simpa using (List.getElem?_eq_some_iff.1 hv).1
      rw [hadd, cell_of_row w g _ cs T fr hg, hU j hj]
      simpa using hv)
  simp only [Array.length_toList, Array.toArray_toList] at hl
  have hv : (loadVar ty ⟨g, off, none⟩).run P w = .ok (.agg U) w := by
    unfold loadVar
    rw [Sem.run_bind, ha]
    simp only [Result.andThen_ok, if_true]
    rw [Sem.run_bind, hs]
    simp only [Result.andThen_ok]
    rw [Sem.run_bind, hl]
    rfl
  have hr : (execOp a.eval o).run P w = .ok (.value (.agg U)) w := by
    unfold execOp
    simp only [hop, hx, Instr.loadAt, Instr.sureAddr, Sem.run_bind, Sem.run_pure, Result.andThen_ok, hv]
  unfold Oper.wp
  rw [hr]
  simp only [Oper.upon]
  exact hK' _ _ hK
theorem wpList_store_at {P : Program} (w : World) {ops : Array Oper} {rest : List Oper} {o : Oper} {a : Act} {Q : Exit → Act → World → Prop}
    (hgd : o.guard = none) (ty : TypeId) (x y : Operand) (hop : o.op = .store ty x y) (hd : o.dst = none) {g off : Nat} {T : TypeId} {cs cs' U : Array Value} (hx : a.eval x = .pointer (some ⟨g, off, none⟩)) (hy : a.eval y = .agg U)
    (hg : w.heap[g]? = some (.cells cs T (0, 0))) (hn : off + U.size ≤ cs.size) (he : (cs.toList.take off ++ U.toList ++ cs.toList.drop (off + U.toList.length)).toArray = cs') (hs : ∀ W, (sizeOf ty).run P W = .ok U.size W) (h1 : ∀ v ∈ U.toList, v.oneCell' = true) (hK : wpList P ops Q rest a (w.setRow g cs')) : wpList P ops Q (o :: rest) a w := by
  refine wpList_plain hgd fun K hK' => ?_
  have hst := run_storeCells_at (P := P) g off T U.toList 0 cs w hg (by simpa using hn) h1
  rw [Nat.add_zero, he] at hst
  have hv : (storeVar ty ⟨g, off, none⟩ (.agg U)).run P w = .ok () (w.setRow g cs') := by
    unfold storeVar
    rw [Sem.run_bind, hs]
    simp only [Result.andThen_ok, Value.cells, ne_eq, not_true_eq_false, if_false]
    exact hst
  have hr : (execOp a.eval o).run P w = .ok .skip (w.setRow g cs') := by
    unfold execOp
    simp only [hop, hx, hy, Instr.storeAt, Instr.sureAddr, Sem.run_bind, Sem.run_pure, Result.andThen_ok, hv]
  unfold Oper.wp
  rw [hr]
  simp only [Oper.upon, hd]
  exact hK' _ _ hK
end Go.Proofs.Ytdiihhohaijcoaa
/- Contracts: maps turned and multiplied, as the program does it. (Printed by gens1.py, a program of this session.) -/
namespace Go.Proofs.Ytdiihhohaijcoaa
open Go.RowKit
set_option linter.unusedVariables false
set_option linter.unusedSimpArgs false
@[simp] theorem setRow_sizeS (w : World) (g : Nat) (cs : Array Value) : (w.setRow g cs).heap.size = w.heap.size := by simp [World.setRow]
theorem wpList_store1 {P : Program} (w : World) {ops : Array Oper} {rest : List Oper} {o : Oper} {a : Act} {Q : Exit → Act → World → Prop}
    (hgd : o.guard = none) (ty : TypeId) (x y : Operand) (hop : o.op = .store ty x y) (hd : o.dst = none) {g off : Nat} {T : TypeId} {cs cs' : Array Value} {z : Int} (hx : a.eval x = .pointer (some ⟨g, off, none⟩)) (hy : a.eval y = .int .i64 z)
    (hg : w.heap[g]? = some (.cells cs T (0, 0))) (hn : off + 1 ≤ cs.size) (he : (cs.toList.take off ++ [Value.int .i64 z] ++ cs.toList.drop (off + 1)).toArray = cs') (hs : ∀ W, (sizeOf ty).run P W = .ok 1 W) (hK : wpList P ops Q rest a (w.setRow g cs')) : wpList P ops Q (o :: rest) a w := by
  refine wpList_plain hgd fun K hK' => ?_
  have hst := run_storeCells_at (P := P) g off T [Value.int .i64 z] 0 cs w hg (by simpa using hn) (by intro v hv; rw [List.mem_singleton.1 hv]; rfl)
  rw [Nat.add_zero, show ([Value.int .i64 z] : List Value).length = 1 from rfl, he] at hst
  have hv : (storeVar ty ⟨g, off, none⟩ (.int .i64 z)).run P w = .ok () (w.setRow g cs') := by
    unfold storeVar
    rw [Sem.run_bind, hs]
    simp only [Result.andThen_ok, Value.cells, ne_eq, List.size_toArray, List.length_cons, List.length_nil, Nat.zero_add, not_true_eq_false, if_false]
    exact hst
  have hr : (execOp a.eval o).run P w = .ok .skip (w.setRow g cs') := by
    unfold execOp
    simp only [hop, hx, hy, Instr.storeAt, Instr.sureAddr, Sem.run_bind, Sem.run_pure, Result.andThen_ok, hv]
  unfold Oper.wp
  rw [hr]
  simp only [Oper.upon, hd]
  exact hK' _ _ hK
theorem row_int {w : World} {g off : Nat} {cs : Array Value} {T : TypeId} {fr : Nat × Nat} {z : Int} (h : w.heap[g]? = some (.cells cs T fr)) (hz : cs[off]? = some (.int .i64 z)) : w.cell? ⟨g, off, none⟩ = some (.int .i64 z) := by
  rw [cell_of_row w g off _ _ _ h]; exact hz
end Go.Proofs.Ytdiihhohaijcoaa
/- Contracts: maps made normal and multiplied, as the program does it. (Printed by gens2.py, a program of this session.) -/
namespace Go.Proofs.Ytdiihhohaijcoaa
open Go.RowKit
set_option linter.unusedVariables false
set_option linter.unusedSimpArgs false
theorem ownInts2 {W : World} {base : Nat} {T : TypeId} {v : Value} {l : List Int} {n : Nat} (h : W.ownsRow base T 1 v n (ints l)) (hl : l.length = n) (hn : 0 < n) :
    ∃ g cap, v = .slice (some ⟨g, 0, none⟩) n cap ∧ base ≤ g ∧ g < W.heap.size ∧ n ≤ cap ∧ (∀ i, i < n → W.cell? ⟨g, 0 + i, none⟩ = some (.int .i64 (l.getD i 0))) ∧ ∀ i, W.frozen? ⟨g, i, none⟩ = false := by
  obtain ⟨g, cap, e, hc⟩ := ownInts h hl hn
  rcases h.2 with ⟨_, h0⟩ | ⟨g', cap', cur, e', hb, hg, hle, _, hsz, htk⟩
  · omega
  · rw [e] at e'
    cases e'
    exact ⟨g, cap, e, hb, (Array.getElem?_eq_some_iff.1 hg).1, hle, hc, fun i => frozen_of_row W g i _ _ hg⟩
theorem set_nine {W : World} {g : Nat} {l : List Int} (hc : ∀ i, i < 9 → W.cell? ⟨g, 0 + i, none⟩ = some (.int .i64 (l.getD i 0))) (N : List Int) (hN : N.length = 9) (i : Nat) (hi : i < 9) : (setInts W g 0 N).cell? ⟨g, i, none⟩ = some (.int .i64 (N.getD i 0)) := by
  have := setInts_cell W g 0 N (fun j hj => by rw [hc j (by omega)]; rfl) i (by omega)
  rwa [Nat.zero_add] at this
end Go.Proofs.Ytdiihhohaijcoaa
/- Contracts: products of maps, made normal: the program's and the reference's. (Printed by gens3.py, a program of this session.) -/
namespace Go.Proofs.Ytdiihhohaijcoaa
open Go.RowKit
set_option linter.unusedVariables false
set_option linter.unusedSimpArgs false
/-- A map: three rows. -/
abbrev M9 := Pt × Pt × Pt
@[reducible] def mapV (m : M9) : Value := .agg #[.int .i64 m.1.1, .int .i64 m.1.2.1, .int .i64 m.1.2.2, .int .i64 m.2.1.1, .int .i64 m.2.1.2.1, .int .i64 m.2.1.2.2, .int .i64 m.2.2.1, .int .i64 m.2.2.2.1, .int .i64 m.2.2.2.2]
def listM (m : M9) : List Int := [m.1.1, m.1.2.1, m.1.2.2, m.2.1.1, m.2.1.2.1, m.2.1.2.2, m.2.2.1, m.2.2.2.1, m.2.2.2.2]
def In12 (x : Int) : Prop := 0 ≤ x ∧ x ≤ 12
def InM (m : M9) : Prop := ∀ x ∈ listM m, In12 x
def dotQ (p : Int) (a b : Pt) : Int := (a.1 * b.1 + a.2.1 * b.2.1 + a.2.2 * b.2.2) % p
def colM (m : M9) : M9 := ((m.1.1, m.2.1.1, m.2.2.1), (m.1.2.1, m.2.1.2.1, m.2.2.2.1), (m.1.2.2, m.2.1.2.2, m.2.2.2.2))
def mulM (p : Int) (x y : M9) : M9 :=
  ((dotQ p x.1 (colM y).1, dotQ p x.1 (colM y).2.1, dotQ p x.1 (colM y).2.2), (dotQ p x.2.1 (colM y).1, dotQ p x.2.1 (colM y).2.1, dotQ p x.2.1 (colM y).2.2), (dotQ p x.2.2 (colM y).1, dotQ p x.2.2 (colM y).2.1, dotQ p x.2.2 (colM y).2.2))
def scaP (p f : Int) (a : Pt) : Pt := (a.1 % p * f % p, a.2.1 % p * f % p, a.2.2 % p * f % p)
def normM (p : Int) (m : M9) : M9 := (scaP p (facL p (listM m)) m.1, scaP p (facL p (listM m)) m.2.1, scaP p (facL p (listM m)) m.2.2)
def timesM (p : Int) (x y : M9) : M9 := normM p (mulM p x y)
theorem in12_mod {p z : Int} (hp : prB p = true) : In12 (z % p) := by
  have hb := prB_bd hp
  have h1 := Int.emod_nonneg z (by omega : p ≠ 0)
  have h2 := Int.emod_lt_of_pos z (by omega : 0 < p)
  exact ⟨h1, by omega⟩
theorem inM_times {p : Int} {x y : M9} (hp : prB p = true) : InM (timesM p x y) := by
  intro z hz
  simp only [timesM, normM, scaP, listM, List.mem_cons, List.not_mem_nil, or_false] at hz
  rcases hz with rfl | rfl | rfl | rfl | rfl | rfl | rfl | rfl | rfl <;> exact in12_mod hp
theorem inM_mul {p : Int} {x y : M9} (hp : prB p = true) : InM (mulM p x y) := by
  intro z hz
  simp only [mulM, dotQ, listM, List.mem_cons, List.not_mem_nil, or_false] at hz
  rcases hz with rfl | rfl | rfl | rfl | rfl | rfl | rfl | rfl | rfl <;> exact in12_mod hp
theorem big12 {x : Int} (h : In12 x) : -4611686018427387904 ≤ x ∧ x ≤ 4611686018427387904 := by
  obtain ⟨h1, h2⟩ := h
  omega
theorem inM_at {m : M9} (h : InM m) : In13 m.1 ∧ In13 m.2.1 ∧ In13 m.2.2 ∧ In13 (colM m).1 ∧ In13 (colM m).2.1 ∧ In13 (colM m).2.2 := by
  have k := fun x hx => h x hx
  simp only [listM, List.mem_cons, List.not_mem_nil, or_false] at k
  have a0 := k m.1.1 (by simp); have a1 := k m.1.2.1 (by simp); have a2 := k m.1.2.2 (by simp)
  have a3 := k m.2.1.1 (by simp); have a4 := k m.2.1.2.1 (by simp); have a5 := k m.2.1.2.2 (by simp)
  have a6 := k m.2.2.1 (by simp); have a7 := k m.2.2.2.1 (by simp); have a8 := k m.2.2.2.2 (by simp)
  exact ⟨⟨a0, a1, a2⟩, ⟨a3, a4, a5⟩, ⟨a6, a7, a8⟩, ⟨a0, a3, a6⟩, ⟨a1, a4, a7⟩, ⟨a2, a5, a8⟩⟩
theorem mul12 {a b : Int} (ha : In12 a) (hb : In12 b) : 0 ≤ a * b ∧ a * b ≤ 144 := by
  refine ⟨Int.mul_nonneg ha.1 hb.1, ?_⟩
  have h1 : a * b ≤ 12 * b := Int.mul_le_mul_of_nonneg_right ha.2 hb.1
  have h2 := hb.2
  omega
theorem wrap_small {z : Int} (h : 0 ≤ z ∧ z ≤ 1000000) : IntKind.wrap .i64 z = z := by
  simp [IntKind.wrap, IntKind.signed, IntKind.bits]; omega
theorem modb {p z : Int} (hp : 3 ≤ p ∧ p ≤ 13) : 0 ≤ z % p ∧ z % p ≤ 1000000 := by
  have h1 := Int.emod_nonneg z (by omega : p ≠ 0)
  have h2 := Int.emod_lt_of_pos z (by omega : 0 < p)
  exact ⟨h1, by omega⟩
theorem dot12 {a b c d e f : Int} (ha : In12 a) (hb : In12 b) (hc : In12 c) (hd : In12 d) (he : In12 e) (hf : In12 f) : 0 ≤ a * b + c * d + e * f := by
  have := mul12 ha hb; have := mul12 hc hd; have := mul12 he hf; omega
theorem wmul {a b : Int} (ha : In12 a) (hb : In12 b) : IntKind.wrap .i64 (a * b) = a * b := wrap_small (by have := mul12 ha hb; omega)
theorem wadd2 {a b c d : Int} (ha : In12 a) (hb : In12 b) (hc : In12 c) (hd : In12 d) : IntKind.wrap .i64 (a * b + c * d) = a * b + c * d := wrap_small (by have := mul12 ha hb; have := mul12 hc hd; omega)
theorem wadd3 {a b c d e f : Int} (ha : In12 a) (hb : In12 b) (hc : In12 c) (hd : In12 d) (he : In12 e) (hf : In12 f) : IntKind.wrap .i64 (a * b + c * d + e * f) = a * b + c * d + e * f := wrap_small (by have := mul12 ha hb; have := mul12 hc hd; have := mul12 he hf; omega)
end Go.Proofs.Ytdiihhohaijcoaa
/- The Singer maps, in plain words: which code is the first. -/
namespace Go.Proofs.Ytdiihhohaijcoaa
open Go.RowKit
set_option linter.unusedVariables false
set_option linter.unusedSimpArgs false
def unitM : M9 := ((1, 0, 0), (0, 1, 0), (0, 0, 1))
/-- The powers of a map: number k is the power k + 1. -/
def powM (p : Int) (m : M9) : Nat → M9
  | 0 => m
  | k + 1 => timesM p (powM p m k) m
def compM (p c : Int) : M9 := ((0, 1, 0), (0, 0, 1), (c % p, c / p % p, c / (p * p)))
/-- From now on: how many steps until the unit. -/
def ordF (p : Int) (m : M9) : Nat → M9 → Nat → Nat
  | 0, _, _ => 0
  | f + 1, now, k => if now = unitM then k else ordF p m f (timesM p now m) (k + 1)
def ordM (p : Int) (m : M9) : Nat := ordF p m 200 m 1
theorem ordF_spec {p : Int} {m : M9} : ∀ (f : Nat) (k : Nat), ordF p m f (powM p m k) (k + 1) ≠ 0 → ∃ j, k ≤ j ∧ j < k + f ∧ ordF p m f (powM p m k) (k + 1) = j + 1 ∧ powM p m j = unitM ∧ ∀ i, k ≤ i → i < j → powM p m i ≠ unitM
  | 0, _, h => (h rfl).elim
  | f + 1, k, h => by
    unfold ordF at h ⊢
    by_cases e : powM p m k = unitM
    · rw [if_pos e]
      exact ⟨k, Nat.le_refl _, by omega, rfl, e, fun i h1 h2 => absurd h2 (by omega)⟩
    · rw [if_neg e] at h ⊢
      obtain ⟨j, h1, h2, h3, h4, h5⟩ := ordF_spec f (k + 1) h
      refine ⟨j, by omega, by omega, h3, h4, fun i hi hj => ?_⟩
      by_cases ei : i = k
      · rw [ei]; exact e
      · exact h5 i (by omega) hj
/-- The order of a map, where it is at most 200. -/
theorem ordM_spec {p : Int} {m : M9} {K : Nat} (h : ordM p m = K) (hK : K ≠ 0) : 1 ≤ K ∧ K ≤ 200 ∧ powM p m (K - 1) = unitM ∧ ∀ i, i < K - 1 → powM p m i ≠ unitM := by
  have h0 : ordF p m 200 (powM p m 0) (0 + 1) ≠ 0 := by rw [show ordF p m 200 (powM p m 0) (0 + 1) = K from h]; exact hK
  obtain ⟨j, _, h2, h3, h4, h5⟩ := ordF_spec 200 0 h0
  have e : K = j + 1 := by rw [← h]; exact h3
  subst e
  exact ⟨by omega, by omega, h4, fun i hi => h5 i (by omega) (by simpa using hi)⟩
/-- The first code of a Singer map. -/
def firstC (p : Nat) : Nat := if p = 3 then 4 else if p = 5 then 7 else if p = 7 then 9 else if p = 11 then 14 else 17
def goodB (p c : Nat) : Bool := c % p != 0 && ordM p (compM p c) == p * p + p + 1
def checkC (p : Nat) : Bool := (List.range (firstC p)).all (fun c => c % p == 0 || (ordM p (compM p c) != 0 && ordM p (compM p c) != p * p + p + 1)) && (firstC p % p != 0 && ordM p (compM p (firstC p)) == p * p + p + 1)
theorem checks : ∀ p ∈ [3, 5, 7, 11, 13], checkC p = true := by decide +kernel
theorem inM_comp {p c : Nat} (hp : prB (p : Int) = true) (hc : c < p * p * p) : InM (compM p c) := by
  have hb := prB_bd hp
  have h1 : In12 ((c : Int) % p) := in12_mod hp
  have h2 : In12 ((c : Int) / p % p) := in12_mod hp
  have h3 : In12 ((c : Int) / ((p : Int) * p)) := by
    have e : (c : Int) / ((p : Int) * p) = ((c / (p * p) : Nat) : Int) := by simp
    rw [e]
    have : c / (p * p) < p := Nat.div_lt_of_lt_mul (by omega)
    generalize c / (p * p) = q at *
    exact ⟨Int.natCast_nonneg _, by omega⟩
  intro z hz
  simp only [compM, listM, List.mem_cons, List.not_mem_nil, or_false] at hz
  rcases hz with rfl | rfl | rfl | rfl | rfl | rfl | rfl | rfl | rfl <;> first | exact h1 | exact h2 | exact h3 | exact ⟨by decide, by decide⟩
theorem inM_pow {p : Int} {m : M9} (hp : prB p = true) (hm : InM m) (k : Nat) : InM (powM p m k) := by
  cases k with
  | zero => exact hm
  | succ k => exact inM_times hp
theorem eqM_dec (x y : M9) : eqM x.1 x.2.1 x.2.2 y.1 y.2.1 y.2.2 = decide (x = y) := by
  cases h : eqM x.1 x.2.1 x.2.2 y.1 y.2.1 y.2.2 with
  | true => obtain ⟨a, b, c⟩ := eqM_iff.1 h; exact (decide_eq_true (Prod.ext a (Prod.ext b c))).symm
  | false => exact (decide_eq_false (fun e => by rw [e, eqM_iff.2 ⟨rfl, rfl, rfl⟩] at h; cases h)).symm
end Go.Proofs.Ytdiihhohaijcoaa
/- Contracts: the orders of maps. (Printed by gens5.py, a program of this session.) -/
namespace Go.Proofs.Ytdiihhohaijcoaa
open Go.RowKit
set_option linter.unusedVariables false
set_option linter.unusedSimpArgs false
@[reducible] def cellsM9 (m : M9) : Array Value := #[.int .i64 m.1.1, .int .i64 m.1.2.1, .int .i64 m.1.2.2, .int .i64 m.2.1.1, .int .i64 m.2.1.2.1, .int .i64 m.2.1.2.2, .int .i64 m.2.2.1, .int .i64 m.2.2.2.1, .int .i64 m.2.2.2.2]
theorem numW {a b : Int} (h : a = b) : Value.int .i64 a = Value.int .i64 b := by rw [h]
def ordT (K n : Nat) : Int := if K ≤ n then (K : Int) else 0
end Go.Proofs.Ytdiihhohaijcoaa
/- Contracts: the Singer map, as the program and as the reference find it. (Printed by gens6.py, a program of this session.) -/
namespace Go.Proofs.Ytdiihhohaijcoaa
open Go.RowKit
set_option linter.unusedVariables false
set_option linter.unusedSimpArgs false
theorem det_comp (n c : Nat) (hn : 3 ≤ n) : detZ (0, 1, 0) (0, 0, 1) ((c : Int) % (n : Int), (c : Int) / (n : Int) % (n : Int), (c : Int) / ((n : Int) * (n : Int))) % (n : Int) = ((c % n : Nat) : Int) := by
  unfold detZ
  simp
theorem comp_cells (n c : Nat) : cellsM9 (compM n c) = #[.int .i64 0, .int .i64 1, .int .i64 0, .int .i64 0, .int .i64 0, .int .i64 1, .int .i64 ((c : Int) % (n : Int)), .int .i64 ((c : Int) / (n : Int) % (n : Int)), .int .i64 ((c : Int) / ((n : Int) * (n : Int)))] := rfl
structure Codes (n : Nat) : Prop where
  pr : prB (n : Int) = true
  lt : firstC n < n * n * n
  no : ∀ c, c < firstC n → c % n = 0 ∨ (c % n ≠ 0 ∧ ordM n (compM n c) ≠ 0 ∧ ordM n (compM n c) ≠ n * n + n + 1)
  yes : firstC n % n ≠ 0 ∧ ordM n (compM n (firstC n)) = n * n + n + 1
theorem codes_of {n : Nat} (hp : prB (n : Int) = true) : Codes n := by
  have hm : n ∈ [3, 5, 7, 11, 13] := by
    have := prB_cases hp
    simp only [List.mem_cons, List.not_mem_nil, or_false]
    omega
  have hk := checks n hm
  unfold checkC at hk
  simp only [Bool.and_eq_true, bne_iff_ne, ne_eq, beq_iff_eq] at hk
  refine ⟨hp, ?_, fun c hc => ?_, hk.2⟩
  · simp only [List.mem_cons, List.not_mem_nil, or_false] at hm
    rcases hm with rfl | rfl | rfl | rfl | rfl <;> decide
  · have := List.all_eq_true.1 hk.1 c (List.mem_range.2 hc)
    simp only [Bool.or_eq_true, beq_iff_eq, Bool.and_eq_true, bne_iff_ne, ne_eq] at this
    rcases this with h | h
    · exact .inl h
    · by_cases h0 : c % n = 0
      · exact .inl h0
      · exact .inr ⟨h0, h.1, h.2⟩
end Go.Proofs.Ytdiihhohaijcoaa
/- Orbits of a point under a map, in plain words; that the Singer orbits close. -/
namespace Go.Proofs.Ytdiihhohaijcoaa
open Go.RowKit
set_option linter.unusedVariables false
set_option linter.unusedSimpArgs false
def dotP (a b : Pt) : Int := a.1 * b.1 + a.2.1 * b.2.1 + a.2.2 * b.2.2
def imgP (p : Int) (m : M9) (a : Pt) : Pt := nrm3 p (dotP m.1 a % p) (dotP m.2.1 a % p) (dotP m.2.2 a % p)
theorem nrm3_in {p : Int} (hp : prB p = true) (x y z : Int) : In13 (nrm3 p x y z) := by
  obtain ⟨h3, h13⟩ := prB_bd hp
  unfold nrm3
  exact ⟨in12_mod hp, in12_mod hp, in12_mod hp⟩
theorem imgP_in {p : Int} (hp : prB p = true) (m : M9) (a : Pt) : In13 (imgP p m a) := nrm3_in hp _ _ _
def orbA (p : Int) (m : M9) (a : Pt) : Nat → Pt
  | 0 => a
  | k + 1 => imgP p m (orbA p m a k)
theorem orbA_in {p : Int} (hp : prB p = true) {m : M9} {a : Pt} (ha : In13 a) (k : Nat) : In13 (orbA p m a k) := by
  cases k with
  | zero => exact ha
  | succ k => exact imgP_in hp _ _
def orbL (p : Int) (m : M9) (a : Pt) (k : Nat) : List Pt := (List.range k).map (orbA p m a)
theorem orbL_succ (p : Int) (m : M9) (a : Pt) (k : Nat) : orbL p m a (k + 1) = orbL p m a k ++ [orbA p m a k] := by
  unfold orbL; rw [List.range_succ, List.map_append]; rfl
theorem orbL_length (p : Int) (m : M9) (a : Pt) (k : Nat) : (orbL p m a k).length = k := by unfold orbL; simp
theorem orbL_at (p : Int) (m : M9) (a : Pt) (k i : Nat) (h : i < k) : (orbL p m a k).getD i (0, 0, 0) = orbA p m a i := by
  unfold orbL; simp [List.getD, h]
/-- The orbit is back at its first point after k steps, and not before. -/
structure Orb (p : Int) (m : M9) (a : Pt) (k : Nat) : Prop where
  pr : prB p = true
  inm : InM m
  inp : In13 a
  pos : 0 < k ∧ k ≤ 1000
  back : orbA p m a k = a
  no : ∀ i, 0 < i → i < k → orbA p m a i ≠ a
def orbF (p : Int) (m : M9) (a : Pt) : Nat → Pt → Bool
  | 0, now => now == a
  | f + 1, now => now != a && orbF p m a f (imgP p m now)
theorem orbF_spec {p : Int} {m : M9} {a : Pt} : ∀ (f k : Nat), orbF p m a f (orbA p m a k) = true → (∀ i, k ≤ i → i < k + f → orbA p m a i ≠ a) ∧ orbA p m a (k + f) = a
  | 0, k, h => ⟨fun i h1 h2 => by omega, by simpa [orbF] using h⟩
  | f + 1, k, h => by
    unfold orbF at h
    simp only [Bool.and_eq_true, bne_iff_ne, ne_eq] at h
    obtain ⟨h1, h2⟩ := orbF_spec f (k + 1) h.2
    refine ⟨fun i hi hj => ?_, by rw [show k + (f + 1) = k + 1 + f by omega]; exact h2⟩
    by_cases e : i = k
    · rw [e]; exact h.1
    · exact h1 i (by omega) (by omega)
def checkO (p : Nat) : Bool := orbF p (compM p (firstC p)) (0, 0, 1) (p * p + p) (imgP p (compM p (firstC p)) (0, 0, 1))
theorem checksO : ∀ p ∈ [3, 5, 7, 11, 13], checkO p = true := by decide +kernel
/-- The Singer orbit: its map, its length. -/
theorem orb_of {n : Nat} (hp : prB (n : Int) = true) : Orb (n : Int) (compM n (firstC n)) (0, 0, 1) (n * n + n + 1) := by
  have hm : n ∈ [3, 5, 7, 11, 13] := by
    have := prB_cases hp
    simp only [List.mem_cons, List.not_mem_nil, or_false]
    omega
  have hk := checksO n hm
  obtain ⟨h1, h2⟩ := orbF_spec (p := (n : Int)) (m := compM n (firstC n)) (a := (0, 0, 1)) (n * n + n) 1 hk
  obtain ⟨h3, h13⟩ := prB_bd hp
  have h2le : n * n ≤ 13 * 13 := Nat.mul_le_mul (by omega) (by omega)
  exact ⟨hp, inM_comp hp (codes_of hp).lt, ⟨by decide, by decide, by decide⟩, by omega, by rw [show n * n + n + 1 = 1 + (n * n + n) by omega]; exact h2, fun i hi hj => h1 i (by omega) (by omega)⟩
/-- The Singer order of a prime. -/
def singL (n : Nat) : List Pt := orbL (n : Int) (compM n (firstC n)) (0, 0, 1) (n * n + n + 1)
theorem singL_length (n : Nat) : (singL n).length = n * n + n + 1 := orbL_length _ _ _ _
theorem singL_in {n : Nat} (hp : prB (n : Int) = true) : ∀ a ∈ singL n, In13 a := by
  intro a ha
  obtain ⟨i, _, rfl⟩ := List.mem_map.1 ha
  exact orbA_in hp ⟨by decide, by decide, by decide⟩ i
end Go.Proofs.Ytdiihhohaijcoaa
/- Contracts: the image of a point under a map, the program's and the reference's. (Printed by gent1.py, a program of this session.) -/
namespace Go.Proofs.Ytdiihhohaijcoaa
open Go.RowKit
set_option linter.unusedVariables false
set_option linter.unusedSimpArgs false
end Go.Proofs.Ytdiihhohaijcoaa
/- Contracts: the image of a point under a map, as the reference makes it. (Printed by gent2.py, a program of this session.) -/
namespace Go.Proofs.Ytdiihhohaijcoaa
open Go.RowKit
set_option linter.unusedVariables false
set_option linter.unusedSimpArgs false
theorem src1 {W : World} {g o : Nat} {x : Int} (d0 : W.cell? ⟨g, o, none⟩ = some (.int .i64 x)) :
    ∀ (j : Nat) (u : Value), [Value.int .i64 x][j]? = some u → W.cell? ((⟨g, o, none⟩ : Addr).add j) = some u := by
  intro j u hj
  have hadd : (⟨g, o, none⟩ : Addr).add j = ⟨g, o + j, none⟩ := by unfold Addr.add; split <;> simp_all
  rw [hadd]
  match j, hj with
  | 0, hj => simpa using d0.trans (by simpa using hj)
  | j + 1, hj => simp at hj
theorem oneA (x : Int) : ∀ u ∈ [Value.int .i64 x], u.oneCell' = true := by
  intro u hu
  rw [List.mem_singleton.1 hu]; rfl
end Go.Proofs.Ytdiihhohaijcoaa
/- Contracts: orbits of a point, the program's and the reference's. (Printed by gent3.py, a program of this session.) -/
namespace Go.Proofs.Ytdiihhohaijcoaa
open Go.RowKit
set_option linter.unusedVariables false
set_option linter.unusedSimpArgs false
theorem own_lt {w : World} {base : Nat} {e : TypeId} {size n : Nat} {v : Value} {xs : List Value} (h : w.ownsRow base e size v n xs) (k : Nat) (hk : v.ownBlock = some k) : k < w.heap.size := by
  rcases h.2 with ⟨rfl, _⟩ | ⟨g, cap, cur, rfl, hb, hg, _⟩
  · simp [Value.ownBlock] at hk
  · have : g = k := by simpa [Value.ownBlock] using hk
    rw [← this]
    exact (Array.getElem?_eq_some_iff.1 hg).1
theorem own_same {W W' : World} {base : Nat} {e : TypeId} {size n : Nat} {v : Value} {xs : List Value} (h : W.ownsRow base e size v n xs) (hb : ∀ b, v.ownBlock = some b → W'.heap[b]? = W.heap[b]?) : W'.ownsRow base e size v n xs := by
  refine ⟨h.1, ?_⟩
  rcases h.2 with h0 | ⟨g, cap, cur, rfl, hb0, hg, hr⟩
  · exact .inl h0
  · exact .inr ⟨g, cap, cur, rfl, hb0, (hb g (by simp [Value.ownBlock])).trans hg, hr⟩
def lenV : Value → Nat
  | .slice _ n _ => n
  | _ => 0
theorem own_len {w : World} {base : Nat} {e : TypeId} {size n : Nat} {v : Value} {xs : List Value} (h : w.ownsRow base e size v n xs) : lenV v = n := by
  rcases h.2 with ⟨rfl, h0⟩ | ⟨g, cap, cur, rfl, _⟩
  · simp [lenV]; omega
  · rfl
end Go.Proofs.Ytdiihhohaijcoaa
/- Own lists, found again by search; slice literals of one element and appends to own lists. -/
namespace Go.Proofs.Ytdiihhohaijcoaa
open Go.RowKit
set_option linter.unusedVariables false
set_option linter.unusedSimpArgs false
/-- An own list. -/
structure OwnK (W : World) (B : Nat) (T : TypeId) (sz : Nat) (v : Value) (n : Nat) (xs : List Value) : Prop where
  out : W.ownsRow B T sz v n xs
/-- The list's block is not this one. -/
structure Off (v : Value) (g : Nat) : Prop where
  out : v.ownBlock ≠ some g
/-- The list that this value is has been appended to. -/
structure Grew (w : World) (v : Value) (W : World) : Prop where
  out : w.grownBy W v.ownBlock
theorem OwnK.below {w W : World} {B : Nat} {T : TypeId} {sz : Nat} {v : Value} {n : Nat} {xs : List Value} (h : OwnK w B T sz v n xs) (l : Below w.heap.size w W) : OwnK W B T sz v n xs := ⟨own_below h.out l⟩
theorem OwnK.link {w W : World} {B : Nat} {T : TypeId} {sz : Nat} {v : Value} {n : Nat} {xs : List Value} (l : Link w W) (h : OwnK w B T sz v n xs) : OwnK W B T sz v n xs := h.below l.out
theorem OwnK.alloc {w : World} {B : Nat} {T : TypeId} {sz : Nat} {v : Value} {n : Nat} {xs : List Value} (h : OwnK w B T sz v n xs) (o : Obj) : OwnK (w.alloc o) B T sz v n xs := h.below (bal (Below.refl _ _) o)
theorem OwnK.drew {w : World} {B : Nat} {T : TypeId} {sz : Nat} {v : Value} {n : Nat} {xs : List Value} (h : OwnK w B T sz v n xs) : OwnK w.drew B T sz v n xs := ⟨h.out⟩
theorem OwnK.drewN {w : World} {B : Nat} {T : TypeId} {sz : Nat} {v : Value} {n : Nat} {xs : List Value} (h : OwnK w B T sz v n xs) (k : Nat) : OwnK (w.drewN k) B T sz v n xs := ⟨h.out⟩
theorem OwnK.set {w : World} {B : Nat} {T : TypeId} {sz : Nat} {v : Value} {n g : Nat} {xs : List Value} {U : Array Value} (h : OwnK w B T sz v n xs) (hg : Off v g) : OwnK (w.setRow g U) B T sz v n xs :=
  ⟨own_same h.out fun b hb => setRow_other _ _ _ _ (fun e => hg.out (by rw [hb, e]))⟩
theorem OwnK.grew {w W : World} {B : Nat} {T : TypeId} {sz : Nat} {v u : Value} {n : Nat} {xs : List Value} (hg : Grew w u W) (h : OwnK w B T sz v n xs) (ho : ∀ b, v.ownBlock = some b → u.ownBlock ≠ some b) : OwnK W B T sz v n xs :=
  ⟨own_same h.out fun b hb => hg.out.block b (own_lt h.out b hb) (fun e => ho b hb e.symm)⟩
theorem OwnK.lt {w : World} {B : Nat} {T : TypeId} {sz : Nat} {v : Value} {n : Nat} {xs : List Value} (h : OwnK w B T sz v n xs) (b : Nat) (hb : v.ownBlock = some b) : b < w.heap.size := own_lt h.out b hb
theorem OwnK.base {w : World} {B : Nat} {T : TypeId} {sz : Nat} {v : Value} {n : Nat} {xs : List Value} (h : OwnK w B T sz v n xs) (b : Nat) (hb : v.ownBlock = some b) : B ≤ b := own_base' h.out b hb
theorem Off.above {w : World} {B : Nat} {T : TypeId} {sz : Nat} {v : Value} {n g : Nat} {xs : List Value} (h : OwnK w B T sz v n xs) (hg : w.heap.size ≤ g) : Off v g := ⟨fun e => by have := h.lt g e; omega⟩
theorem Off.under {w : World} {B : Nat} {T : TypeId} {sz : Nat} {v : Value} {n g : Nat} {xs : List Value} (h : OwnK w B T sz v n xs) (hg : g < B) : Off v g := ⟨fun e => by have := h.base g e; omega⟩
theorem Grew.size {w W : World} {v : Value} (h : Grew w v W) : w.heap.size ≤ W.heap.size := h.out.size
theorem RowK.grew {w W : World} {u : Value} {g : Nat} {cs : Array Value} {T : TypeId} (hg : Grew w u W) (ho : Off u g) (h : RowK w g cs T) : RowK W g cs T := ⟨(hg.out.block g h.lt (fun e => ho.out e.symm)).trans h.out⟩
theorem cell_grew {w W : World} {u : Value} {b o : Nat} {x : Value} (hg : Grew w u W) (ho : Off u b) (h : w.cell? ⟨b, o, none⟩ = some x) : W.cell? ⟨b, o, none⟩ = some x := hg.out.cell h (fun e => ho.out e.symm)
theorem PtsK.grew {w W : World} {u : Value} {b o n : Nat} {L : List Pt} (hg : Grew w u W) (ho : Off u b) (h : PtsK w b o n L) : PtsK W b o n L :=
  ⟨fun i hi => ⟨cell_grew hg ho (h.out i hi).1, cell_grew hg ho (h.out i hi).2.1, cell_grew hg ho (h.out i hi).2.2⟩⟩
theorem IntsK.grew {w W : World} {u : Value} {b o n : Nat} {L : List Int} (hg : Grew w u W) (ho : Off u b) (h : IntsK w b o n L) : IntsK W b o n L := ⟨fun i hi => cell_grew hg ho (h.out i hi)⟩
theorem LowK.grew {w w1 W : World} {u : Value} (hg : Grew w1 u W) (ho : ∀ b, u.ownBlock = some b → w.heap.size ≤ b) (h : LowK w w1) : LowK w W := ⟨h.out.grown hg.out h.out.size ho⟩
theorem LowK.grewB {w w1 w2 W : World} {B : Nat} {T : TypeId} {sz n : Nat} {u : Value} {xs : List Value} (hg : Grew w1 u W) (hO : OwnK w2 B T sz u n xs) (hB : w.heap.size ≤ B) (h : LowK w w1) : LowK w W := h.grew hg (fun b hb => Nat.le_trans hB (hO.base b hb))
/-- Two lists of different blocks. -/
structure Apart (v u : Value) : Prop where
  out : ∀ b, v.ownBlock = some b → u.ownBlock ≠ some b
theorem Apart.symm {v u : Value} (h : Apart v u) : Apart u v := ⟨fun b h1 h2 => h.out b h2 h1⟩
theorem Apart.next {v u u' : Value} {w : World} {B : Nat} {T : TypeId} {sz n : Nat} {xs : List Value} (h : Apart v u) (hO : OwnK w B T sz v n xs) (hb : u'.ownBlock = u.ownBlock ∨ u'.ownBlock = some w.heap.size) : Apart v u' :=
  ⟨fun b h1 h2 => by
    rcases hb with e | e
    · exact h.out b h1 (by rw [← e, h2])
    · have := hO.lt b h1; rw [e] at h2; have := Option.some.inj h2; omega⟩
theorem Apart.of {g1 g2 n1 c1 n2 c2 : Nat} (h : g1 ≠ g2) : Apart (.slice (some ⟨g1, 0, none⟩) n1 c1) (.slice (some ⟨g2, 0, none⟩) n2 c2) := ⟨fun b h1 h2 => by simp [Value.ownBlock] at h1 h2; omega⟩
/-- Facts about the world at hand; then on, from any world of which they are known. -/
theorem at_world {P : Program} {C : Code} {Q : Exit → Act → World → Prop} {a : Act} (W : World) (F : World → Prop) (h : F W) (k : ∀ V, F V → C.wp P Q a V) : C.wp P Q a W := k W h
theorem at_rounds {P : Program} {C : Code} {Q : Exit → Act → World → Prop} {n : Nat} {a : Act} (W : World) (F : World → Prop) (h : F W) (k : ∀ V, F V → Code.rounds P C Q n a V) : Code.rounds P C Q n a W := k W h
/-- What an append needs to know of the types. -/
structure EltK (P : Program) (ty e : TypeId) (sz : Nat) : Prop where
  out : P.underlying ty = some (.slice e) ∧ ∃ i z, P.info? e = some i ∧ i.zero = some z ∧ i.size = sz ∧ z.cells.size = sz ∧ 0 < sz ∧ sz ≤ 100 ∧ i.bytes ≤ 1000
section
variable {P : Program} {ops : Array Oper} {rest : List Oper} {o : Oper} {a : Act} {Q : Exit → Act → World → Prop}
theorem wpList_append_K (w : World) (hgd : o.guard = none) (s x : Operand) (t e : TypeId) (sz : Nat) (ho : o.op = .call { callee := .builtin .append, args := #[s, x], argTypes := #[t, t] }) (he : EltK P t e sz)
    {v : Value} {g m c : Nat} (hs : a.eval s = v) (hx : a.eval x = .slice (some ⟨g, 0, none⟩) m c) {B n : Nat} {xs : List Value} (hown : OwnK w B e sz v n xs) {news : Array Value} {T : TypeId} (hnew : RowK w g news T) (hl : news.size = m * sz) (h1 : ∀ u ∈ news.toList, u.oneCell' = true)
    (h63 : n + m ≤ 1000000) (hbase : B ≤ w.heap.size)
    (h : ∀ v' w', OwnK w' B e sz v' (n + m) (xs ++ news.toList) → Grew w v w' → (v'.ownBlock = v.ownBlock ∨ v'.ownBlock = some w.heap.size) → wpList P ops Q rest (a.put o.dst v') w') : wpList P ops Q (o :: rest) a w := by
  obtain ⟨hu, i, z, hi, hz, hsz, hzs, hpos, hle, hby⟩ := he.out
  refine wpList_append_own_at w hgd s x t ho B e i z sz i.bytes hu hi hz hsz rfl hzs hpos v n xs hs hown.out ⟨g, 0, none⟩ m c news.toList hx (by simpa using hl) (fun j u hj => ?_) h1 (by unfold maxLen; omega) ?_ hbase (fun v' w' h2 h3 h4 h5 => h v' w' ⟨h2⟩ ⟨h3⟩ h5)
  · have hadd : (⟨g, 0, none⟩ : Addr).add j = ⟨g, j, none⟩ := by unfold Addr.add; split <;> simp_all
    rw [hadd, cell_of_row w g j _ _ _ hnew.out]
    simpa using hj
  · exact Nat.le_trans (Nat.mul_le_mul h63 hby) (by decide)
/-- A slice literal of one aggregate of three. -/
theorem wpList_slice_pt (w : World) (hgd : o.guard = none) (t e : TypeId) (x : Operand) (ho : o.op = .buildSlice t 1 #[(0, x)]) (he : EltK P t e 3) {p : Pt} (hx : a.eval x = pV p)
    (h : wpList P ops Q rest (a.put o.dst (.slice (some ⟨w.heap.size, 0, none⟩) 1 1)) (w.alloc (.cells (pC p) e))) : wpList P ops Q (o :: rest) a w := by
  obtain ⟨hu, i, z, hi, hz, hsz, hzs, hpos, hle, hby⟩ := he.out
  refine wpList_buildSlice hgd t e 1 _ ho (pC p) i z hu hi hz (by rw [hsz]; decide) (by rw [hsz]; decide) ?_ h
  simp only [List.map_toArray, List.map_cons, List.map_nil, hx, hsz]
  generalize z.cells = zc at hzs
  have e1 : (Array.range (1 * 3)).map (fun k => zc[k % zc.size]!) = #[zc[0]!, zc[1]!, zc[2]!] := by
    rw [hzs]
    apply Array.ext
    · simp
    · intro i h1 h2
      simp at h1
      match i, h1 with
      | 0, _ => simp
      | 1, _ => simp
      | 2, _ => simp
  rw [e1]
  rfl
end
theorem eltPo : EltK Try.prog 28 42 3 := by
  obtain ⟨i0, hi, hz0, hz1, hz2⟩ := info_parts (show (Try.prog.info? 42).map (fun i => (i.zero, i.size, i.bytes)) = some (some (.agg #[.int .i64 0, .int .i64 0, .int .i64 0]), 3, 24) by kernel_rfl)
  exact ⟨Try.underlying28, i0, _, hi, hz0, hz1, rfl, by decide, by decide, by rw [hz2]; decide⟩
theorem eltLn : EltK Try.prog 52 25 3 := by
  obtain ⟨i0, hi, hz0, hz1, hz2⟩ := info_parts (show (Try.prog.info? 25).map (fun i => (i.zero, i.size, i.bytes)) = some (some (.agg #[.int .i64 0, .int .i64 0, .int .i64 0]), 3, 24) by kernel_rfl)
  exact ⟨Try.underlying52, i0, _, hi, hz0, hz1, rfl, by decide, by decide, by rw [hz2]; decide⟩
theorem eltI64 : EltK Try.prog 64 2 1 := by
  obtain ⟨i0, hi, hz0, hz1, hz2⟩ := info_parts (show (Try.prog.info? 2).map (fun i => (i.zero, i.size, i.bytes)) = some (some (.int .i64 0), 1, 8) by kernel_rfl)
  exact ⟨Try.underlying64, i0, _, hi, hz0, hz1, rfl, by decide, by decide, by rw [hz2]; decide⟩
theorem eltInt : EltK Try.prog 58 3 1 := by
  obtain ⟨i0, hi, hz0, hz1, hz2⟩ := info_parts (show (Try.prog.info? 3).map (fun i => (i.zero, i.size, i.bytes)) = some (some (.int .i64 0), 1, 8) by kernel_rfl)
  exact ⟨Try.underlying58, i0, _, hi, hz0, hz1, rfl, by decide, by decide, by rw [hz2]; decide⟩
theorem OwnK.empty {w : World} {B g : Nat} {T : TypeId} {sz : Nat} (h : RowK w g #[] T) (hB : B ≤ g) : OwnK w B T sz (.slice (some ⟨g, 0, none⟩) 0 0) 0 [] :=
  ⟨by simp, .inr ⟨g, 0, #[], rfl, hB, h.out, Nat.le_refl _, by unfold maxLen; omega, by simp, by simp⟩⟩
/-- An own list of points, read. -/
theorem OwnK.pts {W : World} {B : Nat} {T : TypeId} {v : Value} {n : Nat} {l : List Pt} (h : OwnK W B T 3 v n (ptCs l)) (hl : l.length = n) (hn : 0 < n) :
    ∃ g cap, v = .slice (some ⟨g, 0, none⟩) n cap ∧ B ≤ g ∧ g < W.heap.size ∧ PtsK W g 0 n l := by
  obtain ⟨g, cap, h1, h2, h3, h4⟩ := ownPts h.out hl hn
  exact ⟨g, cap, h1, h2, h3, ⟨h4⟩⟩
theorem ptCs_end (l : List Pt) (p : Pt) : ptCs l ++ (pC p).toList = ptCs (l ++ [p]) := by simp [ptCs, pC, ptC]
end Go.Proofs.Ytdiihhohaijcoaa
