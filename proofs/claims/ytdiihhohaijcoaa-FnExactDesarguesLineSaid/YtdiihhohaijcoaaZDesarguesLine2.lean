/- Texts of the claim, in build order: Region, RegG, RegS, B1, C1, C2, C3, C4, C5, C6, C7, C8. No condition. -/
import Derived.Orders
import Derived.Laws.CopyOwn
import Derived.Laws.Rows
import Derived.Test.YtdiihhohaijcoaaZDesarguesLine1
/- A region that draws its order, walked once: operations that yield one value each in whatever later world, and at most one new variable that takes the result. -/
namespace Go.Proofs.Ytdiihhohaijcoaa
open Go.RowKit
set_option linter.unusedVariables false
set_option linter.unusedSimpArgs false

def calmRun (P : Program) (o : Oper) (ρ : Operand → Value) (w : World) (v : Value) : Prop :=
  match (execOp ρ o).run P w with
  | .ok (.value u) w' => w' = w ∧ u = v
  | .ok .skip w' => w' = w ∧ v = undef
  | .ok (.enter f args) w' => w' = w ∧ Calls P f args w (fun e w'' => e = .returned v ∧ Below w.heap.size w w'')
  | _ => False

structure calmAt (P : Program) (o : Oper) (ρ : Operand → Value) (w : World) (v : Value) : Prop where
  out : calmRun P o ρ w v

theorem wp_of_calm {P : Program} {o : Oper} {a : Act} {w : World} {v : Value} {K : Act → World → Prop} {Q : Exit → Act → World → Prop}
    (h : calmAt P o a.eval w v) (hK : ∀ w', Below w.heap.size w w' → K (a.put o.dst v) w') : o.wp P a w K Q := by
  have h := h.out
  unfold calmRun at h
  unfold Oper.wp
  generalize (execOp a.eval o).run P w = r at *
  cases r with
  | ok n w' =>
    cases n <;> simp only [Oper.upon] at h ⊢
    case value u => obtain ⟨rfl, rfl⟩ := h; exact hK _ (Below.refl _ _)
    case skip => obtain ⟨rfl, rfl⟩ := h; exact hK _ (Below.refl _ _)
    case enter f args =>
      obtain ⟨rfl, hc⟩ := h
      exact hc.mono fun e w'' ⟨he, hb⟩ => by subst he; exact hK _ hb
  | halt x w' => simp only at h

theorem count_le (p q : Nat → Bool) (hq : ∀ i, q i = true → p i = true) : ∀ l : List Nat, l.countP q ≤ l.countP p
  | [] => by simp
  | x :: l => by
    have := count_le p q hq l
    rw [List.countP_cons, List.countP_cons]
    by_cases h : q x = true
    · rw [if_pos h, if_pos (hq x h)]; omega
    · rw [if_neg h]; split <;> omega
theorem count_lt (p q : Nat → Bool) (hq : ∀ i, q i = true → p i = true) (k : Nat) (hp : p k = true) (hk : q k = false) : ∀ l : List Nat, k ∈ l → l.countP q < l.countP p
  | x :: l, h => by
    rw [List.countP_cons, List.countP_cons]
    have h1 := count_le p q hq l
    by_cases e : x = k
    · subst e; rw [hp, hk]; simp; omega
    · have h2 := count_lt p q hq k hp hk l (by cases h with | head => exact (e rfl).elim | tail _ h => exact h)
      by_cases h : q x = true
      · rw [if_pos h, if_pos (hq x h)]; omega
      · rw [if_neg h]; split <;> omega

def readsOf (o : Oper) : List Tmp := o.op.operands.toList.filterMap fun | .tmp t => some t | _ => none
def bindsTo (o : Oper) (j : Nat) : Bool := o.after.any fun e => Region.binds .any e && e.on == j
def notSelect (o : Oper) : Bool := match o.op with | .select _ _ => false | _ => true
/-- Every operation but the new variable's two reads only what has been yielded before it, or what the region does not write. -/
def boxChk (l : List Oper) (m s d N : Nat) : Bool :=
  (List.range l.length).all fun i => match l[i]? with
    | none => true
    | some o => o.guard.isNone && notSelect o && (o.after.all fun e => !Region.binds .any e || e.on < i) &&
      (if i = m then o.dst == some d
       else (if i = s then o.dst.isNone && bindsTo o m else (match o.dst with | some t => t != d && t < N | none => false) && !(readsOf o).contains d) &&
        ((readsOf o).all fun t => t == d || (List.range l.length).all fun j => match l[j]? with
          | none => true
          | some oj => !(oj.dst == some t) || bindsTo o j))

structure RInv (l : List Oper) (a0 aE : Act) (w0 : World) (m s d : Nat) (T : TypeId) (n : Nat) (U : Array Value) (listed : Array Bool) (a : Act) (w : World) : Prop where
  df : a.defers = aE.defers
  sz : a.tmps.size = aE.tmps.size
  len : listed.size = l.length
  fr1 : ∀ (j : Nat) (o : Oper) (t : Nat), l[j]? = some o → o.dst = some t → t ≠ d → listed.getD j false = true → a.tmps.getD t undef = aE.tmps.getD t undef
  fr0 : ∀ t : Nat, t ≠ d → (∀ (j : Nat) (o : Oper), l[j]? = some o → o.dst = some t → listed.getD j false = false) → a.tmps.getD t undef = a0.tmps.getD t undef
  bl : Below w0.heap.size w0 w
  box : listed.getD m false = true → ∃ g, a.tmps.getD d undef = .pointer (some ⟨g, 0, none⟩) ∧ w0.heap.size ≤ g ∧ ∃ cs, w.heap[g]? = some (.cells cs T (0, 0)) ∧ cs.size = n ∧ (listed.getD s false = true → cs = U)
  sm : listed.getD s false = true → listed.getD m false = true

structure RInv0 (l : List Oper) (a0 aE : Act) (w0 : World) (listed : Array Bool) (a : Act) (w : World) : Prop where
  df : a.defers = aE.defers
  sz : a.tmps.size = aE.tmps.size
  len : listed.size = l.length
  fr1 : ∀ (j : Nat) (o : Oper) (t : Nat), l[j]? = some o → o.dst = some t → listed.getD j false = true → a.tmps.getD t undef = aE.tmps.getD t undef
  fr0 : ∀ t : Nat, (∀ (j : Nat) (o : Oper), l[j]? = some o → o.dst = some t → listed.getD j false = false) → a.tmps.getD t undef = a0.tmps.getD t undef
  bl : Below w0.heap.size w0 w
theorem bindsTo_spec {o : Oper} {j : Nat} (h : bindsTo o j = true) : ∃ e ∈ o.after, Region.binds .any e = true ∧ e.on = j := by
  unfold bindsTo at h
  rw [Array.any_eq_true'] at h
  obtain ⟨e, he, h2⟩ := h
  simp only [Bool.and_eq_true, beq_iff_eq] at h2
  exact ⟨e, he, h2.1, h2.2⟩
theorem put_get_same (a : Act) (t : Nat) (v : Value) (h : t < a.tmps.size) : (a.put (some t) v).tmps.getD t undef = v := by
  simp [Act.put, Array.getD, h]
theorem put_get_ne (a : Act) (t u : Nat) (v : Value) (h : t ≠ u) : (a.put (some t) v).tmps.getD u undef = a.tmps.getD u undef := by
  simp [Act.put, Array.getElem?_setIfInBounds_ne h]
theorem put_size (a : Act) (t : Option Nat) (v : Value) : (a.put t v).tmps.size = a.tmps.size := by cases t <;> simp [Act.put]
theorem put_defers (a : Act) (t : Option Nat) (v : Value) : (a.put t v).defers = a.defers := by cases t <;> simp [Act.put]
theorem getD_set (listed : Array Bool) (i j : Nat) (h : i < listed.size) : (listed.setIfInBounds i true).getD j false = if i = j then true else listed.getD j false := by
  by_cases e : i = j
  · subst e; simp [h]
  · rw [if_neg e, getD_set_ne false e]
theorem rep_false (n j : Nat) : (Array.replicate n false).getD j false = false := by
  simp only [Array.getD]; split <;> simp
theorem act_ext (a b : Act) (h1 : a.defers = b.defers) (h2 : a.tmps.size = b.tmps.size) (h3 : ∀ t, t < a.tmps.size → a.tmps.getD t undef = b.tmps.getD t undef) : a = b := by
  obtain ⟨x, y⟩ := a
  obtain ⟨x', y'⟩ := b
  simp only at h1 h2 h3
  subst h1
  congr 1
  apply Array.ext h2
  intro i hi hi'
  have := h3 i hi
  simpa [hi, hi'] using this
def puts (a : Act) : List (Nat × Value) → Act
  | [] => a
  | kv :: r => puts (a.put (some kv.1) kv.2) r
theorem puts_size : ∀ (vs : List (Nat × Value)) (a : Act), (puts a vs).tmps.size = a.tmps.size
  | [], _ => rfl
  | kv :: r, a => by rw [puts, puts_size r, put_size]
theorem puts_defers : ∀ (vs : List (Nat × Value)) (a : Act), (puts a vs).defers = a.defers
  | [], _ => rfl
  | kv :: r, a => by rw [puts, puts_defers r, put_defers]
theorem puts_other (t : Nat) : ∀ (vs : List (Nat × Value)) (a : Act), (∀ kv ∈ vs, kv.1 ≠ t) → (puts a vs).tmps.getD t undef = a.tmps.getD t undef
  | [], _, _ => rfl
  | kv :: r, a, h => by
    rw [puts, puts_other t r _ (fun x hx => h x (List.mem_cons_of_mem _ hx)), put_get_ne _ _ _ _ (h kv (List.mem_cons_self ..))]

section
variable {P : Program} {Q : Exit → Act → World → Prop} {l : List Oper} {a0 : Act} {w : World} {vs : List (Nat × Value)} {m s d n : Nat} {T : TypeId} {U Z : Array Value} {om os : Oper}

theorem chk_at {N : Nat} (chk : boxChk l m s d N = true) {i : Nat} {o : Oper} (hi : l[i]? = some o) :
    (o.guard = none ∧ (∀ cs b, o.op ≠ .select cs b) ∧ (∀ e ∈ o.after, Region.binds .any e = true → e.on < i)) ∧
    (i = m → o.dst = some d) ∧ (i ≠ m → i = s → o.dst = none ∧ bindsTo o m = true) ∧ (i ≠ m → i ≠ s → (∃ t, o.dst = some t ∧ t ≠ d ∧ t < N) ∧ d ∉ readsOf o) ∧
    (i ≠ m → ∀ t ∈ readsOf o, t = d ∨ ∀ j oj, l[j]? = some oj → oj.dst = some t → bindsTo o j = true) := by
  unfold boxChk at chk
  have hlt : i < l.length := (List.getElem?_eq_some_iff.1 hi).1
  have h := List.all_eq_true.1 chk i (List.mem_range.2 hlt)
  simp only [hi, Bool.and_eq_true, Option.isNone_iff_eq_none] at h
  obtain ⟨⟨⟨hg, hns⟩, haf⟩, hr⟩ := h
  refine ⟨⟨hg, ?_, ?_⟩, ?_, ?_, ?_, ?_⟩
  · intro cs b e; rw [notSelect, e] at hns; cases hns
  · intro e he hb
    have := (Array.all_eq_true_iff_forall_mem.1 haf) e he
    simpa [hb] using this
  · intro e; rw [if_pos e] at hr; simpa using hr
  · intro e1 e2; rw [if_neg e1, if_pos e2] at hr; simp only [Bool.and_eq_true, Option.isNone_iff_eq_none] at hr; exact hr.1
  · intro e1 e2
    rw [if_neg e1, if_neg e2] at hr
    simp only [Bool.and_eq_true] at hr
    refine ⟨?_, by simpa using hr.1.2⟩
    cases hd : o.dst with
    | none => rw [hd] at hr; simp at hr
    | some t => rw [hd] at hr; simp only [Bool.and_eq_true, bne_iff_ne, decide_eq_true_eq] at hr; exact ⟨t, rfl, hr.1.1.1, hr.1.1.2⟩
  · intro e1 t ht
    rw [if_neg e1] at hr
    simp only [Bool.and_eq_true] at hr
    have h2 := List.all_eq_true.1 hr.2 t ht
    simp only [Bool.or_eq_true, beq_iff_eq] at h2
    rcases h2 with h2 | h2
    · exact .inl h2
    · refine .inr fun j oj hj hd => ?_
      have hjl : j < l.length := (List.getElem?_eq_some_iff.1 hj).1
      have := List.all_eq_true.1 h2 j (List.mem_range.2 hjl)
      simpa [hj, hd] using this

theorem ready_all {N : Nat} (chk : boxChk l m s d N = true) {listed : Array Bool} (hlen : listed.size = l.length)
    (h : Region.ready .any l.toArray listed = []) : ∀ i, i < l.length → listed.getD i false = true := by
  intro i
  induction i using Nat.strongRecOn with
  | _ i ih =>
    intro hi
    cases hb : listed.getD i false with
    | true => rfl
    | false =>
      exfalso
      have ho : l[i]? = some l[i] := List.getElem?_eq_getElem hi
      have hmem : i ∈ Region.ready .any l.toArray listed := by
        rw [mem_ready]
        refine ⟨?_, l[i], by simp, fun e he hbd => ?_⟩
        · have : i < listed.size := by omega
          simp [this] at hb ⊢; exact hb
        · exact ih e.on ((chk_at chk ho).1.2.2 e he hbd) (by have := (chk_at chk ho).1.2.2 e he hbd; omega)
      rw [h] at hmem; cases hmem

theorem wp_region_box {id : Nat} (hm : P.follows .mixedOrders = true) (hmi : l[m]? = some om) (hsi : l[s]? = some os) (hms : m ≠ s)
    (chk : boxChk l m s d a0.tmps.size = true) (hd : d < a0.tmps.size) (hkeys : vs.all (fun kv => l.any (·.dst == some kv.1)) = true) (hZ : Z.size = n) (hU : U.size = n)
    (hal : ∀ ρ W, (execOp ρ om).run P W = .ok (.value (.pointer (some ⟨W.heap.size, 0, none⟩))) (W.alloc (.cells Z T)))
    (hst : ∀ (ρ : Operand → Value) (g : Nat) (W : World) (cs : Array Value), ρ (.tmp d) = .pointer (some ⟨g, 0, none⟩) → (∀ t ∈ readsOf os, t ≠ d → ρ (.tmp t) = (puts a0 vs).tmps.getD t undef) → W.heap[g]? = some (.cells cs T (0, 0)) → cs.size = n →
      (execOp ρ os).run P W = .ok .skip (W.setRow g U))
    (hop : ∀ (i : Nat) (o : Oper) (t : Nat), l[i]? = some o → i ≠ m → i ≠ s → o.dst = some t → ∀ W, Below w.heap.size w W → calmAt P o (puts a0 vs).eval W ((puts a0 vs).tmps.getD t undef))
    (hQ : ∀ g W, Below w.heap.size w W → w.heap.size ≤ g → W.heap[g]? = some (.cells U T (0, 0)) → Q .normal ((puts a0 vs).put (some d) (.pointer (some ⟨g, 0, none⟩))) W) :
    (Code.region id l.toArray true).wp P Q a0 w := by
  have hE : ∀ t, t ≠ d → (∀ (j : Nat) (o : Oper), l[j]? = some o → o.dst ≠ some t) → a0.tmps.getD t undef = (puts a0 vs).tmps.getD t undef := by
    intro t ht hno
    refine (puts_other t vs a0 (fun kv hkv e => ?_)).symm
    have := List.all_eq_true.1 hkeys kv hkv
    obtain ⟨o, ho, hod⟩ := List.any_eq_true.1 this
    obtain ⟨j, hj⟩ := List.getElem?_of_mem ho
    exact hno j o hj (by rw [← e]; simpa using hod)
  have hEs : (puts a0 vs).tmps.size = a0.tmps.size := puts_size _ _
  have hEd : (puts a0 vs).defers = a0.defers := puts_defers _ _
  generalize puts a0 vs = aE at *
  refine wp_region_any hm ?_
  have key : ∀ (fuel : Nat) (listed : Array Bool) (a : Act) (W : World), RInv l a0 aE w m s d T n U listed a W →
      (List.range l.length).countP (fun i => !listed.getD i true) ≤ fuel → wpAny P .any l.toArray Q fuel listed a W := by
    intro fuel
    have fin : ∀ (listed : Array Bool) (a : Act) (W : World), RInv l a0 aE w m s d T n U listed a W → Region.ready .any l.toArray listed = [] → Q .normal a W := by
      intro listed a W hI hr
      have hall := ready_all chk hI.len hr
      have hml : m < l.length := (List.getElem?_eq_some_iff.1 hmi).1
      have hsl : s < l.length := (List.getElem?_eq_some_iff.1 hsi).1
      obtain ⟨g, hg, hg0, cs, hcs, hn, hcu⟩ := hI.box (hall m hml)
      have e := hcu (hall s hsl)
      subst e
      have ea : a = aE.put (some d) (.pointer (some ⟨g, 0, none⟩)) := by
        refine act_ext _ _ (by rw [put_defers]; exact hI.df) (by rw [put_size]; exact hI.sz) (fun t ht => ?_)
        by_cases htd : t = d
        · subst htd; rw [hg, put_get_same _ _ _ (by omega)]
        · rw [put_get_ne _ _ _ _ (Ne.symm htd)]
          by_cases hw : ∃ (j : Nat) (o : Oper), l[j]? = some o ∧ o.dst = some t
          · obtain ⟨j, o, hj, ho⟩ := hw
            exact hI.fr1 j o t hj ho htd (hall j (List.getElem?_eq_some_iff.1 hj).1)
          · rw [hI.fr0 t htd (fun j o hj ho => (hw ⟨j, o, hj, ho⟩).elim)]
            exact hE t htd (fun j o hj ho => hw ⟨j, o, hj, ho⟩)
      rw [ea]
      exact hQ g W hI.bl hg0 hcs
    -- what an operation that may come up reads is at hand
    have look : ∀ (listed : Array Bool) (a : Act) (W : World), RInv l a0 aE w m s d T n U listed a W → ∀ (i : Nat) (o : Oper), l[i]? = some o → i ≠ m →
        (∀ e ∈ o.after, Region.binds .any e = true → listed.getD e.on false = true) → ∀ t ∈ readsOf o, t ≠ d → a.tmps.getD t undef = aE.tmps.getD t undef := by
      intro listed a W hI i o hi him hall t ht htd
      rcases (chk_at chk hi).2.2.2.2 him t ht with h | h
      · exact (htd h).elim
      · by_cases hw : ∃ (j : Nat) (oj : Oper), l[j]? = some oj ∧ oj.dst = some t
        · obtain ⟨j, oj, hj, hjd⟩ := hw
          obtain ⟨e, he, hb, hon⟩ := bindsTo_spec (h j oj hj hjd)
          exact hI.fr1 j oj t hj hjd htd (by rw [← hon]; exact hall e he hb)
        · rw [hI.fr0 t htd (fun j oj hj ho => (hw ⟨j, oj, hj, ho⟩).elim)]
          exact hE t htd (fun j oj hj ho => hw ⟨j, oj, hj, ho⟩)
    induction fuel with
    | zero =>
      intro listed a W hI hc
      have hr : Region.ready .any l.toArray listed = [] := by
        rw [List.eq_nil_iff_forall_not_mem]
        intro i hi
        obtain ⟨h0, o, ho, _⟩ := mem_ready.1 hi
        have hil : i < l.length := by simpa using (Array.getElem?_eq_some_iff.1 ho).1
        have : 0 < (List.range l.length).countP (fun i => !listed.getD i true) := List.countP_pos_iff.2 ⟨i, List.mem_range.2 hil, by rw [h0]; rfl⟩
        omega
      exact ⟨hr, fin listed a W hI hr⟩
    | succ fuel ih =>
      intro listed a W hI hc
      refine ⟨fin listed a W hI, fun i hi => ?_⟩
      obtain ⟨h0, o, ho, hall⟩ := mem_ready.1 hi
      have hio : l[i]? = some o := by simpa using ho
      have hil : i < l.length := (List.getElem?_eq_some_iff.1 hio).1
      have hil' : i < listed.size := by rw [hI.len]; exact hil
      have hi0 : listed.getD i false = false := by simpa [hil'] using h0
      have hC := chk_at chk hio
      have hwant : Region.wanted o (yielded l.toArray a.tmps) = true := by unfold Region.wanted; rw [hC.1.1]
      have hcnt : (List.range l.length).countP (fun j => !(listed.setIfInBounds i true).getD j true) ≤ fuel := by
        have := count_lt (fun j => !listed.getD j true) (fun j => !(listed.setIfInBounds i true).getD j true) (fun j hj => by
            by_cases e : i = j
            · subst e; simp [hil'] at hj
            · rw [getD_set_ne true e] at hj; exact hj) i (by rw [h0]; rfl) (by simp [hil']) (List.range l.length) (List.mem_range.2 hil)
        omega
      unfold wpOp
      simp only [ho, hwant, if_true]
      refine .inl ?_
      by_cases him : i = m
      · -- the new variable
        subst him
        have eo : o = om := by rw [hmi] at hio; exact (Option.some.inj hio).symm
        subst eo
        have hdst := hC.2.1 rfl
        unfold Oper.wp
        rw [hal]
        simp only [Oper.upon]
        refine ih _ _ _ ⟨by rw [put_defers]; exact hI.df, by rw [put_size]; exact hI.sz, by simpa using hI.len, ?_, ?_, bal hI.bl _, ?_, ?_⟩ hcnt
        · intro j oj t hj hjd htd hl
          rw [hdst, put_get_ne _ _ _ _ (Ne.symm htd)]
          rw [getD_set _ _ _ hil'] at hl
          by_cases e : i = j
          · subst e; rw [hio] at hj; obtain rfl := Option.some.inj hj; rw [hdst] at hjd; exact (htd (Option.some.inj hjd).symm).elim
          · rw [if_neg e] at hl; exact hI.fr1 j oj t hj hjd htd hl
        · intro t htd hno
          rw [hdst, put_get_ne _ _ _ _ (Ne.symm htd)]
          refine hI.fr0 t htd (fun j oj hj hjd => ?_)
          have := hno j oj hj hjd
          rw [getD_set _ _ _ hil'] at this
          by_cases e : i = j
          · rw [if_pos e] at this; cases this
          · rw [if_neg e] at this; exact this
        · intro _
          refine ⟨W.heap.size, by rw [hdst, put_get_same _ _ _ (by rw [hI.sz, hEs]; exact hd)], hI.bl.size, Z, heap_alloc_new _ _, hZ, fun hs => ?_⟩
          rw [getD_set _ _ _ hil', if_neg hms] at hs
          rw [hI.sm hs] at hi0; cases hi0
        · intro hs; rw [getD_set _ _ _ hil', if_pos rfl]
      · by_cases his : i = s
        · -- the store into it
          subst his
          have eo : o = os := by rw [hsi] at hio; exact (Option.some.inj hio).symm
          subst eo
          obtain ⟨hdst, hbm⟩ := hC.2.2.1 him rfl
          obtain ⟨e, he, hb, hon⟩ := bindsTo_spec hbm
          have hml : listed.getD m false = true := by rw [← hon]; exact hall e he hb
          obtain ⟨g, hg, hg0, cs, hcs, hn, _⟩ := hI.box hml
          have hrun := hst a.eval g W cs hg (fun t ht htd => look listed a W hI i o hio him hall t ht htd) hcs hn
          unfold Oper.wp
          rw [hrun]
          simp only [Oper.upon, hdst]
          have hp : a.put none undef = a := rfl
          rw [hp]
          refine ih _ _ _ ⟨hI.df, hI.sz, by simpa using hI.len, ?_, ?_, below_setRow hI.bl hg0 _, ?_, ?_⟩ hcnt
          · intro j oj t hj hjd htd hl
            rw [getD_set _ _ _ hil'] at hl
            by_cases e : i = j
            · subst e; rw [hio] at hj; obtain rfl := Option.some.inj hj; rw [hdst] at hjd; cases hjd
            · rw [if_neg e] at hl; exact hI.fr1 j oj t hj hjd htd hl
          · intro t htd hno
            refine hI.fr0 t htd (fun j oj hj hjd => ?_)
            have := hno j oj hj hjd
            rw [getD_set _ _ _ hil'] at this
            by_cases e : i = j
            · rw [if_pos e] at this; cases this
            · rw [if_neg e] at this; exact this
          · intro _
            exact ⟨g, hg, hg0, U, setRow_heap W g cs U T (0, 0) hcs, hU, fun _ => rfl⟩
          · intro _; rw [getD_set _ _ _ hil']; split
            · rfl
            · exact hml
        · -- any other operation
          obtain ⟨⟨t, hdst, htd, htN⟩, hnd⟩ := hC.2.2.2.1 him his
          have hcalm := hop i o t hio him his hdst W hI.bl
          have heq : execOp aE.eval o = execOp a.eval o := execOp_congr o hC.1.2.1 (fun x hx => by
            cases x with
            | tmp u =>
              have hu : u ∈ readsOf o := List.mem_filterMap.2 ⟨.tmp u, by simpa using hx, rfl⟩
              exact (look listed a W hI i o hio him hall u hu (fun e => hnd (e ▸ hu))).symm
            | _ => rfl)
          have hcalm' : calmAt P o a.eval W (aE.tmps.getD t undef) := by
            refine ⟨?_⟩; have hh := hcalm.out; unfold calmRun at hh ⊢; rw [← heq]; exact hh
          refine wp_of_calm hcalm' (fun W' hb => ?_)
          rw [hdst]
          refine ih _ _ _ ⟨by rw [put_defers]; exact hI.df, by rw [put_size]; exact hI.sz, by simpa using hI.len, ?_, ?_, below_tr' hI.bl hb, ?_, ?_⟩ hcnt
          · intro j oj u hj hjd hud hl
            by_cases htu : t = u
            · subst htu; rw [put_get_same _ _ _ (by rw [hI.sz, hEs]; exact htN)]
            · rw [put_get_ne _ _ _ _ htu]
              rw [getD_set _ _ _ hil'] at hl
              by_cases e : i = j
              · subst e; rw [hio] at hj; obtain rfl := Option.some.inj hj; rw [hdst] at hjd; exact (htu (Option.some.inj hjd)).elim
              · rw [if_neg e] at hl; exact hI.fr1 j oj u hj hjd hud hl
          · intro u hud hno
            have htu : t ≠ u := fun e => by
              subst e
              have := hno i o hio hdst
              rw [getD_set _ _ _ hil', if_pos rfl] at this; cases this
            rw [put_get_ne _ _ _ _ htu]
            refine hI.fr0 u hud (fun j oj hj hjd => ?_)
            have := hno j oj hj hjd
            rw [getD_set _ _ _ hil'] at this
            by_cases e : i = j
            · rw [if_pos e] at this; cases this
            · rw [if_neg e] at this; exact this
          · intro hml
            rw [getD_set _ _ _ hil', if_neg him] at hml
            obtain ⟨g, hg, hg0, cs, hcs, hn, hcu⟩ := hI.box hml
            have hgl : g < W.heap.size := (Array.getElem?_eq_some_iff.1 hcs).1
            refine ⟨g, by rw [put_get_ne _ _ _ _ htd]; exact hg, hg0, cs, by rw [hb.block g hgl]; exact hcs, hn, fun hs => ?_⟩
            rw [getD_set _ _ _ hil', if_neg his] at hs
            exact hcu hs
          · intro hs
            rw [getD_set _ _ _ hil', if_neg his] at hs
            rw [getD_set _ _ _ hil', if_neg him]
            exact hI.sm hs
  refine key _ _ _ _ ⟨by rw [hEd], hEs.symm, by simp, ?_, ?_, ⟨rfl, rfl, rfl, Nat.le_refl _, fun _ _ => rfl⟩, ?_, ?_⟩ ?_
  · intro j o t hj hjd htd hl; rw [rep_false] at hl; cases hl
  · intro t _ _; rfl
  · intro h; rw [rep_false] at h; cases h
  · intro h; rw [rep_false] at h; cases h
  · exact Nat.le_trans List.countP_le_length (by simp)
theorem wp_region_calm {id : Nat} (hm : P.follows .mixedOrders = true) 
    (chk : boxChk l l.length l.length a0.tmps.size a0.tmps.size = true) (hkeys : vs.all (fun kv => l.any (·.dst == some kv.1)) = true)
    (hop : ∀ (i : Nat) (o : Oper) (t : Nat), l[i]? = some o → o.dst = some t → ∀ W, Below w.heap.size w W → calmAt P o (puts a0 vs).eval W ((puts a0 vs).tmps.getD t undef))
    (hQ : ∀ W, Below w.heap.size w W → Q .normal (puts a0 vs) W) :
    (Code.region id l.toArray true).wp P Q a0 w := by
  have hE : ∀ t, (∀ (j : Nat) (o : Oper), l[j]? = some o → o.dst ≠ some t) → a0.tmps.getD t undef = (puts a0 vs).tmps.getD t undef := by
    intro t hno
    refine (puts_other t vs a0 (fun kv hkv e => ?_)).symm
    have := List.all_eq_true.1 hkeys kv hkv
    obtain ⟨o, ho, hod⟩ := List.any_eq_true.1 this
    obtain ⟨j, hj⟩ := List.getElem?_of_mem ho
    exact hno j o hj (by rw [← e]; simpa using hod)
  have hEs : (puts a0 vs).tmps.size = a0.tmps.size := puts_size _ _
  have hEd : (puts a0 vs).defers = a0.defers := puts_defers _ _
  generalize puts a0 vs = aE at *
  refine wp_region_any hm ?_
  have key : ∀ (fuel : Nat) (listed : Array Bool) (a : Act) (W : World), RInv0 l a0 aE w listed a W →
      (List.range l.length).countP (fun i => !listed.getD i true) ≤ fuel → wpAny P .any l.toArray Q fuel listed a W := by
    intro fuel
    have fin : ∀ (listed : Array Bool) (a : Act) (W : World), RInv0 l a0 aE w listed a W → Region.ready .any l.toArray listed = [] → Q .normal a W := by
      intro listed a W hI hr
      have hall := ready_all chk hI.len hr
      have ea : a = aE := by
        refine act_ext _ _ hI.df hI.sz (fun t ht => ?_)
        · by_cases hw : ∃ (j : Nat) (o : Oper), l[j]? = some o ∧ o.dst = some t
          · obtain ⟨j, o, hj, ho⟩ := hw
            exact hI.fr1 j o t hj ho (hall j (List.getElem?_eq_some_iff.1 hj).1)
          · rw [hI.fr0 t (fun j o hj ho => (hw ⟨j, o, hj, ho⟩).elim)]
            exact hE t (fun j o hj ho => hw ⟨j, o, hj, ho⟩)
      rw [ea]
      exact hQ W hI.bl
    -- what an operation that may come up reads is at hand
    have look : ∀ (listed : Array Bool) (a : Act) (W : World), RInv0 l a0 aE w listed a W → ∀ (i : Nat) (o : Oper), l[i]? = some o →
        (∀ e ∈ o.after, Region.binds .any e = true → listed.getD e.on false = true) → ∀ t ∈ readsOf o, t ≠ a0.tmps.size → a.tmps.getD t undef = aE.tmps.getD t undef := by
      intro listed a W hI i o hi hall t ht htd
      have him : i ≠ l.length := by have := (List.getElem?_eq_some_iff.1 hi).1; omega
      rcases (chk_at chk hi).2.2.2.2 him t ht with h | h
      · exact (htd h).elim
      · by_cases hw : ∃ (j : Nat) (oj : Oper), l[j]? = some oj ∧ oj.dst = some t
        · obtain ⟨j, oj, hj, hjd⟩ := hw
          obtain ⟨e, he, hb, hon⟩ := bindsTo_spec (h j oj hj hjd)
          exact hI.fr1 j oj t hj hjd (by rw [← hon]; exact hall e he hb)
        · rw [hI.fr0 t (fun j oj hj ho => (hw ⟨j, oj, hj, ho⟩).elim)]
          exact hE t (fun j oj hj ho => hw ⟨j, oj, hj, ho⟩)
    induction fuel with
    | zero =>
      intro listed a W hI hc
      have hr : Region.ready .any l.toArray listed = [] := by
        rw [List.eq_nil_iff_forall_not_mem]
        intro i hi
        obtain ⟨h0, o, ho, _⟩ := mem_ready.1 hi
        have hil : i < l.length := by simpa using (Array.getElem?_eq_some_iff.1 ho).1
        have : 0 < (List.range l.length).countP (fun i => !listed.getD i true) := List.countP_pos_iff.2 ⟨i, List.mem_range.2 hil, by rw [h0]; rfl⟩
        omega
      exact ⟨hr, fin listed a W hI hr⟩
    | succ fuel ih =>
      intro listed a W hI hc
      refine ⟨fin listed a W hI, fun i hi => ?_⟩
      obtain ⟨h0, o, ho, hall⟩ := mem_ready.1 hi
      have hio : l[i]? = some o := by simpa using ho
      have hil : i < l.length := (List.getElem?_eq_some_iff.1 hio).1
      have hil' : i < listed.size := by rw [hI.len]; exact hil
      have hi0 : listed.getD i false = false := by simpa [hil'] using h0
      have hC := chk_at chk hio
      have hwant : Region.wanted o (yielded l.toArray a.tmps) = true := by unfold Region.wanted; rw [hC.1.1]
      have hcnt : (List.range l.length).countP (fun j => !(listed.setIfInBounds i true).getD j true) ≤ fuel := by
        have := count_lt (fun j => !listed.getD j true) (fun j => !(listed.setIfInBounds i true).getD j true) (fun j hj => by
            by_cases e : i = j
            · subst e; simp [hil'] at hj
            · rw [getD_set_ne true e] at hj; exact hj) i (by rw [h0]; rfl) (by simp [hil']) (List.range l.length) (List.mem_range.2 hil)
        omega
      unfold wpOp
      simp only [ho, hwant, if_true]
      refine .inl ?_
      have him : i ≠ l.length := by omega
      · -- any operation
          obtain ⟨⟨t, hdst, htd, htN⟩, hnd⟩ := hC.2.2.2.1 him him
          have hcalm := hop i o t hio hdst W hI.bl
          have heq : execOp aE.eval o = execOp a.eval o := execOp_congr o hC.1.2.1 (fun x hx => by
            cases x with
            | tmp u =>
              have hu : u ∈ readsOf o := List.mem_filterMap.2 ⟨.tmp u, by simpa using hx, rfl⟩
              exact (look listed a W hI i o hio hall u hu (fun e => hnd (e ▸ hu))).symm
            | _ => rfl)
          have hcalm' : calmAt P o a.eval W (aE.tmps.getD t undef) := by
            refine ⟨?_⟩; have hh := hcalm.out; unfold calmRun at hh ⊢; rw [← heq]; exact hh
          refine wp_of_calm hcalm' (fun W' hb => ?_)
          rw [hdst]
          refine ih _ _ _ ⟨by rw [put_defers]; exact hI.df, by rw [put_size]; exact hI.sz, by simpa using hI.len, ?_, ?_, below_tr' hI.bl hb⟩ hcnt
          · intro j oj u hj hjd hl
            by_cases htu : t = u
            · subst htu; rw [put_get_same _ _ _ (by rw [hI.sz, hEs]; exact htN)]
            · rw [put_get_ne _ _ _ _ htu]
              rw [getD_set _ _ _ hil'] at hl
              by_cases e : i = j
              · subst e; rw [hio] at hj; obtain rfl := Option.some.inj hj; rw [hdst] at hjd; exact (htu (Option.some.inj hjd)).elim
              · rw [if_neg e] at hl; exact hI.fr1 j oj u hj hjd hl
          · intro u hno
            have htu : t ≠ u := fun e => by
              subst e
              have := hno i o hio hdst
              rw [getD_set _ _ _ hil', if_pos rfl] at this; cases this
            rw [put_get_ne _ _ _ _ htu]
            refine hI.fr0 u (fun j oj hj hjd => ?_)
            have := hno j oj hj hjd
            rw [getD_set _ _ _ hil'] at this
            by_cases e : i = j
            · rw [if_pos e] at this; cases this
            · rw [if_neg e] at this; exact this
  refine key _ _ _ _ ⟨by rw [hEd], hEs.symm, by simp, ?_, ?_, ⟨rfl, rfl, rfl, Nat.le_refl _, fun _ _ => rfl⟩⟩ ?_
  · intro j o t hj hjd hl; rw [rep_false] at hl; cases hl
  · intro t _; rfl
  · exact Nat.le_trans List.countP_le_length (by simp)
/-- What each operation is asked, one after the other. -/
def AllBut (R : Oper → Prop) (m s : Nat) : Nat → List Oper → Prop
  | _, [] => True
  | k, o :: r => (k = m ∨ k = s ∨ R o) ∧ AllBut R m s (k + 1) r
theorem AllBut.spec {R : Oper → Prop} {m s : Nat} : ∀ (l : List Oper) (k : Nat), AllBut R m s k l → ∀ (i : Nat) (o : Oper), l[i]? = some o → k + i ≠ m → k + i ≠ s → R o
  | [], _, _, i, o, hi, _, _ => by simp at hi
  | x :: r, k, h, 0, o, hi, hm, hs => by
    have e : x = o := by simpa using hi
    rw [← e]
    exact (h.1.resolve_left hm).resolve_left hs
  | x :: r, k, h, i + 1, o, hi, hm, hs => AllBut.spec r (k + 1) h.2 i o (by simpa using hi) (by omega) (by omega)
/-- What the region's law asks of one operation. -/
def Calm (P : Program) (aE : Act) (w : World) (o : Oper) : Prop := ∀ t, o.dst = some t → ∀ W, Below w.heap.size w W → calmAt P o aE.eval W (aE.tmps.getD t undef)
theorem Calm.mk {P : Program} {aE : Act} {w : World} {o : Oper} (t : Nat) (v : Value) (hd : o.dst = some t) (hv : aE.tmps.getD t undef = v) (h : ∀ W, Below w.heap.size w W → calmAt P o aE.eval W v) : Calm P aE w o := by
  intro t' hd' W hW
  rw [hd] at hd'
  obtain rfl := Option.some.inj hd'
  rw [hv]; exact h W hW
theorem region_box {P : Program} {Q : Exit → Act → World → Prop} {l : List Oper} {a0 : Act} {w : World} {m s d n : Nat} {T : TypeId} {om os : Oper} {id : Nat} (vs : List (Nat × Value)) (U Z : Array Value) (hm : P.follows .mixedOrders = true) (hmi : l[m]? = some om) (hsi : l[s]? = some os) (hms : m ≠ s)
    (chk : boxChk l m s d a0.tmps.size = true) (hd : d < a0.tmps.size) (hkeys : vs.all (fun kv => l.any (·.dst == some kv.1)) = true) (hZ : Z.size = n) (hU : U.size = n)
    (hal : ∀ ρ W, (execOp ρ om).run P W = .ok (.value (.pointer (some ⟨W.heap.size, 0, none⟩))) (W.alloc (.cells Z T)))
    (H : ∀ aE, puts a0 vs = aE → (∀ (ρ : Operand → Value) (g : Nat) (W : World) (cs : Array Value), ρ (.tmp d) = .pointer (some ⟨g, 0, none⟩) → (∀ t ∈ readsOf os, t ≠ d → ρ (.tmp t) = aE.tmps.getD t undef) → W.heap[g]? = some (.cells cs T (0, 0)) → cs.size = n →
        (execOp ρ os).run P W = .ok .skip (W.setRow g U)) ∧ AllBut (Calm P aE w) m s 0 l ∧
      ∀ g W, Below w.heap.size w W → w.heap.size ≤ g → W.heap[g]? = some (.cells U T (0, 0)) → Q .normal (aE.put (some d) (.pointer (some ⟨g, 0, none⟩))) W) :
    (Code.region id l.toArray true).wp P Q a0 w := by
  obtain ⟨h1, h2, h3⟩ := H _ rfl
  exact wp_region_box hm hmi hsi hms chk hd hkeys hZ hU hal h1 (fun i o t hi hm hs hd => AllBut.spec l 0 h2 i o hi (by omega) (by omega) t hd) h3
theorem region_calm {P : Program} {Q : Exit → Act → World → Prop} {l : List Oper} {a0 : Act} {w : World} {id : Nat} (vs : List (Nat × Value)) (hm : P.follows .mixedOrders = true)
    (chk : boxChk l l.length l.length a0.tmps.size a0.tmps.size = true) (hkeys : vs.all (fun kv => l.any (·.dst == some kv.1)) = true)
    (H : ∀ aE, puts a0 vs = aE → AllBut (Calm P aE w) l.length l.length 0 l ∧ ∀ W, Below w.heap.size w W → Q .normal aE W) :
    (Code.region id l.toArray true).wp P Q a0 w := by
  obtain ⟨h2, h3⟩ := H _ rfl
  refine wp_region_calm hm chk hkeys (fun i o t hi hd => ?_) h3
  have hlt : i < l.length := (List.getElem?_eq_some_iff.1 hi).1
  exact AllBut.spec l 0 h2 i o hi (by omega) (by omega) t hd
theorem calm_move {P : Program} {o : Oper} {ρ : Operand → Value} {W : World} {v : Value} (x : Operand) (ho : o.op = .move x) (hv : ρ x = v) : calmAt P o ρ W v := by
  refine ⟨?_⟩
  unfold calmRun execOp; simp only [ho, Sem.run_pure, hv, and_self]
theorem calm_assign {P : Program} {o : Oper} {ρ : Operand → Value} {W : World} {v : Value} (x : Operand) (ho : o.op = .assign x) (hv : ρ x = v) : calmAt P o ρ W v := by
  refine ⟨?_⟩
  unfold calmRun execOp; simp only [ho, Sem.run_pure, hv, and_self]
theorem calm_extract {P : Program} {o : Oper} {ρ : Operand → Value} {W : World} {v : Value} {xs : Array Value} (x : Operand) (i : Nat) (ho : o.op = .extract x i) (hx : ρ x = .tuple xs) (hv : xs[i]? = some v) : calmAt P o ρ W v := by
  refine ⟨?_⟩
  unfold calmRun execOp; simp only [ho, hx, Instr.extract, hv, Sem.run_pure, Sem.run_bind, Result.andThen_ok, and_self]
theorem calm_call {P : Program} {o : Oper} {ρ : Operand → Value} {W : World} {v : Value} (f : Nat) (c : Call) (args : Array Value) (ho : o.op = .call c) (hc : c.callee = .value (.func f)) (hρ : ρ (.func f) = .func (.func f) #[] #[]) (ha : c.args.map ρ = args)
    (hf : (callFunc f args).run P W = .ok (.enter f args) W) (h : Calls P f args W (Ret W v)) : calmAt P o ρ W v := by
  refine ⟨?_⟩
  unfold calmRun execOp
  simp only [ho, resolve, hc, hρ, ha, Deferred.ofValue, Sem.run_bind, Sem.run_pure, Result.andThen_ok, invoke, Array.append_empty, Array.empty_append, hf, true_and]
  exact h
theorem calm_load {P : Program} {o : Oper} {ρ : Operand → Value} {W : World} {g : Nat} {T : TypeId} {cs : Array Value} {fr : Nat × Nat} (ty : TypeId) (x : Operand) (ho : o.op = .load ty x) (hx : ρ x = .pointer (some ⟨g, 0, none⟩))
    (hg : W.heap[g]? = some (.cells cs T fr)) (n : Nat) (hn : cs.size = n) (hs : ∀ W, (sizeOf ty).run P W = .ok n W) (ha : ∀ W, (isAgg ty).run P W = .ok true W) : calmAt P o ρ W (.agg cs) := by
  subst hn
  have hl : (loadCells ⟨g, 0, none⟩ cs.toList.length).run P W = .ok cs.toList.toArray W :=
    run_loadCells_list (P := P) W ⟨g, 0, none⟩ cs.toList (fun j v hv => by
      have hadd : (⟨g, 0, none⟩ : Addr).add j = ⟨g, j, none⟩ := by unfold Addr.add; split <;> simp_all
      rw [hadd, cell_of_row W g j cs T fr hg]
      simpa using hv)
  simp only [Array.length_toList, Array.toArray_toList] at hl
  have hv : (loadVar ty ⟨g, 0, none⟩).run P W = .ok (.agg cs) W := by
    unfold loadVar
    rw [Sem.run_bind, ha]
    simp only [Result.andThen_ok, if_true]
    rw [Sem.run_bind, hs]
    simp only [Result.andThen_ok]
    rw [Sem.run_bind, hl]
    rfl
  refine ⟨?_⟩
  unfold calmRun execOp
  simp only [ho, hx, Instr.loadAt, Instr.sureAddr, Sem.run_bind, Sem.run_pure, Result.andThen_ok, hv, and_self]
theorem run_store_row {P : Program} {o : Oper} {ρ : Operand → Value} {W : World} {g : Nat} {T : TypeId} {cs U : Array Value} (ty : TypeId) (x y : Operand) (ho : o.op = .store ty x y) (hx : ρ x = .pointer (some ⟨g, 0, none⟩)) (hy : ρ y = .agg U)
    (hg : W.heap[g]? = some (.cells cs T (0, 0))) (hn : cs.size = U.size) (hs : ∀ W, (sizeOf ty).run P W = .ok U.size W) (h1 : ∀ v ∈ U.toList, v.oneCell' = true) : (execOp ρ o).run P W = .ok .skip (W.setRow g U) := by
  have hst := run_storeCells_at (P := P) g 0 T U.toList 0 cs W hg (by simp [hn]) h1
  have e : (cs.toList.take (0 + 0) ++ U.toList ++ cs.toList.drop (0 + 0 + U.toList.length)).toArray = U := by
    rw [List.drop_of_length_le (by simp [hn])]; simp
  rw [e] at hst
  have hv : (storeVar ty ⟨g, 0, none⟩ (.agg U)).run P W = .ok () (W.setRow g U) := by
    unfold storeVar
    rw [Sem.run_bind, hs]
    simp only [Result.andThen_ok, Value.cells, ne_eq, not_true_eq_false, if_false]
    exact hst
  unfold execOp
  simp only [ho, hx, hy, Instr.storeAt, Instr.sureAddr, Sem.run_bind, Sem.run_pure, Result.andThen_ok, hv]
end
end Go.Proofs.Ytdiihhohaijcoaa
/- A region that draws its order and holds guarded operations, walked once. -/
namespace Go.Proofs.Ytdiihhohaijcoaa
open Go.RowKit
set_option linter.unusedVariables false
set_option linter.unusedSimpArgs false
/-- Every operation reads only what has been yielded before it, or what the region does not write; its guard too. -/
def calmChk (l : List Oper) (N : Nat) : Bool :=
  (List.range l.length).all fun i => match l[i]? with
    | none => true
    | some o => (match o.guard with | none => true | some (k, _) => bindsTo o k) && notSelect o && (o.after.all fun e => !Region.binds .any e || e.on < i) &&
      (match o.dst with | some t => decide (t < N) | none => false) &&
      ((readsOf o).all fun t => (List.range l.length).all fun j => match l[j]? with
          | none => true
          | some oj => !(oj.dst == some t) || bindsTo o j)
theorem calmChk_at {l : List Oper} {N : Nat} (chk : calmChk l N = true) {i : Nat} {o : Oper} (hi : l[i]? = some o) :
    (∀ k b, o.guard = some (k, b) → bindsTo o k = true) ∧ (∀ cs b, o.op ≠ .select cs b) ∧ (∀ e ∈ o.after, Region.binds .any e = true → e.on < i) ∧
    (∃ t, o.dst = some t ∧ t < N) ∧ (∀ t ∈ readsOf o, ∀ j oj, l[j]? = some oj → oj.dst = some t → bindsTo o j = true) := by
  unfold calmChk at chk
  have hlt : i < l.length := (List.getElem?_eq_some_iff.1 hi).1
  have h := List.all_eq_true.1 chk i (List.mem_range.2 hlt)
  simp only [hi, Bool.and_eq_true] at h
  obtain ⟨⟨⟨⟨hg, hns⟩, haf⟩, hd⟩, hr⟩ := h
  refine ⟨?_, ?_, ?_, ?_, ?_⟩
  · intro k b e; rw [e] at hg; exact hg
  · intro cs b e; rw [notSelect, e] at hns; cases hns
  · intro e he hb
    have := (Array.all_eq_true_iff_forall_mem.1 haf) e he
    simpa [hb] using this
  · cases hdd : o.dst with
    | none => rw [hdd] at hd; cases hd
    | some t => rw [hdd] at hd; exact ⟨t, rfl, of_decide_eq_true hd⟩
  · intro t ht j oj hj hjd
    have h2 := List.all_eq_true.1 hr t ht
    have hjl : j < l.length := (List.getElem?_eq_some_iff.1 hj).1
    have := List.all_eq_true.1 h2 j (List.mem_range.2 hjl)
    simpa [hj, hjd] using this
theorem ready_allG {l : List Oper} {N : Nat} (chk : calmChk l N = true) {listed : Array Bool} (hlen : listed.size = l.length)
    (h : Region.ready .any l.toArray listed = []) : ∀ i, i < l.length → listed.getD i false = true := by
  intro i
  induction i using Nat.strongRecOn with
  | _ i ih =>
    intro hi
    cases hb : listed.getD i false with
    | true => rfl
    | false =>
      exfalso
      have ho : l[i]? = some l[i] := List.getElem?_eq_getElem hi
      have hmem : i ∈ Region.ready .any l.toArray listed := by
        rw [mem_ready]
        refine ⟨?_, l[i], by simp, fun e he hbd => ?_⟩
        · have : i < listed.size := by omega
          simp [this] at hb ⊢; exact hb
        · exact ih e.on ((calmChk_at chk ho).2.2.1 e he hbd) (by have := (calmChk_at chk ho).2.2.1 e he hbd; omega)
      rw [h] at hmem; cases hmem
theorem yielded_congr {ops : Array Oper} {x y : Array Value} {j : Nat} (hs : x.size = y.size) (h : ∀ o t, ops[j]? = some o → o.dst = some t → x.getD t undef = y.getD t undef) : yielded ops x j = yielded ops y j := by
  unfold yielded
  cases ho : ops[j]? with
  | none => rfl
  | some o =>
    simp only [Option.bind_some]
    cases hd : o.dst with
    | none => rfl
    | some t =>
      simp only [Option.bind_some]
      have := h o t ho hd
      by_cases ht : t < x.size
      · have hy : t < y.size := hs ▸ ht
        simp only [Array.getD, ht, hy, dif_pos] at this
        rw [Array.getElem?_eq_getElem ht, Array.getElem?_eq_getElem hy]
        have e : x[t] = y[t] := this
        rw [e]
      · have hy : ¬ t < y.size := hs ▸ ht
        rw [Array.getElem?_eq_none (Nat.not_lt.1 ht), Array.getElem?_eq_none (Nat.not_lt.1 hy)]
section
variable {P : Program} {Q : Exit → Act → World → Prop} {l : List Oper} {a0 : Act} {w : World} {vs : List (Nat × Value)}
theorem wp_region_calmG {id : Nat} (hm : P.follows .mixedOrders = true) 
    (chk : calmChk l a0.tmps.size = true) (hkeys : vs.all (fun kv => l.any (·.dst == some kv.1)) = true)
    (hop : ∀ (i : Nat) (o : Oper) (t : Nat), l[i]? = some o → o.dst = some t → (Region.wanted o (yielded l.toArray (puts a0 vs).tmps) = true ∧ ∀ W, Below w.heap.size w W → calmAt P o (puts a0 vs).eval W ((puts a0 vs).tmps.getD t undef)) ∨ (Region.wanted o (yielded l.toArray (puts a0 vs).tmps) = false ∧ (puts a0 vs).tmps.getD t undef = undef))
    (hQ : ∀ W, Below w.heap.size w W → Q .normal (puts a0 vs) W) :
    (Code.region id l.toArray true).wp P Q a0 w := by
  have hE : ∀ t, (∀ (j : Nat) (o : Oper), l[j]? = some o → o.dst ≠ some t) → a0.tmps.getD t undef = (puts a0 vs).tmps.getD t undef := by
    intro t hno
    refine (puts_other t vs a0 (fun kv hkv e => ?_)).symm
    have := List.all_eq_true.1 hkeys kv hkv
    obtain ⟨o, ho, hod⟩ := List.any_eq_true.1 this
    obtain ⟨j, hj⟩ := List.getElem?_of_mem ho
    exact hno j o hj (by rw [← e]; simpa using hod)
  have hEs : (puts a0 vs).tmps.size = a0.tmps.size := puts_size _ _
  have hEd : (puts a0 vs).defers = a0.defers := puts_defers _ _
  generalize puts a0 vs = aE at *
  refine wp_region_any hm ?_
  have key : ∀ (fuel : Nat) (listed : Array Bool) (a : Act) (W : World), RInv0 l a0 aE w listed a W →
      (List.range l.length).countP (fun i => !listed.getD i true) ≤ fuel → wpAny P .any l.toArray Q fuel listed a W := by
    intro fuel
    have fin : ∀ (listed : Array Bool) (a : Act) (W : World), RInv0 l a0 aE w listed a W → Region.ready .any l.toArray listed = [] → Q .normal a W := by
      intro listed a W hI hr
      have hall := ready_allG chk hI.len hr
      have ea : a = aE := by
        refine act_ext _ _ hI.df hI.sz (fun t ht => ?_)
        · by_cases hw : ∃ (j : Nat) (o : Oper), l[j]? = some o ∧ o.dst = some t
          · obtain ⟨j, o, hj, ho⟩ := hw
            exact hI.fr1 j o t hj ho (hall j (List.getElem?_eq_some_iff.1 hj).1)
          · rw [hI.fr0 t (fun j o hj ho => (hw ⟨j, o, hj, ho⟩).elim)]
            exact hE t (fun j o hj ho => hw ⟨j, o, hj, ho⟩)
      rw [ea]
      exact hQ W hI.bl
    -- what an operation that may come up reads is at hand
    have look : ∀ (listed : Array Bool) (a : Act) (W : World), RInv0 l a0 aE w listed a W → ∀ (i : Nat) (o : Oper), l[i]? = some o →
        (∀ e ∈ o.after, Region.binds .any e = true → listed.getD e.on false = true) → ∀ t ∈ readsOf o, a.tmps.getD t undef = aE.tmps.getD t undef := by
      intro listed a W hI i o hi hall t ht
      have h := (calmChk_at chk hi).2.2.2.2 t ht
      · by_cases hw : ∃ (j : Nat) (oj : Oper), l[j]? = some oj ∧ oj.dst = some t
        · obtain ⟨j, oj, hj, hjd⟩ := hw
          obtain ⟨e, he, hb, hon⟩ := bindsTo_spec (h j oj hj hjd)
          exact hI.fr1 j oj t hj hjd (by rw [← hon]; exact hall e he hb)
        · rw [hI.fr0 t (fun j oj hj ho => (hw ⟨j, oj, hj, ho⟩).elim)]
          exact hE t (fun j oj hj ho => hw ⟨j, oj, hj, ho⟩)
    induction fuel with
    | zero =>
      intro listed a W hI hc
      have hr : Region.ready .any l.toArray listed = [] := by
        rw [List.eq_nil_iff_forall_not_mem]
        intro i hi
        obtain ⟨h0, o, ho, _⟩ := mem_ready.1 hi
        have hil : i < l.length := by simpa using (Array.getElem?_eq_some_iff.1 ho).1
        have : 0 < (List.range l.length).countP (fun i => !listed.getD i true) := List.countP_pos_iff.2 ⟨i, List.mem_range.2 hil, by rw [h0]; rfl⟩
        omega
      exact ⟨hr, fin listed a W hI hr⟩
    | succ fuel ih =>
      intro listed a W hI hc
      refine ⟨fin listed a W hI, fun i hi => ?_⟩
      obtain ⟨h0, o, ho, hall⟩ := mem_ready.1 hi
      have hio : l[i]? = some o := by simpa using ho
      have hil : i < l.length := (List.getElem?_eq_some_iff.1 hio).1
      have hil' : i < listed.size := by rw [hI.len]; exact hil
      have hi0 : listed.getD i false = false := by simpa [hil'] using h0
      have hC := calmChk_at chk hio
      obtain ⟨t, hdst, htN⟩ := hC.2.2.2.1
      have hwe : Region.wanted o (yielded l.toArray a.tmps) = Region.wanted o (yielded l.toArray aE.tmps) := by
        unfold Region.wanted
        cases hg : o.guard with
        | none => rfl
        | some kb =>
          obtain ⟨k, b⟩ := kb
          obtain ⟨e, he, hb, hon⟩ := bindsTo_spec (hC.1 k b hg)
          have : yielded l.toArray a.tmps k = yielded l.toArray aE.tmps k := yielded_congr hI.sz (fun ok tk hk hd => hI.fr1 k ok tk (by simpa using hk) hd (by rw [← hon]; exact hall e he hb))
          simp only [this]
      have hcnt : (List.range l.length).countP (fun j => !(listed.setIfInBounds i true).getD j true) ≤ fuel := by
        have := count_lt (fun j => !listed.getD j true) (fun j => !(listed.setIfInBounds i true).getD j true) (fun j hj => by
            by_cases e : i = j
            · subst e; simp [hil'] at hj
            · rw [getD_set_ne true e] at hj; exact hj) i (by rw [h0]; rfl) (by simp [hil']) (List.range l.length) (List.mem_range.2 hil)
        omega
      have step : ∀ W', Below w.heap.size w W' → wpAny P .any l.toArray Q fuel (listed.setIfInBounds i true) (a.put (some t) (aE.tmps.getD t undef)) W' := by
        intro W' hW'
        refine ih _ _ _ ⟨by rw [put_defers]; exact hI.df, by rw [put_size]; exact hI.sz, by simpa using hI.len, ?_, ?_, hW'⟩ hcnt
        · intro j oj u hj hjd hl
          by_cases htu : t = u
          · subst htu; rw [put_get_same _ _ _ (by rw [hI.sz, hEs]; exact htN)]
          · rw [put_get_ne _ _ _ _ htu]
            rw [getD_set _ _ _ hil'] at hl
            by_cases e : i = j
            · subst e; rw [hio] at hj; obtain rfl := Option.some.inj hj; rw [hdst] at hjd; exact (htu (Option.some.inj hjd)).elim
            · rw [if_neg e] at hl; exact hI.fr1 j oj u hj hjd hl
        · intro u hno
          have htu : t ≠ u := fun e => by
            subst e
            have := hno i o hio hdst
            rw [getD_set _ _ _ hil', if_pos rfl] at this; cases this
          rw [put_get_ne _ _ _ _ htu]
          refine hI.fr0 u (fun j oj hj hjd => ?_)
          have := hno j oj hj hjd
          rw [getD_set _ _ _ hil'] at this
          by_cases e : i = j
          · rw [if_pos e] at this; cases this
          · rw [if_neg e] at this; exact this
      unfold wpOp
      simp only [ho]
      rcases hop i o t hio hdst with ⟨hw, hcalm⟩ | ⟨hw, hun⟩
      · rw [hwe, hw]
        simp only [if_true]
        refine .inl ?_
        have heq : execOp aE.eval o = execOp a.eval o := execOp_congr o hC.2.1 (fun x hx => by
            cases x with
            | tmp u =>
              have hu : u ∈ readsOf o := List.mem_filterMap.2 ⟨.tmp u, by simpa using hx, rfl⟩
              exact (look listed a W hI i o hio hall u hu).symm
            | _ => rfl)
        have hcalm' : calmAt P o a.eval W (aE.tmps.getD t undef) := by
            refine ⟨?_⟩; have hh := (hcalm W hI.bl).out; unfold calmRun at hh ⊢; rw [← heq]; exact hh
        refine wp_of_calm hcalm' (fun W' hb => ?_)
        rw [hdst]
        exact step W' (below_tr' hI.bl hb)
      · rw [hwe, hw]
        simp only [Bool.false_eq_true, if_false, hdst]
        rw [hun] at step
        exact step W hI.bl
  refine key _ _ _ _ ⟨by rw [hEd], hEs.symm, by simp, ?_, ?_, ⟨rfl, rfl, rfl, Nat.le_refl _, fun _ _ => rfl⟩⟩ ?_
  · intro j o t hj hjd hl; rw [rep_false] at hl; cases hl
  · intro t _; rfl
  · exact Nat.le_trans List.countP_le_length (by simp)
/-- What the region's law asks of one operation; of one whose guard lets it out, too. -/
def CalmG (P : Program) (aE : Act) (w : World) (l : List Oper) (o : Oper) : Prop := ∀ t, o.dst = some t →
  (Region.wanted o (yielded l.toArray aE.tmps) = true ∧ ∀ W, Below w.heap.size w W → calmAt P o aE.eval W (aE.tmps.getD t undef)) ∨ (Region.wanted o (yielded l.toArray aE.tmps) = false ∧ aE.tmps.getD t undef = undef)
theorem CalmG.mk {P : Program} {aE : Act} {w : World} {l : List Oper} {o : Oper} (t : Nat) (v : Value) (hd : o.dst = some t) (hv : aE.tmps.getD t undef = v) (hw : Region.wanted o (yielded l.toArray aE.tmps) = true) (h : ∀ W, Below w.heap.size w W → calmAt P o aE.eval W v) : CalmG P aE w l o := by
  intro t' hd'
  rw [hd] at hd'
  obtain rfl := Option.some.inj hd'
  exact .inl ⟨hw, fun W hW => by rw [hv]; exact h W hW⟩
theorem CalmG.out {P : Program} {aE : Act} {w : World} {l : List Oper} {o : Oper} (t : Nat) (hd : o.dst = some t) (hv : aE.tmps.getD t undef = undef) (hw : Region.wanted o (yielded l.toArray aE.tmps) = false) : CalmG P aE w l o := by
  intro t' hd'
  rw [hd] at hd'
  obtain rfl := Option.some.inj hd'
  exact .inr ⟨hw, hv⟩
theorem region_calmG {id : Nat} (vs : List (Nat × Value)) (hm : P.follows .mixedOrders = true)
    (chk : calmChk l a0.tmps.size = true) (hkeys : vs.all (fun kv => l.any (·.dst == some kv.1)) = true)
    (H : ∀ aE, puts a0 vs = aE → AllBut (CalmG P aE w l) l.length l.length 0 l ∧ ∀ W, Below w.heap.size w W → Q .normal aE W) :
    (Code.region id l.toArray true).wp P Q a0 w := by
  obtain ⟨h2, h3⟩ := H _ rfl
  refine wp_region_calmG hm chk hkeys (fun i o t hi hd => ?_) h3
  have hlt : i < l.length := (List.getElem?_eq_some_iff.1 hi).1
  exact AllBut.spec l 0 h2 i o hi (by omega) (by omega) t hd
theorem calm_run {o : Oper} {ρ : Operand → Value} {W : World} {v : Value} (h : (execOp ρ o).run P W = .ok (.value v) W) : calmAt P o ρ W v := by
  refine ⟨?_⟩
  unfold calmRun
  rw [h]; exact ⟨rfl, rfl⟩
end
end Go.Proofs.Ytdiihhohaijcoaa
/- A region that draws its order, holds guarded operations, and stores once into a block that is there (a result's cell). -/
namespace Go.Proofs.Ytdiihhohaijcoaa
open Go.RowKit
set_option linter.unusedVariables false
set_option linter.unusedSimpArgs false
def storeChk (l : List Oper) (s N : Nat) : Bool :=
  (List.range l.length).all fun i => match l[i]? with
    | none => true
    | some o => (match o.guard with | none => true | some (k, _) => i != s && bindsTo o k) && notSelect o && (o.after.all fun e => !Region.binds .any e || e.on < i) &&
      (match o.dst with | some t => i != s && decide (t < N) | none => i == s) &&
      ((readsOf o).all fun t => (List.range l.length).all fun j => match l[j]? with
          | none => true
          | some oj => !(oj.dst == some t) || bindsTo o j)
theorem storeChk_at {l : List Oper} {s N : Nat} (chk : storeChk l s N = true) {i : Nat} {o : Oper} (hi : l[i]? = some o) :
    (∀ k b, o.guard = some (k, b) → i ≠ s ∧ bindsTo o k = true) ∧ (∀ cs b, o.op ≠ .select cs b) ∧ (∀ e ∈ o.after, Region.binds .any e = true → e.on < i) ∧
    (i ≠ s → ∃ t, o.dst = some t ∧ t < N) ∧ (∀ t ∈ readsOf o, ∀ j oj, l[j]? = some oj → oj.dst = some t → bindsTo o j = true) ∧ (i = s → o.dst = none) := by
  unfold storeChk at chk
  have hlt : i < l.length := (List.getElem?_eq_some_iff.1 hi).1
  have h := List.all_eq_true.1 chk i (List.mem_range.2 hlt)
  simp only [hi, Bool.and_eq_true] at h
  obtain ⟨⟨⟨⟨hg, hns⟩, haf⟩, hd⟩, hr⟩ := h
  refine ⟨?_, ?_, ?_, ?_, ?_, ?_⟩
  · intro k b e; rw [e] at hg; simpa using hg
  · intro cs b e; rw [notSelect, e] at hns; cases hns
  · intro e he hb
    have := (Array.all_eq_true_iff_forall_mem.1 haf) e he
    simpa [hb] using this
  · intro his
    cases hdd : o.dst with
    | none => rw [hdd] at hd; exact (his (by simpa using hd)).elim
    | some t => rw [hdd] at hd; simp only [Bool.and_eq_true, decide_eq_true_eq] at hd; exact ⟨t, rfl, hd.2⟩
  · intro t ht j oj hj hjd
    have h2 := List.all_eq_true.1 hr t ht
    have hjl : j < l.length := (List.getElem?_eq_some_iff.1 hj).1
    have := List.all_eq_true.1 h2 j (List.mem_range.2 hjl)
    simpa [hj, hjd] using this
  · intro his
    cases hdd : o.dst with
    | none => rfl
    | some t => rw [hdd] at hd; simp [his] at hd
theorem ready_allS {l : List Oper} {s N : Nat} (chk : storeChk l s N = true) {listed : Array Bool} (hlen : listed.size = l.length)
    (h : Region.ready .any l.toArray listed = []) : ∀ i, i < l.length → listed.getD i false = true := by
  intro i
  induction i using Nat.strongRecOn with
  | _ i ih =>
    intro hi
    cases hb : listed.getD i false with
    | true => rfl
    | false =>
      exfalso
      have ho : l[i]? = some l[i] := List.getElem?_eq_getElem hi
      have hmem : i ∈ Region.ready .any l.toArray listed := by
        rw [mem_ready]
        refine ⟨?_, l[i], by simp, fun e he hbd => ?_⟩
        · have : i < listed.size := by omega
          simp [this] at hb ⊢; exact hb
        · exact ih e.on ((storeChk_at chk ho).2.2.1 e he hbd) (by have := (storeChk_at chk ho).2.2.1 e he hbd; omega)
      rw [h] at hmem; cases hmem
structure RInvS (l : List Oper) (a0 aE : Act) (w0 : World) (B g0 s n : Nat) (T : TypeId) (U : Array Value) (listed : Array Bool) (a : Act) (w : World) : Prop where
  df : a.defers = aE.defers
  sz : a.tmps.size = aE.tmps.size
  len : listed.size = l.length
  fr1 : ∀ (j : Nat) (o : Oper) (t : Nat), l[j]? = some o → o.dst = some t → listed.getD j false = true → a.tmps.getD t undef = aE.tmps.getD t undef
  fr0 : ∀ t : Nat, (∀ (j : Nat) (o : Oper), l[j]? = some o → o.dst = some t → listed.getD j false = false) → a.tmps.getD t undef = a0.tmps.getD t undef
  bl : Below B w0 w
  big : B ≤ w.heap.size
  box : ∃ cs, w.heap[g0]? = some (.cells cs T (0, 0)) ∧ cs.size = n ∧ (listed.getD s false = true → cs = U)
section
variable {P : Program} {Q : Exit → Act → World → Prop} {l : List Oper} {a0 : Act} {w : World} {vs : List (Nat × Value)} {B g0 s n : Nat} {T : TypeId} {U : Array Value} {os : Oper}
theorem wp_region_storeG {id : Nat} (hm : P.follows .mixedOrders = true) (hsi : l[s]? = some os) (hBg : B ≤ g0) (hBw : B ≤ w.heap.size) (h0 : ∃ cs, w.heap[g0]? = some (.cells cs T (0, 0)) ∧ cs.size = n) (hU : U.size = n)
    (hst : ∀ (ρ : Operand → Value) (W : World) (cs : Array Value), (∀ t ∈ readsOf os, ρ (.tmp t) = (puts a0 vs).tmps.getD t undef) → W.heap[g0]? = some (.cells cs T (0, 0)) → cs.size = n → (execOp ρ os).run P W = .ok .skip (W.setRow g0 U)) 
    (chk : storeChk l s a0.tmps.size = true) (hkeys : vs.all (fun kv => l.any (·.dst == some kv.1)) = true)
    (hop : ∀ (i : Nat) (o : Oper) (t : Nat), l[i]? = some o → i ≠ s → o.dst = some t → (Region.wanted o (yielded l.toArray (puts a0 vs).tmps) = true ∧ ∀ W, Below B w W → calmAt P o (puts a0 vs).eval W ((puts a0 vs).tmps.getD t undef)) ∨ (Region.wanted o (yielded l.toArray (puts a0 vs).tmps) = false ∧ (puts a0 vs).tmps.getD t undef = undef))
    (hQ : ∀ W, Below B w W → W.heap[g0]? = some (.cells U T (0, 0)) → Q .normal (puts a0 vs) W) :
    (Code.region id l.toArray true).wp P Q a0 w := by
  have hE : ∀ t, (∀ (j : Nat) (o : Oper), l[j]? = some o → o.dst ≠ some t) → a0.tmps.getD t undef = (puts a0 vs).tmps.getD t undef := by
    intro t hno
    refine (puts_other t vs a0 (fun kv hkv e => ?_)).symm
    have := List.all_eq_true.1 hkeys kv hkv
    obtain ⟨o, ho, hod⟩ := List.any_eq_true.1 this
    obtain ⟨j, hj⟩ := List.getElem?_of_mem ho
    exact hno j o hj (by rw [← e]; simpa using hod)
  have hEs : (puts a0 vs).tmps.size = a0.tmps.size := puts_size _ _
  have hEd : (puts a0 vs).defers = a0.defers := puts_defers _ _
  generalize puts a0 vs = aE at *
  refine wp_region_any hm ?_
  have key : ∀ (fuel : Nat) (listed : Array Bool) (a : Act) (W : World), RInvS l a0 aE w B g0 s n T U listed a W →
      (List.range l.length).countP (fun i => !listed.getD i true) ≤ fuel → wpAny P .any l.toArray Q fuel listed a W := by
    intro fuel
    have fin : ∀ (listed : Array Bool) (a : Act) (W : World), RInvS l a0 aE w B g0 s n T U listed a W → Region.ready .any l.toArray listed = [] → Q .normal a W := by
      intro listed a W hI hr
      have hall := ready_allS chk hI.len hr
      have ea : a = aE := by
        refine act_ext _ _ hI.df hI.sz (fun t ht => ?_)
        · by_cases hw : ∃ (j : Nat) (o : Oper), l[j]? = some o ∧ o.dst = some t
          · obtain ⟨j, o, hj, ho⟩ := hw
            exact hI.fr1 j o t hj ho (hall j (List.getElem?_eq_some_iff.1 hj).1)
          · rw [hI.fr0 t (fun j o hj ho => (hw ⟨j, o, hj, ho⟩).elim)]
            exact hE t (fun j o hj ho => hw ⟨j, o, hj, ho⟩)
      obtain ⟨cs, hcs, _, he⟩ := hI.box
      have e := he (hall s (List.getElem?_eq_some_iff.1 hsi).1)
      subst e
      rw [ea]
      exact hQ W hI.bl hcs
    -- what an operation that may come up reads is at hand
    have look : ∀ (listed : Array Bool) (a : Act) (W : World), RInvS l a0 aE w B g0 s n T U listed a W → ∀ (i : Nat) (o : Oper), l[i]? = some o →
        (∀ e ∈ o.after, Region.binds .any e = true → listed.getD e.on false = true) → ∀ t ∈ readsOf o, a.tmps.getD t undef = aE.tmps.getD t undef := by
      intro listed a W hI i o hi hall t ht
      have h := (storeChk_at chk hi).2.2.2.2.1 t ht
      · by_cases hw : ∃ (j : Nat) (oj : Oper), l[j]? = some oj ∧ oj.dst = some t
        · obtain ⟨j, oj, hj, hjd⟩ := hw
          obtain ⟨e, he, hb, hon⟩ := bindsTo_spec (h j oj hj hjd)
          exact hI.fr1 j oj t hj hjd (by rw [← hon]; exact hall e he hb)
        · rw [hI.fr0 t (fun j oj hj ho => (hw ⟨j, oj, hj, ho⟩).elim)]
          exact hE t (fun j oj hj ho => hw ⟨j, oj, hj, ho⟩)
    induction fuel with
    | zero =>
      intro listed a W hI hc
      have hr : Region.ready .any l.toArray listed = [] := by
        rw [List.eq_nil_iff_forall_not_mem]
        intro i hi
        obtain ⟨h0, o, ho, _⟩ := mem_ready.1 hi
        have hil : i < l.length := by simpa using (Array.getElem?_eq_some_iff.1 ho).1
        have : 0 < (List.range l.length).countP (fun i => !listed.getD i true) := List.countP_pos_iff.2 ⟨i, List.mem_range.2 hil, by rw [h0]; rfl⟩
        omega
      exact ⟨hr, fin listed a W hI hr⟩
    | succ fuel ih =>
      intro listed a W hI hc
      refine ⟨fin listed a W hI, fun i hi => ?_⟩
      obtain ⟨h0, o, ho, hall⟩ := mem_ready.1 hi
      have hio : l[i]? = some o := by simpa using ho
      have hil : i < l.length := (List.getElem?_eq_some_iff.1 hio).1
      have hil' : i < listed.size := by rw [hI.len]; exact hil
      have hi0 : listed.getD i false = false := by simpa [hil'] using h0
      have hC := storeChk_at chk hio
      have hwe : Region.wanted o (yielded l.toArray a.tmps) = Region.wanted o (yielded l.toArray aE.tmps) := by
        unfold Region.wanted
        cases hg : o.guard with
        | none => rfl
        | some kb =>
          obtain ⟨k, b⟩ := kb
          obtain ⟨e, he, hb, hon⟩ := bindsTo_spec (hC.1 k b hg).2
          have : yielded l.toArray a.tmps k = yielded l.toArray aE.tmps k := yielded_congr hI.sz (fun ok tk hk hd => hI.fr1 k ok tk (by simpa using hk) hd (by rw [← hon]; exact hall e he hb))
          simp only [this]
      have hcnt : (List.range l.length).countP (fun j => !(listed.setIfInBounds i true).getD j true) ≤ fuel := by
        have := count_lt (fun j => !listed.getD j true) (fun j => !(listed.setIfInBounds i true).getD j true) (fun j hj => by
            by_cases e : i = j
            · subst e; simp [hil'] at hj
            · rw [getD_set_ne true e] at hj; exact hj) i (by rw [h0]; rfl) (by simp [hil']) (List.range l.length) (List.mem_range.2 hil)
        omega
      by_cases his : i = s
      · -- the store
        subst his
        have eo : o = os := by rw [hsi] at hio; exact (Option.some.inj hio).symm
        subst eo
        have hdst := hC.2.2.2.2.2 rfl
        obtain ⟨cs, hcs, hn, _⟩ := hI.box
        have hrun := hst a.eval W cs (fun t ht => look listed a W hI i o hio hall t ht) hcs hn
        have hgu : o.guard = none := by
          cases hg : o.guard with
          | none => rfl
          | some kb => exact ((hC.1 kb.1 kb.2 hg).1 rfl).elim
        have hw : Region.wanted o (yielded l.toArray a.tmps) = true := by unfold Region.wanted; rw [hgu]
        unfold wpOp
        simp only [ho, hw, if_true]
        refine .inl ?_
        unfold Oper.wp
        rw [hrun]
        simp only [Oper.upon, hdst]
        have hp : a.put none undef = a := rfl
        rw [hp]
        refine ih _ _ _ ⟨hI.df, hI.sz, by simpa using hI.len, ?_, ?_, below_setRow hI.bl hBg _, by simpa [World.setRow] using hI.big, ?_⟩ hcnt
        · intro j oj t hj hjd hl
          rw [getD_set _ _ _ hil'] at hl
          by_cases e : i = j
          · subst e; rw [hio] at hj; obtain rfl := Option.some.inj hj; rw [hdst] at hjd; cases hjd
          · rw [if_neg e] at hl; exact hI.fr1 j oj t hj hjd hl
        · intro t hno
          refine hI.fr0 t (fun j oj hj hjd => ?_)
          have := hno j oj hj hjd
          rw [getD_set _ _ _ hil'] at this
          by_cases e : i = j
          · rw [if_pos e] at this; cases this
          · rw [if_neg e] at this; exact this
        · exact ⟨U, setRow_heap W g0 cs U T (0, 0) hcs, hU, fun _ => rfl⟩
      · obtain ⟨t, hdst, htN⟩ := hC.2.2.2.1 his
        have step : ∀ W', Below B w W' → B ≤ W'.heap.size → (∃ cs, W'.heap[g0]? = some (.cells cs T (0, 0)) ∧ cs.size = n ∧ (listed.getD s false = true → cs = U)) → wpAny P .any l.toArray Q fuel (listed.setIfInBounds i true) (a.put (some t) (aE.tmps.getD t undef)) W' := by
          intro W' hW' hbig hbox
          refine ih _ _ _ ⟨by rw [put_defers]; exact hI.df, by rw [put_size]; exact hI.sz, by simpa using hI.len, ?_, ?_, hW', hbig, by rw [getD_set _ _ _ hil', if_neg his]; exact hbox⟩ hcnt
          · intro j oj u hj hjd hl
            by_cases htu : t = u
            · subst htu; rw [put_get_same _ _ _ (by rw [hI.sz, hEs]; exact htN)]
            · rw [put_get_ne _ _ _ _ htu]
              rw [getD_set _ _ _ hil'] at hl
              by_cases e : i = j
              · subst e; rw [hio] at hj; obtain rfl := Option.some.inj hj; rw [hdst] at hjd; exact (htu (Option.some.inj hjd)).elim
              · rw [if_neg e] at hl; exact hI.fr1 j oj u hj hjd hl
          · intro u hno
            have htu : t ≠ u := fun e => by
              subst e
              have := hno i o hio hdst
              rw [getD_set _ _ _ hil', if_pos rfl] at this; cases this
            rw [put_get_ne _ _ _ _ htu]
            refine hI.fr0 u (fun j oj hj hjd => ?_)
            have := hno j oj hj hjd
            rw [getD_set _ _ _ hil'] at this
            by_cases e : i = j
            · rw [if_pos e] at this; cases this
            · rw [if_neg e] at this; exact this
        unfold wpOp
        simp only [ho]
        rcases hop i o t hio his hdst with ⟨hw, hcalm⟩ | ⟨hw, hun⟩
        · rw [hwe, hw]
          simp only [if_true]
          refine .inl ?_
          have heq : execOp aE.eval o = execOp a.eval o := execOp_congr o hC.2.1 (fun x hx => by
              cases x with
              | tmp u =>
                have hu : u ∈ readsOf o := List.mem_filterMap.2 ⟨.tmp u, by simpa using hx, rfl⟩
                exact (look listed a W hI i o hio hall u hu).symm
              | _ => rfl)
          have hcalm' : calmAt P o a.eval W (aE.tmps.getD t undef) := by
              refine ⟨?_⟩; have hh := (hcalm W hI.bl).out; unfold calmRun at hh ⊢; rw [← heq]; exact hh
          refine wp_of_calm hcalm' (fun W' hb => ?_)
          rw [hdst]
          exact step W' (below_tr hI.bl hI.big hb) (Nat.le_trans hI.big hb.size) (by obtain ⟨cs, hcs, hr⟩ := hI.box; exact ⟨cs, by rw [hb.block _ (Array.getElem?_eq_some_iff.1 hcs).1]; exact hcs, hr⟩)
        · rw [hwe, hw]
          simp only [Bool.false_eq_true, if_false, hdst]
          rw [hun] at step
          exact step W hI.bl hI.big hI.box
  refine key _ _ _ _ ⟨by rw [hEd], hEs.symm, by simp, ?_, ?_, ⟨rfl, rfl, rfl, Nat.le_refl _, fun _ _ => rfl⟩, hBw, by obtain ⟨cs, h1, h2⟩ := h0; exact ⟨cs, h1, h2, fun h => by rw [rep_false] at h; cases h⟩⟩ ?_
  · intro j o t hj hjd hl; rw [rep_false] at hl; cases hl
  · intro t _; rfl
  · exact Nat.le_trans List.countP_le_length (by simp)
/-- What the law asks of one operation that is not the store. -/
def CalmS (P : Program) (aE : Act) (w : World) (B : Nat) (l : List Oper) (o : Oper) : Prop := ∀ t, o.dst = some t →
  (Region.wanted o (yielded l.toArray aE.tmps) = true ∧ ∀ W, Below B w W → calmAt P o aE.eval W (aE.tmps.getD t undef)) ∨ (Region.wanted o (yielded l.toArray aE.tmps) = false ∧ aE.tmps.getD t undef = undef)
theorem CalmS.mk {P : Program} {aE : Act} {w : World} {B : Nat} {l : List Oper} {o : Oper} (t : Nat) (v : Value) (hd : o.dst = some t) (hv : aE.tmps.getD t undef = v) (hw : Region.wanted o (yielded l.toArray aE.tmps) = true) (h : ∀ W, Below B w W → calmAt P o aE.eval W v) : CalmS P aE w B l o := by
  intro t' hd'
  rw [hd] at hd'
  obtain rfl := Option.some.inj hd'
  exact .inl ⟨hw, fun W hW => by rw [hv]; exact h W hW⟩
theorem region_store {id : Nat} (B g0 s n : Nat) (T : TypeId) (U : Array Value) (vs : List (Nat × Value)) (hm : P.follows .mixedOrders = true) (hsi : l[s]? = some os)
    (chk : storeChk l s a0.tmps.size = true) (hkeys : vs.all (fun kv => l.any (·.dst == some kv.1)) = true) (hBg : B ≤ g0) (hBw : B ≤ w.heap.size) (h0 : ∃ cs, w.heap[g0]? = some (.cells cs T (0, 0)) ∧ cs.size = n) (hU : U.size = n)
    (H : ∀ aE, puts a0 vs = aE → (∀ (ρ : Operand → Value) (W : World) (cs : Array Value), (∀ t ∈ readsOf os, ρ (.tmp t) = aE.tmps.getD t undef) → W.heap[g0]? = some (.cells cs T (0, 0)) → cs.size = n → (execOp ρ os).run P W = .ok .skip (W.setRow g0 U)) ∧
      AllBut (CalmS P aE w B l) s s 0 l ∧ ∀ W, Below B w W → W.heap[g0]? = some (.cells U T (0, 0)) → Q .normal aE W) :
    (Code.region id l.toArray true).wp P Q a0 w := by
  obtain ⟨h1, h2, h3⟩ := H _ rfl
  refine wp_region_storeG hm hsi hBg hBw h0 hU h1 chk hkeys (fun i o t hi his hd => ?_) h3
  exact AllBut.spec l 0 h2 i o hi (by omega) (by omega) t hd
end
end Go.Proofs.Ytdiihhohaijcoaa
/- Contracts: joins; what is made of three numbers. -/
namespace Go.Proofs.Ytdiihhohaijcoaa
open Go.RowKit
set_option linter.unusedVariables false
set_option linter.unusedSimpArgs false
theorem nz3 {p x y z : Int} (h : nzB p [x, y, z] = false) : x % p = 0 ∧ y % p = 0 ∧ z % p = 0 := by
  unfold nzB zerosB at h
  simp at h
  exact h
theorem made_fst (p x y z : Int) : (made p x y z).1 = nrm3 p x y z := by
  unfold made
  cases h : nzB p [x, y, z] with
  | true => rfl
  | false =>
    obtain ⟨a, b, c⟩ := nz3 h
    unfold nrm3
    rw [a, b, c]
    simp
theorem crsN_in' {p : Int} {a b : Pt} (hp : prB p = true) : In13 ((crsN p a b).1, (crsN p a b).2.1, (crsN p a b).2.2) := by
  obtain ⟨h1, h2⟩ := prB_bd hp
  have k : ∀ x : Int, 0 ≤ x % p ∧ x % p ≤ 12 := fun x => ⟨Int.emod_nonneg _ (by omega), by have := Int.emod_lt_of_pos x (show 0 < p by omega); omega⟩
  exact ⟨k _, k _, k _⟩
theorem in13' {p x y z : Int} (h : ptB p x y z = true) : In13 (x, y, z) := by
  obtain ⟨hp, f1, f2, f3, _⟩ := pt_facts h
  obtain ⟨h1, h2⟩ := prB_bd hp
  exact ⟨⟨by simp only; omega, by simp only; omega⟩, ⟨by simp only; omega, by simp only; omega⟩, by simp only; omega, by simp only; omega⟩
theorem in13_far : In13 (1, 0, 0) := ⟨⟨by decide, by decide⟩, ⟨by decide, by decide⟩, by decide, by decide⟩
/-- Whether two points have a line, two lines a point. -/
def okC (p : Int) (a b : Pt) : Bool := (madeC p a b).2
theorem l01Meet_crs (p a0 a1 a2 b0 b1 b2 : Int) (w : World) (hp : prB p = true) (ha : In13 (a0, a1, a2)) (hb : In13 (b0, b1, b2)) :
    Calls Try.prog 22 #[.int .i64 p, ptV a0 a1 a2, ptV b0 b1 b2] w (Ret w (.tuple #[ptV (crsN p (a0, a1, a2) (b0, b1, b2)).1 (crsN p (a0, a1, a2) (b0, b1, b2)).2.1 (crsN p (a0, a1, a2) (b0, b1, b2)).2.2, .bool (okC p (a0, a1, a2) (b0, b1, b2))])) := by
  have h := l01Meet_any p a0 a1 a2 b0 b1 b2 w hp ha hb
  have e : (madeC p (a0, a1, a2) (b0, b1, b2)).1 = crsN p (a0, a1, a2) (b0, b1, b2) := made_fst _ _ _ _
  rw [e] at h
  exact h
theorem l01Join_any (p a0 a1 a2 b0 b1 b2 : Int) (w : World) (hp : prB p = true) (ha : In13 (a0, a1, a2)) (hb : In13 (b0, b1, b2)) :
    Calls Try.prog 21 #[.int .i64 p, ptV a0 a1 a2, ptV b0 b1 b2] w (Ret w (.tuple #[ptV (madeC p (a0, a1, a2) (b0, b1, b2)).1.1 (madeC p (a0, a1, a2) (b0, b1, b2)).1.2.1 (madeC p (a0, a1, a2) (b0, b1, b2)).1.2.2, .bool (madeC p (a0, a1, a2) (b0, b1, b2)).2])) := by
  have HC := Lib.hid (fun (W : World) => l01Cross_any p a0 a1 a2 b0 b1 b2 W hp ha hb)
  generalize madeC p (a0, a1, a2) (b0, b1, b2) = r at *
  obtain ⟨⟨u0, u1, u2⟩, c⟩ := r
  clear hp ha hb
  go_enter Try.func21, Try.ntmps21
  go_wp2_with (go_at_call 47; refine (HC.out _).mono ?_; rintro e w_ ⟨rfl, hb⟩; obtain ⟨hcb, hfb, hlb⟩ := bcell hb; have hsz := hb.size; try simp at hsz; have HB := Lib.hid hb; clear hb; try (have hl0 : w.heap.size < w_.heap.size := by omega); try (have hl1 : w.heap.size + 1 < w_.heap.size := by omega); try (have hl2 : w.heap.size + 1 + 1 < w_.heap.size := by omega))
  exact bodyPost_ret (v := .tuple #[ptV u0 u1 u2, .bool c]) (by simp [results, Try.results21, go_sem, hcb, hl0, hl1, hl2]) rfl ⟨rfl, (by repeat (first | exact Below.refl _ _ | refine bset ?_ _ _ (by omega) _ | refine bal ?_ _ | refine bdrN ?_ _ | refine bdr ?_ | refine below_tr' ?_ HB.out))⟩
theorem l01Join_crs (p a0 a1 a2 b0 b1 b2 : Int) (w : World) (hp : prB p = true) (ha : In13 (a0, a1, a2)) (hb : In13 (b0, b1, b2)) :
    Calls Try.prog 21 #[.int .i64 p, ptV a0 a1 a2, ptV b0 b1 b2] w (Ret w (.tuple #[ptV (crsN p (a0, a1, a2) (b0, b1, b2)).1 (crsN p (a0, a1, a2) (b0, b1, b2)).2.1 (crsN p (a0, a1, a2) (b0, b1, b2)).2.2, .bool (okC p (a0, a1, a2) (b0, b1, b2))])) := by
  have h := l01Join_any p a0 a1 a2 b0 b1 b2 w hp ha hb
  have e : (madeC p (a0, a1, a2) (b0, b1, b2)).1 = crsN p (a0, a1, a2) (b0, b1, b2) := made_fst _ _ _ _
  rw [e] at h
  exact h
theorem join_any (p a0 a1 a2 b0 b1 b2 : Int) (w : World) (hp : prB p = true) (ha : In13 (a0, a1, a2)) (hb : In13 (b0, b1, b2)) :
    Calls Try.prog 29 #[.int .i64 p, ptV a0 a1 a2, ptV b0 b1 b2] w (Ret w (ptV (crsN p (a0, a1, a2) (b0, b1, b2)).1 (crsN p (a0, a1, a2) (b0, b1, b2)).2.1 (crsN p (a0, a1, a2) (b0, b1, b2)).2.2)) := by
  have HC := Lib.hid (fun (W : World) => cross_any p a0 a1 a2 b0 b1 b2 W hp ha hb)
  generalize crsN p (a0, a1, a2) (b0, b1, b2) = r at *
  obtain ⟨u0, u1, u2⟩ := r
  clear hp ha hb
  go_enter Try.func29, Try.ntmps29
  go_wp2_with (go_at_call 50; refine (HC.out _).mono ?_; rintro e w_ ⟨rfl, hb⟩; obtain ⟨hcb, hfb, hlb⟩ := bcell hb; have hsz := hb.size; try simp at hsz; have HB := Lib.hid hb; clear hb; try (have hl0 : w.heap.size < w_.heap.size := by omega); try (have hl1 : w.heap.size + 1 < w_.heap.size := by omega); try (have hl2 : w.heap.size + 1 + 1 < w_.heap.size := by omega))
  exact bodyPost_ret (v := ptV u0 u1 u2) (by simp [results, Try.results29, go_sem, hcb, hl0, hl1, hl2]) rfl ⟨rfl, (by repeat (first | exact Below.refl _ _ | refine bset ?_ _ _ (by omega) _ | refine bal ?_ _ | refine bdrN ?_ _ | refine bdr ?_ | refine below_tr' ?_ HB.out))⟩
end Go.Proofs.Ytdiihhohaijcoaa
/- Contracts: points on lines, determinants, three points of a line. -/
namespace Go.Proofs.Ytdiihhohaijcoaa
open Go.RowKit
set_option linter.unusedVariables false
set_option linter.unusedSimpArgs false
theorem mul_sb {a d : Int} (h0 : 0 ≤ a) (h1 : a ≤ 12) (g0 : -144 ≤ d) (g1 : d ≤ 144) : -1728 ≤ a * d ∧ a * d ≤ 1728 := by
  have u1 := Int.mul_le_mul_of_nonneg_left g1 h0
  have u2 := Int.mul_le_mul_of_nonneg_left g0 h0
  omega
/-- Whole numbers' determinant of three points. -/
def detZ (a b c : Pt) : Int := a.1 * (b.2.1 * c.2.2 - b.2.2 * c.2.1) + a.2.1 * (b.2.2 * c.1 - b.1 * c.2.2) + a.2.2 * (b.1 * c.2.1 - b.2.1 * c.1)
theorem l01On_any (p a0 a1 a2 b0 b1 b2 : Int) (w : World) (hp : prB p = true) (ha : In13 (a0, a1, a2)) (hb : In13 (b0, b1, b2)) :
    Calls Try.prog 40 #[.int .i64 p, ptV a0 a1 a2, ptV b0 b1 b2] w (Ret w (.bool (onB p (a0, a1, a2) (b0, b1, b2)))) := by
  obtain ⟨⟨p0, p1⟩, ⟨p2, p3⟩, ⟨p4, p5⟩⟩ := ha
  obtain ⟨⟨q0, q1⟩, ⟨q2, q3⟩, ⟨q4, q5⟩⟩ := hb
  simp only at p0 p1 p2 p3 p4 p5 q0 q1 q2 q3 q4 q5
  obtain ⟨m1, n1⟩ := mul_bd p0 p1 q0 q1
  obtain ⟨m2, n2⟩ := mul_bd p2 p3 q2 q3
  obtain ⟨m3, n3⟩ := mul_bd p4 p5 q4 q5
  obtain ⟨h1, h2⟩ := prB_bd hp
  have hpz : (p == 0) = false := beqf (by omega)
  have HE : Hid (onB p (a0, a1, a2) (b0, b1, b2) = ((a0 * b0 + a1 * b1 + a2 * b2) % p == 0)) := Lib.hid rfl
  clear hp
  go_enter Try.func40, Try.ntmps40
  go_wp2
  go_ret
  exact ⟨ret_bool HE.out.symm, (by repeat (first | exact Below.refl _ _ | refine bset ?_ _ _ (by omega) _ | refine bal ?_ _ | refine bdrN ?_ _ | refine bdr ?_))⟩
set_option maxHeartbeats 1000000 in
theorem l01Det_any (p a0 a1 a2 b0 b1 b2 c0 c1 c2 : Int) (w : World) (hp : prB p = true) (ha : In13 (a0, a1, a2)) (hb : In13 (b0, b1, b2)) (hc : In13 (c0, c1, c2)) :
    Calls Try.prog 20 #[.int .i64 p, ptV a0 a1 a2, ptV b0 b1 b2, ptV c0 c1 c2] w (Ret w (.int .i64 (detZ (a0, a1, a2) (b0, b1, b2) (c0, c1, c2) % p))) := by
  obtain ⟨⟨⟨m1, n1⟩, m2, n2⟩, ⟨⟨m3, n3⟩, m4, n4⟩, ⟨m5, n5⟩, m6, n6⟩ := crs_bd (p := p) hb hc
  obtain ⟨⟨p0, p1⟩, ⟨p2, p3⟩, ⟨p4, p5⟩⟩ := ha
  simp only at p0 p1 p2 p3 p4 p5
  obtain ⟨s1, t1⟩ := mul_sb (d := b1 * c2 - b2 * c1) p0 p1 (by omega) (by omega)
  obtain ⟨s2, t2⟩ := mul_sb (d := b2 * c0 - b0 * c2) p2 p3 (by omega) (by omega)
  obtain ⟨s3, t3⟩ := mul_sb (d := b0 * c1 - b1 * c0) p4 p5 (by omega) (by omega)
  have HM := Lib.hid (fun (W : World) => l01Mod_any p (a0 * (b1 * c2 - b2 * c1) + a1 * (b2 * c0 - b0 * c2) + a2 * (b0 * c1 - b1 * c0)) W (by have := prB_bd hp; omega) (by have := prB_bd hp; omega) (by omega) (by omega))
  have HE : Hid (detZ (a0, a1, a2) (b0, b1, b2) (c0, c1, c2) = a0 * (b1 * c2 - b2 * c1) + a1 * (b2 * c0 - b0 * c2) + a2 * (b0 * c1 - b1 * c0)) := Lib.hid rfl
  clear hp hb hc
  rw [HE.out]
  go_enter Try.func20, Try.ntmps20
  go_wp2_with (go_at_call 42; (with_reducible refine (HM.out _).mono ?_); rintro e w' ⟨rfl, rfl⟩)
  go_ret
  exact ⟨rfl, (by repeat (first | exact Below.refl _ _ | refine bset ?_ _ _ (by omega) _ | refine bal ?_ _ | refine bdrN ?_ _ | refine bdr ?_))⟩
set_option maxHeartbeats 1000000 in
theorem determinant_any (p a0 a1 a2 b0 b1 b2 c0 c1 c2 : Int) (w : World) (hp : prB p = true) (ha : In13 (a0, a1, a2)) (hb : In13 (b0, b1, b2)) (hc : In13 (c0, c1, c2)) :
    Calls Try.prog 31 #[.int .i64 p, ptV a0 a1 a2, ptV b0 b1 b2, ptV c0 c1 c2] w (Ret w (.int .i64 (detZ (a0, a1, a2) (b0, b1, b2) (c0, c1, c2) % p))) := by
  obtain ⟨⟨⟨m1, n1⟩, m2, n2⟩, ⟨⟨m3, n3⟩, m4, n4⟩, ⟨m5, n5⟩, m6, n6⟩ := crs_bd (p := p) hb hc
  obtain ⟨⟨p0, p1⟩, ⟨p2, p3⟩, ⟨p4, p5⟩⟩ := ha
  simp only at p0 p1 p2 p3 p4 p5
  obtain ⟨s1, t1⟩ := mul_sb (d := b1 * c2 - b2 * c1) p0 p1 (by omega) (by omega)
  obtain ⟨s2, t2⟩ := mul_sb (d := b0 * c2 - b2 * c0) p2 p3 (by omega) (by omega)
  obtain ⟨s3, t3⟩ := mul_sb (d := b0 * c1 - b1 * c0) p4 p5 (by omega) (by omega)
  have HE : Hid (detZ (a0, a1, a2) (b0, b1, b2) (c0, c1, c2) = a0 * (b1 * c2 - b2 * c1) - a1 * (b0 * c2 - b2 * c0) + a2 * (b0 * c1 - b1 * c0)) := Lib.hid (by
    show a0 * (b1 * c2 - b2 * c1) + a1 * (b2 * c0 - b0 * c2) + a2 * (b0 * c1 - b1 * c0) = _
    rw [show b2 * c0 - b0 * c2 = -(b0 * c2 - b2 * c0) by omega, Int.mul_neg]
    omega)
  have hpb := prB_bd hp
  rw [HE.out]
  have HM := Lib.hid (fun (W : World) => mod_any (a0 * (b1 * c2 - b2 * c1) - a1 * (b0 * c2 - b2 * c0) + a2 * (b0 * c1 - b1 * c0)) p W (by omega) (by omega) (by omega) (by omega))
  clear hp hb hc
  go_enter Try.func31, Try.ntmps31
  go_wp2_with (go_at_call 51; (with_reducible refine (HM.out _).mono ?_); rintro e w' ⟨rfl, rfl⟩)
  go_ret
  exact ⟨rfl, (by repeat (first | exact Below.refl _ _ | refine bset ?_ _ _ (by omega) _ | refine bal ?_ _ | refine bdrN ?_ _ | refine bdr ?_))⟩
theorem collinear_any (p a0 a1 a2 b0 b1 b2 c0 c1 c2 : Int) (w : World) (hp : prB p = true) (ha : In13 (a0, a1, a2)) (hb : In13 (b0, b1, b2)) (hc : In13 (c0, c1, c2)) :
    Calls Try.prog 27 #[.int .i64 p, ptV a0 a1 a2, ptV b0 b1 b2, ptV c0 c1 c2] w (Ret w (.bool (detZ (a0, a1, a2) (b0, b1, b2) (c0, c1, c2) % p == 0))) := by
  have HC := Lib.hid (fun (W : World) => determinant_any p a0 a1 a2 b0 b1 b2 c0 c1 c2 W hp ha hb hc)
  generalize detZ (a0, a1, a2) (b0, b1, b2) (c0, c1, c2) % p = d at *
  clear hp ha hb hc
  go_enter Try.func27, Try.ntmps27
  go_wp2_with (go_at_call 31; (with_reducible refine (HC.out _).mono ?_); rintro e w1_ ⟨rfl, hb1⟩; obtain ⟨hcb1, hfb1, hlb1⟩ := bcell hb1; have hsz1 := hb1.size; (try simp at hsz1); have HB1 := Lib.hid hb1; clear hb1; (try (have hl01 : w.heap.size < w1_.heap.size := by omega)); (try (have hl11 : w.heap.size + 1 < w1_.heap.size := by omega)); (try (have hl21 : w.heap.size + 1 + 1 < w1_.heap.size := by omega)))
  go_ret
  exact ⟨ret_bool rfl, (by repeat (first | exact Below.refl _ _ | refine bset ?_ _ _ (by omega) _ | refine bal ?_ _ | refine bdrN ?_ _ | refine bdr ?_ | refine below_tr' ?_ HB1.out))⟩
end Go.Proofs.Ytdiihhohaijcoaa
/- Contracts: three points of a line. -/
namespace Go.Proofs.Ytdiihhohaijcoaa
open Go.RowKit
set_option linter.unusedVariables false
set_option linter.unusedSimpArgs false
/-- Three different points of one line. -/
def threeB (p : Int) (a b c : Pt) : Bool := !eqP a b && (!eqP a c && (!eqP b c && detZ a b c % p == 0))
end Go.Proofs.Ytdiihhohaijcoaa
/- Contracts: all points of a plane. -/
namespace Go.Proofs.Ytdiihhohaijcoaa
open Go.RowKit
set_option linter.unusedVariables false
set_option linter.unusedSimpArgs false
def ptC (a : Pt) : List Value := [.int .i64 a.1, .int .i64 a.2.1, .int .i64 a.2.2]
def ptCs (l : List Pt) : List Value := l.flatMap ptC
theorem ptCs_snoc (l : List Pt) (a : Pt) : ptCs (l ++ [a]) = ptCs l ++ ptC a := by simp [ptCs]
/-- The points with first number 0 up to the k-th; those with first number 1. -/
def pA (k : Nat) : List Pt := (0, 0, 1) :: (List.range k).map (fun z : Nat => (0, 1, (z : Int)))
def pR (n y : Nat) : List Pt := (List.range n).map (fun z : Nat => (1, (y : Int), (z : Int)))
def pB (n y : Nat) : List Pt := pA n ++ (List.range y).flatMap (pR n)
def allP (n : Nat) : List Pt := pB n n
theorem pA_succ (k : Nat) : pA (k + 1) = pA k ++ [(0, 1, (k : Int))] := by simp [pA, List.range_succ]
theorem pR_succ (n y : Nat) : pR (n + 1) y = pR n y ++ [(1, (y : Int), (n : Int))] := by simp [pR, List.range_succ]
theorem pB_succ (n y : Nat) : pB n (y + 1) = pB n y ++ pR n y := by simp [pB, List.range_succ]
theorem pA_length (k : Nat) : (pA k).length = k + 1 := by simp [pA]
theorem pR_length (n y : Nat) : (pR n y).length = n := by simp [pR]
theorem pB_length (n y : Nat) : (pB n y).length = n + 1 + y * n := by
  induction y with
  | zero => simp [pB, pA_length]
  | succ y ih => rw [pB_succ, List.length_append, ih, pR_length, Nat.succ_mul]; omega
/-- A new list of points. -/
structure PtsPost (w : World) (l : List Pt) (e : Ending) (w' : World) : Prop where
  out : ∃ v, e = .returned v ∧ w'.ownsRow w.heap.size 42 3 v l.length (ptCs l) ∧ Below w.heap.size w w'
theorem infoPo : (Try.prog.info? 42).map (fun i => (i.zero, i.size, i.bytes)) = some (some (.agg #[.int .i64 0, .int .i64 0, .int .i64 0]), 3, 24) := by kernel_rfl
theorem newP (wr : World) (x y z : Value) (T : TypeId) : ∀ (j : Nat) (u : Value), [x, y, z][j]? = some u → (wr.alloc (.cells #[x, y, z] T)).cell? ((⟨wr.heap.size, 0, none⟩ : Addr).add j) = some u := by
  intro j u hj
  have e : (wr.alloc (.cells #[x, y, z] T)).cell? ((⟨wr.heap.size, 0, none⟩ : Addr).add j) = #[x, y, z][j]? := by
    have hadd : (⟨wr.heap.size, 0, none⟩ : Addr).add j = ⟨wr.heap.size, j, none⟩ := by unfold Addr.add; split <;> simp_all
    rw [hadd, World.cell?_alloc_at _ _ _ _ rfl]
  rw [e]; simpa using hj
theorem oneP (x y z : Int) : ∀ u ∈ [Value.int .i64 x, .int .i64 y, .int .i64 z], u.oneCell' = true := by
  intro u hu
  simp only [List.mem_cons, List.not_mem_nil, or_false] at hu
  rcases hu with rfl | rfl | rfl <;> rfl
set_option maxHeartbeats 1600000 in
theorem l01Points_any (n : Nat) (w : World) (hn : 3 ≤ n ∧ n ≤ 13) :
    Calls Try.prog 39 #[.int .i64 (n : Int)] w (PtsPost w (allP n)) := by
  obtain ⟨n3, n13⟩ := hn
  obtain ⟨i0, hi, hz0, hz1, hz2⟩ := info_parts infoPo
  have HI0 := Lib.hid hi; have HZ0 := Lib.hid hz0; have HZ1 := Lib.hid hz1; have HZ2 := Lib.hid hz2
  clear hi hz0 hz1 hz2
  go_enter Try.func39, Try.ntmps39
  go_wp2
  go_loopw [3, 4] (fun v i wr => ∃ k : Nat, k ≤ n ∧ i = .int .i64 k ∧ Hid (wr.ownsRow w.heap.size 42 3 v (k + 1) (ptCs (pA k))) ∧ Hid (Below w.heap.size w wr)) (fun _ i wr => n - (intOf i).toNat)
  case atStart =>
    refine ⟨0, Nat.zero_le _, rfl, Lib.hid ?_, Lib.hid (by repeat (first | exact Below.refl _ _ | refine bset ?_ _ _ (by omega) _ | refine bal ?_ _ | refine bdrN ?_ _ | refine bdr ?_))⟩
    refine ⟨rfl, .inr ⟨w.heap.size, 1, #[.int .i64 0, .int .i64 0, .int .i64 1], rfl, Nat.le_refl _, heap_alloc_new _ _, Nat.le_refl _, by unfold maxLen; omega, rfl, rfl⟩⟩
  case round =>
    obtain ⟨k, hk, rfl, HO, HB⟩ := hrel
    by_cases hlt : k < n
    · have HN := Lib.hid (pA_succ k)
      go_wp2_with (at_builtin; refine wpList_append_own _ rfl _ _ 28 rfl w.heap.size 42 i0 (.agg #[.int .i64 0, .int .i64 0, .int .i64 0]) 3 24 Try.underlying28 HI0.out HZ0.out HZ1.out HZ2.out rfl (by decide) _ _ _ rfl (HO.out.alloc _) ⟨wr.heap.size, 0, none⟩ 1 1 [.int .i64 0, .int .i64 1, .int .i64 (k : Int)] rfl rfl (newP _ _ _ _ _) (oneP _ _ _) (by unfold maxLen; omega) (by omega) (by have := HB.out.size; simp; omega) ?_; intro v2 w2 hown hgrow _; have HO2 := Lib.hid hown; have HG := Lib.hid hgrow; clear hown hgrow)
      go_roundw
      case rel => exact ⟨k + 1, by omega, by go_num, Lib.hid (by rw [HN.out, ptCs_snoc]; exact HO2.out), Lib.hid ((bal HB.out _).grown HG.out (by have := HB.out.size; simp; omega) (fun k' hk' => own_base' HO.out k' hk'))⟩
      case measure => simp [intOf]; omega
    · have hkn : k = n := by omega
      subst hkn
      clear hlt hk
      go_wp2
      go_loopw [3, 5, 6] (fun v i z wr => ∃ j : Nat, j ≤ k ∧ i = .int .i64 j ∧ Hid (wr.ownsRow w.heap.size 42 3 v (k + 1 + j * k) (ptCs (pB k j))) ∧ Hid (Below w.heap.size w wr)) (fun _ i _ wr => k - (intOf i).toNat)
      case atStart =>
        exact ⟨0, Nat.zero_le _, rfl, Lib.hid (by have h := HO.out; simpa [pB] using h), HB⟩
      case round =>
        clear HO HB
        obtain ⟨j, hj, rfl, HO, HB⟩ := hrel
        by_cases hlt : j < k
        · have hjk : j * k ≤ 169 := Nat.mul_le_mul (show j ≤ 13 by omega) n13
          generalize hJ : j * k = J at *
          go_wp2
          go_loopw [3, 6] (fun v i wr => ∃ m : Nat, m ≤ k ∧ i = .int .i64 m ∧ Hid (wr.ownsRow w.heap.size 42 3 v (k + 1 + J + m) (ptCs (pB k j ++ pR m j))) ∧ Hid (Below w.heap.size w wr)) (fun _ i wr => k - (intOf i).toNat)
          case atStart =>
            exact ⟨0, Nat.zero_le _, rfl, Lib.hid (by have h := HO.out; simpa [pR] using h), HB⟩
          case round =>
            clear HO HB
            obtain ⟨m, hm, rfl, HO, HB⟩ := hrel
            by_cases hlm : m < k
            · have HN := Lib.hid (show pB k j ++ pR (m + 1) j = (pB k j ++ pR m j) ++ [(1, (j : Int), (m : Int))] by rw [pR_succ, List.append_assoc])
              go_wp2_with (at_builtin; refine wpList_append_own _ rfl _ _ 28 rfl w.heap.size 42 i0 (.agg #[.int .i64 0, .int .i64 0, .int .i64 0]) 3 24 Try.underlying28 HI0.out HZ0.out HZ1.out HZ2.out rfl (by decide) _ _ _ rfl (HO.out.alloc _) ⟨wr.heap.size, 0, none⟩ 1 1 [.int .i64 1, .int .i64 (j : Int), .int .i64 (m : Int)] rfl rfl (newP _ _ _ _ _) (oneP _ _ _) (by unfold maxLen; omega) (by omega) (by have := HB.out.size; simp; omega) ?_; intro v2 w2 hown hgrow _; have HO2 := Lib.hid hown; have HG := Lib.hid hgrow; clear hown hgrow)
              go_roundw
              case rel => exact ⟨m + 1, by omega, by go_num, Lib.hid (by rw [HN.out, ptCs_snoc]; exact HO2.out), Lib.hid ((bal HB.out _).grown HG.out (by have := HB.out.size; simp; omega) (fun k' hk' => own_base' HO.out k' hk'))⟩
              case measure => simp [intOf]; omega
            · have hmk : m = k := by omega
              subst hmk
              go_wp2
              go_roundw
              case rel => exact ⟨j + 1, by omega, by go_num, Lib.hid (by have h := HO.out; rw [pB_succ, Nat.succ_mul, hJ, show m + 1 + (J + m) = m + 1 + J + m by omega]; exact h), HB⟩
              case measure => simp [intOf]; omega
        · have hjk : j = k := by omega
          subst hjk
          go_wp2
          go_ret
          exact ⟨_, rfl, by have h := HO.out; rw [show allP j = pB j j from rfl, pB_length]; exact h, HB.out⟩
end Go.Proofs.Ytdiihhohaijcoaa
/- Contracts: all points of a plane: the program. -/
namespace Go.Proofs.Ytdiihhohaijcoaa
open Go.RowKit
set_option linter.unusedVariables false
set_option linter.unusedSimpArgs false
set_option maxHeartbeats 1600000 in
theorem allPoints_any (n : Nat) (w : World) (hn : 3 ≤ n ∧ n ≤ 13) :
    Calls Try.prog 44 #[.int .i64 (n : Int)] w (PtsPost w (allP n)) := by
  obtain ⟨n3, n13⟩ := hn
  obtain ⟨i0, hi, hz0, hz1, hz2⟩ := info_parts infoPo
  have HI0 := Lib.hid hi; have HZ0 := Lib.hid hz0; have HZ1 := Lib.hid hz1; have HZ2 := Lib.hid hz2
  clear hi hz0 hz1 hz2
  go_enter Try.func44, Try.ntmps44
  go_wp2
  go_loopw [3, 10] (fun v i wr => ∃ k : Nat, k ≤ n ∧ i = .int .i64 k ∧ Hid (wr.ownsRow w.heap.size 42 3 v (k + 1) (ptCs (pA k))) ∧ Hid (Below w.heap.size w wr)) (fun _ i wr => n - (intOf i).toNat)
  case atStart =>
    refine ⟨0, Nat.zero_le _, rfl, Lib.hid ?_, Lib.hid (by repeat (first | exact Below.refl _ _ | refine bset ?_ _ _ (by omega) _ | refine bal ?_ _ | refine bdrN ?_ _ | refine bdr ?_))⟩
    refine ⟨rfl, .inr ⟨w.heap.size, 1, #[.int .i64 0, .int .i64 0, .int .i64 1], rfl, Nat.le_refl _, heap_alloc_new _ _, Nat.le_refl _, by unfold maxLen; omega, rfl, rfl⟩⟩
  case round =>
    obtain ⟨k, hk, rfl, HO, HB⟩ := hrel
    by_cases hlt : k < n
    · have HN := Lib.hid (pA_succ k)
      go_wp2_with (at_builtin; refine wpList_append_own _ rfl _ _ 28 rfl w.heap.size 42 i0 (.agg #[.int .i64 0, .int .i64 0, .int .i64 0]) 3 24 Try.underlying28 HI0.out HZ0.out HZ1.out HZ2.out rfl (by decide) _ _ _ rfl (HO.out.alloc _) ⟨wr.heap.size, 0, none⟩ 1 1 [.int .i64 0, .int .i64 1, .int .i64 (k : Int)] rfl rfl (newP _ _ _ _ _) (oneP _ _ _) (by unfold maxLen; omega) (by omega) (by have := HB.out.size; simp; omega) ?_; intro v2 w2 hown hgrow _; have HO2 := Lib.hid hown; have HG := Lib.hid hgrow; clear hown hgrow)
      go_roundw
      case rel => exact ⟨k + 1, by omega, by go_num, Lib.hid (by rw [HN.out, ptCs_snoc]; exact HO2.out), Lib.hid ((bal HB.out _).grown HG.out (by have := HB.out.size; simp; omega) (fun k' hk' => own_base' HO.out k' hk'))⟩
      case measure => simp [intOf]; omega
    · have hkn : k = n := by omega
      subst hkn
      clear hlt hk
      go_wp2
      go_loopw [3, 20] (fun v i wr => ∃ j : Nat, j ≤ k ∧ i = .int .i64 j ∧ Hid (wr.ownsRow w.heap.size 42 3 v (k + 1 + j * k) (ptCs (pB k j))) ∧ Hid (Below w.heap.size w wr)) (fun _ i wr => k - (intOf i).toNat)
      case atStart =>
        exact ⟨0, Nat.zero_le _, rfl, Lib.hid (by have h := HO.out; simpa [pB] using h), HB⟩
      case round =>
        clear HO HB
        obtain ⟨j, hj, rfl, HO, HB⟩ := hrel
        by_cases hlt : j < k
        · have hjk : j * k ≤ 169 := Nat.mul_le_mul (show j ≤ 13 by omega) n13
          generalize hJ : j * k = J at *
          go_wp2
          go_loopw [3, 24] (fun v i wr => ∃ m : Nat, m ≤ k ∧ i = .int .i64 m ∧ Hid (wr.ownsRow w.heap.size 42 3 v (k + 1 + J + m) (ptCs (pB k j ++ pR m j))) ∧ Hid (Below w.heap.size w wr)) (fun _ i wr => k - (intOf i).toNat)
          case atStart =>
            exact ⟨0, Nat.zero_le _, rfl, Lib.hid (by have h := HO.out; simpa [pR] using h), HB⟩
          case round =>
            clear HO HB
            obtain ⟨m, hm, rfl, HO, HB⟩ := hrel
            by_cases hlm : m < k
            · have HN := Lib.hid (show pB k j ++ pR (m + 1) j = (pB k j ++ pR m j) ++ [(1, (j : Int), (m : Int))] by rw [pR_succ, List.append_assoc])
              go_wp2_with (at_builtin; refine wpList_append_own _ rfl _ _ 28 rfl w.heap.size 42 i0 (.agg #[.int .i64 0, .int .i64 0, .int .i64 0]) 3 24 Try.underlying28 HI0.out HZ0.out HZ1.out HZ2.out rfl (by decide) _ _ _ rfl (HO.out.alloc _) ⟨wr.heap.size, 0, none⟩ 1 1 [.int .i64 1, .int .i64 (j : Int), .int .i64 (m : Int)] rfl rfl (newP _ _ _ _ _) (oneP _ _ _) (by unfold maxLen; omega) (by omega) (by have := HB.out.size; simp; omega) ?_; intro v2 w2 hown hgrow _; have HO2 := Lib.hid hown; have HG := Lib.hid hgrow; clear hown hgrow)
              go_roundw
              case rel => exact ⟨m + 1, by omega, by go_num, Lib.hid (by rw [HN.out, ptCs_snoc]; exact HO2.out), Lib.hid ((bal HB.out _).grown HG.out (by have := HB.out.size; simp; omega) (fun k' hk' => own_base' HO.out k' hk'))⟩
              case measure => simp [intOf]; omega
            · have hmk : m = k := by omega
              subst hmk
              go_wp2
              go_roundw
              case rel => exact ⟨j + 1, by omega, by go_num, Lib.hid (by have h := HO.out; rw [pB_succ, Nat.succ_mul, hJ, show m + 1 + (J + m) = m + 1 + J + m by omega]; exact h), HB⟩
              case measure => simp [intOf]; omega
        · have hjk : j = k := by omega
          subst hjk
          go_wp2
          go_ret
          exact ⟨_, rfl, by have h := HO.out; rw [show allP j = pB j j from rfl, pB_length]; exact h, HB.out⟩
end Go.Proofs.Ytdiihhohaijcoaa
/- Lists of points: owned, read, filtered. -/
namespace Go.Proofs.Ytdiihhohaijcoaa
open Go.RowKit
set_option linter.unusedVariables false
set_option linter.unusedSimpArgs false
theorem ptCs_at : ∀ (l : List Pt) (i : Nat), i < l.length → (ptCs l)[i * 3]? = some (.int .i64 (l.getD i (0, 0, 0)).1) ∧ (ptCs l)[i * 3 + 1]? = some (.int .i64 (l.getD i (0, 0, 0)).2.1) ∧ (ptCs l)[i * 3 + 2]? = some (.int .i64 (l.getD i (0, 0, 0)).2.2)
  | [], i, h => by simp at h
  | a :: l, 0, _ => by simp [ptCs, ptC]
  | a :: l, i + 1, h => by
    have ih := ptCs_at l i (by simpa using h)
    have e : ∀ k, (ptCs (a :: l))[(i + 1) * 3 + k]? = (ptCs l)[i * 3 + k]? := by
      intro k
      have : ptCs (a :: l) = [.int .i64 a.1, .int .i64 a.2.1, .int .i64 a.2.2] ++ ptCs l := rfl
      rw [this, List.getElem?_append_right (by simp; omega)]
      congr 1
      simp; omega
    have e0 := e 0
    rw [Nat.add_zero, Nat.add_zero] at e0
    rw [e0, e 1, e 2]
    simpa using ih
theorem ptCs_length (l : List Pt) : (ptCs l).length = l.length * 3 := by
  induction l with
  | nil => rfl
  | cons a l ih =>
    have : ptCs (a :: l) = [.int .i64 a.1, .int .i64 a.2.1, .int .i64 a.2.2] ++ ptCs l := rfl
    rw [this, List.length_append, ih]; simp; omega
/-- An owned list of points, laid open. -/
theorem ownPts {W : World} {base : Nat} {T : TypeId} {v : Value} {l : List Pt} {n : Nat} (h : W.ownsRow base T 3 v n (ptCs l)) (hl : l.length = n) (hn : 0 < n) :
    ∃ g cap, v = .slice (some ⟨g, 0, none⟩) n cap ∧ base ≤ g ∧ g < W.heap.size ∧ PtsAt W g 0 n l := by
  rcases h.2 with ⟨_, h0⟩ | ⟨g, cap, cur, rfl, hb, hg, hle, _, hsz, htk⟩
  · exfalso
    have := ptCs_length l
    omega
  · refine ⟨g, cap, rfl, hb, (Array.getElem?_eq_some_iff.1 hg).1, fun i hi => ?_⟩
    obtain ⟨h1, h2, h3⟩ := ptCs_at l i (by omega)
    have hat : ∀ j, j < n * 3 → cur[j]? = (ptCs l)[j]? := by
      intro j hj
      rw [← htk, List.getElem?_take_of_lt (by omega)]; simp
    refine ⟨?_, ?_, ?_⟩
    · rw [cell_of_row W g _ _ _ _ hg, hat _ (by omega), Nat.zero_add]; exact h1
    · rw [cell_of_row W g _ _ _ _ hg, hat _ (by omega), Nat.zero_add]; exact h2
    · rw [cell_of_row W g _ _ _ _ hg, hat _ (by omega), Nat.zero_add]; exact h3
theorem own_low {W : World} {b b' : Nat} {T : TypeId} {size n : Nat} {v : Value} {xs : List Value} (h : W.ownsRow b T size v n xs) (hb : b' ≤ b) : W.ownsRow b' T size v n xs := by
  refine ⟨h.1, ?_⟩
  rcases h.2 with h0 | ⟨g, cap, cur, h1, h2, h3⟩
  · exact .inl h0
  · exact .inr ⟨g, cap, cur, h1, Nat.le_trans hb h2, h3⟩
/-- A point is loaded from anywhere in a block. -/
theorem calm_loadPt {P : Program} {o : Oper} {ρ : Operand → Value} {W : World} {g off : Nat} {x y z : Int} (ty : TypeId) (q : Operand) (ho : o.op = .load ty q) (hx : ρ q = .pointer (some ⟨g, off, none⟩))
    (h0 : W.cell? ⟨g, off, none⟩ = some (.int .i64 x)) (h1 : W.cell? ⟨g, off + 1, none⟩ = some (.int .i64 y)) (h2 : W.cell? ⟨g, off + 2, none⟩ = some (.int .i64 z)) (hs : ∀ W, (sizeOf ty).run P W = .ok 3 W) (ha : ∀ W, (isAgg ty).run P W = .ok true W) : calmAt P o ρ W (ptV x y z) := by
  have hl : (loadCells ⟨g, off, none⟩ 3).run P W = .ok #[.int .i64 x, .int .i64 y, .int .i64 z] W :=
    run_loadCells_list (P := P) W ⟨g, off, none⟩ [.int .i64 x, .int .i64 y, .int .i64 z] (fun j v hv => by
      have hadd : ∀ j, (⟨g, off, none⟩ : Addr).add j = ⟨g, off + j, none⟩ := by intro j; unfold Addr.add; split <;> simp_all
      rw [hadd]
      match j, hv with
      | 0, hv => simpa using h0.trans (by simpa using hv)
      | 1, hv => exact h1.trans (by simpa using hv)
      | 2, hv => exact h2.trans (by simpa using hv)
      | j + 3, hv => simp at hv)
  have hv : (loadVar ty ⟨g, off, none⟩).run P W = .ok (ptV x y z) W := by
    unfold loadVar
    rw [Sem.run_bind, ha]
    simp only [Result.andThen_ok, if_true]
    rw [Sem.run_bind, hs]
    simp only [Result.andThen_ok]
    rw [Sem.run_bind, hl]
    rfl
  refine ⟨?_⟩
  unfold calmRun execOp
  simp only [ho, hx, Instr.loadAt, Instr.sureAddr, Sem.run_bind, Sem.run_pure, Result.andThen_ok, hv, and_self]
end Go.Proofs.Ytdiihhohaijcoaa
/- Contracts: the points on a line, in the reference. -/
namespace Go.Proofs.Ytdiihhohaijcoaa
open Go.RowKit
set_option linter.unusedVariables false
set_option linter.unusedSimpArgs false
theorem allP_in {n : Nat} (hn : n ≤ 13) : ∀ a ∈ allP n, In13 a := by
  intro a ha
  simp only [allP, pB, pA, pR, List.mem_append, List.mem_cons, List.mem_map, List.mem_range, List.mem_flatMap] at ha
  have k : ∀ x y z : Int, 0 ≤ x → x ≤ 12 → 0 ≤ y → y ≤ 12 → 0 ≤ z → z ≤ 12 → In13 (x, y, z) := fun x y z a b c d e f => ⟨⟨a, b⟩, ⟨c, d⟩, e, f⟩
  rcases ha with (rfl | ⟨z, hz, rfl⟩) | ⟨y, hy, z, hz, rfl⟩
  · exact k _ _ _ (by omega) (by omega) (by omega) (by omega) (by omega) (by omega)
  · exact k _ _ _ (by omega) (by omega) (by omega) (by omega) (by omega) (by omega)
  · exact k _ _ _ (by omega) (by omega) (by omega) (by omega) (by omega) (by omega)
theorem allP_length (n : Nat) : (allP n).length = n + 1 + n * n := pB_length n n
theorem filter_snoc {α : Type} (f : α → Bool) (l : List α) (d : α) (k : Nat) (h : k < l.length) : (l.take (k + 1)).filter f = (l.take k).filter f ++ (if f (l.getD k d) then [l.getD k d] else []) := by
  rw [take_snoc' l d k h, List.filter_append, List.filter_cons, List.filter_nil]
theorem low_tr' {b B : Nat} {w W W' : World} (h : Below b w W) (k : Below B W W') (hb : b ≤ B) : Below b w W' :=
  ⟨k.os.trans h.os, k.tape.trans h.tape, k.output.trans h.output, Nat.le_trans h.size k.size, fun n hn => (k.block n (Nat.lt_of_lt_of_le hn hb)).trans (h.block n hn)⟩
theorem own_below {W W' : World} {b : Nat} {T : TypeId} {size n : Nat} {v : Value} {xs : List Value} (h : W.ownsRow b T size v n xs) (hb : Below W.heap.size W W') : W'.ownsRow b T size v n xs := by
  refine ⟨h.1, ?_⟩
  rcases h.2 with h0 | ⟨g, cap, cur, h1, h2, hg, h3⟩
  · exact .inl h0
  · exact .inr ⟨g, cap, cur, h1, h2, by rw [hb.block _ (Array.getElem?_eq_some_iff.1 hg).1]; exact hg, h3⟩
theorem hn_at' (w : World) (o : Obj) (n : Nat) (h : n = w.heap.size) : (w.alloc o).heap[n]? = some o := by subst h; exact heap_alloc_new w o
end Go.Proofs.Ytdiihhohaijcoaa
/- Contracts: slices.IndexFunc over points. -/
namespace Go.Proofs.Ytdiihhohaijcoaa
open Go.RowKit
set_option linter.unusedVariables false
set_option linter.unusedSimpArgs false
/-- The first place at which f holds; -1 if there is none. -/
def idxZ (f : Pt → Bool) (l : List Pt) : Int := match l.findIdx? f with | some i => (i : Int) | none => -1
theorem idx_at {f : Pt → Bool} {l : List Pt} {k : Nat} (h : (l.take k).any f = false) (hk : k < l.length) (hf : f (l.getD k (0, 0, 0)) = true) : idxZ f l = k := by
  unfold idxZ
  have : l.findIdx? f = some k := by
    rw [List.findIdx?_eq_some_iff_getElem]
    refine ⟨hk, by simpa [List.getD, hk] using hf, fun j hj => ?_⟩
    have := List.any_eq_false.1 h l[j] (by rw [List.mem_take_iff_getElem]; exact ⟨j, by omega, rfl⟩)
    simpa using this
  rw [this]
theorem idx_none {f : Pt → Bool} {l : List Pt} (h : l.any f = false) : idxZ f l = -1 := by
  unfold idxZ
  have : l.findIdx? f = none := by
    rw [List.findIdx?_eq_none_iff]
    intro x hx
    have := List.any_eq_false.1 h x hx
    simpa using this
  rw [this]
theorem any_snoc {f : Pt → Bool} {l : List Pt} {k : Nat} (hk : k < l.length) (h : (l.take k).any f = false) (hf : f (l.getD k (0, 0, 0)) = false) : (l.take (k + 1)).any f = false := by
  rw [take_snoc' l (0, 0, 0) k hk, List.any_append, h, List.any_cons, hf]; rfl
end Go.Proofs.Ytdiihhohaijcoaa
/- Plain words: points on and off a line. -/
namespace Go.Proofs.Ytdiihhohaijcoaa
set_option linter.unusedVariables false
set_option linter.unusedSimpArgs false
def planeChk (n : Nat) : Bool := (allP n).all (fun m => decide (4 ≤ ((allP n).filter (fun a => onB (n : Int) a m)).length) && (allP n).any (fun a => !onB (n : Int) a m))
theorem planeChk3 : planeChk 3 = true := by decide +kernel
theorem planeChk5 : planeChk 5 = true := by decide +kernel
theorem planeChk7 : planeChk 7 = true := by decide +kernel
theorem planeChk11 : planeChk 11 = true := by decide +kernel
theorem planeChk13 : planeChk 13 = true := by decide +kernel
theorem planeChk_of {n : Nat} (hp : prB (n : Int) = true) : planeChk n = true := by
  have h := prB_cases hp
  have : n = 3 ∨ n = 5 ∨ n = 7 ∨ n = 11 ∨ n = 13 := by omega
  rcases this with rfl | rfl | rfl | rfl | rfl
  · exact planeChk3
  · exact planeChk5
  · exact planeChk7
  · exact planeChk11
  · exact planeChk13
/-- A normal point is in the list of all. -/
theorem mem_allP {n : Nat} {x y z : Int} (h : ptB (n : Int) x y z = true) : (x, y, z) ∈ allP n := by
  obtain ⟨hp, h1, h2, h3, h4⟩ := pt_facts h
  simp only [allP, pB, pA, pR, List.mem_append, List.mem_cons, List.mem_map, List.mem_range, List.mem_flatMap]
  rcases h4 with rfl | ⟨rfl, rfl⟩ | ⟨rfl, rfl, rfl⟩
  · exact .inr ⟨y.toNat, by omega, z.toNat, by omega, by rw [Int.toNat_of_nonneg h2.1, Int.toNat_of_nonneg h3.1]⟩
  · exact .inl (.inr ⟨z.toNat, by omega, by rw [Int.toNat_of_nonneg h3.1]⟩)
  · exact .inl (.inl rfl)
/-- Each normal line has at least four points, and a point is off it. -/
theorem line_facts {n : Nat} {x y z : Int} (h : ptB (n : Int) x y z = true) :
    4 ≤ ((allP n).filter (fun a => onB (n : Int) a (x, y, z))).length ∧ ∃ a ∈ allP n, onB (n : Int) a (x, y, z) = false := by
  have hk := List.all_eq_true.1 (planeChk_of (pt_facts h).1) _ (mem_allP h)
  simp only [Bool.and_eq_true, decide_eq_true_eq, List.any_eq_true, Bool.not_eq_true'] at hk
  exact hk
end Go.Proofs.Ytdiihhohaijcoaa
