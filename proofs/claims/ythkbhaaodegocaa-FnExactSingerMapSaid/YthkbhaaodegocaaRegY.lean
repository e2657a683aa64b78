/- A region that draws its order, all of it: operations that yield one value each in whatever later world, new blocks, and one store into each of the new blocks. -/
import Derived.Test.YthkbhaaodegocaaRegX
namespace Go.Proofs.Ythkbhaaodegocaa
open Go.RowKit
set_option linter.unusedVariables false
set_option linter.unusedSimpArgs false
/-- A new block: the operation that makes it, the one that stores into it, the slot that holds it, its type, its cells before and behind the store. -/
structure Bx where
  ai : Nat
  si : Nat
  d : Nat
  T : TypeId
  Z : Array Value
  U : Array Value
@[reducible] def ptr0 (g : Nat) : Value := .pointer (some ⟨g, 0, none⟩)
def readsOk (l : List Oper) (bs : List Bx) (o : Oper) (but : Option Nat) : Bool := (readsOf o).all fun t => (some t == but) || ((bs.all fun b => !(b.d == t)) && (List.range l.length).all fun j => match l[j]? with
  | none => true
  | some oj => !(oj.dst == some t) || bindsTo o j)
def boxesChk (l : List Oper) (bs : List Bx) (N : Nat) : Bool :=
  ((List.range l.length).all fun i => match l[i]? with
    | none => true
    | some o => notSelect o && (o.after.all fun e => !Region.binds .any e || e.on < i) &&
      ((bs.any fun b => b.ai == i || b.si == i) || ((match o.guard with | none => true | some (k, _) => bindsTo o k && (bs.all fun b => !(b.ai == k) && !(b.si == k))) && (match o.dst with | some t => decide (t < N) && (bs.all fun b => !(b.d == t)) | none => false) && readsOk l bs o none))) &&
  (bs.all fun b => decide (b.d < N) && (match l[b.ai]? with | some o => o.dst == some b.d && o.guard.isNone && (readsOf o).isEmpty | none => false) &&
    (match l[b.si]? with | some o => o.dst.isNone && o.guard.isNone && bindsTo o b.ai && readsOk l bs o (some b.d) | none => false) &&
    (bs.all fun c => (b.d == c.d) == (b.ai == c.ai) && ((b.d == c.d) == (b.si == c.si)) && !(b.ai == c.si)))
theorem readsOk_at {l : List Oper} {bs : List Bx} {o : Oper} {but : Option Nat} (h : readsOk l bs o but = true) {t : Nat} (ht : t ∈ readsOf o) (hb : some t ≠ but) :
    (∀ b ∈ bs, b.d ≠ t) ∧ ∀ j oj, l[j]? = some oj → oj.dst = some t → bindsTo o j = true := by
  have h1 := List.all_eq_true.1 h t ht
  rw [Bool.or_eq_true] at h1
  rcases h1 with h1 | h1
  · exact (hb (by simpa using h1)).elim
  · rw [Bool.and_eq_true] at h1
    refine ⟨fun b hb => by have := List.all_eq_true.1 h1.1 b hb; simpa using this, fun j oj hj hjd => ?_⟩
    have hjl : j < l.length := (List.getElem?_eq_some_iff.1 hj).1
    have := List.all_eq_true.1 h1.2 j (List.mem_range.2 hjl)
    simpa [hj, hjd] using this
theorem boxesChk_any {l : List Oper} {bs : List Bx} {N : Nat} (h : boxesChk l bs N = true) {i : Nat} {o : Oper} (hi : l[i]? = some o) :
    (∀ cs b, o.op ≠ .select cs b) ∧ (∀ e ∈ o.after, Region.binds .any e = true → e.on < i) ∧
    ((∃ b ∈ bs, b.ai = i) ∨ (∃ b ∈ bs, b.si = i) ∨ ((∀ b ∈ bs, b.ai ≠ i ∧ b.si ≠ i) ∧ (∀ k b, o.guard = some (k, b) → bindsTo o k = true ∧ ∀ b ∈ bs, b.ai ≠ k ∧ b.si ≠ k) ∧ (∃ t, o.dst = some t ∧ t < N ∧ ∀ b ∈ bs, b.d ≠ t) ∧ readsOk l bs o none = true)) := by
  unfold boxesChk at h
  rw [Bool.and_eq_true] at h
  have hlt : i < l.length := (List.getElem?_eq_some_iff.1 hi).1
  have h1 := List.all_eq_true.1 h.1 i (List.mem_range.2 hlt)
  simp only [hi, Bool.and_eq_true] at h1
  obtain ⟨⟨hns, haf⟩, hk⟩ := h1
  refine ⟨?_, ?_, ?_⟩
  · intro cs b e; rw [notSelect, e] at hns; cases hns
  · intro e he hb
    have := (Array.all_eq_true_iff_forall_mem.1 haf) e he
    simpa [hb] using this
  · by_cases ha : ∃ b ∈ bs, b.ai = i
    · exact .inl ha
    · by_cases hs : ∃ b ∈ bs, b.si = i
      · exact .inr (.inl hs)
      · refine .inr (.inr ?_)
        rw [Bool.or_eq_true] at hk
        rcases hk with hk | hk
        · exfalso
          obtain ⟨b, hb, h2⟩ := List.any_eq_true.1 hk
          rw [Bool.or_eq_true] at h2
          rcases h2 with h2 | h2
          · exact ha ⟨b, hb, by simpa using h2⟩
          · exact hs ⟨b, hb, by simpa using h2⟩
        · simp only [Bool.and_eq_true] at hk
          obtain ⟨⟨hg, hd⟩, hr⟩ := hk
          refine ⟨fun b hb => ⟨fun e => ha ⟨b, hb, e⟩, fun e => hs ⟨b, hb, e⟩⟩, ?_, ?_, hr⟩
          · intro k b e
            rw [e] at hg
            simp only [Bool.and_eq_true] at hg
            exact ⟨hg.1, fun c hc => by have := List.all_eq_true.1 hg.2 c hc; simpa using this⟩
          · cases hdd : o.dst with
            | none => rw [hdd] at hd; cases hd
            | some t =>
              rw [hdd] at hd
              simp only [Bool.and_eq_true, decide_eq_true_eq] at hd
              exact ⟨t, rfl, hd.1, fun c hc => by have := List.all_eq_true.1 hd.2 c hc; simpa using this⟩
theorem boxesChk_box {l : List Oper} {bs : List Bx} {N : Nat} (h : boxesChk l bs N = true) {b : Bx} (hb : b ∈ bs) :
    b.d < N ∧ (∃ o, l[b.ai]? = some o ∧ o.dst = some b.d ∧ o.guard = none ∧ readsOf o = []) ∧ (∃ o, l[b.si]? = some o ∧ o.dst = none ∧ o.guard = none ∧ bindsTo o b.ai = true ∧ readsOk l bs o (some b.d) = true) ∧
    (∀ c ∈ bs, (b.d = c.d ↔ b.ai = c.ai) ∧ (b.d = c.d ↔ b.si = c.si) ∧ b.ai ≠ c.si) := by
  unfold boxesChk at h
  rw [Bool.and_eq_true] at h
  have h1 := List.all_eq_true.1 h.2 b hb
  simp only [Bool.and_eq_true, decide_eq_true_eq] at h1
  obtain ⟨⟨⟨hd, hA⟩, hS⟩, hP⟩ := h1
  refine ⟨hd, ?_, ?_, ?_⟩
  · cases ho : l[b.ai]? with
    | none => rw [ho] at hA; cases hA
    | some o =>
      rw [ho] at hA
      simp only [Bool.and_eq_true, beq_iff_eq, Option.isNone_iff_eq_none, List.isEmpty_iff] at hA
      exact ⟨o, rfl, hA.1.1, hA.1.2, hA.2⟩
  · cases ho : l[b.si]? with
    | none => rw [ho] at hS; cases hS
    | some o =>
      rw [ho] at hS
      simp only [Bool.and_eq_true, Option.isNone_iff_eq_none] at hS
      exact ⟨o, rfl, hS.1.1.1, hS.1.1.2, hS.1.2, hS.2⟩
  · intro c hc
    have := List.all_eq_true.1 hP c hc
    simp only [Bool.and_eq_true, beq_iff_eq, Bool.not_eq_true', beq_eq_false_iff_ne] at this
    obtain ⟨⟨h2, h3⟩, h4⟩ := this
    refine ⟨?_, ?_, h4⟩
    · by_cases e : b.d = c.d
      · simp [e] at h2; exact ⟨fun _ => h2, fun _ => e⟩
      · have : (b.d == c.d) = false := by simpa using e
        rw [this] at h2
        exact ⟨fun h => (e h).elim, fun h => by rw [h] at h2; simp at h2⟩
    · by_cases e : b.d = c.d
      · simp [e] at h3; exact ⟨fun _ => h3, fun _ => e⟩
      · have : (b.d == c.d) = false := by simpa using e
        rw [this] at h3
        exact ⟨fun h => (e h).elim, fun h => by rw [h] at h3; simp at h3⟩
theorem below_setRowY {B g : Nat} {w W : World} (h : Below B w W) (hg : B ≤ g) (cs : Array Value) : Below B w (W.setRow g cs) :=
  ⟨h.os, h.tape, h.output, by simpa [World.setRow] using h.size, fun k hk => (setRow_other W g k cs (by omega)).trans (h.block k hk)⟩
structure RInvY (l : List Oper) (bs : List Bx) (a0 aE : Act) (w0 : World) (listed : Array Bool) (a : Act) (w : World) : Prop where
  df : a.defers = aE.defers
  sz : a.tmps.size = aE.tmps.size
  len : listed.size = l.length
  fr1 : ∀ (j : Nat) (o : Oper) (t : Nat), l[j]? = some o → o.dst = some t → (∀ b ∈ bs, b.d ≠ t) → listed.getD j false = true → a.tmps.getD t undef = aE.tmps.getD t undef
  fr0 : ∀ t : Nat, (∀ b ∈ bs, b.d ≠ t) → (∀ (j : Nat) (o : Oper), l[j]? = some o → o.dst = some t → listed.getD j false = false) → a.tmps.getD t undef = a0.tmps.getD t undef
  bl : Below w0.heap.size w0 w
  box : ∃ g : Nat → Nat, (∀ b ∈ bs, listed.getD b.ai false = true → a.tmps.getD b.d undef = ptr0 (g b.d) ∧ w0.heap.size ≤ g b.d ∧ w.heap[g b.d]? = some (.cells (if listed.getD b.si false = true then b.U else b.Z) b.T (0, 0))) ∧
    (∀ b ∈ bs, ∀ c ∈ bs, listed.getD b.ai false = true → listed.getD c.ai false = true → b.d ≠ c.d → g b.d ≠ g c.d)
  ord : ∀ b ∈ bs, listed.getD b.si false = true → listed.getD b.ai false = true
section
variable {P : Program} {Q : Exit → Act → World → Prop} {l : List Oper} {a0 : Act} {w : World} {vs : List (Nat × Value)} {bs : List Bx}
set_option maxHeartbeats 1000000 in
theorem wp_region_boxes {id : Nat} (hm : P.follows .mixedOrders = true)
    (chk : boxesChk l bs a0.tmps.size = true) (hkeys : vs.all (fun kv => (l.any (·.dst == some kv.1)) && (bs.all fun b => !(b.d == kv.1))) = true)
    (hal : ∀ b ∈ bs, ∀ o, l[b.ai]? = some o → ∀ (ρ : Operand → Value) (W : World), (execOp ρ o).run P W = .ok (.value (ptr0 W.heap.size)) (W.alloc (.cells b.Z b.T)))
    (hst : ∀ b ∈ bs, ∀ o, l[b.si]? = some o → ∀ (ρ : Operand → Value) (W : World) (g : Nat), (∀ t ∈ readsOf o, t ≠ b.d → ρ (.tmp t) = (puts a0 vs).tmps.getD t undef) → ρ (.tmp b.d) = ptr0 g → W.heap[g]? = some (.cells b.Z b.T (0, 0)) → (execOp ρ o).run P W = .ok .skip (W.setRow g b.U))
    (hop : ∀ (i : Nat) (o : Oper) (t : Nat), l[i]? = some o → (∀ b ∈ bs, b.ai ≠ i ∧ b.si ≠ i) → o.dst = some t → (Region.wanted o (yielded l.toArray (puts a0 vs).tmps) = true ∧ ∀ W, Below w.heap.size w W → calmAt P o (puts a0 vs).eval W ((puts a0 vs).tmps.getD t undef)) ∨ (Region.wanted o (yielded l.toArray (puts a0 vs).tmps) = false ∧ (puts a0 vs).tmps.getD t undef = undef))
    (hQ : ∀ (g : Nat → Nat) (W : World), Below w.heap.size w W → (∀ b ∈ bs, w.heap.size ≤ g b.d ∧ W.heap[g b.d]? = some (.cells b.U b.T (0, 0))) → (∀ b ∈ bs, ∀ c ∈ bs, b.d ≠ c.d → g b.d ≠ g c.d) →
      Q .normal (puts (puts a0 vs) ((bs.map (·.d)).map fun t => (t, ptr0 (g t)))) W) :
    (Code.region id l.toArray true).wp P Q a0 w := by
  have hE : ∀ t, ((∀ (j : Nat) (o : Oper), l[j]? = some o → o.dst ≠ some t) ∨ (∃ b ∈ bs, b.d = t)) → a0.tmps.getD t undef = (puts a0 vs).tmps.getD t undef := by
    intro t hno
    refine (puts_other t vs a0 (fun kv hkv e => ?_)).symm
    have := List.all_eq_true.1 hkeys kv hkv
    rw [Bool.and_eq_true] at this
    rcases hno with hno | ⟨b, hb, hbd⟩
    · obtain ⟨o, ho, hod⟩ := List.any_eq_true.1 this.1
      obtain ⟨j, hj⟩ := List.getElem?_of_mem ho
      exact hno j o hj (by rw [← e]; simpa using hod)
    · have h2 := List.all_eq_true.1 this.2 b hb
      rw [e, hbd] at h2; simp at h2
  have hEs : (puts a0 vs).tmps.size = a0.tmps.size := puts_size _ _
  have hEd : (puts a0 vs).defers = a0.defers := puts_defers _ _
  generalize puts a0 vs = aE at *
  refine wp_region_any hm ?_
  have key : ∀ (fuel : Nat) (listed : Array Bool) (a : Act) (W : World), RInvY l bs a0 aE w listed a W →
      (List.range l.length).countP (fun i => !listed.getD i true) ≤ fuel → wpAny P .any l.toArray Q fuel listed a W := by
    intro fuel
    have fin : ∀ (listed : Array Bool) (a : Act) (W : World), RInvY l bs a0 aE w listed a W → Region.ready .any l.toArray listed = [] → Q .normal a W := by
      intro listed a W hI hr
      have hall : ∀ i, i < l.length → listed.getD i false = true := by
        intro i
        induction i using Nat.strongRecOn with
        | _ i ih2 =>
          intro hi
          cases hb : listed.getD i false with
          | true => rfl
          | false =>
            exfalso
            have ho : l[i]? = some l[i] := List.getElem?_eq_getElem hi
            have hmem : i ∈ Region.ready .any l.toArray listed := by
              rw [mem_ready]
              refine ⟨?_, l[i], by simp, fun e he hbd => ?_⟩
              · have : i < listed.size := by have := hI.len; omega
                simp [this] at hb ⊢; exact hb
              · exact ih2 e.on ((boxesChk_any chk ho).2.1 e he hbd) (by have := (boxesChk_any chk ho).2.1 e he hbd; omega)
            rw [hr] at hmem; cases hmem
      obtain ⟨g, hg1, hg2⟩ := hI.box
      have lai : ∀ b ∈ bs, listed.getD b.ai false = true := fun b hb => by obtain ⟨_, ⟨o, ho, _⟩, _⟩ := boxesChk_box chk hb; exact hall _ (List.getElem?_eq_some_iff.1 ho).1
      have lsi : ∀ b ∈ bs, listed.getD b.si false = true := fun b hb => by obtain ⟨_, _, ⟨o, ho, _⟩, _⟩ := boxesChk_box chk hb; exact hall _ (List.getElem?_eq_some_iff.1 ho).1
      have ea : a = puts aE ((bs.map (·.d)).map fun t => (t, ptr0 (g t))) := by
        refine act_ext _ _ (by rw [puts_defers]; exact hI.df) (by rw [puts_size]; exact hI.sz) (fun t ht => ?_)
        by_cases hb : ∃ b ∈ bs, b.d = t
        · obtain ⟨b, hb, rfl⟩ := hb
          rw [puts_vals (fun t => ptr0 (g t)) b.d _ aE (List.mem_map.2 ⟨b, hb, rfl⟩) (by rw [← hI.sz]; exact ht)]
          exact (hg1 b hb (lai b hb)).1
        · have hnb : ∀ b ∈ bs, b.d ≠ t := fun b h e => hb ⟨b, h, e⟩
          rw [puts_other t _ _ (fun kv hkv e => by obtain ⟨x, hx, rfl⟩ := List.mem_map.1 hkv; obtain ⟨b, hbb, rfl⟩ := List.mem_map.1 hx; exact hnb b hbb e)]
          by_cases hw : ∃ (j : Nat) (o : Oper), l[j]? = some o ∧ o.dst = some t
          · obtain ⟨j, o, hj, ho⟩ := hw
            exact hI.fr1 j o t hj ho hnb (hall j (List.getElem?_eq_some_iff.1 hj).1)
          · rw [hI.fr0 t hnb (fun j o hj ho => (hw ⟨j, o, hj, ho⟩).elim)]
            exact hE t (.inl (fun j o hj ho => hw ⟨j, o, hj, ho⟩))
      rw [ea]
      refine hQ g W hI.bl (fun b hb => ⟨(hg1 b hb (lai b hb)).2.1, ?_⟩) (fun b hb c hc h => hg2 b hb c hc (lai b hb) (lai c hc) h)
      have := (hg1 b hb (lai b hb)).2.2
      rwa [if_pos (lsi b hb)] at this
    have look : ∀ (listed : Array Bool) (a : Act) (W : World), RInvY l bs a0 aE w listed a W → ∀ (i : Nat) (o : Oper), l[i]? = some o →
        (∀ e ∈ o.after, Region.binds .any e = true → listed.getD e.on false = true) → ∀ (but : Option Nat), readsOk l bs o but = true → ∀ t ∈ readsOf o, some t ≠ but → a.tmps.getD t undef = aE.tmps.getD t undef := by
      intro listed a W hI i o hi hall but hro t ht htb
      obtain ⟨hnb, h⟩ := readsOk_at hro ht htb
      by_cases hw : ∃ (j : Nat) (oj : Oper), l[j]? = some oj ∧ oj.dst = some t
      · obtain ⟨j, oj, hj, hjd⟩ := hw
        obtain ⟨e, he, hb, hon⟩ := bindsTo_spec (h j oj hj hjd)
        exact hI.fr1 j oj t hj hjd hnb (by rw [← hon]; exact hall e he hb)
      · rw [hI.fr0 t hnb (fun j oj hj ho => (hw ⟨j, oj, hj, ho⟩).elim)]
        exact hE t (.inl (fun j oj hj ho => hw ⟨j, oj, hj, ho⟩))
    induction fuel with
    | zero =>
      intro listed a W hI hc
      have hr : Region.ready .any l.toArray listed = [] := by
        rw [List.eq_nil_iff_forall_not_mem]
        intro i hi
        obtain ⟨h0, o, ho, _⟩ := mem_ready.1 hi
        have hil : i < l.length := by simpa using (Array.getElem?_eq_some_iff.1 ho).1
        have : 0 < (List.range l.length).countP (fun i => !listed.getD i true) := List.countP_pos_iff.2 ⟨i, List.mem_range.2 hil, by rw [h0]; rfl⟩
        omega
      exact ⟨hr, fin listed a W hI hr⟩
    | succ fuel ih =>
      intro listed a W hI hc
      refine ⟨fin listed a W hI, fun i hi => ?_⟩
      obtain ⟨h0, o, ho, hall⟩ := mem_ready.1 hi
      have hio : l[i]? = some o := by simpa using ho
      have hil : i < l.length := (List.getElem?_eq_some_iff.1 hio).1
      have hil' : i < listed.size := by rw [hI.len]; exact hil
      have hi0 : listed.getD i false = false := by simpa [hil'] using h0
      obtain ⟨hns, haf, hcase⟩ := boxesChk_any chk hio
      have hcnt : (List.range l.length).countP (fun j => !(listed.setIfInBounds i true).getD j true) ≤ fuel := by
        have := count_lt (fun j => !listed.getD j true) (fun j => !(listed.setIfInBounds i true).getD j true) (fun j hj => by
            by_cases e : i = j
            · subst e; simp [hil'] at hj
            · rw [getD_set_ne true e] at hj; exact hj) i (by rw [h0]; rfl) (by simp [hil']) (List.range l.length) (List.mem_range.2 hil)
        omega
      obtain ⟨g, hg1, hg2⟩ := hI.box
      rcases hcase with ⟨b, hb, hbi⟩ | ⟨b, hb, hbi⟩ | ⟨hne, hgd, ⟨t, hdst, htN, htb⟩, hro⟩
      · -- a new block
        subst hbi
        obtain ⟨hdN, ⟨o', ho', hod, hog, hord⟩, _, hdis⟩ := boxesChk_box chk hb
        rw [hio] at ho'; obtain rfl := Option.some.inj ho'
        have hrun := hal b hb o hio a.eval W
        have hw : Region.wanted o (yielded l.toArray a.tmps) = true := by unfold Region.wanted; rw [hog]
        unfold wpOp
        simp only [ho, hw, if_true]
        refine .inl ?_
        unfold Oper.wp
        rw [hrun]
        simp only [Oper.upon, hod]
        have hsi0 : listed.getD b.si false = false := by
          cases h : listed.getD b.si false with
          | false => rfl
          | true => rw [hI.ord b hb h] at hi0; cases hi0
        have lt_of : ∀ c ∈ bs, listed.getD c.ai false = true → g c.d < W.heap.size := fun c hc hl => (Array.getElem?_eq_some_iff.1 (hg1 c hc hl).2.2).1
        refine ih _ _ _ ⟨by rw [put_defers]; exact hI.df, by rw [put_size]; exact hI.sz, by simpa using hI.len, ?_, ?_, bal hI.bl _, ⟨fun t => if t = b.d then W.heap.size else g t, ?_, ?_⟩, ?_⟩ hcnt
        · intro j oj u hj hjd hud hl
          rw [put_get_ne _ _ _ _ (hud b hb)]
          rw [getD_set _ _ _ hil'] at hl
          by_cases e : b.ai = j
          · subst e; rw [hio] at hj; obtain rfl := Option.some.inj hj; rw [hod] at hjd; exact (hud b hb (Option.some.inj hjd)).elim
          · rw [if_neg e] at hl; exact hI.fr1 j oj u hj hjd hud hl
        · intro u hud hnu
          rw [put_get_ne _ _ _ _ (hud b hb)]
          refine hI.fr0 u hud (fun j oj hj hjd => ?_)
          have := hnu j oj hj hjd
          rw [getD_set _ _ _ hil'] at this
          by_cases e : b.ai = j
          · rw [if_pos e] at this; cases this
          · rw [if_neg e] at this; exact this
        · intro c hc hl
          have hbc := hdis c hc
          rw [getD_set _ _ _ hil'] at hl
          rw [getD_set _ _ _ hil', if_neg hbc.2.2]
          by_cases e : c.d = b.d
          · have hcs : b.si = c.si := (hbc.2.1).1 e.symm
            simp only [e, if_true]
            refine ⟨put_get_same _ _ _ (by rw [hI.sz, hEs]; exact hdN), hI.bl.size, ?_⟩
            rw [← hcs, hsi0]
            simp only [Bool.false_eq_true, if_false]
            have hcb : c.T = b.T ∧ c.Z = b.Z := by
              have h1 := hal c hc o (by rw [← (hbc.1).1 e.symm]; exact hio) a.eval W
              rw [hrun] at h1
              simp only [Result.ok.injEq, true_and] at h1
              have h2 : (W.alloc (.cells b.Z b.T)).heap[W.heap.size]? = (W.alloc (.cells c.Z c.T)).heap[W.heap.size]? := by rw [h1]
              rw [heap_alloc_new, heap_alloc_new] at h2
              simp only [Option.some.injEq, Obj.cells.injEq] at h2
              exact ⟨h2.2.1.symm, h2.1.symm⟩
            rw [hcb.1, hcb.2]
            exact heap_alloc_new _ _
          · have hai : b.ai ≠ c.ai := fun h => e ((hbc.1).2 h).symm
            rw [if_neg hai] at hl
            simp only [if_neg e]
            obtain ⟨h1, h2, h3⟩ := hg1 c hc hl
            exact ⟨by rw [put_get_ne _ _ _ _ (Ne.symm e)]; exact h1, h2, by rw [heap_alloc_old _ _ (lt_of c hc hl)]; exact h3⟩
        · intro c hc c' hc' hl hl' hne
          have hbc := hdis c hc
          have hbc' := hdis c' hc'
          rw [getD_set _ _ _ hil'] at hl hl'
          by_cases e : c.d = b.d
          · have e' : c'.d ≠ b.d := fun h => hne (e.trans h.symm)
            simp only [if_pos e, if_neg e']
            rw [if_neg (fun h => e' ((hbc'.1).2 h).symm)] at hl'
            have := lt_of c' hc' hl'
            omega
          · simp only [if_neg e]
            rw [if_neg (fun h => e ((hbc.1).2 h).symm)] at hl
            by_cases e' : c'.d = b.d
            · simp only [if_pos e']
              have := lt_of c hc hl
              omega
            · simp only [if_neg e']
              rw [if_neg (fun h => e' ((hbc'.1).2 h).symm)] at hl'
              exact hg2 c hc c' hc' hl hl' hne
        · intro c hc hl
          have hbc := hdis c hc
          rw [getD_set _ _ _ hil', if_neg hbc.2.2] at hl
          rw [getD_set _ _ _ hil']
          split
          · rfl
          · exact hI.ord c hc hl
      · -- a store
        subst hbi
        obtain ⟨hdN, hA, ⟨o', ho', hod, hog, hba, hro⟩, hdis⟩ := boxesChk_box chk hb
        rw [hio] at ho'; obtain rfl := Option.some.inj ho'
        have hla : listed.getD b.ai false = true := by obtain ⟨e, he, hbb, hon⟩ := bindsTo_spec hba; rw [← hon]; exact hall e he hbb
        obtain ⟨p1, p2, p3⟩ := hg1 b hb hla
        rw [hi0] at p3
        simp only [Bool.false_eq_true, if_false] at p3
        have hrun := hst b hb o hio a.eval W (g b.d) (fun t ht hne => look listed a W hI b.si o hio hall _ hro t ht (fun e => hne (Option.some.inj e))) p1 p3
        have hw : Region.wanted o (yielded l.toArray a.tmps) = true := by unfold Region.wanted; rw [hog]
        unfold wpOp
        simp only [ho, hw, if_true]
        refine .inl ?_
        unfold Oper.wp
        rw [hrun]
        simp only [Oper.upon, hod]
        have hp : a.put none undef = a := rfl
        rw [hp]
        refine ih _ _ _ ⟨hI.df, hI.sz, by simpa using hI.len, ?_, ?_, below_setRowY hI.bl p2 _, ⟨g, ?_, ?_⟩, ?_⟩ hcnt
        · intro j oj u hj hjd hud hl
          rw [getD_set _ _ _ hil'] at hl
          by_cases e : b.si = j
          · subst e; rw [hio] at hj; obtain rfl := Option.some.inj hj; rw [hod] at hjd; cases hjd
          · rw [if_neg e] at hl; exact hI.fr1 j oj u hj hjd hud hl
        · intro u hud hnu
          refine hI.fr0 u hud (fun j oj hj hjd => ?_)
          have := hnu j oj hj hjd
          rw [getD_set _ _ _ hil'] at this
          by_cases e : b.si = j
          · rw [if_pos e] at this; cases this
          · rw [if_neg e] at this; exact this
        · intro c hc hl
          obtain ⟨_, _, _, hdisc⟩ := boxesChk_box chk hc
          have hcb := hdisc b hb
          rw [getD_set _ _ _ hil', if_neg (Ne.symm hcb.2.2)] at hl
          rw [getD_set _ _ _ hil']
          obtain ⟨h1, h2, h3⟩ := hg1 c hc hl
          by_cases e : c.d = b.d
          · have hsi : b.si = c.si := ((hcb.2.1).1 e).symm
            rw [if_pos hsi]
            simp only [if_true]
            have hcc : c.T = b.T ∧ c.U = b.U := by
              have e1 := hst c hc o (by rw [← hsi]; exact hio) a.eval W (g b.d) (fun t ht hne => look listed a W hI b.si o hio hall _ hro t ht (fun h => hne (by rw [e]; exact Option.some.inj h))) (by rw [e]; exact p1) (by
                have h3' := h3
                rw [e, ← hsi, hi0] at h3'
                simpa using h3')
              have hT : c.T = b.T := by
                have h3' := h3
                rw [e, p3] at h3'
                simp only [Option.some.injEq, Obj.cells.injEq] at h3'
                exact h3'.2.1.symm
              refine ⟨hT, ?_⟩
              rw [hrun] at e1
              simp only [Result.ok.injEq, true_and] at e1
              have h4 : (W.setRow (g b.d) b.U).heap[g b.d]? = (W.setRow (g b.d) c.U).heap[g b.d]? := by rw [e1]
              rw [setRow_heap _ _ _ _ _ _ p3, setRow_heap _ _ _ _ _ _ p3] at h4
              simp only [Option.some.injEq, Obj.cells.injEq] at h4
              exact h4.1.symm
            rw [e] at h1 h2 ⊢
            exact ⟨h1, h2, by rw [hcc.1, hcc.2]; exact setRow_heap _ _ _ _ _ _ p3⟩
          · have hsi : b.si ≠ c.si := fun h => e ((hcb.2.1).2 h.symm)
            rw [if_neg hsi]
            exact ⟨h1, h2, by rw [setRow_other _ _ _ _ (hg2 c hc b hb hl hla e)]; exact h3⟩
        · intro c hc c' hc' hl hl' hne
          obtain ⟨_, _, _, hdisc⟩ := boxesChk_box chk hc
          obtain ⟨_, _, _, hdisc'⟩ := boxesChk_box chk hc'
          rw [getD_set _ _ _ hil', if_neg (Ne.symm (hdisc b hb).2.2)] at hl
          rw [getD_set _ _ _ hil', if_neg (Ne.symm (hdisc' b hb).2.2)] at hl'
          exact hg2 c hc c' hc' hl hl' hne
        · intro c hc hl
          obtain ⟨_, _, _, hdisc⟩ := boxesChk_box chk hc
          rw [getD_set _ _ _ hil', if_neg (Ne.symm (hdisc b hb).2.2)]
          rw [getD_set _ _ _ hil'] at hl
          by_cases e : b.si = c.si
          · have : c.d = b.d := ((hdisc b hb).2.1).2 e.symm
            have hai : c.ai = b.ai := ((hdisc b hb).1).1 this
            rw [hai]; exact hla
          · rw [if_neg e] at hl; exact hI.ord c hc hl
      · -- a value
        have hwe : Region.wanted o (yielded l.toArray a.tmps) = Region.wanted o (yielded l.toArray aE.tmps) := by
          unfold Region.wanted
          cases hg : o.guard with
          | none => rfl
          | some kb =>
            obtain ⟨k, b⟩ := kb
            obtain ⟨hbk, hnk⟩ := hgd k b hg
            obtain ⟨e, he, hb, hon⟩ := bindsTo_spec hbk
            have : yielded l.toArray a.tmps k = yielded l.toArray aE.tmps k := yielded_congr hI.sz (fun ok tk hk hd => hI.fr1 k ok tk (by simpa using hk) hd (by
              obtain ⟨_, _, hcase2⟩ := boxesChk_any chk (show l[k]? = some ok by simpa using hk)
              rcases hcase2 with ⟨b2, hb2, h2⟩ | ⟨b2, hb2, h2⟩ | ⟨_, _, ⟨t2, hd2, _, htb2⟩, _⟩
              · exact ((hnk b2 hb2).1 h2).elim
              · exact ((hnk b2 hb2).2 h2).elim
              · rw [hd] at hd2; obtain rfl := Option.some.inj hd2; exact htb2) (by rw [← hon]; exact hall e he hb))
            simp only [this]
        have step : ∀ W', Below w.heap.size w W' → Below W.heap.size W W' → wpAny P .any l.toArray Q fuel (listed.setIfInBounds i true) (a.put (some t) (aE.tmps.getD t undef)) W' := by
          intro W' hW' hWW
          refine ih _ _ _ ⟨by rw [put_defers]; exact hI.df, by rw [put_size]; exact hI.sz, by simpa using hI.len, ?_, ?_, hW', ⟨g, ?_, ?_⟩, ?_⟩ hcnt
          · intro j oj u hj hjd hud hl
            by_cases htu : t = u
            · subst htu; rw [put_get_same _ _ _ (by rw [hI.sz, hEs]; exact htN)]
            · rw [put_get_ne _ _ _ _ htu]
              rw [getD_set _ _ _ hil'] at hl
              by_cases e : i = j
              · subst e; rw [hio] at hj; obtain rfl := Option.some.inj hj; rw [hdst] at hjd; exact (htu (Option.some.inj hjd)).elim
              · rw [if_neg e] at hl; exact hI.fr1 j oj u hj hjd hud hl
          · intro u hud hno
            have htu : t ≠ u := fun e => by
              subst e
              have := hno i o hio hdst
              rw [getD_set _ _ _ hil', if_pos rfl] at this; cases this
            rw [put_get_ne _ _ _ _ htu]
            refine hI.fr0 u hud (fun j oj hj hjd => ?_)
            have := hno j oj hj hjd
            rw [getD_set _ _ _ hil'] at this
            by_cases e : i = j
            · rw [if_pos e] at this; cases this
            · rw [if_neg e] at this; exact this
          · intro c hc hl
            rw [getD_set _ _ _ hil', if_neg (Ne.symm (hne c hc).1)] at hl
            rw [getD_set _ _ _ hil', if_neg (Ne.symm (hne c hc).2)]
            obtain ⟨h1, h2, h3⟩ := hg1 c hc hl
            exact ⟨by rw [put_get_ne _ _ _ _ (Ne.symm (htb c hc))]; exact h1, h2, by rw [hWW.block _ (Array.getElem?_eq_some_iff.1 h3).1]; exact h3⟩
          · intro c hc c' hc' hl hl' hd
            rw [getD_set _ _ _ hil', if_neg (Ne.symm (hne c hc).1)] at hl
            rw [getD_set _ _ _ hil', if_neg (Ne.symm (hne c' hc').1)] at hl'
            exact hg2 c hc c' hc' hl hl' hd
          · intro c hc hl
            rw [getD_set _ _ _ hil', if_neg (Ne.symm (hne c hc).2)] at hl
            rw [getD_set _ _ _ hil', if_neg (Ne.symm (hne c hc).1)]
            exact hI.ord c hc hl
        unfold wpOp
        simp only [ho]
        rcases hop i o t hio hne hdst with ⟨hw, hcalm⟩ | ⟨hw, hun⟩
        · rw [hwe, hw]
          simp only [if_true]
          refine .inl ?_
          have heq : execOp aE.eval o = execOp a.eval o := execOp_congr o hns (fun x hx => by
              cases x with
              | tmp u =>
                have hu : u ∈ readsOf o := List.mem_filterMap.2 ⟨.tmp u, by simpa using hx, rfl⟩
                exact (look listed a W hI i o hio hall none hro u hu (fun e => by cases e)).symm
              | _ => rfl)
          have hcalm' : calmAt P o a.eval W (aE.tmps.getD t undef) := by
              refine ⟨?_⟩; have hh := (hcalm W hI.bl).out; unfold calmRun at hh ⊢; rw [← heq]; exact hh
          refine wp_of_calm hcalm' (fun W' hb => ?_)
          rw [hdst]
          exact step W' (below_tr' hI.bl hb) hb
        · rw [hwe, hw]
          simp only [Bool.false_eq_true, if_false, hdst]
          rw [hun] at step
          exact step W hI.bl (Below.refl _ _)
  refine key _ _ _ _ ⟨by rw [hEd], hEs.symm, by simp, ?_, ?_, ⟨rfl, rfl, rfl, Nat.le_refl _, fun _ _ => rfl⟩, ⟨fun _ => 0, (fun b _ h => by rw [rep_false] at h; cases h), (fun b _ c _ h => by rw [rep_false] at h; cases h)⟩, (fun b _ h => by rw [rep_false] at h; cases h)⟩ ?_
  · intro j o t hj hjd _ hl; rw [rep_false] at hl; cases hl
  · intro t _ _; rfl
  · exact Nat.le_trans List.countP_le_length (by simp)
/-- What the law asks of the operations that are in no list of blocks: by their place. -/
def AllEx (p : Oper → Prop) (ex : Nat → Bool) : Nat → List Oper → Prop
  | _, [] => True
  | i, o :: r => (ex i = true ∨ p o) ∧ AllEx p ex (i + 1) r
theorem AllEx.spec {p : Oper → Prop} {ex : Nat → Bool} : ∀ (l : List Oper) (n i : Nat) (o : Oper), AllEx p ex n l → l[i]? = some o → ex (n + i) = false → p o
  | [], _, _, _, _, h, _ => by cases h
  | x :: r, n, 0, o, h, hi, he => by
    simp only [List.getElem?_cons_zero, Option.some.injEq] at hi
    subst hi
    rcases h.1 with h1 | h1
    · rw [Nat.add_zero] at he; rw [h1] at he; cases he
    · exact h1
  | x :: r, n, i + 1, o, h, hi, he => by
    rw [List.getElem?_cons_succ] at hi
    exact AllEx.spec r (n + 1) i o h.2 hi (by rw [show n + 1 + i = n + (i + 1) by omega]; exact he)
def AllB (p : Bx → Prop) : List Bx → Prop
  | [] => True
  | b :: r => p b ∧ AllB p r
theorem AllB.spec {p : Bx → Prop} : ∀ (bs : List Bx), AllB p bs → ∀ b ∈ bs, p b
  | [], _, _, h => by cases h
  | x :: r, h, b, hb => by
    rcases List.mem_cons.1 hb with e | e
    · rw [e]; exact h.1
    · exact AllB.spec r h.2 b e
/-- One new block: what its two operations do. -/
structure BoxOk (P : Program) (l : List Oper) (aE : Act) (b : Bx) : Prop where
  al : ∀ o, l[b.ai]? = some o → ∀ (ρ : Operand → Value) (W : World), (execOp ρ o).run P W = .ok (.value (ptr0 W.heap.size)) (W.alloc (.cells b.Z b.T))
  st : ∀ o, l[b.si]? = some o → ∀ (ρ : Operand → Value) (W : World) (g : Nat), (∀ t ∈ readsOf o, t ≠ b.d → ρ (.tmp t) = aE.tmps.getD t undef) → ρ (.tmp b.d) = ptr0 g → W.heap[g]? = some (.cells b.Z b.T (0, 0)) → (execOp ρ o).run P W = .ok .skip (W.setRow g b.U)
theorem region_boxes {id : Nat} (bs : List Bx) (vs : List (Nat × Value)) (hm : P.follows .mixedOrders = true)
    (chk : boxesChk l bs a0.tmps.size = true) (hkeys : vs.all (fun kv => (l.any (·.dst == some kv.1)) && (bs.all fun b => !(b.d == kv.1))) = true)
    (H : ∀ aE, puts a0 vs = aE → AllB (BoxOk P l aE) bs ∧ AllEx (CalmG P aE w l) (fun i => bs.any fun b => b.ai == i || b.si == i) 0 l ∧
      ∀ (g : Nat → Nat) (W : World), Below w.heap.size w W → (∀ b ∈ bs, w.heap.size ≤ g b.d ∧ W.heap[g b.d]? = some (.cells b.U b.T (0, 0))) → (∀ b ∈ bs, ∀ c ∈ bs, b.d ≠ c.d → g b.d ≠ g c.d) →
        Q .normal (puts aE ((bs.map (·.d)).map fun t => (t, ptr0 (g t)))) W) :
    (Code.region id l.toArray true).wp P Q a0 w := by
  obtain ⟨h1, h2, h3⟩ := H _ rfl
  refine wp_region_boxes hm chk hkeys (fun b hb => (AllB.spec bs h1 b hb).al) (fun b hb => (AllB.spec bs h1 b hb).st) (fun i o t hi hne hd => ?_) h3
  exact AllEx.spec l 0 i o h2 hi (by
    rw [Nat.zero_add]
    cases h : (bs.any fun b => b.ai == i || b.si == i) with
    | false => rfl
    | true =>
      exfalso
      obtain ⟨b, hb, h2⟩ := List.any_eq_true.1 h
      rw [Bool.or_eq_true] at h2
      rcases h2 with h2 | h2
      · exact (hne b hb).1 (by simpa using h2)
      · exact (hne b hb).2 (by simpa using h2)) t hd
end
end Go.Proofs.Ythkbhaaodegocaa
