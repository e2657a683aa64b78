/- Texts of the claim, in build order: RegY, P3, P4, Auto, RegJ, RegC, M2, M3, M4, M5, M6, M7, M8. No condition. -/
import Derived.Test.YtaocnklolgdkfaaGreatZFnSinger2
/- A region that draws its order, all of it: operations that yield one value each in whatever later world, new blocks, and one store into each of the new blocks. -/
namespace Go.Proofs.YtaocnklolgdkfaaGreat
open Go.RowKit
set_option linter.unusedVariables false
set_option linter.unusedSimpArgs false
/-- A new block: the operation that makes it, the one that stores into it, the slot that holds it, its type, its cells before and behind the store. -/
structure Bx where
  ai : Nat
  si : Nat
  d : Nat
  T : TypeId
  Z : Array Value
  U : Array Value
@[reducible] def ptr0 (g : Nat) : Value := .pointer (some ⟨g, 0, none⟩)
def readsOk (l : List Oper) (bs : List Bx) (o : Oper) (but : Option Nat) : Bool := (readsOf o).all fun t => (some t == but) || ((bs.all fun b => !(b.d == t)) && (List.range l.length).all fun j => match l[j]? with
  | none => true
  | some oj => !(oj.dst == some t) || bindsTo o j)
def boxesChk (l : List Oper) (bs : List Bx) (N : Nat) : Bool :=
  ((List.range l.length).all fun i => match l[i]? with
    | none => true
    | some o => notSelect o && (o.after.all fun e => !Region.binds .any e || e.on < i) &&
      ((bs.any fun b => b.ai == i || b.si == i) || ((match o.guard with | none => true | some (k, _) => bindsTo o k && (bs.all fun b => !(b.ai == k) && !(b.si == k))) && (match o.dst with | some t => decide (t < N) && (bs.all fun b => !(b.d == t)) | none => false) && readsOk l bs o none))) &&
  (bs.all fun b => decide (b.d < N) && (match l[b.ai]? with | some o => o.dst == some b.d && o.guard.isNone && (readsOf o).isEmpty | none => false) &&
    (match l[b.si]? with | some o => o.dst.isNone && o.guard.isNone && bindsTo o b.ai && readsOk l bs o (some b.d) | none => false) &&
    (bs.all fun c => (b.d == c.d) == (b.ai == c.ai) && ((b.d == c.d) == (b.si == c.si)) && !(b.ai == c.si)))
theorem readsOk_at {l : List Oper} {bs : List Bx} {o : Oper} {but : Option Nat} (h : readsOk l bs o but = true) {t : Nat} (ht : t ∈ readsOf o) (hb : some t ≠ but) :
    (∀ b ∈ bs, b.d ≠ t) ∧ ∀ j oj, l[j]? = some oj → oj.dst = some t → bindsTo o j = true := by
  have h1 := List.all_eq_true.1 h t ht
  rw [Bool.or_eq_true] at h1
  rcases h1 with h1 | h1
  · exact (hb (by simpa using h1)).elim
  · rw [Bool.and_eq_true] at h1
    refine ⟨fun b hb => by have := List.all_eq_true.1 h1.1 b hb; simpa using this, fun j oj hj hjd => ?_⟩
    have hjl : j < l.length := (List.getElem?_eq_some_iff.1 hj).1
    have := List.all_eq_true.1 h1.2 j (List.mem_range.2 hjl)
    simpa [hj, hjd] using this
theorem boxesChk_any {l : List Oper} {bs : List Bx} {N : Nat} (h : boxesChk l bs N = true) {i : Nat} {o : Oper} (hi : l[i]? = some o) :
    (∀ cs b, o.op ≠ .select cs b) ∧ (∀ e ∈ o.after, Region.binds .any e = true → e.on < i) ∧
    ((∃ b ∈ bs, b.ai = i) ∨ (∃ b ∈ bs, b.si = i) ∨ ((∀ b ∈ bs, b.ai ≠ i ∧ b.si ≠ i) ∧ (∀ k b, o.guard = some (k, b) → bindsTo o k = true ∧ ∀ b ∈ bs, b.ai ≠ k ∧ b.si ≠ k) ∧ (∃ t, o.dst = some t ∧ t < N ∧ ∀ b ∈ bs, b.d ≠ t) ∧ readsOk l bs o none = true)) := by
  unfold boxesChk at h
  rw [Bool.and_eq_true] at h
  have hlt : i < l.length := (List.getElem?_eq_some_iff.1 hi).1
  have h1 := List.all_eq_true.1 h.1 i (List.mem_range.2 hlt)
  simp only [hi, Bool.and_eq_true] at h1
  obtain ⟨⟨hns, haf⟩, hk⟩ := h1
  refine ⟨?_, ?_, ?_⟩
  · intro cs b e; rw [notSelect, e] at hns; cases hns
  · intro e he hb
    have := (Array.all_eq_true_iff_forall_mem.1 haf) e he
    simpa [hb] using this
  · by_cases ha : ∃ b ∈ bs, b.ai = i
    · exact .inl ha
    · by_cases hs : ∃ b ∈ bs, b.si = i
      · exact .inr (.inl hs)
      · refine .inr (.inr ?_)
        rw [Bool.or_eq_true] at hk
        rcases hk with hk | hk
        · exfalso
          obtain ⟨b, hb, h2⟩ := List.any_eq_true.1 hk
          rw [Bool.or_eq_true] at h2
          rcases h2 with h2 | h2
          · exact ha ⟨b, hb, by simpa using h2⟩
          · exact hs ⟨b, hb, by simpa using h2⟩
        · simp only [Bool.and_eq_true] at hk
          obtain ⟨⟨hg, hd⟩, hr⟩ := hk
          refine ⟨fun b hb => ⟨fun e => ha ⟨b, hb, e⟩, fun e => hs ⟨b, hb, e⟩⟩, ?_, ?_, hr⟩
          · intro k b e
            rw [e] at hg
            simp only [Bool.and_eq_true] at hg
            exact ⟨hg.1, fun c hc => by have := List.all_eq_true.1 hg.2 c hc; simpa using this⟩
          · cases hdd : o.dst with
            | none => rw [hdd] at hd; cases hd
            | some t =>
              rw [hdd] at hd
              simp only [Bool.and_eq_true, decide_eq_true_eq] at hd
              exact ⟨t, rfl, hd.1, fun c hc => by have := List.all_eq_true.1 hd.2 c hc; simpa using this⟩
theorem boxesChk_box {l : List Oper} {bs : List Bx} {N : Nat} (h : boxesChk l bs N = true) {b : Bx} (hb : b ∈ bs) :
    b.d < N ∧ (∃ o, l[b.ai]? = some o ∧ o.dst = some b.d ∧ o.guard = none ∧ readsOf o = []) ∧ (∃ o, l[b.si]? = some o ∧ o.dst = none ∧ o.guard = none ∧ bindsTo o b.ai = true ∧ readsOk l bs o (some b.d) = true) ∧
    (∀ c ∈ bs, (b.d = c.d ↔ b.ai = c.ai) ∧ (b.d = c.d ↔ b.si = c.si) ∧ b.ai ≠ c.si) := by
  unfold boxesChk at h
  rw [Bool.and_eq_true] at h
  have h1 := List.all_eq_true.1 h.2 b hb
  simp only [Bool.and_eq_true, decide_eq_true_eq] at h1
  obtain ⟨⟨⟨hd, hA⟩, hS⟩, hP⟩ := h1
  refine ⟨hd, ?_, ?_, ?_⟩
  · cases ho : l[b.ai]? with
    | none => rw [ho] at hA; cases hA
    | some o =>
      rw [ho] at hA
      simp only [Bool.and_eq_true, beq_iff_eq, Option.isNone_iff_eq_none, List.isEmpty_iff] at hA
      exact ⟨o, rfl, hA.1.1, hA.1.2, hA.2⟩
  · cases ho : l[b.si]? with
    | none => rw [ho] at hS; cases hS
    | some o =>
      rw [ho] at hS
      simp only [Bool.and_eq_true, Option.isNone_iff_eq_none] at hS
      exact ⟨o, rfl, hS.1.1.1, hS.1.1.2, hS.1.2, hS.2⟩
  · intro c hc
    have := List.all_eq_true.1 hP c hc
    simp only [Bool.and_eq_true, beq_iff_eq, Bool.not_eq_true', beq_eq_false_iff_ne] at this
    obtain ⟨⟨h2, h3⟩, h4⟩ := this
    refine ⟨?_, ?_, h4⟩
    · by_cases e : b.d = c.d
      · simp [e] at h2; exact ⟨fun _ => h2, fun _ => e⟩
      · have : (b.d == c.d) = false := by simpa using e
        rw [this] at h2
        exact ⟨fun h => (e h).elim, fun h => by rw [h] at h2; simp at h2⟩
    · by_cases e : b.d = c.d
      · simp [e] at h3; exact ⟨fun _ => h3, fun _ => e⟩
      · have : (b.d == c.d) = false := by simpa using e
        rw [this] at h3
        exact ⟨fun h => (e h).elim, fun h => by rw [h] at h3; simp at h3⟩
theorem below_setRowY {B g : Nat} {w W : World} (h : Below B w W) (hg : B ≤ g) (cs : Array Value) : Below B w (W.setRow g cs) :=
  ⟨h.os, h.tape, h.output, by simpa [World.setRow] using h.size, fun k hk => (setRow_other W g k cs (by omega)).trans (h.block k hk)⟩
structure RInvY (l : List Oper) (bs : List Bx) (a0 aE : Act) (w0 : World) (listed : Array Bool) (a : Act) (w : World) : Prop where
  df : a.defers = aE.defers
  sz : a.tmps.size = aE.tmps.size
  len : listed.size = l.length
  fr1 : ∀ (j : Nat) (o : Oper) (t : Nat), l[j]? = some o → o.dst = some t → (∀ b ∈ bs, b.d ≠ t) → listed.getD j false = true → a.tmps.getD t undef = aE.tmps.getD t undef
  fr0 : ∀ t : Nat, (∀ b ∈ bs, b.d ≠ t) → (∀ (j : Nat) (o : Oper), l[j]? = some o → o.dst = some t → listed.getD j false = false) → a.tmps.getD t undef = a0.tmps.getD t undef
  bl : Below w0.heap.size w0 w
  box : ∃ g : Nat → Nat, (∀ b ∈ bs, listed.getD b.ai false = true → a.tmps.getD b.d undef = ptr0 (g b.d) ∧ w0.heap.size ≤ g b.d ∧ w.heap[g b.d]? = some (.cells (if listed.getD b.si false = true then b.U else b.Z) b.T (0, 0))) ∧
    (∀ b ∈ bs, ∀ c ∈ bs, listed.getD b.ai false = true → listed.getD c.ai false = true → b.d ≠ c.d → g b.d ≠ g c.d)
  ord : ∀ b ∈ bs, listed.getD b.si false = true → listed.getD b.ai false = true
section
variable {P : Program} {Q : Exit → Act → World → Prop} {l : List Oper} {a0 : Act} {w : World} {vs : List (Nat × Value)} {bs : List Bx}
set_option maxHeartbeats 1000000 in
theorem wp_region_boxes {id : Nat} (hm : P.follows .mixedOrders = true)
    (chk : boxesChk l bs a0.tmps.size = true) (hkeys : vs.all (fun kv => (l.any (·.dst == some kv.1)) && (bs.all fun b => !(b.d == kv.1))) = true)
    (hal : ∀ b ∈ bs, ∀ o, l[b.ai]? = some o → ∀ (ρ : Operand → Value) (W : World), (execOp ρ o).run P W = .ok (.value (ptr0 W.heap.size)) (W.alloc (.cells b.Z b.T)))
    (hst : ∀ b ∈ bs, ∀ o, l[b.si]? = some o → ∀ (ρ : Operand → Value) (W : World) (g : Nat), (∀ t ∈ readsOf o, t ≠ b.d → ρ (.tmp t) = (puts a0 vs).tmps.getD t undef) → ρ (.tmp b.d) = ptr0 g → W.heap[g]? = some (.cells b.Z b.T (0, 0)) → (execOp ρ o).run P W = .ok .skip (W.setRow g b.U))
    (hop : ∀ (i : Nat) (o : Oper) (t : Nat), l[i]? = some o → (∀ b ∈ bs, b.ai ≠ i ∧ b.si ≠ i) → o.dst = some t → (Region.wanted o (yielded l.toArray (puts a0 vs).tmps) = true ∧ ∀ W, Below w.heap.size w W → calmAt P o (puts a0 vs).eval W ((puts a0 vs).tmps.getD t undef)) ∨ (Region.wanted o (yielded l.toArray (puts a0 vs).tmps) = false ∧ (puts a0 vs).tmps.getD t undef = undef))
    (hQ : ∀ (g : Nat → Nat) (W : World), Below w.heap.size w W → (∀ b ∈ bs, w.heap.size ≤ g b.d ∧ W.heap[g b.d]? = some (.cells b.U b.T (0, 0))) → (∀ b ∈ bs, ∀ c ∈ bs, b.d ≠ c.d → g b.d ≠ g c.d) →
      Q .normal (puts (puts a0 vs) ((bs.map (·.d)).map fun t => (t, ptr0 (g t)))) W) :
    (Code.region id l.toArray true).wp P Q a0 w := by
  have hE : ∀ t, ((∀ (j : Nat) (o : Oper), l[j]? = some o → o.dst ≠ some t) ∨ (∃ b ∈ bs, b.d = t)) → a0.tmps.getD t undef = (puts a0 vs).tmps.getD t undef := by
    intro t hno
    refine (puts_other t vs a0 (fun kv hkv e => ?_)).symm
    have := List.all_eq_true.1 hkeys kv hkv
    rw [Bool.and_eq_true] at this
    rcases hno with hno | ⟨b, hb, hbd⟩
    · obtain ⟨o, ho, hod⟩ := List.any_eq_true.1 this.1
      obtain ⟨j, hj⟩ := List.getElem?_of_mem ho
      exact hno j o hj (by rw [← e]; simpa using hod)
    · have h2 := List.all_eq_true.1 this.2 b hb
      rw [e, hbd] at h2; simp at h2
  have hEs : (puts a0 vs).tmps.size = a0.tmps.size := puts_size _ _
  have hEd : (puts a0 vs).defers = a0.defers := puts_defers _ _
  generalize puts a0 vs = aE at *
  refine wp_region_any hm ?_
  have key : ∀ (fuel : Nat) (listed : Array Bool) (a : Act) (W : World), RInvY l bs a0 aE w listed a W →
      (List.range l.length).countP (fun i => !listed.getD i true) ≤ fuel → wpAny P .any l.toArray Q fuel listed a W := by
    intro fuel
    have fin : ∀ (listed : Array Bool) (a : Act) (W : World), RInvY l bs a0 aE w listed a W → Region.ready .any l.toArray listed = [] → Q .normal a W := by
      intro listed a W hI hr
      have hall : ∀ i, i < l.length → listed.getD i false = true := by
        intro i
        induction i using Nat.strongRecOn with
        | _ i ih2 =>
          intro hi
          cases hb : listed.getD i false with
          | true => rfl
          | false =>
            exfalso
            have ho : l[i]? = some l[i] := List.getElem?_eq_getElem hi
            have hmem : i ∈ Region.ready .any l.toArray listed := by
              rw [mem_ready]
              refine ⟨?_, l[i], by simp, fun e he hbd => ?_⟩
              · have : i < listed.size := by have := hI.len; omega
                simp [this] at hb ⊢; exact hb
              · exact ih2 e.on ((boxesChk_any chk ho).2.1 e he hbd) (by have := (boxesChk_any chk ho).2.1 e he hbd; omega)
            rw [hr] at hmem; cases hmem
      obtain ⟨g, hg1, hg2⟩ := hI.box
      have lai : ∀ b ∈ bs, listed.getD b.ai false = true := fun b hb => by obtain ⟨_, ⟨o, ho, _⟩, _⟩ := boxesChk_box chk hb; exact hall _ (List.getElem?_eq_some_iff.1 ho).1
      have lsi : ∀ b ∈ bs, listed.getD b.si false = true := fun b hb => by obtain ⟨_, _, ⟨o, ho, _⟩, _⟩ := boxesChk_box chk hb; exact hall _ (List.getElem?_eq_some_iff.1 ho).1
      have ea : a = puts aE ((bs.map (·.d)).map fun t => (t, ptr0 (g t))) := by
        refine act_ext _ _ (by rw [puts_defers]; exact hI.df) (by rw [puts_size]; exact hI.sz) (fun t ht => ?_)
        by_cases hb : ∃ b ∈ bs, b.d = t
        · obtain ⟨b, hb, rfl⟩ := hb
          rw [puts_vals (fun t => ptr0 (g t)) b.d _ aE (List.mem_map.2 ⟨b, hb, rfl⟩) (by rw [← hI.sz]; exact ht)]
          exact (hg1 b hb (lai b hb)).1
        · have hnb : ∀ b ∈ bs, b.d ≠ t := fun b h e => hb ⟨b, h, e⟩
          rw [puts_other t _ _ (fun kv hkv e => by obtain ⟨x, hx, rfl⟩ := List.mem_map.1 hkv; obtain ⟨b, hbb, rfl⟩ := List.mem_map.1 hx; exact hnb b hbb e)]
          by_cases hw : ∃ (j : Nat) (o : Oper), l[j]? = some o ∧ o.dst = some t
          · obtain ⟨j, o, hj, ho⟩ := hw
            exact hI.fr1 j o t hj ho hnb (hall j (List.getElem?_eq_some_iff.1 hj).1)
          · rw [hI.fr0 t hnb (fun j o hj ho => (hw ⟨j, o, hj, ho⟩).elim)]
            exact hE t (.inl (fun j o hj ho => hw ⟨j, o, hj, ho⟩))
      rw [ea]
      refine hQ g W hI.bl (fun b hb => ⟨(hg1 b hb (lai b hb)).2.1, ?_⟩) (fun b hb c hc h => hg2 b hb c hc (lai b hb) (lai c hc) h)
      have := (hg1 b hb (lai b hb)).2.2
      rwa [if_pos (lsi b hb)] at this
    have look : ∀ (listed : Array Bool) (a : Act) (W : World), RInvY l bs a0 aE w listed a W → ∀ (i : Nat) (o : Oper), l[i]? = some o →
        (∀ e ∈ o.after, Region.binds .any e = true → listed.getD e.on false = true) → ∀ (but : Option Nat), readsOk l bs o but = true → ∀ t ∈ readsOf o, some t ≠ but → a.tmps.getD t undef = aE.tmps.getD t undef := by
      intro listed a W hI i o hi hall but hro t ht htb
      obtain ⟨hnb, h⟩ := readsOk_at hro ht htb
      by_cases hw : ∃ (j : Nat) (oj : Oper), l[j]? = some oj ∧ oj.dst = some t
      · obtain ⟨j, oj, hj, hjd⟩ := hw
        obtain ⟨e, he, hb, hon⟩ := bindsTo_spec (h j oj hj hjd)
        exact hI.fr1 j oj t hj hjd hnb (by rw [← hon]; exact hall e he hb)
      · rw [hI.fr0 t hnb (fun j oj hj ho => (hw ⟨j, oj, hj, ho⟩).elim)]
        exact hE t (.inl (fun j oj hj ho => hw ⟨j, oj, hj, ho⟩))
    induction fuel with
    | zero =>
      intro listed a W hI hc
      have hr : Region.ready .any l.toArray listed = [] := by
        rw [List.eq_nil_iff_forall_not_mem]
        intro i hi
        obtain ⟨h0, o, ho, _⟩ := mem_ready.1 hi
        have hil : i < l.length := by simpa using (Array.getElem?_eq_some_iff.1 ho).1
        have : 0 < (List.range l.length).countP (fun i => !listed.getD i true) := List.countP_pos_iff.2 ⟨i, List.mem_range.2 hil, by rw [h0]; rfl⟩
        omega
      exact ⟨hr, fin listed a W hI hr⟩
    | succ fuel ih =>
      intro listed a W hI hc
      refine ⟨fin listed a W hI, fun i hi => ?_⟩
      obtain ⟨h0, o, ho, hall⟩ := mem_ready.1 hi
      have hio : l[i]? = some o := by simpa using ho
      have hil : i < l.length := (List.getElem?_eq_some_iff.1 hio).1
      have hil' : i < listed.size := by rw [hI.len]; exact hil
      have hi0 : listed.getD i false = false := by simpa [hil'] using h0
      obtain ⟨hns, haf, hcase⟩ := boxesChk_any chk hio
      have hcnt : (List.range l.length).countP (fun j => !(listed.setIfInBounds i true).getD j true) ≤ fuel := by
        have := count_lt (fun j => !listed.getD j true) (fun j => !(listed.setIfInBounds i true).getD j true) (fun j hj => by
            by_cases e : i = j
            · subst e; simp [hil'] at hj
            · rw [getD_set_ne true e] at hj; exact hj) i (by rw [h0]; rfl) (by simp [hil']) (List.range l.length) (List.mem_range.2 hil)
        omega
      obtain ⟨g, hg1, hg2⟩ := hI.box
      rcases hcase with ⟨b, hb, hbi⟩ | ⟨b, hb, hbi⟩ | ⟨hne, hgd, ⟨t, hdst, htN, htb⟩, hro⟩
      · -- a new block
        subst hbi
        obtain ⟨hdN, ⟨o', ho', hod, hog, hord⟩, _, hdis⟩ := boxesChk_box chk hb
        rw [hio] at ho'; obtain rfl := Option.some.inj ho'
        have hrun := hal b hb o hio a.eval W
        have hw : Region.wanted o (yielded l.toArray a.tmps) = true := by unfold Region.wanted; rw [hog]
        unfold wpOp
        simp only [ho, hw, if_true]
        refine .inl ?_
        unfold Oper.wp
        rw [hrun]
        simp only [Oper.upon, hod]
        have hsi0 : listed.getD b.si false = false := by
          cases h : listed.getD b.si false with
          | false => rfl
          | true => rw [hI.ord b hb h] at hi0; cases hi0
        have lt_of : ∀ c ∈ bs, listed.getD c.ai false = true → g c.d < W.heap.size := fun c hc hl => (Array.getElem?_eq_some_iff.1 (hg1 c hc hl).2.2).1
        refine ih _ _ _ ⟨by rw [put_defers]; exact hI.df, by rw [put_size]; exact hI.sz, by simpa using hI.len, ?_, ?_, bal hI.bl _, ⟨fun t => if t = b.d then W.heap.size else g t, ?_, ?_⟩, ?_⟩ hcnt
        · intro j oj u hj hjd hud hl
          rw [put_get_ne _ _ _ _ (hud b hb)]
          rw [getD_set _ _ _ hil'] at hl
          by_cases e : b.ai = j
          · subst e; rw [hio] at hj; obtain rfl := Option.some.inj hj; rw [hod] at hjd; exact (hud b hb (Option.some.inj hjd)).elim
          · rw [if_neg e] at hl; exact hI.fr1 j oj u hj hjd hud hl
        · intro u hud hnu
          rw [put_get_ne _ _ _ _ (hud b hb)]
          refine hI.fr0 u hud (fun j oj hj hjd => ?_)
          have := hnu j oj hj hjd
          rw [getD_set _ _ _ hil'] at this
          by_cases e : b.ai = j
          · rw [if_pos e] at this; cases this
          · rw [if_neg e] at this; exact this
        · intro c hc hl
          have hbc := hdis c hc
          rw [getD_set _ _ _ hil'] at hl
          rw [getD_set _ _ _ hil', if_neg hbc.2.2]
          by_cases e : c.d = b.d
          · have hcs : b.si = c.si := (hbc.2.1).1 e.symm
            simp only [e, if_true]
            refine ⟨put_get_same _ _ _ (by rw [hI.sz, hEs]; exact hdN), hI.bl.size, ?_⟩
            rw [← hcs, hsi0]
            simp only [Bool.false_eq_true, if_false]
            have hcb : c.T = b.T ∧ c.Z = b.Z := by
              have h1 := hal c hc o (by rw [← (hbc.1).1 e.symm]; exact hio) a.eval W
              rw [hrun] at h1
              simp only [Result.ok.injEq, true_and] at h1
              have h2 : (W.alloc (.cells b.Z b.T)).heap[W.heap.size]? = (W.alloc (.cells c.Z c.T)).heap[W.heap.size]? := by rw [h1]
              rw [heap_alloc_new, heap_alloc_new] at h2
              simp only [Option.some.injEq, Obj.cells.injEq] at h2
              exact ⟨h2.2.1.symm, h2.1.symm⟩
            rw [hcb.1, hcb.2]
            exact heap_alloc_new _ _
          · have hai : b.ai ≠ c.ai := fun h => e ((hbc.1).2 h).symm
            rw [if_neg hai] at hl
            simp only [if_neg e]
            obtain ⟨h1, h2, h3⟩ := hg1 c hc hl
            exact ⟨by rw [put_get_ne _ _ _ _ (Ne.symm e)]; exact h1, h2, by rw [heap_alloc_old _ _ (lt_of c hc hl)]; exact h3⟩
        · intro c hc c' hc' hl hl' hne
          have hbc := hdis c hc
          have hbc' := hdis c' hc'
          rw [getD_set _ _ _ hil'] at hl hl'
          by_cases e : c.d = b.d
          · have e' : c'.d ≠ b.d := fun h => hne (e.trans h.symm)
            simp only [if_pos e, if_neg e']
            rw [if_neg (fun h => e' ((hbc'.1).2 h).symm)] at hl'
            have := lt_of c' hc' hl'
            omega
          · simp only [if_neg e]
            rw [if_neg (fun h => e ((hbc.1).2 h).symm)] at hl
            by_cases e' : c'.d = b.d
            · simp only [if_pos e']
              have := lt_of c hc hl
              omega
            · simp only [if_neg e']
              rw [if_neg (fun h => e' ((hbc'.1).2 h).symm)] at hl'
              exact hg2 c hc c' hc' hl hl' hne
        · intro c hc hl
          have hbc := hdis c hc
          rw [getD_set _ _ _ hil', if_neg hbc.2.2] at hl
          rw [getD_set _ _ _ hil']
          split
          · rfl
          · exact hI.ord c hc hl
      · -- a store
        subst hbi
        obtain ⟨hdN, hA, ⟨o', ho', hod, hog, hba, hro⟩, hdis⟩ := boxesChk_box chk hb
        rw [hio] at ho'; obtain rfl := Option.some.inj ho'
        have hla : listed.getD b.ai false = true := by obtain ⟨e, he, hbb, hon⟩ := bindsTo_spec hba; rw [← hon]; exact hall e he hbb
        obtain ⟨p1, p2, p3⟩ := hg1 b hb hla
        rw [hi0] at p3
        simp only [Bool.false_eq_true, if_false] at p3
        have hrun := hst b hb o hio a.eval W (g b.d) (fun t ht hne => look listed a W hI b.si o hio hall _ hro t ht (fun e => hne (Option.some.inj e))) p1 p3
        have hw : Region.wanted o (yielded l.toArray a.tmps) = true := by unfold Region.wanted; rw [hog]
        unfold wpOp
        simp only [ho, hw, if_true]
        refine .inl ?_
        unfold Oper.wp
        rw [hrun]
        simp only [Oper.upon, hod]
        have hp : a.put none undef = a := rfl
        rw [hp]
        refine ih _ _ _ ⟨hI.df, hI.sz, by simpa using hI.len, ?_, ?_, below_setRowY hI.bl p2 _, ⟨g, ?_, ?_⟩, ?_⟩ hcnt
        · intro j oj u hj hjd hud hl
          rw [getD_set _ _ _ hil'] at hl
          by_cases e : b.si = j
          · subst e; rw [hio] at hj; obtain rfl := Option.some.inj hj; rw [hod] at hjd; cases hjd
          · rw [if_neg e] at hl; exact hI.fr1 j oj u hj hjd hud hl
        · intro u hud hnu
          refine hI.fr0 u hud (fun j oj hj hjd => ?_)
          have := hnu j oj hj hjd
          rw [getD_set _ _ _ hil'] at this
          by_cases e : b.si = j
          · rw [if_pos e] at this; cases this
          · rw [if_neg e] at this; exact this
        · intro c hc hl
          obtain ⟨_, _, _, hdisc⟩ := boxesChk_box chk hc
          have hcb := hdisc b hb
          rw [getD_set _ _ _ hil', if_neg (Ne.symm hcb.2.2)] at hl
          rw [getD_set _ _ _ hil']
          obtain ⟨h1, h2, h3⟩ := hg1 c hc hl
          by_cases e : c.d = b.d
          · have hsi : b.si = c.si := ((hcb.2.1).1 e).symm
            rw [if_pos hsi]
            simp only [if_true]
            have hcc : c.T = b.T ∧ c.U = b.U := by
              have e1 := hst c hc o (by rw [← hsi]; exact hio) a.eval W (g b.d) (fun t ht hne => look listed a W hI b.si o hio hall _ hro t ht (fun h => hne (by rw [e]; exact Option.some.inj h))) (by rw [e]; exact p1) (by
                have h3' := h3
                rw [e, ← hsi, hi0] at h3'
                simpa using h3')
              have hT : c.T = b.T := by
                have h3' := h3
                rw [e, p3] at h3'
                simp only [Option.some.injEq, Obj.cells.injEq] at h3'
                exact h3'.2.1.symm
              refine ⟨hT, ?_⟩
              rw [hrun] at e1
              simp only [Result.ok.injEq, true_and] at e1
              have h4 : (W.setRow (g b.d) b.U).heap[g b.d]? = (W.setRow (g b.d) c.U).heap[g b.d]? := by rw [e1]
              rw [setRow_heap _ _ _ _ _ _ p3, setRow_heap _ _ _ _ _ _ p3] at h4
              simp only [Option.some.injEq, Obj.cells.injEq] at h4
              exact h4.1.symm
            rw [e] at h1 h2 ⊢
            exact ⟨h1, h2, by rw [hcc.1, hcc.2]; exact setRow_heap _ _ _ _ _ _ p3⟩
          · have hsi : b.si ≠ c.si := fun h => e ((hcb.2.1).2 h.symm)
            rw [if_neg hsi]
            exact ⟨h1, h2, by rw [setRow_other _ _ _ _ (hg2 c hc b hb hl hla e)]; exact h3⟩
        · intro c hc c' hc' hl hl' hne
          obtain ⟨_, _, _, hdisc⟩ := boxesChk_box chk hc
          obtain ⟨_, _, _, hdisc'⟩ := boxesChk_box chk hc'
          rw [getD_set _ _ _ hil', if_neg (Ne.symm (hdisc b hb).2.2)] at hl
          rw [getD_set _ _ _ hil', if_neg (Ne.symm (hdisc' b hb).2.2)] at hl'
          exact hg2 c hc c' hc' hl hl' hne
        · intro c hc hl
          obtain ⟨_, _, _, hdisc⟩ := boxesChk_box chk hc
          rw [getD_set _ _ _ hil', if_neg (Ne.symm (hdisc b hb).2.2)]
          rw [getD_set _ _ _ hil'] at hl
          by_cases e : b.si = c.si
          · have : c.d = b.d := ((hdisc b hb).2.1).2 e.symm
            have hai : c.ai = b.ai := ((hdisc b hb).1).1 this
            rw [hai]; exact hla
          · rw [if_neg e] at hl; exact hI.ord c hc hl
      · -- a value
        have hwe : Region.wanted o (yielded l.toArray a.tmps) = Region.wanted o (yielded l.toArray aE.tmps) := by
          unfold Region.wanted
          cases hg : o.guard with
          | none => rfl
          | some kb =>
            obtain ⟨k, b⟩ := kb
            obtain ⟨hbk, hnk⟩ := hgd k b hg
            obtain ⟨e, he, hb, hon⟩ := bindsTo_spec hbk
            have : yielded l.toArray a.tmps k = yielded l.toArray aE.tmps k := yielded_congr hI.sz (fun ok tk hk hd => hI.fr1 k ok tk (by simpa using hk) hd (by
              obtain ⟨_, _, hcase2⟩ := boxesChk_any chk (show l[k]? = some ok by simpa using hk)
              rcases hcase2 with ⟨b2, hb2, h2⟩ | ⟨b2, hb2, h2⟩ | ⟨_, _, ⟨t2, hd2, _, htb2⟩, _⟩
              · exact ((hnk b2 hb2).1 h2).elim
              · exact ((hnk b2 hb2).2 h2).elim
              · rw [hd] at hd2; obtain rfl := Option.some.inj hd2; exact htb2) (by rw [← hon]; exact hall e he hb))
            simp only [this]
        have step : ∀ W', Below w.heap.size w W' → Below W.heap.size W W' → wpAny P .any l.toArray Q fuel (listed.setIfInBounds i true) (a.put (some t) (aE.tmps.getD t undef)) W' := by
          intro W' hW' hWW
          refine ih _ _ _ ⟨by rw [put_defers]; exact hI.df, by rw [put_size]; exact hI.sz, by simpa using hI.len, ?_, ?_, hW', ⟨g, ?_, ?_⟩, ?_⟩ hcnt
          · intro j oj u hj hjd hud hl
            by_cases htu : t = u
            · subst htu; rw [put_get_same _ _ _ (by rw [hI.sz, hEs]; exact htN)]
            · rw [put_get_ne _ _ _ _ htu]
              rw [getD_set _ _ _ hil'] at hl
              by_cases e : i = j
              · subst e; rw [hio] at hj; obtain rfl := Option.some.inj hj; rw [hdst] at hjd; exact (htu (Option.some.inj hjd)).elim
              · rw [if_neg e] at hl; exact hI.fr1 j oj u hj hjd hud hl
          · intro u hud hno
            have htu : t ≠ u := fun e => by
              subst e
              have := hno i o hio hdst
              rw [getD_set _ _ _ hil', if_pos rfl] at this; cases this
            rw [put_get_ne _ _ _ _ htu]
            refine hI.fr0 u hud (fun j oj hj hjd => ?_)
            have := hno j oj hj hjd
            rw [getD_set _ _ _ hil'] at this
            by_cases e : i = j
            · rw [if_pos e] at this; cases this
            · rw [if_neg e] at this; exact this
          · intro c hc hl
            rw [getD_set _ _ _ hil', if_neg (Ne.symm (hne c hc).1)] at hl
            rw [getD_set _ _ _ hil', if_neg (Ne.symm (hne c hc).2)]
            obtain ⟨h1, h2, h3⟩ := hg1 c hc hl
            exact ⟨by rw [put_get_ne _ _ _ _ (Ne.symm (htb c hc))]; exact h1, h2, by rw [hWW.block _ (Array.getElem?_eq_some_iff.1 h3).1]; exact h3⟩
          · intro c hc c' hc' hl hl' hd
            rw [getD_set _ _ _ hil', if_neg (Ne.symm (hne c hc).1)] at hl
            rw [getD_set _ _ _ hil', if_neg (Ne.symm (hne c' hc').1)] at hl'
            exact hg2 c hc c' hc' hl hl' hd
          · intro c hc hl
            rw [getD_set _ _ _ hil', if_neg (Ne.symm (hne c hc).2)] at hl
            rw [getD_set _ _ _ hil', if_neg (Ne.symm (hne c hc).1)]
            exact hI.ord c hc hl
        unfold wpOp
        simp only [ho]
        rcases hop i o t hio hne hdst with ⟨hw, hcalm⟩ | ⟨hw, hun⟩
        · rw [hwe, hw]
          simp only [if_true]
          refine .inl ?_
          have heq : execOp aE.eval o = execOp a.eval o := execOp_congr o hns (fun x hx => by
              cases x with
              | tmp u =>
                have hu : u ∈ readsOf o := List.mem_filterMap.2 ⟨.tmp u, by simpa using hx, rfl⟩
                exact (look listed a W hI i o hio hall none hro u hu (fun e => by cases e)).symm
              | _ => rfl)
          have hcalm' : calmAt P o a.eval W (aE.tmps.getD t undef) := by
              refine ⟨?_⟩; have hh := (hcalm W hI.bl).out; unfold calmRun at hh ⊢; rw [← heq]; exact hh
          refine wp_of_calm hcalm' (fun W' hb => ?_)
          rw [hdst]
          exact step W' (below_tr' hI.bl hb) hb
        · rw [hwe, hw]
          simp only [Bool.false_eq_true, if_false, hdst]
          rw [hun] at step
          exact step W hI.bl (Below.refl _ _)
  refine key _ _ _ _ ⟨by rw [hEd], hEs.symm, by simp, ?_, ?_, ⟨rfl, rfl, rfl, Nat.le_refl _, fun _ _ => rfl⟩, ⟨fun _ => 0, (fun b _ h => by rw [rep_false] at h; cases h), (fun b _ c _ h => by rw [rep_false] at h; cases h)⟩, (fun b _ h => by rw [rep_false] at h; cases h)⟩ ?_
  · intro j o t hj hjd _ hl; rw [rep_false] at hl; cases hl
  · intro t _ _; rfl
  · exact Nat.le_trans List.countP_le_length (by simp)
/-- What the law asks of the operations that are in no list of blocks: by their place. -/
def AllEx (p : Oper → Prop) (ex : Nat → Bool) : Nat → List Oper → Prop
  | _, [] => True
  | i, o :: r => (ex i = true ∨ p o) ∧ AllEx p ex (i + 1) r
theorem AllEx.spec {p : Oper → Prop} {ex : Nat → Bool} : ∀ (l : List Oper) (n i : Nat) (o : Oper), AllEx p ex n l → l[i]? = some o → ex (n + i) = false → p o
  | [], _, _, _, _, h, _ => by cases h
  | x :: r, n, 0, o, h, hi, he => by
    simp only [List.getElem?_cons_zero, Option.some.injEq] at hi
    subst hi
    rcases h.1 with h1 | h1
    · rw [Nat.add_zero] at he; rw [h1] at he; cases he
    · exact h1
  | x :: r, n, i + 1, o, h, hi, he => by
    rw [List.getElem?_cons_succ] at hi
    exact AllEx.spec r (n + 1) i o h.2 hi (by rw [show n + 1 + i = n + (i + 1) by omega]; exact he)
def AllB (p : Bx → Prop) : List Bx → Prop
  | [] => True
  | b :: r => p b ∧ AllB p r
theorem AllB.spec {p : Bx → Prop} : ∀ (bs : List Bx), AllB p bs → ∀ b ∈ bs, p b
  | [], _, _, h => by cases h
  | x :: r, h, b, hb => by
    rcases List.mem_cons.1 hb with e | e
    · rw [e]; exact h.1
    · exact AllB.spec r h.2 b e
/-- One new block: what its two operations do. -/
structure BoxOk (P : Program) (l : List Oper) (aE : Act) (b : Bx) : Prop where
  al : ∀ o, l[b.ai]? = some o → ∀ (ρ : Operand → Value) (W : World), (execOp ρ o).run P W = .ok (.value (ptr0 W.heap.size)) (W.alloc (.cells b.Z b.T))
  st : ∀ o, l[b.si]? = some o → ∀ (ρ : Operand → Value) (W : World) (g : Nat), (∀ t ∈ readsOf o, t ≠ b.d → ρ (.tmp t) = aE.tmps.getD t undef) → ρ (.tmp b.d) = ptr0 g → W.heap[g]? = some (.cells b.Z b.T (0, 0)) → (execOp ρ o).run P W = .ok .skip (W.setRow g b.U)
theorem region_boxes {id : Nat} (bs : List Bx) (vs : List (Nat × Value)) (hm : P.follows .mixedOrders = true)
    (chk : boxesChk l bs a0.tmps.size = true) (hkeys : vs.all (fun kv => (l.any (·.dst == some kv.1)) && (bs.all fun b => !(b.d == kv.1))) = true)
    (H : ∀ aE, puts a0 vs = aE → AllB (BoxOk P l aE) bs ∧ AllEx (CalmG P aE w l) (fun i => bs.any fun b => b.ai == i || b.si == i) 0 l ∧
      ∀ (g : Nat → Nat) (W : World), Below w.heap.size w W → (∀ b ∈ bs, w.heap.size ≤ g b.d ∧ W.heap[g b.d]? = some (.cells b.U b.T (0, 0))) → (∀ b ∈ bs, ∀ c ∈ bs, b.d ≠ c.d → g b.d ≠ g c.d) →
        Q .normal (puts aE ((bs.map (·.d)).map fun t => (t, ptr0 (g t)))) W) :
    (Code.region id l.toArray true).wp P Q a0 w := by
  obtain ⟨h1, h2, h3⟩ := H _ rfl
  refine wp_region_boxes hm chk hkeys (fun b hb => (AllB.spec bs h1 b hb).al) (fun b hb => (AllB.spec bs h1 b hb).st) (fun i o t hi hne hd => ?_) h3
  exact AllEx.spec l 0 i o h2 hi (by
    rw [Nat.zero_add]
    cases h : (bs.any fun b => b.ai == i || b.si == i) with
    | false => rfl
    | true =>
      exfalso
      obtain ⟨b, hb, h2⟩ := List.any_eq_true.1 h
      rw [Bool.or_eq_true] at h2
      rcases h2 with h2 | h2
      · exact (hne b hb).1 (by simpa using h2)
      · exact (hne b hb).2 (by simpa using h2)) t hd
end
end Go.Proofs.YtaocnklolgdkfaaGreat
/- Contracts: how many points of a list are on a line; the line through three points. -/
namespace Go.Proofs.YtaocnklolgdkfaaGreat
open Go.RowKit
set_option linter.unusedVariables false
set_option linter.unusedSimpArgs false
end Go.Proofs.YtaocnklolgdkfaaGreat
/- Plain words: what PappusLine returns, and what both makings lean on. -/
namespace Go.Proofs.YtaocnklolgdkfaaGreat
set_option linter.unusedVariables false
set_option linter.unusedSimpArgs false
end Go.Proofs.YtaocnklolgdkfaaGreat
/- Walks by search: facts about memory, found again in later worlds. -/
namespace Go.Proofs.YtaocnklolgdkfaaGreat
open Go.RowKit
set_option linter.unusedVariables false
set_option linter.unusedSimpArgs false
def pC (t : Pt) : Array Value := #[.int .i64 t.1, .int .i64 t.2.1, .int .i64 t.2.2]
abbrev pV (t : Pt) : Value := .agg (pC t)
/-- A call leaves this world behind that one. -/
structure Link (w W : World) : Prop where
  out : Below w.heap.size w W
structure LowK (w W : World) : Prop where
  out : Below w.heap.size w W
structure RowK (W : World) (g : Nat) (cs : Array Value) (T : TypeId) : Prop where
  out : W.heap[g]? = some (.cells cs T (0, 0))
structure PtsK (W : World) (b o n : Nat) (L : List Pt) : Prop where
  out : PtsAt W b o n L
structure IntsK (W : World) (b o n : Nat) (L : List Int) : Prop where
  out : ∀ i, i < n → W.cell? ⟨b, o + i, none⟩ = some (.int .i64 (L.getD i 0))
theorem Link.low {w W : World} (h : Link w W) : LowK w W := ⟨h.out⟩
theorem LowK.lnk {w W : World} (h : LowK w W) : Link w W := ⟨h.out⟩
theorem LowK.refl (w : World) : LowK w w := ⟨Below.refl _ _⟩
theorem LowK.link {w w1 W : World} (l : Link w1 W) (h : LowK w w1) : LowK w W := ⟨below_tr' h.out l.out⟩
theorem LowK.alloc {w W : World} (h : LowK w W) (o : Obj) : LowK w (W.alloc o) := ⟨bal h.out o⟩
theorem LowK.drew {w W : World} (h : LowK w W) : LowK w W.drew := ⟨bdr h.out⟩
theorem LowK.drewN {w W : World} (h : LowK w W) (n : Nat) : LowK w (W.drewN n) := ⟨bdrN h.out n⟩
theorem LowK.set {w W : World} {g : Nat} {U : Array Value} (hg : w.heap.size ≤ g) (h : LowK w W) : LowK w (W.setRow g U) := ⟨below_setRowN h.out hg U⟩
theorem LowK.size {w W : World} (h : LowK w W) : w.heap.size ≤ W.heap.size := h.out.size
theorem RowK.lt {W : World} {g : Nat} {cs : Array Value} {T : TypeId} (h : RowK W g cs T) : g < W.heap.size := (Array.getElem?_eq_some_iff.1 h.out).1
theorem RowK.link {w W : World} {g : Nat} {cs : Array Value} {T : TypeId} (l : Link w W) (h : RowK w g cs T) : RowK W g cs T := ⟨(l.out.block _ h.lt).trans h.out⟩
theorem RowK.new {w : World} {g : Nat} {cs : Array Value} {T : TypeId} (h : g = w.heap.size) : RowK (w.alloc (.cells cs T)) g cs T := ⟨hn_atN _ _ _ h⟩
theorem RowK.alloc {w : World} {g : Nat} {cs : Array Value} {T : TypeId} (h : RowK w g cs T) (o : Obj) : RowK (w.alloc o) g cs T := ⟨by rw [hn_pastN _ _ _ h.lt]; exact h.out⟩
theorem RowK.drew {w : World} {g : Nat} {cs : Array Value} {T : TypeId} (h : RowK w g cs T) : RowK w.drew g cs T := ⟨h.out⟩
theorem RowK.drewN {w : World} {g : Nat} {cs : Array Value} {T : TypeId} (h : RowK w g cs T) (n : Nat) : RowK (w.drewN n) g cs T := ⟨h.out⟩
theorem RowK.here {w : World} {g : Nat} {cs U : Array Value} {T : TypeId} (h : RowK w g cs T) : RowK (w.setRow g U) g U T := ⟨setRow_heap _ _ _ _ _ _ h.out⟩
theorem RowK.set {w : World} {g g' : Nat} {cs U : Array Value} {T : TypeId} (hg : g ≠ g') (h : RowK w g cs T) : RowK (w.setRow g' U) g cs T := ⟨(setRow_other _ _ _ _ hg).trans h.out⟩
theorem PtsK.link {w W : World} {b o n : Nat} {L : List Pt} (l : Link w W) (h : PtsK w b o n L) : PtsK W b o n L := ⟨h.out.below l.out⟩
theorem PtsK.alloc {w : World} {b o n : Nat} {L : List Pt} (h : PtsK w b o n L) (x : Obj) : PtsK (w.alloc x) b o n L := ⟨h.out.below (bal (Below.refl _ _) x)⟩
theorem PtsK.drew {w : World} {b o n : Nat} {L : List Pt} (h : PtsK w b o n L) : PtsK w.drew b o n L := ⟨h.out⟩
theorem PtsK.drewN {w : World} {b o n : Nat} {L : List Pt} (h : PtsK w b o n L) (k : Nat) : PtsK (w.drewN k) b o n L := ⟨h.out⟩
theorem cell_other (W : World) (g b o : Nat) (U : Array Value) (h : b ≠ g) : (W.setRow g U).cell? ⟨b, o, none⟩ = W.cell? ⟨b, o, none⟩ := World.cell?_of_block (w := W) (a := ⟨b, o, none⟩) (setRow_other W g b U h)
theorem PtsK.set {w : World} {b o n g : Nat} {L : List Pt} {U : Array Value} (hg : b ≠ g) (h : PtsK w b o n L) : PtsK (w.setRow g U) b o n L :=
  ⟨fun i hi => ⟨(cell_other _ _ _ _ _ hg).trans (h.out i hi).1, (cell_other _ _ _ _ _ hg).trans (h.out i hi).2.1, (cell_other _ _ _ _ _ hg).trans (h.out i hi).2.2⟩⟩
theorem IntsK.below {w W : World} {b o n : Nat} {L : List Int} (h : IntsK w b o n L) (l : Below w.heap.size w W) : IntsK W b o n L := ⟨fun i hi => cell_belowQ l (h.out i hi)⟩
theorem IntsK.link {w W : World} {b o n : Nat} {L : List Int} (l : Link w W) (h : IntsK w b o n L) : IntsK W b o n L := h.below l.out
theorem IntsK.alloc {w : World} {b o n : Nat} {L : List Int} (h : IntsK w b o n L) (x : Obj) : IntsK (w.alloc x) b o n L := h.below (bal (Below.refl _ _) x)
theorem IntsK.drew {w : World} {b o n : Nat} {L : List Int} (h : IntsK w b o n L) : IntsK w.drew b o n L := ⟨h.out⟩
theorem IntsK.drewN {w : World} {b o n : Nat} {L : List Int} (h : IntsK w b o n L) (k : Nat) : IntsK (w.drewN k) b o n L := ⟨h.out⟩
theorem IntsK.set {w : World} {b o n g : Nat} {L : List Int} {U : Array Value} (hg : b ≠ g) (h : IntsK w b o n L) : IntsK (w.setRow g U) b o n L := ⟨fun i hi => (cell_other _ _ _ _ _ hg).trans (h.out i hi)⟩
@[simp, go_sem] theorem size_setRow (W : World) (g : Nat) (U : Array Value) : (W.setRow g U).heap.size = W.heap.size := by simp [World.setRow]
theorem pC_one (t : Pt) : ∀ v ∈ (pC t).toList, v.oneCell' = true := by intro v hv; simp [pC] at hv; rcases hv with rfl | rfl | rfl <;> rfl
theorem growL {w : World} {G : Grow0 w} (g : Grow w G) : Link w g.W := ⟨g.low⟩
theorem grow_ret {P : Program} {f : FuncId} {args : Array Value} {w : World} {G : Grow0 w} {g : Grow w G} {v : Value} (h : Calls P f args g.W (Ret g.W v)) : Calls P f args g.W (fun e w'' => e = .returned v ∧ ∃ g' : Grow w G, w'' = g'.W) :=
  h.mono fun _ W ⟨he, hb⟩ => ⟨he, ⟨W, below_tr' g.b hb⟩, rfl⟩
/-- Some of a list's operations, by a mask. -/
inductive Pick : List Oper → List Bool → List Oper → Prop
  | n : Pick [] [] []
  | k {o : Oper} {l r : List Oper} {ms : List Bool} : Pick l ms r → Pick (o :: l) (true :: ms) (o :: r)
  | d {o : Oper} {l r : List Oper} {ms : List Bool} : Pick l ms r → Pick (o :: l) (false :: ms) r
section
variable {P : Program} {Q : Exit → Act → World → Prop} {l : List Oper} {a0 : Act} {w : World}
theorem region_Q {id : Nat} (m : Nat) (hm : P.follows .mixedOrders = true) (hml : m ≤ l.length)
    (chk : viaChk l m a0.tmps.size = true) (hgd : guardsIn l m = true) (hon : onceB l m = true)
    (H : ∃ aE, (∀ G : Grow0 w, wpQuiet P l.toArray (fun w' => ∃ g : Grow w G, w' = g.W) (fun a' => a' = aE) (l.take m) a0) ∧ ∀ W, Link w W → wpList P l.toArray Q (l.drop m) aE W) :
    (Code.region id l.toArray true).wp P Q a0 w := by
  obtain ⟨aE, h1, h2⟩ := H
  exact region_q m hm hml chk hgd hon h1 (fun W hW => h2 W ⟨hW⟩)
end
section
variable {P : Program} {ops : Array Oper} {rest : List Oper} {o : Oper} {a : Act} {Q : Exit → Act → World → Prop}
theorem wpList_store_rowK (w : World) (hgd : o.guard = none) (ty : TypeId) (x y : Operand) (hop : o.op = .store ty x y) (hd : o.dst = none) {g : Nat} {T : TypeId} {cs U : Array Value} (hx : a.eval x = .pointer (some ⟨g, 0, none⟩)) (hy : a.eval y = .agg U)
    (hg : RowK w g cs T) (n : Nat) (hn : cs.size = n) (hU : U.size = n) (hs : ∀ W, (sizeOf ty).run P W = .ok n W) (h1 : ∀ v ∈ U.toList, v.oneCell' = true) (hK : wpList P ops Q rest a (w.setRow g U)) : wpList P ops Q (o :: rest) a w :=
  wpList_store_row w hgd ty x y hop hd hx hy hg.out (by rw [hn, hU]) (by rw [hU]; exact hs) h1 hK
/-- A point out of a list is loaded. -/
theorem run_load_pt {W : World} {ρ : Operand → Value} {ty : TypeId} {x : Operand} {b e n : Nat} {L : List Pt} (k : Nat) (hop : o.op = .load ty x) (hx : ρ x = .pointer (some ⟨b, e, none⟩)) (hL : PtsK W b 0 n L) (hk : k < n) (he : e = k * 3)
    (hs : ∀ W, (sizeOf ty).run P W = .ok 3 W) (ha : ∀ W, (isAgg ty).run P W = .ok true W) : (execOp ρ o).run P W = .ok (.value (pV (L.getD k (0, 0, 0)))) W := by
  obtain ⟨h0, h1, h2⟩ := hL.out k hk
  subst he
  simp only [Nat.zero_add] at h0 h1 h2
  generalize L.getD k (0, 0, 0) = t at *
  have hl : (loadCells ⟨b, k * 3, none⟩ 3).run P W = .ok (pC t) W :=
    run_loadCells_list (P := P) W ⟨b, k * 3, none⟩ [.int .i64 t.1, .int .i64 t.2.1, .int .i64 t.2.2] (fun j v hv => by
      have hadd : ∀ j, (⟨b, k * 3, none⟩ : Addr).add j = ⟨b, k * 3 + j, none⟩ := by intro j; unfold Addr.add; split <;> simp_all
      rw [hadd]
      match j, hv with
      | 0, hv => simpa using h0.trans (by simpa using hv)
      | 1, hv => exact h1.trans (by simpa using hv)
      | 2, hv => exact h2.trans (by simpa using hv)
      | j + 3, hv => simp at hv)
  have hv : (loadVar ty ⟨b, k * 3, none⟩).run P W = .ok (pV t) W := by
    unfold loadVar
    rw [Sem.run_bind, ha]
    simp only [Result.andThen_ok, if_true]
    rw [Sem.run_bind, hs]
    simp only [Result.andThen_ok]
    rw [Sem.run_bind, hl]
    rfl
  unfold execOp
  simp only [hop, hx, Instr.loadAt, Instr.sureAddr, Sem.run_bind, Sem.run_pure, Result.andThen_ok, hv]
theorem run_load_rowK {W : World} {ρ : Operand → Value} {ty : TypeId} {x : Operand} {g : Nat} {T : TypeId} {cs : Array Value} (hop : o.op = .load ty x) (hx : ρ x = .pointer (some ⟨g, 0, none⟩)) (hg : RowK W g cs T) (n : Nat) (hn : cs.size = n)
    (hs : ∀ W, (sizeOf ty).run P W = .ok n W) (ha : ∀ W, (isAgg ty).run P W = .ok true W) : (execOp ρ o).run P W = .ok (.value (.agg cs)) W := by
  have hv := run_loadRow (P := P) ty hg.out n hn hs ha
  unfold execOp
  simp only [hop, hx, Instr.loadAt, Instr.sureAddr, Sem.run_bind, Sem.run_pure, Result.andThen_ok, hv]
theorem wpList_load_any (w : World) (hgd : o.guard = none) (ty : TypeId) (x : Operand) (hop : o.op = .load ty x) {v : Value} (hr : (execOp a.eval o).run P w = .ok (.value v) w) (hK : wpList P ops Q rest (a.put o.dst v) w) : wpList P ops Q (o :: rest) a w := by
  refine wpList_plain hgd fun K hK' => ?_
  unfold Oper.wp
  rw [hr]
  exact hK' _ _ hK
theorem run_load_ptT {W : World} {ρ : Operand → Value} {ty : TypeId} {x : Operand} {b e n : Nat} {L : List Pt} (k : Nat) (hop : o.op = .load ty x) (hx : ρ x = .pointer (some ⟨b, e, none⟩)) (hL : PtsK W b 0 n L) (he : e = k * 3) (hk : k < n)
    (hs : ∀ W, (sizeOf ty).run P W = .ok 3 W) (ha : ∀ W, (isAgg ty).run P W = .ok true W) (t : Pt) (ht : L.getD k (0, 0, 0) = t) : (execOp ρ o).run P W = .ok (.value (pV t)) W := by
  rw [← ht]; exact run_load_pt k hop hx hL hk he hs ha
theorem region_gd {id : Nat} {l : List Oper} {w : World} (h : (Code.region id l.toArray true).wp P Q a w) : (Code.region id l.toArray true).wp P Q a w := h
/-- In a quiet walk. -/
theorem q_load_any {w : World} {G : Grow0 w} {K : Act → Prop} (ty : TypeId) (x : Operand) (hop : o.op = .load ty x) {v : Value} (h : ∀ W, Link w W → (execOp a.eval o).run P W = .ok (.value v) W) (hK : K (a.put o.dst v)) : o.quiet P a (fun w' => ∃ g : Grow w G, w' = g.W) K :=
  ⟨v, fun W ⟨g, hg⟩ => by unfold Oper.quietAt; rw [h W (by rw [hg]; exact growL g)]; exact ⟨rfl, rfl⟩, hK⟩
end
@[go_sem high] theorem eqLnP (w : World) (a b : Pt) : (binOp .eql 38 (.agg (pC a)) (.agg (pC b))).run Tryz.prog w = .ok (.bool (eqP a b)) w := eqLn w a.1 a.2.1 a.2.2 b.1 b.2.1 b.2.2
@[go_sem high] theorem eqPoP (w : World) (a b : Pt) : (binOp .eql 56 (.agg (pC a)) (.agg (pC b))).run Tryz.prog w = .ok (.bool (eqP a b)) w := eqPo w a.1 a.2.1 a.2.2 b.1 b.2.1 b.2.2
@[go_sem high] theorem nePoP (w : World) (a b : Pt) : (binOp .neq 56 (.agg (pC a)) (.agg (pC b))).run Tryz.prog w = .ok (.bool (!eqP a b)) w := nePo w a.1 a.2.1 a.2.2 b.1 b.2.1 b.2.2
theorem join_P {p : Int} {a b : Pt} (w : World) (hp : prB p = true) (ha : In13 a) (hb : In13 b) : Calls Tryz.prog 44 #[.int .i64 p, pV a, pV b] w (Ret w (pV (crsN p a b))) := join_any p a.1 a.2.1 a.2.2 b.1 b.2.1 b.2.2 w hp ha hb
theorem l01Join_P {p : Int} {a b : Pt} (w : World) (hp : prB p = true) (ha : In13 a) (hb : In13 b) : Calls Tryz.prog 47 #[.int .i64 p, pV a, pV b] w (Ret w (.tuple #[pV (crsN p a b), .bool (okC p a b)])) := l01Join_crs p a.1 a.2.1 a.2.2 b.1 b.2.1 b.2.2 w hp ha hb
theorem results_rowT' {P : Program} {fn : Func} {tmps : Array Value} {t s : Tmp} {W : World} {g : Nat} {T : TypeId} {cs : Array Value} {fr : Nat × Nat} {ty : TypeId} {x : Value} (h : fn.results = #[.cell t ty, .tmp s]) (ht : tmps.getD t undef = .pointer (some ⟨g, 0, none⟩)) (hx : tmps.getD s undef = x)
    (hg : W.heap[g]? = some (.cells cs T fr)) (n : Nat) (hn : cs.size = n) (hs : ∀ W, (sizeOf ty).run P W = .ok n W) (ha : ∀ W, (isAgg ty).run P W = .ok true W) : (results fn tmps).run P W = .ok (.tuple #[.agg cs, x]) W := by
  have hv := run_loadRow (P := P) ty hg n hn hs ha
  have ht' : tmps[t]?.getD undef = .pointer (some ⟨g, 0, none⟩) := by rw [← Array.getD_eq_getD_getElem?]; exact ht
  have hx' : tmps[s]?.getD undef = x := by rw [← Array.getD_eq_getD_getElem?]; exact hx
  have hp : ∀ a : Addr, asAddr (.pointer (some a)) = pure a := fun _ => rfl
  simp [results, h, ht', hx', hp, Sem.run_bind, Sem.run_pure, hv]
section
variable {P : Program} {fn : Func} {R : Ending → World → Prop} {a : Act} {w : World}
theorem ret_rowT {t s : Tmp} {g : Nat} {T ty : TypeId} {cs : Array Value} {x : Value} (h : fn.results = #[.cell t ty, .tmp s]) (ht : a.tmps.getD t undef = .pointer (some ⟨g, 0, none⟩)) (hx : a.tmps.getD s undef = x)
    (hg : RowK w g cs T) (n : Nat) (hn : cs.size = n) (hs : ∀ W, (sizeOf ty).run P W = .ok n W) (ha : ∀ W, (isAgg ty).run P W = .ok true W) (hd : a.defers = []) (hR : R (.returned (.tuple #[.agg cs, x])) w) : bodyPost P fn R .ret a w :=
  bodyPost_ret (results_rowT' h ht hx hg.out n hn hs ha) hd hR
theorem ret_row {t : Tmp} {g : Nat} {T ty : TypeId} {cs : Array Value} (h : fn.results = #[.cell t ty]) (ht : a.tmps.getD t undef = .pointer (some ⟨g, 0, none⟩))
    (hg : RowK w g cs T) (n : Nat) (hn : cs.size = n) (hs : ∀ W, (sizeOf ty).run P W = .ok n W) (ha : ∀ W, (isAgg ty).run P W = .ok true W) (hd : a.defers = []) (hR : R (.returned (.agg cs)) w) : bodyPost P fn R .ret a w :=
  bodyPost_ret (results_row h ht hg.out n hn hs ha) hd hR
theorem ret_one {s : Tmp} {x : Value} (h : fn.results = #[.tmp s]) (hx : a.tmps.getD s undef = x) (hd : a.defers = []) (hR : R (.returned x) w) : bodyPost P fn R .ret a w :=
  bodyPost_ret (by simp [results, h, ← Array.getD_eq_getD_getElem?, hx]) hd hR
theorem ret_two {s t : Tmp} {x y : Value} (h : fn.results = #[.tmp s, .tmp t]) (hx : a.tmps.getD s undef = x) (hy : a.tmps.getD t undef = y) (hd : a.defers = []) (hR : R (.returned (.tuple #[x, y])) w) : bodyPost P fn R .ret a w :=
  bodyPost_ret (by simp [results, h, ← Array.getD_eq_getD_getElem?, hx, hy, Sem.run_bind, Sem.run_pure]) hd hR
end
theorem ret_ret {w w' : World} {v u : Value} (h : v = u) (hl : LowK w w') : Ret w u (.returned v) w' := ⟨by rw [h], hl.out⟩
end Go.Proofs.YtaocnklolgdkfaaGreat
/- A region whose first m operations draw their order, with a chain among them that changes memory: relations of values, and a state of the memory for each stage of the chain. (Printed by genregj.py, a program of this session.) -/
namespace Go.Proofs.YtaocnklolgdkfaaGreat
open Go.RowKit
set_option linter.unusedVariables false
set_option linter.unusedSimpArgs false
/-- The chain's operations are among the first m, and each is bound behind all before it. -/
def chChk (l : List Oper) (m : Nat) (ch : List Nat) : Bool :=
  (List.range ch.length).all fun k => match ch[k]? with
    | none => true
    | some i => decide (i < m) && (List.range k).all fun k' => match ch[k']? with
        | none => true
        | some j => reachB l l.length i j && !(j == i)
theorem chChk_at {l : List Oper} {m : Nat} {ch : List Nat} (h : chChk l m ch = true) {k i : Nat} (hk : ch[k]? = some i) : i < m ∧ ∀ k' j, k' < k → ch[k']? = some j → reachB l l.length i j = true ∧ j ≠ i := by
  unfold chChk at h
  rw [List.all_eq_true] at h
  have h1 := h k (List.mem_range.2 (List.getElem?_eq_some_iff.1 hk).1)
  simp only [hk, Bool.and_eq_true, decide_eq_true_eq, List.all_eq_true] at h1
  refine ⟨h1.1, fun k' j hk' hj => ?_⟩
  have h2 := h1.2 k' (List.mem_range.2 hk')
  simp only [hj, Bool.and_eq_true] at h2
  exact ⟨h2.1, fun e => by have := h2.2; simp [e] at this⟩
/-- The next stage. -/
def nxJ (ch : List Nat) (s i : Nat) : Nat := if ch[s]? = some i then s + 1 else s
structure RInvJ (l : List Oper) (m : Nat) (ch : List Nat) (Rel : Nat → Value → World → Prop) (J : Nat → World → Prop) (a0 : Act) (s : Nat) (listed : Array Bool) (a : Act) (w : World) : Prop where
  df : a.defers = a0.defers
  sz : a.tmps.size = a0.tmps.size
  len : listed.size = l.length
  fr1 : ∀ (j : Nat) (o : Oper) (t : Nat), j < m → l[j]? = some o → o.dst = some t → listed.getD j false = true → Rel t (a.tmps.getD t undef) w
  fr0 : ∀ t : Nat, (∀ (j : Nat) (o : Oper), j < m → l[j]? = some o → o.dst = some t → listed.getD j false = false) → a.tmps.getD t undef = a0.tmps.getD t undef
  jj : J s w
  sle : s ≤ ch.length
  cs : ∀ (k i : Nat), ch[k]? = some i → (listed.getD i false = true ↔ k < s)
  rest : ∀ j, m ≤ j → listed.getD j false = false
  dc : ∀ (i : Nat) (o : Oper), l[i]? = some o → listed.getD i false = true → ∀ e ∈ o.after, Region.binds .any e = true → listed.getD e.on false = true
/-- What an operation of the region does at stage s. -/
structure OkJ (ch : List Nat) (P : Program) (ts : List Nat) (Rel : Nat → Value → World → Prop) (J : Nat → World → Prop) (Q : Exit → Act → World → Prop) (a0 : Act) (i : Nat) (o : Oper) : Prop where
  out : o.guard = none ∧ ∀ t, o.dst = some t → ∀ (s : Nat) (a : Act) (W : World), J s W → (ch.contains i = true → ch[s]? = some i) → (∀ u, (readsOf o).contains u = true → Taken ts Rel a0 a W u) →
    o.wp P a W (fun a' W' => ∃ v, a' = a.put o.dst v ∧ J (nxJ ch s i) W' ∧ Rel t v W' ∧ ∀ u x, ts.contains u = true → Rel u x W → Rel u x W') Q
def AllI (p : Nat → Oper → Prop) : Nat → List Oper → Prop
  | _, [] => True
  | i, o :: r => p i o ∧ AllI p (i + 1) r
theorem AllI.spec {p : Nat → Oper → Prop} : ∀ (l : List Oper) (k : Nat), AllI p k l → ∀ i o, l[i]? = some o → p (k + i) o
  | [], _, _, i, o, h => by simp at h
  | x :: r, k, h, 0, o, ho => by
    simp at ho; subst ho; exact h.1
  | x :: r, k, h, i + 1, o, ho => by
    have := AllI.spec r (k + 1) h.2 i o (by simpa using ho)
    have e : k + 1 + i = k + (i + 1) := by omega
    rw [← e]; exact this
section
variable {P : Program} {Q : Exit → Act → World → Prop} {l : List Oper} {a0 : Act} {w : World} {m : Nat} {ts : List Nat} {Rel : Nat → Value → World → Prop} {J : Nat → World → Prop} {ch : List Nat}
end
theorem nxJ_out {ch : List Nat} {s i : Nat} (h : ch.contains i = false) : nxJ ch s i = s := by
  unfold nxJ
  rw [if_neg]
  intro e
  rw [← Bool.not_eq_true] at h
  exact h (List.contains_iff_mem.2 (List.mem_of_getElem? e))
/-- An operation off the chain: memory below is as it was. -/
theorem OkJ.off {ch : List Nat} {P : Program} {rs : List (Nat × (Value → World → Prop))} {J : Nat → World → Prop} {Q : Exit → Act → World → Prop} {a0 : Act} {o : Oper} (i t : Nat) (hd : o.dst = some t) (hg : o.guard = none) (hc : ch.contains i = false)
    (mono : AllM rs) (monoJ : ∀ s W W', J s W → Below W.heap.size W W' → J s W')
    (h : ∀ (s : Nat) (a : Act) (W : World), J s W → (∀ u, (readsOf o).contains u = true → Taken (rs.map (·.1)) (relOf rs) a0 a W u) → relAt P o a W (relOf rs t) Q) : OkJ ch P (rs.map (·.1)) (relOf rs) J Q a0 i o :=
  ⟨hg, fun t' hd' s a W hJ _ hr => by
    rw [hd] at hd'; obtain rfl := Option.some.inj hd'
    refine Oper.wp_mono (fun a' W' h2 => ?_) (h s a W hJ hr).out
    obtain ⟨v, e, hb, hS⟩ := h2
    exact ⟨v, e, by rw [nxJ_out hc]; exact monoJ s W W' hJ hb, hS, fun u x _ hx => AllM.spec rs mono u x W W' hx hb⟩⟩
/-- The chain's k-th operation. -/
theorem OkJ.on {ch : List Nat} {P : Program} {rs : List (Nat × (Value → World → Prop))} {J : Nat → World → Prop} {Q : Exit → Act → World → Prop} {a0 : Act} {o : Oper} (i k t : Nat) (hd : o.dst = some t) (hg : o.guard = none) (hk : ch[k]? = some i) (nd : ch.Nodup)
    (h : ∀ (a : Act) (W : World), J k W → (∀ u, (readsOf o).contains u = true → Taken (rs.map (·.1)) (relOf rs) a0 a W u) →
      o.wp P a W (fun a' W' => ∃ v, a' = a.put o.dst v ∧ J (k + 1) W' ∧ relOf rs t v W' ∧ ∀ u x, (rs.map (·.1)).contains u = true → relOf rs u x W → relOf rs u x W') Q) : OkJ ch P (rs.map (·.1)) (relOf rs) J Q a0 i o :=
  ⟨hg, fun t' hd' s a W hJ hs hr => by
    rw [hd] at hd'; obtain rfl := Option.some.inj hd'
    have h1 := hs (List.contains_iff_mem.2 (List.mem_of_getElem? hk))
    have h2 : s = k := by
      have e1 := List.getElem?_eq_some_iff.1 h1
      have e2 := List.getElem?_eq_some_iff.1 hk
      exact (List.getElem_inj nd).1 (e1.2.trans e2.2.symm)
    subst h2
    have h3 : nxJ ch s i = s + 1 := by unfold nxJ; rw [if_pos h1]
    rw [h3]
    exact h a W hJ hr⟩
end Go.Proofs.YtaocnklolgdkfaaGreat
/- A region whose first m operations draw their order, with a chain among them that changes memory: the others yield one value each in whatever world the chain leaves; the chain's operations are walked one after the other, memory growing ahead of each. -/
namespace Go.Proofs.YtaocnklolgdkfaaGreat
open Go.RowKit
set_option linter.unusedVariables false
set_option linter.unusedSimpArgs false
/-- What stands behind one operation of a chain. -/
structure ChEnd (o : Oper) (a : Act) (KP : World → Prop) (X : Act → World → Prop) (e : Exit) (a' : Act) (W' : World) : Prop where
  e1 : e = .normal
  pv : ∃ v, a' = a.put o.dst v
  kp : KP W'
  nx : X a' W'
def wpCh (P : Program) (ops : Array Oper) (KP : World → Prop) (Q' : Act → World → Prop) : List Oper → Act → World → Prop
  | [], a, W => ∀ W1, Link W W1 → Q' a W1
  | o :: r, a, W => ∀ W1, Link W W1 → wpList P ops (fun e a' W' => ChEnd o a KP (wpCh P ops KP Q' r) e a' W') [o] a W1
/-- No chain operation has a guard; the others neither read what the chain yields nor hang on it. -/
def chanB (l : List Oper) (m : Nat) (ch : List Nat) : Bool := (List.range m).all fun i => match l[i]? with
  | none => true
  | some o => (if ch.contains i then o.guard.isNone else (match o.guard with | none => true | some (k, _) => !ch.contains k)
      && (readsOf o).all fun u => ch.all fun c => !((l[c]?.bind (·.dst)) == some u)) &&
    (!ch.contains i || (readsOf o).all fun u => (List.range m).all fun j => decide (j < i) || !((l[j]?.bind (·.dst)) == some u))
theorem chanB_at {l : List Oper} {m : Nat} {ch : List Nat} (h : chanB l m ch = true) {i : Nat} {o : Oper} (him : i < m) (hi : l[i]? = some o) :
    (ch.contains i = true → o.guard = none) ∧ (ch.contains i = false → (∀ k b, o.guard = some (k, b) → ch.contains k = false) ∧ ∀ u ∈ readsOf o, ∀ c oc, ch.contains c = true → l[c]? = some oc → oc.dst ≠ some u) := by
  unfold chanB at h
  rw [List.all_eq_true] at h
  have h1 := h i (List.mem_range.2 him)
  rw [hi] at h1
  simp only [Bool.and_eq_true] at h1
  have h2 := h1.1
  refine ⟨fun hc => ?_, fun hc => ⟨fun k b hg => ?_, fun u hu c oc hcc hco hd => ?_⟩⟩
  · rw [if_pos hc] at h2; simpa using h2
  · rw [if_neg (by rw [hc]; exact Bool.false_ne_true), hg] at h2
    simp only [Bool.and_eq_true] at h2
    simpa using h2.1
  · rw [if_neg (by rw [hc]; exact Bool.false_ne_true)] at h2
    simp only [Bool.and_eq_true, List.all_eq_true] at h2
    have h3 := h2.2 u hu c (List.contains_iff_mem.1 hcc)
    rw [hco] at h3
    simp [hd] at h3
def viaChkC (l : List Oper) (m N : Nat) (ch : List Nat) : Bool :=
  (List.range l.length).all fun i => match l[i]? with
    | none => true
    | some o => notSelect o && (o.after.all fun e => !Region.binds .any e || e.on < i) &&
      (if i < m then (match o.guard with | none => true | some (k, _) => bindsTo o k) &&
        (match o.dst with | some t => decide (t < N) | none => ch.contains i) &&
        ((readsOf o).all fun t => (List.range m).all fun j => match l[j]? with
            | none => true
            | some oj => !(oj.dst == some t) || bindsTo o j)
       else if i = m then (List.range m).all fun j => reachB l l.length i j
       else bindsTo o (i - 1))
theorem viaChkC_at {l : List Oper} {m N : Nat} {ch : List Nat} (chk : viaChkC l m N ch = true) {i : Nat} {o : Oper} (hi : l[i]? = some o) :
    (∀ cs b, o.op ≠ .select cs b) ∧ (∀ e ∈ o.after, Region.binds .any e = true → e.on < i) ∧
    (i < m → (∀ k b, o.guard = some (k, b) → bindsTo o k = true) ∧ (∀ t, o.dst = some t → t < N) ∧ (o.dst = none → ch.contains i = true) ∧ (∀ t ∈ readsOf o, ∀ j oj, j < m → l[j]? = some oj → oj.dst = some t → bindsTo o j = true)) ∧
    (i = m → ∀ j, j < m → reachB l l.length i j = true) ∧ (m < i → bindsTo o (i - 1) = true) := by
  unfold viaChkC at chk
  have hlt : i < l.length := (List.getElem?_eq_some_iff.1 hi).1
  have h := List.all_eq_true.1 chk i (List.mem_range.2 hlt)
  simp only [hi, Bool.and_eq_true] at h
  obtain ⟨⟨hns, haf⟩, hd⟩ := h
  refine ⟨?_, ?_, ?_, ?_, ?_⟩
  · intro cs b e; rw [notSelect, e] at hns; cases hns
  · intro e he hb
    have := (Array.all_eq_true_iff_forall_mem.1 haf) e he
    simpa [hb] using this
  · intro him
    rw [if_pos him] at hd
    simp only [Bool.and_eq_true] at hd
    obtain ⟨⟨hg, hd⟩, hr⟩ := hd
    refine ⟨?_, ?_, ?_, ?_⟩
    · intro k b e; rw [e] at hg; simpa using hg
    · intro t e; rw [e] at hd; simpa using hd
    · intro e; rw [e] at hd; exact hd
    · intro t ht j oj hjm hj hjd
      have h2 := List.all_eq_true.1 hr t ht
      have := List.all_eq_true.1 h2 j (List.mem_range.2 hjm)
      simpa [hj, hjd] using this
  · intro him j hj
    rw [if_neg (by omega), if_pos him] at hd
    exact List.all_eq_true.1 hd j (List.mem_range.2 hj)
  · intro him
    rw [if_neg (by omega), if_neg (by omega)] at hd
    exact hd
theorem any_tailC {P : Program} {Q : Exit → Act → World → Prop} {l : List Oper} {m N : Nat} {ch : List Nat} (chk : viaChkC l m N ch = true) : ∀ (fuel i : Nat) (listed : Array Bool) (a : Act) (W : World), m ≤ i → i ≤ l.length → listed.size = l.length →
    (∀ j, j < l.length → (listed.getD j false = true ↔ j < i)) → l.length - i ≤ fuel → wpList P l.toArray Q (l.drop i) a W → wpAny P .any l.toArray Q fuel listed a W := by
  intro fuel
  induction fuel with
  | zero =>
    intro i listed a W hmi hil hlen hls hf hw
    have hi : i = l.length := by omega
    subst hi
    refine ⟨?_, by rw [List.drop_length] at hw; exact hw⟩
    rw [List.eq_nil_iff_forall_not_mem]
    intro k hk
    obtain ⟨o, _, hkl, hk0, _⟩ := ready_mem hk hlen
    rw [(hls k hkl).2 hkl] at hk0; cases hk0
  | succ fuel ih =>
    intro i listed a W hmi hil hlen hls hf hw
    rcases Nat.lt_or_ge i l.length with hlt | hge
    · have hio : l[i]? = some l[i] := List.getElem?_eq_getElem hlt
      have hC := viaChkC_at chk hio
      have hd : l.drop i = l[i] :: l.drop (i + 1) := List.drop_eq_getElem_cons hlt
      rw [hd] at hw
      refine ⟨fun hr => ?_, fun k hk => ?_⟩
      · exfalso
        have hmem : i ∈ Region.ready .any l.toArray listed := by
          rw [mem_ready]
          refine ⟨?_, l[i], by simp, fun e he hbd => (hls _ (by have := hC.2.1 e he hbd; omega)).2 (hC.2.1 e he hbd)⟩
          have h1 : i < listed.size := by omega
          have h2 : listed.getD i false = false := by
            cases hb : listed.getD i false with
            | false => rfl
            | true => exact absurd ((hls i hlt).1 hb) (Nat.lt_irrefl _)
          simpa [h1] using h2
        rw [hr] at hmem; cases hmem
      · obtain ⟨o, hko, hkl, hk0, hall⟩ := ready_mem hk hlen
        have hki : k = i := by
          rcases Nat.lt_trichotomy k i with h | h | h
          · rw [(hls k hkl).2 h] at hk0; cases hk0
          · exact h
          · obtain ⟨e, he, hb, hon⟩ := bindsTo_spec ((viaChkC_at chk hko).2.2.2.2 (by omega))
            have := (hls (k - 1) (by omega)).1 (by rw [← hon]; exact hall e he hb)
            omega
        subst hki
        have heo : o = l[k] := by rw [hio] at hko; exact (Option.some.inj hko).symm
        subst heo
        have hk' : k < listed.size := by omega
        have step : ∀ a' W', wpList P l.toArray Q (l.drop (k + 1)) a' W' → wpAny P .any l.toArray Q fuel (listed.setIfInBounds k true) a' W' := by
          intro a' W' h
          refine ih (k + 1) _ a' W' (by omega) (by omega) (by simpa using hlen) (fun j hj => ?_) (by omega) h
          rw [getD_set _ _ _ hk']
          by_cases e : k = j
          · subst e; simp
          · rw [if_neg e, hls j hj]; omega
        unfold wpOp
        have hto : l.toArray[k]? = some l[k] := by simp
        simp only [hto]
        unfold wpList at hw
        split at hw
        · rename_i hwt
          rw [if_pos hwt]
          rcases hw with h | h
          · exact .inl (Oper.wp_mono step h)
          · exact .inr h
        · rename_i hwt
          rw [if_neg hwt]
          exact step _ _ hw
    · have hi : i = l.length := by omega
      subst hi
      rw [List.drop_length] at hw
      refine ⟨fun _ => hw, fun k hk => ?_⟩
      obtain ⟨o, _, hkl, hk0, _⟩ := ready_mem hk hlen
      rw [(hls k hkl).2 hkl] at hk0; cases hk0
/-- No two of the first m fill one slot. -/
def onceC (l : List Oper) (m : Nat) : Bool := (List.range m).all fun i => (List.range m).all fun j => (i == j) || (match l[i]?.bind (·.dst) with | none => true | some t => !((l[j]?.bind (·.dst)) == some t))
theorem onceC_at {l : List Oper} {m : Nat} (h : onceC l m = true) {i j t : Nat} {o o' : Oper} (hi : i < m) (hj : j < m) (hne : i ≠ j) (ho : l[i]? = some o) (ho' : l[j]? = some o') (hd : o.dst = some t) : o'.dst ≠ some t := by
  intro hd'
  unfold onceC at h
  have h1 := List.all_eq_true.1 (List.all_eq_true.1 h i (List.mem_range.2 hi)) j (List.mem_range.2 hj)
  rw [ho, ho'] at h1
  simp [hne, hd, hd'] at h1
theorem wp_other {P : Program} {o : Oper} {a b : Act} {W : World} {K : Act → World → Prop} {Qb Q : Exit → Act → World → Prop} (hE : execOp a.eval o = execOp b.eval o) (hQ : ∀ e a w, Qb e a w → e = .normal)
    (hK : ∀ a' w', K a' w' → ∃ v, a' = b.put o.dst v) (h : o.wp P b W K Qb) : o.wp P a W (fun a' w' => ∃ v, a' = a.put o.dst v ∧ K (b.put o.dst v) w') Q := by
  unfold Oper.wp at h ⊢
  rw [hE]
  generalize (execOp b.eval o).run P W = r at *
  cases r with
  | ok n w' =>
    cases n <;> simp only [Oper.upon] at h ⊢
    case value u => exact ⟨u, rfl, h⟩
    case skip => exact ⟨undef, rfl, h⟩
    case defer d =>
      exfalso
      obtain ⟨v, hv⟩ := hK _ _ h
      have := congrArg (fun x : Act => x.defers.length) hv
      simp only [put_defers, List.length_cons] at this
      omega
    case enter f args =>
      refine h.mono fun e w'' he => ?_
      cases e with
      | returned v => exact ⟨v, rfl, he⟩
      | panicked chain => exact absurd (hQ _ _ _ he) (by intro h; cases h)
      | outgrown => obtain ⟨a1, w1, h1⟩ := he; exact absurd (hQ _ _ _ h1) (by intro h; cases h)
    case row row args => exact h.mono fun v w'' he => ⟨v, rfl, he⟩
  | halt x w' =>
    cases x <;> simp only [Oper.upon] at h ⊢
    case panic v => exact absurd (hQ _ _ _ h) (by intro h; cases h)
structure RInvC (P : Program) (l : List Oper) (m : Nat) (ch : List Nat) (KP : World → Prop) (Q' : Act → World → Prop) (a0 aE : Act) (s : Nat) (aS : Act) (Ws : World) (listed : Array Bool) (a : Act) (w : World) : Prop where
  df : a.defers = a0.defers
  sz : a.tmps.size = a0.tmps.size
  len : listed.size = l.length
  fr1 : ∀ (j : Nat) (o : Oper) (t : Nat), j < m → l[j]? = some o → o.dst = some t → listed.getD j false = true → a.tmps.getD t undef = aS.tmps.getD t undef
  fr0 : ∀ t : Nat, (∀ (j : Nat) (o : Oper), j < m → l[j]? = some o → o.dst = some t → listed.getD j false = false) → a.tmps.getD t undef = a0.tmps.getD t undef
  sd : aS.defers = a0.defers
  ss : aS.tmps.size = a0.tmps.size
  sc : ∀ (j : Nat) (o : Oper) (t : Nat), j < m → l[j]? = some o → o.dst = some t → ch.contains j = false → aS.tmps.getD t undef = aE.tmps.getD t undef
  s0 : ∀ t : Nat, (∀ (j : Nat) (o : Oper), j < m → l[j]? = some o → o.dst ≠ some t) → aS.tmps.getD t undef = a0.tmps.getD t undef
  sq : wpCh P l.toArray KP Q' ((ch.drop s).filterMap fun i => l[i]?) aS Ws
  bl : Below Ws.heap.size Ws w
  kp : KP w
  sle : s ≤ ch.length
  cs : ∀ (k i : Nat), ch[k]? = some i → (listed.getD i false = true ↔ k < s)
  rest : ∀ j, m ≤ j → listed.getD j false = false
  dc : ∀ (i : Nat) (o : Oper), l[i]? = some o → listed.getD i false = true → ∀ e ∈ o.after, Region.binds .any e = true → listed.getD e.on false = true
section
variable {P : Program} {Q : Exit → Act → World → Prop} {l : List Oper} {a0 : Act} {w : World} {ch : List Nat} {KP : World → Prop}
theorem region_ch {id : Nat} (m : Nat) (ch : List Nat) (KP : World → Prop) (hm : P.follows .mixedOrders = true) (hml : m ≤ l.length)
    (chk : viaChkC l m a0.tmps.size ch = true) (hgd : guardsIn l m = true) (hon : onceC l m = true) (hch : chChk l m ch = true) (hcb : chanB l m ch = true)
    (hk : ∀ W W', KP W → Below W.heap.size W W' → KP W') (h0 : KP w)
    (H : ∃ aE, (∀ W0, KP W0 → ∀ G : Grow0 W0, wpQuiet P l.toArray (fun w' => ∃ g : Grow W0 G, w' = g.W) (fun a' => a' = aE) (((List.range m).filter fun i => !ch.contains i).filterMap fun i => l[i]?) a0) ∧
      wpCh P l.toArray KP (fun a' W' => wpList P l.toArray Q (l.drop m) a' W') (ch.filterMap fun i => l[i]?) aE w) :
    (Code.region id l.toArray true).wp P Q a0 w := by
  obtain ⟨aE, H1, H2⟩ := H
  generalize hr : ((List.range m).filter fun i => !ch.contains i).filterMap (fun i => l[i]?) = r at *
  -- the calm ones, by their place
  have hrm : ∀ o ∈ r, ∃ i, i < m ∧ l[i]? = some o ∧ ch.contains i = false := fun o ho => by
    rw [← hr] at ho
    obtain ⟨i, hi, hio⟩ := List.mem_filterMap.1 ho
    have := List.mem_filter.1 hi
    exact ⟨i, List.mem_range.1 this.1, hio, by simpa using this.2⟩
  have hrl : ∀ i o, i < m → l[i]? = some o → ch.contains i = false → o ∈ r := fun i o him hio hc => by
    rw [← hr]
    exact List.mem_filterMap.2 ⟨i, List.mem_filter.2 ⟨List.mem_range.2 him, by rw [hc]; rfl⟩, hio⟩
  -- the order of r is that of the text
  have hord : ∀ (j k : Nat) (o o' : Oper), r[j]? = some o → r[k]? = some o' → ∃ i i', i < m ∧ i' < m ∧ l[i]? = some o ∧ l[i']? = some o' ∧ ch.contains i = false ∧ ch.contains i' = false ∧ (j < k → i < i') ∧ (k < j → i' < i) ∧ (j = k → i = i') := by
    have key : ∀ (is : List Nat), is.Pairwise (· < ·) → (∀ i ∈ is, i < m ∧ ch.contains i = false) → ∀ (j k : Nat) (o o' : Oper), (is.filterMap fun i => l[i]?)[j]? = some o → (is.filterMap fun i => l[i]?)[k]? = some o' →
        ∃ i i', i ∈ is ∧ i' ∈ is ∧ l[i]? = some o ∧ l[i']? = some o' ∧ (j < k → i < i') ∧ (k < j → i' < i) ∧ (j = k → i = i') := by
      intro is
      induction is with
      | nil => intro _ _ j k o o' h; simp at h
      | cons x is ih =>
        intro hp hq j k o o' hj hk'
        rw [List.pairwise_cons] at hp
        have hl : ∃ ox, l[x]? = some ox := ⟨l[x]'(by have := (hq x (List.mem_cons_self ..)).1; omega), List.getElem?_eq_getElem _⟩
        obtain ⟨ox, hox⟩ := hl
        rw [List.filterMap_cons, hox] at hj hk'
        cases j with
        | zero =>
          simp only [List.getElem?_cons_zero, Option.some.injEq] at hj
          subst hj
          cases k with
          | zero =>
            simp only [List.getElem?_cons_zero, Option.some.injEq] at hk'
            subst hk'
            exact ⟨x, x, List.mem_cons_self .., List.mem_cons_self .., hox, hox, (fun h => by omega), (fun h => by omega), fun _ => rfl⟩
          | succ k =>
            rw [List.getElem?_cons_succ] at hk'
            obtain ⟨i, hi, hio⟩ := List.mem_filterMap.1 (List.mem_of_getElem? hk')
            exact ⟨x, i, List.mem_cons_self .., List.mem_cons_of_mem _ hi, hox, hio, fun _ => hp.1 i hi, (fun h => by omega), (fun h => by omega)⟩
        | succ j =>
          rw [List.getElem?_cons_succ] at hj
          cases k with
          | zero =>
            simp only [List.getElem?_cons_zero, Option.some.injEq] at hk'
            subst hk'
            obtain ⟨i, hi, hio⟩ := List.mem_filterMap.1 (List.mem_of_getElem? hj)
            exact ⟨i, x, List.mem_cons_of_mem _ hi, List.mem_cons_self .., hio, hox, (fun h => by omega), fun _ => hp.1 i hi, (fun h => by omega)⟩
          | succ k =>
            rw [List.getElem?_cons_succ] at hk'
            obtain ⟨i, i', h1, h2, h3, h4, h5, h6, h7⟩ := ih hp.2 (fun i hi => hq i (List.mem_cons_of_mem _ hi)) j k o o' hj hk'
            exact ⟨i, i', List.mem_cons_of_mem _ h1, List.mem_cons_of_mem _ h2, h3, h4, (fun h => h5 (by omega)), (fun h => h6 (by omega)), (fun h => h7 (by omega))⟩
    intro j k o o' hj hk'
    rw [← hr] at hj hk'
    obtain ⟨i, i', h1, h2, h3⟩ := key _ (List.Pairwise.filter _ List.pairwise_lt_range) (fun i hi => by have := List.mem_filter.1 hi; exact ⟨List.mem_range.1 this.1, by simpa using this.2⟩) j k o o' hj hk'
    have q1 := List.mem_filter.1 h1
    have q2 := List.mem_filter.1 h2
    exact ⟨i, i', List.mem_range.1 q1.1, List.mem_range.1 q2.1, h3.1, h3.2.1, by simpa using q1.2, by simpa using q2.2, h3.2.2⟩
  have hsome : ∀ o ∈ r, o.dst ≠ none := fun o ho => by
    obtain ⟨i, him, hi, hc⟩ := hrm o ho
    intro h
    rw [((viaChkC_at chk hi).2.2.1 him).2.2.1 h] at hc; cases hc
  have look : ∀ {C : World → Prop} {us : List (Nat × Value)}, QSteps P l.toArray C r us a0 → puts a0 us = aE → ∀ {i : Nat} {o : Oper} {t : Nat}, i < m → ch.contains i = false → l[i]? = some o → o.dst = some t →
      ∃ v, aE.tmps.getD t undef = v ∧ ((Region.wanted o (yielded l.toArray aE.tmps) = true ∧ ∀ w, C w → Oper.quietUpon P C w v ((execOp aE.eval o).run P w)) ∨ (Region.wanted o (yielded l.toArray aE.tmps) = false ∧ v = undef)) := by
    intro C us hus hue i o t him hic hi hd
    obtain ⟨ri, hri⟩ := List.getElem?_of_mem (hrl i o him hi hic)
    have place : ∀ k ok, r[k]? = some ok → ∃ i', i' < m ∧ l[i']? = some ok ∧ ch.contains i' = false ∧ (ri < k → i < i') ∧ (ri ≤ k → i ≤ i') := by
      intro k ok hk'
      obtain ⟨x, x', hx, hx', hxo, hxo', _, hc', h1, h2, h3⟩ := hord ri k o ok hri hk'
      have e : x = i := by
        rcases Nat.lt_trichotomy x i with h | h | h
        · exact absurd hd (onceC_at hon hx him (by omega) hxo hi hd)
        · exact h
        · exact absurd hd (onceC_at hon him hx (by omega) hi hxo hd)
      subst e
      refine ⟨x', hx', hxo', hc', h1, fun h => ?_⟩
      rcases Nat.lt_or_ge ri k with h4 | h4
      · exact Nat.le_of_lt (h1 h4)
      · have := h3 (by omega); omega
    obtain ⟨t', v, ai, hd', hy, hsz, hv, hread⟩ := QSteps.at _ _ _ hus ri o hri
    rw [hd] at hd'; obtain rfl := Option.some.inj hd'
    rw [hue] at hv hread
    have hC := viaChkC_at chk hi
    have hCm := hC.2.2.1 him
    have hCb := (chanB_at hcb him hi).2 hic
    have htN := hCm.2.1 t hd
    have hval := hv htN (fun j o' hij hj => by obtain ⟨i', hi'm, hi', _, hlt, _⟩ := place j o' hj; exact onceC_at hon him hi'm (by have := hlt hij; omega) hi hi' hd)
    have heq : execOp ai.eval o = execOp aE.eval o := execOp_congr o hC.1 (fun x hx => by
      cases x with
      | tmp u =>
        refine hread u (fun j o' hij hj hdu => ?_)
        obtain ⟨i', hi'm, hi', _, _, hle⟩ := place j o' hj
        obtain ⟨e, he, hb, hon'⟩ := bindsTo_spec (hCm.2.2.2 u (List.mem_filterMap.2 ⟨.tmp u, by simpa using hx, rfl⟩) i' o' hi'm hi' hdu)
        have := hC.2.1 e he hb
        have := hle hij
        omega
      | _ => rfl)
    have hwe : Region.wanted o (yielded l.toArray ai.tmps) = Region.wanted o (yielded l.toArray aE.tmps) := by
      unfold Region.wanted
      cases hg : o.guard with
      | none => rfl
      | some kb =>
        obtain ⟨k, b⟩ := kb
        obtain ⟨e, he, hb, hon'⟩ := bindsTo_spec (hCm.1 k b hg)
        have hki := hC.2.1 e he hb
        rw [hon'] at hki
        have : yielded l.toArray ai.tmps k = yielded l.toArray aE.tmps k := yielded_congr (by rw [hsz, ← hue, puts_size]) (fun ok tk hk' hdk => hread tk (fun j o' hij hj hdj => by
          obtain ⟨i', hi'm, hi', _, _, hle⟩ := place j o' hj
          exact onceC_at hon (by omega) hi'm (by have := hle hij; omega) (show l[k]? = some ok by simpa using hk') hi' hdk hdj))
        simp only [this]
    refine ⟨v, hval, ?_⟩
    rcases hy with ⟨hw, hq⟩ | ⟨hw, hu⟩
    · exact .inl ⟨by rw [← hwe]; exact hw, fun w hw' => by have := hq w hw'; unfold Oper.quietAt at this; rwa [heq] at this⟩
    · exact .inr ⟨by rw [← hwe]; exact hw, hu⟩
  obtain ⟨us0, hus0, hue0⟩ := quiet_out _ _ hsome (H1 w h0 ⟨w, Below.refl _ _⟩)
  have hEs : aE.tmps.size = a0.tmps.size := by rw [← hue0, puts_size]
  have hEd : aE.defers = a0.defers := by rw [← hue0, puts_defers]
  have hE0 : ∀ u, (∀ (j : Nat) (o : Oper), j < m → l[j]? = some o → ch.contains j = false → o.dst ≠ some u) → aE.tmps.getD u undef = a0.tmps.getD u undef := fun u hu => by
    rw [← hue0]
    refine puts_other u us0 a0 (fun kv hk' e => ?_)
    obtain ⟨j, o, hj, hd⟩ := QSteps.key _ _ _ hus0 kv hk'
    obtain ⟨i, him, hi, hc⟩ := hrm o (List.mem_of_getElem? hj)
    exact hu i o him hi hc (by rw [hd, e])
  refine wp_region_any hm ?_
  have key : ∀ (fuel s : Nat) (aS : Act) (Ws : World) (listed : Array Bool) (a : Act) (W : World), RInvC P l m ch KP (fun a' W' => wpList P l.toArray Q (l.drop m) a' W') a0 aE s aS Ws listed a W →
      (List.range m).countP (fun i => !listed.getD i true) + (l.length - m) ≤ fuel → wpAny P .any l.toArray Q fuel listed a W := by
    intro fuel
    have fin : ∀ (fuel s : Nat) (aS : Act) (Ws : World) (listed : Array Bool) (a : Act) (W : World), RInvC P l m ch KP (fun a' W' => wpList P l.toArray Q (l.drop m) a' W') a0 aE s aS Ws listed a W → (∀ j, j < m → listed.getD j false = true) → l.length - m ≤ fuel → wpAny P .any l.toArray Q fuel listed a W := by
      intro fuel s aS Ws listed a W hI hall hf
      have hs : s = ch.length := by
        rcases Nat.lt_or_ge s ch.length with h | h
        · exfalso
          have hk' : ch[s]? = some ch[s] := List.getElem?_eq_getElem h
          exact absurd ((hI.cs s _ hk').1 (hall _ (chChk_at hch hk').1)) (by omega)
        · have := hI.sle; omega
      have ea : a = aS := by
        refine act_ext _ _ (by rw [hI.df, hI.sd]) (by rw [hI.sz, hI.ss]) (fun t ht => ?_)
        by_cases hw : ∃ (j : Nat) (o : Oper), j < m ∧ l[j]? = some o ∧ o.dst = some t
        · obtain ⟨j, o, hjm, hj, ho⟩ := hw
          exact hI.fr1 j o t hjm hj ho (hall j hjm)
        · rw [hI.fr0 t (fun j o hjm hj ho => (hw ⟨j, o, hjm, hj, ho⟩).elim)]
          exact (hI.s0 t (fun j o hjm hj ho => hw ⟨j, o, hjm, hj, ho⟩)).symm
      have hq := hI.sq
      rw [hs, List.drop_length] at hq
      have hq2 := hq W ⟨hI.bl⟩
      rw [← ea] at hq2
      refine any_tailC chk fuel m listed _ W (Nat.le_refl _) hml hI.len (fun j hj => ⟨fun h => ?_, fun h => hall j h⟩) hf hq2
      rcases Nat.lt_or_ge j m with h2 | h2
      · exact h2
      · rw [hI.rest j h2] at h; cases h
    -- what an operation that may come up reads
    have look2 : ∀ (s : Nat) (aS : Act) (Ws : World) (listed : Array Bool) (a : Act) (W : World), RInvC P l m ch KP (fun a' W' => wpList P l.toArray Q (l.drop m) a' W') a0 aE s aS Ws listed a W → ∀ (i : Nat) (o : Oper), i < m → l[i]? = some o →
        (∀ e ∈ o.after, Region.binds .any e = true → listed.getD e.on false = true) → ∀ t ∈ readsOf o, a.tmps.getD t undef = aS.tmps.getD t undef := by
      intro s aS Ws listed a W hI i o him hi hall t ht
      have h := ((viaChkC_at chk hi).2.2.1 him).2.2.2 t ht
      by_cases hw : ∃ (j : Nat) (oj : Oper), j < m ∧ l[j]? = some oj ∧ oj.dst = some t
      · obtain ⟨j, oj, hjm, hj, hjd⟩ := hw
        obtain ⟨e, he, hb, hon'⟩ := bindsTo_spec (h j oj hjm hj hjd)
        exact hI.fr1 j oj t hjm hj hjd (by rw [← hon']; exact hall e he hb)
      · rw [hI.fr0 t (fun j oj hjm hj ho => (hw ⟨j, oj, hjm, hj, ho⟩).elim)]
        exact (hI.s0 t (fun j oj hjm hj ho => hw ⟨j, oj, hjm, hj, ho⟩)).symm
    induction fuel with
    | zero =>
      intro s aS Ws listed a W hI hc
      refine fin 0 s aS Ws listed a W hI (fun j hj => ?_) (by omega)
      have h0 : (List.range m).countP (fun i => !listed.getD i true) = 0 := by omega
      rw [List.countP_eq_zero] at h0
      have := h0 j (List.mem_range.2 hj)
      have hj' : j < listed.size := by rw [hI.len]; omega
      simpa [hj'] using this
    | succ fuel ih =>
      intro s aS Ws listed a W hI hc
      by_cases hall : ∀ j, j < m → listed.getD j false = true
      · exact fin _ s aS Ws listed a W hI hall (by omega)
      · have hno : ∀ i, i ∈ Region.ready .any l.toArray listed → i < m := by
          intro i hi
          rcases Nat.lt_or_ge i m with h | h
          · exact h
          · exfalso
            obtain ⟨o, hio, hil, hi0, ha⟩ := ready_mem hi hI.len
            rcases Nat.eq_or_lt_of_le h with h2 | h2
            · refine hall (fun j hj => ?_)
              exact reach_listed hI.dc _ i j o hio ha ((viaChkC_at chk hio).2.2.2.1 h2.symm j hj)
            · obtain ⟨e, he, hb, hon'⟩ := bindsTo_spec ((viaChkC_at chk hio).2.2.2.2 h2)
              have h3 := ha e he hb
              rw [hon', hI.rest (i - 1) (by omega)] at h3; cases h3
        refine ⟨fun hr0 => ?_, fun i hi => ?_⟩
        · exfalso
          have all : ∀ i, i < l.length → listed.getD i false = true := by
            intro i
            induction i using Nat.strongRecOn with
            | _ i ih2 =>
              intro hi
              cases hb : listed.getD i false with
              | true => rfl
              | false =>
                exfalso
                have ho : l[i]? = some l[i] := List.getElem?_eq_getElem hi
                have hmem : i ∈ Region.ready .any l.toArray listed := by
                  rw [mem_ready]
                  refine ⟨?_, l[i], by simp, fun e he hbd => ?_⟩
                  · have : i < listed.size := by have := hI.len; omega
                    simp [this] at hb ⊢; exact hb
                  · exact ih2 e.on ((viaChkC_at chk ho).2.1 e he hbd) (by have := (viaChkC_at chk ho).2.1 e he hbd; omega)
                rw [hr0] at hmem; cases hmem
          exact hall (fun j hj => all j (by omega))
        · have him := hno i hi
          obtain ⟨o, hio, hil, hi0, hal⟩ := ready_mem hi hI.len
          have hil' : i < listed.size := by rw [hI.len]; exact hil
          have ho : l.toArray[i]? = some o := by simpa using hio
          have hC := viaChkC_at chk hio
          have hCm := hC.2.2.1 him
          have hcnt : (List.range m).countP (fun j => !(listed.setIfInBounds i true).getD j true) + (l.length - m) ≤ fuel := by
            have := count_lt (fun j => !listed.getD j true) (fun j => !(listed.setIfInBounds i true).getD j true) (fun j hj => by
                by_cases e : i = j
                · subst e; simp [hil'] at hj
                · rw [getD_set_ne true e] at hj; exact hj) i (by simpa [hil'] using hi0) (by simp [hil']) (List.range m) (List.mem_range.2 him)
            omega
          have dcS : ∀ (i2 : Nat) (o2 : Oper), l[i2]? = some o2 → (listed.setIfInBounds i true).getD i2 false = true → ∀ e ∈ o2.after, Region.binds .any e = true → (listed.setIfInBounds i true).getD e.on false = true := by
            intro j oj hj hl e he hb
            rw [getD_set _ _ _ hil']
            by_cases ei : i = e.on
            · rw [if_pos ei]
            · rw [if_neg ei]
              rw [getD_set _ _ _ hil'] at hl
              by_cases ej : i = j
              · subst ej; rw [hio] at hj; obtain rfl := Option.some.inj hj; exact hal e he hb
              · rw [if_neg ej] at hl; exact hI.dc j oj hj hl e he hb
          have hi0f : listed.getD i false = false := by simpa [hil'] using hi0
          have restS : ∀ j, m ≤ j → (listed.setIfInBounds i true).getD j false = false := fun j hj => by rw [getD_set _ _ _ hil', if_neg (by omega)]; exact hI.rest j hj
          have hrd := look2 s aS Ws listed a W hI i o him hio hal
          have heqs : execOp a.eval o = execOp aS.eval o := execOp_congr o hC.1 (fun x hx => by
            cases x with
            | tmp u => exact hrd u (List.mem_filterMap.2 ⟨.tmp u, by simpa using hx, rfl⟩)
            | _ => rfl)
          -- another slot than i's, filled before
          have fr0S : ∀ (v : Value) (u : Nat), (∀ (j : Nat) (o : Oper), j < m → l[j]? = some o → o.dst = some u → (listed.setIfInBounds i true).getD j false = false) → (a.put o.dst v).tmps.getD u undef = a0.tmps.getD u undef := by
            intro v u hnu
            have hou : o.dst ≠ some u := fun e => by
              have := hnu i o him hio e
              rw [getD_set _ _ _ hil', if_pos rfl] at this; cases this
            have e0 : (a.put o.dst v).tmps.getD u undef = a.tmps.getD u undef := by
              cases hd : o.dst with
              | none => rfl
              | some t => exact put_get_ne _ _ _ _ (fun e => hou (by rw [hd, e]))
            rw [e0]
            refine hI.fr0 u (fun j oj hjm hj hjd => ?_)
            have := hnu j oj hjm hj hjd
            rw [getD_set _ _ _ hil'] at this
            by_cases e : i = j
            · rw [if_pos e] at this; cases this
            · rw [if_neg e] at this; exact this
          cases hic : ch.contains i with
          | false =>
            obtain ⟨t, hdst⟩ : ∃ t, o.dst = some t := by
              cases hd : o.dst with
              | some t => exact ⟨t, rfl⟩
              | none => rw [hCm.2.2.1 hd] at hic; cases hic
            have htN := hCm.2.1 t hdst
            rw [hdst] at fr0S
            have hCb := (chanB_at hcb him hio).2 hic
            -- what it reads stands in aE too
            have hrE : ∀ u ∈ readsOf o, aS.tmps.getD u undef = aE.tmps.getD u undef := fun u hu => by
              by_cases hw : ∃ (j : Nat) (oj : Oper), j < m ∧ l[j]? = some oj ∧ oj.dst = some u
              · obtain ⟨j, oj, hjm, hj, hjd⟩ := hw
                refine hI.sc j oj u hjm hj hjd ?_
                cases hcj : ch.contains j with
                | false => rfl
                | true => exact absurd hjd (hCb.2 u hu j oj hcj hj)
              · rw [hI.s0 u (fun j oj hjm hj ho => hw ⟨j, oj, hjm, hj, ho⟩), hE0 u (fun j oj hjm hj _ ho => hw ⟨j, oj, hjm, hj, ho⟩)]
            have heqE : execOp aS.eval o = execOp aE.eval o := execOp_congr o hC.1 (fun x hx => by
              cases x with
              | tmp u => exact hrE u (List.mem_filterMap.2 ⟨.tmp u, by simpa using hx, rfl⟩)
              | _ => rfl)
            have hwe : Region.wanted o (yielded l.toArray a.tmps) = Region.wanted o (yielded l.toArray aE.tmps) := by
              unfold Region.wanted
              cases hg : o.guard with
              | none => rfl
              | some kb =>
                obtain ⟨k, b⟩ := kb
                obtain ⟨e, he, hb, hon'⟩ := bindsTo_spec (hCm.1 k b hg)
                have hkm := guardsIn_at hgd him hio hg
                have hlk : listed.getD k false = true := by rw [← hon']; exact hal e he hb
                have : yielded l.toArray a.tmps k = yielded l.toArray aE.tmps k := yielded_congr (by rw [hI.sz, hEs]) (fun ok tk hk' hdk => by
                  have hk2 : l[k]? = some ok := by simpa using hk'
                  rw [hI.fr1 k ok tk hkm hk2 hdk hlk]
                  exact hI.sc k ok tk hkm hk2 hdk (hCb.1 k b hg))
                simp only [this]
            have step : ∀ W', KP W' → Below W.heap.size W W' → wpAny P .any l.toArray Q fuel (listed.setIfInBounds i true) (a.put (some t) (aE.tmps.getD t undef)) W' := by
              intro W' hkW hWW
              refine ih s aS Ws _ _ _ ⟨by rw [put_defers]; exact hI.df, by rw [put_size]; exact hI.sz, by simpa using hI.len, ?_, fr0S _, hI.sd, hI.ss, hI.sc, hI.s0, hI.sq, below_tr' hI.bl hWW, hkW, hI.sle, ?_, restS, dcS⟩ hcnt
              · intro j oj u hjm hj hjd hl
                by_cases htu : t = u
                · subst htu
                  rw [put_get_same _ _ _ (by rw [hI.sz]; exact htN)]
                  exact (hI.sc i o t him hio hdst hic).symm
                · rw [put_get_ne _ _ _ _ htu]
                  rw [getD_set _ _ _ hil'] at hl
                  by_cases e : i = j
                  · subst e; rw [hio] at hj; obtain rfl := Option.some.inj hj; rw [hdst] at hjd; exact (htu (Option.some.inj hjd)).elim
                  · rw [if_neg e] at hl; exact hI.fr1 j oj u hjm hj hjd hl
              · intro k c hk'
                rw [getD_set _ _ _ hil', if_neg (fun e => by subst e; rw [List.contains_iff_mem.2 (List.mem_of_getElem? hk')] at hic; cases hic)]
                exact hI.cs k c hk'
            unfold wpOp
            simp only [ho]
            obtain ⟨us, hus, hue⟩ := quiet_out _ _ hsome (H1 W hI.kp ⟨W, Below.refl _ _⟩)
            obtain ⟨v, hv, h'⟩ := look hus hue him hic hio hdst
            rcases h' with ⟨hw, hq⟩ | ⟨hw, hu⟩
            · rw [hwe, hw]
              simp only [if_true]
              refine .inl ?_
              have hcalm := calmRun_of_quiet (w := W) (G := ⟨W, Below.refl _ _⟩) (hq W ⟨⟨W, Below.refl _ _⟩, rfl⟩)
              have hcalm' : calmAt P o a.eval W v := by
                refine ⟨?_⟩; have hh := hcalm.out; unfold calmRun at hh ⊢; rw [heqs, heqE]; exact hh
              refine wp_of_calm hcalm' (fun W' hb => ?_)
              rw [hdst, ← hv]
              exact step W' (hk _ _ hI.kp hb) hb
            · rw [hwe, hw]
              simp only [Bool.false_eq_true, if_false, hdst]
              rw [hu] at hv
              rw [← hv]
              exact step W hI.kp (Below.refl _ _)
          | true =>
            have hgn := (chanB_at hcb him hio).1 hic
            have hw : Region.wanted o (yielded l.toArray a.tmps) = true := by unfold Region.wanted; rw [hgn]
            have hws : Region.wanted o (yielded l.toArray aS.tmps) = true := by unfold Region.wanted; rw [hgn]
            have hstage : ch[s]? = some i := by
              obtain ⟨k, hkl, hk'⟩ := List.mem_iff_getElem.1 (List.contains_iff_mem.1 hic)
              have hk2 : ch[k]? = some i := by rw [← hk']; exact List.getElem?_eq_getElem hkl
              have h1 : ¬ k < s := fun h => by rw [(hI.cs k i hk2).2 h] at hi0f; cases hi0f
              have h2 : k ≤ s := by
                rcases Nat.eq_zero_or_pos k with e | e
                · omega
                · have hq : ch[k - 1]? = some ch[k - 1] := List.getElem?_eq_getElem (by omega)
                  have h3 := ((chChk_at hch hk2).2 (k - 1) _ (by omega) hq).1
                  have h4 := (hI.cs _ _ hq).1 (reach_listed hI.dc _ i _ o hio hal h3)
                  omega
              have h5 : k = s := by omega
              rw [← h5]; exact hk2
            have hsl : s < ch.length := (List.getElem?_eq_some_iff.1 hstage).1
            have hsq := hI.sq
            rw [List.drop_eq_getElem_cons hsl, List.filterMap_cons, show ch[s] = i from (List.getElem?_eq_some_iff.1 hstage).2, hio] at hsq
            have hone := hsq W ⟨hI.bl⟩
            unfold wpList at hone
            rw [if_pos hws] at hone
            have hwp := hone.resolve_right (fun ⟨_, a1, w1, h1⟩ => by cases h1.1)
            unfold wpOp
            simp only [ho, hw, if_true]
            refine .inl (Oper.wp_mono (fun a' W' h => ?_) (wp_other (Q := Q) heqs (fun e a w h => h.e1) (fun a' w' h => h.pv) hwp))
            obtain ⟨v, rfl, _, _, hkW, hsqn⟩ := h
            refine ih (s + 1) (aS.put o.dst v) W' _ _ _ ⟨by rw [put_defers]; exact hI.df, by rw [put_size]; exact hI.sz, by simpa using hI.len, ?_, fr0S _, by rw [put_defers]; exact hI.sd, by rw [put_size]; exact hI.ss, ?_, ?_, hsqn, Below.refl _ _, hkW, hsl, ?_, restS, dcS⟩ hcnt
            · intro j oj u hjm hj hjd hl
              have other : o.dst ≠ some u → (a.put o.dst v).tmps.getD u undef = a.tmps.getD u undef ∧ (aS.put o.dst v).tmps.getD u undef = aS.tmps.getD u undef := fun hou => by
                cases hd : o.dst with
                | none => exact ⟨rfl, rfl⟩
                | some t => exact ⟨put_get_ne _ _ _ _ (fun e => hou (by rw [hd, e])), put_get_ne _ _ _ _ (fun e => hou (by rw [hd, e]))⟩
              by_cases hou : o.dst = some u
              · have htN := hCm.2.1 u hou
                rw [hou, put_get_same _ _ _ (by rw [hI.sz]; exact htN), put_get_same _ _ _ (by rw [hI.ss]; exact htN)]
              · rw [(other hou).1, (other hou).2]
                rw [getD_set _ _ _ hil'] at hl
                by_cases e : i = j
                · subst e; rw [hio] at hj; obtain rfl := Option.some.inj hj; exact (hou hjd).elim
                · rw [if_neg e] at hl; exact hI.fr1 j oj u hjm hj hjd hl
            · intro j oj u hjm hj hjd hjc
              have hou : o.dst ≠ some u := fun e => by
                have hne : j ≠ i := fun e => by rw [e, hic] at hjc; cases hjc
                exact onceC_at hon him hjm (fun h => hne h.symm) hio hj e hjd
              have e0 : (aS.put o.dst v).tmps.getD u undef = aS.tmps.getD u undef := by
                cases hd : o.dst with
                | none => rfl
                | some t => exact put_get_ne _ _ _ _ (fun e => hou (by rw [hd, e]))
              rw [e0]
              exact hI.sc j oj u hjm hj hjd hjc
            · intro u hu
              have e0 : (aS.put o.dst v).tmps.getD u undef = aS.tmps.getD u undef := by
                cases hd : o.dst with
                | none => rfl
                | some t => exact put_get_ne _ _ _ _ (fun e => hu i o him hio (by rw [hd, e]))
              rw [e0]
              exact hI.s0 u hu
            · intro k c hk'
              rw [getD_set _ _ _ hil']
              by_cases hcc : i = c
              · subst hcc
                have h2 : k = s := by
                  rcases Nat.lt_trichotomy k s with h | h | h
                  · exact absurd rfl ((chChk_at hch hstage).2 k i h hk').2
                  · exact h
                  · exact absurd rfl ((chChk_at hch hk').2 s i h hstage).2
                rw [if_pos rfl]
                exact ⟨fun _ => by omega, fun _ => rfl⟩
              · rw [if_neg hcc, hI.cs k c hk']
                have hne : k ≠ s := fun e => by rw [e, hstage] at hk'; exact hcc (Option.some.inj hk')
                omega
  refine key _ 0 aE w _ _ _ ⟨rfl, rfl, by simp, ?_, ?_, hEd, hEs, fun _ _ _ _ _ _ _ => rfl, ?_, by rw [List.drop_zero]; exact H2, ⟨rfl, rfl, rfl, Nat.le_refl _, fun _ _ => rfl⟩, ?_, Nat.zero_le _, ?_, ?_, ?_⟩ ?_
  · intro j o t _ hj hjd hl; rw [rep_false] at hl; cases hl
  · intro t _; rfl
  · intro t ht; exact hE0 t (fun j o hjm hj _ => ht j o hjm hj)
  · exact hk _ _ h0 ⟨rfl, rfl, rfl, Nat.le_refl _, fun _ _ => rfl⟩
  · intro k i _; rw [rep_false]; exact ⟨(fun h => by cases h), (fun h => by omega)⟩
  · intro j _; exact rep_false _ _
  · intro j o _ hl; rw [rep_false] at hl; cases hl
  · have : (List.range m).countP (fun i => !(Array.replicate l.toArray.size false).getD i true) ≤ m := Nat.le_trans List.countP_le_length (by simp)
    simp at this ⊢; omega
end
section
variable {P : Program} {Q : Exit → Act → World → Prop} {l : List Oper} {a0 : Act} {w : World}
theorem region_CH {id : Nat} (m : Nat) (ch : List Nat) (KP : World → Prop) {ms mc : List Bool} {rl cl : List Oper} (hpk : Pick l ms rl) (hpc : Pick l mc cl) (hm : P.follows .mixedOrders = true) (hml : m ≤ l.length)
    (hrl : (((List.range m).filter fun i => !ch.contains i).filterMap fun i => l[i]?) = rl) (hcl : (ch.filterMap fun i => l[i]?) = cl)
    (chk : viaChkC l m a0.tmps.size ch = true) (hgd : guardsIn l m = true) (hon : onceC l m = true) (hch : chChk l m ch = true) (hcb : chanB l m ch = true)
    (hk : ∀ W W', KP W → Link W W' → KP W') (h0 : KP w)
    (H : ∃ aE, (∀ W0, KP W0 → ∀ G : Grow0 W0, wpQuiet P l.toArray (fun w' => ∃ g : Grow W0 G, w' = g.W) (fun a' => a' = aE) rl a0) ∧
      wpCh P l.toArray KP (fun a' W' => wpList P l.toArray Q (l.drop m) a' W') cl aE w) :
    (Code.region id l.toArray true).wp P Q a0 w := by
  subst hrl
  subst hcl
  exact region_ch m ch KP hm hml chk hgd hon hch hcb (fun W W' h hb => hk W W' h ⟨hb⟩) h0 H
theorem ch_step {ops : Array Oper} {KP : World → Prop} {Q' : Act → World → Prop} {o : Oper} {r : List Oper} {a : Act} {W : World} (h : ∀ W1, Link W W1 → wpList P ops (fun e a' W' => ChEnd o a KP (wpCh P ops KP Q' r) e a' W') [o] a W1) : wpCh P ops KP Q' (o :: r) a W := h
theorem ch_nil {ops : Array Oper} {KP : World → Prop} {Q' : Act → World → Prop} {a : Act} {W : World} (h : ∀ W1, Link W W1 → Q' a W1) : wpCh P ops KP Q' [] a W := h
end
end Go.Proofs.YtaocnklolgdkfaaGreat
/- Contracts: a map's numbers in one list; its determinant; whether numbers are a map, a conic: the program. -/
namespace Go.Proofs.YtaocnklolgdkfaaGreat
open Go.RowKit
set_option linter.unusedVariables false
set_option linter.unusedSimpArgs false
set_option maxRecDepth 10000 in
theorem flat_any (x0 x1 x2 x3 x4 x5 x6 x7 x8 : Int) (w : World) :
    Calls Tryz.prog 100 #[.agg #[.int .i64 x0, .int .i64 x1, .int .i64 x2, .int .i64 x3, .int .i64 x4, .int .i64 x5, .int .i64 x6, .int .i64 x7, .int .i64 x8]] w (OwnI w.heap.size w [x0, x1, x2, x3, x4, x5, x6, x7, x8]) := by
  go_enter Tryz.func100, Tryz.ntmps100
  go_wp2
  refine region_via 6 [(3, .pointer (some ⟨w.heap.size, 0, none⟩)), (4, .slice (some ⟨w.heap.size, 0, none⟩) 3 3), (5, .pointer (some ⟨w.heap.size, 3, none⟩)), (6, .slice (some ⟨w.heap.size, 3, none⟩) 3 3), (7, .pointer (some ⟨w.heap.size, 6, none⟩)), (8, .slice (some ⟨w.heap.size, 6, none⟩) 3 3)] (by kernel_rfl) (by decide) (by kernel_rfl) (by kernel_rfl) (by kernel_rfl) (fun aE hpe => ?_)
  simp only [puts, Act.put, List.setIfInBounds_toArray, List.set_cons_zero, List.set_cons_succ] at hpe
  subst hpe
  refine ⟨⟨.inr (.inr ?_), .inr (.inr ?_), .inr (.inr ?_), .inr (.inr ?_), .inr (.inr ?_), .inr (.inr ?_), trivial⟩, ?_⟩
  · exact CalmG.mk 3 (.pointer (some ⟨w.heap.size, 0, none⟩)) rfl rfl rfl (fun W hW => calm_run (by simp [execOp, Act.eval, go_sem]))
  · exact CalmG.mk 4 (.slice (some ⟨w.heap.size, 0, none⟩) 3 3) rfl rfl rfl (fun W hW => calm_run (by simp [execOp, Act.eval, go_sem]))
  · exact CalmG.mk 5 (.pointer (some ⟨w.heap.size, 3, none⟩)) rfl rfl rfl (fun W hW => calm_run (by simp [execOp, Act.eval, go_sem]))
  · exact CalmG.mk 6 (.slice (some ⟨w.heap.size, 3, none⟩) 3 3) rfl rfl rfl (fun W hW => calm_run (by simp [execOp, Act.eval, go_sem]))
  · exact CalmG.mk 7 (.pointer (some ⟨w.heap.size, 6, none⟩)) rfl rfl rfl (fun W hW => calm_run (by simp [execOp, Act.eval, go_sem]))
  · exact CalmG.mk 8 (.slice (some ⟨w.heap.size, 6, none⟩) 3 3) rfl rfl rfl (fun W hW => calm_run (by simp [execOp, Act.eval, go_sem]))
  intro W hW
  simp only [List.drop_succ_cons, List.drop_zero]
  have hg : W.heap[w.heap.size]? = some (.cells #[.int .i64 x0, .int .i64 x1, .int .i64 x2, .int .i64 x3, .int .i64 x4, .int .i64 x5, .int .i64 x6, .int .i64 x7, .int .i64 x8] 31 (0, 0)) := by rw [hW.block _ (by simp), hn_atN _ _ _ (by simp)]
  have HB := Lib.hid hW
  have hgl := (Array.getElem?_eq_some_iff.1 hg).1
  have HC := Lib.hid (fun (W' : World) (hW' : Below W.heap.size W W') (h : Nat) h0 h1 h2 => concat9 h w.heap.size 3 3 3 [x0, x1, x2, x3, x4, x5, x6, x7, x8] W' rfl (fun i hi => by
    rw [cell_of_row W' _ (0 + i) _ _ _ (by rw [hW'.block _ hgl]; exact hg), Nat.zero_add]
    match i, hi with
    | 0, _ => rfl
    | 1, _ => rfl
    | 2, _ => rfl
    | 3, _ => rfl
    | 4, _ => rfl
    | 5, _ => rfl
    | 6, _ => rfl
    | 7, _ => rfl
    | 8, _ => rfl) h0 h1 h2)
  clear hW hg
  go_wp2_with (go_at_call 119; (refine (HC.out _ (bal (Below.refl _ _) _) _ (by exact (World.cell?_alloc_at _ _ _ _ rfl)) (by exact (World.cell?_alloc_at _ _ _ _ rfl)) (by exact (World.cell?_alloc_at _ _ _ _ rfl))).mono ?_); rintro e w1 ⟨v1, rfl, ho, hb⟩; have HO1 := Lib.hid ho; have HB1 := Lib.hid hb; have hs1 := hb.size; clear ho hb)
  go_ret
  have hq : Below w.heap.size w w1 := (by repeat (first | exact Below.refl _ _ | refine bset ?_ _ _ (by omega) _ | refine bal ?_ _ | refine bdrN ?_ _ | refine bdr ?_ | refine below_tr' ?_ HB1.out | refine below_tr' ?_ HB.out))
  refine ⟨_, rfl, own_low HO1.out (by have := HB.out.size; simp at this ⊢; omega), hq⟩
/-- An owned list of numbers, laid open. -/
theorem ownInts {W : World} {base : Nat} {T : TypeId} {v : Value} {l : List Int} {n : Nat} (h : W.ownsRow base T 1 v n (ints l)) (hl : l.length = n) (hn : 0 < n) :
    ∃ g cap, v = .slice (some ⟨g, 0, none⟩) n cap ∧ ∀ i, i < n → W.cell? ⟨g, 0 + i, none⟩ = some (.int .i64 (l.getD i 0)) := by
  rcases h.2 with ⟨_, h0⟩ | ⟨g, cap, cur, rfl, hb, hg, hle, _, hsz, htk⟩
  · omega
  · refine ⟨g, cap, rfl, fun i hi => ?_⟩
    rw [cell_of_row W g _ _ _ _ hg, Nat.zero_add]
    have h1 : cur.toList[i]? = (ints l)[i]? := by rw [← htk, List.getElem?_take_of_lt (by omega)]
    have h2 : cur[i]? = cur.toList[i]? := by simp
    rw [h2, h1]
    have : i < l.length := by omega
    simp [ints, List.getD, this]
def mapB (p : Int) (l : List Int) (d : Int) : Bool := prB p && (normB p l && (d % p != 0))
theorem nums_at {p : Int} {l : List Int} (h : normB p l = true) {x : Int} (hx : x ∈ l) : 0 ≤ x ∧ x ≤ p - 1 := by
  unfold normB numsB at h
  simp only [Bool.and_eq_true] at h
  exact numB_iff.1 (List.all_eq_true.1 h.2 x hx)
theorem map_in13 {p x0 x1 x2 x3 x4 x5 x6 x7 x8 : Int} (hp : prB p = true) (h : normB p [x0, x1, x2, x3, x4, x5, x6, x7, x8] = true) : In13 (x0, x1, x2) ∧ In13 (x3, x4, x5) ∧ In13 (x6, x7, x8) := by
  have hb := prB_bd hp
  have k : ∀ x ∈ [x0, x1, x2, x3, x4, x5, x6, x7, x8], 0 ≤ x ∧ x ≤ 12 := fun x hx => by have := nums_at h hx; omega
  exact ⟨⟨k _ (by simp), k _ (by simp), k _ (by simp)⟩, ⟨k _ (by simp), k _ (by simp), k _ (by simp)⟩, ⟨k _ (by simp), k _ (by simp), k _ (by simp)⟩⟩
theorem det_any (p x0 x1 x2 x3 x4 x5 x6 x7 x8 : Int) (w : World) (hp : prB p = true) (h0 : In13 (x0, x1, x2)) (h1 : In13 (x3, x4, x5)) (h2 : In13 (x6, x7, x8)) :
    Calls Tryz.prog 59 #[.agg #[.int .i64 x0, .int .i64 x1, .int .i64 x2, .int .i64 x3, .int .i64 x4, .int .i64 x5, .int .i64 x6, .int .i64 x7, .int .i64 x8], .int .i64 p] w (Ret w (.int .i64 (detZ (x0, x1, x2) (x3, x4, x5) (x6, x7, x8) % p))) := by
  have HD := Lib.hid (fun (W : World) => determinant_any p x0 x1 x2 x3 x4 x5 x6 x7 x8 W hp h0 h1 h2)
  generalize detZ (x0, x1, x2) (x3, x4, x5) (x6, x7, x8) % p = d at *
  clear hp h0 h1 h2
  go_enter Tryz.func59, Tryz.ntmps59
  go_wp2_with (go_at_call 84; (with_reducible refine (HD.out _).mono ?_); rintro e w1_ ⟨rfl, hb1⟩; obtain ⟨hcb1, hfb1, hlb1⟩ := bcell hb1; have hsz1 := hb1.size; (try simp at hsz1); have HB1 := Lib.hid hb1; clear hb1)
  go_ret
  exact ⟨rfl, (by repeat (first | exact Below.refl _ _ | refine bset ?_ _ _ (by omega) _ | refine bal ?_ _ | refine bdrN ?_ _ | refine bdr ?_ | refine below_tr' ?_ HB1.out))⟩
set_option maxRecDepth 10000 in
theorem IsMap_any (p x0 x1 x2 x3 x4 x5 x6 x7 x8 : Int) (w : World) :
    Calls Tryz.prog 78 #[.int .i64 p, .agg #[.int .i64 x0, .int .i64 x1, .int .i64 x2, .int .i64 x3, .int .i64 x4, .int .i64 x5, .int .i64 x6, .int .i64 x7, .int .i64 x8]] w (Ret w (.bool (mapB p [x0, x1, x2, x3, x4, x5, x6, x7, x8] (detZ (x0, x1, x2) (x3, x4, x5) (x6, x7, x8))))) := by
  generalize hd : detZ (x0, x1, x2) (x3, x4, x5) (x6, x7, x8) = d
  cases hp : prB p with
  | false =>
    have HP := Lib.hid hp
    have HE := Lib.hid (show mapB p [x0, x1, x2, x3, x4, x5, x6, x7, x8] d = false by unfold mapB; rw [hp]; rfl)
    clear hp hd
    go_enter Tryz.func78, Tryz.ntmps78
    go_wp2_with (go_at_call 25; refine (isPrime_no _ _ HP.out).mono ?_; rintro e w' ⟨rfl, rfl⟩)
    go_ret
    exact ⟨ret_bool HE.out.symm, (by repeat (first | exact Below.refl _ _ | refine bset ?_ _ _ (by omega) _ | refine bal ?_ _ | refine bdrN ?_ _ | refine bdr ?_))⟩
  | true =>
    have HP := Lib.hid hp
    have hb := prB_bd hp
    have HF := Lib.hid (fun (W : World) => flat_any x0 x1 x2 x3 x4 x5 x6 x7 x8 W)
    have HN := Lib.hid (fun (W : World) (g cap : Nat) hc => isNormal_any p g 0 9 cap [x0, x1, x2, x3, x4, x5, x6, x7, x8] W hb.1 hb.2 rfl (by omega) hc)
    cases hn : normB p [x0, x1, x2, x3, x4, x5, x6, x7, x8] with
    | false =>
      have HE := Lib.hid (show mapB p [x0, x1, x2, x3, x4, x5, x6, x7, x8] d = false by unfold mapB; rw [hp, hn]; rfl)
      rw [hn] at HN
      clear hp hn hd hb
      go_enter Tryz.func78, Tryz.ntmps78
      go_wp2_with (first
        | (go_at_call 25; refine (isPrime_yes _ _ HP.out).mono ?_; rintro e w' ⟨rfl, rfl⟩)
        | (go_at_call 100; (with_reducible refine (HF.out _).mono ?_); rintro e w1 ⟨v1, rfl, ho, hb⟩; obtain ⟨g, cap, rfl, hpt⟩ := ownInts (n := 9) ho rfl (by omega); have HO1 := Lib.hid hpt; have HB1 := Lib.hid hb; clear ho hb hpt)
        | (go_at_call 99; refine (HN.out _ _ _ HO1.out).mono ?_; rintro e w' ⟨rfl, rfl⟩))
      go_ret
      exact ⟨ret_bool HE.out.symm, (by repeat (first | exact Below.refl _ _ | refine bset ?_ _ _ (by omega) _ | refine bal ?_ _ | refine bdrN ?_ _ | refine bdr ?_ | refine below_tr' ?_ HB1.out))⟩
    | true =>
      obtain ⟨i0, i1, i2⟩ := map_in13 hp hn
      have HE := Lib.hid (show mapB p [x0, x1, x2, x3, x4, x5, x6, x7, x8] d = (d % p != 0) by unfold mapB; rw [hp, hn]; rfl)
      have HD := Lib.hid (fun (W : World) => det_any p x0 x1 x2 x3 x4 x5 x6 x7 x8 W hp i0 i1 i2)
      rw [hn] at HN
      rw [hd] at HD
      clear hp hn hd hb i0 i1 i2
      generalize d % p = r at *
      go_enter Tryz.func78, Tryz.ntmps78
      go_wp2_with (first
        | (go_at_call 25; refine (isPrime_yes _ _ HP.out).mono ?_; rintro e w' ⟨rfl, rfl⟩)
        | (go_at_call 100; (with_reducible refine (HF.out _).mono ?_); rintro e w1 ⟨v1, rfl, ho, hb⟩; obtain ⟨g, cap, rfl, hpt⟩ := ownInts (n := 9) ho rfl (by omega); obtain ⟨hcb1, hfb1, hlb1⟩ := bcell hb; have hsz1 := hb.size; (try simp at hsz1); have hl1 : w.heap.size < w1.heap.size := (by omega); have HO1 := Lib.hid hpt; have HB1 := Lib.hid hb; clear ho hb hpt)
        | (go_at_call 99; refine (HN.out _ _ _ HO1.out).mono ?_; rintro e w' ⟨rfl, rfl⟩)
        | (go_at_call 59; (with_reducible refine (HD.out _).mono ?_); rintro e w2_ ⟨rfl, hb2⟩; obtain ⟨hcb2, hfb2, hlb2⟩ := bcell hb2; have hsz2 := hb2.size; (try simp at hsz2); have HB2 := Lib.hid hb2; clear hb2))
      go_ret
      exact ⟨ret_bool HE.out.symm, (by repeat (first | exact Below.refl _ _ | refine bset ?_ _ _ (by omega) _ | refine bal ?_ _ | refine bdrN ?_ _ | refine bdr ?_ | refine below_tr' ?_ HB2.out | refine below_tr' ?_ HB1.out))⟩
end Go.Proofs.YtaocnklolgdkfaaGreat
/- Contracts: whether a desk is one: the program. -/
namespace Go.Proofs.YtaocnklolgdkfaaGreat
open Go.RowKit
set_option linter.unusedVariables false
set_option linter.unusedSimpArgs false
end Go.Proofs.YtaocnklolgdkfaaGreat
/- Contracts: the reference's normal map. (Printed by genm4.py, a program of this session.) -/
namespace Go.Proofs.YtaocnklolgdkfaaGreat
open Go.RowKit
set_option linter.unusedVariables false
set_option linter.unusedSimpArgs false
theorem own_ne {W : World} {base : Nat} {T T' : TypeId} {v : Value} {n g : Nat} {xs : List Value} {cs : Array Value} (h : W.ownsRow base T 1 v n xs) (hg : W.heap[g]? = some (.cells cs T' (0, 0))) (hT : T ≠ T') : v.ownBlock ≠ some g := by
  rcases h.2 with ⟨rfl, _⟩ | ⟨g', cap, cur, rfl, hb, hg', _⟩
  · intro e; simp [Value.ownBlock] at e
  · intro e
    have : g' = g := by simpa [Value.ownBlock] using e
    subst this
    rw [hg] at hg'
    simp only [Option.some.injEq, Obj.cells.injEq] at hg'
    exact hT hg'.2.1.symm
theorem setCell_heap {W : World} {g : Nat} {cs : Array Value} {T : TypeId} {fr : Nat × Nat} (h : W.heap[g]? = some (.cells cs T fr)) (j : Nat) (v : Value) : (W.setCell ⟨g, j, none⟩ v).heap[g]? = some (.cells (cs.setIfInBounds j v) T fr) := by
  simp [World.setCell, Array.getElem?_modify, h]
theorem calm_build {P : Program} {o : Oper} {ρ : Operand → Value} {W : World} (t : TypeId) (parts : Array (Nat × Operand)) (U : Array Value) (ho : o.op = .build t parts) (hb : P.built t (parts.map fun (i, x) => (i, ρ x)).toList = some U) : calmAt P o ρ W (.agg U) := by
  refine calm_run ?_
  unfold execOp
  simp only [ho, Sem.run_bind, run_build W t _ U hb, Result.andThen_ok, Sem.run_pure]
theorem ownInts' {W : World} {base : Nat} {T : TypeId} {v : Value} {l : List Int} {n : Nat} (h : W.ownsRow base T 1 v n (ints l)) (hl : l.length = n) (hn : 0 < n) :
    ∃ g cap, v = .slice (some ⟨g, 0, none⟩) n cap ∧ base ≤ g ∧ ∀ i, i < n → W.cell? ⟨g, 0 + i, none⟩ = some (.int .i64 (l.getD i 0)) := by
  obtain ⟨g, cap, rfl, hp⟩ := ownInts h hl hn
  refine ⟨g, cap, rfl, ?_, hp⟩
  rcases h.2 with ⟨h0, _⟩ | ⟨g', cap', cur, h1, hb, _⟩
  · cases h0
  · cases h1; exact hb
/-- What has been laid in of the normal map after k rows. -/
def outC (k : Nat) (n0 n1 n2 n3 n4 n5 n6 n7 n8 : Int) : Array Value := match k with
  | 0 => #[.int .i64 0, .int .i64 0, .int .i64 0, .int .i64 0, .int .i64 0, .int .i64 0, .int .i64 0, .int .i64 0, .int .i64 0]
  | 1 => #[.int .i64 n0, .int .i64 n1, .int .i64 n2, .int .i64 0, .int .i64 0, .int .i64 0, .int .i64 0, .int .i64 0, .int .i64 0]
  | 2 => #[.int .i64 n0, .int .i64 n1, .int .i64 n2, .int .i64 n3, .int .i64 n4, .int .i64 n5, .int .i64 0, .int .i64 0, .int .i64 0]
  | _ => #[.int .i64 n0, .int .i64 n1, .int .i64 n2, .int .i64 n3, .int .i64 n4, .int .i64 n5, .int .i64 n6, .int .i64 n7, .int .i64 n8]
set_option maxRecDepth 20000 in
set_option maxHeartbeats 4000000 in
theorem l02Normal_any (p x0 x1 x2 x3 x4 x5 x6 x7 x8 : Int) (w : World) (hp : prB p = true) (hx : ∀ x ∈ [x0, x1, x2, x3, x4, x5, x6, x7, x8], -4611686018427387904 ≤ x ∧ x ≤ 4611686018427387904) (f : Int) (hf : facL p [x0, x1, x2, x3, x4, x5, x6, x7, x8] = f) :
    Calls Tryz.prog 104 #[.int .i64 p, .agg #[.int .i64 x0, .int .i64 x1, .int .i64 x2, .int .i64 x3, .int .i64 x4, .int .i64 x5, .int .i64 x6, .int .i64 x7, .int .i64 x8]] w (Ret w (.agg #[.int .i64 (x0 % p * f % p), .int .i64 (x1 % p * f % p), .int .i64 (x2 % p * f % p), .int .i64 (x3 % p * f % p), .int .i64 (x4 % p * f % p), .int .i64 (x5 % p * f % p), .int .i64 (x6 % p * f % p), .int .i64 (x7 % p * f % p), .int .i64 (x8 % p * f % p)])) := by
  obtain ⟨i0, hi, hz0, hz1, hz2⟩ := info_parts info64
  have HI0 := Lib.hid hi; have HZ0 := Lib.hid hz0; have HZ1 := Lib.hid hz1; have HZ2 := Lib.hid hz2
  have HNo := Lib.hid (fun (W : World) (g cap : Nat) hc => l01Norm_any p g 0 9 cap [x0, x1, x2, x3, x4, x5, x6, x7, x8] W hp rfl (by omega) hc (fun i hi => hx _ (by
    have hl : i < [x0, x1, x2, x3, x4, x5, x6, x7, x8].length := hi
    simp only [List.getD, List.getElem?_eq_getElem hl, Option.getD_some]
    exact List.getElem_mem hl)))
  have HNl := Lib.hid (show normL p [x0, x1, x2, x3, x4, x5, x6, x7, x8] = [x0 % p * f % p, x1 % p * f % p, x2 % p * f % p, x3 % p * f % p, x4 % p * f % p, x5 % p * f % p, x6 % p * f % p, x7 % p * f % p, x8 % p * f % p] by unfold normL; rw [hf]; rfl)
  clear hi hz0 hz1 hz2 hp hx hf
  generalize x0 % p * f % p = n0 at *
  generalize x1 % p * f % p = n1 at *
  generalize x2 % p * f % p = n2 at *
  generalize x3 % p * f % p = n3 at *
  generalize x4 % p * f % p = n4 at *
  generalize x5 % p * f % p = n5 at *
  generalize x6 % p * f % p = n6 at *
  generalize x7 % p * f % p = n7 at *
  generalize x8 % p * f % p = n8 at *
  generalize nzB p [x0, x1, x2, x3, x4, x5, x6, x7, x8] = nz at *
  go_enter Tryz.func104, Tryz.ntmps104
  go_wp2_with (refine wpList_store_row _ rfl 31 _ _ rfl rfl rfl rfl (heap_alloc_new _ _) rfl Tryz.sizeOf31 (by simp [Value.oneCell']) ?_; rw [alloc_setRow])
  go_loopw [5, 7] (fun v i wr => ∃ k : Nat, k ≤ 3 ∧ i = .int .i64 k ∧ Hid (wr.ownsRow (w.heap.size + 1 + 1) 2 1 v (3 * k) (ints ([x0, x1, x2, x3, x4, x5, x6, x7, x8].take (3 * k)))) ∧ wr.heap[w.heap.size]? = some (.cells #[.int .i64 x0, .int .i64 x1, .int .i64 x2, .int .i64 x3, .int .i64 x4, .int .i64 x5, .int .i64 x6, .int .i64 x7, .int .i64 x8] 31 (0, 0)) ∧ wr.heap[w.heap.size + 1]? = some (.cells #[.int .i64 0, .int .i64 0, .int .i64 0, .int .i64 0, .int .i64 0, .int .i64 0, .int .i64 0, .int .i64 0, .int .i64 0] 31 (0, 0)) ∧ wr.heap[w.heap.size + 1 + 1 + 1]? = some (.cells #[.int .i64 0, .int .i64 0, .int .i64 0, .int .i64 0, .int .i64 0, .int .i64 0, .int .i64 0, .int .i64 0, .int .i64 0] 31 (0, 0)) ∧ Hid (Below w.heap.size w wr)) (fun _ i wr => 3 - (intOf i).toNat)
  case atStart =>
    refine ⟨0, by omega, rfl, Lib.hid ?_, ?_, ?_, ?_, Lib.hid (by repeat (first | exact Below.refl _ _ | refine bset ?_ _ _ (by omega) _ | refine bal ?_ _ | refine bdrN ?_ _ | refine bdr ?_))⟩
    · exact ⟨rfl, .inr ⟨w.heap.size + 1 + 1, 0, #[], rfl, Nat.le_refl _, by rw [hn_pastN _ _ _ (by first | omega | (simp; done) | (simp; omega)), hn_atN _ _ _ (by simp)], Nat.le_refl _, by unfold maxLen; omega, rfl, rfl⟩⟩
    · rw [hn_pastN _ _ _ (by first | omega | (simp; done) | (simp; omega)), hn_pastN _ _ _ (by first | omega | (simp; done) | (simp; omega)), hn_pastN _ _ _ (by first | omega | (simp; done) | (simp; omega)), hn_atN _ _ _ (by simp)]
    · rw [hn_pastN _ _ _ (by first | omega | (simp; done) | (simp; omega)), hn_pastN _ _ _ (by first | omega | (simp; done) | (simp; omega)), hn_atN _ _ _ (by simp)]
    · rw [hn_atN _ _ _ (by simp)]
  case round =>
    obtain ⟨k, hk, rfl, HO, km, kr, ko, HB⟩ := hrel
    rcases (show k = 0 ∨ k = 1 ∨ k = 2 ∨ k = 3 by omega) with rfl | rfl | rfl | rfl
    · clear hk
      have lm := (Array.getElem?_eq_some_iff.1 km).1
      have lr := (Array.getElem?_eq_some_iff.1 kr).1
      have lo := (Array.getElem?_eq_some_iff.1 ko).1
      go_wp2
      refine region_boxvia 14 13 30 (fun g => .slice (some ⟨g, 0, none⟩) 3 3) #[.int .i64 x0, .int .i64 x1, .int .i64 x2] 2 [(17, u5), (18, .int .i64 0), (19, .pointer (some ⟨w.heap.size, 0, none⟩)), (20, .pointer (some ⟨w.heap.size, 0, none⟩)), (21, .int .i64 x0), (22, .int .i64 0), (23, .pointer (some ⟨w.heap.size, 0, none⟩)), (24, .pointer (some ⟨w.heap.size, 1, none⟩)), (25, .int .i64 x1), (26, .int .i64 0), (27, .pointer (some ⟨w.heap.size, 0, none⟩)), (28, .pointer (some ⟨w.heap.size, 2, none⟩)), (29, .int .i64 x2)] (by kernel_rfl) (by decide) rfl (by kernel_rfl) (by kernel_rfl) (by kernel_rfl) (by decide) (by simp) (by kernel_rfl) (fun aE hpe => ?_)
      simp only [puts, Act.put, List.setIfInBounds_toArray, List.set_cons_zero, List.set_cons_succ] at hpe
      subst hpe
      refine ⟨?_, ⟨.inr (.inr ?_), .inr (.inr ?_), .inr (.inr ?_), .inr (.inr ?_), .inr (.inr ?_), .inr (.inr ?_), .inr (.inr ?_), .inr (.inr ?_), .inr (.inr ?_), .inr (.inr ?_), .inr (.inr ?_), .inr (.inr ?_), .inr (.inr ?_), .inl rfl, trivial⟩, ?_⟩
      · intro ρ W hr
        have r0 : ρ (.tmp 21) = .int .i64 x0 := hr 21 (by simp [readsOf, Op.operands])
        have r1 : ρ (.tmp 25) = .int .i64 x1 := hr 25 (by simp [readsOf, Op.operands])
        have r2 : ρ (.tmp 29) = .int .i64 x2 := hr 29 (by simp [readsOf, Op.operands])
        simp [execOp, go_sem, r0, r1, r2]
      · exact CalmG.mk 17 (u5) rfl rfl rfl (fun W hW => calm_move (.tmp 5) rfl rfl)
      · exact CalmG.mk 18 (.int .i64 0) rfl rfl rfl (fun W hW => calm_move (.tmp 7) rfl rfl)
      · exact CalmG.mk 19 (.pointer (some ⟨w.heap.size, 0, none⟩)) rfl rfl rfl (fun W hW => calm_run (by first | (simp [execOp, Act.eval, go_sem]; done) | (simp [execOp, Act.eval, go_sem]; rfl)))
      · exact CalmG.mk 20 (.pointer (some ⟨w.heap.size, 0, none⟩)) rfl rfl rfl (fun W hW => calm_run (by first | (simp [execOp, Act.eval, go_sem]; done) | (simp [execOp, Act.eval, go_sem]; rfl)))
      · exact CalmG.mk 21 (.int .i64 x0) rfl rfl rfl (fun W hW => calm_run (by have hc : W.cell? ⟨w.heap.size, 0, none⟩ = some (.int .i64 x0) := (by rw [cell_of_row W _ 0 _ _ _ (by rw [hW.block _ lm]; exact km)]; rfl); simp [execOp, Act.eval, go_sem, hc]))
      · exact CalmG.mk 22 (.int .i64 0) rfl rfl rfl (fun W hW => calm_move (.tmp 7) rfl rfl)
      · exact CalmG.mk 23 (.pointer (some ⟨w.heap.size, 0, none⟩)) rfl rfl rfl (fun W hW => calm_run (by first | (simp [execOp, Act.eval, go_sem]; done) | (simp [execOp, Act.eval, go_sem]; rfl)))
      · exact CalmG.mk 24 (.pointer (some ⟨w.heap.size, 1, none⟩)) rfl rfl rfl (fun W hW => calm_run (by first | (simp [execOp, Act.eval, go_sem]; done) | (simp [execOp, Act.eval, go_sem]; rfl)))
      · exact CalmG.mk 25 (.int .i64 x1) rfl rfl rfl (fun W hW => calm_run (by have hc : W.cell? ⟨w.heap.size, 1, none⟩ = some (.int .i64 x1) := (by rw [cell_of_row W _ 1 _ _ _ (by rw [hW.block _ lm]; exact km)]; rfl); simp [execOp, Act.eval, go_sem, hc]))
      · exact CalmG.mk 26 (.int .i64 0) rfl rfl rfl (fun W hW => calm_move (.tmp 7) rfl rfl)
      · exact CalmG.mk 27 (.pointer (some ⟨w.heap.size, 0, none⟩)) rfl rfl rfl (fun W hW => calm_run (by first | (simp [execOp, Act.eval, go_sem]; done) | (simp [execOp, Act.eval, go_sem]; rfl)))
      · exact CalmG.mk 28 (.pointer (some ⟨w.heap.size, 2, none⟩)) rfl rfl rfl (fun W hW => calm_run (by first | (simp [execOp, Act.eval, go_sem]; done) | (simp [execOp, Act.eval, go_sem]; rfl)))
      · exact CalmG.mk 29 (.int .i64 x2) rfl rfl rfl (fun W hW => calm_run (by have hc : W.cell? ⟨w.heap.size, 2, none⟩ = some (.int .i64 x2) := (by rw [cell_of_row W _ 2 _ _ _ (by rw [hW.block _ lm]; exact km)]; rfl); simp [execOp, Act.eval, go_sem, hc]))
      intro g W hW hg hgc
      simp only [List.drop_succ_cons, List.drop_zero, Act.put, List.setIfInBounds_toArray, List.set_cons_zero, List.set_cons_succ]
      have jm : W.heap[w.heap.size]? = some (.cells #[.int .i64 x0, .int .i64 x1, .int .i64 x2, .int .i64 x3, .int .i64 x4, .int .i64 x5, .int .i64 x6, .int .i64 x7, .int .i64 x8] 31 (0, 0)) := by rw [hW.block _ lm]; exact km
      have jr : W.heap[w.heap.size + 1]? = some (.cells #[.int .i64 0, .int .i64 0, .int .i64 0, .int .i64 0, .int .i64 0, .int .i64 0, .int .i64 0, .int .i64 0, .int .i64 0] 31 (0, 0)) := by rw [hW.block _ lr]; exact kr
      have jo : W.heap[w.heap.size + 1 + 1 + 1]? = some (.cells #[.int .i64 0, .int .i64 0, .int .i64 0, .int .i64 0, .int .i64 0, .int .i64 0, .int .i64 0, .int .i64 0, .int .i64 0] 31 (0, 0)) := by rw [hW.block _ lo]; exact ko
      have HO2 := Lib.hid (own_below HO.out hW)
      have HB2 := Lib.hid (low_tr' HB.out hW HB.out.size)
      have HS := Lib.hid (show [x0, x1, x2, x3, x4, x5, x6, x7, x8].take (3 * 0) ++ [x0, x1, x2] = [x0, x1, x2, x3, x4, x5, x6, x7, x8].take (3 * 1) from rfl)
      have d0 : W.cell? ⟨g, 0, none⟩ = some (.int .i64 x0) := by rw [cell_of_row W _ 0 _ _ _ hgc]; rfl
      have d1 : W.cell? ⟨g, 0 + 1, none⟩ = some (.int .i64 x1) := by rw [cell_of_row W _ 1 _ _ _ hgc]; rfl
      have d2 : W.cell? ⟨g, 0 + 2, none⟩ = some (.int .i64 x2) := by rw [cell_of_row W _ 2 _ _ _ hgc]; rfl
      have HD := Lib.hid (src3 d0 d1 d2)
      have hsz : w.heap.size + 1 + 1 ≤ W.heap.size := by have := (Array.getElem?_eq_some_iff.1 jo).1; omega
      have Jm := Lib.hid jm
      have Jr := Lib.hid jr
      have Jo := Lib.hid jo
      clear km kr ko HO HB hW hgc d0 d1 d2 jm jr jo lm lr lo
      go_wp2_with (at_builtin; refine wpList_append_own _ rfl _ _ 34 rfl (w.heap.size + 1 + 1) 2 i0 (.int .i64 0) 1 8 Tryz.underlying34 HI0.out HZ0.out HZ1.out HZ2.out rfl (by decide) _ _ _ rfl HO2.out ⟨g, 0, none⟩ 3 3 [.int .i64 x0, .int .i64 x1, .int .i64 x2] rfl rfl HD.out (oneP _ _ _) (by unfold maxLen; omega) (by omega) hsz ?_; intro v2 w2 hown hgrow _; have HO3 := Lib.hid hown; have HG := Lib.hid hgrow; clear hown hgrow)
      have hb := own_base' HO2.out
      have ne : ∀ a, a < w.heap.size + 1 + 1 → some a ≠ u5.ownBlock := fun a ha e => by have := hb a e.symm; omega
      have neo : some (w.heap.size + 1 + 1 + 1) ≠ u5.ownBlock := fun e => own_ne HO2.out Jo.out (by decide) e.symm
      go_roundw
      case rel => exact ⟨1, by omega, rfl, Lib.hid (by rw [← HS.out, ints_app]; exact HO3.out), by rw [HG.out.block _ (Array.getElem?_eq_some_iff.1 Jm.out).1 (ne _ (by omega))]; exact Jm.out, by rw [HG.out.block _ (Array.getElem?_eq_some_iff.1 Jr.out).1 (ne _ (by omega))]; exact Jr.out, by rw [HG.out.block _ (Array.getElem?_eq_some_iff.1 Jo.out).1 neo]; exact Jo.out, Lib.hid (HB2.out.grown HG.out HB2.out.size (fun k' hk' => by have := hb k' hk'; omega))⟩
      case measure => simp [intOf]
    · clear hk
      have lm := (Array.getElem?_eq_some_iff.1 km).1
      have lr := (Array.getElem?_eq_some_iff.1 kr).1
      have lo := (Array.getElem?_eq_some_iff.1 ko).1
      go_wp2
      refine region_boxvia 14 13 30 (fun g => .slice (some ⟨g, 0, none⟩) 3 3) #[.int .i64 x3, .int .i64 x4, .int .i64 x5] 2 [(17, u5), (18, .int .i64 1), (19, .pointer (some ⟨w.heap.size, 3, none⟩)), (20, .pointer (some ⟨w.heap.size, 3, none⟩)), (21, .int .i64 x3), (22, .int .i64 1), (23, .pointer (some ⟨w.heap.size, 3, none⟩)), (24, .pointer (some ⟨w.heap.size, 4, none⟩)), (25, .int .i64 x4), (26, .int .i64 1), (27, .pointer (some ⟨w.heap.size, 3, none⟩)), (28, .pointer (some ⟨w.heap.size, 5, none⟩)), (29, .int .i64 x5)] (by kernel_rfl) (by decide) rfl (by kernel_rfl) (by kernel_rfl) (by kernel_rfl) (by decide) (by simp) (by kernel_rfl) (fun aE hpe => ?_)
      simp only [puts, Act.put, List.setIfInBounds_toArray, List.set_cons_zero, List.set_cons_succ] at hpe
      subst hpe
      refine ⟨?_, ⟨.inr (.inr ?_), .inr (.inr ?_), .inr (.inr ?_), .inr (.inr ?_), .inr (.inr ?_), .inr (.inr ?_), .inr (.inr ?_), .inr (.inr ?_), .inr (.inr ?_), .inr (.inr ?_), .inr (.inr ?_), .inr (.inr ?_), .inr (.inr ?_), .inl rfl, trivial⟩, ?_⟩
      · intro ρ W hr
        have r0 : ρ (.tmp 21) = .int .i64 x3 := hr 21 (by simp [readsOf, Op.operands])
        have r1 : ρ (.tmp 25) = .int .i64 x4 := hr 25 (by simp [readsOf, Op.operands])
        have r2 : ρ (.tmp 29) = .int .i64 x5 := hr 29 (by simp [readsOf, Op.operands])
        simp [execOp, go_sem, r0, r1, r2]
      · exact CalmG.mk 17 (u5) rfl rfl rfl (fun W hW => calm_move (.tmp 5) rfl rfl)
      · exact CalmG.mk 18 (.int .i64 1) rfl rfl rfl (fun W hW => calm_move (.tmp 7) rfl rfl)
      · exact CalmG.mk 19 (.pointer (some ⟨w.heap.size, 3, none⟩)) rfl rfl rfl (fun W hW => calm_run (by first | (simp [execOp, Act.eval, go_sem]; done) | (simp [execOp, Act.eval, go_sem]; rfl)))
      · exact CalmG.mk 20 (.pointer (some ⟨w.heap.size, 3, none⟩)) rfl rfl rfl (fun W hW => calm_run (by first | (simp [execOp, Act.eval, go_sem]; done) | (simp [execOp, Act.eval, go_sem]; rfl)))
      · exact CalmG.mk 21 (.int .i64 x3) rfl rfl rfl (fun W hW => calm_run (by have hc : W.cell? ⟨w.heap.size, 3, none⟩ = some (.int .i64 x3) := (by rw [cell_of_row W _ 3 _ _ _ (by rw [hW.block _ lm]; exact km)]; rfl); simp [execOp, Act.eval, go_sem, hc]))
      · exact CalmG.mk 22 (.int .i64 1) rfl rfl rfl (fun W hW => calm_move (.tmp 7) rfl rfl)
      · exact CalmG.mk 23 (.pointer (some ⟨w.heap.size, 3, none⟩)) rfl rfl rfl (fun W hW => calm_run (by first | (simp [execOp, Act.eval, go_sem]; done) | (simp [execOp, Act.eval, go_sem]; rfl)))
      · exact CalmG.mk 24 (.pointer (some ⟨w.heap.size, 4, none⟩)) rfl rfl rfl (fun W hW => calm_run (by first | (simp [execOp, Act.eval, go_sem]; done) | (simp [execOp, Act.eval, go_sem]; rfl)))
      · exact CalmG.mk 25 (.int .i64 x4) rfl rfl rfl (fun W hW => calm_run (by have hc : W.cell? ⟨w.heap.size, 4, none⟩ = some (.int .i64 x4) := (by rw [cell_of_row W _ 4 _ _ _ (by rw [hW.block _ lm]; exact km)]; rfl); simp [execOp, Act.eval, go_sem, hc]))
      · exact CalmG.mk 26 (.int .i64 1) rfl rfl rfl (fun W hW => calm_move (.tmp 7) rfl rfl)
      · exact CalmG.mk 27 (.pointer (some ⟨w.heap.size, 3, none⟩)) rfl rfl rfl (fun W hW => calm_run (by first | (simp [execOp, Act.eval, go_sem]; done) | (simp [execOp, Act.eval, go_sem]; rfl)))
      · exact CalmG.mk 28 (.pointer (some ⟨w.heap.size, 5, none⟩)) rfl rfl rfl (fun W hW => calm_run (by first | (simp [execOp, Act.eval, go_sem]; done) | (simp [execOp, Act.eval, go_sem]; rfl)))
      · exact CalmG.mk 29 (.int .i64 x5) rfl rfl rfl (fun W hW => calm_run (by have hc : W.cell? ⟨w.heap.size, 5, none⟩ = some (.int .i64 x5) := (by rw [cell_of_row W _ 5 _ _ _ (by rw [hW.block _ lm]; exact km)]; rfl); simp [execOp, Act.eval, go_sem, hc]))
      intro g W hW hg hgc
      simp only [List.drop_succ_cons, List.drop_zero, Act.put, List.setIfInBounds_toArray, List.set_cons_zero, List.set_cons_succ]
      have jm : W.heap[w.heap.size]? = some (.cells #[.int .i64 x0, .int .i64 x1, .int .i64 x2, .int .i64 x3, .int .i64 x4, .int .i64 x5, .int .i64 x6, .int .i64 x7, .int .i64 x8] 31 (0, 0)) := by rw [hW.block _ lm]; exact km
      have jr : W.heap[w.heap.size + 1]? = some (.cells #[.int .i64 0, .int .i64 0, .int .i64 0, .int .i64 0, .int .i64 0, .int .i64 0, .int .i64 0, .int .i64 0, .int .i64 0] 31 (0, 0)) := by rw [hW.block _ lr]; exact kr
      have jo : W.heap[w.heap.size + 1 + 1 + 1]? = some (.cells #[.int .i64 0, .int .i64 0, .int .i64 0, .int .i64 0, .int .i64 0, .int .i64 0, .int .i64 0, .int .i64 0, .int .i64 0] 31 (0, 0)) := by rw [hW.block _ lo]; exact ko
      have HO2 := Lib.hid (own_below HO.out hW)
      have HB2 := Lib.hid (low_tr' HB.out hW HB.out.size)
      have HS := Lib.hid (show [x0, x1, x2, x3, x4, x5, x6, x7, x8].take (3 * 1) ++ [x3, x4, x5] = [x0, x1, x2, x3, x4, x5, x6, x7, x8].take (3 * 2) from rfl)
      have d0 : W.cell? ⟨g, 0, none⟩ = some (.int .i64 x3) := by rw [cell_of_row W _ 0 _ _ _ hgc]; rfl
      have d1 : W.cell? ⟨g, 0 + 1, none⟩ = some (.int .i64 x4) := by rw [cell_of_row W _ 1 _ _ _ hgc]; rfl
      have d2 : W.cell? ⟨g, 0 + 2, none⟩ = some (.int .i64 x5) := by rw [cell_of_row W _ 2 _ _ _ hgc]; rfl
      have HD := Lib.hid (src3 d0 d1 d2)
      have hsz : w.heap.size + 1 + 1 ≤ W.heap.size := by have := (Array.getElem?_eq_some_iff.1 jo).1; omega
      have Jm := Lib.hid jm
      have Jr := Lib.hid jr
      have Jo := Lib.hid jo
      clear km kr ko HO HB hW hgc d0 d1 d2 jm jr jo lm lr lo
      go_wp2_with (at_builtin; refine wpList_append_own _ rfl _ _ 34 rfl (w.heap.size + 1 + 1) 2 i0 (.int .i64 0) 1 8 Tryz.underlying34 HI0.out HZ0.out HZ1.out HZ2.out rfl (by decide) _ _ _ rfl HO2.out ⟨g, 0, none⟩ 3 3 [.int .i64 x3, .int .i64 x4, .int .i64 x5] rfl rfl HD.out (oneP _ _ _) (by unfold maxLen; omega) (by omega) hsz ?_; intro v2 w2 hown hgrow _; have HO3 := Lib.hid hown; have HG := Lib.hid hgrow; clear hown hgrow)
      have hb := own_base' HO2.out
      have ne : ∀ a, a < w.heap.size + 1 + 1 → some a ≠ u5.ownBlock := fun a ha e => by have := hb a e.symm; omega
      have neo : some (w.heap.size + 1 + 1 + 1) ≠ u5.ownBlock := fun e => own_ne HO2.out Jo.out (by decide) e.symm
      go_roundw
      case rel => exact ⟨2, by omega, rfl, Lib.hid (by rw [← HS.out, ints_app]; exact HO3.out), by rw [HG.out.block _ (Array.getElem?_eq_some_iff.1 Jm.out).1 (ne _ (by omega))]; exact Jm.out, by rw [HG.out.block _ (Array.getElem?_eq_some_iff.1 Jr.out).1 (ne _ (by omega))]; exact Jr.out, by rw [HG.out.block _ (Array.getElem?_eq_some_iff.1 Jo.out).1 neo]; exact Jo.out, Lib.hid (HB2.out.grown HG.out HB2.out.size (fun k' hk' => by have := hb k' hk'; omega))⟩
      case measure => simp [intOf]
    · clear hk
      have lm := (Array.getElem?_eq_some_iff.1 km).1
      have lr := (Array.getElem?_eq_some_iff.1 kr).1
      have lo := (Array.getElem?_eq_some_iff.1 ko).1
      go_wp2
      refine region_boxvia 14 13 30 (fun g => .slice (some ⟨g, 0, none⟩) 3 3) #[.int .i64 x6, .int .i64 x7, .int .i64 x8] 2 [(17, u5), (18, .int .i64 2), (19, .pointer (some ⟨w.heap.size, 6, none⟩)), (20, .pointer (some ⟨w.heap.size, 6, none⟩)), (21, .int .i64 x6), (22, .int .i64 2), (23, .pointer (some ⟨w.heap.size, 6, none⟩)), (24, .pointer (some ⟨w.heap.size, 7, none⟩)), (25, .int .i64 x7), (26, .int .i64 2), (27, .pointer (some ⟨w.heap.size, 6, none⟩)), (28, .pointer (some ⟨w.heap.size, 8, none⟩)), (29, .int .i64 x8)] (by kernel_rfl) (by decide) rfl (by kernel_rfl) (by kernel_rfl) (by kernel_rfl) (by decide) (by simp) (by kernel_rfl) (fun aE hpe => ?_)
      simp only [puts, Act.put, List.setIfInBounds_toArray, List.set_cons_zero, List.set_cons_succ] at hpe
      subst hpe
      refine ⟨?_, ⟨.inr (.inr ?_), .inr (.inr ?_), .inr (.inr ?_), .inr (.inr ?_), .inr (.inr ?_), .inr (.inr ?_), .inr (.inr ?_), .inr (.inr ?_), .inr (.inr ?_), .inr (.inr ?_), .inr (.inr ?_), .inr (.inr ?_), .inr (.inr ?_), .inl rfl, trivial⟩, ?_⟩
      · intro ρ W hr
        have r0 : ρ (.tmp 21) = .int .i64 x6 := hr 21 (by simp [readsOf, Op.operands])
        have r1 : ρ (.tmp 25) = .int .i64 x7 := hr 25 (by simp [readsOf, Op.operands])
        have r2 : ρ (.tmp 29) = .int .i64 x8 := hr 29 (by simp [readsOf, Op.operands])
        simp [execOp, go_sem, r0, r1, r2]
      · exact CalmG.mk 17 (u5) rfl rfl rfl (fun W hW => calm_move (.tmp 5) rfl rfl)
      · exact CalmG.mk 18 (.int .i64 2) rfl rfl rfl (fun W hW => calm_move (.tmp 7) rfl rfl)
      · exact CalmG.mk 19 (.pointer (some ⟨w.heap.size, 6, none⟩)) rfl rfl rfl (fun W hW => calm_run (by first | (simp [execOp, Act.eval, go_sem]; done) | (simp [execOp, Act.eval, go_sem]; rfl)))
      · exact CalmG.mk 20 (.pointer (some ⟨w.heap.size, 6, none⟩)) rfl rfl rfl (fun W hW => calm_run (by first | (simp [execOp, Act.eval, go_sem]; done) | (simp [execOp, Act.eval, go_sem]; rfl)))
      · exact CalmG.mk 21 (.int .i64 x6) rfl rfl rfl (fun W hW => calm_run (by have hc : W.cell? ⟨w.heap.size, 6, none⟩ = some (.int .i64 x6) := (by rw [cell_of_row W _ 6 _ _ _ (by rw [hW.block _ lm]; exact km)]; rfl); simp [execOp, Act.eval, go_sem, hc]))
      · exact CalmG.mk 22 (.int .i64 2) rfl rfl rfl (fun W hW => calm_move (.tmp 7) rfl rfl)
      · exact CalmG.mk 23 (.pointer (some ⟨w.heap.size, 6, none⟩)) rfl rfl rfl (fun W hW => calm_run (by first | (simp [execOp, Act.eval, go_sem]; done) | (simp [execOp, Act.eval, go_sem]; rfl)))
      · exact CalmG.mk 24 (.pointer (some ⟨w.heap.size, 7, none⟩)) rfl rfl rfl (fun W hW => calm_run (by first | (simp [execOp, Act.eval, go_sem]; done) | (simp [execOp, Act.eval, go_sem]; rfl)))
      · exact CalmG.mk 25 (.int .i64 x7) rfl rfl rfl (fun W hW => calm_run (by have hc : W.cell? ⟨w.heap.size, 7, none⟩ = some (.int .i64 x7) := (by rw [cell_of_row W _ 7 _ _ _ (by rw [hW.block _ lm]; exact km)]; rfl); simp [execOp, Act.eval, go_sem, hc]))
      · exact CalmG.mk 26 (.int .i64 2) rfl rfl rfl (fun W hW => calm_move (.tmp 7) rfl rfl)
      · exact CalmG.mk 27 (.pointer (some ⟨w.heap.size, 6, none⟩)) rfl rfl rfl (fun W hW => calm_run (by first | (simp [execOp, Act.eval, go_sem]; done) | (simp [execOp, Act.eval, go_sem]; rfl)))
      · exact CalmG.mk 28 (.pointer (some ⟨w.heap.size, 8, none⟩)) rfl rfl rfl (fun W hW => calm_run (by first | (simp [execOp, Act.eval, go_sem]; done) | (simp [execOp, Act.eval, go_sem]; rfl)))
      · exact CalmG.mk 29 (.int .i64 x8) rfl rfl rfl (fun W hW => calm_run (by have hc : W.cell? ⟨w.heap.size, 8, none⟩ = some (.int .i64 x8) := (by rw [cell_of_row W _ 8 _ _ _ (by rw [hW.block _ lm]; exact km)]; rfl); simp [execOp, Act.eval, go_sem, hc]))
      intro g W hW hg hgc
      simp only [List.drop_succ_cons, List.drop_zero, Act.put, List.setIfInBounds_toArray, List.set_cons_zero, List.set_cons_succ]
      have jm : W.heap[w.heap.size]? = some (.cells #[.int .i64 x0, .int .i64 x1, .int .i64 x2, .int .i64 x3, .int .i64 x4, .int .i64 x5, .int .i64 x6, .int .i64 x7, .int .i64 x8] 31 (0, 0)) := by rw [hW.block _ lm]; exact km
      have jr : W.heap[w.heap.size + 1]? = some (.cells #[.int .i64 0, .int .i64 0, .int .i64 0, .int .i64 0, .int .i64 0, .int .i64 0, .int .i64 0, .int .i64 0, .int .i64 0] 31 (0, 0)) := by rw [hW.block _ lr]; exact kr
      have jo : W.heap[w.heap.size + 1 + 1 + 1]? = some (.cells #[.int .i64 0, .int .i64 0, .int .i64 0, .int .i64 0, .int .i64 0, .int .i64 0, .int .i64 0, .int .i64 0, .int .i64 0] 31 (0, 0)) := by rw [hW.block _ lo]; exact ko
      have HO2 := Lib.hid (own_below HO.out hW)
      have HB2 := Lib.hid (low_tr' HB.out hW HB.out.size)
      have HS := Lib.hid (show [x0, x1, x2, x3, x4, x5, x6, x7, x8].take (3 * 2) ++ [x6, x7, x8] = [x0, x1, x2, x3, x4, x5, x6, x7, x8].take (3 * 3) from rfl)
      have d0 : W.cell? ⟨g, 0, none⟩ = some (.int .i64 x6) := by rw [cell_of_row W _ 0 _ _ _ hgc]; rfl
      have d1 : W.cell? ⟨g, 0 + 1, none⟩ = some (.int .i64 x7) := by rw [cell_of_row W _ 1 _ _ _ hgc]; rfl
      have d2 : W.cell? ⟨g, 0 + 2, none⟩ = some (.int .i64 x8) := by rw [cell_of_row W _ 2 _ _ _ hgc]; rfl
      have HD := Lib.hid (src3 d0 d1 d2)
      have hsz : w.heap.size + 1 + 1 ≤ W.heap.size := by have := (Array.getElem?_eq_some_iff.1 jo).1; omega
      have Jm := Lib.hid jm
      have Jr := Lib.hid jr
      have Jo := Lib.hid jo
      clear km kr ko HO HB hW hgc d0 d1 d2 jm jr jo lm lr lo
      go_wp2_with (at_builtin; refine wpList_append_own _ rfl _ _ 34 rfl (w.heap.size + 1 + 1) 2 i0 (.int .i64 0) 1 8 Tryz.underlying34 HI0.out HZ0.out HZ1.out HZ2.out rfl (by decide) _ _ _ rfl HO2.out ⟨g, 0, none⟩ 3 3 [.int .i64 x6, .int .i64 x7, .int .i64 x8] rfl rfl HD.out (oneP _ _ _) (by unfold maxLen; omega) (by omega) hsz ?_; intro v2 w2 hown hgrow _; have HO3 := Lib.hid hown; have HG := Lib.hid hgrow; clear hown hgrow)
      have hb := own_base' HO2.out
      have ne : ∀ a, a < w.heap.size + 1 + 1 → some a ≠ u5.ownBlock := fun a ha e => by have := hb a e.symm; omega
      have neo : some (w.heap.size + 1 + 1 + 1) ≠ u5.ownBlock := fun e => own_ne HO2.out Jo.out (by decide) e.symm
      go_roundw
      case rel => exact ⟨3, by omega, rfl, Lib.hid (by rw [← HS.out, ints_app]; exact HO3.out), by rw [HG.out.block _ (Array.getElem?_eq_some_iff.1 Jm.out).1 (ne _ (by omega))]; exact Jm.out, by rw [HG.out.block _ (Array.getElem?_eq_some_iff.1 Jr.out).1 (ne _ (by omega))]; exact Jr.out, by rw [HG.out.block _ (Array.getElem?_eq_some_iff.1 Jo.out).1 neo]; exact Jo.out, Lib.hid (HB2.out.grown HG.out HB2.out.size (fun k' hk' => by have := hb k' hk'; omega))⟩
      case measure => simp [intOf]
    · have ho9 : wr.ownsRow (w.heap.size + 1 + 1) 2 1 u5 9 (ints [x0, x1, x2, x3, x4, x5, x6, x7, x8]) := HO.out
      obtain ⟨g5, cap5, rfl, hb5, hpt5⟩ := ownInts' ho9 rfl (by omega)
      have HP5 := Lib.hid hpt5
      have HB5 := HB
      have lm := (Array.getElem?_eq_some_iff.1 km).1
      have lr := (Array.getElem?_eq_some_iff.1 kr).1
      have lo := (Array.getElem?_eq_some_iff.1 ko).1
      clear HO ho9 hpt5 HB hk
      go_wp2_with (go_at_call 103; refine (HNo.out _ _ _ HP5.out).mono ?_; rintro e w1 ⟨v1, rfl, ho, hb⟩; rw [HNl.out] at ho; obtain ⟨gN, capN, rfl, hbN, hptN⟩ := ownInts' (n := 9) ho rfl (by omega); have HPN := Lib.hid hptN; have HB1 := Lib.hid hb; clear ho hptN hb)
      have jr : w1.heap[w.heap.size + 1]? = some (.cells #[.int .i64 0, .int .i64 0, .int .i64 0, .int .i64 0, .int .i64 0, .int .i64 0, .int .i64 0, .int .i64 0, .int .i64 0] 31 (0, 0)) := by rw [HB1.out.block _ lr]; exact kr
      have jo : w1.heap[w.heap.size + 1 + 1 + 1]? = some (.cells #[.int .i64 0, .int .i64 0, .int .i64 0, .int .i64 0, .int .i64 0, .int .i64 0, .int .i64 0, .int .i64 0, .int .i64 0] 31 (0, 0)) := by rw [HB1.out.block _ lo]; exact ko
      have HBq := Lib.hid (low_tr' HB5.out HB1.out HB5.out.size)
      have hgN : w.heap.size + 1 + 1 + 1 < gN := by omega
      clear km kr ko HB5 HB1 lm lr lo HP5 HNo
      go_loopw [10] (fun i wr => ∃ k : Nat, k ≤ 3 ∧ i = .int .i64 k ∧ Hid (∀ i, i < 9 → wr.cell? ⟨gN, 0 + i, none⟩ = some (.int .i64 ([n0, n1, n2, n3, n4, n5, n6, n7, n8].getD i 0))) ∧ wr.heap[w.heap.size + 1]? = some (.cells #[.int .i64 0, .int .i64 0, .int .i64 0, .int .i64 0, .int .i64 0, .int .i64 0, .int .i64 0, .int .i64 0, .int .i64 0] 31 (0, 0)) ∧ wr.heap[w.heap.size + 1 + 1 + 1]? = some (.cells (outC k n0 n1 n2 n3 n4 n5 n6 n7 n8) 31 (0, 0)) ∧ Hid (Below w.heap.size w wr)) (fun i wr => 3 - (intOf i).toNat)
      case atStart => exact ⟨0, by omega, rfl, HPN, jr, jo, HBq⟩
      case round =>
        clear HPN jr jo HBq
        obtain ⟨k, hk, rfl, HP, kr, ko, HB⟩ := hrel
        rcases (show k = 0 ∨ k = 1 ∨ k = 2 ∨ k = 3 by omega) with rfl | rfl | rfl | rfl
        · clear hk
          have lo := (Array.getElem?_eq_some_iff.1 ko).1
          have lr := (Array.getElem?_eq_some_iff.1 kr).1
          go_wp2
          refine region_then 20 [(47, .int .i64 0), (48, .slice (some ⟨gN, 0, none⟩) 9 capN), (49, .int .i64 0), (50, .int .i64 0), (51, .pointer (some ⟨gN, 0, none⟩)), (52, .int .i64 n0), (53, .slice (some ⟨gN, 0, none⟩) 9 capN), (54, .int .i64 0), (55, .int .i64 0), (56, .int .i64 1), (57, .pointer (some ⟨gN, 1, none⟩)), (58, .int .i64 n1), (59, .slice (some ⟨gN, 0, none⟩) 9 capN), (60, .int .i64 0), (61, .int .i64 0), (62, .int .i64 2), (63, .pointer (some ⟨gN, 2, none⟩)), (64, .int .i64 n2), (65, ptV n0 n1 n2), (66, .pointer (some ⟨w.heap.size + 1 + 1 + 1, 0, none⟩))] (by kernel_rfl) (by decide) (by kernel_rfl) (by kernel_rfl) (by kernel_rfl) (fun aE hpe => ?_)
          simp only [puts, Act.put, List.setIfInBounds_toArray, List.set_cons_zero, List.set_cons_succ] at hpe
          subst hpe
          refine ⟨⟨.inr (.inr ?_), .inr (.inr ?_), .inr (.inr ?_), .inr (.inr ?_), .inr (.inr ?_), .inr (.inr ?_), .inr (.inr ?_), .inr (.inr ?_), .inr (.inr ?_), .inr (.inr ?_), .inr (.inr ?_), .inr (.inr ?_), .inr (.inr ?_), .inr (.inr ?_), .inr (.inr ?_), .inr (.inr ?_), .inr (.inr ?_), .inr (.inr ?_), .inr (.inr ?_), .inr (.inr ?_), trivial⟩, ?_⟩
          · exact CalmG.mk 47 (.int .i64 0) rfl rfl rfl (fun W hW => calm_move (.tmp 10) rfl rfl)
          · exact CalmG.mk 48 (.slice (some ⟨gN, 0, none⟩) 9 capN) rfl rfl rfl (fun W hW => calm_move (.tmp 8) rfl rfl)
          · exact CalmG.mk 49 (.int .i64 0) rfl rfl rfl (fun W hW => calm_move (.tmp 10) rfl rfl)
          · exact CalmG.mk 50 (.int .i64 0) rfl rfl rfl (fun W hW => calm_run (by first | (simp [execOp, Act.eval, go_sem]; done) | (simp [execOp, Act.eval, go_sem]; rfl)))
          · exact CalmG.mk 51 (.pointer (some ⟨gN, 0, none⟩)) rfl rfl rfl (fun W hW => calm_run (by first | (simp [execOp, Act.eval, go_sem]; done) | (simp [execOp, Act.eval, go_sem]; rfl)))
          · exact CalmG.mk 52 (.int .i64 n0) rfl rfl rfl (fun W hW => calm_run (by have hc : W.cell? ⟨gN, 0, none⟩ = some (.int .i64 n0) := cell_below hW (HP.out 0 (by omega)); simp [execOp, Act.eval, go_sem, hc]))
          · exact CalmG.mk 53 (.slice (some ⟨gN, 0, none⟩) 9 capN) rfl rfl rfl (fun W hW => calm_move (.tmp 8) rfl rfl)
          · exact CalmG.mk 54 (.int .i64 0) rfl rfl rfl (fun W hW => calm_move (.tmp 10) rfl rfl)
          · exact CalmG.mk 55 (.int .i64 0) rfl rfl rfl (fun W hW => calm_run (by first | (simp [execOp, Act.eval, go_sem]; done) | (simp [execOp, Act.eval, go_sem]; rfl)))
          · exact CalmG.mk 56 (.int .i64 1) rfl rfl rfl (fun W hW => calm_run (by first | (simp [execOp, Act.eval, go_sem]; done) | (simp [execOp, Act.eval, go_sem]; rfl)))
          · exact CalmG.mk 57 (.pointer (some ⟨gN, 1, none⟩)) rfl rfl rfl (fun W hW => calm_run (by first | (simp [execOp, Act.eval, go_sem]; done) | (simp [execOp, Act.eval, go_sem]; rfl)))
          · exact CalmG.mk 58 (.int .i64 n1) rfl rfl rfl (fun W hW => calm_run (by have hc : W.cell? ⟨gN, 1, none⟩ = some (.int .i64 n1) := cell_below hW (HP.out 1 (by omega)); simp [execOp, Act.eval, go_sem, hc]))
          · exact CalmG.mk 59 (.slice (some ⟨gN, 0, none⟩) 9 capN) rfl rfl rfl (fun W hW => calm_move (.tmp 8) rfl rfl)
          · exact CalmG.mk 60 (.int .i64 0) rfl rfl rfl (fun W hW => calm_move (.tmp 10) rfl rfl)
          · exact CalmG.mk 61 (.int .i64 0) rfl rfl rfl (fun W hW => calm_run (by first | (simp [execOp, Act.eval, go_sem]; done) | (simp [execOp, Act.eval, go_sem]; rfl)))
          · exact CalmG.mk 62 (.int .i64 2) rfl rfl rfl (fun W hW => calm_run (by first | (simp [execOp, Act.eval, go_sem]; done) | (simp [execOp, Act.eval, go_sem]; rfl)))
          · exact CalmG.mk 63 (.pointer (some ⟨gN, 2, none⟩)) rfl rfl rfl (fun W hW => calm_run (by first | (simp [execOp, Act.eval, go_sem]; done) | (simp [execOp, Act.eval, go_sem]; rfl)))
          · exact CalmG.mk 64 (.int .i64 n2) rfl rfl rfl (fun W hW => calm_run (by have hc : W.cell? ⟨gN, 2, none⟩ = some (.int .i64 n2) := cell_below hW (HP.out 2 (by omega)); simp [execOp, Act.eval, go_sem, hc]))
          · exact CalmG.mk 65 (ptV n0 n1 n2) rfl rfl rfl (fun W hW => calm_build 29 _ #[.int .i64 n0, .int .i64 n1, .int .i64 n2] rfl (by kernel_rfl))
          · exact CalmG.mk 66 (.pointer (some ⟨w.heap.size + 1 + 1 + 1, 0, none⟩)) rfl rfl rfl (fun W hW => calm_run (by first | (simp [execOp, Act.eval, go_sem]; done) | (simp [execOp, Act.eval, go_sem]; rfl)))
          intro W hW
          simp only [List.drop_succ_cons, List.drop_zero]
          have jr : W.heap[w.heap.size + 1]? = some (.cells #[.int .i64 0, .int .i64 0, .int .i64 0, .int .i64 0, .int .i64 0, .int .i64 0, .int .i64 0, .int .i64 0, .int .i64 0] 31 (0, 0)) := by rw [hW.block _ lr]; exact kr
          have jo : W.heap[w.heap.size + 1 + 1 + 1]? = some (.cells (outC 0 n0 n1 n2 n3 n4 n5 n6 n7 n8) 31 (0, 0)) := by rw [hW.block _ lo]; exact ko
          have HPW := Lib.hid (fun i (h : i < 9) => cell_below hW (HP.out i h))
          have HBW := Lib.hid (low_tr' HB.out hW HB.out.size)
          have c0 : W.cell? ⟨w.heap.size + 1 + 1 + 1, 0, none⟩ = some (.int .i64 0) := by rw [cell_of_row W _ 0 _ _ _ jo]; rfl
          have f0 := frozen_of_row W (w.heap.size + 1 + 1 + 1) 0 _ _ jo
          have c1 : W.cell? ⟨w.heap.size + 1 + 1 + 1, 1, none⟩ = some (.int .i64 0) := by rw [cell_of_row W _ 1 _ _ _ jo]; rfl
          have f1 := frozen_of_row W (w.heap.size + 1 + 1 + 1) 1 _ _ jo
          have c2 : W.cell? ⟨w.heap.size + 1 + 1 + 1, 2, none⟩ = some (.int .i64 0) := by rw [cell_of_row W _ 2 _ _ _ jo]; rfl
          have f2 := frozen_of_row W (w.heap.size + 1 + 1 + 1) 2 _ _ jo
          have Jr := Lib.hid jr
          have Jo := Lib.hid jo
          have hlo := (Array.getElem?_eq_some_iff.1 jo).1
          clear kr ko HP HB hW jr jo lo lr
          go_wp2
          go_roundw
          case rel => exact ⟨1, by omega, rfl, Lib.hid (fun i h => by rw [World.cell?_setCell_other _ _ _ _ (fun e => by have h2 := congrArg Addr.block e; simp at h2; omega), World.cell?_setCell_other _ _ _ _ (fun e => by have h2 := congrArg Addr.block e; simp at h2; omega), World.cell?_setCell_other _ _ _ _ (fun e => by have h2 := congrArg Addr.block e; simp at h2; omega)]; exact HPW.out i h), by rw [Below.heap_setCell _ _ _ _ (by simp), Below.heap_setCell _ _ _ _ (by simp), Below.heap_setCell _ _ _ _ (by simp)]; exact Jr.out, setCell_heap (setCell_heap (setCell_heap Jo.out _ _) _ _) _ _, Lib.hid (((HBW.out.setCell (by show w.heap.size ≤ w.heap.size + 1 + 1 + 1; omega) _).setCell (by show w.heap.size ≤ w.heap.size + 1 + 1 + 1; omega) _).setCell (by show w.heap.size ≤ w.heap.size + 1 + 1 + 1; omega) _)⟩
          case measure => simp [intOf]
        · clear hk
          have lo := (Array.getElem?_eq_some_iff.1 ko).1
          have lr := (Array.getElem?_eq_some_iff.1 kr).1
          go_wp2
          refine region_then 20 [(47, .int .i64 1), (48, .slice (some ⟨gN, 0, none⟩) 9 capN), (49, .int .i64 1), (50, .int .i64 3), (51, .pointer (some ⟨gN, 3, none⟩)), (52, .int .i64 n3), (53, .slice (some ⟨gN, 0, none⟩) 9 capN), (54, .int .i64 1), (55, .int .i64 3), (56, .int .i64 4), (57, .pointer (some ⟨gN, 4, none⟩)), (58, .int .i64 n4), (59, .slice (some ⟨gN, 0, none⟩) 9 capN), (60, .int .i64 1), (61, .int .i64 3), (62, .int .i64 5), (63, .pointer (some ⟨gN, 5, none⟩)), (64, .int .i64 n5), (65, ptV n3 n4 n5), (66, .pointer (some ⟨w.heap.size + 1 + 1 + 1, 3, none⟩))] (by kernel_rfl) (by decide) (by kernel_rfl) (by kernel_rfl) (by kernel_rfl) (fun aE hpe => ?_)
          simp only [puts, Act.put, List.setIfInBounds_toArray, List.set_cons_zero, List.set_cons_succ] at hpe
          subst hpe
          refine ⟨⟨.inr (.inr ?_), .inr (.inr ?_), .inr (.inr ?_), .inr (.inr ?_), .inr (.inr ?_), .inr (.inr ?_), .inr (.inr ?_), .inr (.inr ?_), .inr (.inr ?_), .inr (.inr ?_), .inr (.inr ?_), .inr (.inr ?_), .inr (.inr ?_), .inr (.inr ?_), .inr (.inr ?_), .inr (.inr ?_), .inr (.inr ?_), .inr (.inr ?_), .inr (.inr ?_), .inr (.inr ?_), trivial⟩, ?_⟩
          · exact CalmG.mk 47 (.int .i64 1) rfl rfl rfl (fun W hW => calm_move (.tmp 10) rfl rfl)
          · exact CalmG.mk 48 (.slice (some ⟨gN, 0, none⟩) 9 capN) rfl rfl rfl (fun W hW => calm_move (.tmp 8) rfl rfl)
          · exact CalmG.mk 49 (.int .i64 1) rfl rfl rfl (fun W hW => calm_move (.tmp 10) rfl rfl)
          · exact CalmG.mk 50 (.int .i64 3) rfl rfl rfl (fun W hW => calm_run (by first | (simp [execOp, Act.eval, go_sem]; done) | (simp [execOp, Act.eval, go_sem]; rfl)))
          · exact CalmG.mk 51 (.pointer (some ⟨gN, 3, none⟩)) rfl rfl rfl (fun W hW => calm_run (by first | (simp [execOp, Act.eval, go_sem]; done) | (simp [execOp, Act.eval, go_sem]; rfl)))
          · exact CalmG.mk 52 (.int .i64 n3) rfl rfl rfl (fun W hW => calm_run (by have hc : W.cell? ⟨gN, 3, none⟩ = some (.int .i64 n3) := cell_below hW (HP.out 3 (by omega)); simp [execOp, Act.eval, go_sem, hc]))
          · exact CalmG.mk 53 (.slice (some ⟨gN, 0, none⟩) 9 capN) rfl rfl rfl (fun W hW => calm_move (.tmp 8) rfl rfl)
          · exact CalmG.mk 54 (.int .i64 1) rfl rfl rfl (fun W hW => calm_move (.tmp 10) rfl rfl)
          · exact CalmG.mk 55 (.int .i64 3) rfl rfl rfl (fun W hW => calm_run (by first | (simp [execOp, Act.eval, go_sem]; done) | (simp [execOp, Act.eval, go_sem]; rfl)))
          · exact CalmG.mk 56 (.int .i64 4) rfl rfl rfl (fun W hW => calm_run (by first | (simp [execOp, Act.eval, go_sem]; done) | (simp [execOp, Act.eval, go_sem]; rfl)))
          · exact CalmG.mk 57 (.pointer (some ⟨gN, 4, none⟩)) rfl rfl rfl (fun W hW => calm_run (by first | (simp [execOp, Act.eval, go_sem]; done) | (simp [execOp, Act.eval, go_sem]; rfl)))
          · exact CalmG.mk 58 (.int .i64 n4) rfl rfl rfl (fun W hW => calm_run (by have hc : W.cell? ⟨gN, 4, none⟩ = some (.int .i64 n4) := cell_below hW (HP.out 4 (by omega)); simp [execOp, Act.eval, go_sem, hc]))
          · exact CalmG.mk 59 (.slice (some ⟨gN, 0, none⟩) 9 capN) rfl rfl rfl (fun W hW => calm_move (.tmp 8) rfl rfl)
          · exact CalmG.mk 60 (.int .i64 1) rfl rfl rfl (fun W hW => calm_move (.tmp 10) rfl rfl)
          · exact CalmG.mk 61 (.int .i64 3) rfl rfl rfl (fun W hW => calm_run (by first | (simp [execOp, Act.eval, go_sem]; done) | (simp [execOp, Act.eval, go_sem]; rfl)))
          · exact CalmG.mk 62 (.int .i64 5) rfl rfl rfl (fun W hW => calm_run (by first | (simp [execOp, Act.eval, go_sem]; done) | (simp [execOp, Act.eval, go_sem]; rfl)))
          · exact CalmG.mk 63 (.pointer (some ⟨gN, 5, none⟩)) rfl rfl rfl (fun W hW => calm_run (by first | (simp [execOp, Act.eval, go_sem]; done) | (simp [execOp, Act.eval, go_sem]; rfl)))
          · exact CalmG.mk 64 (.int .i64 n5) rfl rfl rfl (fun W hW => calm_run (by have hc : W.cell? ⟨gN, 5, none⟩ = some (.int .i64 n5) := cell_below hW (HP.out 5 (by omega)); simp [execOp, Act.eval, go_sem, hc]))
          · exact CalmG.mk 65 (ptV n3 n4 n5) rfl rfl rfl (fun W hW => calm_build 29 _ #[.int .i64 n3, .int .i64 n4, .int .i64 n5] rfl (by kernel_rfl))
          · exact CalmG.mk 66 (.pointer (some ⟨w.heap.size + 1 + 1 + 1, 3, none⟩)) rfl rfl rfl (fun W hW => calm_run (by first | (simp [execOp, Act.eval, go_sem]; done) | (simp [execOp, Act.eval, go_sem]; rfl)))
          intro W hW
          simp only [List.drop_succ_cons, List.drop_zero]
          have jr : W.heap[w.heap.size + 1]? = some (.cells #[.int .i64 0, .int .i64 0, .int .i64 0, .int .i64 0, .int .i64 0, .int .i64 0, .int .i64 0, .int .i64 0, .int .i64 0] 31 (0, 0)) := by rw [hW.block _ lr]; exact kr
          have jo : W.heap[w.heap.size + 1 + 1 + 1]? = some (.cells (outC 1 n0 n1 n2 n3 n4 n5 n6 n7 n8) 31 (0, 0)) := by rw [hW.block _ lo]; exact ko
          have HPW := Lib.hid (fun i (h : i < 9) => cell_below hW (HP.out i h))
          have HBW := Lib.hid (low_tr' HB.out hW HB.out.size)
          have c0 : W.cell? ⟨w.heap.size + 1 + 1 + 1, 3, none⟩ = some (.int .i64 0) := by rw [cell_of_row W _ 3 _ _ _ jo]; rfl
          have f0 := frozen_of_row W (w.heap.size + 1 + 1 + 1) 3 _ _ jo
          have c1 : W.cell? ⟨w.heap.size + 1 + 1 + 1, 4, none⟩ = some (.int .i64 0) := by rw [cell_of_row W _ 4 _ _ _ jo]; rfl
          have f1 := frozen_of_row W (w.heap.size + 1 + 1 + 1) 4 _ _ jo
          have c2 : W.cell? ⟨w.heap.size + 1 + 1 + 1, 5, none⟩ = some (.int .i64 0) := by rw [cell_of_row W _ 5 _ _ _ jo]; rfl
          have f2 := frozen_of_row W (w.heap.size + 1 + 1 + 1) 5 _ _ jo
          have Jr := Lib.hid jr
          have Jo := Lib.hid jo
          have hlo := (Array.getElem?_eq_some_iff.1 jo).1
          clear kr ko HP HB hW jr jo lo lr
          go_wp2
          go_roundw
          case rel => exact ⟨2, by omega, rfl, Lib.hid (fun i h => by rw [World.cell?_setCell_other _ _ _ _ (fun e => by have h2 := congrArg Addr.block e; simp at h2; omega), World.cell?_setCell_other _ _ _ _ (fun e => by have h2 := congrArg Addr.block e; simp at h2; omega), World.cell?_setCell_other _ _ _ _ (fun e => by have h2 := congrArg Addr.block e; simp at h2; omega)]; exact HPW.out i h), by rw [Below.heap_setCell _ _ _ _ (by simp), Below.heap_setCell _ _ _ _ (by simp), Below.heap_setCell _ _ _ _ (by simp)]; exact Jr.out, setCell_heap (setCell_heap (setCell_heap Jo.out _ _) _ _) _ _, Lib.hid (((HBW.out.setCell (by show w.heap.size ≤ w.heap.size + 1 + 1 + 1; omega) _).setCell (by show w.heap.size ≤ w.heap.size + 1 + 1 + 1; omega) _).setCell (by show w.heap.size ≤ w.heap.size + 1 + 1 + 1; omega) _)⟩
          case measure => simp [intOf]
        · clear hk
          have lo := (Array.getElem?_eq_some_iff.1 ko).1
          have lr := (Array.getElem?_eq_some_iff.1 kr).1
          go_wp2
          refine region_then 20 [(47, .int .i64 2), (48, .slice (some ⟨gN, 0, none⟩) 9 capN), (49, .int .i64 2), (50, .int .i64 6), (51, .pointer (some ⟨gN, 6, none⟩)), (52, .int .i64 n6), (53, .slice (some ⟨gN, 0, none⟩) 9 capN), (54, .int .i64 2), (55, .int .i64 6), (56, .int .i64 7), (57, .pointer (some ⟨gN, 7, none⟩)), (58, .int .i64 n7), (59, .slice (some ⟨gN, 0, none⟩) 9 capN), (60, .int .i64 2), (61, .int .i64 6), (62, .int .i64 8), (63, .pointer (some ⟨gN, 8, none⟩)), (64, .int .i64 n8), (65, ptV n6 n7 n8), (66, .pointer (some ⟨w.heap.size + 1 + 1 + 1, 6, none⟩))] (by kernel_rfl) (by decide) (by kernel_rfl) (by kernel_rfl) (by kernel_rfl) (fun aE hpe => ?_)
          simp only [puts, Act.put, List.setIfInBounds_toArray, List.set_cons_zero, List.set_cons_succ] at hpe
          subst hpe
          refine ⟨⟨.inr (.inr ?_), .inr (.inr ?_), .inr (.inr ?_), .inr (.inr ?_), .inr (.inr ?_), .inr (.inr ?_), .inr (.inr ?_), .inr (.inr ?_), .inr (.inr ?_), .inr (.inr ?_), .inr (.inr ?_), .inr (.inr ?_), .inr (.inr ?_), .inr (.inr ?_), .inr (.inr ?_), .inr (.inr ?_), .inr (.inr ?_), .inr (.inr ?_), .inr (.inr ?_), .inr (.inr ?_), trivial⟩, ?_⟩
          · exact CalmG.mk 47 (.int .i64 2) rfl rfl rfl (fun W hW => calm_move (.tmp 10) rfl rfl)
          · exact CalmG.mk 48 (.slice (some ⟨gN, 0, none⟩) 9 capN) rfl rfl rfl (fun W hW => calm_move (.tmp 8) rfl rfl)
          · exact CalmG.mk 49 (.int .i64 2) rfl rfl rfl (fun W hW => calm_move (.tmp 10) rfl rfl)
          · exact CalmG.mk 50 (.int .i64 6) rfl rfl rfl (fun W hW => calm_run (by first | (simp [execOp, Act.eval, go_sem]; done) | (simp [execOp, Act.eval, go_sem]; rfl)))
          · exact CalmG.mk 51 (.pointer (some ⟨gN, 6, none⟩)) rfl rfl rfl (fun W hW => calm_run (by first | (simp [execOp, Act.eval, go_sem]; done) | (simp [execOp, Act.eval, go_sem]; rfl)))
          · exact CalmG.mk 52 (.int .i64 n6) rfl rfl rfl (fun W hW => calm_run (by have hc : W.cell? ⟨gN, 6, none⟩ = some (.int .i64 n6) := cell_below hW (HP.out 6 (by omega)); simp [execOp, Act.eval, go_sem, hc]))
          · exact CalmG.mk 53 (.slice (some ⟨gN, 0, none⟩) 9 capN) rfl rfl rfl (fun W hW => calm_move (.tmp 8) rfl rfl)
          · exact CalmG.mk 54 (.int .i64 2) rfl rfl rfl (fun W hW => calm_move (.tmp 10) rfl rfl)
          · exact CalmG.mk 55 (.int .i64 6) rfl rfl rfl (fun W hW => calm_run (by first | (simp [execOp, Act.eval, go_sem]; done) | (simp [execOp, Act.eval, go_sem]; rfl)))
          · exact CalmG.mk 56 (.int .i64 7) rfl rfl rfl (fun W hW => calm_run (by first | (simp [execOp, Act.eval, go_sem]; done) | (simp [execOp, Act.eval, go_sem]; rfl)))
          · exact CalmG.mk 57 (.pointer (some ⟨gN, 7, none⟩)) rfl rfl rfl (fun W hW => calm_run (by first | (simp [execOp, Act.eval, go_sem]; done) | (simp [execOp, Act.eval, go_sem]; rfl)))
          · exact CalmG.mk 58 (.int .i64 n7) rfl rfl rfl (fun W hW => calm_run (by have hc : W.cell? ⟨gN, 7, none⟩ = some (.int .i64 n7) := cell_below hW (HP.out 7 (by omega)); simp [execOp, Act.eval, go_sem, hc]))
          · exact CalmG.mk 59 (.slice (some ⟨gN, 0, none⟩) 9 capN) rfl rfl rfl (fun W hW => calm_move (.tmp 8) rfl rfl)
          · exact CalmG.mk 60 (.int .i64 2) rfl rfl rfl (fun W hW => calm_move (.tmp 10) rfl rfl)
          · exact CalmG.mk 61 (.int .i64 6) rfl rfl rfl (fun W hW => calm_run (by first | (simp [execOp, Act.eval, go_sem]; done) | (simp [execOp, Act.eval, go_sem]; rfl)))
          · exact CalmG.mk 62 (.int .i64 8) rfl rfl rfl (fun W hW => calm_run (by first | (simp [execOp, Act.eval, go_sem]; done) | (simp [execOp, Act.eval, go_sem]; rfl)))
          · exact CalmG.mk 63 (.pointer (some ⟨gN, 8, none⟩)) rfl rfl rfl (fun W hW => calm_run (by first | (simp [execOp, Act.eval, go_sem]; done) | (simp [execOp, Act.eval, go_sem]; rfl)))
          · exact CalmG.mk 64 (.int .i64 n8) rfl rfl rfl (fun W hW => calm_run (by have hc : W.cell? ⟨gN, 8, none⟩ = some (.int .i64 n8) := cell_below hW (HP.out 8 (by omega)); simp [execOp, Act.eval, go_sem, hc]))
          · exact CalmG.mk 65 (ptV n6 n7 n8) rfl rfl rfl (fun W hW => calm_build 29 _ #[.int .i64 n6, .int .i64 n7, .int .i64 n8] rfl (by kernel_rfl))
          · exact CalmG.mk 66 (.pointer (some ⟨w.heap.size + 1 + 1 + 1, 6, none⟩)) rfl rfl rfl (fun W hW => calm_run (by first | (simp [execOp, Act.eval, go_sem]; done) | (simp [execOp, Act.eval, go_sem]; rfl)))
          intro W hW
          simp only [List.drop_succ_cons, List.drop_zero]
          have jr : W.heap[w.heap.size + 1]? = some (.cells #[.int .i64 0, .int .i64 0, .int .i64 0, .int .i64 0, .int .i64 0, .int .i64 0, .int .i64 0, .int .i64 0, .int .i64 0] 31 (0, 0)) := by rw [hW.block _ lr]; exact kr
          have jo : W.heap[w.heap.size + 1 + 1 + 1]? = some (.cells (outC 2 n0 n1 n2 n3 n4 n5 n6 n7 n8) 31 (0, 0)) := by rw [hW.block _ lo]; exact ko
          have HPW := Lib.hid (fun i (h : i < 9) => cell_below hW (HP.out i h))
          have HBW := Lib.hid (low_tr' HB.out hW HB.out.size)
          have c0 : W.cell? ⟨w.heap.size + 1 + 1 + 1, 6, none⟩ = some (.int .i64 0) := by rw [cell_of_row W _ 6 _ _ _ jo]; rfl
          have f0 := frozen_of_row W (w.heap.size + 1 + 1 + 1) 6 _ _ jo
          have c1 : W.cell? ⟨w.heap.size + 1 + 1 + 1, 7, none⟩ = some (.int .i64 0) := by rw [cell_of_row W _ 7 _ _ _ jo]; rfl
          have f1 := frozen_of_row W (w.heap.size + 1 + 1 + 1) 7 _ _ jo
          have c2 : W.cell? ⟨w.heap.size + 1 + 1 + 1, 8, none⟩ = some (.int .i64 0) := by rw [cell_of_row W _ 8 _ _ _ jo]; rfl
          have f2 := frozen_of_row W (w.heap.size + 1 + 1 + 1) 8 _ _ jo
          have Jr := Lib.hid jr
          have Jo := Lib.hid jo
          have hlo := (Array.getElem?_eq_some_iff.1 jo).1
          clear kr ko HP HB hW jr jo lo lr
          go_wp2
          go_roundw
          case rel => exact ⟨3, by omega, rfl, Lib.hid (fun i h => by rw [World.cell?_setCell_other _ _ _ _ (fun e => by have h2 := congrArg Addr.block e; simp at h2; omega), World.cell?_setCell_other _ _ _ _ (fun e => by have h2 := congrArg Addr.block e; simp at h2; omega), World.cell?_setCell_other _ _ _ _ (fun e => by have h2 := congrArg Addr.block e; simp at h2; omega)]; exact HPW.out i h), by rw [Below.heap_setCell _ _ _ _ (by simp), Below.heap_setCell _ _ _ _ (by simp), Below.heap_setCell _ _ _ _ (by simp)]; exact Jr.out, setCell_heap (setCell_heap (setCell_heap Jo.out _ _) _ _) _ _, Lib.hid (((HBW.out.setCell (by show w.heap.size ≤ w.heap.size + 1 + 1 + 1; omega) _).setCell (by show w.heap.size ≤ w.heap.size + 1 + 1 + 1; omega) _).setCell (by show w.heap.size ≤ w.heap.size + 1 + 1 + 1; omega) _)⟩
          case measure => simp [intOf]
        · have hlr := (Array.getElem?_eq_some_iff.1 kr).1
          go_wp2_with (first
            | (refine wpList_load_row _ rfl 31 _ rfl (g := w.heap.size + 1 + 1 + 1) (T := 31) (cs := #[.int .i64 n0, .int .i64 n1, .int .i64 n2, .int .i64 n3, .int .i64 n4, .int .i64 n5, .int .i64 n6, .int .i64 n7, .int .i64 n8]) (fr := (0, 0)) rfl ko 9 rfl Tryz.sizeOf31 Tryz.isAgg31 ?_)
            | (refine wpList_store_row _ rfl 31 _ _ rfl rfl (g := w.heap.size + 1) (T := 31) (cs := #[.int .i64 0, .int .i64 0, .int .i64 0, .int .i64 0, .int .i64 0, .int .i64 0, .int .i64 0, .int .i64 0, .int .i64 0]) (U := #[.int .i64 n0, .int .i64 n1, .int .i64 n2, .int .i64 n3, .int .i64 n4, .int .i64 n5, .int .i64 n6, .int .i64 n7, .int .i64 n8]) rfl rfl kr rfl Tryz.sizeOf31 (by simp [Value.oneCell']) ?_))
          exact bodyPost_ret (v := .agg #[.int .i64 n0, .int .i64 n1, .int .i64 n2, .int .i64 n3, .int .i64 n4, .int .i64 n5, .int .i64 n6, .int .i64 n7, .int .i64 n8]) (results_row Tryz.results104 rfl (setRow_heap _ _ _ _ _ _ kr) 9 rfl Tryz.sizeOf31 Tryz.isAgg31) rfl ⟨rfl, below_setRowN HB.out (by omega) _⟩

end Go.Proofs.YtaocnklolgdkfaaGreat
/- '==' on maps. -/
namespace Go.Proofs.YtaocnklolgdkfaaGreat
open Go.RowKit
set_option linter.unusedVariables false
set_option linter.unusedSimpArgs false
theorem partMap (w : World) (x0 x1 x2 x3 x4 x5 x6 x7 x8 : Int) :
    (part 29 #[.int .i64 x0, .int .i64 x1, .int .i64 x2, .int .i64 x3, .int .i64 x4, .int .i64 x5, .int .i64 x6, .int .i64 x7, .int .i64 x8] 0).run Tryz.prog w = .ok (ptV x0 x1 x2) w ∧ (part 29 #[.int .i64 x0, .int .i64 x1, .int .i64 x2, .int .i64 x3, .int .i64 x4, .int .i64 x5, .int .i64 x6, .int .i64 x7, .int .i64 x8] 3).run Tryz.prog w = .ok (ptV x3 x4 x5) w ∧ (part 29 #[.int .i64 x0, .int .i64 x1, .int .i64 x2, .int .i64 x3, .int .i64 x4, .int .i64 x5, .int .i64 x6, .int .i64 x7, .int .i64 x8] 6).run Tryz.prog w = .ok (ptV x6 x7 x8) w := by
  refine ⟨?_, ?_, ?_⟩
  · unfold part; rw [Sem.run_bind, Tryz.isAgg29]; simp only [Result.andThen_ok, if_true]; rw [Sem.run_bind, Tryz.sizeOf29]; rfl
  · unfold part; rw [Sem.run_bind, Tryz.isAgg29]; simp only [Result.andThen_ok, if_true]; rw [Sem.run_bind, Tryz.sizeOf29]; rfl
  · unfold part; rw [Sem.run_bind, Tryz.isAgg29]; simp only [Result.andThen_ok, if_true]; rw [Sem.run_bind, Tryz.sizeOf29]; rfl
theorem eqRow (w : World) (d : Nat) (a0 a1 a2 b0 b1 b2 : Int) : (Op.equalIn (d + 1 + 1) 29 (ptV a0 a1 a2) (ptV b0 b1 b2)).run Tryz.prog w = .ok (eqP (a0, a1, a2) (b0, b1, b2)) w :=
  eq_arr3 (i := Tryz.t2) w d Tryz.underlying29 (by kernel_rfl) (by kernel_rfl) Tryz.underlying2 (by kernel_rfl) _ _ _ _ _ _
theorem cellsRow : Tryz.prog.cellsOf 29 = 3 := by kernel_rfl
def eqM (a b c a' b' c' : Pt) : Bool := eqP a a' && (eqP b b' && eqP c c')
theorem eqM_iff {a b c a' b' c' : Pt} : eqM a b c a' b' c' = true ↔ a = a' ∧ b = b' ∧ c = c' := by
  unfold eqM; simp only [Bool.and_eq_true, eqP_iff]
theorem eqAMap (w : World) (x0 x1 x2 x3 x4 x5 x6 x7 x8 y0 y1 y2 y3 y4 y5 y6 y7 y8 : Int) : (Op.equalIn 10000 31 (.agg #[.int .i64 x0, .int .i64 x1, .int .i64 x2, .int .i64 x3, .int .i64 x4, .int .i64 x5, .int .i64 x6, .int .i64 x7, .int .i64 x8]) (.agg #[.int .i64 y0, .int .i64 y1, .int .i64 y2, .int .i64 y3, .int .i64 y4, .int .i64 y5, .int .i64 y6, .int .i64 y7, .int .i64 y8])).run Tryz.prog w = .ok (eqM (x0, x1, x2) (x3, x4, x5) (x6, x7, x8) (y0, y1, y2) (y3, y4, y5) (y6, y7, y8)) w := by
  obtain ⟨p0, p1, p2⟩ := partMap w x0 x1 x2 x3 x4 x5 x6 x7 x8
  obtain ⟨q0, q1, q2⟩ := partMap w y0 y1 y2 y3 y4 y5 y6 y7 y8
  have e := eqRow w 9997
  rw [run_equalIn_array (i := Tryz.t29) w 9999 _ _ Tryz.underlying31 (by kernel_rfl), cellsRow]
  simp only [List.range_succ_eq_map, List.range_zero, List.map_cons, List.map_nil, Op.eqItems, Nat.succ_eq_add_one, Nat.zero_add, Nat.reduceAdd, Nat.reduceMul, Nat.zero_mul, Sem.run_bind, p0, q0, Result.andThen_ok, e]
  unfold eqM
  cases h0 : eqP (x0, x1, x2) (y0, y1, y2) <;> cases h1 : eqP (x3, x4, x5) (y3, y4, y5) <;> cases h2 : eqP (x6, x7, x8) (y6, y7, y8) <;> simp [p1, q1, p2, q2, e, h0, h1, h2]
@[go_sem high] theorem eqMp (w : World) (x0 x1 x2 x3 x4 x5 x6 x7 x8 y0 y1 y2 y3 y4 y5 y6 y7 y8 : Int) : (binOp .eql 31 (.agg #[.int .i64 x0, .int .i64 x1, .int .i64 x2, .int .i64 x3, .int .i64 x4, .int .i64 x5, .int .i64 x6, .int .i64 x7, .int .i64 x8]) (.agg #[.int .i64 y0, .int .i64 y1, .int .i64 y2, .int .i64 y3, .int .i64 y4, .int .i64 y5, .int .i64 y6, .int .i64 y7, .int .i64 y8])).run Tryz.prog w = .ok (.bool (eqM (x0, x1, x2) (x3, x4, x5) (x6, x7, x8) (y0, y1, y2) (y3, y4, y5) (y6, y7, y8))) w := by
  rw [run_eql_struct, eqAMap]; rfl
theorem eqgMp : Tryz.prog.eqGuardType Tryz.prog.depth 31 = false := by kernel_rfl
end Go.Proofs.YtaocnklolgdkfaaGreat
/- Contracts: whether numbers are a map, a conic, a desk: the reference. -/
namespace Go.Proofs.YtaocnklolgdkfaaGreat
open Go.RowKit
set_option linter.unusedVariables false
set_option linter.unusedSimpArgs false
end Go.Proofs.YtaocnklolgdkfaaGreat
/- Contracts: the laws' own maps, conics, desks. (Printed by genm7.py, a program of this session.) -/
namespace Go.Proofs.YtaocnklolgdkfaaGreat
open Go.RowKit
set_option linter.unusedVariables false
set_option linter.unusedSimpArgs false
end Go.Proofs.YtaocnklolgdkfaaGreat
/- The law FnExactIsDesk: walked. -/
namespace Go.Proofs.YtaocnklolgdkfaaGreat
open Go.RowKit
set_option linter.unusedVariables false
set_option linter.unusedSimpArgs false
end Go.Proofs.YtaocnklolgdkfaaGreat

