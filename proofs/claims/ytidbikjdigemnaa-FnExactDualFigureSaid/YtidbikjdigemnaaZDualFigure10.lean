/- Texts of the claim, in build order: Y5, RegX, Y6. No condition. -/
import Derived.Deep.DeepCutAuto
import Derived.Test.YtidbikjdigemnaaZDualFigure9
/- Contracts: DualFigure in one form; what marks on a figure leave. -/
namespace Go.Proofs.Ytidbikjdigemnaa
open Go.RowKit
set_option linter.unusedVariables false
set_option linter.unusedSimpArgs false
theorem lies_ranges {a1 a2 : Option Addr} {B S : Nat} (h1 : Lies a1 B S) (h2 : Lies a2 B S) (hd : ∀ x y, a1 = some x → a2 = some y → x.block ≠ y.block) (hBS : B ≤ S) :
    ∃ lo1 hi1 lo2 hi2, Lies a1 lo1 hi1 ∧ Lies a2 lo2 hi2 ∧ (B ≤ lo1 ∧ hi1 ≤ S) ∧ (B ≤ lo2 ∧ hi2 ≤ S) ∧ (hi1 ≤ lo2 ∨ hi2 ≤ lo1) := by
  cases a1 with
  | none =>
    cases a2 with
    | none => exact ⟨B, B, B, B, (fun a ha => by cases ha), (fun a ha => by cases ha), ⟨Nat.le_refl _, hBS⟩, ⟨Nat.le_refl _, hBS⟩, .inl (Nat.le_refl _)⟩
    | some y =>
      obtain ⟨k1, k2⟩ := h2 y rfl
      exact ⟨B, B, y.block, y.block + 1, (fun a ha => by cases ha), (fun a ha => by cases ha; omega), ⟨Nat.le_refl _, hBS⟩, ⟨k1, k2⟩, .inl k1⟩
  | some x =>
    obtain ⟨j1, j2⟩ := h1 x rfl
    cases a2 with
    | none => exact ⟨x.block, x.block + 1, B, B, (fun a ha => by cases ha; omega), (fun a ha => by cases ha), ⟨j1, j2⟩, ⟨Nat.le_refl _, hBS⟩, .inr j1⟩
    | some y =>
      obtain ⟨k1, k2⟩ := h2 y rfl
      have := hd x y rfl rfl
      exact ⟨x.block, x.block + 1, y.block, y.block + 1, (fun a ha => by cases ha; omega), (fun a ha => by cases ha; omega), ⟨j1, j2⟩, ⟨k1, k2⟩, by omega⟩
/-- A new figure, and a code. -/
structure DualAny (m1 m2 : Nat) (L1 L2 : List Pt) (k : Int) (w : World) (e : Ending) (w' : World) : Prop where
  out : ∃ a1 d1 a2 d2 lo1 hi1 lo2 hi2, e = .returned (.tuple #[.agg #[.slice a1 m1 d1, .slice a2 m2 d2], .int .i64 k]) ∧ ListP w' a1 m1 L1 ∧ ListP w' a2 m2 L2 ∧ Lies a1 lo1 hi1 ∧ Lies a2 lo2 hi2 ∧ (w.heap.size ≤ lo1 ∧ hi1 ≤ w'.heap.size) ∧ (w.heap.size ≤ lo2 ∧ hi2 ≤ w'.heap.size) ∧ (hi1 ≤ lo2 ∨ hi2 ≤ lo1) ∧ MkL w' a1 m1 49 ∧ MkL w' a2 m2 50 ∧ Below w.heap.size w w'
theorem dual_any {n1 n2 : Nat} {l1 l2 : List Pt} (hl1 : l1.length = n1) (hl2 : l2.length = n2) {w w' : World} {e : Ending} (h : DualPost w n1 n2 l1 l2 e w') : DualAny n2 n1 l2 l1 0 w e w' := by
  obtain ⟨v1, v2, he, o1, o2, hb⟩ := h
  obtain ⟨b1, c1, e1, p1, i1, m1⟩ := own_all o1 hl2
  obtain ⟨b2, c2, e2, p2, i2, m2⟩ := own_all o2 hl1
  subst e1
  subst e2
  have hd : ∀ x y, b1 = some x → b2 = some y → x.block ≠ y.block := fun x y hx hy e => by
    subst hx
    subst hy
    exact own_neO o1 o2 (by decide) x.block rfl (by show some x.block = some y.block; rw [e])
  obtain ⟨lo1, hi1, lo2, hi2, r1, r2, r3, r4, r5⟩ := lies_ranges i1 i2 hd hb.size
  exact ⟨b1, c1, b2, c2, lo1, hi1, lo2, hi2, he, p1, p2, r1, r2, r3, r4, r5, m1, m2, hb⟩
theorem dual_zero {k : Int} {w w' : World} {e : Ending} (h : Ret w (.tuple #[.agg #[.slice none 0 0, .slice none 0 0], .int .i64 k]) e w') : DualAny 0 0 [] [] k w e w' := by
  obtain ⟨he, hb⟩ := h
  exact ⟨none, 0, none, 0, w.heap.size, w.heap.size, w.heap.size, w.heap.size, he, listP_nil, listP_nil, (fun a ha => by cases ha), (fun a ha => by cases ha), ⟨Nat.le_refl _, hb.size⟩, ⟨Nat.le_refl _, hb.size⟩, .inl (Nat.le_refl _), .inl ⟨rfl, rfl⟩, .inl ⟨rfl, rfl⟩, hb⟩
/-- What the answer's lists are. -/
def dualM (k : Int) (n : Nat) : Nat := if k = 0 then n else 0
def dualL (k : Int) (l : List Pt) : List Pt := if k = 0 then l else []
theorem dual_all (p : Int) (n1 n2 : Nat) (l1 l2 : List Pt) (w w' : World) (e : Ending) (hl1 : l1.length = n1) (hl2 : l2.length = n2)
    (h : (figC p n1 n2 l1 l2 = 0 ∧ DualPost w n1 n2 l1 l2 e w') ∨ (figC p n1 n2 l1 l2 ≠ 0 ∧ Ret w (.tuple #[.agg #[.slice none 0 0, .slice none 0 0], .int .i64 (figC p n1 n2 l1 l2)]) e w')) :
    DualAny (dualM (figC p n1 n2 l1 l2) n2) (dualM (figC p n1 n2 l1 l2) n1) (dualL (figC p n1 n2 l1 l2) l2) (dualL (figC p n1 n2 l1 l2) l1) (figC p n1 n2 l1 l2) w e w' := by
  unfold dualM dualL
  rcases h with ⟨h0, h⟩ | ⟨h0, h⟩
  · simp only [h0, if_true]; exact dual_any hl1 hl2 h
  · simp only [h0, if_false]; exact dual_zero h
theorem DualFigure_impl (p : Int) (b1 : Option Addr) (n1 c1 : Nat) (b2 : Option Addr) (n2 c2 : Nat) (l1 l2 : List Pt) (w : World) (hn1 : n1 ≤ 1000000) (hn2 : n2 ≤ 1000000) (h1 : ListP w b1 n1 l1) (h2 : ListP w b2 n2 l2) :
    Calls Try.prog 9 #[.int .i64 p, figV b1 n1 c1 b2 n2 c2] w (DualAny (dualM (figC p n1 n2 l1 l2) n2) (dualM (figC p n1 n2 l1 l2) n1) (dualL (figC p n1 n2 l1 l2) l2) (dualL (figC p n1 n2 l1 l2) l1) (figC p n1 n2 l1 l2) w) := by
  by_cases h0 : figC p n1 n2 l1 l2 = 0
  · exact (DualFigure_impl_good p b1 n1 c1 b2 n2 c2 l1 l2 w hn1 hn2 h1 h2 h0).mono fun e w' h => dual_all p n1 n2 l1 l2 w w' e h1.1 h2.1 (.inl ⟨h0, h⟩)
  · exact (DualFigure_impl_code p b1 n1 c1 b2 n2 c2 l1 l2 w hn1 hn2 h1 h2 _ rfl h0).mono fun e w' h => dual_all p n1 n2 l1 l2 w w' e h1.1 h2.1 (.inr ⟨h0, h⟩)
theorem DualFigure_spec (p : Int) (b1 : Option Addr) (n1 c1 : Nat) (b2 : Option Addr) (n2 c2 : Nat) (l1 l2 : List Pt) (w : World) (hn1 : n1 ≤ 1000000) (hn2 : n2 ≤ 1000000) (h1 : ListP w b1 n1 l1) (h2 : ListP w b2 n2 l2) :
    Calls Try.prog 7 #[.int .i64 p, figV b1 n1 c1 b2 n2 c2] w (DualAny (dualM (figC p n1 n2 l1 l2) n2) (dualM (figC p n1 n2 l1 l2) n1) (dualL (figC p n1 n2 l1 l2) l2) (dualL (figC p n1 n2 l1 l2) l1) (figC p n1 n2 l1 l2) w) := by
  by_cases h0 : figC p n1 n2 l1 l2 = 0
  · exact (DualFigure_spec_good p b1 n1 c1 b2 n2 c2 l1 l2 w hn1 hn2 h1 h2 h0).mono fun e w' h => dual_all p n1 n2 l1 l2 w w' e h1.1 h2.1 (.inl ⟨h0, h⟩)
  · exact (DualFigure_spec_code p b1 n1 c1 b2 n2 c2 l1 l2 w hn1 hn2 h1 h2 _ rfl h0).mono fun e w' h => dual_all p n1 n2 l1 l2 w w' e h1.1 h2.1 (.inr ⟨h0, h⟩)
/-- All blocks but those of two lists are as they were. -/
structure SaveF (b1 b2 : Option Addr) (w W : World) : Prop where
  os : W.os = w.os
  tape : W.tape = w.tape
  output : W.output = w.output
  size : w.heap.size ≤ W.heap.size
  block : ∀ k, k < w.heap.size → (∀ a, b1 = some a → a.block ≠ k) → (∀ a, b2 = some a → a.block ≠ k) → W.heap[k]? = w.heap[k]?
theorem markFigure_F (b1 : Option Addr) (n1 c1 : Nat) (b2 : Option Addr) (n2 c2 : Nat) (T1 T2 : TypeId) (w : World) (hn1 : n1 ≤ 1000000) (hn2 : n2 ≤ 1000000) (h1 : MkL w b1 n1 T1) (h2 : MkL w b2 n2 T2)
    (lo1 hi1 lo2 hi2 : Nat) (e1 : Lies b1 lo1 hi1) (e2 : Lies b2 lo2 hi2) (m1 : hi1 ≤ w.heap.size) (m2 : hi2 ≤ w.heap.size) (hd : hi1 ≤ lo2 ∨ hi2 ≤ lo1) :
    Calls Try.prog 12 #[figV b1 n1 c1 b2 n2 c2, .int .i64 101] w (fun e W => e = .returned (.int .i64 (markN n1 n2)) ∧ SaveF b1 b2 w W ∧ Mkd W b1 n1 101 ∧ Mkd W b2 n2 (101 + 3 * n1)) := by
  refine (markFigure_any b1 n1 c1 b2 n2 c2 T1 T2 w hn1 hn2 h1 h2 lo1 hi1 lo2 hi2 e1 e2 m1 m2 hd).mono fun e W ⟨⟨wm, wn, he, hb, s1, s2, k1, k2⟩⟩ => ⟨he, ?_, k1, k2⟩
  exact ⟨s2.os.trans (s1.os.trans hb.os), s2.tape.trans (s1.tape.trans hb.tape), s2.output.trans (s1.output.trans hb.output), Nat.le_trans hb.size (Nat.le_trans s1.size s2.size),
    fun k hk q1 q2 => (s2.block k (by have := hb.size; have := s1.size; omega) q2).trans ((s1.block k (by have := hb.size; omega) q1).trans (hb.block k hk))⟩
theorem SaveF.pts {b1 b2 : Option Addr} {w W : World} (hs : SaveF b1 b2 w W) {g o n : Nat} {l : List Pt} (h : PtsAt w g o n l) (q1 : ∀ a, b1 = some a → a.block ≠ g) (q2 : ∀ a, b2 = some a → a.block ≠ g) (hlt : g < w.heap.size) : PtsAt W g o n l := by
  have hc : ∀ i, W.cell? ⟨g, i, none⟩ = w.cell? ⟨g, i, none⟩ := fun i => by
    unfold World.cell?
    rw [hs.block g hlt q1 q2]
  intro i hi
  rw [hc, hc, hc]
  exact h i hi
theorem SaveF.list {b1 b2 : Option Addr} {w W : World} (hs : SaveF b1 b2 w W) {b : Option Addr} {n lo hi : Nat} {l : List Pt} (h : ListP w b n l) (hl : Lies b lo hi) (hw : hi ≤ w.heap.size) (q1 : ∀ a, b1 = some a → a.block < lo ∨ hi ≤ a.block) (q2 : ∀ a, b2 = some a → a.block < lo ∨ hi ≤ a.block) : ListP W b n l :=
  ⟨h.1, fun hn => by
    obtain ⟨g, o, rfl, hp⟩ := h.2 hn
    obtain ⟨h1, h2⟩ := hl _ rfl
    simp only at h1 h2
    exact ⟨g, o, rfl, hs.pts hp (fun a ha => by have := q1 a ha; omega) (fun a ha => by have := q2 a ha; omega) (by omega)⟩⟩
theorem SaveF.mkl {b1 b2 : Option Addr} {w W : World} (hs : SaveF b1 b2 w W) {b : Option Addr} {n lo hi : Nat} {T : TypeId} (h : MkL w b n T) (hl : Lies b lo hi) (hw : hi ≤ w.heap.size) (q1 : ∀ a, b1 = some a → a.block < lo ∨ hi ≤ a.block) (q2 : ∀ a, b2 = some a → a.block < lo ∨ hi ≤ a.block) : MkL W b n T := by
  rcases h with h0 | ⟨g, cap, rfl, hc, cur, h1, h2⟩
  · exact .inl h0
  · obtain ⟨k1, k2⟩ := hl _ rfl
    simp only at k1 k2
    exact .inr ⟨g, cap, rfl, hc, cur, (hs.block g (by omega) (fun a ha => by have := q1 a ha; omega) (fun a ha => by have := q2 a ha; omega)).trans h1, h2⟩
theorem SaveF.below {b1 b2 : Option Addr} {B : Nat} {w W W' : World} (h : SaveF b1 b2 W W') (hb : Below B w W) (q1 : ∀ a, b1 = some a → B ≤ a.block) (q2 : ∀ a, b2 = some a → B ≤ a.block) (hs : B ≤ W.heap.size) : Below B w W' :=
  ⟨h.os.trans hb.os, h.tape.trans hb.tape, h.output.trans hb.output, Nat.le_trans hb.size h.size, fun k hk => (h.block k (by omega) (fun a ha => by have := q1 a ha; omega) (fun a ha => by have := q2 a ha; omega)).trans (hb.block k hk)⟩
end Go.Proofs.Ytidbikjdigemnaa
/- A region whose first m operations draw their order and yield values of which a relation is known (slot, value, world); the others come behind them, in the text's order. (Printed by genregx.py, a program of this session.) -/
namespace Go.Proofs.Ytidbikjdigemnaa
open Go.RowKit
set_option linter.unusedVariables false
set_option linter.unusedSimpArgs false
structure relAt (P : Program) (o : Oper) (a : Act) (W : World) (S : Value → World → Prop) (Q : Exit → Act → World → Prop) : Prop where
  out : o.wp P a W (fun a' W' => ∃ v, a' = a.put o.dst v ∧ Below W.heap.size W W' ∧ S v W') Q
theorem rel_calm {P : Program} {o : Oper} {a : Act} {W : World} {S : Value → World → Prop} {Q : Exit → Act → World → Prop} {v : Value} (h : calmAt P o a.eval W v) (hS : ∀ W', Below W.heap.size W W' → S v W') : relAt P o a W S Q :=
  ⟨wp_of_calm h fun W' hb => ⟨v, rfl, hb, hS W' hb⟩⟩
theorem rel_new {P : Program} {o : Oper} {a : Act} {W W' : World} {S : Value → World → Prop} {Q : Exit → Act → World → Prop} {v : Value} (h : (execOp a.eval o).run P W = .ok (.value v) W') (hb : Below W.heap.size W W') (hS : S v W') : relAt P o a W S Q := by
  refine ⟨?_⟩
  unfold Oper.wp
  rw [h]
  exact ⟨v, rfl, hb, hS⟩
/-- What a call leaves. -/
def RelPost (W : World) (S : Value → World → Prop) (e : Ending) (W' : World) : Prop := ∃ v, e = .returned v ∧ Below W.heap.size W W' ∧ S v W'
theorem rel_call {P : Program} {o : Oper} {a : Act} {W : World} {S : Value → World → Prop} {Q : Exit → Act → World → Prop} (f : Nat) (c : Call) (args : Array Value) (ho : o.op = .call c) (hc : c.callee = .value (.func f)) (ha : c.args.map a.eval = args)
    (hf : (callFunc f args).run P W = .ok (.enter f args) W) (h : Calls P f args W (RelPost W S)) : relAt P o a W S Q := by
  refine ⟨?_⟩
  have hr : (execOp a.eval o).run P W = .ok (.enter f args) W := by
    unfold execOp
    have hρ : a.eval (.func f) = .func (.func f) #[] #[] := rfl
    simp only [ho, resolve, hc, hρ, ha, Deferred.ofValue, Sem.run_bind, Sem.run_pure, Result.andThen_ok, invoke, Array.append_empty, Array.empty_append, hf]
  unfold Oper.wp
  rw [hr, Oper.upon_enter]
  exact h.mono fun e w'' ⟨v, he, hb, hS⟩ => by subst he; exact ⟨v, rfl, hb, hS⟩
structure RInvX (l : List Oper) (m : Nat) (Rel : Nat → Value → World → Prop) (a0 : Act) (w0 : World) (listed : Array Bool) (a : Act) (w : World) : Prop where
  df : a.defers = a0.defers
  sz : a.tmps.size = a0.tmps.size
  len : listed.size = l.length
  fr1 : ∀ (j : Nat) (o : Oper) (t : Nat), j < m → l[j]? = some o → o.dst = some t → listed.getD j false = true → Rel t (a.tmps.getD t undef) w
  fr0 : ∀ t : Nat, (∀ (j : Nat) (o : Oper), j < m → l[j]? = some o → o.dst = some t → listed.getD j false = false) → a.tmps.getD t undef = a0.tmps.getD t undef
  bl : Below w0.heap.size w0 w
  rest : ∀ j, m ≤ j → listed.getD j false = false
  dc : ∀ (i : Nat) (o : Oper), l[i]? = some o → listed.getD i false = true → ∀ e ∈ o.after, Region.binds .any e = true → listed.getD e.on false = true
/-- What an operation may take of the slots that it reads. -/
def Taken (ts : List Nat) (Rel : Nat → Value → World → Prop) (a0 a : Act) (W : World) (u : Nat) : Prop := (ts.contains u = true → Rel u (a.tmps.getD u undef) W) ∧ (ts.contains u = false → a.tmps.getD u undef = a0.tmps.getD u undef)
structure RelOk (P : Program) (ts : List Nat) (Rel : Nat → Value → World → Prop) (Q : Exit → Act → World → Prop) (a0 : Act) (w : World) (o : Oper) : Prop where
  out : o.guard = none ∧ ∀ t, o.dst = some t → ∀ (a : Act) (W : World), Below w.heap.size w W → (∀ u, (readsOf o).contains u = true → Taken ts Rel a0 a W u) → relAt P o a W (Rel t) Q
theorem RelOk.mk' {P : Program} {ts : List Nat} {Rel : Nat → Value → World → Prop} {Q : Exit → Act → World → Prop} {a0 : Act} {w : World} {o : Oper} (t : Nat) (hd : o.dst = some t) (hg : o.guard = none)
    (h : ∀ (a : Act) (W : World), Below w.heap.size w W → (∀ u, (readsOf o).contains u = true → Taken ts Rel a0 a W u) → relAt P o a W (Rel t) Q) : RelOk P ts Rel Q a0 w o :=
  ⟨hg, fun t' hd' => by rw [hd] at hd'; obtain rfl := Option.some.inj hd'; exact h⟩
def AllR (p : Oper → Prop) : List Oper → Prop
  | [] => True
  | o :: r => p o ∧ AllR p r
theorem AllR.spec {p : Oper → Prop} {l : List Oper} (h : AllR p l) : ∀ o, o ∈ l → p o := by
  induction l with
  | nil => intro o ho; cases ho
  | cons x r ih =>
    intro o ho
    rcases List.mem_cons.1 ho with e | e
    · rw [e]; exact h.1
    · exact ih h.2 o e
theorem puts_vals (v : Nat → Value) (t : Nat) : ∀ (ts : List Nat) (a : Act), t ∈ ts → t < a.tmps.size → (puts a (ts.map fun t => (t, v t))).tmps.getD t undef = v t
  | [], _, h, _ => by cases h
  | u :: r, a, h, hs => by
    show (puts (a.put (some u) (v u)) (r.map fun t => (t, v t))).tmps.getD t undef = v t
    by_cases hr : t ∈ r
    · exact puts_vals v t r _ hr (by rw [put_size]; exact hs)
    · rcases List.mem_cons.1 h with e | e
      · subst e
        rw [puts_other t _ _ (fun kv hkv e => hr (by obtain ⟨x, hx, rfl⟩ := List.mem_map.1 hkv; rw [← e]; exact hx)), put_get_same _ _ _ hs]
      · exact (hr e).elim
section
variable {P : Program} {Q : Exit → Act → World → Prop} {l : List Oper} {a0 : Act} {w : World} {m : Nat} {ts : List Nat} {Rel : Nat → Value → World → Prop}
theorem region_rel {id : Nat} (m : Nat) (ts : List Nat) (Rel : Nat → Value → World → Prop) (hm : P.follows .mixedOrders = true) (hml : m ≤ l.length)
    (chk : viaChk l m a0.tmps.size = true) (hts : (l.take m).filterMap (·.dst) = ts)
    (mono : ∀ t, ts.contains t = true → ∀ v W W', Rel t v W → Below W.heap.size W W' → Rel t v W')
    (hop : AllR (RelOk P ts Rel Q a0 w) (l.take m))
    (hQ : ∀ (v : Nat → Value) (W : World), Below w.heap.size w W → (∀ t, ts.contains t = true → Rel t (v t) W) → wpList P l.toArray Q (l.drop m) (puts a0 (ts.map fun t => (t, v t))) W) :
    (Code.region id l.toArray true).wp P Q a0 w := by
  have hopi : ∀ (i : Nat) (o : Oper), i < m → l[i]? = some o → RelOk P ts Rel Q a0 w o := fun i o him hi => AllR.spec hop o (List.mem_take_iff_getElem.2 ⟨i, by have := (List.getElem?_eq_some_iff.1 hi).1; omega, (List.getElem?_eq_some_iff.1 hi).2⟩)
  have hmem : ∀ t, ts.contains t = true ↔ ∃ (j : Nat) (o : Oper), j < m ∧ l[j]? = some o ∧ o.dst = some t := by
    intro t
    rw [List.contains_iff_mem, ← hts, List.mem_filterMap]
    constructor
    · rintro ⟨o, ho, hd⟩
      obtain ⟨j, hj, e⟩ := List.mem_take_iff_getElem.1 ho
      exact ⟨j, o, by omega, by rw [← e]; exact List.getElem?_eq_getElem (by omega), hd⟩
    · rintro ⟨j, o, hj, ho, hd⟩
      exact ⟨o, List.mem_take_iff_getElem.2 ⟨j, by have := (List.getElem?_eq_some_iff.1 ho).1; omega, (List.getElem?_eq_some_iff.1 ho).2⟩, hd⟩
  refine wp_region_any hm ?_
  have key : ∀ (fuel : Nat) (listed : Array Bool) (a : Act) (W : World), RInvX l m Rel a0 w listed a W →
      (List.range m).countP (fun i => !listed.getD i true) + (l.length - m) ≤ fuel → wpAny P .any l.toArray Q fuel listed a W := by
    intro fuel
    have fin : ∀ (fuel : Nat) (listed : Array Bool) (a : Act) (W : World), RInvX l m Rel a0 w listed a W → (∀ j, j < m → listed.getD j false = true) → l.length - m ≤ fuel → wpAny P .any l.toArray Q fuel listed a W := by
      intro fuel listed a W hI hall hf
      have ea : a = puts a0 (ts.map fun t => (t, a.tmps.getD t undef)) := by
        refine act_ext _ _ (by rw [puts_defers]; exact hI.df) (by rw [puts_size]; exact hI.sz) (fun t ht => ?_)
        by_cases htd : ts.contains t = true
        · rw [puts_vals (fun t => a.tmps.getD t undef) t ts a0 (List.contains_iff_mem.1 htd) (by rw [← hI.sz]; exact ht)]
        · rw [puts_other t _ _ (fun kv hkv e => htd (by obtain ⟨x, hx, rfl⟩ := List.mem_map.1 hkv; rw [← e]; exact List.contains_iff_mem.2 hx))]
          exact hI.fr0 t (fun j o hjm hj ho => (htd ((hmem t).2 ⟨j, o, hjm, hj, ho⟩)).elim)
      have hq := hQ (fun t => a.tmps.getD t undef) W hI.bl (fun t ht => by obtain ⟨j, o, hjm, hj, ho⟩ := (hmem t).1 ht; exact hI.fr1 j o t hjm hj ho (hall j hjm))
      rw [← ea] at hq
      refine any_tailV chk fuel m listed _ W (Nat.le_refl _) hml hI.len (fun j hj => ⟨fun h => ?_, fun h => hall j h⟩) hf hq
      rcases Nat.lt_or_ge j m with h2 | h2
      · exact h2
      · rw [hI.rest j h2] at h; cases h
    have look : ∀ (listed : Array Bool) (a : Act) (W : World), RInvX l m Rel a0 w listed a W → ∀ (i : Nat) (o : Oper), i < m → l[i]? = some o →
        (∀ e ∈ o.after, Region.binds .any e = true → listed.getD e.on false = true) → ∀ t, (readsOf o).contains t = true → Taken ts Rel a0 a W t := by
      intro listed a W hI i o him hi hall t ht
      have h := ((viaChk_at chk hi).2.2.1 him).2.2 t (List.contains_iff_mem.1 ht)
      constructor
      · intro hc
        obtain ⟨j, oj, hjm, hj, hjd⟩ := (hmem t).1 hc
        obtain ⟨e, he, hb, hon⟩ := bindsTo_spec (h j oj hjm hj hjd)
        exact hI.fr1 j oj t hjm hj hjd (by rw [← hon]; exact hall e he hb)
      · intro hc
        exact hI.fr0 t (fun j o hjm hj ho => by rw [(hmem t).2 ⟨j, o, hjm, hj, ho⟩] at hc; cases hc)
    induction fuel with
    | zero =>
      intro listed a W hI hc
      refine fin 0 listed a W hI (fun j hj => ?_) (by omega)
      have h0 : (List.range m).countP (fun i => !listed.getD i true) = 0 := by omega
      rw [List.countP_eq_zero] at h0
      have := h0 j (List.mem_range.2 hj)
      have hj' : j < listed.size := by rw [hI.len]; omega
      simpa [hj'] using this
    | succ fuel ih =>
      intro listed a W hI hc
      by_cases hall : ∀ j, j < m → listed.getD j false = true
      · exact fin _ listed a W hI hall (by omega)
      · have hno : ∀ i, i ∈ Region.ready .any l.toArray listed → i < m := by
          intro i hi
          rcases Nat.lt_or_ge i m with h | h
          · exact h
          · exfalso
            obtain ⟨o, hio, hil, hi0, ha⟩ := ready_mem hi hI.len
            rcases Nat.eq_or_lt_of_le h with h2 | h2
            · refine hall (fun j hj => ?_)
              exact reach_listed hI.dc _ i j o hio ha ((viaChk_at chk hio).2.2.2.1 h2.symm j hj)
            · obtain ⟨e, he, hb, hon⟩ := bindsTo_spec ((viaChk_at chk hio).2.2.2.2 h2)
              have h3 := ha e he hb
              rw [hon, hI.rest (i - 1) (by omega)] at h3; cases h3
        refine ⟨fun hr => ?_, fun i hi => ?_⟩
        · exfalso
          have all : ∀ i, i < l.length → listed.getD i false = true := by
            intro i
            induction i using Nat.strongRecOn with
            | _ i ih2 =>
              intro hi
              cases hb : listed.getD i false with
              | true => rfl
              | false =>
                exfalso
                have ho : l[i]? = some l[i] := List.getElem?_eq_getElem hi
                have hmem : i ∈ Region.ready .any l.toArray listed := by
                  rw [mem_ready]
                  refine ⟨?_, l[i], by simp, fun e he hbd => ?_⟩
                  · have : i < listed.size := by have := hI.len; omega
                    simp [this] at hb ⊢; exact hb
                  · exact ih2 e.on ((viaChk_at chk ho).2.1 e he hbd) (by have := (viaChk_at chk ho).2.1 e he hbd; omega)
                rw [hr] at hmem; cases hmem
          exact hall (fun j hj => all j (by omega))
        · have him := hno i hi
          obtain ⟨o, hio, hil, hi0, hal⟩ := ready_mem hi hI.len
          have hil' : i < listed.size := by rw [hI.len]; exact hil
          have ho : l.toArray[i]? = some o := by simpa using hio
          have hC := viaChk_at chk hio
          have hCm := hC.2.2.1 him
          obtain ⟨t, hdst, htN⟩ := hCm.2.1
          have hw : Region.wanted o (yielded l.toArray a.tmps) = true := by unfold Region.wanted; rw [(hopi i o him hio).out.1]
          have hcnt : (List.range m).countP (fun j => !(listed.setIfInBounds i true).getD j true) + (l.length - m) ≤ fuel := by
            have := count_lt (fun j => !listed.getD j true) (fun j => !(listed.setIfInBounds i true).getD j true) (fun j hj => by
                by_cases e : i = j
                · subst e; simp [hil'] at hj
                · rw [getD_set_ne true e] at hj; exact hj) i (by simpa [hil'] using hi0) (by simp [hil']) (List.range m) (List.mem_range.2 him)
            omega
          have dcS : ∀ (i2 : Nat) (o2 : Oper), l[i2]? = some o2 → (listed.setIfInBounds i true).getD i2 false = true → ∀ e ∈ o2.after, Region.binds .any e = true → (listed.setIfInBounds i true).getD e.on false = true := by
            intro j oj hj hl e he hb
            rw [getD_set _ _ _ hil']
            by_cases ei : i = e.on
            · rw [if_pos ei]
            · rw [if_neg ei]
              rw [getD_set _ _ _ hil'] at hl
              by_cases ej : i = j
              · subst ej; rw [hio] at hj; obtain rfl := Option.some.inj hj; exact hal e he hb
              · rw [if_neg ej] at hl; exact hI.dc j oj hj hl e he hb
          have hrel := ((hopi i o him hio).out.2 t hdst a W hI.bl (look listed a W hI i o him hio hal)).out
          unfold wpOp
          simp only [ho, hw, if_true]
          refine .inl (Oper.wp_mono (fun a' W' h => ?_) hrel)
          obtain ⟨v, rfl, hb, hS⟩ := h
          rw [hdst]
          refine ih _ _ _ ⟨by rw [put_defers]; exact hI.df, by rw [put_size]; exact hI.sz, by simpa using hI.len, ?_, ?_, below_tr' hI.bl hb, ?_, dcS⟩ hcnt
          · intro j oj u hjm hj hjd hl
            by_cases htu : t = u
            · subst htu; rw [put_get_same _ _ _ (by rw [hI.sz]; exact htN)]; exact hS
            · rw [put_get_ne _ _ _ _ htu]
              rw [getD_set _ _ _ hil'] at hl
              by_cases e : i = j
              · subst e; rw [hio] at hj; obtain rfl := Option.some.inj hj; rw [hdst] at hjd; exact (htu (Option.some.inj hjd)).elim
              · rw [if_neg e] at hl; exact mono u ((hmem u).2 ⟨j, oj, hjm, hj, hjd⟩) _ _ _ (hI.fr1 j oj u hjm hj hjd hl) hb
          · intro u hnu
            have htu : t ≠ u := fun e => by
              subst e
              have := hnu i o him hio hdst
              rw [getD_set _ _ _ hil', if_pos rfl] at this; cases this
            rw [put_get_ne _ _ _ _ htu]
            refine hI.fr0 u (fun j oj hjm hj hjd => ?_)
            have := hnu j oj hjm hj hjd
            rw [getD_set _ _ _ hil'] at this
            by_cases e : i = j
            · rw [if_pos e] at this; cases this
            · rw [if_neg e] at this; exact this
          · intro j hj
            rw [getD_set _ _ _ hil', if_neg (by omega)]; exact hI.rest j hj
  refine key _ _ _ _ ⟨rfl, rfl, by simp, ?_, ?_, ⟨rfl, rfl, rfl, Nat.le_refl _, fun _ _ => rfl⟩, ?_, ?_⟩ ?_
  · intro j o t _ hj hjd hl; rw [rep_false] at hl; cases hl
  · intro t _; rfl
  · intro j _; exact rep_false _ _
  · intro j o _ hl; rw [rep_false] at hl; cases hl
  · have : (List.range m).countP (fun i => !(Array.replicate l.toArray.size false).getD i true) ≤ m := Nat.le_trans List.countP_le_length (by simp)
    simp at this ⊢; omega
end
/-- Relations by slots. -/
def relOf : List (Nat × (Value → World → Prop)) → Nat → Value → World → Prop
  | [], _, _, _ => True
  | kv :: r, t, v, W => if kv.1 = t then kv.2 v W else relOf r t v W
structure Mono (R : Value → World → Prop) : Prop where
  out : ∀ v W W', R v W → Below W.heap.size W W' → R v W'
def AllM : List (Nat × (Value → World → Prop)) → Prop
  | [] => True
  | kv :: r => Mono kv.2 ∧ AllM r
theorem AllM.spec : ∀ (rs : List (Nat × (Value → World → Prop))), AllM rs → ∀ t v W W', relOf rs t v W → Below W.heap.size W W' → relOf rs t v W'
  | [], _, _, _, _, _, _, _ => trivial
  | kv :: r, h, t, v, W, W', hr, hb => by
    unfold relOf at hr ⊢
    split
    · rename_i e; rw [if_pos e] at hr; exact h.1.out v W W' hr hb
    · rename_i e; rw [if_neg e] at hr; exact AllM.spec r h.2 t v W W' hr hb
def isV (A : Value) : Value → World → Prop := fun v _ => v = A
theorem mono_is (A : Value) : Mono (isV A) := ⟨fun _ _ _ h _ => h⟩
theorem region_rels {P : Program} {Q : Exit → Act → World → Prop} {l : List Oper} {a0 : Act} {w : World} {id : Nat} (m : Nat) (rs : List (Nat × (Value → World → Prop))) (hm : P.follows .mixedOrders = true) (hml : m ≤ l.length)
    (chk : viaChk l m a0.tmps.size = true) (hts : (l.take m).filterMap (·.dst) = rs.map (·.1))
    (mono : AllM rs)
    (hop : AllR (RelOk P (rs.map (·.1)) (relOf rs) Q a0 w) (l.take m))
    (hQ : ∀ (v : Nat → Value) (W : World), Below w.heap.size w W → (∀ t, (rs.map (·.1)).contains t = true → relOf rs t (v t) W) → wpList P l.toArray Q (l.drop m) (puts a0 (rs.map fun kv => (kv.1, v kv.1))) W) :
    (Code.region id l.toArray true).wp P Q a0 w := by
  refine region_rel m (rs.map (·.1)) (relOf rs) hm hml chk hts (fun t _ v W W' hr hb => AllM.spec rs mono t v W W' hr hb) hop (fun v W hW hv => ?_)
  have := hQ v W hW hv
  rw [List.map_map]
  exact this
end Go.Proofs.Ytidbikjdigemnaa
/- The law FnExactDualFigure, walked. (Printed by geny6.py, a program of this session.) -/
namespace Go.Proofs.Ytidbikjdigemnaa
open Go.RowKit
set_option linter.unusedVariables false
set_option linter.unusedSimpArgs false
def isLaid (n1 n2 : Nat) (l1 l2 : List Pt) : Value → World → Prop := fun v W => ∃ k1 k2, v = figV (some ⟨k1, 0, none⟩) n1 (n1 + roomN n1) (some ⟨k2, 0, none⟩) n2 (n2 + roomN n2) ∧ PtsAt W k1 0 (n1 + roomN n1) (withRoomP l1) ∧ PtsAt W k2 0 (n2 + roomN n2) (withRoomP l2)
theorem mono_laid (n1 n2 : Nat) (l1 l2 : List Pt) : Mono (isLaid n1 n2 l1 l2) := ⟨fun v W W' ⟨k1, k2, h, i1, i2⟩ hb => ⟨k1, k2, h, i1.below hb, i2.below hb⟩⟩
set_option maxHeartbeats 4000000 in
theorem FnExactDualFigure_big (p : Int) (b1 : Option Addr) (n1 c1 : Nat) (b2 : Option Addr) (n2 c2 : Nat) (w : World) (hn1 : n1 ≤ 9223372036854775807) (hn2 : n2 ≤ 9223372036854775807) (hk : ¬ n1 + n2 ≤ 1000000) :
    Calls Try.prog 3 #[.int .i64 p, figV b1 n1 c1 b2 n2 c2] w (Ret w (.bool true)) := by
  have HZ := Lib.hid (fun (W : World) => szFigure_any b1 n1 c1 b2 n2 c2 W hn1 hn2)
  rw [if_neg hk] at HZ
  go_enter Try.func3, Try.ntmps3
  go_wp2_with (go_at_call 6; (with_reducible refine (HZ.out _).mono ?_); rintro e w1_ ⟨rfl, hb1⟩; obtain ⟨hcb1, hfb1, hlb1⟩ := bcell hb1; have hsz1 := hb1.size; (try simp at hsz1); have HB1 := Lib.hid hb1; clear hb1; (try (have hl01 : w.heap.size < w1_.heap.size := by omega)))
  go_ret
  exact ⟨rfl, (by repeat (first | exact Below.refl _ _ | refine bset ?_ _ _ (by omega) _ | refine bal ?_ _ | refine bdrN ?_ _ | refine bdr ?_ | refine below_tr' ?_ HB1.out))⟩
set_option maxRecDepth 20000 in
set_option maxHeartbeats 16000000 in
theorem FnExactDualFigure_fit (p : Int) (b1 : Option Addr) (n1 c1 : Nat) (b2 : Option Addr) (n2 c2 : Nat) (l1 l2 : List Pt) (w : World) (hk : n1 + n2 ≤ 1000000) (h1 : ListP w b1 n1 l1) (h2 : ListP w b2 n2 l2) :
    Calls Try.prog 3 #[.int .i64 p, figV b1 n1 c1 b2 n2 c2] w (Ret w (.bool true)) := by
  have HZ := Lib.hid (fun (W : World) => szFigure_any b1 n1 c1 b2 n2 c2 W (by omega) (by omega))
  rw [if_pos hk] at HZ
  have HT := Lib.hid (fun (W : World) (hW : Below w.heap.size w W) => toFigure_R2 b1 n1 c1 b2 n2 c2 l1 l2 W (by omega) (by omega) (h1.below hW) (h2.below hW))
  have HU := Lib.hid (fun (W : World) (hW : Below w.heap.size w W) => toFigure_B b1 n1 c1 b2 n2 c2 l1 l2 W (by omega) (by omega) (h1.below hW) (h2.below hW))
  have HS := Lib.hid (fun (W : World) (a1 : Option Addr) (d1 : Nat) (a2 : Option Addr) (d2 : Nat) (i1 : ListP W a1 n1 l1) (i2 : ListP W a2 n2 l2) => DualFigure_spec p a1 n1 d1 a2 n2 d2 l1 l2 W (by omega) (by omega) i1 i2)
  have HI := Lib.hid (fun (W : World) (a1 : Option Addr) (d1 : Nat) (a2 : Option Addr) (d2 : Nat) (i1 : ListP W a1 n1 l1) (i2 : ListP W a2 n2 l2) => DualFigure_impl p a1 n1 d1 a2 n2 d2 l1 l2 W (by omega) (by omega) i1 i2)
  have HN := Lib.hid (fun (W : World) (g1 g2 k1 k2 : Nat) i1 i2 i3 i4 => intactFigure_same g1 g2 k1 k2 n1 n2 l1 l2 W (by omega) (by omega) h1.1 h2.1 i1 i2 i3 i4)
  have HL1 := Lib.hid h1.1
  have HL2 := Lib.hid h2.1
  have hm1 : dualM (figC p n1 n2 l1 l2) n2 ≤ 1000000 := by unfold dualM; split <;> omega
  have hm2 : dualM (figC p n1 n2 l1 l2) n1 ≤ 1000000 := by unfold dualM; split <;> omega
  generalize dualM (figC p n1 n2 l1 l2) n2 = m1 at *
  generalize dualM (figC p n1 n2 l1 l2) n1 = m2 at *
  generalize dualL (figC p n1 n2 l1 l2) l2 = L1 at *
  generalize dualL (figC p n1 n2 l1 l2) l1 = L2 at *
  generalize figC p n1 n2 l1 l2 = kc at *
  have hx0 : ¬ markN n1 n2 < 0 := by unfold markN; omega
  have hg0 : ¬ markN m1 m2 < 0 := by unfold markN; omega
  have HMk := Lib.hid (fun (W : World) a1 d1 a2 d2 (q1 : MkL W a1 n1 49) (q2 : MkL W a2 n2 50) lo1 hi1 lo2 hi2 e1 e2 k1 k2 hd => markFigure_F a1 n1 d1 a2 n2 d2 _ _ W (by omega) (by omega) q1 q2 lo1 hi1 lo2 hi2 e1 e2 k1 k2 hd)
  have HMg := Lib.hid (fun (W : World) a1 d1 a2 d2 (q1 : MkL W a1 m1 49) (q2 : MkL W a2 m2 50) lo1 hi1 lo2 hi2 e1 e2 k1 k2 hd => markFigure_F a1 m1 d1 a2 m2 d2 _ _ W hm1 hm2 q1 q2 lo1 hi1 lo2 hi2 e1 e2 k1 k2 hd)
  have HHg := Lib.hid (fun (W : World) a1 d1 a2 d2 (q1 : Mkd W a1 m1 101) (q2 : Mkd W a2 m2 (101 + 3 * m1)) => heldFigure_any a1 m1 d1 a2 m2 d2 W hm1 hm2 q1 q2)
  have HEq := Lib.hid (fun (W : World) a1 d1 a2 d2 a3 d3 a4 d4 i1 i2 i3 i4 => eqFigure_same a1 d1 a2 d2 a3 d3 a4 d4 m1 m2 L1 L2 W hm1 hm2 i1 i2 i3 i4)
  generalize markN n1 n2 = Mx at *
  generalize markN m1 m2 = Mg at *
  generalize hq : (1000000 : Int) - (n1 : Int) - (n2 : Int) = q at *
  have hq0 : ¬ q < 0 := by omega
  have tok3 : True := trivial
  have tok5 : True := trivial
  clear h1 h2 hq
  go_enter Try.func3, Try.ntmps3
  go_upto_region 10 with (first
    | (go_at_call 6; (with_reducible refine (HZ.out _).mono ?_); rintro e w1_ ⟨rfl, hb1⟩; obtain ⟨hcb1, hfb1, hlb1⟩ := bcell hb1; have hsz1 := hb1.size; (try simp at hsz1); have HB1 := Lib.hid hb1; clear hb1; (try (have hl01 : w.heap.size < w1_.heap.size := by omega)))
    | (have _t := tok3; go_at_call 8; (with_reducible refine (HT.out _ (by repeat (first | exact Below.refl _ _ | refine bset ?_ _ _ (by omega) _ | refine bal ?_ _ | refine bdrN ?_ _ | refine bdr ?_ | refine below_tr' ?_ HB1.out))).mono ?_); rintro e w3_ ⟨g31, g32, rfl, hu3, hv3, hw3, hr1, hr2, hp1, hp2, hb⟩; have HB3 := Lib.hid hb; have P31 := Lib.hid hp1; have P32 := Lib.hid hp2; have RR31 := Lib.hid hr1; have RR32 := Lib.hid hr2; have hsz3 := hb.size; (try simp at hsz3); clear hb hp1 hp2 hr1 hr2; clear tok3)
    | (go_at_call 7; (with_reducible refine (HS.out _ _ _ _ _ (laidR_list HL1.out P31.out) (laidR_list HL2.out P32.out)).mono ?_); rintro e w4_ ⟨a1, d1, a2, d2, lo4a, hi4a, lo4b, hi4b, rfl, hl1, hl2, hi1, hi2, ho1, ho2, hd, hm1, hm2, hb⟩; have HB4 := Lib.hid hb; have LA4 := Lib.hid hl1; have LB4 := Lib.hid hl2; have IA4 := Lib.hid hi1; have IB4 := Lib.hid hi2; have OA4 := Lib.hid ho1; have OB4 := Lib.hid ho2; have DD4 := Lib.hid hd; have MA4 := Lib.hid hm1; have MB4 := Lib.hid hm2; have hsz4 := hb.size; (try simp at hsz4); clear hb hl1 hl2 hi1 hi2 ho1 ho2 hd hm1 hm2)
    | (refine wpList_store_row _ rfl 29 _ _ rfl rfl rfl rfl (heap_alloc_new _ _) rfl Try.sizeOf29 (by simp [Value.oneCell']) ?_; rw [alloc_setRow])
    | (refine wpList_load_row _ rfl 24 _ rfl (g := w.heap.size) (T := 24) (cs := #[.slice b1 n1 c1, .slice b2 n2 c2]) (fr := (0, 0)) rfl (by rw [hn_pastN _ _ _ (by first | omega | (simp; done) | (simp; omega)), HB4.out.block _ (by first | omega | (simp; done) | (simp; omega)), HB3.out.block _ (by first | omega | (simp; done) | (simp; omega)), HB1.out.block _ (by simp)]; exact heap_alloc_new _ _) 2 rfl Try.sizeOf24 Try.isAgg24 ?_)
    | (have _t := tok5; go_at_call 8; (with_reducible refine (HT.out _ (by repeat (first | exact Below.refl _ _ | refine bset ?_ _ _ (by omega) _ | refine bal ?_ _ | refine bdrN ?_ _ | refine bdr ?_ | refine below_tr' ?_ HB4.out | refine below_tr' ?_ HB3.out | refine below_tr' ?_ HB1.out))).mono ?_); rintro e w5_ ⟨g51, g52, rfl, hu5, hv5, hw5, hr1, hr2, hp1, hp2, hb⟩; have HB5 := Lib.hid hb; have P51 := Lib.hid hp1; have P52 := Lib.hid hp2; have RR51 := Lib.hid hr1; have RR52 := Lib.hid hr2; have hsz5 := hb.size; (try simp at hsz5); clear hb hp1 hp2 hr1 hr2; clear tok5)
    | (refine wpList_load_row _ rfl 29 _ rfl (g := w5_.heap.size) (T := 29) (cs := #[.slice (some ⟨g51, 0, none⟩) n1 (n1 + roomN n1), .slice (some ⟨g52, 0, none⟩) n2 (n2 + roomN n2)]) (fr := (0, 0)) rfl (heap_alloc_new _ _) 2 rfl Try.sizeOf29 Try.isAgg29 ?_)
    | (go_at_call 9; (with_reducible refine (HI.out _ _ _ _ _ ((laidR_list HL1.out P51.out).below (bal (Below.refl _ _) _)) ((laidR_list HL2.out P52.out).below (bal (Below.refl _ _) _))).mono ?_); rintro e w6_ ⟨e1, f1, e2, f2, lo6a, hi6a, lo6b, hi6b, rfl, hl1, hl2, hi1, hi2, ho1, ho2, hd, hm1, hm2, hb⟩; have HB6 := Lib.hid hb; have LA6 := Lib.hid hl1; have LB6 := Lib.hid hl2; have IA6 := Lib.hid hi1; have IB6 := Lib.hid hi2; have OA6 := Lib.hid ho1; have OB6 := Lib.hid ho2; have DD6 := Lib.hid hd; have MA6 := Lib.hid hm1; have MB6 := Lib.hid hm2; have hsz6 := hb.size; (try simp at hsz6); clear hb hl1 hl2 hi1 hi2 ho1 ho2 hd hm1 hm2)
    | (refine wpList_load_row _ rfl 29 _ rfl (g := w6_.heap.size) (T := 29) (cs := #[.slice e1 m1 f1, .slice e2 m2 f2]) (fr := (0, 0)) rfl (heap_alloc_new _ _) 2 rfl Try.sizeOf29 Try.isAgg29 ?_)
    | (refine wpList_load_row _ rfl 29 _ rfl (g := w4_.heap.size) (T := 29) (cs := #[.slice a1 m1 d1, .slice a2 m2 d2]) (fr := (0, 0)) rfl (by rw [hn_pastN _ _ _ (by first | omega | (simp; done) | (simp; omega)), HB6.out.block _ (by first | omega | (simp; done) | (simp; omega)), hn_pastN _ _ _ (by first | omega | (simp; done) | (simp; omega)), HB5.out.block _ (by first | omega | (simp; done) | (simp; omega)), hn_atN _ _ _ rfl]) 2 rfl Try.sizeOf29 Try.isAgg29 ?_)
    | (go_at_call 10; (with_reducible refine (HEq.out _ _ _ _ _ _ _ _ _ (LA6.out.below (bal (Below.refl _ _) _)) (LB6.out.below (bal (Below.refl _ _) _)) ((((LA4.out.below (bal (Below.refl _ _) _)).below HB5.out).below (bal (Below.refl _ _) _)).below HB6.out |>.below (bal (Below.refl _ _) _)) ((((LB4.out.below (bal (Below.refl _ _) _)).below HB5.out).below (bal (Below.refl _ _) _)).below HB6.out |>.below (bal (Below.refl _ _) _))).mono ?_); rintro e w7_ ⟨rfl, hb7⟩; obtain ⟨hcb7, hfb7, hlb7⟩ := bcell hb7; have hsz7 := hb7.size; (try simp at hsz7); have HB7 := Lib.hid hb7; clear hb7))
  have hA := HB1.out.size
  try simp at hA
  have K3 : w7_.heap[w.heap.size]? = some (.cells #[.slice b1 n1 c1, .slice b2 n2 c2] 24 (0, 0)) := by rw [HB7.out.block _ (by first | omega | (simp; done) | (simp; omega)), hn_pastN _ _ _ (by omega), HB6.out.block _ (by first | omega | (simp; done) | (simp; omega)), hn_pastN _ _ _ (by omega), HB5.out.block _ (by first | omega | (simp; done) | (simp; omega)), hn_pastN _ _ _ (by omega), HB4.out.block _ (by omega), HB3.out.block _ (by omega), HB1.out.block _ (by simp)]; exact heap_alloc_new _ _
  have K6 : w7_.heap[w4_.heap.size]? = some (.cells #[.slice a1 m1 d1, .slice a2 m2 d2] 29 (0, 0)) := by rw [HB7.out.block _ (by first | omega | (simp; done) | (simp; omega)), hn_pastN _ _ _ (by omega), HB6.out.block _ (by first | omega | (simp; done) | (simp; omega)), hn_pastN _ _ _ (by omega), HB5.out.block _ (by simp), hn_atN _ _ _ rfl]
  have K8 : w7_.heap[w5_.heap.size]? = some (.cells #[.slice (some ⟨g51, 0, none⟩) n1 (n1 + roomN n1), .slice (some ⟨g52, 0, none⟩) n2 (n2 + roomN n2)] 29 (0, 0)) := by rw [HB7.out.block _ (by first | omega | (simp; done) | (simp; omega)), hn_pastN _ _ _ (by omega), HB6.out.block _ (by simp), hn_atN _ _ _ rfl]
  have K9 : w7_.heap[w6_.heap.size]? = some (.cells #[.slice e1 m1 f1, .slice e2 m2 f2] 29 (0, 0)) := by rw [HB7.out.block _ (by simp), hn_atN _ _ _ rfl]
  have HQ : Hid (Below w.heap.size w w7_) := Lib.hid (by repeat (first | exact Below.refl _ _ | refine bset ?_ _ _ (by omega) _ | refine bal ?_ _ | refine bdrN ?_ _ | refine bdr ?_ | refine below_tr' ?_ HB7.out | refine below_tr' ?_ HB6.out | refine below_tr' ?_ HB5.out | refine below_tr' ?_ HB4.out | refine below_tr' ?_ HB3.out | refine below_tr' ?_ HB1.out))
  replace P51 := Lib.hid ((((P51.out.below (bal (Below.refl _ _) _)).below HB6.out).below (bal (Below.refl _ _) _)).below HB7.out)
  replace P52 := Lib.hid ((((P52.out.below (bal (Below.refl _ _) _)).below HB6.out).below (bal (Below.refl _ _) _)).below HB7.out)
  replace RR51 := Lib.hid ((((RR51.out.below (bal (Below.refl _ _) _)).below HB6.out).below (bal (Below.refl _ _) _)).below HB7.out)
  replace RR52 := Lib.hid ((((RR52.out.below (bal (Below.refl _ _) _)).below HB6.out).below (bal (Below.refl _ _) _)).below HB7.out)
  replace LA4 := Lib.hid ((((((LA4.out.below (bal (Below.refl _ _) _)).below HB5.out).below (bal (Below.refl _ _) _)).below HB6.out).below (bal (Below.refl _ _) _)).below HB7.out)
  replace LB4 := Lib.hid ((((((LB4.out.below (bal (Below.refl _ _) _)).below HB5.out).below (bal (Below.refl _ _) _)).below HB6.out).below (bal (Below.refl _ _) _)).below HB7.out)
  replace LA6 := Lib.hid ((LA6.out.below (bal (Below.refl _ _) _)).below HB7.out)
  replace LB6 := Lib.hid ((LB6.out.below (bal (Below.refl _ _) _)).below HB7.out)
  replace MA6 := Lib.hid ((MA6.out.below (bal (Below.refl _ _) _)).below HB7.out)
  replace MB6 := Lib.hid ((MB6.out.below (bal (Below.refl _ _) _)).below HB7.out)
  have oa4 := OA4.out
  have ob4 := OB4.out
  have oa6 := OA6.out
  have ob6 := OB6.out
  try simp at oa6 ob6
  have s7 := HB7.out.size
  try simp at s7
  have hs3 := HB3.out.size
  have hs4 := HB4.out.size
  try simp at hu5
  clear HB1 HB3 HB4 HB5 HB6 HB7 P31 P32 RR31 RR32 OA4 OB4 OA6 OB6 HS MA4 MB4 hcb1 hfb1 hlb1 hcb7 hfb7 hlb7
  refine region_rels 5 [(45, isV (figV (some ⟨g51, 0, none⟩) n1 (n1 + roomN n1) (some ⟨g52, 0, none⟩) n2 (n2 + roomN n2))), (46, isV (figV b1 n1 c1 b2 n2 c2)), (47, isLaid n1 n2 l1 l2), (48, isV (.bool true)), (49, isV (.bool false))] (by kernel_rfl) (by decide) (by kernel_rfl) rfl ⟨mono_is _, mono_is _, mono_laid _ _ _ _, mono_is _, mono_is _, trivial⟩ ⟨?_, ?_, ?_, ?_, ?_, trivial⟩ ?_
  · refine RelOk.mk' 45 rfl rfl (fun a W hW hr => ?_)
    have h8 := (hr 8 rfl).2 rfl
    exact rel_calm (calm_load (cs := #[.slice (some ⟨g51, 0, none⟩) n1 (n1 + roomN n1), .slice (some ⟨g52, 0, none⟩) n2 (n2 + roomN n2)]) (g := w5_.heap.size) (T := 29) (fr := (0, 0)) 29 (.tmp 8) rfl h8 (by rw [hW.block _ (by omega)]; exact K8) 2 rfl Try.sizeOf29 Try.isAgg29) (fun _ _ => rfl)
  · refine RelOk.mk' 46 rfl rfl (fun a W hW hr => ?_)
    have h3 := (hr 3 rfl).2 rfl
    exact rel_calm (calm_load (cs := #[.slice b1 n1 c1, .slice b2 n2 c2]) (g := w.heap.size) (T := 24) (fr := (0, 0)) 24 (.tmp 3) rfl h3 (by rw [hW.block _ (by omega)]; exact K3) 2 rfl Try.sizeOf24 Try.isAgg24) (fun _ _ => rfl)
  · refine RelOk.mk' 47 rfl rfl (fun a W hW hr => ?_)
    have h42 : a.tmps.getD 46 undef = figV b1 n1 c1 b2 n2 c2 := (hr 46 rfl).1 rfl
    exact rel_call 8 _ #[figV b1 n1 c1 b2 n2 c2, .bool false] rfl rfl (by simp [Act.eval, h42]) (Try.call8 _ _)
      ((HT.out W (low_tr' HQ.out hW (by omega))).mono fun e W' ⟨⟨k1, k2, he, _, _, _, _, _, i1, i2, hb⟩⟩ => ⟨_, he, hb, k1, k2, rfl, i1, i2⟩)
  · refine RelOk.mk' 48 rfl rfl (fun a W hW hr => ?_)
    have h41 : a.tmps.getD 45 undef = figV (some ⟨g51, 0, none⟩) n1 (n1 + roomN n1) (some ⟨g52, 0, none⟩) n2 (n2 + roomN n2) := (hr 45 rfl).1 rfl
    obtain ⟨k1, k2, h43, i1, i2⟩ : isLaid n1 n2 l1 l2 (a.tmps.getD 47 undef) W := (hr 47 rfl).1 rfl
    exact rel_call 11 _ #[figV (some ⟨g51, 0, none⟩) n1 (n1 + roomN n1) (some ⟨g52, 0, none⟩) n2 (n2 + roomN n2), figV (some ⟨k1, 0, none⟩) n1 (n1 + roomN n1) (some ⟨k2, 0, none⟩) n2 (n2 + roomN n2)] rfl rfl (by simp [Act.eval, h41, h43]) (Try.call11 _ _)
      ((HN.out W g51 g52 k1 k2 (P51.out.below hW) (P52.out.below hW) i1 i2).mono fun e W' ⟨he, hb⟩ => ⟨_, he, hb, rfl⟩)
  · refine RelOk.mk' 49 rfl rfl (fun a W hW hr => ?_)
    have h44 : a.tmps.getD 48 undef = .bool true := (hr 48 rfl).1 rfl
    exact rel_calm (calm_run (v := .bool false) (by simp [execOp, Act.eval, go_sem, h44])) (fun _ _ => rfl)
  intro v w8_ hb8 hv
  have e41 : v 45 = figV (some ⟨g51, 0, none⟩) n1 (n1 + roomN n1) (some ⟨g52, 0, none⟩) n2 (n2 + roomN n2) := hv 45 rfl
  have e42 : v 46 = figV b1 n1 c1 b2 n2 c2 := hv 46 rfl
  have e44 : v 48 = .bool true := hv 48 rfl
  have e45 : v 49 = .bool false := hv 49 rfl
  simp only [List.map_cons, List.map_nil, puts, Act.put, List.setIfInBounds_toArray, List.set_cons_zero, List.set_cons_succ, e41, e42, e44, e45, List.drop_succ_cons, List.drop_zero, List.drop_nil]
  refine wpList_nil ?_
  have q8 := hb8.size
  have HB8 := Lib.hid hb8
  generalize v 47 = v47
  clear hv hb8 e41 e42 e44 e45 v HN
  have K3b := (HB8.out.block _ (by omega)).trans K3
  have K6b := (HB8.out.block _ (by omega)).trans K6
  have K8b := (HB8.out.block _ (by omega)).trans K8
  have K9b := (HB8.out.block _ (by omega)).trans K9
  have HQ8 : Hid (Below w.heap.size w w8_) := Lib.hid (low_tr' HQ.out HB8.out (by omega))
  replace RR51 := Lib.hid (RR51.out.below HB8.out)
  replace RR52 := Lib.hid (RR52.out.below HB8.out)
  replace LA4 := Lib.hid (LA4.out.below HB8.out)
  replace LB4 := Lib.hid (LB4.out.below HB8.out)
  replace LA6 := Lib.hid (LA6.out.below HB8.out)
  replace LB6 := Lib.hid (LB6.out.below HB8.out)
  replace MA6 := Lib.hid (MA6.out.below HB8.out)
  replace MB6 := Lib.hid (MB6.out.below HB8.out)
  clear K3 K6 K8 K9 HQ P51 P52 HB8
  have x1 : ∀ a : Addr, some (⟨g51, 0, none⟩ : Addr) = some a → a.block = g51 := fun a ha => by cases ha; rfl
  have x2 : ∀ a : Addr, some (⟨g52, 0, none⟩ : Addr) = some a → a.block = g52 := fun a ha => by cases ha; rfl
  have X1 := Lib.hid x1
  have X2 := Lib.hid x2
  clear x1 x2
  go_upto_region 14 with (first
    | (refine wpList_load_row _ rfl 29 _ rfl (g := w5_.heap.size) (T := 29) (cs := #[.slice (some ⟨g51, 0, none⟩) n1 (n1 + roomN n1), .slice (some ⟨g52, 0, none⟩) n2 (n2 + roomN n2)]) (fr := (0, 0)) rfl (K8b) 2 rfl Try.sizeOf29 Try.isAgg29 ?_)
    | (go_at_call 12; refine (HMk.out _ _ _ _ _ (.inr ⟨g51, _, rfl, Nat.le_add_right _ _, RR51.out⟩) (.inr ⟨g52, _, rfl, Nat.le_add_right _ _, RR52.out⟩) g51 (g51 + 1) g52 (g52 + 1) (fun a ha => by have := X1.out a ha; omega) (fun a ha => by have := X2.out a ha; omega) (by omega) (by omega) (by omega)).mono ?_; rintro e w9_ ⟨rfl, hs, _, _⟩; have HS9 := Lib.hid hs; clear hs))
  have s9 := HS9.out.size
  have d1 : ∀ k, k < w8_.heap.size → k ≠ g51 → k ≠ g52 → w9_.heap[k]? = w8_.heap[k]? := fun k hk q1 q2 => HS9.out.block k hk (fun a ha => by have := X1.out a ha; omega) (fun a ha => by have := X2.out a ha; omega)
  have K3c := (d1 _ (by omega) (by omega) (by omega)).trans K3b
  have K6c := (d1 _ (by omega) (by omega) (by omega)).trans K6b
  have K9c := (d1 _ (by omega) (by omega) (by omega)).trans K9b
  replace LA4 := Lib.hid (HS9.out.list LA4.out IA4.out (by omega) (fun a ha => by have := X1.out a ha; omega) (fun a ha => by have := X2.out a ha; omega))
  replace LB4 := Lib.hid (HS9.out.list LB4.out IB4.out (by omega) (fun a ha => by have := X1.out a ha; omega) (fun a ha => by have := X2.out a ha; omega))
  replace LA6 := Lib.hid (HS9.out.list LA6.out IA6.out (by omega) (fun a ha => by have := X1.out a ha; omega) (fun a ha => by have := X2.out a ha; omega))
  replace LB6 := Lib.hid (HS9.out.list LB6.out IB6.out (by omega) (fun a ha => by have := X1.out a ha; omega) (fun a ha => by have := X2.out a ha; omega))
  replace MA6 := Lib.hid (HS9.out.mkl MA6.out IA6.out (by omega) (fun a ha => by have := X1.out a ha; omega) (fun a ha => by have := X2.out a ha; omega))
  replace MB6 := Lib.hid (HS9.out.mkl MB6.out IB6.out (by omega) (fun a ha => by have := X1.out a ha; omega) (fun a ha => by have := X2.out a ha; omega))
  have HQ9 : Hid (Below w.heap.size w w9_) := Lib.hid (HS9.out.below HQ8.out (fun a ha => by have := X1.out a ha; omega) (fun a ha => by have := X2.out a ha; omega) (by omega))
  have z6a := rowV (off := 0) K6c rfl
  have z6b := rowV (off := 1) K6c rfl
  have z9a := rowV (off := 0) K9c rfl
  have z9b := rowV (off := 1) K9c rfl
  have K3d := Lib.hid K3c
  have K6d := Lib.hid K6c
  have K9d := Lib.hid K9c
  have ia4 := IA4.out
  have ib4 := IB4.out
  have ia6 := IA6.out
  have ib6 := IB6.out
  have IX4 := Lib.hid ia4
  clear d1 K3b K6b K8b K9b K3c K6c K9c HQ8 HS9 RR51 RR52 HMk ia4 ib4 ia6 ib6 IX4
  have tokE : True := trivial
  have tokH : True := trivial
  go_wp2_with (first
    | (have _t := tokE; (go_at_call 10; (with_reducible refine (HEq.out _ _ _ _ _ _ _ _ _ LA6.out LB6.out LA4.out LB4.out).mono ?_); rintro e w10_ ⟨rfl, hb10⟩; obtain ⟨hcb10, hfb10, hlb10⟩ := bcell hb10; have hsz10 := hb10.size; (try simp at hsz10); have HB10 := Lib.hid hb10; clear hb10); clear tokE; have K3e := Lib.hid ((HB10.out.block _ (Array.getElem?_eq_some_iff.1 K3d.out).1).trans K3d.out); have K6e := Lib.hid ((HB10.out.block _ (Array.getElem?_eq_some_iff.1 K6d.out).1).trans K6d.out); have K9e := Lib.hid ((HB10.out.block _ (Array.getElem?_eq_some_iff.1 K9d.out).1).trans K9d.out))
    | (refine wpList_load_row _ rfl 29 _ rfl (g := w6_.heap.size) (T := 29) (cs := #[.slice e1 m1 f1, .slice e2 m2 f2]) (fr := (0, 0)) rfl (by first | exact K9e.out | exact K9f.out | exact K9m.out) 2 rfl Try.sizeOf29 Try.isAgg29 ?_)
    | (go_at_call 12; refine (HMg.out _ _ _ _ _ (MA6.out.below HB10.out) (MB6.out.below HB10.out) lo6a hi6a lo6b hi6b IA6.out IB6.out (by omega) (by omega) DD6.out).mono ?_; rintro e w11_ ⟨rfl, hs, hm1, hm2⟩; have HS11 := Lib.hid hs; have HM1 := Lib.hid hm1; have HM2 := Lib.hid hm2; have s11 := hs.size; clear hs hm1 hm2; have K9f := Lib.hid ((HS11.out.block w6_.heap.size (by omega) (fun a ha => by have := IA6.out a ha; omega) (fun a ha => by have := IB6.out a ha; omega)).trans K9e.out); have K6f := Lib.hid ((HS11.out.block w4_.heap.size (by omega) (fun a ha => by have := IA6.out a ha; omega) (fun a ha => by have := IB6.out a ha; omega)).trans K6e.out); have K3f := Lib.hid ((HS11.out.block w.heap.size (by omega) (fun a ha => by have := IA6.out a ha; omega) (fun a ha => by have := IB6.out a ha; omega)).trans K3e.out); have LC4 := Lib.hid (HS11.out.list (LA4.out.below HB10.out) IA4.out (by omega) (fun a ha => by have := IA6.out a ha; omega) (fun a ha => by have := IB6.out a ha; omega)); have LD4 := Lib.hid (HS11.out.list (LB4.out.below HB10.out) IB4.out (by omega) (fun a ha => by have := IA6.out a ha; omega) (fun a ha => by have := IB6.out a ha; omega)); have HQ11 := Lib.hid (HS11.out.below (low_tr' HQ9.out HB10.out HQ9.out.size) (fun a ha => by have := IA6.out a ha; omega) (fun a ha => by have := IB6.out a ha; omega) (by omega)))
    | (have _t := tokH; (go_at_call 13; (with_reducible refine (HHg.out _ _ _ _ _ HM1.out HM2.out).mono ?_); rintro e w12_ ⟨rfl, hb12⟩; obtain ⟨hcb12, hfb12, hlb12⟩ := bcell hb12; have hsz12 := hb12.size; (try simp at hsz12); have HB12 := Lib.hid hb12; clear hb12); clear tokH; have K3g := Lib.hid ((HB12.out.block _ (Array.getElem?_eq_some_iff.1 K3f.out).1).trans K3f.out); have K6g := Lib.hid ((HB12.out.block _ (Array.getElem?_eq_some_iff.1 K6f.out).1).trans K6f.out); have K9g := Lib.hid ((HB12.out.block _ (Array.getElem?_eq_some_iff.1 K9f.out).1).trans K9f.out))
    | (refine wpList_load_row _ rfl 24 _ rfl (g := w.heap.size) (T := 24) (cs := #[.slice b1 n1 c1, .slice b2 n2 c2]) (fr := (0, 0)) rfl (K3g.out) 2 rfl Try.sizeOf24 Try.isAgg24 ?_)
    | (go_at_call 8; (with_reducible refine (HU.out _ (low_tr' HQ11.out HB12.out HQ11.out.size)).mono ?_); rintro e w13_ ⟨B1, C1, B2, C2, rfl, hp1, hp2, hb⟩; have HB13 := Lib.hid hb; have hsz13 := hb.size; have P131 := Lib.hid hp1; have P132 := Lib.hid hp2; clear hb hp1 hp2; have K6h := Lib.hid ((HB13.out.block _ (Array.getElem?_eq_some_iff.1 K6g.out).1).trans K6g.out); have K9h := Lib.hid ((HB13.out.block _ (Array.getElem?_eq_some_iff.1 K9g.out).1).trans K9g.out))
    | (go_at_call 9; (with_reducible refine (HI.out _ _ _ _ _ P131.out P132.out).mono ?_); rintro e w14_ ⟨j1, x1, j2, x2, lo14a, hi14a, lo14b, hi14b, rfl, hl1, hl2, hi1, hi2, ho1, ho2, hd, hm1, hm2, hb⟩; have HB14 := Lib.hid hb; have LA14 := Lib.hid hl1; have LB14 := Lib.hid hl2; have IA14 := Lib.hid hi1; have IB14 := Lib.hid hi2; have OA14 := Lib.hid ho1; have OB14 := Lib.hid ho2; have DD14 := Lib.hid hd; have MA14 := Lib.hid hm1; have MB14 := Lib.hid hm2; have hsz14 := hb.size; (try simp at hsz14); clear hb hl1 hl2 hi1 hi2 ho1 ho2 hd hm1 hm2; have K6i := Lib.hid ((HB14.out.block _ (Array.getElem?_eq_some_iff.1 K6h.out).1).trans K6h.out); have K9i := Lib.hid ((HB14.out.block _ (Array.getElem?_eq_some_iff.1 K9h.out).1).trans K9h.out); have hz6 := (Array.getElem?_eq_some_iff.1 K6i.out).1; have hz9 := (Array.getElem?_eq_some_iff.1 K9i.out).1)
    | (refine wpList_store_row _ rfl 29 _ _ rfl rfl rfl rfl (heap_alloc_new _ _) rfl Try.sizeOf29 (by simp [Value.oneCell']) ?_; rw [alloc_setRow])
    | (refine wpList_load_row _ rfl 29 _ rfl (g := w14_.heap.size) (T := 29) (cs := #[.slice j1 m1 x1, .slice j2 m2 x2]) (fr := (0, 0)) rfl (heap_alloc_new _ _) 2 rfl Try.sizeOf29 Try.isAgg29 ?_)
    | (refine wpList_load_row _ rfl 29 _ rfl (g := w4_.heap.size) (T := 29) (cs := #[.slice a1 m1 d1, .slice a2 m2 d2]) (fr := (0, 0)) rfl ((hn_pastN _ _ _ hz6).trans K6i.out) 2 rfl Try.sizeOf29 Try.isAgg29 ?_)
    | ((go_at_call 10; (with_reducible refine (HEq.out _ _ _ _ _ _ _ _ _ (LA14.out.below (bal (Below.refl _ _) _)) (LB14.out.below (bal (Below.refl _ _) _)) ((((LC4.out.below HB12.out).below HB13.out).below HB14.out).below (bal (Below.refl _ _) _)) ((((LD4.out.below HB12.out).below HB13.out).below HB14.out).below (bal (Below.refl _ _) _))).mono ?_); rintro e w15_ ⟨rfl, hb15⟩; obtain ⟨hcb15, hfb15, hlb15⟩ := bcell hb15; have hsz15 := hb15.size; (try simp at hsz15); have HB15 := Lib.hid hb15; clear hb15); have K9m := Lib.hid ((HB15.out.block w6_.heap.size (by simp; omega)).trans ((hn_pastN _ _ _ hz9).trans K9i.out)))
    | (go_at_call 13; (with_reducible refine (HHg.out _ _ _ _ _ (((((HM1.out.below HB12.out).below HB13.out).below HB14.out).below (bal (Below.refl _ _) _)).below HB15.out) (((((HM2.out.below HB12.out).below HB13.out).below HB14.out).below (bal (Below.refl _ _) _)).below HB15.out)).mono ?_); rintro e w16_ ⟨rfl, hb16⟩; obtain ⟨hcb16, hfb16, hlb16⟩ := bcell hb16; have hsz16 := hb16.size; (try simp at hsz16); have HB16 := Lib.hid hb16; clear hb16))
  go_ret
  have t12 := low_tr' HQ11.out HB12.out HQ11.out.size
  have t13 := low_tr' t12 HB13.out t12.size
  have t14 := bal (low_tr' t13 HB14.out t13.size) (.cells #[.slice j1 m1 x1, .slice j2 m2 x2] 29)
  have t15 := low_tr' t14 HB15.out t14.size
  exact ⟨rfl, low_tr' t15 HB16.out t15.size⟩
theorem FnExactDualFigure_walk (p : Int) (b1 : Option Addr) (n1 c1 : Nat) (b2 : Option Addr) (n2 c2 : Nat) (l1 l2 : List Pt) (w : World) (hn1 : n1 ≤ 9223372036854775807) (hn2 : n2 ≤ 9223372036854775807) (h1 : ListP w b1 n1 l1) (h2 : ListP w b2 n2 l2) :
    Calls Try.prog 3 #[.int .i64 p, figV b1 n1 c1 b2 n2 c2] w (Ret w (.bool true)) := by
  by_cases hk : n1 + n2 ≤ 1000000
  · exact FnExactDualFigure_fit p b1 n1 c1 b2 n2 c2 l1 l2 w hk h1 h2
  · exact FnExactDualFigure_big p b1 n1 c1 b2 n2 c2 w hn1 hn2 hk
end Go.Proofs.Ytidbikjdigemnaa
