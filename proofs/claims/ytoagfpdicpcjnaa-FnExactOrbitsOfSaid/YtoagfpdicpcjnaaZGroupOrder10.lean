/- Texts of the claim, in build order: GO1, MB1, MA3, MA4, MA5, MA6, RegK, GO2, GO4. No condition. -/
import Derived.DeepKeys3
import Derived.Test.YtoagfpdicpcjnaaZGroupOrder9
/- Plain: the maps of a group, one after the other; own lists of maps. -/
namespace Go.Proofs.Ytoagfpdicpcjnaa
open Go.RowKit
set_option linter.unusedVariables false
set_option linter.unusedSimpArgs false
def oneM : M9 := ((1, 0, 0), (0, 1, 0), (0, 0, 1))
def stepA (p : Int) (A : List M9) (x m : M9) : List M9 := if timesM p x m ∈ A then A else A ++ [timesM p x m]
def innA (p : Int) (ms : List M9) (A : List M9) (x : M9) : Nat → List M9
  | 0 => A
  | k + 1 => stepA p (innA p ms A x k) x (ms.getD k m0)
def seqA (p : Int) (ms : List M9) : Nat → List M9
  | 0 => [oneM]
  | i + 1 => innA p ms (seqA p ms i) ((seqA p ms i).getD i m0) ms.length
theorem stepA_in {p : Int} {A : List M9} {x m : M9} (h : timesM p x m ∈ A) : stepA p A x m = A := if_pos h
theorem stepA_new {p : Int} {A : List M9} {x m : M9} (h : timesM p x m ∉ A) : stepA p A x m = A ++ [timesM p x m] := if_neg h
theorem stepA_pre (p : Int) (A : List M9) (x m : M9) : A <+: stepA p A x m := by
  unfold stepA; split
  · exact List.prefix_refl _
  · exact List.prefix_append _ _
theorem innA_pre (p : Int) (ms A : List M9) (x : M9) : ∀ k, A <+: innA p ms A x k
  | 0 => List.prefix_refl _
  | k + 1 => (innA_pre p ms A x k).trans (stepA_pre _ _ _ _)
theorem innA_mono (p : Int) (ms A : List M9) (x : M9) {j : Nat} : ∀ k, j ≤ k → innA p ms A x j <+: innA p ms A x k
  | 0, h => by obtain rfl : j = 0 := by omega
               exact List.prefix_refl _
  | k + 1, h => by
    by_cases e : j = k + 1
    · subst e; exact List.prefix_refl _
    · exact (innA_mono p ms A x k (by omega)).trans (stepA_pre _ _ _ _)
theorem stepA_len (p : Int) (A : List M9) (x m : M9) : (stepA p A x m).length ≤ A.length + 1 := by
  unfold stepA; split <;> simp
theorem innA_len (p : Int) (ms A : List M9) (x : M9) : ∀ k, (innA p ms A x k).length ≤ A.length + k
  | 0 => Nat.le_refl _
  | k + 1 => by have := innA_len p ms A x k; have := stepA_len p (innA p ms A x k) x (ms.getD k m0); show (stepA _ _ _ _).length ≤ _; omega
theorem pre_at {A B : List M9} (h : A <+: B) {i : Nat} (hi : i < A.length) : B.getD i m0 = A.getD i m0 := by
  obtain ⟨t, rfl⟩ := h
  simp [List.getD, List.getElem?_append_left hi]
theorem stepA_all {p : Int} (hp : prB p = true) {A : List M9} {x m : M9} (h : ∀ a ∈ A, InM a) : ∀ a ∈ stepA p A x m, InM a := by
  unfold stepA; split
  · exact h
  · intro a ha
    rcases List.mem_append.1 ha with ha | ha
    · exact h a ha
    · rw [List.mem_singleton.1 ha]; exact inM_times hp
theorem innA_all {p : Int} (hp : prB p = true) {ms A : List M9} {x : M9} (h : ∀ a ∈ A, InM a) : ∀ k, ∀ a ∈ innA p ms A x k, InM a
  | 0 => h
  | k + 1 => stepA_all hp (innA_all hp h k)
theorem oneM_in : InM oneM := by
  intro x hx
  simp only [oneM, listM, List.mem_cons, List.not_mem_nil, or_false] at hx
  rcases hx with rfl | rfl | rfl | rfl | rfl | rfl | rfl | rfl | rfl <;> exact ⟨by decide, by decide⟩
theorem seqA_all {p : Int} (hp : prB p = true) (ms : List M9) : ∀ i, ∀ a ∈ seqA p ms i, InM a
  | 0 => fun a ha => by rw [List.mem_singleton.1 ha]; exact oneM_in
  | i + 1 => innA_all hp (seqA_all hp ms i) _
def GoodA (p : Int) (ms : List M9) (I : Nat) : Prop := ∀ i, i < I → i < (seqA p ms i).length ∧ (seqA p ms (i + 1)).length ≤ 200
theorem good_len {p : Int} {ms : List M9} {I i : Nat} (h : GoodA p ms I) (hi : i ≤ I) : (seqA p ms i).length ≤ 200 := by
  cases i with
  | zero => show [oneM].length ≤ 200; decide
  | succ i => exact (h i (by omega)).2
/-- The group is whole with K maps, or is too large behind map I. -/
theorem outcome (p : Int) (ms : List M9) : (∃ K, GoodA p ms K ∧ (seqA p ms K).length = K) ∨ ∃ I, GoodA p ms I ∧ I < (seqA p ms I).length ∧ 200 < (seqA p ms (I + 1)).length := by
  have key : ∀ i, (∃ K, GoodA p ms K ∧ (seqA p ms K).length = K) ∨ (∃ I, GoodA p ms I ∧ I < (seqA p ms I).length ∧ 200 < (seqA p ms (I + 1)).length) ∨ (GoodA p ms i ∧ i ≤ (seqA p ms i).length) := by
    intro i
    induction i with
    | zero => exact .inr (.inr ⟨fun i hi => absurd hi (Nat.not_lt_zero _), Nat.zero_le _⟩)
    | succ i ih =>
      rcases ih with h | h | ⟨h, hl⟩
      · exact .inl h
      · exact .inr (.inl h)
      · by_cases e : (seqA p ms i).length = i
        · exact .inl ⟨i, h, e⟩
        · have hlt : i < (seqA p ms i).length := by omega
          by_cases h2 : 200 < (seqA p ms (i + 1)).length
          · exact .inr (.inl ⟨i, h, hlt, h2⟩)
          · refine .inr (.inr ⟨fun j hj => ?_, ?_⟩)
            · by_cases ej : j = i
              · subst ej; exact ⟨hlt, by omega⟩
              · exact h j (by omega)
            · have hp : seqA p ms i <+: seqA p ms (i + 1) := innA_pre _ _ _ _ _
              have := hp.length_le
              omega
  rcases key 201 with h | h | ⟨h, hl⟩
  · exact .inl h
  · exact .inr h
  · have h1 := h 200 (by omega)
    have h2 := good_len h (i := 200) (by omega)
    omega
def mCs (l : List M9) : List Value := l.flatMap (fun t => (mC t).toList)
theorem mCs_snoc (l : List M9) (t : M9) : mCs l ++ (mC t).toList = mCs (l ++ [t]) := by simp [mCs]
theorem mCs_length (l : List M9) : (mCs l).length = l.length * 9 := by
  induction l with
  | nil => rfl
  | cons a l ih =>
    show ((mC a).toList ++ mCs l).length = _
    rw [List.length_append, ih]
    simp [mC]; omega
theorem mCs_at : ∀ (l : List M9) (i j : Nat), i < l.length → j < 9 → (mCs l)[i * 9 + j]? = (mC (l.getD i m0)).toList[j]?
  | [], i, j, hi, _ => by simp at hi
  | a :: l, 0, j, _, hj => by
    show ((mC a).toList ++ mCs l)[0 * 9 + j]? = _
    rw [List.getElem?_append_left (by simp [mC]; omega)]
    simp
  | a :: l, i + 1, j, hi, hj => by
    show ((mC a).toList ++ mCs l)[(i + 1) * 9 + j]? = _
    rw [List.getElem?_append_right (by simp [mC]; omega)]
    have e : (i + 1) * 9 + j - (mC a).toList.length = i * 9 + j := by simp [mC]; omega
    rw [e, mCs_at l i j (by simpa using hi) hj]
    simp
theorem eltMp : EltK Try.prog 26 44 9 := by
  obtain ⟨i0, hi, hz0, hz1, hz2⟩ := info_parts (show (Try.prog.info? 44).map (fun i => (i.zero, i.size, i.bytes)) = some (some (.agg #[.int .i64 0, .int .i64 0, .int .i64 0, .int .i64 0, .int .i64 0, .int .i64 0, .int .i64 0, .int .i64 0, .int .i64 0]), 9, 72) by kernel_rfl)
  exact ⟨Try.underlying26, i0, _, hi, hz0, hz1, rfl, by decide, by decide, by rw [hz2]; decide⟩
theorem OwnK.maps {W : World} {B : Nat} {v : Value} {n : Nat} {l : List M9} (h : OwnK W B 44 9 v n (mCs l)) (hl : l.length = n) (hn : 0 < n) :
    ∃ g cap, v = .slice (some ⟨g, 0, none⟩) n cap ∧ B ≤ g ∧ g < W.heap.size ∧ MapsK W g 0 n l := by
  rcases h.out.2 with ⟨_, h0⟩ | ⟨g, cap, cur, rfl, hb, hg, hle, _, hsz, htk⟩
  · omega
  · refine ⟨g, cap, rfl, hb, (Array.getElem?_eq_some_iff.1 hg).1, ⟨fun i hi j v hv => ?_⟩⟩
    have hj : j < 9 := by
      have := (List.getElem?_eq_some_iff.1 hv).1
      simpa [mC] using this
    rw [Nat.zero_add, cell_of_row W g _ _ _ _ hg]
    have h1 : (cur.toList.take (n * 9))[i * 9 + j]? = (mCs l)[i * 9 + j]? := by rw [htk]
    rw [List.getElem?_take_of_lt (by omega)] at h1
    rw [← Array.getElem?_toList, h1, mCs_at l i j (by omega) hj]
    exact hv
theorem fill9 (zc : Array Value) (h : zc.size = 9) (x0 x1 x2 x3 x4 x5 x6 x7 x8 : Value) : Instr.fill (fun i => some (i * 9, 9)) ((Array.range (1 * 9)).map (fun k => zc[k % zc.size]!)) [(0, .agg #[x0, x1, x2, x3, x4, x5, x6, x7, x8])] = some #[x0, x1, x2, x3, x4, x5, x6, x7, x8] := by
  have hs : ((Array.range (1 * 9)).map (fun k => zc[k % zc.size]!)).size = 9 := by simp
  generalize (Array.range (1 * 9)).map (fun k => zc[k % zc.size]!) = cs at hs
  have e : cs = #[cs[0]!, cs[1]!, cs[2]!, cs[3]!, cs[4]!, cs[5]!, cs[6]!, cs[7]!, cs[8]!] := by
    apply Array.ext
    · simpa using hs
    · intro i h1 h2
      simp only [List.size_toArray, List.length_cons, List.length_nil] at h2
      match i, h2 with
      | 0, _ => simp [hs]
      | 1, _ => simp [hs]
      | 2, _ => simp [hs]
      | 3, _ => simp [hs]
      | 4, _ => simp [hs]
      | 5, _ => simp [hs]
      | 6, _ => simp [hs]
      | 7, _ => simp [hs]
      | 8, _ => simp [hs]
  generalize cs[0]! = z0 at e
  generalize cs[1]! = z1 at e
  generalize cs[2]! = z2 at e
  generalize cs[3]! = z3 at e
  generalize cs[4]! = z4 at e
  generalize cs[5]! = z5 at e
  generalize cs[6]! = z6 at e
  generalize cs[7]! = z7 at e
  generalize cs[8]! = z8 at e
  subst e
  simp [Instr.fill, Value.cells, List.zipIdx]
section
variable {ops : Array Oper} {rest : List Oper} {o : Oper} {a : Act} {w : World} {Q : Exit → Act → World → Prop}
theorem wl_sliceM {x : Operand} {t : M9} (h : wpList Try.prog ops Q rest (a.put o.dst (.slice (some ⟨w.heap.size, 0, none⟩) 1 1)) (w.alloc (.cells (mC t) 44))) (hgd : o.guard = none := by exact rfl) (ho : o.op = .buildSlice 26 1 #[(0, x)] := by exact rfl)
    (hx : a.eval x = mV t := by exact rfl) : wpList Try.prog ops Q (o :: rest) a w := by
  obtain ⟨hu, i, z, hi, hz, hsz, hzs, hpos, hle, hby⟩ := eltMp.out
  refine wpList_buildSlice hgd _ _ 1 _ ho (mC t) i z hu hi hz (by rw [hsz]; decide) (by rw [hsz]; decide) ?_ h
  simp only [List.map_toArray, List.map_cons, List.map_nil, hx, hsz]
  exact fill9 z.cells hzs _ _ _ _ _ _ _ _ _
end
end Go.Proofs.Ytoagfpdicpcjnaa
/- Go maps keyed by maps: looked up and written. -/
namespace Go.Proofs.Ytoagfpdicpcjnaa
open Go.RowKit
set_option linter.unusedVariables false
set_option linter.unusedSimpArgs false
theorem checkKey_int (em : Bool) (n : Nat) (x : Int) (W : World) : (Instr.checkKey em (n + 1) 2 (.int .i64 x)).run Try.prog W = .ok () W := by
  unfold Instr.checkKey
  rw [Sem.run_bind, run_underlying Try.underlying2, Result.andThen_ok]
  rfl
theorem part_int (cs : Array Value) (i : Nat) (v : Value) (h : cs[i]? = some v) (W : World) : (part 2 cs i).run Try.prog W = .ok v W := by
  unfold part
  rw [Sem.run_bind, Try.isAgg2, Result.andThen_ok]
  simp [h]
theorem checkKey_row (em : Bool) (n : Nat) (x y z : Int) (W : World) : (Instr.checkKey em (n + 1 + 1) 30 (ptV x y z)).run Try.prog W = .ok () W := by
  unfold Instr.checkKey
  rw [Sem.run_bind, run_underlying Try.underlying30, Result.andThen_ok]
  have p0 := part_int #[.int .i64 x, .int .i64 y, .int .i64 z] 0 _ rfl
  have p1 := part_int #[.int .i64 x, .int .i64 y, .int .i64 z] 1 _ rfl
  have p2 := part_int #[.int .i64 x, .int .i64 y, .int .i64 z] 2 _ rfl
  simp [Std.Legacy.Range.forIn_eq_forIn_range', Std.Legacy.Range.size, List.range', List.forIn_cons, Sem.run_bind, Try.sizeOf2, Sem.run_pure, p0, p1, p2, checkKey_int]
theorem checkKey_M (em : Bool) (n : Nat) (t : M9) (W : World) : (Instr.checkKey em (n + 1 + 1 + 1) 44 (mV t)).run Try.prog W = .ok () W := by
  show (Instr.checkKey em (n + 1 + 1 + 1) 44 (.agg #[.int .i64 t.1.1, .int .i64 t.1.2.1, .int .i64 t.1.2.2, .int .i64 t.2.1.1, .int .i64 t.2.1.2.1, .int .i64 t.2.1.2.2, .int .i64 t.2.2.1, .int .i64 t.2.2.2.1, .int .i64 t.2.2.2.2])).run Try.prog W = .ok () W
  unfold Instr.checkKey
  rw [Sem.run_bind, run_underlying Try.underlying44, Result.andThen_ok]
  obtain ⟨p0, p1, p2⟩ := partMap W t.1.1 t.1.2.1 t.1.2.2 t.2.1.1 t.2.1.2.1 t.2.1.2.2 t.2.2.1 t.2.2.2.1 t.2.2.2.2
  simp [Std.Legacy.Range.forIn_eq_forIn_range', Std.Legacy.Range.size, List.range', List.forIn_cons, Sem.run_bind, Try.sizeOf30, Sem.run_pure, p0, p1, p2, checkKey_row]
theorem equal_M (x y : M9) (W : World) : (Op.equal 44 (mV x) (mV y)).run Try.prog W = .ok (decide (x = y)) W := by
  have h := eqAMap W x.1.1 x.1.2.1 x.1.2.2 x.2.1.1 x.2.1.2.1 x.2.1.2.2 x.2.2.1 x.2.2.2.1 x.2.2.2.2 y.1.1 y.1.2.1 y.1.2.2 y.2.1.1 y.2.1.2.1 y.2.1.2.2 y.2.2.1 y.2.2.2.1 y.2.2.2.2
  have e : eqM (x.1.1, x.1.2.1, x.1.2.2) (x.2.1.1, x.2.1.2.1, x.2.1.2.2) (x.2.2.1, x.2.2.2.1, x.2.2.2.2) (y.1.1, y.1.2.1, y.1.2.2) (y.2.1.1, y.2.1.2.1, y.2.1.2.2) (y.2.2.1, y.2.2.2.1, y.2.2.2.2) = decide (x = y) := by
    rw [Bool.eq_iff_iff, eqM_iff, decide_eq_true_iff]
    constructor
    · rintro ⟨h1, h2, h3⟩; exact Prod.ext h1 (Prod.ext h2 h3)
    · rintro rfl; exact ⟨rfl, rfl, rfl⟩
  rw [e] at h
  exact h
theorem find_M (x : M9) (W : World) : ∀ (es : List MapEntry) (L : List M9) (i : Nat), es.map (·.key) = L.map mV →
    (x ∉ L → (Instr.findAsking 44 (mV x) es i).run Try.prog W = .ok none W) ∧ (x ∈ L → ∃ j e, e ∈ es ∧ (Instr.findAsking 44 (mV x) es i).run Try.prog W = .ok (some (j, e.val)) W)
  | [], L, i, h => by
    obtain rfl : L = [] := by simpa using h.symm
    exact ⟨fun _ => rfl, fun h => by simp at h⟩
  | e :: es, [], i, h => by simp at h
  | e :: es, y :: L, i, h => by
    simp only [List.map_cons, List.cons.injEq] at h
    obtain ⟨h1, h2⟩ := h
    obtain ⟨k1, k2⟩ := find_M x W es L (i + 1) h2
    have hq := equal_M x y W
    rw [← h1] at hq
    by_cases hxy : x = y
    · rw [show decide (x = y) = true by simpa using hxy] at hq
      refine ⟨fun hn => absurd (by rw [hxy]; exact List.mem_cons_self ..) hn, fun _ => ⟨i, e, List.mem_cons_self .., ?_⟩⟩
      simp [Instr.findAsking, Sem.run_bind, hq]
    · rw [show decide (x = y) = false by simpa using hxy] at hq
      refine ⟨fun hn => ?_, fun hm => ?_⟩
      · simp [Instr.findAsking, Sem.run_bind, hq]
        exact k1 (fun hm => hn (List.mem_cons_of_mem _ hm))
      · obtain ⟨j, e2, he, hr⟩ := k2 (by rcases List.mem_cons.1 hm with h | h; exact absurd h hxy; exact h)
        refine ⟨j, e2, List.mem_cons_of_mem _ he, ?_⟩
        simp [Instr.findAsking, Sem.run_bind, hq]
        exact hr
/-- A Go map from maps to true. -/
structure GoMapK (W : World) (g : Nat) (L : List M9) : Prop where
  out : ∃ es clock, W.heap[g]? = some (.map es clock) ∧ es.toList.map (·.key) = L.map mV ∧ ∀ e ∈ es.toList, e.val = .bool true
theorem GoMapK.lt {W : World} {g : Nat} {L : List M9} (h : GoMapK W g L) : g < W.heap.size := by
  obtain ⟨es, cl, h1, -⟩ := h.out
  exact (Array.getElem?_eq_some_iff.1 h1).1
theorem GoMapK.blk {W W' : World} {g : Nat} {L : List M9} (h : GoMapK W g L) (e : W'.heap[g]? = W.heap[g]?) : GoMapK W' g L := by
  obtain ⟨es, cl, h1, h2⟩ := h.out
  exact ⟨es, cl, e.trans h1, h2⟩
theorem GoMapK.link {W W' : World} {g : Nat} {L : List M9} (l : Link W W') (h : GoMapK W g L) : GoMapK W' g L := h.blk (l.out.block _ h.lt)
theorem lookup_M (g : Nat) (L : List M9) (x : M9) (W : World) (h : GoMapK W g L) : (Instr.lookup 49 (.map (some g)) (mV x) false).run Try.prog W = .ok (.bool (decide (x ∈ L))) W := by
  obtain ⟨es, cl, h1, h2, h3⟩ := h.out
  obtain ⟨k1, k2⟩ := find_M x W es.toList L 0 h2
  have hf := run_findKey_eq (P := Try.prog) (w := W) (k := 44) (by rw [Try.underlying44]) (mV x) es.toList
  unfold Instr.lookup
  rw [Sem.run_bind, run_underlying Try.underlying49, Result.andThen_ok]
  have hg : (getObj g).run Try.prog W = .ok (.map es cl) W := by simp [getObj, Sem.run, h1]
  have hk : ∀ b, (Instr.checkKey b 10000 44 (mV x)).run Try.prog W = .ok () W := fun b => checkKey_M b 9997 x W
  have hz := Try.zeroValue4 W
  by_cases hx : x ∈ L
  · obtain ⟨j, e, he, hr⟩ := k2 hx
    have hv := h3 e he
    rw [hr] at hf
    simp [Sem.run_bind, hg, hk, hf, hv, hx]
  · rw [k1 hx] at hf
    simp [Sem.run_bind, hg, hk, hf, hz, hx]
theorem mapUpdate_M (g : Nat) (L : List M9) (x : M9) (W : World) (h : GoMapK W g L) (hx : x ∉ L) :
    ∃ W', (Instr.mapUpdate 49 (.map (some g)) (mV x) (.bool true)).run Try.prog W = .ok () W' ∧ GoMapK W' g (L ++ [x]) ∧ W'.heap.size = W.heap.size ∧ (∀ b, b ≠ g → W'.heap[b]? = W.heap[b]?) ∧ W'.os = W.os ∧ W'.tape = W.tape ∧ W'.output = W.output := by
  obtain ⟨es, cl, h1, h2, h3⟩ := h.out
  obtain ⟨k1, -⟩ := find_M x W es.toList L 0 h2
  have hf := run_findKey_eq (P := Try.prog) (w := W) (k := 44) (by rw [Try.underlying44]) (mV x) es.toList
  rw [k1 hx] at hf
  have hg : (getObj g).run Try.prog W = .ok (.map es cl) W := by simp [getObj, Sem.run, h1]
  have hk : ∀ b, (Instr.checkKey b 10000 44 (mV x)).run Try.prog W = .ok () W := fun b => checkKey_M b 9997 x W
  have hlt := h.lt
  have hs : ∀ o, (setObj g o).run Try.prog W = .ok () { W with heap := W.heap.setIfInBounds g o } := fun o => by simp [setObj, Sem.run, h1]
  refine ⟨{ W with heap := W.heap.setIfInBounds g (.map (es.push { key := mV x, val := .bool true, born := cl }) (cl + 1)) }, ?_, ⟨es.push { key := mV x, val := .bool true, born := cl }, cl + 1, by simp [hlt], by simp [h2], fun e he => ?_⟩, by simp, fun b hb => by simp [Array.getElem?_setIfInBounds, Ne.symm hb], rfl, rfl, rfl⟩
  · unfold Instr.mapUpdate
    rw [Sem.run_bind, run_underlying Try.underlying49, Result.andThen_ok]
    simp [Sem.run_bind, hg, hk, hf, hs]
  · simp only [Array.toList_push, List.mem_append, List.mem_singleton] at he
    rcases he with he | rfl
    · exact h3 e he
    · rfl
end Go.Proofs.Ytoagfpdicpcjnaa
/- The laws' own lists of maps, compared. -- maps -/
namespace Go.Proofs.Ytoagfpdicpcjnaa
open Go.RowKit
set_option linter.unusedVariables false
set_option linter.unusedSimpArgs false
theorem szMapS_any (b : Option Addr) (n cap : Nat) (left : Int) (w : World) (hl : left ≤ 1000000 ∧ 0 ≤ left) (hn : n ≤ 9223372036854775807) :
    Calls Try.prog 6 #[.slice b n cap, .int .i64 left] w fun e w' => e = .returned (.int .i64 (if left < n then -1 else left - n)) ∧ w = w' := by
  by_cases h : left < n
  · have HR : Hid ((if left < (n : Int) then (-1 : Int) else left - n) = -1) := Lib.hid (if_pos h)
    go_enter Try.func6, Try.ntmps6
    go_wp2
    go_ret
    exact ⟨by first | rfl | (rw [HR.out]; rfl), rfl⟩
  · have HR : Hid ((if left < (n : Int) then (-1 : Int) else left - n) = left - n) := Lib.hid (if_neg h)
    go_enter Try.func6, Try.ntmps6
    go_wp2
    go_ret
    exact ⟨by first | rfl | (rw [HR.out]; rfl), rfl⟩
theorem szM_K (b : Option Addr) (k cap : Nat) (w : World) (h : k ≤ 1000000) : Calls Try.prog 6 #[.slice b k cap, .int .i64 1000000] w fun e w' => e = .returned (.int .i64 (1000000 - (k : Int))) ∧ w = w' := by
  have := szMapS_any b k cap 1000000 w (by omega) (by omega)
  rwa [if_neg (by omega)] at this
set_option maxRecDepth 20000 in
set_option maxHeartbeats 4000000 in
theorem eqMapS_K (g g2 n c c2 : Nat) (L : List M9) (w : World) (hn : n ≤ 3000000) (h1 : MapsK w g 0 n L) (h2 : MapsK w g2 0 n L) :
    Calls Try.prog 28 #[.slice (some ⟨g, 0, none⟩) n c, .slice (some ⟨g2, 0, none⟩) n c2] w (Ret w (.bool true)) := by
  go_enter Try.func28, Try.ntmps28
  go_wp2_with (first | (refine wl_loadM ?_) | (refine wl_load ?_) | (refine wl_fill1 ?_) | (refine wl_fill2 ?_) | (refine wl_storeM ?_) | (refine wl_makeM ?_; intro gm W' hgm hl hT; have hs := hl.out.size; (try simp at hs)) | (refine wl_store ?_) | (refine wl_build ?_) | (refine wl_slice ?_) | (refine wl_append ?_; intro v' w' ho hg hb; have hs := hg.size; (try simp at hs); (try rw [ptCs_end] at ho); (try rw [ints_end] at ho); (try simp only [Nat.zero_add, Nat.reduceAdd, List.nil_append, List.cons_append] at ho)) | ((with_reducible apply region_gd (id := 6)); refine region_QA (id := 6) 10 ?_; apply Exists.intro; refine ⟨fun G => ?_, fun W hl => ?_⟩; (· (simp only [List.take_succ_cons, List.take_zero]; (repeat (first | go_big_quiet_skip | (go_big_quiet_want; first | (refine q_loadM ?_; simp only [Act.put, List.setIfInBounds_toArray, List.set_cons_zero, List.set_cons_succ]; go_big_quiet_on) | (refine q_load ?_; simp only [Act.put, List.setIfInBounds_toArray, List.set_cons_zero, List.set_cons_succ]; go_big_quiet_on) | (go_big_quiet_op; first | go_big_quiet_on)))); exact rfl)); have hs := hl.out.size; (try simp at hs); simp only [List.drop_succ_cons, List.drop_zero]))
  go_loopw [5] (fun i wr => ∃ k : Nat, k ≤ n ∧ i = .int .i64 (k : Int) ∧ LowK w wr) (fun i _ => n - (intOf i).toNat)
  case atStart => exact ⟨0, Nat.zero_le _, rfl, findLow⟩
  case round =>
    obtain ⟨k, hk, rfl, hV⟩ := hrel
    by_cases hlt : k < n
    · have r1 := (h1.at_ hlt).viaLow hV
      have r2 := (h2.at_ hlt).viaLow hV
      rw [Nat.zero_add] at r1 r2
      obtain ⟨x, hx⟩ : ∃ x, L.getD k m0 = x := ⟨_, rfl⟩
      rw [hx] at r1 r2
      go_wp2_with (first | (refine wl_loadM ?_) | (refine wl_load ?_) | (refine wl_fill1 ?_) | (refine wl_fill2 ?_) | (refine wl_storeM ?_) | (refine wl_makeM ?_; intro gm W' hgm hl hT; have hs := hl.out.size; (try simp at hs)) | (refine wl_store ?_) | (refine wl_build ?_) | (refine wl_slice ?_) | (refine wl_append ?_; intro v' w' ho hg hb; have hs := hg.size; (try simp at hs); (try rw [ptCs_end] at ho); (try rw [ints_end] at ho); (try simp only [Nat.zero_add, Nat.reduceAdd, List.nil_append, List.cons_append] at ho)) | (go_at_call 47; (with_reducible refine (eqMap_M x _).mono ?_); rintro e w' ⟨rfl, hb⟩; have hl := Link.mk hb; have hs := hb.size; (try simp at hs); clear hb) | ((with_reducible apply region_gd (id := 6)); refine region_QA (id := 6) 10 ?_; apply Exists.intro; refine ⟨fun G => ?_, fun W hl => ?_⟩; (· (simp only [List.take_succ_cons, List.take_zero]; (repeat (first | go_big_quiet_skip | (go_big_quiet_want; first | (refine q_loadM ?_; simp only [Act.put, List.setIfInBounds_toArray, List.set_cons_zero, List.set_cons_succ]; go_big_quiet_on) | (refine q_load ?_; simp only [Act.put, List.setIfInBounds_toArray, List.set_cons_zero, List.set_cons_succ]; go_big_quiet_on) | (go_big_quiet_op; first | go_big_quiet_on | (apply Exists.intro; refine ⟨fun g => ?_, ?_⟩; (· (have hl := growL g; first | (go_at_call 47; with_reducible exact grow_ret (eqMap_M x _)))); go_big_quiet_on))))); exact rfl)); have hs := hl.out.size; (try simp at hs); simp only [List.drop_succ_cons, List.drop_zero]))
      go_roundw
      case rel => exact ⟨k + 1, by omega, by go_num, findLow⟩
      case measure => (simp [intOf]; try omega)
    · have hkn : n ≤ k := by omega
      go_wp2_with (first | (refine wl_loadM ?_) | (refine wl_load ?_) | (refine wl_fill1 ?_) | (refine wl_fill2 ?_) | (refine wl_storeM ?_) | (refine wl_makeM ?_; intro gm W' hgm hl hT; have hs := hl.out.size; (try simp at hs)) | (refine wl_store ?_) | (refine wl_build ?_) | (refine wl_slice ?_) | (refine wl_append ?_; intro v' w' ho hg hb; have hs := hg.size; (try simp at hs); (try rw [ptCs_end] at ho); (try rw [ints_end] at ho); (try simp only [Nat.zero_add, Nat.reduceAdd, List.nil_append, List.cons_append] at ho)) | ((with_reducible apply region_gd (id := 6)); refine region_QA (id := 6) 10 ?_; apply Exists.intro; refine ⟨fun G => ?_, fun W hl => ?_⟩; (· (simp only [List.take_succ_cons, List.take_zero]; (repeat (first | go_big_quiet_skip | (go_big_quiet_want; first | (refine q_loadM ?_; simp only [Act.put, List.setIfInBounds_toArray, List.set_cons_zero, List.set_cons_succ]; go_big_quiet_on) | (refine q_load ?_; simp only [Act.put, List.setIfInBounds_toArray, List.set_cons_zero, List.set_cons_succ]; go_big_quiet_on) | (go_big_quiet_op; first | go_big_quiet_on)))); exact rfl)); have hs := hl.out.size; (try simp at hs); simp only [List.drop_succ_cons, List.drop_zero]))
      (apply ret_one Try.results28; (conv => lhs; whnf); exact rfl)
      exact ret_ret rfl findLow
set_option maxRecDepth 20000 in
set_option maxHeartbeats 4000000 in
theorem intactM_K (g g2 k : Nat) (l : List M9) (w : World) (hn : k ≤ 1000000) (h1 : MapsK w g 0 (k + roomN k) (withRoomM l)) (h2 : MapsK w g2 0 (k + roomN k) (withRoomM l)) :
    Calls Try.prog 10 #[.slice (some ⟨g, 0, none⟩) k (k + roomN k), .slice (some ⟨g2, 0, none⟩) k (k + roomN k)] w (Ret w (.bool true)) := by
  have hr0 := roomN_le k
  have HR : Hid (∀ W : World, Calls Try.prog 23 #[.int .i64 (k : Int)] W fun e w' => e = .returned (.int .i64 ((roomN k : Nat) : Int)) ∧ W = w') := Lib.hid (fun W => roomBehind_any k W hn)
  have HE : Hid (∀ W : World, Link w W → Calls Try.prog 28 #[.slice (some ⟨g, 0, none⟩) (k + roomN k) (k + roomN k), .slice (some ⟨g2, 0, none⟩) (k + roomN k) (k + roomN k)] W (Ret W (.bool true))) := Lib.hid (fun W l => eqMapS_K g g2 _ _ _ _ W (by omega) (h1.link l) (h2.link l))
  clear h1 h2
  obtain ⟨m, hm⟩ : ∃ m, k + roomN k = m := ⟨_, rfl⟩
  rw [hm] at HE ⊢
  have hmi : (k : Int) + ((roomN k : Nat) : Int) = (m : Int) := by omega
  generalize roomN k = r at *
  clear hm
  go_enter Try.func10, Try.ntmps10
  go_wp2_with (first | (refine wl_loadM ?_) | (refine wl_load ?_) | (refine wl_fill1 ?_) | (refine wl_fill2 ?_) | (refine wl_storeM ?_) | (refine wl_makeM ?_; intro gm W' hgm hl hT; have hs := hl.out.size; (try simp at hs)) | (refine wl_store ?_) | (refine wl_build ?_) | (refine wl_slice ?_) | (refine wl_append ?_; intro v' w' ho hg hb; have hs := hg.size; (try simp at hs); (try rw [ptCs_end] at ho); (try rw [ints_end] at ho); (try simp only [Nat.zero_add, Nat.reduceAdd, List.nil_append, List.cons_append] at ho)) | (go_at_call 23; (with_reducible refine (HR.out _).mono ?_); rintro e w' ⟨rfl, rfl⟩) | (go_at_call 28; (with_reducible refine (HE.out _ (LowK.lnk findLow)).mono ?_); rintro e w' ⟨rfl, hb⟩; have hl := Link.mk hb; have hs := hb.size; (try simp at hs); clear hb) | ((with_reducible apply region_gd (id := 2)); refine region_QA (id := 2) 15 ?_; apply Exists.intro; refine ⟨fun G => ?_, fun W hl => ?_⟩; (· (simp only [List.take_succ_cons, List.take_zero]; (repeat (first | go_big_quiet_skip | (go_big_quiet_want; first | (refine q_loadM ?_; simp only [Act.put, List.setIfInBounds_toArray, List.set_cons_zero, List.set_cons_succ]; go_big_quiet_on) | (refine q_load ?_; simp only [Act.put, List.setIfInBounds_toArray, List.set_cons_zero, List.set_cons_succ]; go_big_quiet_on) | (go_big_quiet_op; first | go_big_quiet_on | (apply Exists.intro; refine ⟨fun g => ?_, ?_⟩; (· (have hl := growL g; first | (go_at_call 28; with_reducible exact grow_ret (HE.out _ (LowK.lnk findLow))))); go_big_quiet_on))))); exact rfl)); have hs := hl.out.size; (try simp at hs); simp only [List.drop_succ_cons, List.drop_zero]))
  (apply ret_one Try.results10; (conv => lhs; whnf); exact rfl)
  exact ret_ret rfl findLow
end Go.Proofs.Ytoagfpdicpcjnaa
/- Contracts: the codes of lists of maps, the program's and the reference's. -- maps -/
namespace Go.Proofs.Ytoagfpdicpcjnaa
open Go.RowKit
set_option linter.unusedVariables false
set_option linter.unusedSimpArgs false
/-- A map for p. -/
def okM (p : Int) (t : M9) : Bool := mapB p [t.1.1, t.1.2.1, t.1.2.2, t.2.1.1, t.2.1.2.1, t.2.1.2.2, t.2.2.1, t.2.2.2.1, t.2.2.2.2] (detZ (t.1.1, t.1.2.1, t.1.2.2) (t.2.1.1, t.2.1.2.1, t.2.1.2.2) (t.2.2.1, t.2.2.2.1, t.2.2.2.2))
def oksM (p : Int) (l : List M9) : Bool := l.all (okM p)
theorem IsMap_M (p : Int) (t : M9) (w : World) : Calls Try.prog 61 #[.int .i64 p, mV t] w (Ret w (.bool (okM p t))) := IsMap_any p _ _ _ _ _ _ _ _ _ w
theorem l02Is_M (p : Int) (t : M9) (w : World) : Calls Try.prog 54 #[.int .i64 p, mV t] w (Ret w (.bool (okM p t))) := l02Is_any p _ _ _ _ _ _ _ _ _ w
set_option maxRecDepth 20000 in
set_option maxHeartbeats 4000000 in
theorem mapsC1 (p : Int) (c : Nat) (t : M9) (w : World) (c0 : w.cell? ⟨c, 0, none⟩ = some (.int .i64 p)) : Calls Try.prog 60 #[mV t, .pointer (some ⟨c, 0, none⟩)] w (Ret w (.bool (!okM p t))) := by
  have hc : c < w.heap.size := World.block_lt_of_cell? w _ c0
  go_enter Try.func60, Try.ntmps60
  go_wp2_with (first | (refine wl_loadM ?_) | (refine wl_load ?_) | (refine wl_fill1 ?_) | (refine wl_fill2 ?_) | (refine wl_storeM ?_) | (refine wl_makeM ?_; intro gm W' hgm hl hT; have hs := hl.out.size; (try simp at hs)) | (refine wl_store ?_) | (refine wl_build ?_) | (refine wl_slice ?_) | (refine wl_append ?_; intro v' w' ho hg hb; have hs := hg.size; (try simp at hs); (try rw [ptCs_end] at ho); (try rw [ints_end] at ho); (try simp only [Nat.zero_add, Nat.reduceAdd, List.nil_append, List.cons_append] at ho)) | (go_at_call 61; (with_reducible refine (IsMap_M p t _).mono ?_); rintro e w' ⟨rfl, hb⟩; have hl := Link.mk hb; have hs := hb.size; (try simp at hs); clear hb))
  (apply ret_one Try.results60; (conv => lhs; whnf); exact rfl)
  exact ret_ret rfl findLow
set_option maxRecDepth 20000 in
set_option maxHeartbeats 4000000 in
theorem IndexFunc_M (p : Int) (c : Nat) (b : Option Addr) (n k : Nat) (L : List M9) (w : World) (hn : n ≤ 1000000) (c0 : w.cell? ⟨c, 0, none⟩ = some (.int .i64 p)) (h : ListM w b n L) :
    Calls Try.prog 75 #[.slice b n k, .func (.func 60) #[] #[.pointer (some ⟨c, 0, none⟩)]] w (fun e w' => ∃ r : Int, e = .returned (.int .i64 r) ∧ (oksM p L = true → r = -1) ∧ (oksM p L = false → 0 ≤ r) ∧ Link w w') := by
  have HC := Lib.hid (fun (W : World) (l : LowK w W) (t : M9) => mapsC1 p c t W (cell_below l.out c0))
  obtain ⟨hL, hM⟩ := h.out
  go_enter Try.func75, Try.ntmps75
  go_wp2_with (first | (refine wl_loadM ?_) | (refine wl_load ?_) | (refine wl_fill1 ?_) | (refine wl_fill2 ?_) | (refine wl_storeM ?_) | (refine wl_makeM ?_; intro gm W' hgm hl hT; have hs := hl.out.size; (try simp at hs)) | (refine wl_store ?_) | (refine wl_build ?_) | (refine wl_slice ?_) | (refine wl_append ?_; intro v' w' ho hg hb; have hs := hg.size; (try simp at hs); (try rw [ptCs_end] at ho); (try rw [ints_end] at ho); (try simp only [Nat.zero_add, Nat.reduceAdd, List.nil_append, List.cons_append] at ho)))
  go_loopw [8] (fun i wr => ∃ k : Nat, k ≤ n ∧ i = .int .i64 (k : Int) ∧ LowK w wr ∧ ∀ j, j < k → okM p (L.getD j m0) = true) (fun i _ => n - (intOf i).toNat)
  case atStart => exact ⟨0, Nat.zero_le _, rfl, findLow, fun j hj => absurd hj (Nat.not_lt_zero _)⟩
  case round =>
    obtain ⟨i, hi, rfl, hV, hJ⟩ := hrel
    by_cases hlt : i < n
    · obtain ⟨g, off, rfl, hS⟩ := hM (by omega)
      have r1 := (hS.at_ hlt).viaLow hV
      obtain ⟨x, hx⟩ : ∃ x, L.getD i m0 = x := ⟨_, rfl⟩
      rw [hx] at r1
      have HX := Lib.hid (HC.out wr hV x)
      rcases ho : okM p x with _ | _
      · rw [ho] at HX
        go_wp2_with (first | (refine wl_loadM ?_) | (refine wl_load ?_) | (refine wl_fill1 ?_) | (refine wl_fill2 ?_) | (refine wl_storeM ?_) | (refine wl_makeM ?_; intro gm W' hgm hl hT; have hs := hl.out.size; (try simp at hs)) | (refine wl_store ?_) | (refine wl_build ?_) | (refine wl_slice ?_) | (refine wl_append ?_; intro v' w' ho hg hb; have hs := hg.size; (try simp at hs); (try rw [ptCs_end] at ho); (try rw [ints_end] at ho); (try simp only [Nat.zero_add, Nat.reduceAdd, List.nil_append, List.cons_append] at ho)) | (go_at_call 60; (with_reducible refine (HX.out).mono ?_); rintro e w' ⟨rfl, hb⟩; have hl := Link.mk hb; have hs := hb.size; (try simp at hs); clear hb))
        (apply ret_one Try.results75; (conv => lhs; whnf); exact rfl)
        refine ⟨_, rfl, fun h => ?_, fun _ => by omega, LowK.lnk findLow⟩
        have := List.all_eq_true.1 h x (by rw [← hx, List.getD_eq_getElem?_getD, List.getElem?_eq_getElem (by omega)]; exact List.getElem_mem _)
        rw [ho] at this; cases this
      · rw [ho] at HX
        go_wp2_with (first | (refine wl_loadM ?_) | (refine wl_load ?_) | (refine wl_fill1 ?_) | (refine wl_fill2 ?_) | (refine wl_storeM ?_) | (refine wl_makeM ?_; intro gm W' hgm hl hT; have hs := hl.out.size; (try simp at hs)) | (refine wl_store ?_) | (refine wl_build ?_) | (refine wl_slice ?_) | (refine wl_append ?_; intro v' w' ho hg hb; have hs := hg.size; (try simp at hs); (try rw [ptCs_end] at ho); (try rw [ints_end] at ho); (try simp only [Nat.zero_add, Nat.reduceAdd, List.nil_append, List.cons_append] at ho)) | (go_at_call 60; (with_reducible refine (HX.out).mono ?_); rintro e w' ⟨rfl, hb⟩; have hl := Link.mk hb; have hs := hb.size; (try simp at hs); clear hb))
        go_roundw
        case rel => exact ⟨i + 1, by omega, by go_num, findLow, fun j hj => by
          rcases Nat.lt_or_ge j i with e | e
          · exact hJ j e
          · obtain rfl : j = i := by omega
            rw [hx]; exact ho⟩
        case measure => (simp [intOf]; try omega)
    · have hin : n ≤ i := by omega
      go_wp2_with (first | (refine wl_loadM ?_) | (refine wl_load ?_) | (refine wl_fill1 ?_) | (refine wl_fill2 ?_) | (refine wl_storeM ?_) | (refine wl_makeM ?_; intro gm W' hgm hl hT; have hs := hl.out.size; (try simp at hs)) | (refine wl_store ?_) | (refine wl_build ?_) | (refine wl_slice ?_) | (refine wl_append ?_; intro v' w' ho hg hb; have hs := hg.size; (try simp at hs); (try rw [ptCs_end] at ho); (try rw [ints_end] at ho); (try simp only [Nat.zero_add, Nat.reduceAdd, List.nil_append, List.cons_append] at ho)))
      (apply ret_one Try.results75; (conv => lhs; whnf); exact rfl)
      refine ⟨_, rfl, fun _ => rfl, fun h => ?_, LowK.lnk findLow⟩
      exfalso
      have : oksM p L = true := List.all_eq_true.2 (fun x hx => by
        obtain ⟨j, hj, rfl⟩ := List.mem_iff_getElem.1 hx
        have := hJ j (by omega)
        rwa [List.getD_eq_getElem?_getD, List.getElem?_eq_getElem hj] at this)
      rw [this] at h; cases h
set_option maxRecDepth 20000 in
set_option maxHeartbeats 4000000 in
theorem ContainsFunc_M (p : Int) (c : Nat) (b : Option Addr) (n k : Nat) (L : List M9) (w : World) (hn : n ≤ 1000000) (c0 : w.cell? ⟨c, 0, none⟩ = some (.int .i64 p)) (h : ListM w b n L) :
    Calls Try.prog 59 #[.slice b n k, .func (.func 60) #[] #[.pointer (some ⟨c, 0, none⟩)]] w (Ret w (.bool (!oksM p L))) := by
  have HI := Lib.hid (IndexFunc_M p c b n k L w hn c0 h)
  go_enter Try.func59, Try.ntmps59
  rcases ho : oksM p L with _ | _
  · go_wp2_with (first | (refine wl_loadM ?_) | (refine wl_load ?_) | (refine wl_fill1 ?_) | (refine wl_fill2 ?_) | (refine wl_storeM ?_) | (refine wl_makeM ?_; intro gm W' hgm hl hT; have hs := hl.out.size; (try simp at hs)) | (refine wl_store ?_) | (refine wl_build ?_) | (refine wl_slice ?_) | (refine wl_append ?_; intro v' w' ho hg hb; have hs := hg.size; (try simp at hs); (try rw [ptCs_end] at ho); (try rw [ints_end] at ho); (try simp only [Nat.zero_add, Nat.reduceAdd, List.nil_append, List.cons_append] at ho)) | (go_at_call 75; (with_reducible refine (HI.out).mono ?_); rintro e w' ⟨r, rfl, h1, h2, hl⟩; have hr := h2 ho))
    (apply ret_one Try.results59; (conv => lhs; whnf); exact rfl)
    exact ret_ret (by first | (simp; done) | (simp; omega)) findLow
  · go_wp2_with (first | (refine wl_loadM ?_) | (refine wl_load ?_) | (refine wl_fill1 ?_) | (refine wl_fill2 ?_) | (refine wl_storeM ?_) | (refine wl_makeM ?_; intro gm W' hgm hl hT; have hs := hl.out.size; (try simp at hs)) | (refine wl_store ?_) | (refine wl_build ?_) | (refine wl_slice ?_) | (refine wl_append ?_; intro v' w' ho hg hb; have hs := hg.size; (try simp at hs); (try rw [ptCs_end] at ho); (try rw [ints_end] at ho); (try simp only [Nat.zero_add, Nat.reduceAdd, List.nil_append, List.cons_append] at ho)) | (go_at_call 75; (with_reducible refine (HI.out).mono ?_); rintro e w' ⟨r, rfl, h1, h2, hl⟩; have hr := h1 ho; subst hr))
    (apply ret_one Try.results59; (conv => lhs; whnf); exact rfl)
    exact ret_ret rfl findLow
set_option maxRecDepth 20000 in
set_option maxHeartbeats 4000000 in
theorem mapsC2 (p : Int) (c d : Nat) (b : Option Addr) (n k : Nat) (L : List M9) (w : World) (hn : n ≤ 1000000) (c0 : w.cell? ⟨c, 0, none⟩ = some (.int .i64 p)) (d0 : w.cell? ⟨d, 0, none⟩ = some (.slice b n k)) (h : ListM w b n L) :
    Calls Try.prog 58 #[.pointer (some ⟨d, 0, none⟩), .pointer (some ⟨c, 0, none⟩)] w (Ret w (.bool (oksM p L))) := by
  have HC := Lib.hid (ContainsFunc_M p c b n k L w hn c0 h)
  go_enter Try.func58, Try.ntmps58
  go_wp2_with (first | (refine wl_loadM ?_) | (refine wl_load ?_) | (refine wl_fill1 ?_) | (refine wl_fill2 ?_) | (refine wl_storeM ?_) | (refine wl_makeM ?_; intro gm W' hgm hl hT; have hs := hl.out.size; (try simp at hs)) | (refine wl_store ?_) | (refine wl_build ?_) | (refine wl_slice ?_) | (refine wl_append ?_; intro v' w' ho hg hb; have hs := hg.size; (try simp at hs); (try rw [ptCs_end] at ho); (try rw [ints_end] at ho); (try simp only [Nat.zero_add, Nat.reduceAdd, List.nil_append, List.cons_append] at ho)) | (go_at_call 59; (with_reducible refine (HC.out).mono ?_); rintro e w' ⟨rfl, hb⟩; have hl := Link.mk hb; have hs := hb.size; (try simp at hs); clear hb))
  (apply ret_one Try.results58; (conv => lhs; whnf); exact rfl)
  exact ret_ret (by simp) findLow
/-- The code of a prime and of what a function says. -/
theorem planeCode_maps (p : Int) (caps : Array Value) (v : Bool) (w : World) (hp : prB p = true) (Hf : ∀ W, LowK w W → Calls Try.prog 58 caps W (Ret W (.bool v))) :
    Calls Try.prog 41 #[.int .i64 p, .func (.func 58) #[] caps] w (Ret w (.int .i64 (codeOf p v))) := by
  have HF := Lib.hid Hf
  have e0 : codeOf p v = if v = true then 0 else 1 := by unfold codeOf; rw [hp]; rfl
  rw [e0]
  clear Hf e0
  go_enter Try.func41, Try.ntmps41
  rcases v with _ | _
  · go_wp2_with (first | (refine wl_loadM ?_) | (refine wl_load ?_) | (refine wl_fill1 ?_) | (refine wl_fill2 ?_) | (refine wl_storeM ?_) | (refine wl_makeM ?_; intro gm W' hgm hl hT; have hs := hl.out.size; (try simp at hs)) | (refine wl_store ?_) | (refine wl_build ?_) | (refine wl_slice ?_) | (refine wl_append ?_; intro v' w' ho hg hb; have hs := hg.size; (try simp at hs); (try rw [ptCs_end] at ho); (try rw [ints_end] at ho); (try simp only [Nat.zero_add, Nat.reduceAdd, List.nil_append, List.cons_append] at ho)) | (go_at_call 57; (with_reducible refine (isPrime_yes _ _ hp).mono ?_); rintro e w' ⟨rfl, rfl⟩) | (go_at_call 58; (with_reducible refine (HF.out _ findLow).mono ?_); rintro e w' ⟨rfl, hb⟩; have hl := Link.mk hb; have hs := hb.size; (try simp at hs); clear hb))
    (apply ret_one Try.results41; (conv => lhs; whnf); exact rfl)
    exact ret_ret rfl findLow
  · go_wp2_with (first | (refine wl_loadM ?_) | (refine wl_load ?_) | (refine wl_fill1 ?_) | (refine wl_fill2 ?_) | (refine wl_storeM ?_) | (refine wl_makeM ?_; intro gm W' hgm hl hT; have hs := hl.out.size; (try simp at hs)) | (refine wl_store ?_) | (refine wl_build ?_) | (refine wl_slice ?_) | (refine wl_append ?_; intro v' w' ho hg hb; have hs := hg.size; (try simp at hs); (try rw [ptCs_end] at ho); (try rw [ints_end] at ho); (try simp only [Nat.zero_add, Nat.reduceAdd, List.nil_append, List.cons_append] at ho)) | (go_at_call 57; (with_reducible refine (isPrime_yes _ _ hp).mono ?_); rintro e w' ⟨rfl, rfl⟩) | (go_at_call 58; (with_reducible refine (HF.out _ findLow).mono ?_); rintro e w' ⟨rfl, hb⟩; have hl := Link.mk hb; have hs := hb.size; (try simp at hs); clear hb))
    (apply ret_one Try.results41; (conv => lhs; whnf); exact rfl)
    exact ret_ret rfl findLow
/-- The code of a prime and of what a function says. -/
theorem planeCode_list (p : Int) (caps : Array Value) (v : Bool) (w : World) (hp : prB p = true) (Hf : ∀ W, LowK w W → Calls Try.prog 42 caps W (Ret W (.bool v))) :
    Calls Try.prog 41 #[.int .i64 p, .func (.func 42) #[] caps] w (Ret w (.int .i64 (codeOf p v))) := by
  have HF := Lib.hid Hf
  have e0 : codeOf p v = if v = true then 0 else 1 := by unfold codeOf; rw [hp]; rfl
  rw [e0]
  clear Hf e0
  go_enter Try.func41, Try.ntmps41
  rcases v with _ | _
  · go_wp2_with (first | (refine wl_loadM ?_) | (refine wl_load ?_) | (refine wl_fill1 ?_) | (refine wl_fill2 ?_) | (refine wl_storeM ?_) | (refine wl_makeM ?_; intro gm W' hgm hl hT; have hs := hl.out.size; (try simp at hs)) | (refine wl_store ?_) | (refine wl_build ?_) | (refine wl_slice ?_) | (refine wl_append ?_; intro v' w' ho hg hb; have hs := hg.size; (try simp at hs); (try rw [ptCs_end] at ho); (try rw [ints_end] at ho); (try simp only [Nat.zero_add, Nat.reduceAdd, List.nil_append, List.cons_append] at ho)) | (go_at_call 57; (with_reducible refine (isPrime_yes _ _ hp).mono ?_); rintro e w' ⟨rfl, rfl⟩) | (go_at_call 42; (with_reducible refine (HF.out _ findLow).mono ?_); rintro e w' ⟨rfl, hb⟩; have hl := Link.mk hb; have hs := hb.size; (try simp at hs); clear hb))
    (apply ret_one Try.results41; (conv => lhs; whnf); exact rfl)
    exact ret_ret rfl findLow
  · go_wp2_with (first | (refine wl_loadM ?_) | (refine wl_load ?_) | (refine wl_fill1 ?_) | (refine wl_fill2 ?_) | (refine wl_storeM ?_) | (refine wl_makeM ?_; intro gm W' hgm hl hT; have hs := hl.out.size; (try simp at hs)) | (refine wl_store ?_) | (refine wl_build ?_) | (refine wl_slice ?_) | (refine wl_append ?_; intro v' w' ho hg hb; have hs := hg.size; (try simp at hs); (try rw [ptCs_end] at ho); (try rw [ints_end] at ho); (try simp only [Nat.zero_add, Nat.reduceAdd, List.nil_append, List.cons_append] at ho)) | (go_at_call 57; (with_reducible refine (isPrime_yes _ _ hp).mono ?_); rintro e w' ⟨rfl, rfl⟩) | (go_at_call 42; (with_reducible refine (HF.out _ findLow).mono ?_); rintro e w' ⟨rfl, hb⟩; have hl := Link.mk hb; have hs := hb.size; (try simp at hs); clear hb))
    (apply ret_one Try.results41; (conv => lhs; whnf); exact rfl)
    exact ret_ret rfl findLow
set_option maxRecDepth 20000 in
set_option maxHeartbeats 4000000 in
theorem mapsCode_M (p : Int) (b : Option Addr) (n k : Nat) (L : List M9) (w : World) (hn : n ≤ 1000000) (h : ListM w b n L) :
    Calls Try.prog 43 #[.int .i64 p, .slice b n k] w (Ret w (.int .i64 (codeOf p (oksM p L)))) := by
  rcases hp : prB p with _ | _
  · go_enter Try.func43, Try.ntmps43
    go_wp2_with (first | (refine wl_loadM ?_) | (refine wl_load ?_) | (refine wl_fill1 ?_) | (refine wl_fill2 ?_) | (refine wl_storeM ?_) | (refine wl_makeM ?_; intro gm W' hgm hl hT; have hs := hl.out.size; (try simp at hs)) | (refine wl_store ?_) | (refine wl_build ?_) | (refine wl_slice ?_) | (refine wl_append ?_; intro v' w' ho hg hb; have hs := hg.size; (try simp at hs); (try rw [ptCs_end] at ho); (try rw [ints_end] at ho); (try simp only [Nat.zero_add, Nat.reduceAdd, List.nil_append, List.cons_append] at ho)) | (go_at_call 41; (with_reducible refine (planeCode_no _ _ _ hp).mono ?_); rintro e w' ⟨rfl, rfl⟩))
    (apply ret_one Try.results43; (conv => lhs; whnf); exact rfl)
    exact ret_ret (by simp [codeOf, hp]) findLow
  · have HF : Hid (∀ (W : World) (c d : Nat), W.cell? ⟨c, 0, none⟩ = some (.int .i64 p) → W.cell? ⟨d, 0, none⟩ = some (.slice b n k) → LowK w W → ∀ W2, LowK W W2 → Calls Try.prog 58 #[.pointer (some ⟨d, 0, none⟩), .pointer (some ⟨c, 0, none⟩)] W2 (Ret W2 (.bool (oksM p L)))) :=
      Lib.hid (fun W c d hc hd hV W2 hV2 => mapsC2 p c d b n k L W2 hn (cell_below hV2.out hc) (cell_below hV2.out hd) (h.link (LowK.lnk (LowK.link (LowK.lnk hV2) hV))))
    go_enter Try.func43, Try.ntmps43
    go_wp2_with (first | (refine wl_loadM ?_) | (refine wl_load ?_) | (refine wl_fill1 ?_) | (refine wl_fill2 ?_) | (refine wl_storeM ?_) | (refine wl_makeM ?_; intro gm W' hgm hl hT; have hs := hl.out.size; (try simp at hs)) | (refine wl_store ?_) | (refine wl_build ?_) | (refine wl_slice ?_) | (refine wl_append ?_; intro v' w' ho hg hb; have hs := hg.size; (try simp at hs); (try rw [ptCs_end] at ho); (try rw [ints_end] at ho); (try simp only [Nat.zero_add, Nat.reduceAdd, List.nil_append, List.cons_append] at ho)) | (go_at_call 41; (with_reducible refine (planeCode_maps p _ _ _ hp (HF.out _ _ _ (by simp [go_sem]) (by simp [go_sem]) findLow)).mono ?_); rintro e w' ⟨rfl, hb⟩; have hl := Link.mk hb; have hs := hb.size; (try simp at hs); clear hb))
    (apply ret_one Try.results43; (conv => lhs; whnf); exact rfl)
    exact ret_ret rfl findLow
end Go.Proofs.Ytoagfpdicpcjnaa
/- Contracts: the codes of a list of maps and of points, the program's and the reference's. -- maps -/
namespace Go.Proofs.Ytoagfpdicpcjnaa
open Go.RowKit
set_option linter.unusedVariables false
set_option linter.unusedSimpArgs false
theorem code_if {p : Int} (hp : prB p = true) (v : Bool) : codeOf p v = if v = true then 0 else 1 := by unfold codeOf; rw [hp]; rfl
set_option maxRecDepth 20000 in
set_option maxHeartbeats 4000000 in
theorem listC1 (p : Int) (c d e : Nat) (b : Option Addr) (n k : Nat) (L : List M9) (bp : Option Addr) (np kp : Nat) (lp : List Pt) (w : World) (hp : prB p = true) (hn : n ≤ 1000000) (hnp : np ≤ 1000000) (c0 : w.cell? ⟨c, 0, none⟩ = some (.int .i64 p)) (d0 : w.cell? ⟨d, 0, none⟩ = some (.slice b n k)) (e0 : w.cell? ⟨e, 0, none⟩ = some (.slice bp np kp)) (h : ListM w b n L) (hP : ListP w bp np lp) :
    Calls Try.prog 42 #[.pointer (some ⟨c, 0, none⟩), .pointer (some ⟨d, 0, none⟩), .pointer (some ⟨e, 0, none⟩)] w (Ret w (.bool (oksM p L && ptsB p lp))) := by
  have HM := Lib.hid (mapsCode_M p b n k L w hn h)
  rw [code_if hp] at HM
  have HA := Lib.hid (fun (W : World) (l : Link w W) => arePoints_list p bp np kp lp W hnp (hP.below l.out))
  have hcl : c < w.heap.size := World.block_lt_of_cell? w _ c0
  have hel : e < w.heap.size := World.block_lt_of_cell? w _ e0
  have C0 := Lib.hid c0
  have E0 := Lib.hid e0
  rcases ho : oksM p L with _ | _
  · rw [ho] at HM
    go_enter Try.func42, Try.ntmps42
    go_wp2_with (first | (refine wl_loadM ?_) | (refine wl_load ?_) | (refine wl_fill1 ?_) | (refine wl_fill2 ?_) | (refine wl_storeM ?_) | (refine wl_makeM ?_; intro gm W' hgm hl hT; have hs := hl.out.size; (try simp at hs)) | (refine wl_store ?_) | (refine wl_build ?_) | (refine wl_slice ?_) | (refine wl_append ?_; intro v' w' ho hg hb; have hs := hg.size; (try simp at hs); (try rw [ptCs_end] at ho); (try rw [ints_end] at ho); (try simp only [Nat.zero_add, Nat.reduceAdd, List.nil_append, List.cons_append] at ho)) | (go_at_call 43; (with_reducible refine (HM.out).mono ?_); rintro e w' ⟨rfl, hb⟩; have hl := Link.mk hb; have hs := hb.size; (try simp at hs); clear hb))
    (apply ret_one Try.results42; (conv => lhs; whnf); exact rfl)
    exact ret_ret rfl findLow
  · rw [ho] at HM
    go_enter Try.func42, Try.ntmps42
    go_wp2_with (first | (refine wl_loadM ?_) | (refine wl_load ?_) | (refine wl_fill1 ?_) | (refine wl_fill2 ?_) | (refine wl_storeM ?_) | (refine wl_makeM ?_; intro gm W' hgm hl hT; have hs := hl.out.size; (try simp at hs)) | (refine wl_store ?_) | (refine wl_build ?_) | (refine wl_slice ?_) | (refine wl_append ?_; intro v' w' ho hg hb; have hs := hg.size; (try simp at hs); (try rw [ptCs_end] at ho); (try rw [ints_end] at ho); (try simp only [Nat.zero_add, Nat.reduceAdd, List.nil_append, List.cons_append] at ho)) | (go_at_call 43; (with_reducible refine (HM.out).mono ?_); rintro e w' ⟨rfl, hb⟩; have hl := Link.mk hb; have hs := hb.size; have c1 := cell_below hb C0.out; have e1 := cell_below hb E0.out; clear hb) | (go_at_call 44; (with_reducible refine (HA.out _ (LowK.lnk findLow)).mono ?_); rintro e w' ⟨rfl, hb⟩; have hl := Link.mk hb; have hs := hb.size; (try simp at hs); clear hb))
    (apply ret_one Try.results42; (conv => lhs; whnf); exact rfl)
    exact ret_ret (by simp) findLow
/-- The code of a list of at most eight maps and of points. -/
def codeML (p : Int) (n : Nat) (v : Bool) : Int := if codeOf p v = 0 ∧ 8 < n then 2 else codeOf p v
set_option maxRecDepth 20000 in
set_option maxHeartbeats 4000000 in
theorem listCode_M (p : Int) (b : Option Addr) (n k : Nat) (L : List M9) (bp : Option Addr) (np kp : Nat) (lp : List Pt) (w : World) (hn : n ≤ 1000000) (hnp : np ≤ 1000000) (h : ListM w b n L) (hP : ListP w bp np lp) :
    Calls Try.prog 25 #[.int .i64 p, .slice b n k, .slice bp np kp] w (Ret w (.int .i64 (codeML p n (oksM p L && ptsB p lp)))) := by
  rcases hp : prB p with _ | _
  · have e0 : codeML p n (oksM p L && ptsB p lp) = 2 := by simp [codeML, codeOf, hp]
    rw [e0]
    go_enter Try.func25, Try.ntmps25
    go_wp2_with (first | (refine wl_loadM ?_) | (refine wl_load ?_) | (refine wl_fill1 ?_) | (refine wl_fill2 ?_) | (refine wl_storeM ?_) | (refine wl_makeM ?_; intro gm W' hgm hl hT; have hs := hl.out.size; (try simp at hs)) | (refine wl_store ?_) | (refine wl_build ?_) | (refine wl_slice ?_) | (refine wl_append ?_; intro v' w' ho hg hb; have hs := hg.size; (try simp at hs); (try rw [ptCs_end] at ho); (try rw [ints_end] at ho); (try simp only [Nat.zero_add, Nat.reduceAdd, List.nil_append, List.cons_append] at ho)) | (go_at_call 41; (with_reducible refine (planeCode_no _ _ _ hp).mono ?_); rintro e w' ⟨rfl, rfl⟩))
    (apply ret_one Try.results25; (conv => lhs; whnf); exact rfl)
    exact ret_ret rfl findLow
  · have HF : Hid (∀ (W : World) (c d e : Nat), W.cell? ⟨c, 0, none⟩ = some (.int .i64 p) → W.cell? ⟨d, 0, none⟩ = some (.slice b n k) → W.cell? ⟨e, 0, none⟩ = some (.slice bp np kp) → LowK w W → ∀ W2, LowK W W2 → Calls Try.prog 42 #[.pointer (some ⟨c, 0, none⟩), .pointer (some ⟨d, 0, none⟩), .pointer (some ⟨e, 0, none⟩)] W2 (Ret W2 (.bool (oksM p L && ptsB p lp)))) :=
      Lib.hid (fun W c d e hc hd he hV W2 hV2 => by
        have hl2 := LowK.lnk (LowK.link (LowK.lnk hV2) hV)
        exact listC1 p c d e b n k L bp np kp lp W2 hp hn hnp (cell_below hV2.out hc) (cell_below hV2.out hd) (cell_below hV2.out he) (h.link hl2) (hP.below hl2.out))
    have e0 : codeML p n (oksM p L && ptsB p lp) = if codeOf p (oksM p L && ptsB p lp) = 0 ∧ 8 < n then 2 else codeOf p (oksM p L && ptsB p lp) := rfl
    rw [e0]
    generalize (oksM p L && ptsB p lp) = v at *
    rw [code_if hp]
    have HPf := Lib.hid (fun (caps : Array Value) (w : World) (Hf : ∀ W, LowK w W → Calls Try.prog 42 caps W (Ret W (.bool v))) => by have := planeCode_list p caps v w hp Hf; rw [code_if hp] at this; exact this)
    rcases v with _ | _
    · rw [show (if (if false = true then (0 : Int) else 1) = 0 ∧ 8 < n then (2 : Int) else (if false = true then 0 else 1)) = 1 by simp]
      have HQ := Lib.hid (fun (caps : Array Value) (w : World) Hf => (show Calls Try.prog 41 #[.int .i64 p, .func (.func 42) #[] caps] w (Ret w (.int .i64 1)) from HPf.out caps w Hf))
      go_enter Try.func25, Try.ntmps25
      go_wp2_with (first | (refine wl_loadM ?_) | (refine wl_load ?_) | (refine wl_fill1 ?_) | (refine wl_fill2 ?_) | (refine wl_storeM ?_) | (refine wl_makeM ?_; intro gm W' hgm hl hT; have hs := hl.out.size; (try simp at hs)) | (refine wl_store ?_) | (refine wl_build ?_) | (refine wl_slice ?_) | (refine wl_append ?_; intro v' w' ho hg hb; have hs := hg.size; (try simp at hs); (try rw [ptCs_end] at ho); (try rw [ints_end] at ho); (try simp only [Nat.zero_add, Nat.reduceAdd, List.nil_append, List.cons_append] at ho)) | (go_at_call 41; (with_reducible refine (HQ.out _ _ (HF.out _ _ _ _ (by simp [go_sem]) (by simp [go_sem]) (by simp [go_sem]) findLow)).mono ?_); rintro e w' ⟨rfl, hb⟩; have hl := Link.mk hb; have hs := hb.size; (try simp at hs); clear hb))
      (apply ret_one Try.results25; (conv => lhs; whnf); exact rfl)
      exact ret_ret rfl findLow
    · have HQ := Lib.hid (fun (caps : Array Value) (w : World) Hf => (show Calls Try.prog 41 #[.int .i64 p, .func (.func 42) #[] caps] w (Ret w (.int .i64 0)) from HPf.out caps w Hf))
      by_cases h8 : 8 < n
      · rw [show (if (if true = true then (0 : Int) else 1) = 0 ∧ 8 < n then (2 : Int) else (if true = true then 0 else 1)) = 2 by simp [h8]]
        go_enter Try.func25, Try.ntmps25
        go_wp2_with (first | (refine wl_loadM ?_) | (refine wl_load ?_) | (refine wl_fill1 ?_) | (refine wl_fill2 ?_) | (refine wl_storeM ?_) | (refine wl_makeM ?_; intro gm W' hgm hl hT; have hs := hl.out.size; (try simp at hs)) | (refine wl_store ?_) | (refine wl_build ?_) | (refine wl_slice ?_) | (refine wl_append ?_; intro v' w' ho hg hb; have hs := hg.size; (try simp at hs); (try rw [ptCs_end] at ho); (try rw [ints_end] at ho); (try simp only [Nat.zero_add, Nat.reduceAdd, List.nil_append, List.cons_append] at ho)) | (go_at_call 41; (with_reducible refine (HQ.out _ _ (HF.out _ _ _ _ (by simp [go_sem]) (by simp [go_sem]) (by simp [go_sem]) findLow)).mono ?_); rintro e w' ⟨rfl, hb⟩; have hl := Link.mk hb; have hs := hb.size; (try simp at hs); have m1 : w'.cell? ⟨w.heap.size + 1, 0, none⟩ = some (.slice b n k) := cell_below hb (by simp [go_sem])))
        (apply ret_one Try.results25; (conv => lhs; whnf); exact rfl)
        exact ret_ret rfl findLow
      · rw [show (if (if true = true then (0 : Int) else 1) = 0 ∧ 8 < n then (2 : Int) else (if true = true then 0 else 1)) = 0 by simp [h8]]
        go_enter Try.func25, Try.ntmps25
        go_wp2_with (first | (refine wl_loadM ?_) | (refine wl_load ?_) | (refine wl_fill1 ?_) | (refine wl_fill2 ?_) | (refine wl_storeM ?_) | (refine wl_makeM ?_; intro gm W' hgm hl hT; have hs := hl.out.size; (try simp at hs)) | (refine wl_store ?_) | (refine wl_build ?_) | (refine wl_slice ?_) | (refine wl_append ?_; intro v' w' ho hg hb; have hs := hg.size; (try simp at hs); (try rw [ptCs_end] at ho); (try rw [ints_end] at ho); (try simp only [Nat.zero_add, Nat.reduceAdd, List.nil_append, List.cons_append] at ho)) | (go_at_call 41; (with_reducible refine (HQ.out _ _ (HF.out _ _ _ _ (by simp [go_sem]) (by simp [go_sem]) (by simp [go_sem]) findLow)).mono ?_); rintro e w' ⟨rfl, hb⟩; have hl := Link.mk hb; have hs := hb.size; (try simp at hs); have m1 : w'.cell? ⟨w.heap.size + 1, 0, none⟩ = some (.slice b n k) := cell_below hb (by simp [go_sem])))
        (apply ret_one Try.results25; (conv => lhs; whnf); exact rfl)
        exact ret_ret rfl findLow
end Go.Proofs.Ytoagfpdicpcjnaa
/- Contracts: the reference's codes of a list of maps and of points. -- maps -/
namespace Go.Proofs.Ytoagfpdicpcjnaa
open Go.RowKit
set_option linter.unusedVariables false
set_option linter.unusedSimpArgs false
set_option maxRecDepth 20000 in
set_option maxHeartbeats 4000000 in
theorem l02Code_M (p : Int) (b : Option Addr) (n k : Nat) (L : List M9) (w : World) (hn : n ≤ 1000000) (h : ListM w b n L) :
    Calls Try.prog 37 #[.int .i64 p, .slice b n k] w (Ret w (.int .i64 (codeOf p (oksM p L)))) := by
  rcases hp : prB p with _ | _
  · have e0 : codeOf p (oksM p L) = 2 := by simp [codeOf, hp]
    rw [e0]
    go_enter Try.func37, Try.ntmps37
    go_wp2_with (first | (refine wl_loadM ?_) | (refine wl_load ?_) | (refine wl_fill1 ?_) | (refine wl_fill2 ?_) | (refine wl_storeM ?_) | (refine wl_makeM ?_; intro gm W' hgm hl hT; have hs := hl.out.size; (try simp at hs)) | (refine wl_store ?_) | (refine wl_build ?_) | (refine wl_slice ?_) | (refine wl_append ?_; intro v' w' ho hg hb; have hs := hg.size; (try simp at hs); (try rw [ptCs_end] at ho); (try rw [ints_end] at ho); (try simp only [Nat.zero_add, Nat.reduceAdd, List.nil_append, List.cons_append] at ho)) | (go_at_call 53; (with_reducible refine (l01Prime_no _ _ hp).mono ?_); rintro e w' ⟨rfl, rfl⟩))
    (apply ret_one Try.results37; (conv => lhs; whnf); exact rfl)
    exact ret_ret rfl findLow
  · rw [code_if hp]
    obtain ⟨hL, hM⟩ := h.out
    obtain ⟨v, hv⟩ : ∃ v, (if oksM p L = true then (0 : Int) else 1) = v := ⟨_, rfl⟩
    rw [hv]
    have HV := Lib.hid hv
    clear hv
    go_enter Try.func37, Try.ntmps37
    go_wp2_with (first | (refine wl_loadM ?_) | (refine wl_load ?_) | (refine wl_fill1 ?_) | (refine wl_fill2 ?_) | (refine wl_storeM ?_) | (refine wl_makeM ?_; intro gm W' hgm hl hT; have hs := hl.out.size; (try simp at hs)) | (refine wl_store ?_) | (refine wl_build ?_) | (refine wl_slice ?_) | (refine wl_append ?_; intro v' w' ho hg hb; have hs := hg.size; (try simp at hs); (try rw [ptCs_end] at ho); (try rw [ints_end] at ho); (try simp only [Nat.zero_add, Nat.reduceAdd, List.nil_append, List.cons_append] at ho)) | (go_at_call 53; (with_reducible refine (l01Prime_yes _ _ hp).mono ?_); rintro e w' ⟨rfl, rfl⟩))
    go_loopw [5] (fun i wr => ∃ k : Nat, k ≤ n ∧ i = .int .i64 (k : Int) ∧ LowK w wr ∧ ∀ j, j < k → okM p (L.getD j m0) = true) (fun i _ => n - (intOf i).toNat)
    case atStart => exact ⟨0, Nat.zero_le _, rfl, findLow, fun j hj => absurd hj (Nat.not_lt_zero _)⟩
    case round =>
      obtain ⟨i, hi, rfl, hV, hJ⟩ := hrel
      by_cases hlt : i < n
      · obtain ⟨g, off, rfl, hS⟩ := hM (by omega)
        have r1 := (hS.at_ hlt).viaLow hV
        obtain ⟨x, hx⟩ : ∃ x, L.getD i m0 = x := ⟨_, rfl⟩
        rw [hx] at r1
        have HX := Lib.hid (fun W => l02Is_M p x W)
        rcases ho : okM p x with _ | _
        · rw [ho] at HX
          go_wp2_with (first | (refine wl_loadM ?_) | (refine wl_load ?_) | (refine wl_fill1 ?_) | (refine wl_fill2 ?_) | (refine wl_storeM ?_) | (refine wl_makeM ?_; intro gm W' hgm hl hT; have hs := hl.out.size; (try simp at hs)) | (refine wl_store ?_) | (refine wl_build ?_) | (refine wl_slice ?_) | (refine wl_append ?_; intro v' w' ho hg hb; have hs := hg.size; (try simp at hs); (try rw [ptCs_end] at ho); (try rw [ints_end] at ho); (try simp only [Nat.zero_add, Nat.reduceAdd, List.nil_append, List.cons_append] at ho)) | (go_at_call 54; (with_reducible refine (HX.out _).mono ?_); rintro e w' ⟨rfl, hb⟩; have hl := Link.mk hb; have hs := hb.size; (try simp at hs); clear hb))
          have hv1 : oksM p L = false := by
            rcases ha : oksM p L with _ | _
            · rfl
            · have := List.all_eq_true.1 ha x (by rw [← hx, List.getD_eq_getElem?_getD, List.getElem?_eq_getElem (by omega)]; exact List.getElem_mem _)
              rw [ho] at this; cases this
          obtain rfl : v = 1 := by have := HV.out; rw [hv1] at this; simpa using this.symm
          (apply ret_one Try.results37; (conv => lhs; whnf); exact rfl)
          exact ret_ret rfl findLow
        · rw [ho] at HX
          go_wp2_with (first | (refine wl_loadM ?_) | (refine wl_load ?_) | (refine wl_fill1 ?_) | (refine wl_fill2 ?_) | (refine wl_storeM ?_) | (refine wl_makeM ?_; intro gm W' hgm hl hT; have hs := hl.out.size; (try simp at hs)) | (refine wl_store ?_) | (refine wl_build ?_) | (refine wl_slice ?_) | (refine wl_append ?_; intro v' w' ho hg hb; have hs := hg.size; (try simp at hs); (try rw [ptCs_end] at ho); (try rw [ints_end] at ho); (try simp only [Nat.zero_add, Nat.reduceAdd, List.nil_append, List.cons_append] at ho)) | (go_at_call 54; (with_reducible refine (HX.out _).mono ?_); rintro e w' ⟨rfl, hb⟩; have hl := Link.mk hb; have hs := hb.size; (try simp at hs); clear hb))
          go_roundw
          case rel => exact ⟨i + 1, by omega, by go_num, findLow, fun j hj => by
            rcases Nat.lt_or_ge j i with e | e
            · exact hJ j e
            · obtain rfl : j = i := by omega
              rw [hx]; exact ho⟩
          case measure => (simp [intOf]; try omega)
      · have hin : n ≤ i := by omega
        go_wp2_with (first | (refine wl_loadM ?_) | (refine wl_load ?_) | (refine wl_fill1 ?_) | (refine wl_fill2 ?_) | (refine wl_storeM ?_) | (refine wl_makeM ?_; intro gm W' hgm hl hT; have hs := hl.out.size; (try simp at hs)) | (refine wl_store ?_) | (refine wl_build ?_) | (refine wl_slice ?_) | (refine wl_append ?_; intro v' w' ho hg hb; have hs := hg.size; (try simp at hs); (try rw [ptCs_end] at ho); (try rw [ints_end] at ho); (try simp only [Nat.zero_add, Nat.reduceAdd, List.nil_append, List.cons_append] at ho)))
        have hv1 : oksM p L = true := List.all_eq_true.2 (fun x hx => by
          obtain ⟨j, hj, rfl⟩ := List.mem_iff_getElem.1 hx
          have := hJ j (by omega)
          rwa [List.getD_eq_getElem?_getD, List.getElem?_eq_getElem hj] at this)
        obtain rfl : v = 0 := by have := HV.out; rw [hv1] at this; simpa using this.symm
        (apply ret_one Try.results37; (conv => lhs; whnf); exact rfl)
        exact ret_ret rfl findLow
theorem l01Code_nilM (p : Int) (w : World) : Calls Try.prog 38 #[.int .i64 p, .slice none 0 0] w (Ret w (.int .i64 (codeOf p true))) := by
  rcases hp : prB p with _ | _
  · go_enter Try.func38, Try.ntmps38
    go_wp2_with (first | (refine wl_loadM ?_) | (refine wl_load ?_) | (refine wl_fill1 ?_) | (refine wl_fill2 ?_) | (refine wl_storeM ?_) | (refine wl_makeM ?_; intro gm W' hgm hl hT; have hs := hl.out.size; (try simp at hs)) | (refine wl_store ?_) | (refine wl_build ?_) | (refine wl_slice ?_) | (refine wl_append ?_; intro v' w' ho hg hb; have hs := hg.size; (try simp at hs); (try rw [ptCs_end] at ho); (try rw [ints_end] at ho); (try simp only [Nat.zero_add, Nat.reduceAdd, List.nil_append, List.cons_append] at ho)) | (go_at_call 53; (with_reducible refine (l01Prime_no _ _ hp).mono ?_); rintro e w' ⟨rfl, rfl⟩))
    (apply ret_one Try.results38; (conv => lhs; whnf); exact rfl)
    exact ret_ret (by simp [codeOf, hp]) findLow
  · go_enter Try.func38, Try.ntmps38
    go_wp2_with (first | (refine wl_loadM ?_) | (refine wl_load ?_) | (refine wl_fill1 ?_) | (refine wl_fill2 ?_) | (refine wl_storeM ?_) | (refine wl_makeM ?_; intro gm W' hgm hl hT; have hs := hl.out.size; (try simp at hs)) | (refine wl_store ?_) | (refine wl_build ?_) | (refine wl_slice ?_) | (refine wl_append ?_; intro v' w' ho hg hb; have hs := hg.size; (try simp at hs); (try rw [ptCs_end] at ho); (try rw [ints_end] at ho); (try simp only [Nat.zero_add, Nat.reduceAdd, List.nil_append, List.cons_append] at ho)) | (go_at_call 53; (with_reducible refine (l01Prime_yes _ _ hp).mono ?_); rintro e w' ⟨rfl, rfl⟩))
    refine wp_loop_rounds 1 ?_
    rw [rounds_succ]
    go_wp2_with (first | (refine wl_loadM ?_) | (refine wl_load ?_) | (refine wl_fill1 ?_) | (refine wl_fill2 ?_) | (refine wl_storeM ?_) | (refine wl_makeM ?_; intro gm W' hgm hl hT; have hs := hl.out.size; (try simp at hs)) | (refine wl_store ?_) | (refine wl_build ?_) | (refine wl_slice ?_) | (refine wl_append ?_; intro v' w' ho hg hb; have hs := hg.size; (try simp at hs); (try rw [ptCs_end] at ho); (try rw [ints_end] at ho); (try simp only [Nat.zero_add, Nat.reduceAdd, List.nil_append, List.cons_append] at ho)))
    (apply ret_one Try.results38; (conv => lhs; whnf); exact rfl)
    exact ret_ret (by simp [codeOf, hp]) findLow
/-- A list of points, nil or in a block. -/
def PtsN (W : World) (b : Option Addr) (n k : Nat) (l : List Pt) : Prop := (b = none ∧ n = 0 ∧ k = 0 ∧ l = []) ∨ ∃ g, b = some ⟨g, 0, none⟩ ∧ l.length = n ∧ PtsK W g 0 n l
theorem l01Code_N (p : Int) (b : Option Addr) (n k : Nat) (l : List Pt) (w : World) (hn : n ≤ 1000000) (h : PtsN w b n k l) : Calls Try.prog 38 #[.int .i64 p, .slice b n k] w (Ret w (.int .i64 (codeOf p (ptsB p l)))) := by
  rcases h with ⟨rfl, rfl, rfl, rfl⟩ | ⟨g, rfl, hl, hP⟩
  · exact l01Code_nilM p w
  · exact l01Code_any p g 0 n k l w hl (by omega) hP.out
set_option maxRecDepth 20000 in
set_option maxHeartbeats 4000000 in
theorem l10Maps_M (p : Int) (b : Option Addr) (n k : Nat) (L : List M9) (bp : Option Addr) (np kp : Nat) (lp : List Pt) (w : World) (hn : n ≤ 1000000) (hnp : np ≤ 1000000) (h : ListM w b n L) (hP : ∀ W, Link w W → PtsN W bp np kp lp) :
    Calls Try.prog 20 #[.int .i64 p, .slice b n k, .slice bp np kp] w (Ret w (.int .i64 (codeML p n (oksM p L && ptsB p lp)))) := by
  have H2 := Lib.hid (fun (W : World) (l : Link w W) => l02Code_M p b n k L W hn (h.link l))
  have H1 := Lib.hid (fun (W : World) (l : Link w W) => l01Code_N p bp np kp lp W hnp (hP W l))
  obtain ⟨r, hr⟩ : ∃ r, codeML p n (oksM p L && ptsB p lp) = r := ⟨_, rfl⟩
  rw [hr]
  have HR := Lib.hid hr
  obtain ⟨c2, hc2⟩ : ∃ c, codeOf p (oksM p L) = c := ⟨_, rfl⟩
  obtain ⟨c1, hc1⟩ : ∃ c, codeOf p (ptsB p lp) = c := ⟨_, rfl⟩
  rw [hc2] at H2
  rw [hc1] at H1
  have K : Hid ((¬ c2 = 0 → r = c2) ∧ (c2 = 0 → ¬ c1 = 0 → r = c1) ∧ (c2 = 0 → c1 = 0 → 8 < n → r = 2) ∧ (c2 = 0 → c1 = 0 → ¬ 8 < n → r = 0)) := Lib.hid (by
    subst hc1 hc2 hr
    unfold codeML codeOf
    rcases prB p with _ | _ <;> rcases oksM p L with _ | _ <;> rcases ptsB p lp with _ | _ <;> by_cases h8 : 8 < n <;> simp [h8])
  clear hr hc1 hc2
  obtain ⟨k1, k2, k3, k4⟩ := K.out
  by_cases h0 : c2 = 0
  · by_cases h1 : c1 = 0
    · by_cases h8 : 8 < n
      · obtain rfl := k3 h0 h1 h8
        go_enter Try.func20, Try.ntmps20
        go_wp2_with (first | (refine wl_loadM ?_) | (refine wl_load ?_) | (refine wl_fill1 ?_) | (refine wl_fill2 ?_) | (refine wl_storeM ?_) | (refine wl_makeM ?_; intro gm W' hgm hl hT; have hs := hl.out.size; (try simp at hs)) | (refine wl_store ?_) | (refine wl_build ?_) | (refine wl_slice ?_) | (refine wl_append ?_; intro v' w' ho hg hb; have hs := hg.size; (try simp at hs); (try rw [ptCs_end] at ho); (try rw [ints_end] at ho); (try simp only [Nat.zero_add, Nat.reduceAdd, List.nil_append, List.cons_append] at ho)) | (go_at_call 37; (with_reducible refine (H2.out _ (LowK.lnk findLow)).mono ?_); rintro e w' ⟨rfl, hb⟩; have hl := Link.mk hb; have hs := hb.size; (try simp at hs); clear hb) | (go_at_call 38; (with_reducible refine (H1.out _ (LowK.lnk findLow)).mono ?_); rintro e w' ⟨rfl, hb⟩; have hl := Link.mk hb; have hs := hb.size; (try simp at hs); clear hb))
        (apply ret_one Try.results20; (conv => lhs; whnf); exact rfl)
        exact ret_ret rfl findLow
      · obtain rfl := k4 h0 h1 h8
        go_enter Try.func20, Try.ntmps20
        go_wp2_with (first | (refine wl_loadM ?_) | (refine wl_load ?_) | (refine wl_fill1 ?_) | (refine wl_fill2 ?_) | (refine wl_storeM ?_) | (refine wl_makeM ?_; intro gm W' hgm hl hT; have hs := hl.out.size; (try simp at hs)) | (refine wl_store ?_) | (refine wl_build ?_) | (refine wl_slice ?_) | (refine wl_append ?_; intro v' w' ho hg hb; have hs := hg.size; (try simp at hs); (try rw [ptCs_end] at ho); (try rw [ints_end] at ho); (try simp only [Nat.zero_add, Nat.reduceAdd, List.nil_append, List.cons_append] at ho)) | (go_at_call 37; (with_reducible refine (H2.out _ (LowK.lnk findLow)).mono ?_); rintro e w' ⟨rfl, hb⟩; have hl := Link.mk hb; have hs := hb.size; (try simp at hs); clear hb) | (go_at_call 38; (with_reducible refine (H1.out _ (LowK.lnk findLow)).mono ?_); rintro e w' ⟨rfl, hb⟩; have hl := Link.mk hb; have hs := hb.size; (try simp at hs); clear hb))
        (apply ret_one Try.results20; (conv => lhs; whnf); exact rfl)
        exact ret_ret (by first | rfl | (rw [h1])) findLow
    · obtain rfl := k2 h0 h1
      go_enter Try.func20, Try.ntmps20
      go_wp2_with (first | (refine wl_loadM ?_) | (refine wl_load ?_) | (refine wl_fill1 ?_) | (refine wl_fill2 ?_) | (refine wl_storeM ?_) | (refine wl_makeM ?_; intro gm W' hgm hl hT; have hs := hl.out.size; (try simp at hs)) | (refine wl_store ?_) | (refine wl_build ?_) | (refine wl_slice ?_) | (refine wl_append ?_; intro v' w' ho hg hb; have hs := hg.size; (try simp at hs); (try rw [ptCs_end] at ho); (try rw [ints_end] at ho); (try simp only [Nat.zero_add, Nat.reduceAdd, List.nil_append, List.cons_append] at ho)) | (go_at_call 37; (with_reducible refine (H2.out _ (LowK.lnk findLow)).mono ?_); rintro e w' ⟨rfl, hb⟩; have hl := Link.mk hb; have hs := hb.size; (try simp at hs); clear hb) | (go_at_call 38; (with_reducible refine (H1.out _ (LowK.lnk findLow)).mono ?_); rintro e w' ⟨rfl, hb⟩; have hl := Link.mk hb; have hs := hb.size; (try simp at hs); clear hb))
      (apply ret_one Try.results20; (conv => lhs; whnf); exact rfl)
      exact ret_ret rfl findLow
  · obtain rfl := k1 h0
    go_enter Try.func20, Try.ntmps20
    go_wp2_with (first | (refine wl_loadM ?_) | (refine wl_load ?_) | (refine wl_fill1 ?_) | (refine wl_fill2 ?_) | (refine wl_storeM ?_) | (refine wl_makeM ?_; intro gm W' hgm hl hT; have hs := hl.out.size; (try simp at hs)) | (refine wl_store ?_) | (refine wl_build ?_) | (refine wl_slice ?_) | (refine wl_append ?_; intro v' w' ho hg hb; have hs := hg.size; (try simp at hs); (try rw [ptCs_end] at ho); (try rw [ints_end] at ho); (try simp only [Nat.zero_add, Nat.reduceAdd, List.nil_append, List.cons_append] at ho)) | (go_at_call 37; (with_reducible refine (H2.out _ (LowK.lnk findLow)).mono ?_); rintro e w' ⟨rfl, hb⟩; have hl := Link.mk hb; have hs := hb.size; (try simp at hs); clear hb))
    (apply ret_one Try.results20; (conv => lhs; whnf); exact rfl)
    exact ret_ret rfl findLow
end Go.Proofs.Ytoagfpdicpcjnaa
/- A region that draws its order, by an invariant: what is known when so many operations are done, whichever they are. -/
namespace Go.Proofs.Ytoagfpdicpcjnaa
open Go.RowKit
set_option linter.unusedVariables false
set_option linter.unusedSimpArgs false
/-- What stands behind one operation. -/
structure InvEnd (o : Oper) (a : Act) (X : Act → World → Prop) (e : Exit) (a' : Act) (W' : World) : Prop where
  e1 : e = .normal
  pv : ∃ v, a' = a.put o.dst v
  nx : X a' W'
def ordB (l : List Oper) : Bool := (List.range l.length).all fun i => match l[i]? with
  | none => true
  | some o => o.after.all fun e => !Region.binds .any e || e.on < i
theorem ordB_at {l : List Oper} (h : ordB l = true) {i : Nat} {o : Oper} (hi : l[i]? = some o) : ∀ e ∈ o.after, Region.binds .any e = true → e.on < i := by
  unfold ordB at h
  have hlt : i < l.length := (List.getElem?_eq_some_iff.1 hi).1
  have h1 := List.all_eq_true.1 h i (List.mem_range.2 hlt)
  rw [hi] at h1
  intro e he hb
  have := (Array.all_eq_true_iff_forall_mem.1 h1) e he
  simpa [hb] using this
theorem region_inv {P : Program} {Q : Exit → Act → World → Prop} {l : List Oper} {a0 : Act} {w : World} {id : Nat} (F : Array Bool → Act → World → Prop) (hm : P.follows .mixedOrders = true) (hord : ordB l = true)
    (h0 : F (Array.replicate l.length false) a0 { w with drawn := w.drawn + 1 })
    (step : ∀ (S : Array Bool) (a : Act) (W : World) (i : Nat) (o : Oper), F S a W → S.size = l.length → l[i]? = some o → S.getD i false = false → (∀ e ∈ o.after, Region.binds .any e = true → S.getD e.on false = true) →
      wpList P l.toArray (fun e a' W' => InvEnd o a (F (S.setIfInBounds i true)) e a' W') [o] a W)
    (fin : ∀ (S : Array Bool) (a : Act) (W : World), F S a W → (∀ i, i < l.length → S.getD i false = true) → Q .normal a W) : (Code.region id l.toArray true).wp P Q a0 w := by
  refine wp_region_any hm ?_
  have key : ∀ (fuel : Nat) (S : Array Bool) (a : Act) (W : World), F S a W → S.size = l.length → (List.range l.length).countP (fun i => !S.getD i true) ≤ fuel → wpAny P .any l.toArray Q fuel S a W := by
    intro fuel
    induction fuel with
    | zero =>
      intro S a W hF hS hc
      have hall : ∀ i, i < l.length → S.getD i false = true := fun i hi => by
        have h0 : (List.range l.length).countP (fun i => !S.getD i true) = 0 := by omega
        rw [List.countP_eq_zero] at h0
        have := h0 i (List.mem_range.2 hi)
        have hi' : i < S.size := by rw [hS]; exact hi
        simpa [hi'] using this
      refine ⟨?_, fin S a W hF hall⟩
      rw [List.eq_nil_iff_forall_not_mem]
      intro k hk
      obtain ⟨o, _, hkl, hk0, _⟩ := ready_mem hk hS
      have := hall k hkl
      have hk' : k < S.size := by rw [hS]; exact hkl
      simp [hk'] at hk0 this
      rw [this] at hk0; cases hk0
    | succ fuel ih =>
      intro S a W hF hS hc
      refine ⟨fun hr0 => ?_, fun i hi => ?_⟩
      · refine fin S a W hF ?_
        intro i
        induction i using Nat.strongRecOn with
        | _ i ih2 =>
          intro hi
          cases hb : S.getD i false with
          | true => rfl
          | false =>
            exfalso
            have ho : l[i]? = some l[i] := List.getElem?_eq_getElem hi
            have hmem : i ∈ Region.ready .any l.toArray S := by
              rw [mem_ready]
              refine ⟨?_, l[i], by simp, fun e he hbd => ?_⟩
              · have : i < S.size := by omega
                simp [this] at hb ⊢; exact hb
              · exact ih2 e.on (ordB_at hord ho e he hbd) (by have := ordB_at hord ho e he hbd; omega)
            rw [hr0] at hmem; cases hmem
      · obtain ⟨o, hio, hil, hi0, hal⟩ := ready_mem hi hS
        have hil' : i < S.size := by rw [hS]; exact hil
        have ho : l.toArray[i]? = some o := by simpa using hio
        have hi0f : S.getD i false = false := by simpa [hil'] using hi0
        have hcnt : (List.range l.length).countP (fun j => !(S.setIfInBounds i true).getD j true) ≤ fuel := by
          have := count_lt (fun j => !S.getD j true) (fun j => !(S.setIfInBounds i true).getD j true) (fun j hj => by
              by_cases e : i = j
              · subst e; simp [hil'] at hj
              · rw [getD_set_ne true e] at hj; exact hj) i (by simpa [hil'] using hi0) (by simp [hil']) (List.range l.length) (List.mem_range.2 hil)
          omega
        have hone := step S a W i o hF hS hio hi0f hal
        unfold wpList at hone
        unfold wpOp
        simp only [ho]
        by_cases hw : Region.wanted o (yielded l.toArray a.tmps) = true
        · rw [if_pos hw] at hone
          rw [if_pos hw]
          have hwp := hone.resolve_right (fun ⟨_, a1, w1, h1⟩ => by cases h1.1)
          refine .inl (Oper.wp_mono (fun a' W' h => ?_) (wp_other (Q := Q) rfl (fun e a w h => h.e1) (fun a' w' h => h.pv) hwp))
          obtain ⟨v, rfl, h2⟩ := h
          exact ih _ _ _ h2.nx (by simpa using hS) hcnt
        · rw [if_neg hw] at hone
          rw [if_neg hw]
          exact ih _ _ _ hone.nx (by simpa using hS) hcnt
  refine key _ _ _ _ h0 (by simp) ?_
  have : (List.range l.length).countP (fun i => !(Array.replicate l.length false).getD i true) ≤ l.length := Nat.le_trans List.countP_le_length (by simp)
  simpa using this
end Go.Proofs.Ytoagfpdicpcjnaa
/- Walks over Go maps keyed by maps: the operations. -- maps -/
namespace Go.Proofs.Ytoagfpdicpcjnaa
open Go.RowKit
set_option linter.unusedVariables false
set_option linter.unusedSimpArgs false
/-- The world is the same but for one block. -/
structure TurnK (g : Nat) (w W : World) : Prop where
  out : W.heap.size = w.heap.size ∧ (∀ b, b ≠ g → W.heap[b]? = w.heap[b]?) ∧ W.os = w.os ∧ W.tape = w.tape ∧ W.output = w.output
theorem LowK.turn {w0 w W : World} {g : Nat} (t : TurnK g w W) (hg : w0.heap.size ≤ g) (h : LowK w0 w) : LowK w0 W := by
  obtain ⟨h1, h2, h3, h4, h5⟩ := t.out
  exact ⟨⟨h3.trans h.out.os, h4.trans h.out.tape, h5.trans h.out.output, by rw [h1]; exact h.out.size, fun k hk => (h2 k (by omega)).trans (h.out.block k hk)⟩⟩
theorem OwnK.turn {w W : World} {g B n sz : Nat} {T : TypeId} {v : Value} {xs : List Value} {L : List M9} (t : TurnK g w W) (hM : GoMapK w g L) (h : OwnK w B T sz v n xs) : OwnK W B T sz v n xs := by
  refine ⟨own_same h.out fun b hb => t.out.2.1 b (fun e => ?_)⟩
  subst e
  obtain ⟨es, cl, h1, -⟩ := hM.out
  rcases h.out.2 with ⟨rfl, _⟩ | ⟨g2, cap, cur, rfl, _, h2, _⟩
  · simp [Value.ownBlock] at hb
  · simp [Value.ownBlock] at hb
    subst hb
    rw [h1] at h2; cases h2
theorem RowK.turn {w W : World} {g b : Nat} {cs : Array Value} {T : TypeId} {L : List M9} (t : TurnK g w W) (hM : GoMapK w g L) (h : RowK w b cs T) : RowK W b cs T := by
  refine ⟨(t.out.2.1 b (fun e => ?_)).trans h.out⟩
  subst e
  obtain ⟨es, cl, h1, -⟩ := hM.out
  have h2 := h.out
  rw [h1] at h2; cases h2
theorem GoMapK.alloc {W : World} {g : Nat} {L : List M9} (h : GoMapK W g L) (ob : Obj) : GoMapK (W.alloc ob) g L := h.blk ((bal (Below.refl _ _) ob : Below W.heap.size W (W.alloc ob)).block _ h.lt)
theorem GoMapK.new (W : World) : GoMapK (W.alloc (.map #[] 0)) W.heap.size [] := ⟨#[], 0, heap_alloc_new _ _, rfl, by simp⟩
theorem GoMapK.set {W : World} {g b : Nat} {U : Array Value} {L : List M9} (h : GoMapK W g L) (hne : g ≠ b) : GoMapK (W.setRow b U) g L := h.blk (setRow_other _ _ _ _ hne)
theorem GoMapK.grew {w W : World} {u : Value} {g B n sz : Nat} {T : TypeId} {xs : List Value} {L : List M9} (hg : Grew w u W) (hO : OwnK w B T sz u n xs) (h : GoMapK w g L) : GoMapK W g L := by
  refine h.blk (hg.out.block g h.lt (fun e => ?_))
  obtain ⟨es, cl, h1, -⟩ := h.out
  rcases hO.out.2 with ⟨rfl, _⟩ | ⟨g2, cap, cur, rfl, _, h2, _⟩
  · simp [Value.ownBlock] at e
  · simp [Value.ownBlock] at e
    subst e
    rw [h1] at h2; cases h2
section
variable {ops : Array Oper} {rest : List Oper} {o : Oper} {a : Act} {w : World} {Q : Exit → Act → World → Prop} {x y z : Operand} {g : Nat} {L : List M9} {t : M9}
theorem wl_mapNew (h : wpList Try.prog ops Q rest (a.put o.dst (.map (some w.heap.size))) (w.alloc (.map #[] 0))) (hgd : o.guard = none := by exact rfl) (ho : o.op = .makeMap 49 none := by exact rfl) : wpList Try.prog ops Q (o :: rest) a w := by
  refine wpList_plain hgd fun K hK' => ?_
  unfold Oper.wp execOp
  simp only [ho, Option.map_none, Sem.run_bind, run_makeMap, Result.andThen_ok]
  exact hK' _ _ h
theorem wl_mapLook (v : Bool) (h : wpList Try.prog ops Q rest (a.put o.dst (.bool v)) w) (hgd : o.guard = none := by exact rfl) (ho : o.op = .lookup 49 x y false := by exact rfl) (hx : a.eval x = .map (some g) := by exact rfl) (hy : a.eval y = mV t := by exact rfl)
    (hM : GoMapK w g L) (hv : decide (t ∈ L) = v) : wpList Try.prog ops Q (o :: rest) a w := by
  refine wpList_plain hgd fun K hK' => ?_
  unfold Oper.wp execOp
  simp only [ho, hx, hy, Sem.run_bind, lookup_M g L t w hM, Result.andThen_ok, hv]
  exact hK' _ _ h
theorem wl_mapUpd (h : ∀ W', GoMapK W' g (L ++ [t]) → TurnK g w W' → wpList Try.prog ops Q rest a W') (hM : GoMapK w g L) (ht : t ∉ L) (hgd : o.guard = none := by exact rfl) (ho : o.op = .mapUpdate 49 x y z ∨ o.op = .insert 49 x y z) (hd : o.dst = none := by exact rfl)
    (hx : a.eval x = .map (some g) := by exact rfl) (hy : a.eval y = mV t := by exact rfl) (hz : a.eval z = .bool true := by exact rfl) : wpList Try.prog ops Q (o :: rest) a w := by
  obtain ⟨W', hr, h1, h2, h3, h4, h5, h6⟩ := mapUpdate_M g L t w hM ht
  refine wpList_plain hgd fun K hK' => ?_
  have hK := hK' _ _ (h W' h1 ⟨h2, h3, h4, h5, h6⟩)
  unfold Oper.wp execOp
  rcases ho with ho | ho
  · simp only [ho, hx, hy, hz, Sem.run_bind, hr, Result.andThen_ok]
    simp only [Oper.upon, Sem.run_pure, hd]
    exact hK
  · simp only [ho, hx, hy, hz, Sem.run_bind, hr, Result.andThen_ok]
    simp only [Oper.upon, Sem.run_pure, hd]
    exact hK
end
theorem unit_M (w : World) : Calls Try.prog 26 #[] w (Ret w (mV oneM)) := unit_impl w
theorem unit_S (w : World) : Calls Try.prog 21 #[] w (Ret w (mV oneM)) := unit_spec w
theorem times_M {p : Int} {x y z : M9} (w : World) (hz : timesM p x y = z) (hp : prB p = true) (hx : InM x) (hy : InM y) : Calls Try.prog 27 #[.int .i64 p, mV x, mV y] w (Ret w (mV z)) := by rw [← hz]; exact times_any p x y w hp hx hy
theorem times_S {p : Int} {x y z : M9} (w : World) (hz : timesM p x y = z) (hp : prB p = true) (hx : InM x) (hy : InM y) : Calls Try.prog 22 #[.int .i64 p, mV x, mV y] w (Ret w (mV z)) := by rw [← hz]; exact l02Times_any p x y w hp hx hy
theorem with_act {P : Program} {C : Code} {Q : Exit → Act → World → Prop} {a : Act} {w : World} (h : ∀ a0, a0 = a → C.wp P Q a0 w) : C.wp P Q a w := h a rfl
theorem getD_set_ne2 {S : Array Bool} {i j : Nat} (hij : i ≠ j) : (S.setIfInBounds i true).getD j false = S.getD j false := by
  rw [Array.getD_eq_getD_getElem?, Array.getD_eq_getD_getElem?, Array.getElem?_setIfInBounds_ne hij]
/-- An operation is done, is not done. -/
structure On (S : Array Bool) (j : Nat) : Prop where
  out : S.getD j false = true
structure Of (S : Array Bool) (j : Nat) : Prop where
  out : S.getD j false = false
theorem On.back {S : Array Bool} {i j : Nat} (hij : i ≠ j) (h : On (S.setIfInBounds i true) j) : On S j := ⟨by have := h.out; rwa [getD_set_ne2 hij] at this⟩
theorem Of.fwd {S : Array Bool} {i j : Nat} (hij : i ≠ j) (h : Of (S.setIfInBounds i true) j) : Of S j := ⟨by have := h.out; rwa [getD_set_ne2 hij] at this⟩
theorem On.on {S : Array Bool} {i j : Nat} (h : On S j) : On (S.setIfInBounds i true) j := by
  refine ⟨?_⟩
  by_cases e : i = j
  · subst e
    by_cases hi : i < S.size
    · rw [getD_set _ _ _ hi, if_pos rfl]
    · rw [Array.setIfInBounds_eq_of_size_le (by omega)]; exact h.out
  · rw [getD_set_ne2 e]; exact h.out
theorem Of.no {S : Array Bool} {i n : Nat} (hS : S.size = n) (hi : i < n) (h : Of (S.setIfInBounds i true) i) : False := by
  have := h.out
  rw [getD_set _ _ _ (by omega), if_pos rfl] at this; cases this
theorem On.of {S : Array Bool} {j : Nat} (h : On S j) (h2 : Of S j) : False := by
  have h1 := h.out
  rw [h2.out] at h1; cases h1
theorem On.none {n j : Nat} (h : On (Array.replicate n false) j) : False := by
  have := h.out
  rw [rep_false] at this; cases this
theorem pre_on {o : Oper} {k : Nat} {S : Array Bool} (h : bindsTo o k = true) (hpre : ∀ e ∈ o.after, Region.binds .any e = true → S.getD e.on false = true) : On S k := by
  obtain ⟨e, he, hb, hon⟩ := bindsTo_spec h
  exact ⟨by rw [← hon]; exact hpre e he hb⟩
end Go.Proofs.Ytoagfpdicpcjnaa
/- Small things for the walks over a group. -- maps -/
namespace Go.Proofs.Ytoagfpdicpcjnaa
open Go.RowKit
set_option linter.unusedVariables false
set_option linter.unusedSimpArgs false
theorem OwnK.oneM {W : World} {B g : Nat} {T : TypeId} {t : M9} (h : RowK W g (mC t) T) (hB : B ≤ g) : OwnK W B T 9 (.slice (some ⟨g, 0, none⟩) 1 1) 1 (mCs [t]) :=
  ⟨⟨by simp [mCs, mC], .inr ⟨g, 1, mC t, rfl, hB, h.out, by omega, by first | exact mC_one t | decide, rfl, by simp [mCs, mC]⟩⟩⟩
def OutA (p : Int) (ms : List M9) (r e : Int) : Prop := (∃ K, GoodA p ms K ∧ (seqA p ms K).length = K ∧ r = (K : Int) ∧ e = 0) ∨ (∃ I, GoodA p ms I ∧ I < (seqA p ms I).length ∧ 200 < (seqA p ms (I + 1)).length ∧ r = 0 ∧ e = 3)
theorem OutA.limit {p : Int} {ms : List M9} {r e : Int} (h : OutA p ms r e) {i : Nat} (hg : GoodA p ms i) (hi : i < (seqA p ms i).length) (hl : 200 < (seqA p ms (i + 1)).length) : r = 0 ∧ e = 3 := by
  rcases h with ⟨K, hK, hk, -, -⟩ | ⟨_, _, _, _, hr, he⟩
  · exfalso
    rcases Nat.lt_trichotomy i K with h1 | h1 | h1
    · have := (hK i h1).2; omega
    · subst h1; omega
    · have := (hg K h1).1; omega
  · exact ⟨hr, he⟩
theorem OutA.whole {p : Int} {ms : List M9} {r e : Int} (h : OutA p ms r e) {i : Nat} (hg : GoodA p ms i) (hi : (seqA p ms i).length = i) : r = (i : Int) ∧ e = 0 := by
  rcases h with ⟨K, hK, hk, hr, he⟩ | ⟨I, hI, h2, h3, _, _⟩
  · rcases Nat.lt_trichotomy i K with h1 | h1 | h1
    · have := (hK i h1).1; omega
    · subst h1; exact ⟨hr, he⟩
    · have := (hg K h1).1; omega
  · exfalso
    rcases Nat.lt_trichotomy i I with h1 | h1 | h1
    · have := (hI i h1).1; omega
    · subst h1; omega
    · have := (hg I h1).2; omega
theorem innA_at {p : Int} {ms A : List M9} {x : M9} {i : Nat} (hi : i < A.length) (k : Nat) : (innA p ms A x k).getD i m0 = A.getD i m0 := pre_at (innA_pre p ms A x k) hi
theorem seqA_succ {p : Int} {ms A : List M9} {x : M9} {i n : Nat} (hA : seqA p ms i = A) (hx : A.getD i m0 = x) (hn : ms.length = n) : seqA p ms (i + 1) = innA p ms A x n := by
  show innA p ms (seqA p ms i) ((seqA p ms i).getD i m0) ms.length = _
  rw [hA, hx, hn]
theorem innA_succ {p : Int} {ms A : List M9} {x y t : M9} {k : Nat} (hy : ms.getD k m0 = y) (ht : timesM p x y = t) : innA p ms A x (k + 1) = if t ∈ innA p ms A x k then innA p ms A x k else innA p ms A x k ++ [t] := by
  show stepA p (innA p ms A x k) x (ms.getD k m0) = _
  rw [hy]; unfold stepA; rw [ht]
theorem seqA_pos (p : Int) (ms : List M9) : ∀ i : Nat, 0 < (seqA p ms i).length
  | 0 => Nat.zero_lt_one
  | i + 1 => Nat.lt_of_lt_of_le (seqA_pos p ms i) (innA_pre p ms (seqA p ms i) _ _).length_le
theorem Of.or {S : Array Bool} (j : Nat) : Of S j ∨ On S j := by
  cases h : S.getD j false with
  | false => exact .inl ⟨h⟩
  | true => exact .inr ⟨h⟩
theorem GoMapK.drew {W : World} {g : Nat} {L : List M9} (h : GoMapK W g L) : GoMapK W.drew g L := h.blk rfl
theorem GoMapK.set2 {W : World} {g b : Nat} {U : Array Value} {L : List M9} (hne : g ≠ b) (h : GoMapK W g L) : GoMapK (W.setRow b U) g L := h.set hne
theorem findGom {W : World} {g : Nat} {L : List M9} (h : GoMapK W g L := by repeat (first | with_reducible assumption | (apply GoMapK.link; (· with_reducible assumption)) | with_reducible apply GoMapK.alloc | with_reducible apply GoMapK.drew | ((with_reducible apply GoMapK.set2); (· first | assumption | omega | (simp; omega))))) : GoMapK W g L := h
end Go.Proofs.Ytoagfpdicpcjnaa
