/- Texts of the claim, in build order: OC1, OC3, OC2. No condition. -/
import Derived.Test.YtoagfpdicpcjnaaZAreInOneOrbit1
/- Lists of class labels in memory; all blocks but one; the operations of a walk over them. -/
namespace Go.Proofs.Ytoagfpdicpcjnaa
open Go.RowKit
set_option linter.unusedVariables false
set_option linter.unusedSimpArgs false
structure RowJ (W : World) (g cap N : Nat) (F : Nat → Int) : Prop where
  room : RoomI W g cap 3
  le : N ≤ cap
  at_ : ∀ j, j < N → W.cell? ⟨g, j, none⟩ = some (.int .i64 (F j))
section
variable {W W' : World} {g g' cap N k : Nat} {F G : Nat → Int}
theorem RowJ.blk (h : RowJ W g cap N F) (e : W'.heap[g]? = W.heap[g]?) : RowJ W' g cap N F := by
  obtain ⟨⟨cur, h1, h2⟩, h3, h4⟩ := h
  refine ⟨⟨cur, e.trans h1, h2⟩, h3, fun j hj => ?_⟩
  rw [← h4 j hj]; unfold World.cell?; rw [e]
theorem RowJ.lt (h : RowJ W g cap N F) : g < W.heap.size := h.room.lt
theorem RowJ.below (h : RowJ W g cap N F) (hb : Below W.heap.size W W') : RowJ W' g cap N F := h.blk (hb.block _ h.lt)
theorem RowJ.link (l : Link W W') (h : RowJ W g cap N F) : RowJ W' g cap N F := h.below l.out
theorem RowJ.alloc (h : RowJ W g cap N F) (o : Obj) : RowJ (W.alloc o) g cap N F := h.below (bal (Below.refl _ _) o)
theorem RowJ.set (h : RowJ W g cap N F) (hk : k < N) (x : Int) : RowJ (W.setCell ⟨g, k, none⟩ (.int .i64 x)) g cap N (fun j => if j = k then x else F j) := by
  refine ⟨h.room.set k _, h.le, fun j hj => ?_⟩
  by_cases e : j = k
  · subst e
    rw [World.cell?_setCell_same _ _ _ (h.at_ j hj)]
    simp
  · rw [World.cell?_setCell_other _ _ _ _ (fun h => e (by cases h; rfl)), h.at_ j hj]
    simp [e]
theorem RowJ.other (h : RowJ W g cap N F) (hne : g ≠ g') (k : Nat) (v : Value) : RowJ (W.setCell ⟨g', k, none⟩ v) g cap N F := h.blk (setCell_blk W hne k v)
theorem RowJ.congr (h : RowJ W g cap N F) (e : ∀ j, j < N → F j = G j) : RowJ W g cap N G := ⟨h.room, h.le, fun j hj => by rw [h.at_ j hj, e j hj]⟩
end
theorem RowJ.cell {W : World} {g cap N k : Nat} {F : Nat → Int} (h : RowJ W g cap N F) (hk : k < N) : CellK W g k (.int .i64 (F k)) := ⟨h.at_ k hk⟩
theorem RowJ.st {W : World} {g cap N k : Nat} {F : Nat → Int} (h : RowJ W g cap N F) (hk : k < N) : StK W g k := ⟨h.room.some k (Nat.lt_of_lt_of_le hk h.le), h.room.frozen k, h.lt⟩
theorem rowJ_own {W : World} {B N : Nat} {v : Value} {l : List Int} (h : OwnK W B 3 1 v N (ints l)) (hl : l.length = N) (hn : 0 < N) :
    ∃ g cap, v = .slice (some ⟨g, 0, none⟩) N cap ∧ B ≤ g ∧ RowJ W g cap N (fun j => l.getD j 0) := by
  rcases h.out.2 with ⟨_, h0⟩ | ⟨g, cap, cur, rfl, hb, hg, hle, _, hsz, htk⟩
  · omega
  · refine ⟨g, cap, rfl, hb, ⟨cur, hg, by simpa using hsz⟩, hle, fun i hi => ?_⟩
    rw [cell_of_row W g i _ _ _ hg]
    have h1 : (cur.toList.take (N * 1))[i]? = (Go.Proofs.Ytoagfpdicpcjnaa.ints l)[i]? := by rw [htk]
    rw [Nat.mul_one, List.getElem?_take_of_lt hi] at h1
    rw [← Array.getElem?_toList, h1]
    unfold Go.Proofs.Ytoagfpdicpcjnaa.ints
    have hil : i < l.length := by omega
    simp [List.getD, hil]
/-- All blocks but one are as they were. -/
structure ButK (g : Nat) (w W : World) : Prop where
  out : w.heap.size ≤ W.heap.size ∧ (∀ b, b < w.heap.size → b ≠ g → W.heap[b]? = w.heap[b]?) ∧ W.os = w.os ∧ W.tape = w.tape ∧ W.output = w.output
theorem ButK.refl (g : Nat) (w : World) : ButK g w w := ⟨Nat.le_refl _, fun _ _ _ => rfl, rfl, rfl, rfl⟩
theorem ButK.low {g : Nat} {w W W' : World} (l : LowK W W') (h : ButK g w W) : ButK g w W' := by
  obtain ⟨h1, h2, h3, h4, h5⟩ := h.out
  exact ⟨Nat.le_trans h1 l.out.size, fun b hb hne => (l.out.block b (by omega)).trans (h2 b hb hne), l.out.os.trans h3, l.out.tape.trans h4, l.out.output.trans h5⟩
theorem ButK.tr {g : Nat} {w W W' : World} (h' : ButK g W W') (h : ButK g w W) : ButK g w W' := by
  obtain ⟨h1, h2, h3, h4, h5⟩ := h.out
  obtain ⟨k1, k2, k3, k4, k5⟩ := h'.out
  exact ⟨Nat.le_trans h1 k1, fun b hb hne => (k2 b (by omega) hne).trans (h2 b hb hne), k3.trans h3, k4.trans h4, k5.trans h5⟩
theorem ButK.set {g : Nat} {w W : World} (k : Nat) (v : Value) (h : ButK g w W) : ButK g w (W.setCell ⟨g, k, none⟩ v) := by
  obtain ⟨h1, h2, h3, h4, h5⟩ := h.out
  exact ⟨by simpa [World.setCell] using h1, fun b hb hne => (setCell_blk W hne k v).trans (h2 b hb hne), h3, h4, h5⟩
theorem ButK.size {g : Nat} {w W : World} (h : ButK g w W) : w.heap.size ≤ W.heap.size := h.out.1
theorem LowK.but {g : Nat} {w0 w W : World} (h : ButK g w W) (hg : w0.heap.size ≤ g) (l : LowK w0 w) : LowK w0 W := by
  obtain ⟨h1, h2, h3, h4, h5⟩ := h.out
  exact ⟨⟨h3.trans l.out.os, h4.trans l.out.tape, h5.trans l.out.output, Nat.le_trans l.out.size h1, fun k hk => (h2 k (Nat.lt_of_lt_of_le hk l.out.size) (by omega)).trans (l.out.block k hk)⟩⟩
theorem cell_but {g : Nat} {w W : World} (h : ButK g w W) {b o : Nat} {v : Value} (hne : b ≠ g) (hc : w.cell? ⟨b, o, none⟩ = some v) : W.cell? ⟨b, o, none⟩ = some v := by
  have hb : b < w.heap.size := World.block_lt_of_cell? w _ hc
  have := h.out.2.1 b hb hne
  rw [← hc]; unfold World.cell?; rw [this]
theorem PtsK.but {g : Nat} {w W : World} (h : ButK g w W) {b o n : Nat} {L : List Pt} (hne : b ≠ g) (hP : PtsK w b o n L) : PtsK W b o n L :=
  ⟨fun i hi => ⟨cell_but h hne (hP.out i hi).1, cell_but h hne (hP.out i hi).2.1, cell_but h hne (hP.out i hi).2.2⟩⟩
theorem GoMapP.but {g : Nat} {w W : World} (h : ButK g w W) {b : Nat} {L : List Pt} (hne : b ≠ g) (hM : GoMapP w b L) : GoMapP W b L := hM.blk (h.out.2.1 b hM.lt hne)
theorem RowK.but {g : Nat} {w W : World} (h : ButK g w W) {b : Nat} {cs : Array Value} {T : TypeId} (hne : b ≠ g) (hR : RowK w b cs T) : RowK W b cs T := ⟨(h.out.2.1 b hR.lt hne).trans hR.out⟩
theorem RowJ.grew {w W : World} {u : Value} {g cap N : Nat} {F : Nat → Int} (hg : Grew w u W) (ho : Off u g) (h : RowJ w g cap N F) : RowJ W g cap N F := h.blk (hg.out.block g h.lt (fun e => ho.out e.symm))
theorem findGomP {W : World} {g : Nat} {L : List Pt} (h : GoMapP W g L := by repeat (first | with_reducible assumption | (apply GoMapP.link; (· with_reducible assumption)) | with_reducible apply GoMapP.alloc | with_reducible apply GoMapP.drew | ((with_reducible apply GoMapP.set); (· first | assumption | omega | (simp; omega))))) : GoMapP W g L := h
theorem GoMapP.set2 {W : World} {g b : Nat} {U : Array Value} {L : List Pt} (hne : g ≠ b) (h : GoMapP W g L) : GoMapP (W.setRow b U) g L := h.set hne
def upI (k : Nat) : List Int := (List.range k).map (fun j : Nat => (j : Int))
theorem upI_succ (k : Nat) : upI k ++ [(k : Int)] = upI (k + 1) := by simp [upI, List.range_succ]
theorem upI_length (k : Nat) : (upI k).length = k := by simp [upI]
theorem upI_at {k j : Nat} (h : j < k) : (upI k).getD j 0 = (j : Int) := by simp [upI, List.getD, h]
theorem take_snoc {L : List Pt} {k : Nat} {t : Pt} (hk : k < L.length) (ht : L.getD k (0, 0, 0) = t) : L.take k ++ [t] = L.take (k + 1) := by
  rw [List.getD_eq_getElem?_getD, List.getElem?_eq_getElem hk] at ht
  subst ht
  exact (List.take_succ_eq_append_getElem hk).symm
theorem take_new {L : List Pt} (hn : L.Nodup) {k : Nat} {t : Pt} (hk : k < L.length) (ht : L.getD k (0, 0, 0) = t) : t ∉ L.take k := by
  rw [List.getD_eq_getElem?_getD, List.getElem?_eq_getElem hk] at ht
  replace ht : L[k] = t := ht
  subst ht
  intro hm
  obtain ⟨i, hi, e⟩ := List.mem_take_iff_getElem.1 hm
  have h1 := hn.idxOf_getElem i (by omega)
  have h2 := hn.idxOf_getElem k hk
  rw [e] at h1
  omega
theorem GoMapP.neJ {W : World} {g gc cc N : Nat} {L : List Pt} {F : Nat → Int} (h : GoMapP W g L) (hR : RowJ W gc cc N F) : g ≠ gc := by
  rintro rfl
  obtain ⟨es, cl, h1, -⟩ := h.out
  obtain ⟨cur, h2, -⟩ := hR.room
  rw [h1] at h2; cases h2
/-- The labels behind the first q maps. -/
def clsP (n : Nat) (ms : List M9) (q : Nat) : Nat → Nat := allU (ixP n ms) (allP n).length q
theorem clsP_zero (n : Nat) (ms : List M9) (j : Nat) : clsP n ms 0 j = j := rfl
theorem clsP_succ (n : Nat) (ms : List M9) (q : Nat) : clsP n ms (q + 1) = rowU (ixP n ms q) (clsP n ms q) (allP n).length := rfl
theorem clsP_all (n : Nat) (ms : List M9) : clsP n ms ms.length = classP n ms := rfl
theorem rowU_next {ix c f : Nat → Nat} {i j a b : Nat} (hf : rowU ix c i = f) (hj : ix i = j) (ha : f i = a) (hb : f j = b) : rowU ix c (i + 1) = mrg f a b := by
  show mrg (rowU ix c i) (rowU ix c i i) (rowU ix c i (ix i)) = _
  rw [hf, hj, ha, hb]
theorem mrg_put {f : Nat → Nat} {a1 a2 mx mn j fj N : Nat} (hM : ∀ l, mrg f a1 a2 l = if f l = mx then mn else f l) (hf : f j = fj) (hm : fj = mx) {l : Nat} (hl : l < N) :
    (if l = j then (mn : Int) else ((if l < j then mrg f a1 a2 l else f l : Nat) : Int)) = ((if l < j + 1 then mrg f a1 a2 l else f l : Nat) : Int) := by
  by_cases e : l = j
  · subst e; rw [if_pos rfl, if_pos (Nat.lt_succ_self _), hM, if_pos (by omega)]
  · rw [if_neg e]
    by_cases h : l < j
    · rw [if_pos h, if_pos (by omega)]
    · rw [if_neg h, if_neg (by omega)]
theorem mrg_skip {f : Nat → Nat} {a1 a2 mx mn j fj N : Nat} (hM : ∀ l, mrg f a1 a2 l = if f l = mx then mn else f l) (hf : f j = fj) (hm : fj ≠ mx) {l : Nat} (hl : l < N) :
    ((if l < j then mrg f a1 a2 l else f l : Nat) : Int) = ((if l < j + 1 then mrg f a1 a2 l else f l : Nat) : Int) := by
  by_cases e : l = j
  · subst e; rw [if_neg (Nat.lt_irrefl _), if_pos (Nat.lt_succ_self _), hM, if_neg (by omega)]
  · by_cases h : l < j
    · rw [if_pos h, if_pos (by omega)]
    · rw [if_neg h, if_neg (by omega)]
theorem eltSp : EltK Try.prog 36 51 1 := by
  obtain ⟨i0, hi, hz0, hz1, hz2⟩ := info_parts (show (Try.prog.info? 51).map (fun i => (i.zero, i.size, i.bytes)) = some (some (.slice none 0 0), 1, 24) by kernel_rfl)
  exact ⟨Try.underlying36, i0, _, hi, hz0, hz1, rfl, by decide, by decide, by rw [hz2]; decide⟩
section
variable {ρ : Operand → Value} {ops : Array Oper} {rest : List Oper} {o : Oper} {a : Act} {w W : World} {Q : Exit → Act → World → Prop} {ty : TypeId} {x y : Operand}
theorem ld_cellJ {g k : Nat} {v : Value} (hop : o.op = .load ty x := by exact rfl) (hx : ρ x = .pointer (some ⟨g, k, none⟩) := by exact rfl)
    (hc : CellK W g k v := by first | with_reducible assumption | (with_reducible apply CellK.viaLow; (· with_reducible assumption); (· exact findLow)) | (with_reducible apply CellK.link; (· with_reducible assumption); (· with_reducible assumption)))
    (ha : ∀ W, (isAgg ty).run Try.prog W = .ok false W := by first | exact Try.isAgg3 | exact Try.isAgg51) : (execOp ρ o).run Try.prog W = .ok (.value v) W := by
  have h := hc.out
  unfold execOp
  simp only [hop, hx, Instr.loadAt, Instr.sureAddr, Sem.run_bind, Sem.run_pure, Result.andThen_ok, loadVar, ha, Bool.false_eq_true, if_false]
  rw [run_load]
  simp [h]
theorem wl_loadJ {v : Value} (hK : wpList Try.prog ops Q rest (a.put o.dst v) w) (hgd : o.guard = none := by exact rfl) (hop : o.op = .load ty x := by exact rfl)
    (hr : (execOp a.eval o).run Try.prog w = .ok (.value v) w := by exact ld_cellJ) : wpList Try.prog ops Q (o :: rest) a w := wpList_load_any w hgd ty x hop hr hK
theorem q_loadJ {G : Grow0 w} {K : Act → Prop} {v : Value} (hK : K (a.put o.dst v)) (hop : o.op = .load ty x := by exact rfl)
    (h : ∀ W, Link w W → (execOp a.eval o).run Try.prog W = .ok (.value v) W := by (intro W hl; exact ld_cellJ)) : o.quiet Try.prog a (fun w' => ∃ g : Grow w G, w' = g.W) K := q_load_any ty x hop h hK
theorem wl_storeJ {g k : Nat} {v : Value} (hK : wpList Try.prog ops Q rest a (w.setCell ⟨g, k, none⟩ v)) (hgd : o.guard = none := by exact rfl) (hop : o.op = .store ty x y := by exact rfl) (hd : o.dst = none := by exact rfl)
    (hx : a.eval x = .pointer (some ⟨g, k, none⟩) := by exact rfl) (hy : a.eval y = v := by conv => lhs; whnf)
    (hS : StK w g k := by first | with_reducible assumption | (with_reducible apply StK.viaLow; (· with_reducible assumption); (· exact findLow)) | (with_reducible apply StK.link; (· with_reducible assumption); (· with_reducible assumption)))
    (h1 : v.cells = #[v] := by exact rfl) (h2 : v.oneCell' = true := by exact rfl) (hs : ∀ W, (sizeOf ty).run Try.prog W = .ok 1 W := by exact Try.sizeOf3) : wpList Try.prog ops Q (o :: rest) a w := by
  obtain ⟨s1, s2, -⟩ := hS.out
  obtain ⟨u, hu⟩ := Option.isSome_iff_exists.1 s1
  have hr : (execOp a.eval o).run Try.prog w = .ok .skip (w.setCell ⟨g, k, none⟩ v) := by
    unfold execOp
    simp only [hop, hx, hy, Instr.storeAt, Instr.sureAddr, Sem.run_bind, Sem.run_pure, Result.andThen_ok, storeVar, hs, h1]
    have e : ((⟨g, k, none⟩ : Addr).add 0) = ⟨g, k, none⟩ := by unfold Addr.add; split <;> simp_all
    simp [storeCells, e, run_store, h2, hu, s2, go_sem]
  refine wpList_plain hgd fun K hK' => ?_
  unfold Oper.wp
  rw [hr]
  simp only [Oper.upon, hd]
  exact hK' _ _ hK
end
end Go.Proofs.Ytoagfpdicpcjnaa
/- Lists of lists of points in memory; the classes as lists. -/
namespace Go.Proofs.Ytoagfpdicpcjnaa
open Go.RowKit
set_option linter.unusedVariables false
set_option linter.unusedSimpArgs false
/-- Block, room and points of each list. -/
abbrev Row3 := Nat × Nat × List Pt
@[reducible] def slV (t : Row3) : Value := .slice (some ⟨t.1, 0, none⟩) t.2.2.length t.2.1
def tabV (T : List Row3) : List Value := T.map slV
structure TabK (W : World) (B : Nat) (T : List Row3) : Prop where
  out : (∀ t ∈ T, 0 < t.2.2.length ∧ OwnK W B 33 3 (slV t) t.2.2.length (ptCs t.2.2)) ∧ (T.map (·.1)).Nodup
theorem TabK.nil (W : World) (B : Nat) : TabK W B [] := ⟨⟨fun t ht => absurd ht (by simp), by simp⟩⟩
theorem TabK.link {W W' : World} {B : Nat} {T : List Row3} (l : Link W W') (h : TabK W B T) : TabK W' B T := ⟨⟨fun t ht => ⟨(h.out.1 t ht).1, (h.out.1 t ht).2.link l⟩, h.out.2⟩⟩
theorem own_types {W : World} {B B' sz sz' n n' : Nat} {T T' : TypeId} {v u : Value} {xs xs' : List Value} (h : OwnK W B T sz v n xs) (h' : OwnK W B' T' sz' u n' xs') (hne : T ≠ T') (b : Nat) (hb : v.ownBlock = some b) : u.ownBlock ≠ some b := by
  intro hu
  rcases h.out.2 with ⟨rfl, _⟩ | ⟨g1, c1, r1, rfl, _, h1, _⟩
  · simp [Value.ownBlock] at hb
  · rcases h'.out.2 with ⟨rfl, _⟩ | ⟨g2, c2, r2, rfl, _, h2, _⟩
    · simp [Value.ownBlock] at hu
    · simp [Value.ownBlock] at hb hu
      subst hb; subst hu
      rw [h1] at h2
      cases h2
      exact hne rfl
theorem TabK.grew {W W' : World} {B B' n : Nat} {T : List Row3} {u : Value} {xs : List Value} (hg : Grew W u W') (hO : OwnK W B' 51 1 u n xs) (h : TabK W B T) : TabK W' B T :=
  ⟨⟨fun t ht => ⟨(h.out.1 t ht).1, OwnK.grew hg (h.out.1 t ht).2 (fun b hb => own_types (h.out.1 t ht).2 hO (by decide) b hb)⟩, h.out.2⟩⟩
theorem TabK.lt {W : World} {B : Nat} {T : List Row3} (h : TabK W B T) {t : Row3} (ht : t ∈ T) : t.1 < W.heap.size := (h.out.1 t ht).2.lt t.1 rfl
theorem TabK.snoc {W : World} {B g cap : Nat} {T : List Row3} {l : List Pt} (h : TabK W B T) (hl : 0 < l.length) (hO : OwnK W B 33 3 (.slice (some ⟨g, 0, none⟩) l.length cap) l.length (ptCs l)) (hne : ∀ t ∈ T, t.1 ≠ g) : TabK W B (T ++ [(g, cap, l)]) := by
  refine ⟨⟨fun t ht => ?_, ?_⟩⟩
  · rcases List.mem_append.1 ht with ht | ht
    · exact h.out.1 t ht
    · rw [List.mem_singleton.1 ht]; exact ⟨hl, hO⟩
  · rw [List.map_append, List.nodup_append]
    refine ⟨h.out.2, by simp, fun a ha b hb => ?_⟩
    obtain ⟨t, ht, rfl⟩ := List.mem_map.1 ha
    simp at hb
    subst hb
    exact hne t ht
theorem tabV_snoc (T : List Row3) (t : Row3) : tabV T ++ [slV t] = tabV (T ++ [t]) := by simp [tabV]
theorem tabV_len (T : List Row3) : (tabV T).length = T.length := by simp [tabV]
theorem OwnK.lower {W : World} {B B' sz n : Nat} {T : TypeId} {v : Value} {xs : List Value} (hB : B' ≤ B) (h : OwnK W B T sz v n xs) : OwnK W B' T sz v n xs := by
  refine ⟨⟨h.out.1, ?_⟩⟩
  rcases h.out.2 with ⟨a, b⟩ | ⟨g, c, r, h1, h2, h3⟩
  · exact .inl ⟨a, b⟩
  · exact .inr ⟨g, c, r, h1, Nat.le_trans hB h2, h3⟩
theorem TabK.lower {W : World} {B B' : Nat} {T : List Row3} (hB : B' ≤ B) (h : TabK W B T) : TabK W B' T := ⟨⟨fun t ht => ⟨(h.out.1 t ht).1, OwnK.lower hB (h.out.1 t ht).2⟩, h.out.2⟩⟩
theorem OwnK.form {W : World} {B sz n : Nat} {T : TypeId} {v : Value} {xs : List Value} (h : OwnK W B T sz v n xs) : ∃ b cap, v = .slice b n cap := by
  rcases h.out.2 with ⟨rfl, rfl⟩ | ⟨g, c, r, rfl, _⟩
  · exact ⟨_, _, rfl⟩
  · exact ⟨_, _, rfl⟩
/-- The points of a class. -/
def filtP (cls : Nat → Nat) (L : List Pt) (i : Nat) : Nat → List Pt
  | 0 => []
  | k + 1 => if cls k = i then filtP cls L i k ++ [L.getD k p0] else filtP cls L i k
theorem filtP_yes {cls : Nat → Nat} {L : List Pt} {i k : Nat} {t : Pt} (h : cls k = i) (ht : L.getD k p0 = t) : filtP cls L i (k + 1) = filtP cls L i k ++ [t] := by rw [← ht]; exact if_pos h
theorem filtP_no {cls : Nat → Nat} {L : List Pt} {i k : Nat} (h : ¬ cls k = i) : filtP cls L i (k + 1) = filtP cls L i k := if_neg h
theorem filtP_len (cls : Nat → Nat) (L : List Pt) (i : Nat) : ∀ k, (filtP cls L i k).length ≤ k
  | 0 => Nat.le_refl _
  | k + 1 => by
    have := filtP_len cls L i k
    by_cases h : cls k = i
    · rw [filtP_yes h rfl, List.length_append]; show _ + 1 ≤ _; omega
    · rw [filtP_no h]; omega
theorem filtP_mem {cls : Nat → Nat} {L : List Pt} {i : Nat} {t : Pt} : ∀ {k}, t ∈ filtP cls L i k ↔ ∃ q, q < k ∧ cls q = i ∧ L.getD q p0 = t
  | 0 => by simp [filtP]
  | k + 1 => by
    by_cases h : cls k = i
    · rw [filtP_yes h rfl, List.mem_append, filtP_mem, List.mem_singleton]
      constructor
      · rintro (⟨q, h1, h2⟩ | rfl)
        · exact ⟨q, by omega, h2⟩
        · exact ⟨k, by omega, h, rfl⟩
      · rintro ⟨q, h1, h2, h3⟩
        by_cases e : q = k
        · subst e; exact .inr h3.symm
        · exact .inl ⟨q, by omega, h2, h3⟩
    · rw [filtP_no h, filtP_mem]
      constructor
      · rintro ⟨q, h1, h2⟩; exact ⟨q, by omega, h2⟩
      · rintro ⟨q, h1, h2, h3⟩
        refine ⟨q, ?_, h2, h3⟩
        by_cases e : q = k
        · subst e; exact absurd h2 h
        · omega
def tabL (cls : Nat → Nat) (L : List Pt) (N : Nat) : Nat → List (List Pt)
  | 0 => []
  | i + 1 => if 0 < (filtP cls L i N).length then tabL cls L N i ++ [filtP cls L i N] else tabL cls L N i
theorem tabL_yes {cls : Nat → Nat} {L : List Pt} {N i : Nat} {l : List Pt} (hl : filtP cls L i N = l) (h : 0 < l.length) : tabL cls L N (i + 1) = tabL cls L N i ++ [l] := by rw [← hl]; exact if_pos (by rw [hl]; exact h)
theorem tabL_no {cls : Nat → Nat} {L : List Pt} {N i : Nat} {l : List Pt} (hl : filtP cls L i N = l) (h : ¬ 0 < l.length) : tabL cls L N (i + 1) = tabL cls L N i := if_neg (by rw [hl]; exact h)
theorem tabL_len (cls : Nat → Nat) (L : List Pt) (N : Nat) : ∀ i, (tabL cls L N i).length ≤ i
  | 0 => Nat.le_refl _
  | i + 1 => by
    have := tabL_len cls L N i
    by_cases h : 0 < (filtP cls L i N).length
    · rw [tabL_yes rfl h, List.length_append]; show _ + 1 ≤ _; omega
    · rw [tabL_no rfl h]; omega
/-- The result: the classes' lists, each in a block of its own. -/
def OrbsPost (w : World) (Ls : List (List Pt)) : Ending → World → Prop := fun e w' => ∃ v T, e = .returned v ∧ T.map (·.2.2) = Ls ∧ TabK w' w.heap.size T ∧ OwnK w' w.heap.size 51 1 v T.length (tabV T) ∧ LowK w w'
end Go.Proofs.Ytoagfpdicpcjnaa
/- Contracts: the program's orbits. -- maps -- boxmaps -- classes -/
namespace Go.Proofs.Ytoagfpdicpcjnaa
open Go.RowKit
set_option linter.unusedVariables false
set_option linter.unusedSimpArgs false
theorem allPoints_K (n : Nat) (w : World) (h : 3 ≤ n ∧ n ≤ 13) : Calls Try.prog 49 #[.int .i64 (n : Int)] w (fun e w' => ∃ g cap, e = .returned (.slice (some ⟨g, 0, none⟩) (allP n).length cap) ∧ w.heap.size ≤ g ∧ g < w'.heap.size ∧ PtsK w' g 0 (allP n).length (allP n) ∧ LowK w w') :=
  (allPoints_any n w h).mono fun e w' hp => by
    obtain ⟨v, rfl, ho, hb⟩ := hp.out
    obtain ⟨g, cap, rfl, h1, h2, h3⟩ := OwnK.pts ⟨ho⟩ rfl (by rw [allP_length]; omega)
    exact ⟨g, cap, rfl, h1, h2, h3, ⟨hb⟩⟩
theorem image_I {p : Int} {m : M9} {a r : Pt} (w : World) (hr : imgP p m a = r) (hp : prB p = true) (hm : InM m) (ha : In13 a) : Calls Try.prog 50 #[.int .i64 p, mV m, pV a] w (Ret w (pV r)) := by rw [← hr]; exact image_any p m a w hp hm ha
set_option pp.deepTerms false
set_option pp.deepTerms.threshold 10
set_option maxRecDepth 20000 in
set_option maxHeartbeats 8000000 in
theorem orbits_I (n N : Nat) (L : List Pt) (b : Option Addr) (k c : Nat) (ms : List M9) (w : World) (h : MsOk n ms) (hk : k ≤ 8) (hms : ListM w b k ms) (hL : allP n = L) (hN : L.length = N) (hnd : L.Nodup) :
    Calls Try.prog 31 #[.int .i64 (n : Int), .slice b k c] w (OrbsPost w (tabL (classP n ms) L N N)) := by
  obtain ⟨h3, h13⟩ := h.n13
  have hml := hms.out.1
  have hN183 : N ≤ 183 := by rw [← hN, ← hL]; exact allP_len183 h13
  have hN0 : 0 < N := by rw [← hN, ← hL, allP_length]; omega
  have hL13 : ∀ a ∈ L, In13 a := by rw [← hL]; exact allP_in h13
  have HH := Lib.hid h
  have HAP := Lib.hid (fun w => allPoints_K n w h.n13)
  rw [hL, hN] at HAP
  have hp := h.pr
  have hin : ∀ m ∈ ms, InM m := fun m hm => okM_inM (h.ok m hm)
  have HND := Lib.hid hnd
  have HL := Lib.hid hL
  have HN := Lib.hid hN
  clear h hnd hL hN
  go_enter Try.func31, Try.ntmps31
  go_wp2_with (first | (refine wl_loadJ ?_) | (refine wl_load ?_) | (refine wl_loadM ?_) | (refine wl_storeJ ?_) | (refine wl_mapNewP ?_) | (refine wl_mapUpdP (L := ?_) ?_ ?_ ?_ ?_ (ho := .inl rfl); rotate_left 2; exact findGomP; assumption; assumption; intro Wm hMm hTm; have hs := hTm.out.1; (try simp at hs); (try have hOm := OwnK.turnP hTm findGomP findOwn); (try have hVm := LowK.turnP hTm (by assumption) findLow)) | (refine wl_fill1 ?_) | (refine wl_fill2 ?_) | (refine wl_storeM ?_) | (refine wl_makeM ?_; intro gm W' hgm hl hT; have hs := hl.out.size; (try simp at hs)) | (refine wl_store (h1 := mC_one _) ?_) | (refine wl_store ?_) | (refine wl_build ?_) | (refine wl_slice ?_) | (refine wl_append (he := eltSp) ?_; intro v' w' ho hg hb; have hs := hg.size; (try simp at hs)) | (refine wl_append ?_; intro v' w' ho hg hb; have hs := hg.size; (try simp at hs); (try rw [ptCs_end] at ho); (try rw [ints_end] at ho); (try simp only [Nat.zero_add, Nat.reduceAdd, List.nil_append, List.cons_append] at ho)) | (go_at_call 49; (with_reducible refine (HAP.out _).mono ?_); rintro e w' ⟨gp, cp, rfl, hgp, hgp2, hPt, hV1⟩; have hs := hV1.size) | ((with_reducible apply region_gd (id := 15)); refine region_QA (id := 15) 15 ?_; apply Exists.intro; refine ⟨fun G => ?_, fun W hl => ?_⟩; (· (simp only [List.take_succ_cons, List.take_zero]; (repeat (first | go_big_quiet_skip | (go_big_quiet_want; first | (refine q_loadJ ?_; simp only [Act.put, List.setIfInBounds_toArray, List.set_cons_zero, List.set_cons_succ]; go_big_quiet_on) | (refine q_mapLookP (L := ?_) (v := ?_) ?_ ?_ ?_ (ho := rfl); rotate_left 3; exact findGomP; exact (show RowKit.Hid _ from by assumption).out; simp only [Act.put, List.setIfInBounds_toArray, List.set_cons_zero, List.set_cons_succ]; go_big_quiet_on) | (refine q_load ?_; simp only [Act.put, List.setIfInBounds_toArray, List.set_cons_zero, List.set_cons_succ]; go_big_quiet_on) | (go_big_quiet_op; first | go_big_quiet_on)))); exact rfl)); have hs := hl.out.size; (try simp at hs); simp only [List.drop_succ_cons, List.drop_zero]))
  have hM0 : GoMapP ((w'.alloc (.map #[] 0)).alloc (.cells #[] 3)) w'.heap.size (L.take 0) := (GoMapP.new w').alloc _
  have hr0 : RowK ((w'.alloc (.map #[] 0)).alloc (.cells #[] 3)) (w'.heap.size + 1) #[] 3 := findRow
  have hO0 : OwnK ((w'.alloc (.map #[] 0)).alloc (.cells #[] 3)) w'.heap.size 3 1 (.slice (some ⟨w'.heap.size + 1, 0, none⟩) 0 0) 0 (ints (upI 0)) := OwnK.empty hr0 (by omega)
  have hV2 : LowK w' ((w'.alloc (.map #[] 0)).alloc (.cells #[] 3)) := findLow
  have hsz2 : w'.heap.size ≤ ((w'.alloc (.map #[] 0)).alloc (.cells #[] 3)).heap.size := hV2.size
  clear hr0
  generalize (w'.alloc (.map #[] 0)).alloc (.cells #[] 3) = W1 at *
  obtain ⟨B, hB⟩ : ∃ B, w'.heap.size = B := ⟨_, rfl⟩
  have hBw := Nat.le_of_eq hB
  have hBw2 := Nat.le_of_eq hB.symm
  rw [hB] at hO0 hsz2 hM0 ⊢
  generalize B + 1 = B1 at *
  go_loopw [7, 28] (fun v iv wr => ∃ q : Nat, q ≤ N ∧ iv = .int .i64 (q : Int) ∧ OwnK wr B 3 1 v q (ints (upI q)) ∧ GoMapP wr B (L.take q) ∧ LowK w' wr ∧ B ≤ wr.heap.size) (fun _ iv wr => N - (intOf iv).toNat)
  case atStart => exact ⟨0, Nat.zero_le _, rfl, hO0, hM0, findLow, (by first | omega | (simp; omega))⟩
  case round =>
    clear hO0 hM0 hV2 hsz2
    obtain ⟨q, hq, rfl, hO, hM, hV, hsz⟩ := hrel
    by_cases hlt : q < N
    · obtain ⟨t, ht⟩ : ∃ t, L.getD q (0, 0, 0) = t := ⟨_, rfl⟩
      have htn := take_new HND.out (by rw [HN.out]; exact hlt) ht
      have HT := Lib.hid (take_snoc (by rw [HN.out]; exact hlt) ht)
      have HQ : Hid (((L.take q).length : Int) = (q : Int)) := Lib.hid (by rw [List.length_take, HN.out]; omega)
      generalize L.take q = Lq at *
      have hMl := hM.lt
      have hPr := PtsK.link (LowK.lnk hV) hPt
      go_wp2_with (first | (refine wl_loadJ ?_) | (refine wl_load ?_) | (refine wl_loadM ?_) | (refine wl_storeJ ?_) | (refine wl_mapNewP ?_) | (refine wl_mapUpdP (L := ?_) ?_ ?_ ?_ ?_ (ho := .inl rfl); rotate_left 2; exact findGomP; assumption; assumption; intro Wm hMm hTm; have hs := hTm.out.1; (try simp at hs); (try have hOm := OwnK.turnP hTm findGomP findOwn); (try have hVm := LowK.turnP hTm (by assumption) findLow)) | (refine wl_fill1 ?_) | (refine wl_fill2 ?_) | (refine wl_storeM ?_) | (refine wl_makeM ?_; intro gm W' hgm hl hT; have hs := hl.out.size; (try simp at hs)) | (refine wl_store (h1 := mC_one _) ?_) | (refine wl_store ?_) | (refine wl_build ?_) | (refine wl_slice ?_) | (refine wl_append (he := eltSp) ?_; intro v' w' ho hg hb; have hs := hg.size; (try simp at hs)) | (refine wl_append ?_; intro v' w' ho hg hb; have hs := hg.size; (try simp at hs); (try rw [ptCs_end] at ho); (try rw [ints_end] at ho); (try simp only [Nat.zero_add, Nat.reduceAdd, List.nil_append, List.cons_append] at ho)) | ((with_reducible apply region_gd (id := 15)); refine region_QA (id := 15) 15 ?_; apply Exists.intro; refine ⟨fun G => ?_, fun W hl => ?_⟩; (· (simp only [List.take_succ_cons, List.take_zero]; (repeat (first | go_big_quiet_skip | (go_big_quiet_want; first | (refine q_loadJ ?_; simp only [Act.put, List.setIfInBounds_toArray, List.set_cons_zero, List.set_cons_succ]; go_big_quiet_on) | (refine q_mapLookP (L := ?_) (v := ?_) ?_ ?_ ?_ (ho := rfl); rotate_left 3; exact findGomP; exact (show RowKit.Hid _ from by assumption).out; simp only [Act.put, List.setIfInBounds_toArray, List.set_cons_zero, List.set_cons_succ]; go_big_quiet_on) | (refine q_load ?_; simp only [Act.put, List.setIfInBounds_toArray, List.set_cons_zero, List.set_cons_succ]; go_big_quiet_on) | (go_big_quiet_op; first | go_big_quiet_on)))); exact rfl)); have hs := hl.out.size; (try simp at hs); simp only [List.drop_succ_cons, List.drop_zero]))
      go_roundw
      case rel => exact ⟨q + 1, by omega, by go_num, by rw [← upI_succ]; exact ho, by rw [← HT.out]; exact (hMm.alloc _).grew hg findOwn, findLow, (by first | omega | (simp; omega))⟩
      case measure => (simp [intOf]; try omega)
    · obtain rfl : N = q := by omega
      obtain ⟨gc, cc, rfl, hgc, hR⟩ := rowJ_own hO (upI_length N) hN0
      rw [List.take_of_length_le (by rw [HN.out]; omega)] at hM
      have hR : RowJ wr gc cc N (fun j => ((clsP n ms 0 j : Nat) : Int)) := hR.congr (fun j hj => upI_at hj)
      have hneM := hM.neJ hR
      have hP0 := PtsK.link (LowK.lnk hV) hPt
      have hneP : gp ≠ gc := by omega
      have hV0 := LowK.link (LowK.lnk hV) hV1
      have hwgc : w.heap.size ≤ gc := by omega
      have HAL : Hid ((allP n).length = N) := Lib.hid (by rw [HL.out, HN.out])
      clear hO hPt hV hsz
      obtain ⟨W0, hW0⟩ : ∃ W0, W0 = wr := ⟨_, rfl⟩
      subst hW0
      go_wp2_with (first | (refine wl_loadJ ?_) | (refine wl_load ?_) | (refine wl_loadM ?_) | (refine wl_storeJ ?_) | (refine wl_mapNewP ?_) | (refine wl_mapUpdP (L := ?_) ?_ ?_ ?_ ?_ (ho := .inl rfl); rotate_left 2; exact findGomP; assumption; assumption; intro Wm hMm hTm; have hs := hTm.out.1; (try simp at hs); (try have hOm := OwnK.turnP hTm findGomP findOwn); (try have hVm := LowK.turnP hTm (by assumption) findLow)) | (refine wl_fill1 ?_) | (refine wl_fill2 ?_) | (refine wl_storeM ?_) | (refine wl_makeM ?_; intro gm W' hgm hl hT; have hs := hl.out.size; (try simp at hs)) | (refine wl_store (h1 := mC_one _) ?_) | (refine wl_store ?_) | (refine wl_build ?_) | (refine wl_slice ?_) | (refine wl_append (he := eltSp) ?_; intro v' w' ho hg hb; have hs := hg.size; (try simp at hs)) | (refine wl_append ?_; intro v' w' ho hg hb; have hs := hg.size; (try simp at hs); (try rw [ptCs_end] at ho); (try rw [ints_end] at ho); (try simp only [Nat.zero_add, Nat.reduceAdd, List.nil_append, List.cons_append] at ho)) | ((with_reducible apply region_gd (id := 15)); refine region_QA (id := 15) 15 ?_; apply Exists.intro; refine ⟨fun G => ?_, fun W hl => ?_⟩; (· (simp only [List.take_succ_cons, List.take_zero]; (repeat (first | go_big_quiet_skip | (go_big_quiet_want; first | (refine q_loadJ ?_; simp only [Act.put, List.setIfInBounds_toArray, List.set_cons_zero, List.set_cons_succ]; go_big_quiet_on) | (refine q_mapLookP (L := ?_) (v := ?_) ?_ ?_ ?_ (ho := rfl); rotate_left 3; exact findGomP; exact (show RowKit.Hid _ from by assumption).out; simp only [Act.put, List.setIfInBounds_toArray, List.set_cons_zero, List.set_cons_succ]; go_big_quiet_on) | (refine q_load ?_; simp only [Act.put, List.setIfInBounds_toArray, List.set_cons_zero, List.set_cons_succ]; go_big_quiet_on) | (go_big_quiet_op; first | go_big_quiet_on)))); exact rfl)); have hs := hl.out.size; (try simp at hs); simp only [List.drop_succ_cons, List.drop_zero]))
      go_loopw [43] (fun kv wi => ∃ q : Nat, q ≤ k ∧ kv = .int .i64 (q : Int) ∧ RowJ wi gc cc N (fun j => ((clsP n ms q j : Nat) : Int)) ∧ ButK gc W0 wi) (fun kv wi => k - (intOf kv).toNat)
      case atStart => exact ⟨0, Nat.zero_le _, rfl, hR, ButK.refl _ _⟩
      case round =>
        clear hR
        obtain ⟨q, hq, rfl, hR, hB1⟩ := hrel
        have hVi := LowK.but hB1 hwgc hV0
        by_cases hlk : q < k
        · obtain ⟨y, hy⟩ : ∃ y, ms.getD q m0 = y := ⟨_, rfl⟩
          have hyi : InM y := by rw [← hy]; exact hin _ (getM_mem (by omega))
          obtain ⟨gb, off, rfl, hma⟩ := hms.out.2 (by omega)
          have r1 : RangeK wr gb (off + q * 9) (mC y) := by rw [← hy]; exact (hma.at_ hlk).viaLow hVi
          have HY := Lib.hid hy
          clear hy
          go_wp2_with (first | (refine wl_loadJ ?_) | (refine wl_load ?_) | (refine wl_loadM ?_) | (refine wl_storeJ ?_) | (refine wl_mapNewP ?_) | (refine wl_mapUpdP (L := ?_) ?_ ?_ ?_ ?_ (ho := .inl rfl); rotate_left 2; exact findGomP; assumption; assumption; intro Wm hMm hTm; have hs := hTm.out.1; (try simp at hs); (try have hOm := OwnK.turnP hTm findGomP findOwn); (try have hVm := LowK.turnP hTm (by assumption) findLow)) | (refine wl_fill1 ?_) | (refine wl_fill2 ?_) | (refine wl_storeM ?_) | (refine wl_makeM ?_; intro gm W' hgm hl hT; have hs := hl.out.size; (try simp at hs)) | (refine wl_store (h1 := mC_one _) ?_) | (refine wl_store ?_) | (refine wl_build ?_) | (refine wl_slice ?_) | (refine wl_append (he := eltSp) ?_; intro v' w' ho hg hb; have hs := hg.size; (try simp at hs)) | (refine wl_append ?_; intro v' w' ho hg hb; have hs := hg.size; (try simp at hs); (try rw [ptCs_end] at ho); (try rw [ints_end] at ho); (try simp only [Nat.zero_add, Nat.reduceAdd, List.nil_append, List.cons_append] at ho)) | ((with_reducible apply region_gd (id := 15)); refine region_QA (id := 15) 15 ?_; apply Exists.intro; refine ⟨fun G => ?_, fun W hl => ?_⟩; (· (simp only [List.take_succ_cons, List.take_zero]; (repeat (first | go_big_quiet_skip | (go_big_quiet_want; first | (refine q_loadJ ?_; simp only [Act.put, List.setIfInBounds_toArray, List.set_cons_zero, List.set_cons_succ]; go_big_quiet_on) | (refine q_mapLookP (L := ?_) (v := ?_) ?_ ?_ ?_ (ho := rfl); rotate_left 3; exact findGomP; exact (show RowKit.Hid _ from by assumption).out; simp only [Act.put, List.setIfInBounds_toArray, List.set_cons_zero, List.set_cons_succ]; go_big_quiet_on) | (refine q_load ?_; simp only [Act.put, List.setIfInBounds_toArray, List.set_cons_zero, List.set_cons_succ]; go_big_quiet_on) | (go_big_quiet_op; first | go_big_quiet_on)))); exact rfl)); have hs := hl.out.size; (try simp at hs); simp only [List.drop_succ_cons, List.drop_zero]))
          have hbx : RowK ((wr.alloc (.cells #[.int .i64 0, .int .i64 0, .int .i64 0, .int .i64 0, .int .i64 0, .int .i64 0, .int .i64 0, .int .i64 0, .int .i64 0] 44)).setRow wr.heap.size (mC y)) wr.heap.size (mC y) 44 := findRow
          have hV2 : LowK wr ((wr.alloc (.cells #[.int .i64 0, .int .i64 0, .int .i64 0, .int .i64 0, .int .i64 0, .int .i64 0, .int .i64 0, .int .i64 0, .int .i64 0] 44)).setRow wr.heap.size (mC y)) := findLow
          obtain ⟨gx, hgx⟩ : ∃ gx, gx = wr.heap.size := ⟨_, rfl⟩
          have hgc3 : gc < wr.heap.size := hR.lt
          rw [← hgx] at hbx hgc3 ⊢
          rw [← hgx] at hV2
          generalize (wr.alloc (.cells #[.int .i64 0, .int .i64 0, .int .i64 0, .int .i64 0, .int .i64 0, .int .i64 0, .int .i64 0, .int .i64 0, .int .i64 0] 44)).setRow gx (mC y) = W2 at *
          have hR2 := RowJ.link (LowK.lnk hV2) hR
          have hB2 := ButK.low hV2 hB1
          have hgxne : gx ≠ gc := by omega
          have hpb : B ≠ gc := hneM
          clear hR hV2 hgx
          go_loopw [49] (fun iv wj => ∃ i : Nat, i ≤ N ∧ iv = .int .i64 (i : Int) ∧ RowJ wj gc cc N (fun j => ((rowU (ixP n ms q) (clsP n ms q) i j : Nat) : Int)) ∧ ButK gc W2 wj) (fun iv wj => N - (intOf iv).toNat)
          case atStart => exact ⟨0, Nat.zero_le _, rfl, hR2, ButK.refl _ _⟩
          case round =>
            clear hR2
            obtain ⟨i, hi, rfl, hR, hB3⟩ := hrel
            have hB4 := hB3.tr hB2
            have hbr := RowK.but hB3 hgxne hbx
            have hbrl := hbr.lt
            by_cases hli : i < N
            · obtain ⟨t, ht⟩ : ∃ t, L.getD i (0, 0, 0) = t := ⟨_, rfl⟩
              obtain ⟨u, hu⟩ : ∃ u, imgP n y t = u := ⟨_, rfl⟩
              obtain ⟨ix, hix⟩ : ∃ ix, ixP n ms q i = ix := ⟨_, rfl⟩
              have hpl : ix < N ∧ L.getD ix p0 = u := by
                have := ixP_at HH.out (show q < ms.length by omega) (show i < (allP n).length by rw [HAL.out]; exact hli)
                rw [HAL.out, HL.out, hix, HY.out, show L.getD i p0 = t from ht, hu] at this
                exact this
              have hul := place_of HND.out (by rw [HN.out]; exact hpl.1) hpl.2
              have ht13 : In13 t := by rw [← ht]; exact hL13 _ (getD_mem (by rw [HN.out]; exact hli))
              obtain ⟨f, hf⟩ : ∃ f, rowU (ixP n ms q) (clsP n ms q) i = f := ⟨_, rfl⟩
              obtain ⟨a1, ha1⟩ : ∃ a1, f i = a1 := ⟨_, rfl⟩
              obtain ⟨a2, ha2⟩ : ∃ a2, f ix = a2 := ⟨_, rfl⟩
              have HF := Lib.hid (rowU_next hf hix ha1 ha2)
              rw [hf] at hR
              have c1 : CellK wr gc i (.int .i64 (a1 : Int)) := by rw [← ha1]; exact hR.cell hli
              have c2 : CellK wr gc ix (.int .i64 (a2 : Int)) := by rw [← ha2]; exact hR.cell hpl.1
              have hPr := PtsK.but hB4 hneP hP0
              have hMr := GoMapP.but hB4 hneM hM
              have HU := Lib.hid hu
              have hixN := hpl.1
              have HUL := Lib.hid hul
              clear hu hpl hix hul
              by_cases he : (a1 : Int) = (a2 : Int)
              · have HE : Hid (mrg f a1 a2 = f) := Lib.hid (by rw [show a1 = a2 by omega]; exact mrg_self f a2)
                go_wp2_with (first | (refine wl_loadJ ?_) | (refine wl_load ?_) | (refine wl_loadM ?_) | (refine wl_storeJ ?_) | (refine wl_mapNewP ?_) | (refine wl_mapUpdP (L := ?_) ?_ ?_ ?_ ?_ (ho := .inl rfl); rotate_left 2; exact findGomP; assumption; assumption; intro Wm hMm hTm; have hs := hTm.out.1; (try simp at hs); (try have hOm := OwnK.turnP hTm findGomP findOwn); (try have hVm := LowK.turnP hTm (by assumption) findLow)) | (refine wl_fill1 ?_) | (refine wl_fill2 ?_) | (refine wl_storeM ?_) | (refine wl_makeM ?_; intro gm W' hgm hl hT; have hs := hl.out.size; (try simp at hs)) | (refine wl_store (h1 := mC_one _) ?_) | (refine wl_store ?_) | (refine wl_build ?_) | (refine wl_slice ?_) | (refine wl_append (he := eltSp) ?_; intro v' w' ho hg hb; have hs := hg.size; (try simp at hs)) | (refine wl_append ?_; intro v' w' ho hg hb; have hs := hg.size; (try simp at hs); (try rw [ptCs_end] at ho); (try rw [ints_end] at ho); (try simp only [Nat.zero_add, Nat.reduceAdd, List.nil_append, List.cons_append] at ho)) | (go_at_call 50; (with_reducible refine (image_I _ HU.out hp hyi ht13).mono ?_); rintro e w' ⟨rfl, hb⟩; have hl := Link.mk hb; have hs := hb.size; (try simp at hs); clear hb) | ((with_reducible apply region_gd (id := 15)); refine region_QA (id := 15) 15 ?_; apply Exists.intro; refine ⟨fun G => ?_, fun W hl => ?_⟩; (· (simp only [List.take_succ_cons, List.take_zero]; (repeat (first | go_big_quiet_skip | (go_big_quiet_want; first | (refine q_loadJ ?_; simp only [Act.put, List.setIfInBounds_toArray, List.set_cons_zero, List.set_cons_succ]; go_big_quiet_on) | (refine q_mapLookP (L := ?_) (v := ?_) ?_ ?_ ?_ (ho := rfl); rotate_left 3; exact findGomP; exact (show RowKit.Hid _ from by assumption).out; simp only [Act.put, List.setIfInBounds_toArray, List.set_cons_zero, List.set_cons_succ]; go_big_quiet_on) | (refine q_load ?_; simp only [Act.put, List.setIfInBounds_toArray, List.set_cons_zero, List.set_cons_succ]; go_big_quiet_on) | (go_big_quiet_op; first | go_big_quiet_on | (apply Exists.intro; refine ⟨fun g => ?_, ?_⟩; (· (have hl := growL g; first | (go_at_call 50; with_reducible exact grow_ret (image_I _ HU.out hp hyi ht13)))); go_big_quiet_on))))); exact rfl)); have hs := hl.out.size; (try simp at hs); simp only [List.drop_succ_cons, List.drop_zero]))
                go_roundw
                case rel => exact ⟨i + 1, by omega, by go_num, by rw [HF.out, HE.out]; exact RowJ.link (LowK.lnk findLow) hR, ButK.low findLow hB3⟩
                case measure => (simp [intOf]; try omega)
              · have hE : ((a1 : Int) == (a2 : Int)) = false := beqf he
                clear he
                go_wp2_with (first | (refine wl_loadJ ?_) | (refine wl_load ?_) | (refine wl_loadM ?_) | (refine wl_storeJ ?_) | (refine wl_mapNewP ?_) | (refine wl_mapUpdP (L := ?_) ?_ ?_ ?_ ?_ (ho := .inl rfl); rotate_left 2; exact findGomP; assumption; assumption; intro Wm hMm hTm; have hs := hTm.out.1; (try simp at hs); (try have hOm := OwnK.turnP hTm findGomP findOwn); (try have hVm := LowK.turnP hTm (by assumption) findLow)) | (refine wl_fill1 ?_) | (refine wl_fill2 ?_) | (refine wl_storeM ?_) | (refine wl_makeM ?_; intro gm W' hgm hl hT; have hs := hl.out.size; (try simp at hs)) | (refine wl_store (h1 := mC_one _) ?_) | (refine wl_store ?_) | (refine wl_build ?_) | (refine wl_slice ?_) | (refine wl_append (he := eltSp) ?_; intro v' w' ho hg hb; have hs := hg.size; (try simp at hs)) | (refine wl_append ?_; intro v' w' ho hg hb; have hs := hg.size; (try simp at hs); (try rw [ptCs_end] at ho); (try rw [ints_end] at ho); (try simp only [Nat.zero_add, Nat.reduceAdd, List.nil_append, List.cons_append] at ho)) | (go_at_call 50; (with_reducible refine (image_I _ HU.out hp hyi ht13).mono ?_); rintro e w' ⟨rfl, hb⟩; have hl := Link.mk hb; have hs := hb.size; (try simp at hs); clear hb) | ((with_reducible apply region_gd (id := 15)); refine region_QA (id := 15) 15 ?_; apply Exists.intro; refine ⟨fun G => ?_, fun W hl => ?_⟩; (· (simp only [List.take_succ_cons, List.take_zero]; (repeat (first | go_big_quiet_skip | (go_big_quiet_want; first | (refine q_loadJ ?_; simp only [Act.put, List.setIfInBounds_toArray, List.set_cons_zero, List.set_cons_succ]; go_big_quiet_on) | (refine q_mapLookP (L := ?_) (v := ?_) ?_ ?_ ?_ (ho := rfl); rotate_left 3; exact findGomP; exact (show RowKit.Hid _ from by assumption).out; simp only [Act.put, List.setIfInBounds_toArray, List.set_cons_zero, List.set_cons_succ]; go_big_quiet_on) | (refine q_load ?_; simp only [Act.put, List.setIfInBounds_toArray, List.set_cons_zero, List.set_cons_succ]; go_big_quiet_on) | (go_big_quiet_op; first | go_big_quiet_on | (apply Exists.intro; refine ⟨fun g => ?_, ?_⟩; (· (have hl := growL g; first | (go_at_call 50; with_reducible exact grow_ret (image_I _ HU.out hp hyi ht13)))); go_big_quiet_on))))); exact rfl)); have hs := hl.out.size; (try simp at hs); simp only [List.drop_succ_cons, List.drop_zero]))
                have hR4 : RowJ W gc cc N (fun j => ((f j : Nat) : Int)) := RowJ.link (LowK.lnk findLow) hR
                have hB5 : ButK gc W2 W := ButK.low findLow hB3
                clear hR c1 c2 hPr hMr hbr hl hs hf ha1 ha2
                obtain ⟨mx, hmx⟩ : ∃ mx : Nat, (if a1 < a2 then ((a2 : Nat) : Int) else ((a1 : Nat) : Int)) = (mx : Int) := ⟨if a1 < a2 then a2 else a1, by split <;> rfl⟩
                obtain ⟨mn, hmn⟩ : ∃ mn : Nat, (if a2 < a1 then ((a2 : Nat) : Int) else ((a1 : Nat) : Int)) = (mn : Int) := ⟨if a2 < a1 then a2 else a1, by split <;> rfl⟩
                have HMG : Hid (∀ l, mrg f a1 a2 l = if f l = mx then mn else f l) := Lib.hid (fun l => by
                  unfold mrg
                  rw [show max a1 a2 = mx by (split at hmx <;> omega), show min a1 a2 = mn by (split at hmn <;> omega)])
                go_loopw [72] (fun jv wk => ∃ j : Nat, j ≤ N ∧ jv = .int .i64 (j : Int) ∧ RowJ wk gc cc N (fun l => ((if l < j then mrg f a1 a2 l else f l : Nat) : Int)) ∧ ButK gc W2 wk) (fun jv wk => N - (intOf jv).toNat)
                case atStart => exact ⟨0, Nat.zero_le _, rfl, hR4.congr (fun l hl => by rw [if_neg (Nat.not_lt_zero _)]), hB5⟩
                case round =>
                  clear hR4 hB5
                  obtain ⟨j, hj, rfl, hR, hB6⟩ := hrel
                  by_cases hlj : j < N
                  · obtain ⟨fj, hfj⟩ : ∃ fj, f j = fj := ⟨_, rfl⟩
                    have c3 : CellK wr gc j (.int .i64 (fj : Int)) := by have := hR.cell hlj; rw [if_neg (Nat.lt_irrefl _), hfj] at this; exact this
                    have c4 := hR.st hlj
                    have HFJ := Lib.hid hfj
                    clear hfj
                    by_cases hfm : (fj : Int) = (mx : Int)
                    · have hq : ((fj : Int) == (mx : Int)) = true := beqt hfm
                      go_wp2_with (first | (refine wl_loadJ ?_) | (refine wl_load ?_) | (refine wl_loadM ?_) | (refine wl_storeJ ?_) | (refine wl_mapNewP ?_) | (refine wl_mapUpdP (L := ?_) ?_ ?_ ?_ ?_ (ho := .inl rfl); rotate_left 2; exact findGomP; assumption; assumption; intro Wm hMm hTm; have hs := hTm.out.1; (try simp at hs); (try have hOm := OwnK.turnP hTm findGomP findOwn); (try have hVm := LowK.turnP hTm (by assumption) findLow)) | (refine wl_fill1 ?_) | (refine wl_fill2 ?_) | (refine wl_storeM ?_) | (refine wl_makeM ?_; intro gm W' hgm hl hT; have hs := hl.out.size; (try simp at hs)) | (refine wl_store (h1 := mC_one _) ?_) | (refine wl_store ?_) | (refine wl_build ?_) | (refine wl_slice ?_) | (refine wl_append (he := eltSp) ?_; intro v' w' ho hg hb; have hs := hg.size; (try simp at hs)) | (refine wl_append ?_; intro v' w' ho hg hb; have hs := hg.size; (try simp at hs); (try rw [ptCs_end] at ho); (try rw [ints_end] at ho); (try simp only [Nat.zero_add, Nat.reduceAdd, List.nil_append, List.cons_append] at ho)) | ((with_reducible apply region_gd (id := 15)); refine region_QA (id := 15) 15 ?_; apply Exists.intro; refine ⟨fun G => ?_, fun W hl => ?_⟩; (· (simp only [List.take_succ_cons, List.take_zero]; (repeat (first | go_big_quiet_skip | (go_big_quiet_want; first | (refine q_loadJ ?_; simp only [Act.put, List.setIfInBounds_toArray, List.set_cons_zero, List.set_cons_succ]; go_big_quiet_on) | (refine q_mapLookP (L := ?_) (v := ?_) ?_ ?_ ?_ (ho := rfl); rotate_left 3; exact findGomP; exact (show RowKit.Hid _ from by assumption).out; simp only [Act.put, List.setIfInBounds_toArray, List.set_cons_zero, List.set_cons_succ]; go_big_quiet_on) | (refine q_load ?_; simp only [Act.put, List.setIfInBounds_toArray, List.set_cons_zero, List.set_cons_succ]; go_big_quiet_on) | (go_big_quiet_op; first | go_big_quiet_on)))); exact rfl)); have hs := hl.out.size; (try simp at hs); simp only [List.drop_succ_cons, List.drop_zero]))
                      go_roundw
                      case rel => exact ⟨j + 1, by omega, by go_num, (hR.set hlj _).congr (fun l hl => mrg_put HMG.out HFJ.out (by omega) hl), hB6.set _ _⟩
                      case measure => (simp [intOf]; try omega)
                    · have hq : ((fj : Int) == (mx : Int)) = false := beqf hfm
                      go_wp2_with (first | (refine wl_loadJ ?_) | (refine wl_load ?_) | (refine wl_loadM ?_) | (refine wl_storeJ ?_) | (refine wl_mapNewP ?_) | (refine wl_mapUpdP (L := ?_) ?_ ?_ ?_ ?_ (ho := .inl rfl); rotate_left 2; exact findGomP; assumption; assumption; intro Wm hMm hTm; have hs := hTm.out.1; (try simp at hs); (try have hOm := OwnK.turnP hTm findGomP findOwn); (try have hVm := LowK.turnP hTm (by assumption) findLow)) | (refine wl_fill1 ?_) | (refine wl_fill2 ?_) | (refine wl_storeM ?_) | (refine wl_makeM ?_; intro gm W' hgm hl hT; have hs := hl.out.size; (try simp at hs)) | (refine wl_store (h1 := mC_one _) ?_) | (refine wl_store ?_) | (refine wl_build ?_) | (refine wl_slice ?_) | (refine wl_append (he := eltSp) ?_; intro v' w' ho hg hb; have hs := hg.size; (try simp at hs)) | (refine wl_append ?_; intro v' w' ho hg hb; have hs := hg.size; (try simp at hs); (try rw [ptCs_end] at ho); (try rw [ints_end] at ho); (try simp only [Nat.zero_add, Nat.reduceAdd, List.nil_append, List.cons_append] at ho)) | ((with_reducible apply region_gd (id := 15)); refine region_QA (id := 15) 15 ?_; apply Exists.intro; refine ⟨fun G => ?_, fun W hl => ?_⟩; (· (simp only [List.take_succ_cons, List.take_zero]; (repeat (first | go_big_quiet_skip | (go_big_quiet_want; first | (refine q_loadJ ?_; simp only [Act.put, List.setIfInBounds_toArray, List.set_cons_zero, List.set_cons_succ]; go_big_quiet_on) | (refine q_mapLookP (L := ?_) (v := ?_) ?_ ?_ ?_ (ho := rfl); rotate_left 3; exact findGomP; exact (show RowKit.Hid _ from by assumption).out; simp only [Act.put, List.setIfInBounds_toArray, List.set_cons_zero, List.set_cons_succ]; go_big_quiet_on) | (refine q_load ?_; simp only [Act.put, List.setIfInBounds_toArray, List.set_cons_zero, List.set_cons_succ]; go_big_quiet_on) | (go_big_quiet_op; first | go_big_quiet_on)))); exact rfl)); have hs := hl.out.size; (try simp at hs); simp only [List.drop_succ_cons, List.drop_zero]))
                      go_roundw
                      case rel => exact ⟨j + 1, by omega, by go_num, hR.congr (fun l hl => mrg_skip HMG.out HFJ.out (by omega) hl), hB6⟩
                      case measure => (simp [intOf]; try omega)
                  · obtain rfl : N = j := by omega
                    have hR7 : RowJ wr gc cc N (fun l => ((mrg f a1 a2 l : Nat) : Int)) := hR.congr (fun l hl => by rw [if_pos hl])
                    clear hR
                    go_wp2_with (first | (refine wl_loadJ ?_) | (refine wl_load ?_) | (refine wl_loadM ?_) | (refine wl_storeJ ?_) | (refine wl_mapNewP ?_) | (refine wl_mapUpdP (L := ?_) ?_ ?_ ?_ ?_ (ho := .inl rfl); rotate_left 2; exact findGomP; assumption; assumption; intro Wm hMm hTm; have hs := hTm.out.1; (try simp at hs); (try have hOm := OwnK.turnP hTm findGomP findOwn); (try have hVm := LowK.turnP hTm (by assumption) findLow)) | (refine wl_fill1 ?_) | (refine wl_fill2 ?_) | (refine wl_storeM ?_) | (refine wl_makeM ?_; intro gm W' hgm hl hT; have hs := hl.out.size; (try simp at hs)) | (refine wl_store (h1 := mC_one _) ?_) | (refine wl_store ?_) | (refine wl_build ?_) | (refine wl_slice ?_) | (refine wl_append (he := eltSp) ?_; intro v' w' ho hg hb; have hs := hg.size; (try simp at hs)) | (refine wl_append ?_; intro v' w' ho hg hb; have hs := hg.size; (try simp at hs); (try rw [ptCs_end] at ho); (try rw [ints_end] at ho); (try simp only [Nat.zero_add, Nat.reduceAdd, List.nil_append, List.cons_append] at ho)) | ((with_reducible apply region_gd (id := 15)); refine region_QA (id := 15) 15 ?_; apply Exists.intro; refine ⟨fun G => ?_, fun W hl => ?_⟩; (· (simp only [List.take_succ_cons, List.take_zero]; (repeat (first | go_big_quiet_skip | (go_big_quiet_want; first | (refine q_loadJ ?_; simp only [Act.put, List.setIfInBounds_toArray, List.set_cons_zero, List.set_cons_succ]; go_big_quiet_on) | (refine q_mapLookP (L := ?_) (v := ?_) ?_ ?_ ?_ (ho := rfl); rotate_left 3; exact findGomP; exact (show RowKit.Hid _ from by assumption).out; simp only [Act.put, List.setIfInBounds_toArray, List.set_cons_zero, List.set_cons_succ]; go_big_quiet_on) | (refine q_load ?_; simp only [Act.put, List.setIfInBounds_toArray, List.set_cons_zero, List.set_cons_succ]; go_big_quiet_on) | (go_big_quiet_op; first | go_big_quiet_on)))); exact rfl)); have hs := hl.out.size; (try simp at hs); simp only [List.drop_succ_cons, List.drop_zero]))
                    go_roundw
                    case rel => exact ⟨i + 1, by omega, by go_num, by rw [HF.out]; exact hR7, hB6⟩
                    case measure => (simp [intOf]; try omega)
            · obtain rfl : N = i := by omega
              have hR7 : RowJ wr gc cc N (fun l => ((clsP n ms (q + 1) l : Nat) : Int)) := by rw [clsP_succ, HAL.out]; exact hR
              clear hR
              go_wp2_with (first | (refine wl_loadJ ?_) | (refine wl_load ?_) | (refine wl_loadM ?_) | (refine wl_storeJ ?_) | (refine wl_mapNewP ?_) | (refine wl_mapUpdP (L := ?_) ?_ ?_ ?_ ?_ (ho := .inl rfl); rotate_left 2; exact findGomP; assumption; assumption; intro Wm hMm hTm; have hs := hTm.out.1; (try simp at hs); (try have hOm := OwnK.turnP hTm findGomP findOwn); (try have hVm := LowK.turnP hTm (by assumption) findLow)) | (refine wl_fill1 ?_) | (refine wl_fill2 ?_) | (refine wl_storeM ?_) | (refine wl_makeM ?_; intro gm W' hgm hl hT; have hs := hl.out.size; (try simp at hs)) | (refine wl_store (h1 := mC_one _) ?_) | (refine wl_store ?_) | (refine wl_build ?_) | (refine wl_slice ?_) | (refine wl_append (he := eltSp) ?_; intro v' w' ho hg hb; have hs := hg.size; (try simp at hs)) | (refine wl_append ?_; intro v' w' ho hg hb; have hs := hg.size; (try simp at hs); (try rw [ptCs_end] at ho); (try rw [ints_end] at ho); (try simp only [Nat.zero_add, Nat.reduceAdd, List.nil_append, List.cons_append] at ho)) | ((with_reducible apply region_gd (id := 15)); refine region_QA (id := 15) 15 ?_; apply Exists.intro; refine ⟨fun G => ?_, fun W hl => ?_⟩; (· (simp only [List.take_succ_cons, List.take_zero]; (repeat (first | go_big_quiet_skip | (go_big_quiet_want; first | (refine q_loadJ ?_; simp only [Act.put, List.setIfInBounds_toArray, List.set_cons_zero, List.set_cons_succ]; go_big_quiet_on) | (refine q_mapLookP (L := ?_) (v := ?_) ?_ ?_ ?_ (ho := rfl); rotate_left 3; exact findGomP; exact (show RowKit.Hid _ from by assumption).out; simp only [Act.put, List.setIfInBounds_toArray, List.set_cons_zero, List.set_cons_succ]; go_big_quiet_on) | (refine q_load ?_; simp only [Act.put, List.setIfInBounds_toArray, List.set_cons_zero, List.set_cons_succ]; go_big_quiet_on) | (go_big_quiet_op; first | go_big_quiet_on)))); exact rfl)); have hs := hl.out.size; (try simp at hs); simp only [List.drop_succ_cons, List.drop_zero]))
              go_roundw
              case rel => exact ⟨q + 1, by omega, by go_num, hR7, hB4⟩
              case measure => (simp [intOf]; try omega)
        · obtain rfl : k = q := by omega
          have hPc := PtsK.but hB1 hneP hP0
          have hclk : clsP n ms k = classP n ms := by rw [← hml]; rfl
          rw [hclk] at hR
          obtain ⟨cls, hcls⟩ : ∃ cls, classP n ms = cls := ⟨_, rfl⟩
          rw [hcls] at hR ⊢
          have HCL := Lib.hid hcls
          have hB0 := hB1.size
          clear hP0 hM hcls hclk hB1
          obtain ⟨Wc, hWc⟩ : ∃ Wc, Wc = wr := ⟨_, rfl⟩
          subst hWc
          go_wp2_with (first | (refine wl_loadJ ?_) | (refine wl_load ?_) | (refine wl_loadM ?_) | (refine wl_storeJ ?_) | (refine wl_mapNewP ?_) | (refine wl_mapUpdP (L := ?_) ?_ ?_ ?_ ?_ (ho := .inl rfl); rotate_left 2; exact findGomP; assumption; assumption; intro Wm hMm hTm; have hs := hTm.out.1; (try simp at hs); (try have hOm := OwnK.turnP hTm findGomP findOwn); (try have hVm := LowK.turnP hTm (by assumption) findLow)) | (refine wl_fill1 ?_) | (refine wl_fill2 ?_) | (refine wl_storeM ?_) | (refine wl_makeM ?_; intro gm W' hgm hl hT; have hs := hl.out.size; (try simp at hs)) | (refine wl_store (h1 := mC_one _) ?_) | (refine wl_store ?_) | (refine wl_build ?_) | (refine wl_slice ?_) | (refine wl_append (he := eltSp) ?_; intro v' w' ho hg hb; have hs := hg.size; (try simp at hs)) | (refine wl_append ?_; intro v' w' ho hg hb; have hs := hg.size; (try simp at hs); (try rw [ptCs_end] at ho); (try rw [ints_end] at ho); (try simp only [Nat.zero_add, Nat.reduceAdd, List.nil_append, List.cons_append] at ho)) | ((with_reducible apply region_gd (id := 15)); refine region_QA (id := 15) 15 ?_; apply Exists.intro; refine ⟨fun G => ?_, fun W hl => ?_⟩; (· (simp only [List.take_succ_cons, List.take_zero]; (repeat (first | go_big_quiet_skip | (go_big_quiet_want; first | (refine q_loadJ ?_; simp only [Act.put, List.setIfInBounds_toArray, List.set_cons_zero, List.set_cons_succ]; go_big_quiet_on) | (refine q_mapLookP (L := ?_) (v := ?_) ?_ ?_ ?_ (ho := rfl); rotate_left 3; exact findGomP; exact (show RowKit.Hid _ from by assumption).out; simp only [Act.put, List.setIfInBounds_toArray, List.set_cons_zero, List.set_cons_succ]; go_big_quiet_on) | (refine q_load ?_; simp only [Act.put, List.setIfInBounds_toArray, List.set_cons_zero, List.set_cons_succ]; go_big_quiet_on) | (go_big_quiet_op; first | go_big_quiet_on)))); exact rfl)); have hs := hl.out.size; (try simp at hs); simp only [List.drop_succ_cons, List.drop_zero]))
          have hr0 : RowK (Wc.alloc (.cells #[] 51)) Wc.heap.size #[] 51 := findRow
          have hO0 : OwnK (Wc.alloc (.cells #[] 51)) Wc.heap.size 51 1 (.slice (some ⟨Wc.heap.size, 0, none⟩) 0 0) 0 (tabV []) := OwnK.empty hr0 (Nat.le_refl _)
          have hV2 : LowK Wc (Wc.alloc (.cells #[] 51)) := findLow
          have hT0 : TabK (Wc.alloc (.cells #[] 51)) Wc.heap.size [] := TabK.nil _ _
          have hsz2 : Wc.heap.size ≤ (Wc.alloc (.cells #[] 51)).heap.size := hV2.size
          clear hr0
          generalize Wc.alloc (.cells #[] 51) = W2 at *
          obtain ⟨B2, hB2⟩ : ∃ B2, Wc.heap.size = B2 := ⟨_, rfl⟩
          have hBc := Nat.le_of_eq hB2
          have hBc2 := Nat.le_of_eq hB2.symm
          rw [hB2] at hO0 hsz2 hT0
          rw [hB2]
          obtain ⟨gz, hgz⟩ : ∃ gz, gz = B2 := ⟨_, rfl⟩
          clear hB2
          go_loopw [17, 95] (fun v iv wr => ∃ (i : Nat) (T : List Row3), i ≤ N ∧ iv = .int .i64 (i : Int) ∧ T.map (·.2.2) = tabL cls L N i ∧ TabK wr B2 T ∧ OwnK wr B2 51 1 v T.length (tabV T) ∧ LowK Wc wr ∧ B2 ≤ wr.heap.size) (fun _ iv wr => N - (intOf iv).toNat)
          case atStart => exact ⟨0, [], Nat.zero_le _, rfl, rfl, hT0, hO0, findLow, (by first | omega | (simp; omega))⟩
          case round =>
            clear hO0 hT0 hV2 hsz2
            obtain ⟨i, T, hi, rfl, hTL, hT, hO, hV, hsz⟩ := hrel
            have hTn : T.length ≤ i := by have := congrArg List.length hTL; rw [List.length_map] at this; rw [this]; exact tabL_len cls L N i
            by_cases hli : i < N
            · obtain ⟨W4, hW4⟩ : ∃ W4, W4 = wr := ⟨_, rfl⟩
              subst hW4
              go_wp2_with (first | (refine wl_loadJ ?_) | (refine wl_load ?_) | (refine wl_loadM ?_) | (refine wl_storeJ ?_) | (refine wl_mapNewP ?_) | (refine wl_mapUpdP (L := ?_) ?_ ?_ ?_ ?_ (ho := .inl rfl); rotate_left 2; exact findGomP; assumption; assumption; intro Wm hMm hTm; have hs := hTm.out.1; (try simp at hs); (try have hOm := OwnK.turnP hTm findGomP findOwn); (try have hVm := LowK.turnP hTm (by assumption) findLow)) | (refine wl_fill1 ?_) | (refine wl_fill2 ?_) | (refine wl_storeM ?_) | (refine wl_makeM ?_; intro gm W' hgm hl hT; have hs := hl.out.size; (try simp at hs)) | (refine wl_store (h1 := mC_one _) ?_) | (refine wl_store ?_) | (refine wl_build ?_) | (refine wl_slice ?_) | (refine wl_append (he := eltSp) ?_; intro v' w' ho hg hb; have hs := hg.size; (try simp at hs)) | (refine wl_append ?_; intro v' w' ho hg hb; have hs := hg.size; (try simp at hs); (try rw [ptCs_end] at ho); (try rw [ints_end] at ho); (try simp only [Nat.zero_add, Nat.reduceAdd, List.nil_append, List.cons_append] at ho)) | ((with_reducible apply region_gd (id := 15)); refine region_QA (id := 15) 15 ?_; apply Exists.intro; refine ⟨fun G => ?_, fun W hl => ?_⟩; (· (simp only [List.take_succ_cons, List.take_zero]; (repeat (first | go_big_quiet_skip | (go_big_quiet_want; first | (refine q_loadJ ?_; simp only [Act.put, List.setIfInBounds_toArray, List.set_cons_zero, List.set_cons_succ]; go_big_quiet_on) | (refine q_mapLookP (L := ?_) (v := ?_) ?_ ?_ ?_ (ho := rfl); rotate_left 3; exact findGomP; exact (show RowKit.Hid _ from by assumption).out; simp only [Act.put, List.setIfInBounds_toArray, List.set_cons_zero, List.set_cons_succ]; go_big_quiet_on) | (refine q_load ?_; simp only [Act.put, List.setIfInBounds_toArray, List.set_cons_zero, List.set_cons_succ]; go_big_quiet_on) | (go_big_quiet_op; first | go_big_quiet_on)))); exact rfl)); have hs := hl.out.size; (try simp at hs); simp only [List.drop_succ_cons, List.drop_zero]))
              have hr0 : RowK (W4.alloc (.cells #[] 33)) W4.heap.size #[] 33 := findRow
              have hO5 : OwnK (W4.alloc (.cells #[] 33)) W4.heap.size 33 3 (.slice (some ⟨W4.heap.size, 0, none⟩) 0 0) (filtP cls L i 0).length (ptCs (filtP cls L i 0)) := OwnK.empty hr0 (Nat.le_refl _)
              have hV5 : LowK W4 (W4.alloc (.cells #[] 33)) := findLow
              have hsz5 : W4.heap.size ≤ (W4.alloc (.cells #[] 33)).heap.size := hV5.size
              clear hr0
              generalize W4.alloc (.cells #[] 33) = W5 at *
              obtain ⟨B4, hB4⟩ : ∃ B4, W4.heap.size = B4 := ⟨_, rfl⟩
              have hBd := Nat.le_of_eq hB4
              have hBd2 := Nat.le_of_eq hB4.symm
              rw [hB4] at hO5 hsz5 ⊢
              obtain ⟨gy, hgy⟩ : ∃ gy, gy = B4 := ⟨_, rfl⟩
              clear hB4
              go_loopw [19, 101] (fun v kv wl => ∃ q : Nat, q ≤ N ∧ kv = .int .i64 (q : Int) ∧ OwnK wl B4 33 3 v (filtP cls L i q).length (ptCs (filtP cls L i q)) ∧ LowK W4 wl ∧ B4 ≤ wl.heap.size) (fun _ kv wl => N - (intOf kv).toNat)
              case atStart => exact ⟨0, Nat.zero_le _, rfl, hO5, findLow, (by first | omega | (simp; omega))⟩
              case round =>
                clear hO5 hV5 hsz5
                obtain ⟨q, hq, rfl, hO5, hV5, hsz5⟩ := hrel
                have hfl := filtP_len cls L i q
                have hVc := LowK.link (LowK.lnk hV5) hV
                by_cases hlq : q < N
                · obtain ⟨t, ht⟩ : ∃ t, L.getD q (0, 0, 0) = t := ⟨_, rfl⟩
                  obtain ⟨cq, hcq⟩ : ∃ cq, cls q = cq := ⟨_, rfl⟩
                  have c1 : CellK wr gc q (.int .i64 (cq : Int)) := by have := (hR.link (LowK.lnk hVc)).cell hlq; rw [hcq] at this; exact this
                  have hPr := PtsK.link (LowK.lnk hVc) hPc
                  by_cases he : (cq : Int) = (i : Int)
                  · have hE : ((cq : Int) == (i : Int)) = true := beqt he
                    have HF := Lib.hid (filtP_yes (cls := cls) (L := L) (i := i) (k := q) (by rw [hcq]; omega) (show L.getD q p0 = t from ht))
                    clear he hcq
                    generalize filtP cls L i q = fl at *
                    go_wp2_with (first | (refine wl_loadJ ?_) | (refine wl_load ?_) | (refine wl_loadM ?_) | (refine wl_storeJ ?_) | (refine wl_mapNewP ?_) | (refine wl_mapUpdP (L := ?_) ?_ ?_ ?_ ?_ (ho := .inl rfl); rotate_left 2; exact findGomP; assumption; assumption; intro Wm hMm hTm; have hs := hTm.out.1; (try simp at hs); (try have hOm := OwnK.turnP hTm findGomP findOwn); (try have hVm := LowK.turnP hTm (by assumption) findLow)) | (refine wl_fill1 ?_) | (refine wl_fill2 ?_) | (refine wl_storeM ?_) | (refine wl_makeM ?_; intro gm W' hgm hl hT; have hs := hl.out.size; (try simp at hs)) | (refine wl_store (h1 := mC_one _) ?_) | (refine wl_store ?_) | (refine wl_build ?_) | (refine wl_slice ?_) | (refine wl_append (he := eltSp) ?_; intro v' w' ho hg hb; have hs := hg.size; (try simp at hs)) | (refine wl_append ?_; intro v' w' ho hg hb; have hs := hg.size; (try simp at hs); (try rw [ptCs_end] at ho); (try rw [ints_end] at ho); (try simp only [Nat.zero_add, Nat.reduceAdd, List.nil_append, List.cons_append] at ho)) | ((with_reducible apply region_gd (id := 15)); refine region_QA (id := 15) 15 ?_; apply Exists.intro; refine ⟨fun G => ?_, fun W hl => ?_⟩; (· (simp only [List.take_succ_cons, List.take_zero]; (repeat (first | go_big_quiet_skip | (go_big_quiet_want; first | (refine q_loadJ ?_; simp only [Act.put, List.setIfInBounds_toArray, List.set_cons_zero, List.set_cons_succ]; go_big_quiet_on) | (refine q_mapLookP (L := ?_) (v := ?_) ?_ ?_ ?_ (ho := rfl); rotate_left 3; exact findGomP; exact (show RowKit.Hid _ from by assumption).out; simp only [Act.put, List.setIfInBounds_toArray, List.set_cons_zero, List.set_cons_succ]; go_big_quiet_on) | (refine q_load ?_; simp only [Act.put, List.setIfInBounds_toArray, List.set_cons_zero, List.set_cons_succ]; go_big_quiet_on) | (go_big_quiet_op; first | go_big_quiet_on)))); exact rfl)); have hs := hl.out.size; (try simp at hs); simp only [List.drop_succ_cons, List.drop_zero]))
                    go_roundw
                    case rel => exact ⟨q + 1, by omega, by go_num, by rw [HF.out, List.length_append]; exact ho, findLow, (by first | omega | (simp; omega))⟩
                    case measure => (simp [intOf]; try omega)
                  · have hE : ((cq : Int) == (i : Int)) = false := beqf he
                    have HF := Lib.hid (filtP_no (cls := cls) (L := L) (i := i) (k := q) (by rw [hcq]; omega))
                    clear he hcq
                    go_wp2_with (first | (refine wl_loadJ ?_) | (refine wl_load ?_) | (refine wl_loadM ?_) | (refine wl_storeJ ?_) | (refine wl_mapNewP ?_) | (refine wl_mapUpdP (L := ?_) ?_ ?_ ?_ ?_ (ho := .inl rfl); rotate_left 2; exact findGomP; assumption; assumption; intro Wm hMm hTm; have hs := hTm.out.1; (try simp at hs); (try have hOm := OwnK.turnP hTm findGomP findOwn); (try have hVm := LowK.turnP hTm (by assumption) findLow)) | (refine wl_fill1 ?_) | (refine wl_fill2 ?_) | (refine wl_storeM ?_) | (refine wl_makeM ?_; intro gm W' hgm hl hT; have hs := hl.out.size; (try simp at hs)) | (refine wl_store (h1 := mC_one _) ?_) | (refine wl_store ?_) | (refine wl_build ?_) | (refine wl_slice ?_) | (refine wl_append (he := eltSp) ?_; intro v' w' ho hg hb; have hs := hg.size; (try simp at hs)) | (refine wl_append ?_; intro v' w' ho hg hb; have hs := hg.size; (try simp at hs); (try rw [ptCs_end] at ho); (try rw [ints_end] at ho); (try simp only [Nat.zero_add, Nat.reduceAdd, List.nil_append, List.cons_append] at ho)) | ((with_reducible apply region_gd (id := 15)); refine region_QA (id := 15) 15 ?_; apply Exists.intro; refine ⟨fun G => ?_, fun W hl => ?_⟩; (· (simp only [List.take_succ_cons, List.take_zero]; (repeat (first | go_big_quiet_skip | (go_big_quiet_want; first | (refine q_loadJ ?_; simp only [Act.put, List.setIfInBounds_toArray, List.set_cons_zero, List.set_cons_succ]; go_big_quiet_on) | (refine q_mapLookP (L := ?_) (v := ?_) ?_ ?_ ?_ (ho := rfl); rotate_left 3; exact findGomP; exact (show RowKit.Hid _ from by assumption).out; simp only [Act.put, List.setIfInBounds_toArray, List.set_cons_zero, List.set_cons_succ]; go_big_quiet_on) | (refine q_load ?_; simp only [Act.put, List.setIfInBounds_toArray, List.set_cons_zero, List.set_cons_succ]; go_big_quiet_on) | (go_big_quiet_op; first | go_big_quiet_on)))); exact rfl)); have hs := hl.out.size; (try simp at hs); simp only [List.drop_succ_cons, List.drop_zero]))
                    go_roundw
                    case rel => exact ⟨q + 1, by omega, by go_num, by rw [HF.out]; exact findOwn, findLow, (by first | omega | (simp; omega))⟩
                    case measure => (simp [intOf]; try omega)
                · obtain rfl : N = q := by omega
                  obtain ⟨fl, hfl2⟩ : ∃ fl, filtP cls L i N = fl := ⟨_, rfl⟩
                  rw [hfl2] at hO5 hfl
                  have hO' := hO.link (LowK.lnk hV5)
                  have hT' := hT.link (LowK.lnk hV5)
                  by_cases hpos : 0 < fl.length
                  · have HTL := Lib.hid (tabL_yes hfl2 hpos)
                    obtain ⟨g, cap, rfl, hgl, hgl2, -⟩ := OwnK.pts hO5 rfl hpos
                    have hpos2 : (0 : Int) < (fl.length : Int) := by omega
                    have hTne : Hid (∀ t ∈ T, t.1 ≠ g) := Lib.hid (fun t ht => by have := hT.lt ht; omega)
                    clear hO hT hfl2
                    go_wp2_with (first | (refine wl_loadJ ?_) | (refine wl_load ?_) | (refine wl_loadM ?_) | (refine wl_storeJ ?_) | (refine wl_mapNewP ?_) | (refine wl_mapUpdP (L := ?_) ?_ ?_ ?_ ?_ (ho := .inl rfl); rotate_left 2; exact findGomP; assumption; assumption; intro Wm hMm hTm; have hs := hTm.out.1; (try simp at hs); (try have hOm := OwnK.turnP hTm findGomP findOwn); (try have hVm := LowK.turnP hTm (by assumption) findLow)) | (refine wl_fill1 ?_) | (refine wl_fill2 ?_) | (refine wl_storeM ?_) | (refine wl_makeM ?_; intro gm W' hgm hl hT; have hs := hl.out.size; (try simp at hs)) | (refine wl_store (h1 := mC_one _) ?_) | (refine wl_store ?_) | (refine wl_build ?_) | (refine wl_slice ?_) | (refine wl_append (he := eltSp) ?_; intro v' w' ho hg hb; have hs := hg.size; (try simp at hs)) | (refine wl_append ?_; intro v' w' ho hg hb; have hs := hg.size; (try simp at hs); (try rw [ptCs_end] at ho); (try rw [ints_end] at ho); (try simp only [Nat.zero_add, Nat.reduceAdd, List.nil_append, List.cons_append] at ho)) | ((with_reducible apply region_gd (id := 15)); refine region_QA (id := 15) 15 ?_; apply Exists.intro; refine ⟨fun G => ?_, fun W hl => ?_⟩; (· (simp only [List.take_succ_cons, List.take_zero]; (repeat (first | go_big_quiet_skip | (go_big_quiet_want; first | (refine q_loadJ ?_; simp only [Act.put, List.setIfInBounds_toArray, List.set_cons_zero, List.set_cons_succ]; go_big_quiet_on) | (refine q_mapLookP (L := ?_) (v := ?_) ?_ ?_ ?_ (ho := rfl); rotate_left 3; exact findGomP; exact (show RowKit.Hid _ from by assumption).out; simp only [Act.put, List.setIfInBounds_toArray, List.set_cons_zero, List.set_cons_succ]; go_big_quiet_on) | (refine q_load ?_; simp only [Act.put, List.setIfInBounds_toArray, List.set_cons_zero, List.set_cons_succ]; go_big_quiet_on) | (go_big_quiet_op; first | go_big_quiet_on)))); exact rfl)); have hs := hl.out.size; (try simp at hs); simp only [List.drop_succ_cons, List.drop_zero]))
                    go_roundw
                    case rel => exact ⟨i + 1, T ++ [(g, cap, fl)], by omega, by go_num, by rw [List.map_append, hTL, HTL.out]; rfl, TabK.snoc (TabK.grew hg (hO'.alloc _) (hT'.link (LowK.lnk findLow))) hpos (OwnK.lower (by omega) (OwnK.grew hg (hO5.alloc _) (fun b hb => own_types hO5 hO' (by decide) b hb))) hTne.out, by rw [List.length_append, ← tabV_snoc]; exact ho, findLow, (by first | omega | (simp; omega))⟩
                    case measure => (simp [intOf]; try omega)
                  · have HTL := Lib.hid (tabL_no hfl2 hpos)
                    have hl0 : fl.length = 0 := by omega
                    obtain ⟨bo, cp, rfl⟩ := hO5.form
                    rw [hl0]
                    clear hO hT hfl2 hl0
                    go_wp2_with (first | (refine wl_loadJ ?_) | (refine wl_load ?_) | (refine wl_loadM ?_) | (refine wl_storeJ ?_) | (refine wl_mapNewP ?_) | (refine wl_mapUpdP (L := ?_) ?_ ?_ ?_ ?_ (ho := .inl rfl); rotate_left 2; exact findGomP; assumption; assumption; intro Wm hMm hTm; have hs := hTm.out.1; (try simp at hs); (try have hOm := OwnK.turnP hTm findGomP findOwn); (try have hVm := LowK.turnP hTm (by assumption) findLow)) | (refine wl_fill1 ?_) | (refine wl_fill2 ?_) | (refine wl_storeM ?_) | (refine wl_makeM ?_; intro gm W' hgm hl hT; have hs := hl.out.size; (try simp at hs)) | (refine wl_store (h1 := mC_one _) ?_) | (refine wl_store ?_) | (refine wl_build ?_) | (refine wl_slice ?_) | (refine wl_append (he := eltSp) ?_; intro v' w' ho hg hb; have hs := hg.size; (try simp at hs)) | (refine wl_append ?_; intro v' w' ho hg hb; have hs := hg.size; (try simp at hs); (try rw [ptCs_end] at ho); (try rw [ints_end] at ho); (try simp only [Nat.zero_add, Nat.reduceAdd, List.nil_append, List.cons_append] at ho)) | ((with_reducible apply region_gd (id := 15)); refine region_QA (id := 15) 15 ?_; apply Exists.intro; refine ⟨fun G => ?_, fun W hl => ?_⟩; (· (simp only [List.take_succ_cons, List.take_zero]; (repeat (first | go_big_quiet_skip | (go_big_quiet_want; first | (refine q_loadJ ?_; simp only [Act.put, List.setIfInBounds_toArray, List.set_cons_zero, List.set_cons_succ]; go_big_quiet_on) | (refine q_mapLookP (L := ?_) (v := ?_) ?_ ?_ ?_ (ho := rfl); rotate_left 3; exact findGomP; exact (show RowKit.Hid _ from by assumption).out; simp only [Act.put, List.setIfInBounds_toArray, List.set_cons_zero, List.set_cons_succ]; go_big_quiet_on) | (refine q_load ?_; simp only [Act.put, List.setIfInBounds_toArray, List.set_cons_zero, List.set_cons_succ]; go_big_quiet_on) | (go_big_quiet_op; first | go_big_quiet_on)))); exact rfl)); have hs := hl.out.size; (try simp at hs); simp only [List.drop_succ_cons, List.drop_zero]))
                    go_roundw
                    case rel => exact ⟨i + 1, T, by omega, by go_num, by rw [HTL.out]; exact hTL, hT', hO', findLow, (by first | omega | (simp; omega))⟩
                    case measure => (simp [intOf]; try omega)
            · obtain rfl : N = i := by omega
              obtain ⟨bo, cp, rfl⟩ := hO.form
              go_wp2_with (first | (refine wl_loadJ ?_) | (refine wl_load ?_) | (refine wl_loadM ?_) | (refine wl_storeJ ?_) | (refine wl_mapNewP ?_) | (refine wl_mapUpdP (L := ?_) ?_ ?_ ?_ ?_ (ho := .inl rfl); rotate_left 2; exact findGomP; assumption; assumption; intro Wm hMm hTm; have hs := hTm.out.1; (try simp at hs); (try have hOm := OwnK.turnP hTm findGomP findOwn); (try have hVm := LowK.turnP hTm (by assumption) findLow)) | (refine wl_fill1 ?_) | (refine wl_fill2 ?_) | (refine wl_storeM ?_) | (refine wl_makeM ?_; intro gm W' hgm hl hT; have hs := hl.out.size; (try simp at hs)) | (refine wl_store (h1 := mC_one _) ?_) | (refine wl_store ?_) | (refine wl_build ?_) | (refine wl_slice ?_) | (refine wl_append (he := eltSp) ?_; intro v' w' ho hg hb; have hs := hg.size; (try simp at hs)) | (refine wl_append ?_; intro v' w' ho hg hb; have hs := hg.size; (try simp at hs); (try rw [ptCs_end] at ho); (try rw [ints_end] at ho); (try simp only [Nat.zero_add, Nat.reduceAdd, List.nil_append, List.cons_append] at ho)) | ((with_reducible apply region_gd (id := 15)); refine region_QA (id := 15) 15 ?_; apply Exists.intro; refine ⟨fun G => ?_, fun W hl => ?_⟩; (· (simp only [List.take_succ_cons, List.take_zero]; (repeat (first | go_big_quiet_skip | (go_big_quiet_want; first | (refine q_loadJ ?_; simp only [Act.put, List.setIfInBounds_toArray, List.set_cons_zero, List.set_cons_succ]; go_big_quiet_on) | (refine q_mapLookP (L := ?_) (v := ?_) ?_ ?_ ?_ (ho := rfl); rotate_left 3; exact findGomP; exact (show RowKit.Hid _ from by assumption).out; simp only [Act.put, List.setIfInBounds_toArray, List.set_cons_zero, List.set_cons_succ]; go_big_quiet_on) | (refine q_load ?_; simp only [Act.put, List.setIfInBounds_toArray, List.set_cons_zero, List.set_cons_succ]; go_big_quiet_on) | (go_big_quiet_op; first | go_big_quiet_on)))); exact rfl)); have hs := hl.out.size; (try simp at hs); simp only [List.drop_succ_cons, List.drop_zero]))
              (apply ret_one Try.results31; (conv => lhs; whnf); exact rfl)
              have hwB : w.heap.size ≤ B2 := by have := hVi.size; omega
              exact ⟨_, T, rfl, by rw [HCL.out]; exact hTL, TabK.lower hwB hT, OwnK.lower hwB hO, LowK.link (LowK.lnk hV) hVi⟩
end Go.Proofs.Ytoagfpdicpcjnaa
